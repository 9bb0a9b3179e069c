/-
  format's expr walked.
-/
import Derived.Test.YtmlafcimjhnhhaaDoorJlJpBd
import Derived.Test.YtmlafcimjhnhhaaDoorJlJpAt
set_option linter.unusedSectionVars false
set_option linter.unusedSimpArgs false
set_option linter.unnecessarySimpa false
set_option linter.unusedVariables false
set_option linter.unusedSimpArgs false
set_option linter.unusedVariables false
namespace Go.Proofs.YtmlafcimjhnhhaaDoor
section
open Lx Ax Go.RowKit
attribute [local simp] stepS Ax.stepT Dl.on qstep astep estep rd putE over argE ofV ofS loadA pickCells isAggD faddA fieldA partA iaddA idxA bnd binA intA strA unA convA lenA mapOf lookA findK keyD scalD storeA mupA srcA srcD upd drp Dl.hp Dl.nx CV.cs CV.one buildA placesA fillA zrep tasA ifaceD eqA eqFs eqIs range2 copyA nbeq nble nblt decEq beqI bneI beqS bneS isED Int.ofNat_inj List.getElem?_map List.getElem?_eq_getElem Option.map_some ti_int ti_i64 ti_str ti_bool ti_u8 ti_Strs ti_Bld ti_Prn ti_Bys ti_Exs ti_Ex ti_OpA gd gdB callA resA op1
attribute [local simp] one1 cvE_eq exk exn exo exm exks drR drp nu1 nu2 nu3 nu4 nu5 nu6 nu7 nu8 nu9 nu10 nu11 nu12 nu13 bl_len upd_upd wrp1
theorem fmG_op:fmG 0=.rop [.str [43],.str [45],.str [42],.str [60],.str [61,61]]:=rfl
theorem wr0:IntKind.i64.wrap 0=0:=by decide
theorem wr2:IntKind.i64.wrap 2=2:=by decide
theorem wr3:IntKind.i64.wrap 3=3:=by decide
theorem wr4:IntKind.i64.wrap 4=4:=by decide
theorem sl1 (H:Heap)(a b c d e:CV)(es:List Ex):sliA Tryd.prog H 58 (.lst ([a,b,c,d,e]::es.map cvE)) (some (.int .i64 1)) none=some (.lst (es.map cvE)) :=
 sliA_lo (m:=1) ti_Exs ti_Ex (fun r hr=>by
  rcases List.mem_cons.1 hr with rfl | hr
  ·rfl
  ·obtain⟨x,_,rfl⟩:=List.mem_map.1 hr;exact cvE_len x) (by simp)
attribute [local simp] fmG_op wr0 wr2 wr3 wr4 sl1 bl_max
theorem ident_short {x:Bytes}(h:isIdent x=true):x.length≤1000:=by have:=ident_len h;omega
set_option maxRecDepth 10000 in
set_option maxHeartbeats 8000000 in
theorem fm_e_null :PC 40 [.agg [.int .i64 2,.int .i64 0,.str [],.str [],.lst []]] [[110,117,108,108]]:=by
 intro b c H nx T hT hp;have s0:=PZ.start hp hT (.cells [.int .i64 2,.int .i64 0,.str [],.str [],.lst []]);clear hp hT;refine ACall.of_body Tryd.func40 rfl ?_;refine gU ?_;refine s0.put [[110,117,108,108]] short1 ?_;rintro c1 H1 n1 s1 _;refine gU ?_
 (refine⟨_,(by simp [*];rfl),?_⟩;(try simp only [packA]))
 exact⟨rfl,_,s1.p,s1.f⟩
set_option maxRecDepth 10000 in
set_option maxHeartbeats 8000000 in
theorem fm_e_this :PC 40 [.agg [.int .i64 4,.int .i64 0,.str [],.str [],.lst []]] [[116,104,105,115]]:=by
 intro b c H nx T hT hp;have s0:=PZ.start hp hT (.cells [.int .i64 4,.int .i64 0,.str [],.str [],.lst []]);clear hp hT;refine ACall.of_body Tryd.func40 rfl ?_;refine gU ?_;refine s0.put [[116,104,105,115]] short1 ?_;rintro c1 H1 n1 s1 _;refine gU ?_
 (refine⟨_,(by simp [*];rfl),?_⟩;(try simp only [packA]))
 exact⟨rfl,_,s1.p,s1.f⟩
set_option maxRecDepth 10000 in
set_option maxHeartbeats 8000000 in
theorem fm_e_input :PC 40 [.agg [.int .i64 5,.int .i64 0,.str [],.str [],.lst []]] [[105,110,112,117,116,40,41]]:=by
 intro b c H nx T hT hp;have s0:=PZ.start hp hT (.cells [.int .i64 5,.int .i64 0,.str [],.str [],.lst []]);clear hp hT;refine ACall.of_body Tryd.func40 rfl ?_;refine gU ?_;refine s0.put [[105,110,112,117,116,40,41]] short1 ?_;rintro c1 H1 n1 s1 _;refine gU ?_
 (refine⟨_,(by simp [*];rfl),?_⟩;(try simp only [packA]))
 exact⟨rfl,_,s1.p,s1.f⟩
set_option maxRecDepth 10000 in
set_option maxHeartbeats 8000000 in
theorem fm_e_int {n:Int}(h:-9223372036854775808≤n∧n≤9223372036854775807):PC 40 [.agg [.int .i64 1,.int .i64 n,.str [],.str [],.lst []]] [numText n]:=by
 intro b c H nx T hT hp;have s0:=PZ.start hp hT (.cells [.int .i64 1,.int .i64 n,.str [],.str [],.lst []]);clear hp hT;refine ACall.of_body Tryd.func40 rfl ?_;have hnl:=numText_len h;have hc:=fm_num h;refine gU ?_;refine s0.reg 8 ?_;rintro⟨bl,_⟩;refine gX ?_;refine ASlX.call1 (by first | rfl | (simp [gd,putE,over, *];done)) (by simp [callA, *]) (by kernel_rfl) hc ?_;refine gX ?_;refine s0.putX [numText n] (short1 (by omega)) ?_;rintro c1 H1 n1 s1 ⟨x1,_⟩;refine gX ?_;clear bl s0;refine gU ?_
 (refine⟨_,(by simp [*];rfl),?_⟩;(try simp only [packA]))
 exact⟨rfl,_,s1.p,s1.f⟩
set_option maxRecDepth 10000 in
set_option maxHeartbeats 8000000 in
theorem fm_e_var {x:Bytes}(hx:isIdent x=true):PC 40 [.agg [.int .i64 3,.int .i64 0,.str [],.str x,.lst []]] [x]:=by
 intro b c H nx T hT hp;have s0:=PZ.start hp hT (.cells [.int .i64 3,.int .i64 0,.str [],.str x,.lst []]);clear hp hT;refine ACall.of_body Tryd.func40 rfl ?_;have hxl:=ident_short hx;refine gU ?_;refine s0.reg 7 ?_;rintro⟨bl,_⟩;refine gX ?_;refine s0.putX [x] (short1 hxl) ?_;rintro c1 H1 n1 s1 ⟨x1,_⟩;refine gX ?_;clear bl s0;refine gU ?_
 (refine⟨_,(by simp [*];rfl),?_⟩;(try simp only [packA]))
 exact⟨rfl,_,s1.p,s1.f⟩
set_option maxRecDepth 10000 in
set_option maxHeartbeats 8000000 in
theorem fm_e_new {x:Bytes}(hx:isIdent x=true):PC 40 [.agg [.int .i64 7,.int .i64 0,.str [],.str x,.lst []]] [[110,101,119,32],x,[40,41]]:=by
 intro b c H nx T hT hp;have s0:=PZ.start hp hT (.cells [.int .i64 7,.int .i64 0,.str [],.str x,.lst []]);clear hp hT;refine ACall.of_body Tryd.func40 rfl ?_;have hxl:=ident_short hx;refine gU ?_;refine s0.reg 7 ?_;rintro⟨bl,_⟩;refine gX ?_;refine s0.putX [[110,101,119,32],x,[40,41]] (Short.cons (by decide) (Short.cons hxl short1)) ?_;rintro c1 H1 n1 s1 ⟨x1,_⟩;refine gX ?_;clear bl s0;refine gU ?_
 (refine⟨_,(by simp [*];rfl),?_⟩;(try simp only [packA]))
 exact⟨rfl,_,s1.p,s1.f⟩
set_option maxRecDepth 10000 in
set_option maxHeartbeats 8000000 in
theorem fm_e_bin {op:Int}(h:1≤op∧op≤5){a z:Ex}{lv m2:Int}{psA psB:List Bytes}(hl:FCall1 Tryd.prog fmG 65 [.agg [.int .i64 6,.int .i64 op,.str [],.str [],.lst [[.int .i64 a.kind,.int .i64 a.n,.str a.of,.str a.name,.lst (a.kids.map cvE)],[.int .i64 z.kind,.int .i64 z.n,.str z.of,.str z.name,.lst (z.kids.map cvE)]]]] (.int .i64 lv))(hm:maxI lv 2=m2)(hw:IntKind.i64.wrap (lv+1)=lv+1)(ha:PC 66 [.agg [.int .i64 a.kind,.int .i64 a.n,.str a.of,.str a.name,.lst (a.kids.map cvE)],.int .i64 m2] psA)(hb:PC 66 [.agg [.int .i64 z.kind,.int .i64 z.n,.str z.of,.str z.name,.lst (z.kids.map cvE)],.int .i64 (lv+1)] psB)(hsA:Short psA)(hsB:Short psB):PC 40 [.agg [.int .i64 6,.int .i64 op,.str [],.str [],.lst [[.int .i64 a.kind,.int .i64 a.n,.str a.of,.str a.name,.lst (a.kids.map cvE)],[.int .i64 z.kind,.int .i64 z.n,.str z.of,.str z.name,.lst (z.kids.map cvE)]]]] (psA++[[32],opText op,[32]]++psB):=by
 intro b c H nx T hT hp;have s0:=PZ.start hp hT (.cells [.int .i64 6,.int .i64 op,.str [],.str [],.lst [[.int .i64 a.kind,.int .i64 a.n,.str a.of,.str a.name,.lst (a.kids.map cvE)],[.int .i64 z.kind,.int .i64 z.n,.str z.of,.str z.name,.lst (z.kids.map cvE)]]]);clear hp hT;refine ACall.of_body Tryd.func40 rfl ?_;rw [put_app,put_app];have:op=1∨op=2∨op=3∨op=4∨op=5:=by omega
 clear h;rcases this with rfl | rfl | rfl | rfl | rfl
 ·rw [show opText 1=[43] from rfl];refine gU ?_
  (first | refine AOpl.call1 rfl (by first | rfl | (simp [*];done)) (by simp [*]) (by kernel_rfl) (hl) ?_ | refine ASl.callg (by first | rfl | (simp [*];done)) (by simp [*]) (by kernel_rfl) (hl) ?_)
  refine gU ?_;refine s0.call ha hsA ?_;rintro c1 H1 n1 s1 ⟨x1,_⟩;clear s0;refine gU ?_;refine s1.reg 10 ?_;rintro⟨bl,_⟩;refine gX ?_;refine s1.putX [[32],[43],[32]] (Short.cons (by decide) (Short.cons (by decide) short1)) ?_;rintro c2 H2 n2 s2 ⟨x2,_⟩;refine gX ?_;clear bl s1 x1;refine gU ?_;refine s2.call hb hsB ?_;rintro c3 H3 n3 s3 ⟨x3,_⟩;clear s2 x2;refine gU ?_
  (refine⟨_,(by simp [*];rfl),?_⟩;(try simp only [packA]))
  exact⟨rfl,_,s3.p,s3.f⟩
 ·rw [show opText 2=[45] from rfl];refine gU ?_
  (first | refine AOpl.call1 rfl (by first | rfl | (simp [*];done)) (by simp [*]) (by kernel_rfl) (hl) ?_ | refine ASl.callg (by first | rfl | (simp [*];done)) (by simp [*]) (by kernel_rfl) (hl) ?_)
  refine gU ?_;refine s0.call ha hsA ?_;rintro c1 H1 n1 s1 ⟨x1,_⟩;clear s0;refine gU ?_;refine s1.reg 10 ?_;rintro⟨bl,_⟩;refine gX ?_;refine s1.putX [[32],[45],[32]] (Short.cons (by decide) (Short.cons (by decide) short1)) ?_;rintro c2 H2 n2 s2 ⟨x2,_⟩;refine gX ?_;clear bl s1 x1;refine gU ?_;refine s2.call hb hsB ?_;rintro c3 H3 n3 s3 ⟨x3,_⟩;clear s2 x2;refine gU ?_
  (refine⟨_,(by simp [*];rfl),?_⟩;(try simp only [packA]))
  exact⟨rfl,_,s3.p,s3.f⟩
 ·rw [show opText 3=[42] from rfl];refine gU ?_
  (first | refine AOpl.call1 rfl (by first | rfl | (simp [*];done)) (by simp [*]) (by kernel_rfl) (hl) ?_ | refine ASl.callg (by first | rfl | (simp [*];done)) (by simp [*]) (by kernel_rfl) (hl) ?_)
  refine gU ?_;refine s0.call ha hsA ?_;rintro c1 H1 n1 s1 ⟨x1,_⟩;clear s0;refine gU ?_;refine s1.reg 10 ?_;rintro⟨bl,_⟩;refine gX ?_;refine s1.putX [[32],[42],[32]] (Short.cons (by decide) (Short.cons (by decide) short1)) ?_;rintro c2 H2 n2 s2 ⟨x2,_⟩;refine gX ?_;clear bl s1 x1;refine gU ?_;refine s2.call hb hsB ?_;rintro c3 H3 n3 s3 ⟨x3,_⟩;clear s2 x2;refine gU ?_
  (refine⟨_,(by simp [*];rfl),?_⟩;(try simp only [packA]))
  exact⟨rfl,_,s3.p,s3.f⟩
 ·rw [show opText 4=[60] from rfl];refine gU ?_
  (first | refine AOpl.call1 rfl (by first | rfl | (simp [*];done)) (by simp [*]) (by kernel_rfl) (hl) ?_ | refine ASl.callg (by first | rfl | (simp [*];done)) (by simp [*]) (by kernel_rfl) (hl) ?_)
  refine gU ?_;refine s0.call ha hsA ?_;rintro c1 H1 n1 s1 ⟨x1,_⟩;clear s0;refine gU ?_;refine s1.reg 10 ?_;rintro⟨bl,_⟩;refine gX ?_;refine s1.putX [[32],[60],[32]] (Short.cons (by decide) (Short.cons (by decide) short1)) ?_;rintro c2 H2 n2 s2 ⟨x2,_⟩;refine gX ?_;clear bl s1 x1;refine gU ?_;refine s2.call hb hsB ?_;rintro c3 H3 n3 s3 ⟨x3,_⟩;clear s2 x2;refine gU ?_
  (refine⟨_,(by simp [*];rfl),?_⟩;(try simp only [packA]))
  exact⟨rfl,_,s3.p,s3.f⟩
 ·rw [show opText 5=[61,61] from rfl];refine gU ?_
  (first | refine AOpl.call1 rfl (by first | rfl | (simp [*];done)) (by simp [*]) (by kernel_rfl) (hl) ?_ | refine ASl.callg (by first | rfl | (simp [*];done)) (by simp [*]) (by kernel_rfl) (hl) ?_)
  refine gU ?_;refine s0.call ha hsA ?_;rintro c1 H1 n1 s1 ⟨x1,_⟩;clear s0;refine gU ?_;refine s1.reg 10 ?_;rintro⟨bl,_⟩;refine gX ?_;refine s1.putX [[32],[61,61],[32]] (Short.cons (by decide) (Short.cons (by decide) short1)) ?_;rintro c2 H2 n2 s2 ⟨x2,_⟩;refine gX ?_;clear bl s1 x1;refine gU ?_;refine s2.call hb hsB ?_;rintro c3 H3 n3 s3 ⟨x3,_⟩;clear s2 x2;refine gU ?_
  (refine⟨_,(by simp [*];rfl),?_⟩;(try simp only [packA]))
  exact⟨rfl,_,s3.p,s3.f⟩
set_option maxRecDepth 10000 in
set_option maxHeartbeats 8000000 in
theorem fm_e_field {m:Bytes}(hm:isIdent m=true){a:Ex}{psA:List Bytes}(ha:PC 66 [.agg [.int .i64 a.kind,.int .i64 a.n,.str a.of,.str a.name,.lst (a.kids.map cvE)],.int .i64 4] psA)(hsA:Short psA):PC 40 [.agg [.int .i64 8,.int .i64 0,.str [],.str m,.lst [[.int .i64 a.kind,.int .i64 a.n,.str a.of,.str a.name,.lst (a.kids.map cvE)]]]] (psA++[[46],m]):=by
 intro b c H nx T hT hp;have s0:=PZ.start hp hT (.cells [.int .i64 8,.int .i64 0,.str [],.str m,.lst [[.int .i64 a.kind,.int .i64 a.n,.str a.of,.str a.name,.lst (a.kids.map cvE)]]]);clear hp hT;refine ACall.of_body Tryd.func40 rfl ?_;have hml:=ident_short hm;rw [put_app];refine gU ?_;refine s0.call ha hsA ?_;rintro c1 H1 n1 s1 ⟨x1,_⟩;clear s0;refine gU ?_;refine s1.reg 7 ?_;rintro⟨bl,_⟩;refine gX ?_;refine s1.putX [[46],m] (Short.cons (by decide) (short1 hml)) ?_;rintro c2 H2 n2 s2 ⟨x2,_⟩;refine gX ?_;clear bl s1 x1;refine gU ?_
 (refine⟨_,(by simp [*];rfl),?_⟩;(try simp only [packA]))
 exact⟨rfl,_,s2.p,s2.f⟩
set_option maxRecDepth 10000 in
set_option maxHeartbeats 8000000 in
theorem fm_e_call {m:Bytes}(hm:isIdent m=true){a:Ex}{es:List Ex}{psA psR:List Bytes}(ha:PC 66 [.agg [.int .i64 a.kind,.int .i64 a.n,.str a.of,.str a.name,.lst (a.kids.map cvE)],.int .i64 4] psA)(hsA:Short psA)(hr:PC 67 [.lst (es.map cvE)] psR)(hsR:Short psR):PC 40 [.agg [.int .i64 9,.int .i64 0,.str [],.str m,.lst ([.int .i64 a.kind,.int .i64 a.n,.str a.of,.str a.name,.lst (a.kids.map cvE)]::es.map cvE)]] (psA++[[46],m]++psR):=by
 intro b c H nx T hT hp;have s0:=PZ.start hp hT (.cells [.int .i64 9,.int .i64 0,.str [],.str m,.lst ([.int .i64 a.kind,.int .i64 a.n,.str a.of,.str a.name,.lst (a.kids.map cvE)]::es.map cvE)]);clear hp hT;refine ACall.of_body Tryd.func40 rfl ?_;have hml:=ident_short hm;rw [put_app,put_app];refine gU ?_;refine s0.call ha hsA ?_;rintro c1 H1 n1 s1 ⟨x1,_⟩;clear s0;refine gU ?_;refine s1.reg 7 ?_;rintro⟨bl,_⟩;refine gX ?_;refine s1.putX [[46],m] (Short.cons (by decide) (short1 hml)) ?_;rintro c2 H2 n2 s2 ⟨x2,_⟩;refine gX ?_;clear bl s1 x1;refine gU ?_;refine s2.call hr hsR ?_;rintro c3 H3 n3 s3 ⟨x3,_⟩;clear s2 x2;refine gU ?_
 (refine⟨_,(by simp [*];rfl),?_⟩;(try simp only [packA]))
 exact⟨rfl,_,s3.p,s3.f⟩
set_option maxRecDepth 10000 in
set_option maxHeartbeats 8000000 in
theorem fm_e_static {o m:Bytes}(ho:isIdent o=true)(hm:isIdent m=true){es:List Ex}{psR:List Bytes}(hr:PC 67 [.lst (es.map cvE)] psR)(hsR:Short psR):PC 40 [.agg [.int .i64 10,.int .i64 0,.str o,.str m,.lst (es.map cvE)]] ([o,[58,58],m]++psR):=by
 intro b c H nx T hT hp;have s0:=PZ.start hp hT (.cells [.int .i64 10,.int .i64 0,.str o,.str m,.lst (es.map cvE)]);clear hp hT;refine ACall.of_body Tryd.func40 rfl ?_;have hol:=ident_short ho;have hml:=ident_short hm;rw [put_app];refine gU ?_;refine s0.reg 9 ?_;rintro⟨bl,_⟩;refine gX ?_;refine s0.putX [o,[58,58],m] (Short.cons hol (Short.cons (by decide) (short1 hml))) ?_;rintro c1 H1 n1 s1 ⟨x1,_⟩;refine gX ?_;clear bl s0;refine gU ?_;refine s1.call hr hsR ?_;rintro c2 H2 n2 s2 ⟨x2,_⟩;clear s1 x1;refine gU ?_
 (refine⟨_,(by simp [*];rfl),?_⟩;(try simp only [packA]))
 exact⟨rfl,_,s2.p,s2.f⟩
end
section
open Lx Ax Go.RowKit
namespace Lx
theorem exP_bin (op:Int)(o m:Bytes)(a z:Ex):exP (.mk 6 op o m [a,z])=wthP a (max (levelOf 6 op) 2)++[[32],opText op,[32]]++wthP z (levelOf 6 op+1):=by
 rw [exP];simp [opeP,wthP]
theorem exP_field (n:Int)(o m:Bytes)(a:Ex):exP (.mk 8 n o m [a])=wthP a 4++[[46],m]:=by
 rw [exP];simp [opeP,wthP]
theorem exP_call (n:Int)(o m:Bytes)(a:Ex)(es:List Ex):exP (.mk 9 n o m (a::es))=wthP a 4++[[46],m]++argP es 0:=by
 rw [exP];simp [opeP,wthP,argP]
theorem exP_static (n:Int)(o m:Bytes)(es:List Ex):exP (.mk 10 n o m es)=[o,[58,58],m]++argP es 0:=by
 rw [exP];simp
theorem short_wth {e:Ex}{r:Int}(h:Short (exP e)):Short (wthP e r):=by
 unfold wthP;split
 ·exact ((short1 (s:=[40])).app h).app (short1 (s:=[41]))
 ·exact h
theorem short_arg {es:List Ex}(h:∀ e∈es,Short (exP e)):Short (argP es 0):=by
 rw [argP];exact ((short1 (s:=[40])).app (short_sep h)).app (short1 (s:=[41]))
theorem short_op (n:Int):(opText n).length≤1000:=by
 unfold opText;repeat' split
 all_goals decide
theorem short_exP {e:Ex}(h:WfE e):Short (exP e):=by
 induction h with
 | int n h1 h2 =>
   have:=numText_len (n:=n) ⟨by omega,by omega⟩;rw [exP];simp only [if_true];exact short1 (by omega)
 | null=>rw [exP];exact short1
 | var x hx=>rw [exP];exact short1 (ident_short hx)
 | this=>rw [exP];exact short1
 | input=>rw [exP];exact short1
 | bin op h ha hb h1 h2 =>
   rw [exP_bin];exact ((short_wth h1).app (Short.cons (by decide) (Short.cons (short_op _) short1))).app (short_wth h2)
 | new x hx=>rw [exP];exact Short.cons (by decide) (Short.cons (ident_short hx) short1)
 | field m hm hk h1=>rw [exP_field];exact (short_wth h1).app (Short.cons (by decide) (short1 (ident_short hm)))
 | call m hm hk he h1 h2=>rw [exP_call];exact ((short_wth h1).app (Short.cons (by decide) (short1 (ident_short hm)))).app (short_arg h2)
 | static o m ho hm he h2=>rw [exP_static];exact (Short.cons (ident_short ho) (Short.cons (by decide) (short1 (ident_short hm)))).app (short_arg h2)
theorem level_of (op:Int):1≤levelOf 6 op∧levelOf 6 op≤3:=by
 unfold levelOf;simp only [ne_eq,not_true,if_false];repeat' split
 all_goals omega
end Lx
/-- Lists no longer than an int counts, to the depth d. -/
def LenE:Nat→Ex→Prop
 | 0,_=>False
 | d+1,.mk _ _ _ _ ks=>ks.length≤9223372036854775807∧∀ x∈ks,LenE d x
theorem fm_expr:∀ (d:Nat) (e:Ex),LenE d e→WfE e→PC 40 [.agg (cvE e)] (exP e):=by
 intro d
 induction d with
 | zero=>intro e h;exact h.elim
 | succ d ih =>
   have op:∀ e r,LenE d e→WfE e→PC 66 [.agg [.int .i64 e.kind,.int .i64 e.n,.str e.of,.str e.name,.lst (e.kids.map cvE)],.int .i64 r] (wthP e r):=by
    intro e r h hw;have:=fm_operand e r hw (ih e h hw) (short_exP hw);rwa [cvE_eq] at this
   have ar:∀ es:List Ex,es.length≤9223372036854775807→(∀ e∈es,LenE d e)→(∀ e∈es,WfE e)→PC 67 [.lst (es.map cvE)] (argP es 0):=by
    intro es hl h hw;exact fm_args es hl (fun e he=>ih e (h e he) (hw e he)) (fun e he=>short_exP (hw e he))
   intro e hd hw;rw [cvE_eq];cases hw with
   | int n h1 h2=>rw [exP];exact fm_e_int (n:=n) ⟨by omega,by omega⟩
   | null=>rw [exP];exact fm_e_null
   | var x hx=>rw [exP];exact fm_e_var hx
   | this=>rw [exP];exact fm_e_this
   | input=>rw [exP];exact fm_e_input
   | new x hx=>rw [exP];exact fm_e_new hx
   | @bin o h a z ha hz =>
     obtain⟨hl,hd⟩:=hd;have hl:=fm_level _ (.bin o h ha hz);have hv:=level_of o;rw [cvE_eq] at hl;rw [exP_bin];simp only [Ex.kind,Ex.n,Ex.of,Ex.name,Ex.kids,List.map,cvE_eq a,cvE_eq z] at hl ⊢;exact fm_e_bin h hl (by unfold maxI;split <;> omega) (by rw [IntKind.wrap_i64];omega) (op a _ (hd a (by simp)) ha) (op z _ (hd z (by simp)) hz) (short_wth (short_exP ha)) (short_wth (short_exP hz))
   | @field m hm a ha =>
     obtain⟨hl,hd⟩:=hd;rw [exP_field];simp only [Ex.kind,Ex.n,Ex.of,Ex.name,Ex.kids,List.map,cvE_eq a];exact fm_e_field hm (op a _ (hd a (by simp)) ha) (short_wth (short_exP ha))
   | @call m hm a es ha he =>
     obtain⟨hl,hd⟩:=hd;rw [exP_call];simp only [Ex.kind,Ex.n,Ex.of,Ex.name,Ex.kids,List.map_cons,cvE_eq a];exact fm_e_call hm (op a _ (hd a (by simp)) ha) (short_wth (short_exP ha)) (ar es (by simp at hl;omega) (fun e h=>hd e (List.mem_cons_of_mem _ h)) he) (short_arg fun e h=>short_exP (he e h))
   | @static o m ho hm es he =>
     obtain⟨hl,hd⟩:=hd;rw [exP_static];exact fm_e_static ho hm (ar es hl hd he) (short_arg fun e h=>short_exP (he e h))
end
section
open Lx
namespace Lx
def tbN (n:Nat):List Bytes:=List.replicate n [9]
theorem tbN_text (n:Nat):(tbN n).flatten=tabsOf n:=by
 unfold tbN tabsOf
 induction n with
 | zero=>rfl
 | succ n ih=>rw [List.replicate_succ,List.flatten_cons,ih];rfl
/-- n tabs, for any number that an int holds. -/
def tbP (n:Int):List Bytes:=tbN n.toNat
theorem tbP_text (n:Nat):(tbP n).flatten=tabsOf n:=by unfold tbP;rw [tbN_text];rfl
def exQ (es:List Ex)(i:Nat):List Bytes:=match es[i]? with
 | some e=>exP e
 | none=>[]
theorem exQ_text (es:List Ex)(i:Nat):(exQ es i).flatten=exT es i:=by
 unfold exQ exT;cases es[i]? with
 | none=>rfl
 | some e=>exact exP_text e
mutual
def stP:Int→St→List Bytes
 | n,.mk k nm ty es b el =>
   if k=1 then tbP n++[[118,97,114,32],nm,[58,32],ty]++(if es=[] then [] else [[32,61,32]]++exQ es 0)++[[59,10]]
   else if k=2 then tbP n++[nm,[32,61,32]]++exQ es 0++[[59,10]]
   else if k=3 then tbP n++opeP es 0 4++[[46],nm,[32,61,32]]++exQ es 1++[[59,10]]
   else if k=4 then tbP n++[[105,102,32,40]]++exQ es 0++[[41,32,123,10]]++stsP (IntKind.i64.wrap (n+1)) b++(if el=[] then [] else tbP n++[[125,32,101,108,115,101,32,123,10]]++stsP (IntKind.i64.wrap (n+1)) el)++tbP n++[[125,10]]
   else if k=5 then tbP n++[[119,104,105,108,101,32,40]]++exQ es 0++[[41,32,123,10]]++stsP (IntKind.i64.wrap (n+1)) b++tbP n++[[125,10]]
   else if k=6 then tbP n++[[116,114,121,32,123,10]]++stsP (IntKind.i64.wrap (n+1)) b++tbP n++[[125,32,99,97,116,99,104,32,40],nm,[58,32],ty,[41,32,123,10]]++stsP (IntKind.i64.wrap (n+1)) el++tbP n++[[125,10]]
   else if k=7 then tbP n++[[116,104,114,111,119,32]]++exQ es 0++[[59,10]]
   else if k=8 then tbP n++[[114,101,116,117,114,110]]++(if es=[] then [] else [[32]]++exQ es 0)++[[59,10]]
   else tbP n++exQ es 0++[[59,10]]
def stsP:Int→List St→List Bytes
 | _,[]=>[]
 | n,s::l=>stP n s++stsP n l
end
mutual
/-- How deep statements stand within each other. -/
def stNest:St→Nat
 | .mk _ _ _ _ b el=>max (stsNest b) (stsNest el)+1
def stsNest:List St→Nat
 | []=>0
 | s::l=>max (stNest s) (stsNest l)
end
theorem wrap_up {n:Nat}(h:n<9223372036854775807):IntKind.i64.wrap ((n:Int)+1)=((n+1:Nat):Int):=by rw [IntKind.wrap_i64];omega
mutual
theorem stP_text:∀ (n:Nat) (s:St),n+stNest s≤9223372036854775807→(stP n s).flatten=stText n s
 | n,.mk k nm ty es b el,h=>by
   rw [stNest] at h;rw [stP,stText,wrap_up (by omega)];have q0:=exQ_text es 0;have q1:=exQ_text es 1;have q2:=opeP_text es 0 4;have h1:=stsP_text (n+1) b (by omega);have h2:=stsP_text (n+1) el (by omega);generalize n+1=m at h1 h2 ⊢;have t:=tbP_text n;split;· split <;> simp [q0,t]
   split;· simp [q0,t]
   split;· simp [q1,q2,t]
   split;· split <;> simp [q0,h1,h2,t]
   split;· simp [q0,h1,t]
   split;· simp [h1,h2,t]
   split;· simp [q0,t]
   split;· split <;> simp [q0,t]
   simp [q0,t]
theorem stsP_text:∀ (n:Nat) (l:List St),n+stsNest l≤9223372036854775807→(stsP n l).flatten=stsText n l
 | _,[],_=>by rw [stsP,stsText];rfl
 | n,s::l,h=>by
   rw [stsNest] at h;rw [stsP,stsText,List.flatten_append,stP_text n s (by omega),stsP_text n l (by omega)]
end
def fldP (f:Fld):List Bytes:=[f.name,[58,32],f.typ]
def parP:List Fld→List Bytes
 | []=>[]
 | [f]=>fldP f
 | f::l=>fldP f++[[44,32]]++parP l
theorem parP_text:∀ l:List Fld,(parP l).flatten=parText l
 | []=>rfl
 | [f]=>by simp [parP,parText,fldP,fldText]
 | f::g::l=>by rw [parP,parText] <;> simp [parP_text (g::l),fldP,fldText]
end Lx
end
section
open Lx Ax Go.RowKit
attribute [local simp] stepS Ax.stepT Dl.on qstep astep estep rd putE over argE ofV ofS loadA pickCells isAggD faddA fieldA partA iaddA idxA bnd binA intA strA unA convA lenA mapOf lookA findK keyD scalD storeA mupA srcA srcD upd drp Dl.hp Dl.nx CV.cs CV.one buildA placesA fillA zrep tasA ifaceD eqA eqFs eqIs range2 copyA nbeq nble nblt decEq beqI bneI beqS bneS isED Int.ofNat_inj List.getElem?_map List.getElem?_eq_getElem Option.map_some ti_int ti_i64 ti_str ti_bool ti_u8 ti_Strs ti_Bld ti_Prn ti_Bys gd gdB callA resA op1
attribute [local simp] one1 drR drp nu1 nu2 nu3 nu4 nu5 nu6 nu7 nu8 nu9 nu10 nu11 nu12 nu13 bl_len upd_upd wrp1
theorem tbN_succ (T:Bytes)(n:Nat):put T (tbN (n+1))=put (put T (tbN n)) [[9]]:=by
 rw [← put_app];unfold tbN;rw [List.replicate_succ']
theorem short_tn (n:Nat):Short (tbN n):=fun s hs=>by
 obtain⟨_,rfl⟩:=List.mem_replicate.1 hs;decide
theorem short_tb (n:Int):Short (tbP n):=short_tn _
set_option maxRecDepth 10000 in
set_option maxHeartbeats 8000000 in
theorem fm_tabs (n:Int)(hn:n≤9223372036854775807):PC 50 [.int .i64 n] (tbP n):=by
 intro b c H nx T hT hp;refine ACall.of_body Tryd.func50 rfl ?_;refine gV ?_;refine AWp.countO n.toNat [5] 6 (fun i v H1 nx1=>v 5=.int .i64 i∧∃ c',PrAt b c' H1 nx1 (put T (tbN i))∧Pf b c H nx c' H1 nx1) ⟨by simp [putE,over],c,hp,Pf.refl _ _ _ _⟩ ?_;rintro i v H1 nx1 hi hn1 ⟨h5,c1,p1,f1⟩
 by_cases hb:i<n.toNat
 ·have hwi:=up1 hb (by omega);have t1:=put_len hT (short_tn i);have hsu:=tbN_succ T i;have hb':(i:Int)<n:=by omega
  clear hn1 hp;refine gV ?_;refine AOpl.put [[9]] (p1.at _ (Nat.le_refl _) (by omega)) (OwnB.newAt p1 _ (Nat.le_refl _) (by omega)) t1 short1 ?_;intro c2 H2 n2 p2 f2;refine gV ?_;exact⟨by ((repeat (first | exact Keeps.base _ _ _ _ | (with_reducible exact Keeps.refl _ _ _) | (refine Keeps.put rfl ?_) | (refine Keeps.over' rfl rfl ?_)))),hb,by simp [putE,over],c2,by rw [hsu];exact p2,(f1.at _ (Nat.le_refl _) (Nat.lt_succ_self _)).trans f2⟩
 ·have hb2:¬ (i:Int)<n:=by omega
  have p2:PrAt b c1 H1 nx1 (put T (tbP n)):=by unfold tbP;rw [show n.toNat=i by omega];exact p1
  clear hn1 hp hb hi p1;refine gV ?_
  (refine⟨_,(by simp [*];rfl),?_⟩;(try simp only [packA]))
  exact⟨rfl,c1,p2,f1⟩
end
section
open Lx Ax Go.RowKit
attribute [local simp] stepS Ax.stepT Dl.on qstep astep estep rd putE over argE ofV ofS loadA pickCells isAggD faddA fieldA partA iaddA idxA bnd binA intA strA unA convA lenA mapOf lookA findK keyD scalD storeA mupA srcA srcD upd drp Dl.hp Dl.nx CV.cs CV.one buildA placesA fillA zrep tasA ifaceD eqA eqFs eqIs range2 copyA nbeq nble nblt decEq beqI bneI beqS bneS isED Int.ofNat_inj List.getElem?_map List.getElem?_eq_getElem Option.map_some ti_int ti_i64 ti_str ti_bool ti_u8 ti_Strs ti_Bld ti_Prn ti_Bys ti_Exs ti_Ex ti_St ti_Sts gd gdB callA resA op1
attribute [local simp] one1 cvE_eq exk exn exo exm exks drR drp nu1 nu2 nu3 nu4 nu5 nu6 nu7 nu8 nu9 nu10 nu11 nu12 nu13 bl_len upd_upd wrp1
set_option maxRecDepth 10000 in
set_option maxHeartbeats 8000000 in
theorem fm_n_if0 (n:Int)(hn:n≤9223372036854775807){a:Ex}{psA:List Bytes}(ha:PC 40 [.agg [.int .i64 a.kind,.int .i64 a.n,.str a.of,.str a.name,.lst (a.kids.map cvE)]] psA)(hsA:Short psA){bs:List (List CV)}{psB:List Bytes}(hB:PC 51 [.lst bs,.int .i64 (IntKind.i64.wrap (n+1))] psB)(hsB:Short psB)(hL:PC 51 [.lst [],.int .i64 (IntKind.i64.wrap (n+1))] []):PC 75 [.agg [.int .i64 4,.str [],.str [],.lst [[.int .i64 a.kind,.int .i64 a.n,.str a.of,.str a.name,.lst (a.kids.map cvE)]],.lst bs,.lst []],.int .i64 n] ([[105,102,32,40]]++psA++[[41,32,123,10]]++psB++[]++tbP n++[[125,10]]):=by
 intro b c H nx T hT hp;have s0:=PZ.start hp hT (.cells [.int .i64 4,.str [],.str [],.lst [[.int .i64 a.kind,.int .i64 a.n,.str a.of,.str a.name,.lst (a.kids.map cvE)]],.lst bs,.lst []]);clear hp hT;simp only [put_app];refine ACall.of_body Tryd.func75 rfl ?_;refine gU ?_;refine s0.put [[105,102,32,40]] (Short.cons (a:=[105,102,32,40]) (by decide) Short.nil) ?_;rintro c1 H1 n1 s1 ⟨x1,_⟩;clear s0;refine gU ?_;refine s1.call (ha) hsA ?_;rintro c2 H2 n2 s2 ⟨x2,_⟩;clear s1 x1;refine gU ?_;refine s2.put [[41,32,123,10]] (Short.cons (a:=[41,32,123,10]) (by decide) Short.nil) ?_;rintro c3 H3 n3 s3 ⟨x3,_⟩;clear s2 x2;refine gU ?_;refine s3.call (hB) hsB ?_;rintro c4 H4 n4 s4 ⟨x4,_⟩;clear s3 x3;refine gU ?_;refine s4.call (hL) Short.nil ?_;rintro c5 H5 n5 s5 ⟨x5,_⟩;clear s4 x4;refine gU ?_;refine s5.call (fm_tabs n hn) (short_tb n) ?_;rintro c6 H6 n6 s6 ⟨x6,_⟩;clear s5 x5;refine gU ?_;refine s6.put [[125,10]] (Short.cons (a:=[125,10]) (by decide) Short.nil) ?_;rintro c7 H7 n7 s7 ⟨x7,_⟩;clear s6 x6;refine gU ?_
 (refine⟨_,(by simp [*];rfl),?_⟩;(try simp only [packA]))
 exact⟨rfl,_,s7.p,s7.f⟩
set_option maxRecDepth 10000 in
set_option maxHeartbeats 8000000 in
theorem fm_n_if1 (n:Int)(hn:n≤9223372036854775807){a:Ex}{psA:List Bytes}(ha:PC 40 [.agg [.int .i64 a.kind,.int .i64 a.n,.str a.of,.str a.name,.lst (a.kids.map cvE)]] psA)(hsA:Short psA){bs:List (List CV)}{psB:List Bytes}(hB:PC 51 [.lst bs,.int .i64 (IntKind.i64.wrap (n+1))] psB)(hsB:Short psB){el:List (List CV)}{psL:List Bytes}(hL:PC 51 [.lst el,.int .i64 (IntKind.i64.wrap (n+1))] psL)(hsL:Short psL)(hel:0<el.length):PC 75 [.agg [.int .i64 4,.str [],.str [],.lst [[.int .i64 a.kind,.int .i64 a.n,.str a.of,.str a.name,.lst (a.kids.map cvE)]],.lst bs,.lst el],.int .i64 n] ([[105,102,32,40]]++psA++[[41,32,123,10]]++psB++tbP n++[[125,32,101,108,115,101,32,123,10]]++psL++tbP n++[[125,10]]):=by
 intro b c H nx T hT hp;have s0:=PZ.start hp hT (.cells [.int .i64 4,.str [],.str [],.lst [[.int .i64 a.kind,.int .i64 a.n,.str a.of,.str a.name,.lst (a.kids.map cvE)]],.lst bs,.lst el]);clear hp hT;have hel2:(0:Int)<(el.length:Int):=by omega
 simp only [put_app];refine ACall.of_body Tryd.func75 rfl ?_;refine gU ?_;refine s0.put [[105,102,32,40]] (Short.cons (a:=[105,102,32,40]) (by decide) Short.nil) ?_;rintro c1 H1 n1 s1 ⟨x1,_⟩;clear s0;refine gU ?_;refine s1.call (ha) hsA ?_;rintro c2 H2 n2 s2 ⟨x2,_⟩;clear s1 x1;refine gU ?_;refine s2.put [[41,32,123,10]] (Short.cons (a:=[41,32,123,10]) (by decide) Short.nil) ?_;rintro c3 H3 n3 s3 ⟨x3,_⟩;clear s2 x2;refine gU ?_;refine s3.call (hB) hsB ?_;rintro c4 H4 n4 s4 ⟨x4,_⟩;clear s3 x3;refine gU ?_;refine s4.call (fm_tabs n hn) (short_tb n) ?_;rintro c5 H5 n5 s5 ⟨x5,_⟩;clear s4 x4;refine gU ?_;refine s5.put [[125,32,101,108,115,101,32,123,10]] (Short.cons (a:=[125,32,101,108,115,101,32,123,10]) (by decide) Short.nil) ?_;rintro c6 H6 n6 s6 ⟨x6,_⟩;clear s5 x5;refine gU ?_;refine s6.call (hL) hsL ?_;rintro c7 H7 n7 s7 ⟨x7,_⟩;clear s6 x6;refine gU ?_;refine s7.call (fm_tabs n hn) (short_tb n) ?_;rintro c8 H8 n8 s8 ⟨x8,_⟩;clear s7 x7;refine gU ?_;refine s8.put [[125,10]] (Short.cons (a:=[125,10]) (by decide) Short.nil) ?_;rintro c9 H9 n9 s9 ⟨x9,_⟩;clear s8 x8;refine gU ?_
 (refine⟨_,(by simp [*];rfl),?_⟩;(try simp only [packA]))
 exact⟨rfl,_,s9.p,s9.f⟩
set_option maxRecDepth 10000 in
set_option maxHeartbeats 8000000 in
theorem fm_n_while (n:Int)(hn:n≤9223372036854775807){a:Ex}{psA:List Bytes}(ha:PC 40 [.agg [.int .i64 a.kind,.int .i64 a.n,.str a.of,.str a.name,.lst (a.kids.map cvE)]] psA)(hsA:Short psA){bs:List (List CV)}{psB:List Bytes}(hB:PC 51 [.lst bs,.int .i64 (IntKind.i64.wrap (n+1))] psB)(hsB:Short psB)(hL:PC 51 [.lst [],.int .i64 (IntKind.i64.wrap (n+1))] []):PC 75 [.agg [.int .i64 5,.str [],.str [],.lst [[.int .i64 a.kind,.int .i64 a.n,.str a.of,.str a.name,.lst (a.kids.map cvE)]],.lst bs,.lst []],.int .i64 n] ([[119,104,105,108,101,32,40]]++psA++[[41,32,123,10]]++psB++[]++tbP n++[[125,10]]):=by
 intro b c H nx T hT hp;have s0:=PZ.start hp hT (.cells [.int .i64 5,.str [],.str [],.lst [[.int .i64 a.kind,.int .i64 a.n,.str a.of,.str a.name,.lst (a.kids.map cvE)]],.lst bs,.lst []]);clear hp hT;simp only [put_app];refine ACall.of_body Tryd.func75 rfl ?_;refine gU ?_;refine s0.put [[119,104,105,108,101,32,40]] (Short.cons (a:=[119,104,105,108,101,32,40]) (by decide) Short.nil) ?_;rintro c1 H1 n1 s1 ⟨x1,_⟩;clear s0;refine gU ?_;refine s1.call (ha) hsA ?_;rintro c2 H2 n2 s2 ⟨x2,_⟩;clear s1 x1;refine gU ?_;refine s2.put [[41,32,123,10]] (Short.cons (a:=[41,32,123,10]) (by decide) Short.nil) ?_;rintro c3 H3 n3 s3 ⟨x3,_⟩;clear s2 x2;refine gU ?_;refine s3.call (hB) hsB ?_;rintro c4 H4 n4 s4 ⟨x4,_⟩;clear s3 x3;refine gU ?_;refine s4.call (hL) Short.nil ?_;rintro c5 H5 n5 s5 ⟨x5,_⟩;clear s4 x4;refine gU ?_;refine s5.call (fm_tabs n hn) (short_tb n) ?_;rintro c6 H6 n6 s6 ⟨x6,_⟩;clear s5 x5;refine gU ?_;refine s6.put [[125,10]] (Short.cons (a:=[125,10]) (by decide) Short.nil) ?_;rintro c7 H7 n7 s7 ⟨x7,_⟩;clear s6 x6;refine gU ?_
 (refine⟨_,(by simp [*];rfl),?_⟩;(try simp only [packA]))
 exact⟨rfl,_,s7.p,s7.f⟩
set_option maxRecDepth 10000 in
set_option maxHeartbeats 8000000 in
theorem fm_n_try (n:Int)(hn:n≤9223372036854775807){nm:Bytes}(hnm:nm.length≤1000){ty:Bytes}(hty:ty.length≤1000){bs:List (List CV)}{psB:List Bytes}(hB:PC 51 [.lst bs,.int .i64 (IntKind.i64.wrap (n+1))] psB)(hsB:Short psB){el:List (List CV)}{psL:List Bytes}(hL:PC 51 [.lst el,.int .i64 (IntKind.i64.wrap (n+1))] psL)(hsL:Short psL):PC 75 [.agg [.int .i64 6,.str nm,.str ty,.lst [],.lst bs,.lst el],.int .i64 n] ([[116,114,121,32,123,10]]++psB++tbP n++[[125,32,99,97,116,99,104,32,40],nm,[58,32],ty,[41,32,123,10]]++psL++tbP n++[[125,10]]):=by
 intro b c H nx T hT hp;have s0:=PZ.start hp hT (.cells [.int .i64 6,.str nm,.str ty,.lst [],.lst bs,.lst el]);clear hp hT;simp only [put_app];refine ACall.of_body Tryd.func75 rfl ?_;refine gU ?_;refine s0.put [[116,114,121,32,123,10]] (Short.cons (a:=[116,114,121,32,123,10]) (by decide) Short.nil) ?_;rintro c1 H1 n1 s1 ⟨x1,_⟩;clear s0;refine gU ?_;refine s1.call (hB) hsB ?_;rintro c2 H2 n2 s2 ⟨x2,_⟩;clear s1 x1;refine gU ?_;refine s2.call (fm_tabs n hn) (short_tb n) ?_;rintro c3 H3 n3 s3 ⟨x3,_⟩;clear s2 x2;refine gU ?_;refine s3.reg 9 ?_;rintro⟨bl,_⟩;refine gX ?_;refine s3.putX [[125,32,99,97,116,99,104,32,40],nm,[58,32],ty,[41,32,123,10]] (Short.cons (a:=[125,32,99,97,116,99,104,32,40]) (by decide) (Short.cons (a:=nm) hnm (Short.cons (a:=[58,32]) (by decide) (Short.cons (a:=ty) hty (Short.cons (a:=[41,32,123,10]) (by decide) Short.nil))))) ?_;rintro c4 H4 n4 s4 ⟨x4,_⟩;refine gX ?_;clear s3 x3 bl;refine gU ?_;refine s4.call (hL) hsL ?_;rintro c5 H5 n5 s5 ⟨x5,_⟩;clear s4 x4;refine gU ?_;refine s5.call (fm_tabs n hn) (short_tb n) ?_;rintro c6 H6 n6 s6 ⟨x6,_⟩;clear s5 x5;refine gU ?_;refine s6.put [[125,10]] (Short.cons (a:=[125,10]) (by decide) Short.nil) ?_;rintro c7 H7 n7 s7 ⟨x7,_⟩;clear s6 x6;refine gU ?_
 (refine⟨_,(by simp [*];rfl),?_⟩;(try simp only [packA]))
 exact⟨rfl,_,s7.p,s7.f⟩
end
end Go.Proofs.YtmlafcimjhnhhaaDoor
