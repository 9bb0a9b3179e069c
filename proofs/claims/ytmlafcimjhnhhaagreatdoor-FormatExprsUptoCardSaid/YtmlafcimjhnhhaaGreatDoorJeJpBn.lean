/-
  Plain Lean: how long the texts of PlainProgram are.
-/
import Derived.Test.YtmlafcimjhnhhaaGreatDoorJeJpAt
import Derived.Test.YtmlafcimjhnhhaaGreatDoorJeJpBm
import Derived.Test.YtmlafcimjhnhhaaGreatDoorJeJpAs
import Derived.Test.YtmlafcimjhnhhaaGreatDoorJeJpBh
set_option linter.unusedSectionVars false
set_option linter.unusedSimpArgs false
set_option linter.unnecessarySimpa false
set_option linter.unusedVariables false
set_option linter.unusedSimpArgs false
set_option linter.unusedVariables false
namespace Go.Proofs.YtmlafcimjhnhhaaGreatDoor
section
open Lx
namespace Lx
theorem ident_len {x:Bytes}(h:isIdent x=true):x.length≤32:=by
 cases x with
 | nil=>simp
 | cons c t =>
   simp only [isIdent,Bool.and_eq_true,decide_eq_true_eq] at h;simp only [List.length_cons];omega
theorem digits_len:∀ f n,(digitsOf f n).length≤f:=by
 intro f
 induction f with
 | zero=>intro n;simp [digitsOf]
 | succ f ih =>
   intro n;unfold digitsOf;split
   ·simp
   ·have:=ih (n / 10);simp;omega
theorem opText_len (n:Int):(opText n).length≤2:=by unfold opText;split;simp;split;simp;split;simp;split <;> simp
end Lx
end
section
open Lx
namespace Lx
mutual
def exP:Ex→List Bytes
 | .mk k n o m ks =>
   if k=1 then [numText n] else if k=2 then [[110,117,108,108]] else if k=3 then [m] else if k=4 then [[116,104,105,115]] else if k=5 then [[105,110,112,117,116,40,41]]
   else if k=7 then [[110,101,119,32],m,[40,41]]
   else if k=8 then opeP ks 0 4++[[46],m]
   else if k=9 then opeP ks 0 4++[[46],m]++argP ks 1
   else if k=10 then [o,[58,58],m]++argP ks 0
   else opeP ks 0 (max (levelOf k n) 2)++[[32],opText n,[32]]++opeP ks 1 (levelOf k n+1)
/-- The pieces of kid i at a place that requires a level. -/
def opeP:List Ex→Nat→Int→List Bytes
 | [],_,_=>[]
 | e::_,0,r=>if levelOf e.kind e.n<r then [[40]]++exP e++[[41]] else exP e
 | _::l,i+1,r=>opeP l i r
def argP:List Ex→Nat→List Bytes
 | l,0=>[[40]]++sepP l++[[41]]
 | [],_=>[[40],[41]]
 | _::l,i+1=>argP l i
def sepP:List Ex→List Bytes
 | []=>[]
 | [e]=>exP e
 | e::l=>exP e++[[44,32]]++sepP l
end
mutual
theorem exP_text:∀ e:Ex,(exP e).flatten=exText e
 | .mk k n o m ks=>by
   rw [exP,exText];have a:=opeP_text ks;have b:=argP_text ks;split;· simp
   split;· simp
   split;· simp
   split;· simp
   split;· simp
   split;· simp
   split;· simp [a]
   split;· simp [a,b]
   split;· simp [b]
   simp [a]
theorem opeP_text:∀ (l:List Ex) (i:Nat) (r:Int),(opeP l i r).flatten=withinAt l i r
 | [],_,_=>by rw [opeP,withinAt];rfl
 | e::l,0,r=>by rw [opeP,withinAt];split <;> simp [exP_text e]
 | e::l,i+1,r=>by rw [opeP,withinAt];exact opeP_text l i r
theorem argP_text:∀ (l:List Ex) (i:Nat),(argP l i).flatten=argsFrom l i
 | l,0=>by rw [argP,argsFrom];simp [sepP_text l]
 | [],i+1=>by rw [argP,argsFrom] <;> simp
 | _::l,i+1=>by rw [argP,argsFrom];exact argP_text l i
theorem sepP_text:∀ l:List Ex,(sepP l).flatten=sepText l
 | []=>by rw [sepP,sepText];rfl
 | [e]=>by rw [sepP,sepText];exact exP_text e
 | e::f::l=>by rw [sepP,sepText] <;> simp [exP_text e,sepP_text (f::l)]
end
/-- Pieces that are not long. -/
def Short (l:List Bytes):Prop:=∀ s∈l,s.length≤1000
theorem Short.app {a b:List Bytes}(h:Short a)(h2:Short b):Short (a++b):=fun s hs=>by
 rcases List.mem_append.1 hs with hs | hs
 ·exact h s hs
 ·exact h2 s hs
theorem Short.cons {a:Bytes}{b:List Bytes}(h:a.length≤1000)(h2:Short b):Short (a::b):=fun s hs=>by
 rcases List.mem_cons.1 hs with rfl | hs
 ·exact h
 ·exact h2 s hs
theorem Short.nil:Short []:=fun s hs=>by cases hs
end Lx
end
section
open Lx Ax Go.RowKit
attribute [local simp] stepS Ax.stepT Dl.on qstep astep estep rd putE over argE ofV ofS loadA pickCells isAggD faddA fieldA partA iaddA idxA sliA bnd binA intA strA unA convA lenA mapOf lookA findK keyD scalD storeA mupA srcA srcD upd drp Dl.hp Dl.nx CV.cs CV.one buildA placesA fillA zrep tasA ifaceD eqA eqFs eqIs range2 copyA nbeq nble nblt decEq beqI bneI beqS bneS isED Int.ofNat_inj List.getElem?_map List.getElem?_eq_getElem Option.map_some ti_int ti_i64 ti_str ti_bool ti_u8 ti_Strs ti_Bld ti_Prn ti_Bys ti_Exs ti_Ex gd gdB callA resA op1
attribute [local simp] one1 cvE_eq exk exn exo exm exks drR drp nu1 nu2 nu3 nu4 nu5 nu6 nu7 nu8 nu9 nu10 nu11 nu12 nu13 bl_len
set_option maxRecDepth 10000 in
set_option maxHeartbeats 4000000 in
theorem fm_level (e:Ex)(hw:WfE e):FCall1 Tryz.prog fmG 39 [.agg (cvE e)] (.int .i64 (levelOf e.kind e.n)):=by
 refine FCall.one fmG_pu (by simp only [puL,puV,puE];rfl) rfl ?_;refine FCall.ofBody Tryz.func39 rfl rfl fun nx=>?_
 cases hw with
 | @bin op h a b ha hb =>
   have:op=1∨op=2∨op=3∨op=4∨op=5:=by omega
   clear h;rcases this with rfl | rfl | rfl | rfl | rfl
   all_goals
    refine gV ?_
    (refine⟨_,(by simp [*];rfl),?_⟩;(try simp only [packA]))
    rfl
 | int n h1 h2=>refine gV ?_;(refine⟨_,(by simp [*];rfl),?_⟩;(try simp only [packA]));rfl
 | null=>refine gV ?_;(refine⟨_,(by simp [*];rfl),?_⟩;(try simp only [packA]));rfl
 | var x hx=>refine gV ?_;(refine⟨_,(by simp [*];rfl),?_⟩;(try simp only [packA]));rfl
 | this=>refine gV ?_;(refine⟨_,(by simp [*];rfl),?_⟩;(try simp only [packA]));rfl
 | input=>refine gV ?_;(refine⟨_,(by simp [*];rfl),?_⟩;(try simp only [packA]));rfl
 | new x hx=>refine gV ?_;(refine⟨_,(by simp [*];rfl),?_⟩;(try simp only [packA]));rfl
 | field m hm hk=>refine gV ?_;(refine⟨_,(by simp [*];rfl),?_⟩;(try simp only [packA]));rfl
 | call m hm hk he=>refine gV ?_;(refine⟨_,(by simp [*];rfl),?_⟩;(try simp only [packA]));rfl
 | static o m ho hm he=>refine gV ?_;(refine⟨_,(by simp [*];rfl),?_⟩;(try simp only [packA]));rfl
theorem short1 {s:Bytes}(h:s.length≤1000:=by decide):Short [s]:=Short.cons h Short.nil
set_option maxRecDepth 10000 in
set_option maxHeartbeats 4000000 in
theorem fm_operand0 (ce:List CV)(k n:Int)(o m:Bytes)(ks:List (List CV))(hce:ce=[.int .i64 k,.int .i64 n,.str o,.str m,.lst ks])(lv r:Int)(ps:List Bytes)(hl:FCall1 Tryz.prog fmG 39 [.agg ce] (.int .i64 lv))(hE:PC 16 [.agg ce] ps)(hs:Short ps):PC 40 [.agg ce,.int .i64 r] (if lv<r then [[40]]++ps++[[41]] else ps):=by
 subst hce;intro b c H nx T hT hp;refine ACall.of_body Tryz.func40 rfl ?_;obtain⟨B,hB⟩:∃ B,B=CB.cells [.int .i64 k,.int .i64 n,.str o,.str m,.lst ks]:=⟨_,rfl⟩;have p0:=hp.at (n':=nx+1) B (Nat.le_refl _) (by omega);have o0:=OwnB.newAt hp B (Nat.le_refl _) (show nx<nx+1 by omega);have f0:=(Pf.refl b c H nx).at B (Nat.le_refl _) (show nx<nx+1 by omega);have t1:=put_len hT (short1 (s:=[40]));have t2:=put_len t1 hs
 by_cases hb:lv<r
 ·rw [if_pos hb,put_app,put_app];have hb':¬ r≤lv:=by omega
  clear hb;subst hB;refine gV ?_
  (first | refine AOpl.call1 rfl (by first | rfl | (simp [*];done)) (by simp [*]) (by kernel_rfl) (hl) ?_ | refine ASl.callg (by first | rfl | (simp [*];done)) (by simp [*]) (by kernel_rfl) (hl) ?_)
  refine gV ?_;refine AOpl.put [[40]] (p0.at _ (Nat.le_refl _) (by omega)) (OwnB.newAt p0 _ (Nat.le_refl _) (by omega)) hT short1 ?_;intro c1 H1 n1 p1 f1;have bx:=(o0.at2 (.cells [.str [40]]) (Nat.le_refl _) (show nx+1<nx+1+1 by omega)).call f1;have f2:=(f0.at (.cells [.str [40]]) (Nat.le_refl _) (show nx+1<nx+1+1 by omega)).trans f1;have hx1:=bx.at';clear f1;refine gV ?_;refine AOpl.callP (hE b c1 _ _ _ t1 p1) ?_;intro c2 H2 n2 p2 f3;refine gV ?_;refine AOpl.put [[41]] (p2.at _ (Nat.le_refl _) (by omega)) (OwnB.newAt p2 _ (Nat.le_refl _) (by omega)) t2 short1 ?_;intro c3 H3 n3 p3 f4;refine gV ?_
  (refine⟨_,(by simp [*];rfl),?_⟩;(try simp only [packA]))
  exact⟨rfl,c3,p3,(f2.trans f3).trans ((Pf.refl _ _ _ _).at _ (Nat.le_refl _) (by omega) |>.trans f4)⟩
 ·rw [if_neg hb];have hb':r≤lv:=by omega
  have hb2:lv ≥ r:=by omega
  clear hb;subst hB;refine gV ?_
  (first | refine AOpl.call1 rfl (by first | rfl | (simp [*];done)) (by simp [*]) (by kernel_rfl) (hl) ?_ | refine ASl.callg (by first | rfl | (simp [*];done)) (by simp [*]) (by kernel_rfl) (hl) ?_)
  refine gV ?_;refine AOpl.callP (hE b c _ _ _ hT p0) ?_;intro c1 H1 n1 p1 f1;refine gV ?_
  (refine⟨_,(by simp [*];rfl),?_⟩;(try simp only [packA]))
  exact⟨rfl,c1,p1,f0.trans f1⟩
/-- The pieces of an operand. -/
def wthP (e:Ex)(r:Int):List Bytes:=if levelOf e.kind e.n<r then [[40]]++exP e++[[41]] else exP e
theorem fm_operand (e:Ex)(r:Int)(hw:WfE e)(hE:PC 16 [.agg (cvE e)] (exP e))(hs:Short (exP e)):PC 40 [.agg (cvE e),.int .i64 r] (wthP e r) :=
 fm_operand0 _ _ _ _ _ _ (cvE_eq e) _ r _ (fm_level e hw) hE hs
end
section
open Lx Ax Go.RowKit
attribute [local simp] stepS Ax.stepT Dl.on qstep astep estep rd putE over argE ofV ofS loadA pickCells isAggD faddA fieldA partA iaddA idxA sliA bnd binA intA strA unA convA lenA mapOf lookA findK keyD scalD storeA mupA srcA srcD upd drp Dl.hp Dl.nx CV.cs CV.one buildA placesA fillA zrep tasA ifaceD eqA eqFs eqIs range2 copyA nbeq nble nblt decEq beqI bneI beqS bneS isED Int.ofNat_inj List.getElem?_map List.getElem?_eq_getElem Option.map_some ti_int ti_i64 ti_str ti_bool ti_u8 ti_Strs ti_Bld ti_Prn ti_Bys ti_Exs ti_Ex gd gdB callA resA op1
attribute [local simp] one1 cvE_eq exk exn exo exm exks drR drp nu1 nu2 nu3 nu4 nu5 nu6 nu7 nu8 nu9 nu10 nu11 nu12 nu13 bl_len
theorem wrp1:IntKind.i64.wrap 1=1:=by decide
attribute [local simp] upd_upd wrp1
namespace Lx
theorem Short.left {a b:List Bytes}(h:Short (a++b)):Short a:=fun s hs=>h s (List.mem_append.2 (.inl hs))
theorem sepP_eq:∀ (e:Ex) (l:List Ex),sepP (e::l)=exP e++l.flatMap fun f=>[[44,32]]++exP f
 | e,[]=>by simp [sepP]
 | e,f::l=>by rw [sepP,sepP_eq f l] <;> simp
def sepT (es:List Ex)(i:Nat):List Bytes:=if i=0 then sepP es else (es.drop i).flatMap fun f=>[[44,32]]++exP f
theorem sepT_step {es:List Ex}{i:Nat}(h:i<es.length):sepT es i=(if i=0 then [] else [[44,32]])++exP es[i]++sepT es (i+1):=by
 unfold sepT;rw [if_neg (by omega:¬ i+1=0)];split
 ·rename_i h0;subst h0;cases es with
  | nil=>simp at h
  | cons e l=>rw [sepP_eq];simp
 ·rw [List.drop_eq_getElem_cons h,List.flatMap_cons]
  try simp
theorem sepT_end {es:List Ex}{i:Nat}(h:¬ i<es.length):sepT es i=[]:=by
 unfold sepT;split
 ·rename_i h0;subst h0;cases es with
  | nil=>rw [sepP]
  | cons e l=>simp at h
 ·rw [List.drop_eq_nil_of_le (by omega)];rfl
theorem short_sep {es:List Ex}(h:∀ e∈es,Short (exP e)):Short (sepP es):=by
 cases es with
 | nil=>rw [sepP];exact Short.nil
 | cons e l =>
   rw [sepP_eq];refine (h e List.mem_cons_self).app fun s hs=>?_
   obtain⟨f,hf,hs⟩:=List.mem_flatMap.1 hs;exact (short1 (s:=[44,32])).app (h f (List.mem_cons_of_mem _ hf)) s hs
end Lx
set_option maxRecDepth 10000 in
set_option maxHeartbeats 8000000 in
theorem fm_args (es:List Ex)(hn:es.length≤9223372036854775807)(hE:∀ e∈es,PC 16 [.agg (cvE e)] (exP e))(hs:∀ e∈es,Short (exP e)):PC 41 [.lst (es.map cvE)] (argP es 0):=by
 intro b c H nx T hT hp;have hss:=short_sep hs;rw [argP,put_app,put_app];have t1:=put_len hT (short1 (s:=[40]));have t2:=put_len t1 hss;have hR0:sepP es=[]++sepT es 0:=by simp [sepT]
 refine ACall.of_body Tryz.func41 rfl ?_;refine gV ?_;refine AOpl.put [[40]] (hp.at _ (Nat.le_refl _) (by omega)) (OwnB.newAt hp _ (Nat.le_refl _) (by omega)) hT short1 ?_;intro c0 H0 n0 p0 f0;have f00:=((Pf.refl b c H nx).at (.cells [.str [40]]) (Nat.le_refl _) (Nat.lt_succ_self _)).trans f0;obtain⟨T1,hT1⟩:∃ T1,T1=put T [[40]]:=⟨_,rfl⟩;rw [← hT1] at p0 t1 t2 ⊢;obtain⟨R,hR⟩:∃ R,R=sepP es:=⟨_,rfl⟩;rw [← hR] at hR0 hss t2 ⊢;clear hT1 hR f0 hp hT;refine gV ?_;refine AWp.countO es.length [4,5,13] 14 (fun i v H1 nx1=>v 13=.int .i64 i∧∃ pre c',R=pre++sepT es i∧PrAt b c' H1 nx1 (put T1 pre)∧Pf b c H nx c' H1 nx1) ⟨by simp [putE,over],[],c0,hR0,p0,f00⟩ ?_;clear hR0 p0 f00;rintro i v H1 nx1 hi hn1 ⟨h13,pre,c1,hR,p1,f1⟩
 by_cases hb:i<es.length
 ·have hwi:=up1 hb (by omega);rw [sepT_step hb] at hR;have hc:=hE es[i] (List.getElem_mem hb);have he:=hs es[i] (List.getElem_mem hb);rw [cvE_eq] at hc;clear hn1 hE hs;have hps:Short pre:=Short.left (hR▸hss);have t3:=put_len t1 hps;obtain⟨B,hB⟩:∃ B,B=CB.cells [.int .i64 es[i].kind,.int .i64 es[i].n,.str es[i].of,.str es[i].name,.lst (es[i].kids.map cvE)]:=⟨_,rfl⟩;have p2:=p1.at (n':=nx1+1) B (Nat.le_refl _) (by omega);have o2:=OwnB.newAt p1 B (Nat.le_refl _) (show nx1<nx1+1 by omega);have f2:=f1.at B (Nat.le_refl _) (show nx1<nx1+1 by omega);subst hB;clear f1 p1
  by_cases h0:i=0
  ·rw [if_pos h0,List.nil_append,← List.append_assoc] at hR;subst h0;refine gV ?_;refine AOpl.callP (hc b c1 _ _ _ t3 p2) ?_;intro c3 H3 n3 p3 f3;refine gV ?_;exact⟨by ((repeat (first | exact Keeps.base _ _ _ _ | (with_reducible exact Keeps.refl _ _ _) | (refine Keeps.put rfl ?_) | (refine Keeps.over' rfl rfl ?_)))),hb,by simp [putE,over],pre++exP es[0],c3,hR,by rw [put_app];exact p3,f2.trans f3⟩
  ·rw [if_neg h0] at hR;have h0':(0:Int)<(i:Int):=by omega
   have h0'':0<i:=by omega
   have t4:=put_len t3 (short1 (s:=[44,32]));refine gV ?_;refine AOpl.put [[44,32]] (p2.at _ (Nat.le_refl _) (by omega)) (OwnB.newAt p2 _ (Nat.le_refl _) (by omega)) t3 short1 ?_;intro c3 H3 n3 p3 f3;have bx:=(o2.at2 (.cells [.str [44,32]]) (Nat.le_refl _) (show nx1+1<nx1+1+1 by omega)).call f3;have f4:=(f2.at (.cells [.str [44,32]]) (Nat.le_refl _) (show nx1+1<nx1+1+1 by omega)).trans f3;have hx1:=bx.at';clear f3;refine gV ?_;refine AOpl.callP (hc b c3 _ _ _ t4 p3) ?_;intro c5 H5 n5 p5 f5;refine gV ?_;exact⟨by ((repeat (first | exact Keeps.base _ _ _ _ | (with_reducible exact Keeps.refl _ _ _) | (refine Keeps.put rfl ?_) | (refine Keeps.over' rfl rfl ?_)))),hb,by simp [putE,over],pre++[[44,32]]++exP es[i],c5,by rw [hR];simp,by rw [put_app,put_app];exact p5,f4.trans f5⟩
 ·rw [sepT_end hb,List.append_nil] at hR;subst hR;clear hn1 hE hs;refine gV ?_;refine AOpl.put [[41]] (p1.at _ (Nat.le_refl _) (by omega)) (OwnB.newAt p1 _ (Nat.le_refl _) (by omega)) t2 short1 ?_;intro c3 H3 n3 p3 f3;refine gV ?_
  (refine⟨_,(by simp [*];rfl),?_⟩;(try simp only [packA]))
  exact⟨rfl,c3,p3,(f1.at _ (Nat.le_refl _) (Nat.lt_succ_self _)).trans f3⟩
end
section
open Lx Ax Go.RowKit
attribute [local simp] stepS Ax.stepT Dl.on qstep astep estep rd putE over argE ofV ofS loadA pickCells isAggD faddA fieldA partA iaddA idxA bnd binA intA strA unA convA lenA mapOf lookA findK keyD scalD storeA mupA srcA srcD upd drp Dl.hp Dl.nx CV.cs CV.one buildA placesA fillA zrep tasA ifaceD eqA eqFs eqIs range2 copyA nbeq nble nblt decEq beqI bneI beqS bneS isED Int.ofNat_inj List.getElem?_map List.getElem?_eq_getElem Option.map_some ti_int ti_i64 ti_str ti_bool ti_u8 ti_Strs ti_Bld ti_Prn ti_Bys ti_Exs ti_Ex ti_OpA gd gdB callA resA op1
attribute [local simp] one1 cvE_eq exk exn exo exm exks drR drp nu1 nu2 nu3 nu4 nu5 nu6 nu7 nu8 nu9 nu10 nu11 nu12 nu13 bl_len upd_upd wrp1
theorem fmG_op:fmG 0=.rop [.str [43],.str [45],.str [42],.str [60],.str [61,61]]:=rfl
theorem wr0:IntKind.i64.wrap 0=0:=by decide
theorem wr2:IntKind.i64.wrap 2=2:=by decide
theorem wr3:IntKind.i64.wrap 3=3:=by decide
theorem wr4:IntKind.i64.wrap 4=4:=by decide
theorem sl1 (H:Heap)(a b c d e:CV)(es:List Ex):sliA Tryz.prog H 22 (.lst ([a,b,c,d,e]::es.map cvE)) (some (.int .i64 1)) none=some (.lst (es.map cvE)) :=
 sliA_lo (m:=1) ti_Exs ti_Ex (fun r hr=>by
  rcases List.mem_cons.1 hr with rfl | hr
  ·rfl
  ·obtain⟨x,_,rfl⟩:=List.mem_map.1 hr;exact cvE_len x) (by simp)
attribute [local simp] fmG_op wr0 wr2 wr3 wr4 sl1 bl_max
theorem ident_short {x:Bytes}(h:isIdent x=true):x.length≤1000:=by have:=ident_len h;omega
set_option maxRecDepth 10000 in
set_option maxHeartbeats 8000000 in
theorem fm_e_null :PC 16 [.agg [.int .i64 2,.int .i64 0,.str [],.str [],.lst []]] [[110,117,108,108]]:=by
 intro b c H nx T hT hp;have s0:=PZ.start hp hT (.cells [.int .i64 2,.int .i64 0,.str [],.str [],.lst []]);clear hp hT;refine ACall.of_body Tryz.func16 rfl ?_;refine gU ?_;refine s0.put [[110,117,108,108]] short1 ?_;rintro c1 H1 n1 s1 _;refine gU ?_
 (refine⟨_,(by simp [*];rfl),?_⟩;(try simp only [packA]))
 exact⟨rfl,_,s1.p,s1.f⟩
set_option maxRecDepth 10000 in
set_option maxHeartbeats 8000000 in
theorem fm_e_this :PC 16 [.agg [.int .i64 4,.int .i64 0,.str [],.str [],.lst []]] [[116,104,105,115]]:=by
 intro b c H nx T hT hp;have s0:=PZ.start hp hT (.cells [.int .i64 4,.int .i64 0,.str [],.str [],.lst []]);clear hp hT;refine ACall.of_body Tryz.func16 rfl ?_;refine gU ?_;refine s0.put [[116,104,105,115]] short1 ?_;rintro c1 H1 n1 s1 _;refine gU ?_
 (refine⟨_,(by simp [*];rfl),?_⟩;(try simp only [packA]))
 exact⟨rfl,_,s1.p,s1.f⟩
set_option maxRecDepth 10000 in
set_option maxHeartbeats 8000000 in
theorem fm_e_input :PC 16 [.agg [.int .i64 5,.int .i64 0,.str [],.str [],.lst []]] [[105,110,112,117,116,40,41]]:=by
 intro b c H nx T hT hp;have s0:=PZ.start hp hT (.cells [.int .i64 5,.int .i64 0,.str [],.str [],.lst []]);clear hp hT;refine ACall.of_body Tryz.func16 rfl ?_;refine gU ?_;refine s0.put [[105,110,112,117,116,40,41]] short1 ?_;rintro c1 H1 n1 s1 _;refine gU ?_
 (refine⟨_,(by simp [*];rfl),?_⟩;(try simp only [packA]))
 exact⟨rfl,_,s1.p,s1.f⟩
set_option maxRecDepth 10000 in
set_option maxHeartbeats 8000000 in
theorem fm_e_int {n:Int}(h:-9223372036854775808≤n∧n≤9223372036854775807):PC 16 [.agg [.int .i64 1,.int .i64 n,.str [],.str [],.lst []]] [numText n]:=by
 intro b c H nx T hT hp;have s0:=PZ.start hp hT (.cells [.int .i64 1,.int .i64 n,.str [],.str [],.lst []]);clear hp hT;refine ACall.of_body Tryz.func16 rfl ?_;have hnl:=numText_len h;have hc:=fm_num h;refine gU ?_;refine s0.reg 8 ?_;rintro⟨bl,_⟩;refine gX ?_;refine ASlX.call1 (by first | rfl | (simp [gd,putE,over, *];done)) (by simp [callA, *]) (by kernel_rfl) hc ?_;refine gX ?_;refine s0.putX [numText n] (short1 (by omega)) ?_;rintro c1 H1 n1 s1 ⟨x1,_⟩;refine gX ?_;clear bl s0;refine gU ?_
 (refine⟨_,(by simp [*];rfl),?_⟩;(try simp only [packA]))
 exact⟨rfl,_,s1.p,s1.f⟩
set_option maxRecDepth 10000 in
set_option maxHeartbeats 8000000 in
theorem fm_e_var {x:Bytes}(hx:isIdent x=true):PC 16 [.agg [.int .i64 3,.int .i64 0,.str [],.str x,.lst []]] [x]:=by
 intro b c H nx T hT hp;have s0:=PZ.start hp hT (.cells [.int .i64 3,.int .i64 0,.str [],.str x,.lst []]);clear hp hT;refine ACall.of_body Tryz.func16 rfl ?_;have hxl:=ident_short hx;refine gU ?_;refine s0.reg 7 ?_;rintro⟨bl,_⟩;refine gX ?_;refine s0.putX [x] (short1 hxl) ?_;rintro c1 H1 n1 s1 ⟨x1,_⟩;refine gX ?_;clear bl s0;refine gU ?_
 (refine⟨_,(by simp [*];rfl),?_⟩;(try simp only [packA]))
 exact⟨rfl,_,s1.p,s1.f⟩
set_option maxRecDepth 10000 in
set_option maxHeartbeats 8000000 in
theorem fm_e_new {x:Bytes}(hx:isIdent x=true):PC 16 [.agg [.int .i64 7,.int .i64 0,.str [],.str x,.lst []]] [[110,101,119,32],x,[40,41]]:=by
 intro b c H nx T hT hp;have s0:=PZ.start hp hT (.cells [.int .i64 7,.int .i64 0,.str [],.str x,.lst []]);clear hp hT;refine ACall.of_body Tryz.func16 rfl ?_;have hxl:=ident_short hx;refine gU ?_;refine s0.reg 7 ?_;rintro⟨bl,_⟩;refine gX ?_;refine s0.putX [[110,101,119,32],x,[40,41]] (Short.cons (by decide) (Short.cons hxl short1)) ?_;rintro c1 H1 n1 s1 ⟨x1,_⟩;refine gX ?_;clear bl s0;refine gU ?_
 (refine⟨_,(by simp [*];rfl),?_⟩;(try simp only [packA]))
 exact⟨rfl,_,s1.p,s1.f⟩
set_option maxRecDepth 10000 in
set_option maxHeartbeats 8000000 in
theorem fm_e_bin {op:Int}(h:1≤op∧op≤5){a z:Ex}{lv m2:Int}{psA psB:List Bytes}(hl:FCall1 Tryz.prog fmG 39 [.agg [.int .i64 6,.int .i64 op,.str [],.str [],.lst [[.int .i64 a.kind,.int .i64 a.n,.str a.of,.str a.name,.lst (a.kids.map cvE)],[.int .i64 z.kind,.int .i64 z.n,.str z.of,.str z.name,.lst (z.kids.map cvE)]]]] (.int .i64 lv))(hm:maxI lv 2=m2)(hw:IntKind.i64.wrap (lv+1)=lv+1)(ha:PC 40 [.agg [.int .i64 a.kind,.int .i64 a.n,.str a.of,.str a.name,.lst (a.kids.map cvE)],.int .i64 m2] psA)(hb:PC 40 [.agg [.int .i64 z.kind,.int .i64 z.n,.str z.of,.str z.name,.lst (z.kids.map cvE)],.int .i64 (lv+1)] psB)(hsA:Short psA)(hsB:Short psB):PC 16 [.agg [.int .i64 6,.int .i64 op,.str [],.str [],.lst [[.int .i64 a.kind,.int .i64 a.n,.str a.of,.str a.name,.lst (a.kids.map cvE)],[.int .i64 z.kind,.int .i64 z.n,.str z.of,.str z.name,.lst (z.kids.map cvE)]]]] (psA++[[32],opText op,[32]]++psB):=by
 intro b c H nx T hT hp;have s0:=PZ.start hp hT (.cells [.int .i64 6,.int .i64 op,.str [],.str [],.lst [[.int .i64 a.kind,.int .i64 a.n,.str a.of,.str a.name,.lst (a.kids.map cvE)],[.int .i64 z.kind,.int .i64 z.n,.str z.of,.str z.name,.lst (z.kids.map cvE)]]]);clear hp hT;refine ACall.of_body Tryz.func16 rfl ?_;rw [put_app,put_app];have:op=1∨op=2∨op=3∨op=4∨op=5:=by omega
 clear h;rcases this with rfl | rfl | rfl | rfl | rfl
 ·rw [show opText 1=[43] from rfl];refine gU ?_
  (first | refine AOpl.call1 rfl (by first | rfl | (simp [*];done)) (by simp [*]) (by kernel_rfl) (hl) ?_ | refine ASl.callg (by first | rfl | (simp [*];done)) (by simp [*]) (by kernel_rfl) (hl) ?_)
  refine gU ?_;refine s0.call ha hsA ?_;rintro c1 H1 n1 s1 ⟨x1,_⟩;clear s0;refine gU ?_;refine s1.reg 10 ?_;rintro⟨bl,_⟩;refine gX ?_;refine s1.putX [[32],[43],[32]] (Short.cons (by decide) (Short.cons (by decide) short1)) ?_;rintro c2 H2 n2 s2 ⟨x2,_⟩;refine gX ?_;clear bl s1 x1;refine gU ?_;refine s2.call hb hsB ?_;rintro c3 H3 n3 s3 ⟨x3,_⟩;clear s2 x2;refine gU ?_
  (refine⟨_,(by simp [*];rfl),?_⟩;(try simp only [packA]))
  exact⟨rfl,_,s3.p,s3.f⟩
 ·rw [show opText 2=[45] from rfl];refine gU ?_
  (first | refine AOpl.call1 rfl (by first | rfl | (simp [*];done)) (by simp [*]) (by kernel_rfl) (hl) ?_ | refine ASl.callg (by first | rfl | (simp [*];done)) (by simp [*]) (by kernel_rfl) (hl) ?_)
  refine gU ?_;refine s0.call ha hsA ?_;rintro c1 H1 n1 s1 ⟨x1,_⟩;clear s0;refine gU ?_;refine s1.reg 10 ?_;rintro⟨bl,_⟩;refine gX ?_;refine s1.putX [[32],[45],[32]] (Short.cons (by decide) (Short.cons (by decide) short1)) ?_;rintro c2 H2 n2 s2 ⟨x2,_⟩;refine gX ?_;clear bl s1 x1;refine gU ?_;refine s2.call hb hsB ?_;rintro c3 H3 n3 s3 ⟨x3,_⟩;clear s2 x2;refine gU ?_
  (refine⟨_,(by simp [*];rfl),?_⟩;(try simp only [packA]))
  exact⟨rfl,_,s3.p,s3.f⟩
 ·rw [show opText 3=[42] from rfl];refine gU ?_
  (first | refine AOpl.call1 rfl (by first | rfl | (simp [*];done)) (by simp [*]) (by kernel_rfl) (hl) ?_ | refine ASl.callg (by first | rfl | (simp [*];done)) (by simp [*]) (by kernel_rfl) (hl) ?_)
  refine gU ?_;refine s0.call ha hsA ?_;rintro c1 H1 n1 s1 ⟨x1,_⟩;clear s0;refine gU ?_;refine s1.reg 10 ?_;rintro⟨bl,_⟩;refine gX ?_;refine s1.putX [[32],[42],[32]] (Short.cons (by decide) (Short.cons (by decide) short1)) ?_;rintro c2 H2 n2 s2 ⟨x2,_⟩;refine gX ?_;clear bl s1 x1;refine gU ?_;refine s2.call hb hsB ?_;rintro c3 H3 n3 s3 ⟨x3,_⟩;clear s2 x2;refine gU ?_
  (refine⟨_,(by simp [*];rfl),?_⟩;(try simp only [packA]))
  exact⟨rfl,_,s3.p,s3.f⟩
 ·rw [show opText 4=[60] from rfl];refine gU ?_
  (first | refine AOpl.call1 rfl (by first | rfl | (simp [*];done)) (by simp [*]) (by kernel_rfl) (hl) ?_ | refine ASl.callg (by first | rfl | (simp [*];done)) (by simp [*]) (by kernel_rfl) (hl) ?_)
  refine gU ?_;refine s0.call ha hsA ?_;rintro c1 H1 n1 s1 ⟨x1,_⟩;clear s0;refine gU ?_;refine s1.reg 10 ?_;rintro⟨bl,_⟩;refine gX ?_;refine s1.putX [[32],[60],[32]] (Short.cons (by decide) (Short.cons (by decide) short1)) ?_;rintro c2 H2 n2 s2 ⟨x2,_⟩;refine gX ?_;clear bl s1 x1;refine gU ?_;refine s2.call hb hsB ?_;rintro c3 H3 n3 s3 ⟨x3,_⟩;clear s2 x2;refine gU ?_
  (refine⟨_,(by simp [*];rfl),?_⟩;(try simp only [packA]))
  exact⟨rfl,_,s3.p,s3.f⟩
 ·rw [show opText 5=[61,61] from rfl];refine gU ?_
  (first | refine AOpl.call1 rfl (by first | rfl | (simp [*];done)) (by simp [*]) (by kernel_rfl) (hl) ?_ | refine ASl.callg (by first | rfl | (simp [*];done)) (by simp [*]) (by kernel_rfl) (hl) ?_)
  refine gU ?_;refine s0.call ha hsA ?_;rintro c1 H1 n1 s1 ⟨x1,_⟩;clear s0;refine gU ?_;refine s1.reg 10 ?_;rintro⟨bl,_⟩;refine gX ?_;refine s1.putX [[32],[61,61],[32]] (Short.cons (by decide) (Short.cons (by decide) short1)) ?_;rintro c2 H2 n2 s2 ⟨x2,_⟩;refine gX ?_;clear bl s1 x1;refine gU ?_;refine s2.call hb hsB ?_;rintro c3 H3 n3 s3 ⟨x3,_⟩;clear s2 x2;refine gU ?_
  (refine⟨_,(by simp [*];rfl),?_⟩;(try simp only [packA]))
  exact⟨rfl,_,s3.p,s3.f⟩
set_option maxRecDepth 10000 in
set_option maxHeartbeats 8000000 in
theorem fm_e_field {m:Bytes}(hm:isIdent m=true){a:Ex}{psA:List Bytes}(ha:PC 40 [.agg [.int .i64 a.kind,.int .i64 a.n,.str a.of,.str a.name,.lst (a.kids.map cvE)],.int .i64 4] psA)(hsA:Short psA):PC 16 [.agg [.int .i64 8,.int .i64 0,.str [],.str m,.lst [[.int .i64 a.kind,.int .i64 a.n,.str a.of,.str a.name,.lst (a.kids.map cvE)]]]] (psA++[[46],m]):=by
 intro b c H nx T hT hp;have s0:=PZ.start hp hT (.cells [.int .i64 8,.int .i64 0,.str [],.str m,.lst [[.int .i64 a.kind,.int .i64 a.n,.str a.of,.str a.name,.lst (a.kids.map cvE)]]]);clear hp hT;refine ACall.of_body Tryz.func16 rfl ?_;have hml:=ident_short hm;rw [put_app];refine gU ?_;refine s0.call ha hsA ?_;rintro c1 H1 n1 s1 ⟨x1,_⟩;clear s0;refine gU ?_;refine s1.reg 7 ?_;rintro⟨bl,_⟩;refine gX ?_;refine s1.putX [[46],m] (Short.cons (by decide) (short1 hml)) ?_;rintro c2 H2 n2 s2 ⟨x2,_⟩;refine gX ?_;clear bl s1 x1;refine gU ?_
 (refine⟨_,(by simp [*];rfl),?_⟩;(try simp only [packA]))
 exact⟨rfl,_,s2.p,s2.f⟩
set_option maxRecDepth 10000 in
set_option maxHeartbeats 8000000 in
theorem fm_e_call {m:Bytes}(hm:isIdent m=true){a:Ex}{es:List Ex}{psA psR:List Bytes}(ha:PC 40 [.agg [.int .i64 a.kind,.int .i64 a.n,.str a.of,.str a.name,.lst (a.kids.map cvE)],.int .i64 4] psA)(hsA:Short psA)(hr:PC 41 [.lst (es.map cvE)] psR)(hsR:Short psR):PC 16 [.agg [.int .i64 9,.int .i64 0,.str [],.str m,.lst ([.int .i64 a.kind,.int .i64 a.n,.str a.of,.str a.name,.lst (a.kids.map cvE)]::es.map cvE)]] (psA++[[46],m]++psR):=by
 intro b c H nx T hT hp;have s0:=PZ.start hp hT (.cells [.int .i64 9,.int .i64 0,.str [],.str m,.lst ([.int .i64 a.kind,.int .i64 a.n,.str a.of,.str a.name,.lst (a.kids.map cvE)]::es.map cvE)]);clear hp hT;refine ACall.of_body Tryz.func16 rfl ?_;have hml:=ident_short hm;rw [put_app,put_app];refine gU ?_;refine s0.call ha hsA ?_;rintro c1 H1 n1 s1 ⟨x1,_⟩;clear s0;refine gU ?_;refine s1.reg 7 ?_;rintro⟨bl,_⟩;refine gX ?_;refine s1.putX [[46],m] (Short.cons (by decide) (short1 hml)) ?_;rintro c2 H2 n2 s2 ⟨x2,_⟩;refine gX ?_;clear bl s1 x1;refine gU ?_;refine s2.call hr hsR ?_;rintro c3 H3 n3 s3 ⟨x3,_⟩;clear s2 x2;refine gU ?_
 (refine⟨_,(by simp [*];rfl),?_⟩;(try simp only [packA]))
 exact⟨rfl,_,s3.p,s3.f⟩
set_option maxRecDepth 10000 in
set_option maxHeartbeats 8000000 in
theorem fm_e_static {o m:Bytes}(ho:isIdent o=true)(hm:isIdent m=true){es:List Ex}{psR:List Bytes}(hr:PC 41 [.lst (es.map cvE)] psR)(hsR:Short psR):PC 16 [.agg [.int .i64 10,.int .i64 0,.str o,.str m,.lst (es.map cvE)]] ([o,[58,58],m]++psR):=by
 intro b c H nx T hT hp;have s0:=PZ.start hp hT (.cells [.int .i64 10,.int .i64 0,.str o,.str m,.lst (es.map cvE)]);clear hp hT;refine ACall.of_body Tryz.func16 rfl ?_;have hol:=ident_short ho;have hml:=ident_short hm;rw [put_app];refine gU ?_;refine s0.reg 9 ?_;rintro⟨bl,_⟩;refine gX ?_;refine s0.putX [o,[58,58],m] (Short.cons hol (Short.cons (by decide) (short1 hml))) ?_;rintro c1 H1 n1 s1 ⟨x1,_⟩;refine gX ?_;clear bl s0;refine gU ?_;refine s1.call hr hsR ?_;rintro c2 H2 n2 s2 ⟨x2,_⟩;clear s1 x1;refine gU ?_
 (refine⟨_,(by simp [*];rfl),?_⟩;(try simp only [packA]))
 exact⟨rfl,_,s2.p,s2.f⟩
end
section
open Lx Ax Go.RowKit
namespace Lx
theorem exP_bin (op:Int)(o m:Bytes)(a z:Ex):exP (.mk 6 op o m [a,z])=wthP a (max (levelOf 6 op) 2)++[[32],opText op,[32]]++wthP z (levelOf 6 op+1):=by
 rw [exP];simp [opeP,wthP]
theorem exP_field (n:Int)(o m:Bytes)(a:Ex):exP (.mk 8 n o m [a])=wthP a 4++[[46],m]:=by
 rw [exP];simp [opeP,wthP]
theorem exP_call (n:Int)(o m:Bytes)(a:Ex)(es:List Ex):exP (.mk 9 n o m (a::es))=wthP a 4++[[46],m]++argP es 0:=by
 rw [exP];simp [opeP,wthP,argP]
theorem exP_static (n:Int)(o m:Bytes)(es:List Ex):exP (.mk 10 n o m es)=[o,[58,58],m]++argP es 0:=by
 rw [exP];simp
theorem short_wth {e:Ex}{r:Int}(h:Short (exP e)):Short (wthP e r):=by
 unfold wthP;split
 ·exact ((short1 (s:=[40])).app h).app (short1 (s:=[41]))
 ·exact h
theorem short_arg {es:List Ex}(h:∀ e∈es,Short (exP e)):Short (argP es 0):=by
 rw [argP];exact ((short1 (s:=[40])).app (short_sep h)).app (short1 (s:=[41]))
theorem short_op (n:Int):(opText n).length≤1000:=by
 unfold opText;repeat' split
 all_goals decide
theorem short_exP {e:Ex}(h:WfE e):Short (exP e):=by
 induction h with
 | int n h1 h2 =>
   have:=numText_len (n:=n) ⟨by omega,by omega⟩;rw [exP];simp only [if_true];exact short1 (by omega)
 | null=>rw [exP];exact short1
 | var x hx=>rw [exP];exact short1 (ident_short hx)
 | this=>rw [exP];exact short1
 | input=>rw [exP];exact short1
 | bin op h ha hb h1 h2 =>
   rw [exP_bin];exact ((short_wth h1).app (Short.cons (by decide) (Short.cons (short_op _) short1))).app (short_wth h2)
 | new x hx=>rw [exP];exact Short.cons (by decide) (Short.cons (ident_short hx) short1)
 | field m hm hk h1=>rw [exP_field];exact (short_wth h1).app (Short.cons (by decide) (short1 (ident_short hm)))
 | call m hm hk he h1 h2=>rw [exP_call];exact ((short_wth h1).app (Short.cons (by decide) (short1 (ident_short hm)))).app (short_arg h2)
 | static o m ho hm he h2=>rw [exP_static];exact (Short.cons (ident_short ho) (Short.cons (by decide) (short1 (ident_short hm)))).app (short_arg h2)
theorem level_of (op:Int):1≤levelOf 6 op∧levelOf 6 op≤3:=by
 unfold levelOf;simp only [ne_eq,not_true,if_false];repeat' split
 all_goals omega
end Lx
/-- Lists no longer than an int counts, to the depth d. -/
def LenE:Nat→Ex→Prop
 | 0,_=>False
 | d+1,.mk _ _ _ _ ks=>ks.length≤9223372036854775807∧∀ x∈ks,LenE d x
theorem fm_expr:∀ (d:Nat) (e:Ex),LenE d e→WfE e→PC 16 [.agg (cvE e)] (exP e):=by
 intro d
 induction d with
 | zero=>intro e h;exact h.elim
 | succ d ih =>
   have op:∀ e r,LenE d e→WfE e→PC 40 [.agg [.int .i64 e.kind,.int .i64 e.n,.str e.of,.str e.name,.lst (e.kids.map cvE)],.int .i64 r] (wthP e r):=by
    intro e r h hw;have:=fm_operand e r hw (ih e h hw) (short_exP hw);rwa [cvE_eq] at this
   have ar:∀ es:List Ex,es.length≤9223372036854775807→(∀ e∈es,LenE d e)→(∀ e∈es,WfE e)→PC 41 [.lst (es.map cvE)] (argP es 0):=by
    intro es hl h hw;exact fm_args es hl (fun e he=>ih e (h e he) (hw e he)) (fun e he=>short_exP (hw e he))
   intro e hd hw;rw [cvE_eq];cases hw with
   | int n h1 h2=>rw [exP];exact fm_e_int (n:=n) ⟨by omega,by omega⟩
   | null=>rw [exP];exact fm_e_null
   | var x hx=>rw [exP];exact fm_e_var hx
   | this=>rw [exP];exact fm_e_this
   | input=>rw [exP];exact fm_e_input
   | new x hx=>rw [exP];exact fm_e_new hx
   | @bin o h a z ha hz =>
     obtain⟨hl,hd⟩:=hd;have hl:=fm_level _ (.bin o h ha hz);have hv:=level_of o;rw [cvE_eq] at hl;rw [exP_bin];simp only [Ex.kind,Ex.n,Ex.of,Ex.name,Ex.kids,List.map,cvE_eq a,cvE_eq z] at hl ⊢;exact fm_e_bin h hl (by unfold maxI;split <;> omega) (by rw [IntKind.wrap_i64];omega) (op a _ (hd a (by simp)) ha) (op z _ (hd z (by simp)) hz) (short_wth (short_exP ha)) (short_wth (short_exP hz))
   | @field m hm a ha =>
     obtain⟨hl,hd⟩:=hd;rw [exP_field];simp only [Ex.kind,Ex.n,Ex.of,Ex.name,Ex.kids,List.map,cvE_eq a];exact fm_e_field hm (op a _ (hd a (by simp)) ha) (short_wth (short_exP ha))
   | @call m hm a es ha he =>
     obtain⟨hl,hd⟩:=hd;rw [exP_call];simp only [Ex.kind,Ex.n,Ex.of,Ex.name,Ex.kids,List.map_cons,cvE_eq a];exact fm_e_call hm (op a _ (hd a (by simp)) ha) (short_wth (short_exP ha)) (ar es (by simp at hl;omega) (fun e h=>hd e (List.mem_cons_of_mem _ h)) he) (short_arg fun e h=>short_exP (he e h))
   | @static o m ho hm es he =>
     obtain⟨hl,hd⟩:=hd;rw [exP_static];exact fm_e_static ho hm (ar es hl hd he) (short_arg fun e h=>short_exP (he e h))
end
section
open Lx
namespace Lx
end Lx
end
end Go.Proofs.YtmlafcimjhnhhaaGreatDoor
