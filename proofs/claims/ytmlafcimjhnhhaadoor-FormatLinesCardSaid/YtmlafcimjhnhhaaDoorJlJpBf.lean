/-
  format's stmt, kind by kind, walked.
-/
import Derived.Test.YtmlafcimjhnhhaaDoorJlJpBe
set_option linter.unusedSectionVars false
set_option linter.unusedSimpArgs false
set_option linter.unnecessarySimpa false
set_option linter.unusedVariables false
set_option linter.unusedSimpArgs false
set_option linter.unusedVariables false
namespace Go.Proofs.YtmlafcimjhnhhaaDoor
section
open Lx Ax Go.RowKit
attribute [local simp] stepS Ax.stepT Dl.on qstep astep estep rd putE over argE ofV ofS loadA pickCells isAggD faddA fieldA partA iaddA idxA bnd binA intA strA unA convA lenA mapOf lookA findK keyD scalD storeA mupA srcA srcD upd drp Dl.hp Dl.nx CV.cs CV.one buildA placesA fillA zrep tasA ifaceD eqA eqFs eqIs range2 copyA nbeq nble nblt decEq beqI bneI beqS bneS isED Int.ofNat_inj List.getElem?_map List.getElem?_eq_getElem Option.map_some ti_int ti_i64 ti_str ti_bool ti_u8 ti_Strs ti_Bld ti_Prn ti_Bys ti_Exs ti_Ex ti_St ti_Sts gd gdB callA resA op1
attribute [local simp] one1 cvE_eq exk exn exo exm exks drR drp nu1 nu2 nu3 nu4 nu5 nu6 nu7 nu8 nu9 nu10 nu11 nu12 nu13 bl_len upd_upd wrp1
set_option maxRecDepth 10000 in
set_option maxHeartbeats 8000000 in
theorem fm_s_var0 (n:Int)(hn:n≤9223372036854775807){nm:Bytes}(hnm:nm.length≤1000){ty:Bytes}(hty:ty.length≤1000):PC 69 [.agg [.int .i64 1,.str nm,.str ty,.lst [],.lst [],.lst []],.int .i64 n] (tbP n++[[118,97,114,32],nm,[58,32],ty]++[[59,10]]):=by
 intro b c H nx T hT hp;have s0:=PZ.start hp hT (.cells [.int .i64 1,.str nm,.str ty,.lst [],.lst [],.lst []]);clear hp hT;simp only [put_app];refine ACall.of_body Tryd.func69 rfl ?_;refine gU ?_;refine s0.call (fm_tabs n hn) (short_tb n) ?_;rintro c1 H1 n1 s1 ⟨x1,_⟩;clear s0;refine gU ?_;refine s1.reg 9 ?_;rintro⟨bl,_⟩;refine gX ?_;refine s1.putX [[118,97,114,32],nm,[58,32],ty] (Short.cons (a:=[118,97,114,32]) (by decide) (Short.cons (a:=nm) hnm (Short.cons (a:=[58,32]) (by decide) (Short.cons (a:=ty) hty Short.nil)))) ?_;rintro c2 H2 n2 s2 ⟨x2,_⟩;refine gX ?_;clear s1 x1 bl;refine gU ?_;refine s2.put [[59,10]] (Short.cons (a:=[59,10]) (by decide) Short.nil) ?_;rintro c3 H3 n3 s3 ⟨x3,_⟩;clear s2 x2;refine gU ?_
 (refine⟨_,(by simp [*];rfl),?_⟩;(try simp only [packA]))
 exact⟨rfl,_,s3.p,s3.f⟩
set_option maxRecDepth 10000 in
set_option maxHeartbeats 8000000 in
theorem fm_s_var1 (n:Int)(hn:n≤9223372036854775807){nm:Bytes}(hnm:nm.length≤1000){ty:Bytes}(hty:ty.length≤1000){a:Ex}{psA:List Bytes}(ha:PC 40 [.agg [.int .i64 a.kind,.int .i64 a.n,.str a.of,.str a.name,.lst (a.kids.map cvE)]] psA)(hsA:Short psA):PC 69 [.agg [.int .i64 1,.str nm,.str ty,.lst [[.int .i64 a.kind,.int .i64 a.n,.str a.of,.str a.name,.lst (a.kids.map cvE)]],.lst [],.lst []],.int .i64 n] (tbP n++[[118,97,114,32],nm,[58,32],ty]++[[32,61,32]]++psA++[[59,10]]):=by
 intro b c H nx T hT hp;have s0:=PZ.start hp hT (.cells [.int .i64 1,.str nm,.str ty,.lst [[.int .i64 a.kind,.int .i64 a.n,.str a.of,.str a.name,.lst (a.kids.map cvE)]],.lst [],.lst []]);clear hp hT;simp only [put_app];refine ACall.of_body Tryd.func69 rfl ?_;refine gU ?_;refine s0.call (fm_tabs n hn) (short_tb n) ?_;rintro c1 H1 n1 s1 ⟨x1,_⟩;clear s0;refine gU ?_;refine s1.reg 9 ?_;rintro⟨bl,_⟩;refine gX ?_;refine s1.putX [[118,97,114,32],nm,[58,32],ty] (Short.cons (a:=[118,97,114,32]) (by decide) (Short.cons (a:=nm) hnm (Short.cons (a:=[58,32]) (by decide) (Short.cons (a:=ty) hty Short.nil)))) ?_;rintro c2 H2 n2 s2 ⟨x2,_⟩;refine gX ?_;clear s1 x1 bl;refine gU ?_;refine s2.put [[32,61,32]] (Short.cons (a:=[32,61,32]) (by decide) Short.nil) ?_;rintro c3 H3 n3 s3 ⟨x3,_⟩;clear s2 x2;refine gU ?_;refine s3.call (ha) hsA ?_;rintro c4 H4 n4 s4 ⟨x4,_⟩;clear s3 x3;refine gU ?_;refine s4.put [[59,10]] (Short.cons (a:=[59,10]) (by decide) Short.nil) ?_;rintro c5 H5 n5 s5 ⟨x5,_⟩;clear s4 x4;refine gU ?_
 (refine⟨_,(by simp [*];rfl),?_⟩;(try simp only [packA]))
 exact⟨rfl,_,s5.p,s5.f⟩
set_option maxRecDepth 10000 in
set_option maxHeartbeats 8000000 in
theorem fm_s_assign (n:Int)(hn:n≤9223372036854775807){nm:Bytes}(hnm:nm.length≤1000){a:Ex}{psA:List Bytes}(ha:PC 40 [.agg [.int .i64 a.kind,.int .i64 a.n,.str a.of,.str a.name,.lst (a.kids.map cvE)]] psA)(hsA:Short psA):PC 69 [.agg [.int .i64 2,.str nm,.str [],.lst [[.int .i64 a.kind,.int .i64 a.n,.str a.of,.str a.name,.lst (a.kids.map cvE)]],.lst [],.lst []],.int .i64 n] (tbP n++[nm,[32,61,32]]++psA++[[59,10]]):=by
 intro b c H nx T hT hp;have s0:=PZ.start hp hT (.cells [.int .i64 2,.str nm,.str [],.lst [[.int .i64 a.kind,.int .i64 a.n,.str a.of,.str a.name,.lst (a.kids.map cvE)]],.lst [],.lst []]);clear hp hT;simp only [put_app];refine ACall.of_body Tryd.func69 rfl ?_;refine gU ?_;refine s0.call (fm_tabs n hn) (short_tb n) ?_;rintro c1 H1 n1 s1 ⟨x1,_⟩;clear s0;refine gU ?_;refine s1.reg 7 ?_;rintro⟨bl,_⟩;refine gX ?_;refine s1.putX [nm,[32,61,32]] (Short.cons (a:=nm) hnm (Short.cons (a:=[32,61,32]) (by decide) Short.nil)) ?_;rintro c2 H2 n2 s2 ⟨x2,_⟩;refine gX ?_;clear s1 x1 bl;refine gU ?_;refine s2.call (ha) hsA ?_;rintro c3 H3 n3 s3 ⟨x3,_⟩;clear s2 x2;refine gU ?_;refine s3.put [[59,10]] (Short.cons (a:=[59,10]) (by decide) Short.nil) ?_;rintro c4 H4 n4 s4 ⟨x4,_⟩;clear s3 x3;refine gU ?_
 (refine⟨_,(by simp [*];rfl),?_⟩;(try simp only [packA]))
 exact⟨rfl,_,s4.p,s4.f⟩
set_option maxRecDepth 10000 in
set_option maxHeartbeats 8000000 in
theorem fm_s_store (n:Int)(hn:n≤9223372036854775807){nm:Bytes}(hnm:nm.length≤1000){a:Ex}{psA:List Bytes}(ha:PC 66 [.agg [.int .i64 a.kind,.int .i64 a.n,.str a.of,.str a.name,.lst (a.kids.map cvE)],.int .i64 4] psA)(hsA:Short psA){z:Ex}{psZ:List Bytes}(hz:PC 40 [.agg [.int .i64 z.kind,.int .i64 z.n,.str z.of,.str z.name,.lst (z.kids.map cvE)]] psZ)(hsZ:Short psZ):PC 69 [.agg [.int .i64 3,.str nm,.str [],.lst [[.int .i64 a.kind,.int .i64 a.n,.str a.of,.str a.name,.lst (a.kids.map cvE)],[.int .i64 z.kind,.int .i64 z.n,.str z.of,.str z.name,.lst (z.kids.map cvE)]],.lst [],.lst []],.int .i64 n] (tbP n++psA++[[46],nm,[32,61,32]]++psZ++[[59,10]]):=by
 intro b c H nx T hT hp;have s0:=PZ.start hp hT (.cells [.int .i64 3,.str nm,.str [],.lst [[.int .i64 a.kind,.int .i64 a.n,.str a.of,.str a.name,.lst (a.kids.map cvE)],[.int .i64 z.kind,.int .i64 z.n,.str z.of,.str z.name,.lst (z.kids.map cvE)]],.lst [],.lst []]);clear hp hT;simp only [put_app];refine ACall.of_body Tryd.func69 rfl ?_;refine gU ?_;refine s0.call (fm_tabs n hn) (short_tb n) ?_;rintro c1 H1 n1 s1 ⟨x1,_⟩;clear s0;refine gU ?_;refine s1.call (ha) hsA ?_;rintro c2 H2 n2 s2 ⟨x2,_⟩;clear s1 x1;refine gU ?_;refine s2.reg 7 ?_;rintro⟨bl,_⟩;refine gX ?_;refine s2.putX [[46],nm,[32,61,32]] (Short.cons (a:=[46]) (by decide) (Short.cons (a:=nm) hnm (Short.cons (a:=[32,61,32]) (by decide) Short.nil))) ?_;rintro c3 H3 n3 s3 ⟨x3,_⟩;refine gX ?_;clear s2 x2 bl;refine gU ?_;refine s3.call (hz) hsZ ?_;rintro c4 H4 n4 s4 ⟨x4,_⟩;clear s3 x3;refine gU ?_;refine s4.put [[59,10]] (Short.cons (a:=[59,10]) (by decide) Short.nil) ?_;rintro c5 H5 n5 s5 ⟨x5,_⟩;clear s4 x4;refine gU ?_
 (refine⟨_,(by simp [*];rfl),?_⟩;(try simp only [packA]))
 exact⟨rfl,_,s5.p,s5.f⟩
set_option maxRecDepth 10000 in
set_option maxHeartbeats 8000000 in
theorem fm_s_throw (n:Int)(hn:n≤9223372036854775807){a:Ex}{psA:List Bytes}(ha:PC 40 [.agg [.int .i64 a.kind,.int .i64 a.n,.str a.of,.str a.name,.lst (a.kids.map cvE)]] psA)(hsA:Short psA):PC 69 [.agg [.int .i64 7,.str [],.str [],.lst [[.int .i64 a.kind,.int .i64 a.n,.str a.of,.str a.name,.lst (a.kids.map cvE)]],.lst [],.lst []],.int .i64 n] (tbP n++[[116,104,114,111,119,32]]++psA++[[59,10]]):=by
 intro b c H nx T hT hp;have s0:=PZ.start hp hT (.cells [.int .i64 7,.str [],.str [],.lst [[.int .i64 a.kind,.int .i64 a.n,.str a.of,.str a.name,.lst (a.kids.map cvE)]],.lst [],.lst []]);clear hp hT;simp only [put_app];refine ACall.of_body Tryd.func69 rfl ?_;refine gU ?_;refine s0.call (fm_tabs n hn) (short_tb n) ?_;rintro c1 H1 n1 s1 ⟨x1,_⟩;clear s0;refine gU ?_;refine s1.put [[116,104,114,111,119,32]] (Short.cons (a:=[116,104,114,111,119,32]) (by decide) Short.nil) ?_;rintro c2 H2 n2 s2 ⟨x2,_⟩;clear s1 x1;refine gU ?_;refine s2.call (ha) hsA ?_;rintro c3 H3 n3 s3 ⟨x3,_⟩;clear s2 x2;refine gU ?_;refine s3.put [[59,10]] (Short.cons (a:=[59,10]) (by decide) Short.nil) ?_;rintro c4 H4 n4 s4 ⟨x4,_⟩;clear s3 x3;refine gU ?_
 (refine⟨_,(by simp [*];rfl),?_⟩;(try simp only [packA]))
 exact⟨rfl,_,s4.p,s4.f⟩
set_option maxRecDepth 10000 in
set_option maxHeartbeats 8000000 in
theorem fm_s_ret0 (n:Int)(hn:n≤9223372036854775807) :PC 69 [.agg [.int .i64 8,.str [],.str [],.lst [],.lst [],.lst []],.int .i64 n] (tbP n++[[114,101,116,117,114,110]]++[[59,10]]):=by
 intro b c H nx T hT hp;have s0:=PZ.start hp hT (.cells [.int .i64 8,.str [],.str [],.lst [],.lst [],.lst []]);clear hp hT;simp only [put_app];refine ACall.of_body Tryd.func69 rfl ?_;refine gU ?_;refine s0.call (fm_tabs n hn) (short_tb n) ?_;rintro c1 H1 n1 s1 ⟨x1,_⟩;clear s0;refine gU ?_;refine s1.put [[114,101,116,117,114,110]] (Short.cons (a:=[114,101,116,117,114,110]) (by decide) Short.nil) ?_;rintro c2 H2 n2 s2 ⟨x2,_⟩;clear s1 x1;refine gU ?_;refine s2.put [[59,10]] (Short.cons (a:=[59,10]) (by decide) Short.nil) ?_;rintro c3 H3 n3 s3 ⟨x3,_⟩;clear s2 x2;refine gU ?_
 (refine⟨_,(by simp [*];rfl),?_⟩;(try simp only [packA]))
 exact⟨rfl,_,s3.p,s3.f⟩
set_option maxRecDepth 10000 in
set_option maxHeartbeats 8000000 in
theorem fm_s_ret1 (n:Int)(hn:n≤9223372036854775807){a:Ex}{psA:List Bytes}(ha:PC 40 [.agg [.int .i64 a.kind,.int .i64 a.n,.str a.of,.str a.name,.lst (a.kids.map cvE)]] psA)(hsA:Short psA):PC 69 [.agg [.int .i64 8,.str [],.str [],.lst [[.int .i64 a.kind,.int .i64 a.n,.str a.of,.str a.name,.lst (a.kids.map cvE)]],.lst [],.lst []],.int .i64 n] (tbP n++[[114,101,116,117,114,110]]++[[32]]++psA++[[59,10]]):=by
 intro b c H nx T hT hp;have s0:=PZ.start hp hT (.cells [.int .i64 8,.str [],.str [],.lst [[.int .i64 a.kind,.int .i64 a.n,.str a.of,.str a.name,.lst (a.kids.map cvE)]],.lst [],.lst []]);clear hp hT;simp only [put_app];refine ACall.of_body Tryd.func69 rfl ?_;refine gU ?_;refine s0.call (fm_tabs n hn) (short_tb n) ?_;rintro c1 H1 n1 s1 ⟨x1,_⟩;clear s0;refine gU ?_;refine s1.put [[114,101,116,117,114,110]] (Short.cons (a:=[114,101,116,117,114,110]) (by decide) Short.nil) ?_;rintro c2 H2 n2 s2 ⟨x2,_⟩;clear s1 x1;refine gU ?_;refine s2.put [[32]] (Short.cons (a:=[32]) (by decide) Short.nil) ?_;rintro c3 H3 n3 s3 ⟨x3,_⟩;clear s2 x2;refine gU ?_;refine s3.call (ha) hsA ?_;rintro c4 H4 n4 s4 ⟨x4,_⟩;clear s3 x3;refine gU ?_;refine s4.put [[59,10]] (Short.cons (a:=[59,10]) (by decide) Short.nil) ?_;rintro c5 H5 n5 s5 ⟨x5,_⟩;clear s4 x4;refine gU ?_
 (refine⟨_,(by simp [*];rfl),?_⟩;(try simp only [packA]))
 exact⟨rfl,_,s5.p,s5.f⟩
set_option maxRecDepth 10000 in
set_option maxHeartbeats 8000000 in
theorem fm_s_call (n:Int)(hn:n≤9223372036854775807){a:Ex}{psA:List Bytes}(ha:PC 40 [.agg [.int .i64 a.kind,.int .i64 a.n,.str a.of,.str a.name,.lst (a.kids.map cvE)]] psA)(hsA:Short psA):PC 69 [.agg [.int .i64 9,.str [],.str [],.lst [[.int .i64 a.kind,.int .i64 a.n,.str a.of,.str a.name,.lst (a.kids.map cvE)]],.lst [],.lst []],.int .i64 n] (tbP n++psA++[[59,10]]):=by
 intro b c H nx T hT hp;have s0:=PZ.start hp hT (.cells [.int .i64 9,.str [],.str [],.lst [[.int .i64 a.kind,.int .i64 a.n,.str a.of,.str a.name,.lst (a.kids.map cvE)]],.lst [],.lst []]);clear hp hT;simp only [put_app];refine ACall.of_body Tryd.func69 rfl ?_;refine gU ?_;refine s0.call (fm_tabs n hn) (short_tb n) ?_;rintro c1 H1 n1 s1 ⟨x1,_⟩;clear s0;refine gU ?_;refine s1.call (ha) hsA ?_;rintro c2 H2 n2 s2 ⟨x2,_⟩;clear s1 x1;refine gU ?_;refine s2.put [[59,10]] (Short.cons (a:=[59,10]) (by decide) Short.nil) ?_;rintro c3 H3 n3 s3 ⟨x3,_⟩;clear s2 x2;refine gU ?_
 (refine⟨_,(by simp [*];rfl),?_⟩;(try simp only [packA]))
 exact⟨rfl,_,s3.p,s3.f⟩
set_option maxRecDepth 10000 in
set_option maxHeartbeats 8000000 in
theorem fm_s_nest4 (n:Int)(hn:n≤9223372036854775807){nm ty:Bytes}{es bs el:List (List CV)}{psN:List Bytes}(hN:PC 75 [.agg [.int .i64 4,.str nm,.str ty,.lst es,.lst bs,.lst el],.int .i64 n] psN)(hsN:Short psN):PC 69 [.agg [.int .i64 4,.str nm,.str ty,.lst es,.lst bs,.lst el],.int .i64 n] (tbP n++psN):=by
 intro b c H nx T hT hp;have s0:=PZ.start hp hT (.cells [.int .i64 4,.str nm,.str ty,.lst es,.lst bs,.lst el]);clear hp hT;simp only [put_app];refine ACall.of_body Tryd.func69 rfl ?_;refine gU ?_;refine s0.call (fm_tabs n hn) (short_tb n) ?_;rintro c1 H1 n1 s1 ⟨x1,_⟩;clear s0;refine gU ?_;refine s1.call (hN) hsN ?_;rintro c2 H2 n2 s2 ⟨x2,_⟩;clear s1 x1;refine gU ?_
 (refine⟨_,(by simp [*];rfl),?_⟩;(try simp only [packA]))
 exact⟨rfl,_,s2.p,s2.f⟩
set_option maxRecDepth 10000 in
set_option maxHeartbeats 8000000 in
theorem fm_s_nest5 (n:Int)(hn:n≤9223372036854775807){nm ty:Bytes}{es bs el:List (List CV)}{psN:List Bytes}(hN:PC 75 [.agg [.int .i64 5,.str nm,.str ty,.lst es,.lst bs,.lst el],.int .i64 n] psN)(hsN:Short psN):PC 69 [.agg [.int .i64 5,.str nm,.str ty,.lst es,.lst bs,.lst el],.int .i64 n] (tbP n++psN):=by
 intro b c H nx T hT hp;have s0:=PZ.start hp hT (.cells [.int .i64 5,.str nm,.str ty,.lst es,.lst bs,.lst el]);clear hp hT;simp only [put_app];refine ACall.of_body Tryd.func69 rfl ?_;refine gU ?_;refine s0.call (fm_tabs n hn) (short_tb n) ?_;rintro c1 H1 n1 s1 ⟨x1,_⟩;clear s0;refine gU ?_;refine s1.call (hN) hsN ?_;rintro c2 H2 n2 s2 ⟨x2,_⟩;clear s1 x1;refine gU ?_
 (refine⟨_,(by simp [*];rfl),?_⟩;(try simp only [packA]))
 exact⟨rfl,_,s2.p,s2.f⟩
set_option maxRecDepth 10000 in
set_option maxHeartbeats 8000000 in
theorem fm_s_nest6 (n:Int)(hn:n≤9223372036854775807){nm ty:Bytes}{es bs el:List (List CV)}{psN:List Bytes}(hN:PC 75 [.agg [.int .i64 6,.str nm,.str ty,.lst es,.lst bs,.lst el],.int .i64 n] psN)(hsN:Short psN):PC 69 [.agg [.int .i64 6,.str nm,.str ty,.lst es,.lst bs,.lst el],.int .i64 n] (tbP n++psN):=by
 intro b c H nx T hT hp;have s0:=PZ.start hp hT (.cells [.int .i64 6,.str nm,.str ty,.lst es,.lst bs,.lst el]);clear hp hT;simp only [put_app];refine ACall.of_body Tryd.func69 rfl ?_;refine gU ?_;refine s0.call (fm_tabs n hn) (short_tb n) ?_;rintro c1 H1 n1 s1 ⟨x1,_⟩;clear s0;refine gU ?_;refine s1.call (hN) hsN ?_;rintro c2 H2 n2 s2 ⟨x2,_⟩;clear s1 x1;refine gU ?_
 (refine⟨_,(by simp [*];rfl),?_⟩;(try simp only [packA]))
 exact⟨rfl,_,s2.p,s2.f⟩
end
section
open Lx Ax Go.RowKit
attribute [local simp] stepS Ax.stepT Dl.on qstep astep estep rd putE over argE ofV ofS loadA pickCells isAggD faddA fieldA partA iaddA idxA bnd binA intA strA unA convA lenA mapOf lookA findK keyD scalD storeA mupA srcA srcD upd drp Dl.hp Dl.nx CV.cs CV.one buildA placesA fillA zrep tasA ifaceD eqA eqFs eqIs range2 copyA nbeq nble nblt decEq beqI bneI beqS bneS isED Int.ofNat_inj List.getElem?_map List.getElem?_eq_getElem Option.map_some ti_int ti_i64 ti_str ti_bool ti_u8 ti_Strs ti_Bld ti_Prn ti_Bys ti_Exs ti_Ex ti_St ti_Sts gd gdB callA resA op1
attribute [local simp] one1 cvS_eq drR drp nu1 nu2 nu3 nu4 nu5 nu6 nu7 nu8 nu9 nu10 nu11 nu12 nu13 bl_len upd_upd wrp1
namespace Lx
theorem stsP_app (n:Int):∀ a b:List St,stsP n (a++b)=stsP n a++stsP n b
 | [],b=>by rw [stsP];rfl
 | s::a,b=>by rw [List.cons_append,stsP,stsP,stsP_app n a b,List.append_assoc]
theorem stsP_take (n:Int){l:List St}{i:Nat}(h:i<l.length):stsP n (l.take (i+1))=stsP n (l.take i)++stP n l[i]:=by
 rw [List.take_succ_eq_append_getElem h,stsP_app,stsP,stsP,List.append_nil]
theorem short_stsP {n:Int}:∀ {l:List St},(∀ s∈l,Short (stP n s))→Short (stsP n l)
 | [],_=>by rw [stsP];exact Short.nil
 | s::l,h=>by rw [stsP];exact (h s List.mem_cons_self).app (short_stsP fun x hx=>h x (List.mem_cons_of_mem _ hx))
end Lx
set_option maxRecDepth 10000 in
set_option maxHeartbeats 8000000 in
theorem fm_block (n:Int)(l:List St)(hn:l.length≤9223372036854775807)(hS:∀ s∈l,PC 69 [.agg (cvS s),.int .i64 n] (stP n s))(hs:∀ s∈l,Short (stP n s)):PC 51 [.lst (l.map cvS),.int .i64 n] (stsP n l):=by
 intro b c H nx T hT hp;refine ACall.of_body Tryd.func51 rfl ?_;refine gV ?_;refine AWp.countO l.length [7,10] 11 (fun i v H1 nx1=>v 10=.int .i64 i∧∃ c',PrAt b c' H1 nx1 (put T (stsP n (l.take i)))∧Pf b c H nx c' H1 nx1) ⟨by simp [putE,over],c,by simpa [stsP,put] using hp,Pf.refl _ _ _ _⟩ ?_;rintro i v H1 nx1 hi hn1 ⟨h10,c1,p1,f1⟩
 by_cases hb:i<l.length
 ·have hwi:=up1 hb (by omega);have t1:=put_len hT (short_stsP (n:=n) (l:=l.take i) fun s h=>hs s (List.mem_of_mem_take h));have hsu:=stsP_take n hb;have hc:=hS l[i] (List.getElem_mem hb);rw [cvS_eq] at hc;have hb':(i:Int)<(l.length:Int):=by omega
  obtain⟨B,hB⟩:∃ B,B=CB.cells (cvS l[i]):=⟨_,rfl⟩;have p2:=p1.at (n':=nx1+1) B (Nat.le_refl _) (by omega);have f2:=f1.at B (Nat.le_refl _) (show nx1<nx1+1 by omega);rw [cvS_eq] at hB;subst hB;clear hn1 hp hS hs p1 f1;refine gV ?_;refine AOpl.callP (hc b c1 _ _ _ t1 p2) ?_;intro c3 H3 n3 p3 f3;refine gV ?_;exact⟨by ((repeat (first | exact Keeps.base _ _ _ _ | (with_reducible exact Keeps.refl _ _ _) | (refine Keeps.put rfl ?_) | (refine Keeps.over' rfl rfl ?_)))),hb,by simp [putE,over],c3,by rw [hsu,put_app];exact p3,f2.trans f3⟩
 ·obtain rfl:i=l.length:=by omega
  rw [List.take_length] at p1;clear hn1 hp hS hs;refine gV ?_
  (refine⟨_,(by simp [*];rfl),?_⟩;(try simp only [packA]))
  exact⟨rfl,c1,p1,f1⟩
end
section
open Lx Ax Go.RowKit
namespace Lx
theorem typ_short {t:Bytes}(h:WfT t):t.length≤1000:=by
 rcases h with rfl | h
 ·decide
 ·exact ident_short h
theorem stP_var0 (n:Int)(x t:Bytes):stP n (.mk 1 x t [] [] [])=tbP n++[[118,97,114,32],x,[58,32],t]++[[59,10]]:=by
 rw [stP];simp [exQ,opeP,wthP]
theorem stP_var1 (n:Int)(x t:Bytes)(e:Ex):stP n (.mk 1 x t [e] [] [])=tbP n++[[118,97,114,32],x,[58,32],t]++[[32,61,32]]++exP e++[[59,10]]:=by
 rw [stP];simp [exQ,opeP,wthP]
theorem stP_assign (n:Int)(x:Bytes)(e:Ex):stP n (.mk 2 x [] [e] [] [])=tbP n++[x,[32,61,32]]++exP e++[[59,10]]:=by
 rw [stP];simp [exQ,opeP,wthP]
theorem stP_store (n:Int)(x:Bytes)(k e:Ex):stP n (.mk 3 x [] [k,e] [] [])=tbP n++wthP k 4++[[46],x,[32,61,32]]++exP e++[[59,10]]:=by
 rw [stP];simp [exQ,opeP,wthP]
theorem stP_if0 (n:Int)(e:Ex)(b:List St):stP n (.mk 4 [] [] [e] b [])=tbP n++([[105,102,32,40]]++exP e++[[41,32,123,10]]++stsP (IntKind.i64.wrap (n+1)) b++[]++tbP n++[[125,10]]):=by
 rw [stP];simp [exQ,opeP,wthP]
theorem stP_if1 (n:Int)(e:Ex)(b:List St)(s:St)(l:List St):stP n (.mk 4 [] [] [e] b (s::l))=tbP n++([[105,102,32,40]]++exP e++[[41,32,123,10]]++stsP (IntKind.i64.wrap (n+1)) b++tbP n++[[125,32,101,108,115,101,32,123,10]]++stsP (IntKind.i64.wrap (n+1)) (s::l)++tbP n++[[125,10]]):=by
 rw [stP];simp [exQ,opeP,wthP]
theorem stP_while (n:Int)(e:Ex)(b:List St):stP n (.mk 5 [] [] [e] b [])=tbP n++([[119,104,105,108,101,32,40]]++exP e++[[41,32,123,10]]++stsP (IntKind.i64.wrap (n+1)) b++[]++tbP n++[[125,10]]):=by
 rw [stP];simp [exQ,opeP,wthP]
theorem stP_try (n:Int)(x t:Bytes)(b c:List St):stP n (.mk 6 x t [] b c)=tbP n++([[116,114,121,32,123,10]]++stsP (IntKind.i64.wrap (n+1)) b++tbP n++[[125,32,99,97,116,99,104,32,40],x,[58,32],t,[41,32,123,10]]++stsP (IntKind.i64.wrap (n+1)) c++tbP n++[[125,10]]):=by
 rw [stP];simp [exQ,opeP,wthP]
theorem stP_throw (n:Int)(e:Ex):stP n (.mk 7 [] [] [e] [] [])=tbP n++[[116,104,114,111,119,32]]++exP e++[[59,10]]:=by
 rw [stP];simp [exQ,opeP,wthP]
theorem stP_ret0 (n:Int) :stP n (.mk 8 [] [] [] [] [])=tbP n++[[114,101,116,117,114,110]]++[[59,10]]:=by
 rw [stP];simp [exQ,opeP,wthP]
theorem stP_ret1 (n:Int)(e:Ex):stP n (.mk 8 [] [] [e] [] [])=tbP n++[[114,101,116,117,114,110]]++[[32]]++exP e++[[59,10]]:=by
 rw [stP];simp [exQ,opeP,wthP]
theorem stP_call (n:Int)(e:Ex):stP n (.mk 9 [] [] [e] [] [])=tbP n++exP e++[[59,10]]:=by
 rw [stP];simp [exQ,opeP,wthP]
theorem sh1 {s:Bytes}(h:s.length≤1000:=by decide):Short [s]:=short1 h
theorem short_stP {s:St}(h:WfS s):∀ n,Short (stP n s):=by
 induction h with
 | var0 x t hx ht=>intro n;rw [stP_var0];(repeat' first | exact short_tb _ | exact short_exP (by assumption) | exact short_wth (short_exP (by assumption)) | exact Short.nil | exact short_stsP (fun s h=>h1 s h _) | exact short_stsP (fun s h=>h2 s h _) | assumption | refine Short.app ?_ ?_ | refine Short.cons ?_ ?_ | decide | exact ident_short (by assumption) | exact typ_short (by assumption))
 | var1 x t hx ht he=>intro n;rw [stP_var1];(repeat' first | exact short_tb _ | exact short_exP (by assumption) | exact short_wth (short_exP (by assumption)) | exact Short.nil | exact short_stsP (fun s h=>h1 s h _) | exact short_stsP (fun s h=>h2 s h _) | assumption | refine Short.app ?_ ?_ | refine Short.cons ?_ ?_ | decide | exact ident_short (by assumption) | exact typ_short (by assumption))
 | assign x hx he=>intro n;rw [stP_assign];(repeat' first | exact short_tb _ | exact short_exP (by assumption) | exact short_wth (short_exP (by assumption)) | exact Short.nil | exact short_stsP (fun s h=>h1 s h _) | exact short_stsP (fun s h=>h2 s h _) | assumption | refine Short.app ?_ ?_ | refine Short.cons ?_ ?_ | decide | exact ident_short (by assumption) | exact typ_short (by assumption))
 | store m hm hk he=>intro n;rw [stP_store];(repeat' first | exact short_tb _ | exact short_exP (by assumption) | exact short_wth (short_exP (by assumption)) | exact Short.nil | exact short_stsP (fun s h=>h1 s h _) | exact short_stsP (fun s h=>h2 s h _) | assumption | refine Short.app ?_ ?_ | refine Short.cons ?_ ?_ | decide | exact ident_short (by assumption) | exact typ_short (by assumption))
 | @«if» e he b c hb hc h1 h2 =>
   intro n;cases c with
   | nil=>rw [stP_if0];(repeat' first | exact short_tb _ | exact short_exP (by assumption) | exact short_wth (short_exP (by assumption)) | exact Short.nil | exact short_stsP (fun s h=>h1 s h _) | exact short_stsP (fun s h=>h2 s h _) | assumption | refine Short.app ?_ ?_ | refine Short.cons ?_ ?_ | decide | exact ident_short (by assumption) | exact typ_short (by assumption))
   | cons s l=>rw [stP_if1];(repeat' first | exact short_tb _ | exact short_exP (by assumption) | exact short_wth (short_exP (by assumption)) | exact Short.nil | exact short_stsP (fun s h=>h1 s h _) | exact short_stsP (fun s h=>h2 s h _) | assumption | refine Short.app ?_ ?_ | refine Short.cons ?_ ?_ | decide | exact ident_short (by assumption) | exact typ_short (by assumption))
 | «while» he hb h1=>intro n;rw [stP_while];(repeat' first | exact short_tb _ | exact short_exP (by assumption) | exact short_wth (short_exP (by assumption)) | exact Short.nil | exact short_stsP (fun s h=>h1 s h _) | exact short_stsP (fun s h=>h2 s h _) | assumption | refine Short.app ?_ ?_ | refine Short.cons ?_ ?_ | decide | exact ident_short (by assumption) | exact typ_short (by assumption))
 | «try» x t hx ht hb hc h1 h2=>intro n;rw [stP_try];(repeat' first | exact short_tb _ | exact short_exP (by assumption) | exact short_wth (short_exP (by assumption)) | exact Short.nil | exact short_stsP (fun s h=>h1 s h _) | exact short_stsP (fun s h=>h2 s h _) | assumption | refine Short.app ?_ ?_ | refine Short.cons ?_ ?_ | decide | exact ident_short (by assumption) | exact typ_short (by assumption))
 | throw he=>intro n;rw [stP_throw];(repeat' first | exact short_tb _ | exact short_exP (by assumption) | exact short_wth (short_exP (by assumption)) | exact Short.nil | exact short_stsP (fun s h=>h1 s h _) | exact short_stsP (fun s h=>h2 s h _) | assumption | refine Short.app ?_ ?_ | refine Short.cons ?_ ?_ | decide | exact ident_short (by assumption) | exact typ_short (by assumption))
 | return0=>intro n;rw [stP_ret0];(repeat' first | exact short_tb _ | exact short_exP (by assumption) | exact short_wth (short_exP (by assumption)) | exact Short.nil | exact short_stsP (fun s h=>h1 s h _) | exact short_stsP (fun s h=>h2 s h _) | assumption | refine Short.app ?_ ?_ | refine Short.cons ?_ ?_ | decide | exact ident_short (by assumption) | exact typ_short (by assumption))
 | return1 he=>intro n;rw [stP_ret1];(repeat' first | exact short_tb _ | exact short_exP (by assumption) | exact short_wth (short_exP (by assumption)) | exact Short.nil | exact short_stsP (fun s h=>h1 s h _) | exact short_stsP (fun s h=>h2 s h _) | assumption | refine Short.app ?_ ?_ | refine Short.cons ?_ ?_ | decide | exact ident_short (by assumption) | exact typ_short (by assumption))
 | call he hk=>intro n;rw [stP_call];(repeat' first | exact short_tb _ | exact short_exP (by assumption) | exact short_wth (short_exP (by assumption)) | exact Short.nil | exact short_stsP (fun s h=>h1 s h _) | exact short_stsP (fun s h=>h2 s h _) | assumption | refine Short.app ?_ ?_ | refine Short.cons ?_ ?_ | decide | exact ident_short (by assumption) | exact typ_short (by assumption))
end Lx
def LenS:Nat→St→Prop
 | 0,_=>False
 | d+1,.mk _ _ _ es b el=>es.length≤9223372036854775807∧b.length≤9223372036854775807∧el.length≤9223372036854775807∧(∀ x∈es,LenE d x)∧(∀ x∈b,LenS d x)∧∀ x∈el,LenS d x
theorem wrap_max (n:Int):IntKind.i64.wrap n≤9223372036854775807:=by rw [IntKind.wrap_i64];omega
theorem fm_stmt:∀ (d:Nat) (n:Int),n≤9223372036854775807→∀ s,LenS d s→WfS s→PC 69 [.agg (cvS s),.int .i64 n] (stP n s):=by
 intro d
 induction d with
 | zero=>intro n _ s h;exact h.elim
 | succ d ih =>
   intro n h9 s hd hw;have ex:∀ e,LenE d e→WfE e→PC 40 [.agg [.int .i64 e.kind,.int .i64 e.n,.str e.of,.str e.name,.lst (e.kids.map cvE)]] (exP e):=by
    intro e h hw;have:=fm_expr d e h hw;rwa [cvE_eq] at this
   have bk:∀ l:List St,l.length≤9223372036854775807→(∀ s∈l,LenS d s)→(∀ s∈l,WfS s)→PC 51 [.lst (l.map cvS),.int .i64 (IntKind.i64.wrap (n+1))] (stsP (IntKind.i64.wrap (n+1)) l):=by
    intro l hl h hw;exact fm_block _ l hl (fun s hs=>ih _ (wrap_max _) s (h s hs) (hw s hs)) (fun s hs=>short_stP (hw s hs) _)
   have hb0:PC 51 [.lst [],.int .i64 (IntKind.i64.wrap (n+1))] []:=by
    have:=bk [] (by simp) (fun s h=>by cases h) (fun s h=>by cases h);rwa [stsP] at this
   have ss:∀ l:List St,(∀ s∈l,WfS s)→Short (stsP (IntKind.i64.wrap (n+1)) l):=fun l h=>short_stsP fun s hs=>short_stP (h s hs) _
   rw [cvS_eq];cases hw with
   | var0 x t hx ht=>rw [stP_var0];exact fm_s_var0 n h9 (ident_short hx) (typ_short ht)
   | @var1 x t hx ht e he =>
     obtain⟨_,lb,ll,le,hb3,hl3⟩:=hd;rw [stP_var1];simp only [St.p0,St.p1,St.p2,St.p3,St.p4,St.p5,List.map,cvE_eq e];exact fm_s_var1 n h9 (ident_short hx) (typ_short ht) (ex e (le e (by simp)) he) (short_exP he)
   | @assign x hx e he =>
     obtain⟨_,lb,ll,le,hb3,hl3⟩:=hd;rw [stP_assign];simp only [St.p0,St.p1,St.p2,St.p3,St.p4,St.p5,List.map,cvE_eq e];exact fm_s_assign n h9 (ident_short hx) (ex e (le e (by simp)) he) (short_exP he)
   | @store m hm k e hk he =>
     obtain⟨_,lb,ll,le,hb3,hl3⟩:=hd;rw [stP_store];have ho:=fm_operand k 4 hk (fm_expr d k (le k (by simp)) hk) (short_exP hk);rw [cvE_eq] at ho;simp only [St.p0,St.p1,St.p2,St.p3,St.p4,St.p5,List.map,cvE_eq e,cvE_eq k];exact fm_s_store n h9 (ident_short hm) ho (short_wth (short_exP hk)) (ex e (le e (by simp)) he) (short_exP he)
   | @«if» e he b c hb hc =>
     obtain⟨_,lb,ll,le,hb3,hl3⟩:=hd;simp only [St.p0,St.p1,St.p2,St.p3,St.p4,St.p5,List.map_cons,List.map_nil,cvE_eq e];cases c with
     | nil =>
       rw [stP_if0];exact fm_s_nest4 n h9 (fm_n_if0 n h9 (ex e (le e (by simp)) he) (short_exP he) (bk b lb hb3 hb) (ss b hb) hb0) (by repeat' first | exact short_tb _ | exact short_exP (by assumption) | exact Short.nil | exact ss _ (by assumption) | refine Short.app ?_ ?_ | refine Short.cons ?_ ?_ | decide | exact ident_short (by assumption) | exact typ_short (by assumption))
     | cons s l =>
       rw [stP_if1];exact fm_s_nest4 n h9 (fm_n_if1 n h9 (ex e (le e (by simp)) he) (short_exP he) (bk b lb hb3 hb) (ss b hb) (bk (s::l) ll hl3 hc) (ss _ hc) (by simp)) (by repeat' first | exact short_tb _ | exact short_exP (by assumption) | exact Short.nil | exact ss _ (by assumption) | refine Short.app ?_ ?_ | refine Short.cons ?_ ?_ | decide | exact ident_short (by assumption) | exact typ_short (by assumption))
   | @«while» e he b hb =>
     obtain⟨_,lb,ll,le,hb3,hl3⟩:=hd;rw [stP_while];simp only [St.p0,St.p1,St.p2,St.p3,St.p4,St.p5,List.map_cons,List.map_nil,cvE_eq e];exact fm_s_nest5 n h9 (fm_n_while n h9 (ex e (le e (by simp)) he) (short_exP he) (bk b lb hb3 hb) (ss b hb) hb0) (by repeat' first | exact short_tb _ | exact short_exP (by assumption) | exact Short.nil | exact ss _ (by assumption) | refine Short.app ?_ ?_ | refine Short.cons ?_ ?_ | decide | exact ident_short (by assumption) | exact typ_short (by assumption))
   | @«try» x t hx ht b c hb hc =>
     obtain⟨_,lb,ll,le,hb3,hl3⟩:=hd;rw [stP_try];exact fm_s_nest6 n h9 (fm_n_try n h9 (ident_short hx) (typ_short ht) (bk b lb hb3 hb) (ss b hb) (bk c ll hl3 hc) (ss c hc)) (by repeat' first | exact short_tb _ | exact short_exP (by assumption) | exact Short.nil | exact ss _ (by assumption) | refine Short.app ?_ ?_ | refine Short.cons ?_ ?_ | decide | exact ident_short (by assumption) | exact typ_short (by assumption))
   | @throw e he =>
     obtain⟨_,lb,ll,le,hb3,hl3⟩:=hd;rw [stP_throw];simp only [St.p0,St.p1,St.p2,St.p3,St.p4,St.p5,List.map,cvE_eq e];exact fm_s_throw n h9 (ex e (le e (by simp)) he) (short_exP he)
   | return0=>rw [stP_ret0];exact fm_s_ret0 n h9
   | @return1 e he =>
     obtain⟨_,lb,ll,le,hb3,hl3⟩:=hd;rw [stP_ret1];simp only [St.p0,St.p1,St.p2,St.p3,St.p4,St.p5,List.map,cvE_eq e];exact fm_s_ret1 n h9 (ex e (le e (by simp)) he) (short_exP he)
   | @call e he hk =>
     obtain⟨_,lb,ll,le,hb3,hl3⟩:=hd;rw [stP_call];simp only [St.p0,St.p1,St.p2,St.p3,St.p4,St.p5,List.map,cvE_eq e];exact fm_s_call n h9 (ex e (le e (by simp)) he) (short_exP he)
end
end Go.Proofs.YtmlafcimjhnhhaaDoor
