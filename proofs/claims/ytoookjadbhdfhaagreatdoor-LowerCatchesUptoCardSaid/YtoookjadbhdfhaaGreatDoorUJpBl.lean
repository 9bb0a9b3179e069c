/-
  ref12's slots; walked.
-/
import Derived.Test.YtoookjadbhdfhaaGreatDoorUJpBk
import Derived.Test.YtoookjadbhdfhaaGreatDoorUJpAs
set_option linter.unusedSectionVars false
set_option linter.unusedSimpArgs false
set_option linter.unnecessarySimpa false
set_option linter.unusedVariables false
set_option linter.unusedSimpArgs false
set_option linter.unusedVariables false
namespace Go.Proofs.YtoookjadbhdfhaaGreatDoor
section
open Lx Ax Go.RowKit
attribute [local simp] stepS Ax.stepT Dl.on qstep astep estep rd putE over argE ofV ofS loadA pickCells isAggD faddA fieldA partA iaddA idxA sliA bnd binA intA strA unA convA bltA mapOf findK keyD scalD storeA srcA srcD upd drp Dl.hp Dl.nx CV.cs CV.one buildA placesA fillA zrep tasA ifaceD eqA eqFs eqIs range2 copyA nbeq nble nblt decEq beqI bneI beqS bneS isED Int.ofNat_inj List.getElem?_map List.getElem?_eq_getElem Option.map_some ti_int ti_bool ti_str ti_i64 ti_Strs ti_Flds ti_Fld ti_Ex ti_Exs ti_St ti_Sts ti_Me gd gdB callA resA op1
attribute [local simp] nu1 nu2 nu3 nu4 nu5 nu6 nu7 nu8 nu9 nu10 nu11 nu12 nu13 upd_upd
theorem Ax.OwnL.lo {α:Type}{cv:α→List CV}{k:Nat}{H:Heap}{nx:Nat}{c:CV}{l:List α}(h:OwnL cv k H nx c l):∀ b',c=.sl b' 0 l.length k→b'<nx:=fun b' e=>by
 rcases h with⟨_,h⟩ | ⟨b,h,_,hb⟩
 ·rw [h] at e;cases e
 ·rw [h] at e;cases e;exact hb
end
section
open Lx Ax Go.RowKit
attribute [local simp] stepS Ax.stepT Dl.on qstep astep estep rd putE over argE ofV ofS loadA pickCells isAggD faddA fieldA partA iaddA idxA sliA bnd binA intA strA unA convA bltA mapOf findK keyD scalD storeA srcA srcD upd drp Dl.hp Dl.nx CV.cs CV.one buildA placesA fillA zrep tasA ifaceD eqA eqFs eqIs range2 copyA nbeq nble nblt decEq beqI bneI beqS bneS isED Int.ofNat_inj List.getElem?_map List.getElem?_eq_getElem Option.map_some ti_int ti_bool ti_str ti_i64 ti_Strs ti_Cds ti_Cd ti_Hi ti_Fn ti_Fns ti_Un ti_Ins ti_In gd gdB callA resA op1
attribute [local simp] nu1 nu2 nu3 nu4 nu5 nu6 nu7 nu8 nu9 nu10 nu11 nu12 nu13 upd_upd
theorem len_Cd {H:Heap}(l:List Cd):lenA Tryz.prog H 25 (.lst (l.map cvD))=some (.int .i64 l.length):=by
 unfold lenA;simp [ti_Cds]
def findS (s:Bytes):Nat→List Cd→Int
 | _,[]=>-1
 | i,d::l=>if d.name=s then i else findS s (i+1) l
theorem findS_lt {s:Bytes}:∀ (l:List Cd) (i:Nat),findS s i l<0↔∀ d∈l,d.name≠s
 | [],i=>by simp [findS]
 | d::l,i=>by
   rw [findS];have:=findS_lt (s:=s) l (i+1);split
   ·rename_i h;simp only [List.mem_cons,forall_eq_or_imp];constructor
    ·intro h1;omega
    ·intro h1;exact absurd h h1.1
   ·rename_i h;rw [this];simp [h]
set_option maxRecDepth 10000 in
set_option maxHeartbeats 4000000 in
theorem la_Find10 (h:List Cd)(hl:h.length≤lim)(s:Bytes):FCall1 Tryz.prog tkG 10 [.agg [.lst (h.map cvD)],.str s] (.int .i64 (findS s 0 h)):=by
 refine FCall.one tkG_pu (by simp [puL,puV,puRm puD]) rfl ?_;refine FCall.ofBody Tryz.func10 rfl rfl fun nx=>?_
 have hls:∀ H',lenA Tryz.prog H' 25 (.lst (h.map cvD))=some (.int .i64 h.length):=fun H'=>len_Cd _
 obtain⟨W,hW⟩:∃ W,findS s 0 h=W:=⟨_,rfl⟩;rw [hW];refine gW ?_;refine AWp.countO h.length [5] 6 (fun i e H1 n1=>e 5=.int .i64 i∧H1 nx=some (.cells [.lst (h.map cvD)])∧findS s i (h.drop i)=W) ⟨(by first | (simp (disch:=omega) [putE,over,ofV,ofS, *];done) | (simp (disch:=omega) [putE,over,ofV,ofS, *];rfl)),by simp [upd],by simpa using hW⟩ ?_;clear hW;rintro i v H1 n1 hi hn1 ⟨h5,hB,hf⟩;refine gW ?_
 (((apply AWp.cond');(focus (simp [*,-Ax.CV.bool.injEq];rfl))) <;> (intro hb) <;> (try simp only [decide_eq_true_eq,decide_eq_false_iff_not,Bool.not_eq_true',Bool.not_eq_false',Bool.not_eq_true,Bool.not_eq_false] at hb))
 ·have hlt:i<h.length:=hb;have hwi:=lim_wrap hlt hl;clear hb;rw [List.drop_eq_getElem_cons hlt,findS] at hf;generalize hde:h[i]=d at *
  by_cases hn:d.name=s
  ·rw [if_pos hn] at hf;rw [← hf];clear hf;refine gWf cvD.eq_1 ?_
   (refine⟨_,(by simp [*];rfl),?_⟩;(try simp only [packA]))
  ·rw [if_neg hn] at hf;refine gWf cvD.eq_1 ?_;exact⟨by ((repeat (first | exact Keeps.base _ _ _ _ | (with_reducible exact Keeps.refl _ _ _) | (refine Keeps.put rfl ?_) | (refine Keeps.over' rfl rfl ?_)))),hlt,(by first | (simp (disch:=omega) [putE,over,ofV,ofS, *];done) | (simp (disch:=omega) [putE,over,ofV,ofS, *];rfl)),hB,hf⟩
 ·have hi':h.length≤i:=by omega
  rw [List.drop_eq_nil_of_le hi',findS] at hf;rw [← hf];clear hf hb;refine gW ?_
  (refine⟨_,(by simp [*];rfl),?_⟩;(try simp only [packA]))
theorem len_Fn' {H:Heap}(l:List Fu):lenA Tryz.prog H 28 (.lst (l.map cvFu))=some (.int .i64 l.length):=by
 unfold lenA;simp [ti_Fns]
def findU (c n:Bytes):Nat→List Fu→Int
 | _,[]=>-1
 | i,f::l=>if f.cls=c∧f.name=n then i else findU c n (i+1) l
theorem findU_lt {c n:Bytes}:∀ (l:List Fu) (i:Nat),findU c n i l<0↔∀ f∈l,¬ (f.cls=c∧f.name=n)
 | [],i=>by simp [findU]
 | f::l,i=>by
   rw [findU];have:=findU_lt (c:=c) (n:=n) l (i+1);split
   ·rename_i h;simp only [List.mem_cons,forall_eq_or_imp];constructor
    ·intro h1;omega
    ·intro h1;exact absurd h h1.1
   ·rename_i h;rw [this];simp only [List.mem_cons,forall_eq_or_imp];exact⟨fun h1=>⟨h,h1⟩,fun h1=>h1.2⟩
theorem puUnA (h:List Cd)(l:List Fu)(mn:Int)(c n:Bytes):puL [.agg [.lst (h.map cvD),.lst (l.map cvFu),.int .i64 mn],.str c,.str n]=true:=by
 have h1:∀ f:Fu,puL (cvFu f)=true:=fun f=>by have:=puFu f;simpa [puV] using this
 simp [puL,puV,puRm puD,puRm h1]
set_option maxRecDepth 10000 in
set_option maxHeartbeats 8000000 in
theorem la_Find12 (h:List Cd)(l:List Fu)(hl:l.length≤lim)(mn:Int)(c n:Bytes):FCall1 Tryz.prog tkG 11 [.agg [.lst (h.map cvD),.lst (l.map cvFu),.int .i64 mn],.str c,.str n] (.int .i64 (findU c n 0 l)):=by
 refine FCall.one tkG_pu (puUnA h l mn c n) rfl ?_;refine FCall.ofBody Tryz.func11 rfl rfl fun nx=>?_
 have hls:∀ H',lenA Tryz.prog H' 28 (.lst (l.map cvFu))=some (.int .i64 l.length):=fun H'=>len_Fn' _
 obtain⟨W,hW⟩:∃ W,findU c n 0 l=W:=⟨_,rfl⟩;rw [hW];refine gW ?_;refine AWp.countO l.length [7] 8 (fun i e H1 n1=>e 7=.int .i64 i∧H1 nx=some (.cells [.lst (h.map cvD),.lst (l.map cvFu),.int .i64 mn])∧findU c n i (l.drop i)=W) ⟨(by first | (simp (disch:=omega) [putE,over,ofV,ofS, *];done) | (simp (disch:=omega) [putE,over,ofV,ofS, *];rfl)),by simp [upd],by simpa using hW⟩ ?_;clear hW;rintro i v H1 n1 hi hn1 ⟨h5,hB,hf⟩;refine gW ?_
 (((apply AWp.cond');(focus (simp [*,-Ax.CV.bool.injEq];rfl))) <;> (intro hb) <;> (try simp only [decide_eq_true_eq,decide_eq_false_iff_not,Bool.not_eq_true',Bool.not_eq_false',Bool.not_eq_true,Bool.not_eq_false] at hb))
 ·have hlt:i<l.length:=hb;have hwi:=lim_wrap hlt hl;clear hb;rw [List.drop_eq_getElem_cons hlt,findU] at hf;generalize hde:l[i]=f at *
  by_cases hn:f.cls=c
  ·by_cases hm:f.name=n
   ·rw [if_pos ⟨hn,hm⟩] at hf;rw [← hf];clear hf;refine gWf cvFu.eq_1 ?_
    (refine⟨_,(by simp [*];rfl),?_⟩;(try simp only [packA]))
   ·rw [if_neg fun h=>hm h.2] at hf;refine gWf cvFu.eq_1 ?_;exact⟨by ((repeat (first | exact Keeps.base _ _ _ _ | (with_reducible exact Keeps.refl _ _ _) | (refine Keeps.put rfl ?_) | (refine Keeps.over' rfl rfl ?_)))),hlt,(by first | (simp (disch:=omega) [putE,over,ofV,ofS, *];done) | (simp (disch:=omega) [putE,over,ofV,ofS, *];rfl)),hB,hf⟩
  ·rw [if_neg fun h=>hn h.1] at hf;refine gWf cvFu.eq_1 ?_;exact⟨by ((repeat (first | exact Keeps.base _ _ _ _ | (with_reducible exact Keeps.refl _ _ _) | (refine Keeps.put rfl ?_) | (refine Keeps.over' rfl rfl ?_)))),hlt,(by first | (simp (disch:=omega) [putE,over,ofV,ofS, *];done) | (simp (disch:=omega) [putE,over,ofV,ofS, *];rfl)),hB,hf⟩
 ·have hi':l.length≤i:=by omega
  rw [List.drop_eq_nil_of_le hi',findU] at hf;rw [← hf];clear hf hb;refine gW ?_
  (refine⟨_,(by simp [*];rfl),?_⟩;(try simp only [packA]))
end
section
open Lx Ax Go.RowKit
attribute [local simp] stepS Ax.stepT Dl.on qstep astep estep rd putE over argE ofV ofS loadA pickCells isAggD faddA fieldA partA iaddA idxA sliA bnd binA intA strA unA convA bltA mapOf findK keyD scalD storeA srcA srcD upd drp Dl.hp Dl.nx CV.cs CV.one buildA placesA fillA tasA ifaceD eqA eqFs eqIs range2 copyA nbeq nble nblt decEq beqI bneI beqS bneS isED Int.ofNat_inj List.getElem?_map List.getElem?_eq_getElem Option.map_some ti_int ti_bool ti_str ti_i64 ti_Strs ti_Flds ti_Fld ti_Ints ti_Fn ti_Fns ti_Un ti_Ins ti_In gd gdB callA resA op1
attribute [local simp] nu1 nu2 nu3 nu4 nu5 nu6 nu7 nu8 nu9 nu10 nu11 nu12 nu13 upd_upd
end
section
open Lx Ax Go.RowKit
attribute [local simp] stepS Ax.stepT Dl.on qstep astep estep rd putE over argE ofV ofS loadA pickCells isAggD faddA fieldA partA iaddA idxA sliA bnd binA intA strA unA convA bltA mapOf findK keyD scalD storeA srcA srcD upd drp Dl.hp Dl.nx CV.cs CV.one buildA placesA fillA zrep tasA ifaceD eqA eqFs eqIs range2 copyA nbeq nble nblt decEq beqI bneI beqS bneS isED Int.ofNat_inj List.getElem?_map List.getElem?_eq_getElem Option.map_some ti_int ti_bool ti_str ti_i64 ti_Strs ti_Flds ti_Fld ti_Me ti_Mes ti_Cl ti_Cls ti_So ti_Fn ti_Fns ti_Un ti_Hi ti_Errno gd gdB callA resA op1
attribute [local simp] nu1 nu2 nu3 nu4 nu5 nu6 nu7 nu8 nu9 nu10 nu11 nu12 nu13 upd_upd
theorem len_Fn3 {H:Heap}(l:List Fu):lenA Tryz.prog H 28 (.lst (l.map cvFu))=some (.int .i64 l.length):=by
 unfold lenA;simp [ti_Fns]
end
end Go.Proofs.YtoookjadbhdfhaaGreatDoor
