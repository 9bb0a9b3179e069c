/-
  shape of the checker; walked.
-/
import Derived.Test.YtoookjadbhdfhaaGreatDoorUJpAx
import Derived.Test.YtoookjadbhdfhaaGreatDoorUJpAq
set_option linter.unusedSectionVars false
set_option linter.unusedSimpArgs false
set_option linter.unnecessarySimpa false
set_option linter.unusedVariables false
set_option linter.unusedSimpArgs false
set_option linter.unusedVariables false
namespace Go.Proofs.YtoookjadbhdfhaaGreatDoor
section
open Lx Ax Go.RowKit
attribute [local simp] stepS Ax.stepT Dl.on qstep astep estep rd putE over argE ofV ofS loadA pickCells isAggD faddA fieldA partA iaddA idxA sliA bnd binA intA strA unA convA bltA lenA mapOf findK keyD scalD storeA appA srcA srcD upd drp Dl.hp Dl.nx CV.cs CV.one buildA placesA fillA zrep tasA ifaceD eqA eqFs eqIs range2 copyA nbeq nble nblt decEq beqI bneI beqS bneS isED Int.ofNat_inj List.getElem?_map List.getElem?_eq_getElem Option.map_some ti_int ti_bool ti_str ti_i64 ti_Strs ti_Exs ti_Ex ti_Sts ti_St ti_Flt ti_Errno gd gdB callA resA op1
attribute [local simp] nu1 nu2 nu3 nu4 nu5 nu6 nu7 nu8 nu9 nu10 nu11 nu12 nu13 upd_upd
/-- What shape says of a statement. -/
def shpT (k:Int)(ne nb nl:Nat):Tk Unit:=if shpE k ne nb nl=0 then .ok () else .error (shpE k ne nb nl)
theorem shpT_ok {k:Int}{ne nb nl:Nat}(h:shpE k ne nb nl=0):shpT k ne nb nl=.ok ():=by unfold shpT;rw [if_pos h]
theorem shpT_er {k:Int}{ne nb nl e:Nat}(h:shpE k ne nb nl=e)(he:e≠0):shpT k ne nb nl=.error e:=by unfold shpT;rw [h,if_neg he]
set_option maxRecDepth 10000 in
set_option maxHeartbeats 16000000 in
theorem tk_shape (k:Int)(nm ty:Bytes)(es:List Ex)(b el:List St):FRes Tryz.prog tkG 90 [.agg (cvS (.mk k nm ty es b el))] (tkU (shpT k es.length b.length el.length)):=by
 refine FRes.ofBody tkG_pu (by simp [puL,puV,puS]) (tkU_pu _) Tryz.func90 rfl rfl fun nx=>?_
 by_cases h0:k<1∨9<k
 ·rw [shpT_er (e:=12) (by unfold shpE;rw [if_pos h0]) (by decide)];have e1:¬ k=1:=by omega
  have e2:¬ k=2:=by omega
  have e3:¬ k=3:=by omega
  have e4:¬ k=4:=by omega
  have e5:¬ k=5:=by omega
  have e6:¬ k=6:=by omega
  have e7:¬ k=7:=by omega
  have e8:¬ k=8:=by omega
  have e9:¬ k=9:=by omega
  refine gWf Ya ?_
  ((apply AOpl.callP);(focus rfl);(focus (first | rfl | (simp [*];done)));(focus simp [*,-Option.some.injEq];rfl);kernel_rfl)
  ·exact need_no 12 _
  rfl
 obtain h1 | h2 | h3 | h4 | h5 | h6 | h7 | h8 | h9:k=1∨k=2∨k=3∨k=4∨k=5∨k=6∨k=7∨k=8∨k=9:=by omega
 ·subst h1;clear h0
  by_cases hM:(es.length:Int)≤1
  case neg =>
   rw [shpT_er (e:=1) (by unfold shpE;simp (decide:=true) only [if_true,if_false,Nat.not_lt_zero,false_or];rw [if_pos (by omega)]) (by decide)];refine gWf Ya ?_
   ((apply AOpl.callP);(focus rfl);(focus (first | rfl | (simp [*];done)));(focus simp [*,-Option.some.injEq];rfl);kernel_rfl)
   ·exact need_no 1 _
   rfl
  have hne:¬ 1<es.length:=by omega
  refine gWf Ya ?_
  ((apply Xr);(focus rfl);(focus (first | rfl | (simp [*];done)));(focus simp [*,-Option.some.injEq];rfl);kernel_rfl)
  ·exact need_ok 1 _
  clear hM
  by_cases hb:b=[]
  case neg =>
   have hlb:0<b.length:=List.length_pos_iff.mpr hb;rw [shpT_er (e:=1) (by unfold shpE;simp (decide:=true) only [if_true,if_false,Nat.not_lt_zero,false_or];rw [if_neg hne];try simp [hlb]) (by decide)];refine gWf Ya ?_
   ((apply AOpl.callP);(focus rfl);(focus (first | rfl | (simp [*];done)));(focus simp [*,-Option.some.injEq];rfl);kernel_rfl)
   ·exact need_no 1 _
   rfl
  subst hb;refine gWf Ya ?_
  ((apply Xr);(focus rfl);(focus (first | rfl | (simp [*];done)));(focus simp [*,-Option.some.injEq];rfl);kernel_rfl)
  ·exact need_ok 1 _
  by_cases hl:el=[]
  case neg =>
   have hll:0<el.length:=List.length_pos_iff.mpr hl;rw [shpT_er (e:=1) (by unfold shpE;simp (decide:=true) only [if_true,if_false,Nat.not_lt_zero,false_or];rw [if_neg hne];try simp [hll]) (by decide)];refine gWf Ya ?_
   ((apply AOpl.callP);(focus rfl);(focus (first | rfl | (simp [*];done)));(focus simp [*,-Option.some.injEq];rfl);kernel_rfl)
   ·exact need_no 1 _
   rfl
  subst hl;refine gWf Ya ?_
  ((apply Xr);(focus rfl);(focus (first | rfl | (simp [*];done)));(focus simp [*,-Option.some.injEq];rfl);kernel_rfl)
  ·exact need_ok 1 _
  rw [shpT_ok (by unfold shpE;simp (decide:=true) only [if_true,if_false,Nat.not_lt_zero,false_or];rw [if_neg hne];try simp)];refine gW ?_
  (refine⟨_,(by simp [*];rfl),?_⟩;(try simp only [packA]))
  all_goals rfl
 ·subst h2;clear h0
  repeat (first | (first | (apply Xf;rfl) | apply Xj);focus simp [Ya, *,-Option.some.injEq];rfl | (first | (apply Xa;rfl) | apply Xb);(focus simp [Ya, *];done);focus simp [Ya, *,-Option.some.injEq];rfl | (first | (apply Xg;rfl) | apply Xk);(focus simp [Ya, *];done) | (first | refine Xl ?_ | refine Xi ?_ | refine Xh ?_ | refine Xo ?_ | refine Xq ?_);try simp only [Xx,Xy,reduceIte,Nat.reduceEqDiff] | refine Xn ?_ | refine Xp rfl ?_ | refine Xc ?_ | apply Xd;focus simp [Ya, *];done | apply Xe;focus simp [Ya, *];done | refine Yb rfl rfl ?_ | (first | (apply AOpl.pickOrZ;rfl) | (apply AOpl.pickAndZ;rfl));(focus (simp [Ya, *,-Ax.CV.bool.injEq];rfl));(focus (intro hq;(try simp only [Bool.not_eq_true',Bool.not_eq_false',decide_eq_true_eq,decide_eq_false_iff_not,Bool.and_eq_true,Bool.or_eq_false_iff] at hq);simp [Ya, *,-Ax.CV.bool.injEq];rfl));intro z hz | (first | (apply AOpl.pickOrGZ;rfl) | (apply AOpl.pickAndGZ;rfl));(focus simp [Ya, *];done);(focus (simp [Ya, *,-Ax.CV.bool.injEq];rfl));(focus (intro hq;(try simp only [Bool.not_eq_true',Bool.not_eq_false',decide_eq_true_eq,decide_eq_false_iff_not,Bool.and_eq_true,Bool.or_eq_false_iff] at hq);simp [Ya, *,-Ax.CV.bool.injEq];rfl));intro z hz | (first | (apply AOpl.pickOrCZ;rfl) | (apply AOpl.pickAndCZ;rfl));(focus (simp [Ya, *,-Ax.CV.bool.injEq,-Option.some.injEq];rfl));(focus (intro hq;(try simp only [Bool.not_eq_true',Bool.not_eq_false',decide_eq_true_eq,decide_eq_false_iff_not,Bool.and_eq_true,Bool.or_eq_false_iff] at hq);simp [Ya, *,-Ax.CV.bool.injEq];rfl));(focus (intro hp hq;(try simp only [Bool.not_eq_true',Bool.not_eq_false',decide_eq_true_eq,decide_eq_false_iff_not,Bool.and_eq_true,Bool.or_eq_false_iff] at hp hq);simp [Ya, *,-Ax.CV.bool.injEq];rfl));intro z hz | (apply AOpl.passC;rfl);focus simp [Ya, *,-Ax.CV.bool.injEq];done | (apply AOpl.lookC;rfl);(focus (simp [Ya, *,-Ax.CV.bool.injEq,-Option.some.injEq];rfl));focus intro _;simp [Ya, *,-Option.some.injEq];rfl)
  cases z with
  | false =>
    simp at hz;rw [shpT_er (e:=1) (by unfold shpE;simp (decide:=true) only [if_true,if_false,Nat.not_lt_zero,false_or];first | rw [if_pos (by omega)] | (rw [if_pos (by rcases es with _ | ⟨_,_⟩ <;> simp_all <;> omega)])) (by decide)];refine gW ?_
    ((apply AOpl.callP);(focus rfl);(focus (first | rfl | (simp [*];done)));(focus simp [*,-Option.some.injEq];rfl);kernel_rfl)
    ·exact need_no 1 _
    rfl
  | true =>
  have hne:¬ (es.length<1∨1<es.length):=by simp at hz;first | omega | (rcases es with _ | ⟨_,_⟩ <;> simp_all <;> omega)
  clear hz;refine gW ?_
  ((apply Xr);(focus rfl);(focus (first | rfl | (simp [*];done)));(focus simp [*,-Option.some.injEq];rfl);kernel_rfl)
  ·exact need_ok 1 _
  by_cases hb:b=[]
  case neg =>
   have hlb:0<b.length:=List.length_pos_iff.mpr hb;rw [shpT_er (e:=1) (by unfold shpE;simp (decide:=true) only [if_true,if_false,Nat.not_lt_zero,false_or];rw [if_neg hne];try simp [hlb]) (by decide)];refine gWf Ya ?_
   ((apply AOpl.callP);(focus rfl);(focus (first | rfl | (simp [*];done)));(focus simp [*,-Option.some.injEq];rfl);kernel_rfl)
   ·exact need_no 1 _
   rfl
  subst hb;refine gWf Ya ?_
  ((apply Xr);(focus rfl);(focus (first | rfl | (simp [*];done)));(focus simp [*,-Option.some.injEq];rfl);kernel_rfl)
  ·exact need_ok 1 _
  by_cases hl:el=[]
  case neg =>
   have hll:0<el.length:=List.length_pos_iff.mpr hl;rw [shpT_er (e:=1) (by unfold shpE;simp (decide:=true) only [if_true,if_false,Nat.not_lt_zero,false_or];rw [if_neg hne];try simp [hll]) (by decide)];refine gWf Ya ?_
   ((apply AOpl.callP);(focus rfl);(focus (first | rfl | (simp [*];done)));(focus simp [*,-Option.some.injEq];rfl);kernel_rfl)
   ·exact need_no 1 _
   rfl
  subst hl;refine gWf Ya ?_
  ((apply Xr);(focus rfl);(focus (first | rfl | (simp [*];done)));(focus simp [*,-Option.some.injEq];rfl);kernel_rfl)
  ·exact need_ok 1 _
  rw [shpT_ok (by unfold shpE;simp (decide:=true) only [if_true,if_false,Nat.not_lt_zero,false_or];rw [if_neg hne];try simp)];refine gW ?_
  (refine⟨_,(by simp [*];rfl),?_⟩;(try simp only [packA]))
  all_goals rfl
 ·subst h3;clear h0
  repeat (first | (first | (apply Xf;rfl) | apply Xj);focus simp [Ya, *,-Option.some.injEq];rfl | (first | (apply Xa;rfl) | apply Xb);(focus simp [Ya, *];done);focus simp [Ya, *,-Option.some.injEq];rfl | (first | (apply Xg;rfl) | apply Xk);(focus simp [Ya, *];done) | (first | refine Xl ?_ | refine Xi ?_ | refine Xh ?_ | refine Xo ?_ | refine Xq ?_);try simp only [Xx,Xy,reduceIte,Nat.reduceEqDiff] | refine Xn ?_ | refine Xp rfl ?_ | refine Xc ?_ | apply Xd;focus simp [Ya, *];done | apply Xe;focus simp [Ya, *];done | refine Yb rfl rfl ?_ | (first | (apply AOpl.pickOrZ;rfl) | (apply AOpl.pickAndZ;rfl));(focus (simp [Ya, *,-Ax.CV.bool.injEq];rfl));(focus (intro hq;(try simp only [Bool.not_eq_true',Bool.not_eq_false',decide_eq_true_eq,decide_eq_false_iff_not,Bool.and_eq_true,Bool.or_eq_false_iff] at hq);simp [Ya, *,-Ax.CV.bool.injEq];rfl));intro z hz | (first | (apply AOpl.pickOrGZ;rfl) | (apply AOpl.pickAndGZ;rfl));(focus simp [Ya, *];done);(focus (simp [Ya, *,-Ax.CV.bool.injEq];rfl));(focus (intro hq;(try simp only [Bool.not_eq_true',Bool.not_eq_false',decide_eq_true_eq,decide_eq_false_iff_not,Bool.and_eq_true,Bool.or_eq_false_iff] at hq);simp [Ya, *,-Ax.CV.bool.injEq];rfl));intro z hz | (first | (apply AOpl.pickOrCZ;rfl) | (apply AOpl.pickAndCZ;rfl));(focus (simp [Ya, *,-Ax.CV.bool.injEq,-Option.some.injEq];rfl));(focus (intro hq;(try simp only [Bool.not_eq_true',Bool.not_eq_false',decide_eq_true_eq,decide_eq_false_iff_not,Bool.and_eq_true,Bool.or_eq_false_iff] at hq);simp [Ya, *,-Ax.CV.bool.injEq];rfl));(focus (intro hp hq;(try simp only [Bool.not_eq_true',Bool.not_eq_false',decide_eq_true_eq,decide_eq_false_iff_not,Bool.and_eq_true,Bool.or_eq_false_iff] at hp hq);simp [Ya, *,-Ax.CV.bool.injEq];rfl));intro z hz | (apply AOpl.passC;rfl);focus simp [Ya, *,-Ax.CV.bool.injEq];done | (apply AOpl.lookC;rfl);(focus (simp [Ya, *,-Ax.CV.bool.injEq,-Option.some.injEq];rfl));focus intro _;simp [Ya, *,-Option.some.injEq];rfl)
  cases z with
  | false =>
    simp at hz;rw [shpT_er (e:=1) (by unfold shpE;simp (decide:=true) only [if_true,if_false,Nat.not_lt_zero,false_or];first | rw [if_pos (by omega)] | (rw [if_pos (by rcases es with _ | ⟨_,_⟩ <;> simp_all <;> omega)])) (by decide)];refine gW ?_
    ((apply AOpl.callP);(focus rfl);(focus (first | rfl | (simp [*];done)));(focus simp [*,-Option.some.injEq];rfl);kernel_rfl)
    ·exact need_no 1 _
    rfl
  | true =>
  have hne:¬ (es.length<2∨2<es.length):=by simp at hz;first | omega | (rcases es with _ | ⟨_,_⟩ <;> simp_all <;> omega)
  clear hz;refine gW ?_
  ((apply Xr);(focus rfl);(focus (first | rfl | (simp [*];done)));(focus simp [*,-Option.some.injEq];rfl);kernel_rfl)
  ·exact need_ok 1 _
  by_cases hb:b=[]
  case neg =>
   have hlb:0<b.length:=List.length_pos_iff.mpr hb;rw [shpT_er (e:=1) (by unfold shpE;simp (decide:=true) only [if_true,if_false,Nat.not_lt_zero,false_or];rw [if_neg hne];try simp [hlb]) (by decide)];refine gWf Ya ?_
   ((apply AOpl.callP);(focus rfl);(focus (first | rfl | (simp [*];done)));(focus simp [*,-Option.some.injEq];rfl);kernel_rfl)
   ·exact need_no 1 _
   rfl
  subst hb;refine gWf Ya ?_
  ((apply Xr);(focus rfl);(focus (first | rfl | (simp [*];done)));(focus simp [*,-Option.some.injEq];rfl);kernel_rfl)
  ·exact need_ok 1 _
  by_cases hl:el=[]
  case neg =>
   have hll:0<el.length:=List.length_pos_iff.mpr hl;rw [shpT_er (e:=1) (by unfold shpE;simp (decide:=true) only [if_true,if_false,Nat.not_lt_zero,false_or];rw [if_neg hne];try simp [hll]) (by decide)];refine gWf Ya ?_
   ((apply AOpl.callP);(focus rfl);(focus (first | rfl | (simp [*];done)));(focus simp [*,-Option.some.injEq];rfl);kernel_rfl)
   ·exact need_no 1 _
   rfl
  subst hl;refine gWf Ya ?_
  ((apply Xr);(focus rfl);(focus (first | rfl | (simp [*];done)));(focus simp [*,-Option.some.injEq];rfl);kernel_rfl)
  ·exact need_ok 1 _
  rw [shpT_ok (by unfold shpE;simp (decide:=true) only [if_true,if_false,Nat.not_lt_zero,false_or];rw [if_neg hne];try simp)];refine gW ?_
  (refine⟨_,(by simp [*];rfl),?_⟩;(try simp only [packA]))
  all_goals rfl
 ·subst h4;clear h0
  repeat (first | (first | (apply Xf;rfl) | apply Xj);focus simp [Ya, *,-Option.some.injEq];rfl | (first | (apply Xa;rfl) | apply Xb);(focus simp [Ya, *];done);focus simp [Ya, *,-Option.some.injEq];rfl | (first | (apply Xg;rfl) | apply Xk);(focus simp [Ya, *];done) | (first | refine Xl ?_ | refine Xi ?_ | refine Xh ?_ | refine Xo ?_ | refine Xq ?_);try simp only [Xx,Xy,reduceIte,Nat.reduceEqDiff] | refine Xn ?_ | refine Xp rfl ?_ | refine Xc ?_ | apply Xd;focus simp [Ya, *];done | apply Xe;focus simp [Ya, *];done | refine Yb rfl rfl ?_ | (first | (apply AOpl.pickOrZ;rfl) | (apply AOpl.pickAndZ;rfl));(focus (simp [Ya, *,-Ax.CV.bool.injEq];rfl));(focus (intro hq;(try simp only [Bool.not_eq_true',Bool.not_eq_false',decide_eq_true_eq,decide_eq_false_iff_not,Bool.and_eq_true,Bool.or_eq_false_iff] at hq);simp [Ya, *,-Ax.CV.bool.injEq];rfl));intro z hz | (first | (apply AOpl.pickOrGZ;rfl) | (apply AOpl.pickAndGZ;rfl));(focus simp [Ya, *];done);(focus (simp [Ya, *,-Ax.CV.bool.injEq];rfl));(focus (intro hq;(try simp only [Bool.not_eq_true',Bool.not_eq_false',decide_eq_true_eq,decide_eq_false_iff_not,Bool.and_eq_true,Bool.or_eq_false_iff] at hq);simp [Ya, *,-Ax.CV.bool.injEq];rfl));intro z hz | (first | (apply AOpl.pickOrCZ;rfl) | (apply AOpl.pickAndCZ;rfl));(focus (simp [Ya, *,-Ax.CV.bool.injEq,-Option.some.injEq];rfl));(focus (intro hq;(try simp only [Bool.not_eq_true',Bool.not_eq_false',decide_eq_true_eq,decide_eq_false_iff_not,Bool.and_eq_true,Bool.or_eq_false_iff] at hq);simp [Ya, *,-Ax.CV.bool.injEq];rfl));(focus (intro hp hq;(try simp only [Bool.not_eq_true',Bool.not_eq_false',decide_eq_true_eq,decide_eq_false_iff_not,Bool.and_eq_true,Bool.or_eq_false_iff] at hp hq);simp [Ya, *,-Ax.CV.bool.injEq];rfl));intro z hz | (apply AOpl.passC;rfl);focus simp [Ya, *,-Ax.CV.bool.injEq];done | (apply AOpl.lookC;rfl);(focus (simp [Ya, *,-Ax.CV.bool.injEq,-Option.some.injEq];rfl));focus intro _;simp [Ya, *,-Option.some.injEq];rfl)
  cases z with
  | false =>
    simp at hz;rw [shpT_er (e:=1) (by unfold shpE;simp (decide:=true) only [if_true,if_false,Nat.not_lt_zero,false_or];first | rw [if_pos (by omega)] | (rw [if_pos (by rcases es with _ | ⟨_,_⟩ <;> simp_all <;> omega)])) (by decide)];refine gW ?_
    ((apply AOpl.callP);(focus rfl);(focus (first | rfl | (simp [*];done)));(focus simp [*,-Option.some.injEq];rfl);kernel_rfl)
    ·exact need_no 1 _
    rfl
  | true =>
  have hne:¬ (es.length<1∨1<es.length):=by simp at hz;first | omega | (rcases es with _ | ⟨_,_⟩ <;> simp_all <;> omega)
  clear hz;refine gW ?_
  ((apply Xr);(focus rfl);(focus (first | rfl | (simp [*];done)));(focus simp [*,-Option.some.injEq];rfl);kernel_rfl)
  ·exact need_ok 1 _
  refine gWf Ya ?_
  ((apply Xr);(focus rfl);(focus (first | rfl | (simp [*];done)));(focus simp [*,-Option.some.injEq];rfl);kernel_rfl)
  ·exact need_ok 1 _
  refine gWf Ya ?_
  ((apply Xr);(focus rfl);(focus (first | rfl | (simp [*];done)));(focus simp [*,-Option.some.injEq];rfl);kernel_rfl)
  ·exact need_ok 1 _
  rw [shpT_ok (by unfold shpE;simp (decide:=true) only [if_true,if_false,Nat.not_lt_zero,false_or];rw [if_neg hne];try simp)];refine gW ?_
  (refine⟨_,(by simp [*];rfl),?_⟩;(try simp only [packA]))
  all_goals rfl
 ·subst h5;clear h0
  repeat (first | (first | (apply Xf;rfl) | apply Xj);focus simp [Ya, *,-Option.some.injEq];rfl | (first | (apply Xa;rfl) | apply Xb);(focus simp [Ya, *];done);focus simp [Ya, *,-Option.some.injEq];rfl | (first | (apply Xg;rfl) | apply Xk);(focus simp [Ya, *];done) | (first | refine Xl ?_ | refine Xi ?_ | refine Xh ?_ | refine Xo ?_ | refine Xq ?_);try simp only [Xx,Xy,reduceIte,Nat.reduceEqDiff] | refine Xn ?_ | refine Xp rfl ?_ | refine Xc ?_ | apply Xd;focus simp [Ya, *];done | apply Xe;focus simp [Ya, *];done | refine Yb rfl rfl ?_ | (first | (apply AOpl.pickOrZ;rfl) | (apply AOpl.pickAndZ;rfl));(focus (simp [Ya, *,-Ax.CV.bool.injEq];rfl));(focus (intro hq;(try simp only [Bool.not_eq_true',Bool.not_eq_false',decide_eq_true_eq,decide_eq_false_iff_not,Bool.and_eq_true,Bool.or_eq_false_iff] at hq);simp [Ya, *,-Ax.CV.bool.injEq];rfl));intro z hz | (first | (apply AOpl.pickOrGZ;rfl) | (apply AOpl.pickAndGZ;rfl));(focus simp [Ya, *];done);(focus (simp [Ya, *,-Ax.CV.bool.injEq];rfl));(focus (intro hq;(try simp only [Bool.not_eq_true',Bool.not_eq_false',decide_eq_true_eq,decide_eq_false_iff_not,Bool.and_eq_true,Bool.or_eq_false_iff] at hq);simp [Ya, *,-Ax.CV.bool.injEq];rfl));intro z hz | (first | (apply AOpl.pickOrCZ;rfl) | (apply AOpl.pickAndCZ;rfl));(focus (simp [Ya, *,-Ax.CV.bool.injEq,-Option.some.injEq];rfl));(focus (intro hq;(try simp only [Bool.not_eq_true',Bool.not_eq_false',decide_eq_true_eq,decide_eq_false_iff_not,Bool.and_eq_true,Bool.or_eq_false_iff] at hq);simp [Ya, *,-Ax.CV.bool.injEq];rfl));(focus (intro hp hq;(try simp only [Bool.not_eq_true',Bool.not_eq_false',decide_eq_true_eq,decide_eq_false_iff_not,Bool.and_eq_true,Bool.or_eq_false_iff] at hp hq);simp [Ya, *,-Ax.CV.bool.injEq];rfl));intro z hz | (apply AOpl.passC;rfl);focus simp [Ya, *,-Ax.CV.bool.injEq];done | (apply AOpl.lookC;rfl);(focus (simp [Ya, *,-Ax.CV.bool.injEq,-Option.some.injEq];rfl));focus intro _;simp [Ya, *,-Option.some.injEq];rfl)
  cases z with
  | false =>
    simp at hz;rw [shpT_er (e:=1) (by unfold shpE;simp (decide:=true) only [if_true,if_false,Nat.not_lt_zero,false_or];first | rw [if_pos (by omega)] | (rw [if_pos (by rcases es with _ | ⟨_,_⟩ <;> simp_all <;> omega)])) (by decide)];refine gW ?_
    ((apply AOpl.callP);(focus rfl);(focus (first | rfl | (simp [*];done)));(focus simp [*,-Option.some.injEq];rfl);kernel_rfl)
    ·exact need_no 1 _
    rfl
  | true =>
  have hne:¬ (es.length<1∨1<es.length):=by simp at hz;first | omega | (rcases es with _ | ⟨_,_⟩ <;> simp_all <;> omega)
  clear hz;refine gW ?_
  ((apply Xr);(focus rfl);(focus (first | rfl | (simp [*];done)));(focus simp [*,-Option.some.injEq];rfl);kernel_rfl)
  ·exact need_ok 1 _
  refine gWf Ya ?_
  ((apply Xr);(focus rfl);(focus (first | rfl | (simp [*];done)));(focus simp [*,-Option.some.injEq];rfl);kernel_rfl)
  ·exact need_ok 1 _
  by_cases hl:el=[]
  case neg =>
   have hll:0<el.length:=List.length_pos_iff.mpr hl;rw [shpT_er (e:=1) (by unfold shpE;simp (decide:=true) only [if_true,if_false,Nat.not_lt_zero,false_or];rw [if_neg hne];try simp [hll]) (by decide)];refine gWf Ya ?_
   ((apply AOpl.callP);(focus rfl);(focus (first | rfl | (simp [*];done)));(focus simp [*,-Option.some.injEq];rfl);kernel_rfl)
   ·exact need_no 1 _
   rfl
  subst hl;refine gWf Ya ?_
  ((apply Xr);(focus rfl);(focus (first | rfl | (simp [*];done)));(focus simp [*,-Option.some.injEq];rfl);kernel_rfl)
  ·exact need_ok 1 _
  rw [shpT_ok (by unfold shpE;simp (decide:=true) only [if_true,if_false,Nat.not_lt_zero,false_or];rw [if_neg hne];try simp)];refine gW ?_
  (refine⟨_,(by simp [*];rfl),?_⟩;(try simp only [packA]))
  all_goals rfl
 ·subst h6;clear h0
  by_cases hM:es=[]
  case neg =>
   rw [shpT_er (e:=1) (by unfold shpE;simp (decide:=true) only [if_true,if_false,Nat.not_lt_zero,false_or];rw [if_pos (by have:=List.length_pos_iff.mpr hM;omega)]) (by decide)];refine gWf Ya ?_
   ((apply AOpl.callP);(focus rfl);(focus (first | rfl | (simp [*];done)));(focus simp [*,-Option.some.injEq];rfl);kernel_rfl)
   ·exact need_no 1 _
   rfl
  have hne:¬ 0<es.length:=by rw [hM];simp
  refine gWf Ya ?_
  ((apply Xr);(focus rfl);(focus (first | rfl | (simp [*];done)));(focus simp [*,-Option.some.injEq];rfl);kernel_rfl)
  ·exact need_ok 1 _
  clear hM;refine gWf Ya ?_
  ((apply Xr);(focus rfl);(focus (first | rfl | (simp [*];done)));(focus simp [*,-Option.some.injEq];rfl);kernel_rfl)
  ·exact need_ok 1 _
  refine gWf Ya ?_
  ((apply Xr);(focus rfl);(focus (first | rfl | (simp [*];done)));(focus simp [*,-Option.some.injEq];rfl);kernel_rfl)
  ·exact need_ok 1 _
  rw [shpT_ok (by unfold shpE;simp (decide:=true) only [if_true,if_false,Nat.not_lt_zero,false_or];rw [if_neg hne];try simp)];refine gW ?_
  (refine⟨_,(by simp [*];rfl),?_⟩;(try simp only [packA]))
  all_goals rfl
 ·subst h7;clear h0
  repeat (first | (first | (apply Xf;rfl) | apply Xj);focus simp [Ya, *,-Option.some.injEq];rfl | (first | (apply Xa;rfl) | apply Xb);(focus simp [Ya, *];done);focus simp [Ya, *,-Option.some.injEq];rfl | (first | (apply Xg;rfl) | apply Xk);(focus simp [Ya, *];done) | (first | refine Xl ?_ | refine Xi ?_ | refine Xh ?_ | refine Xo ?_ | refine Xq ?_);try simp only [Xx,Xy,reduceIte,Nat.reduceEqDiff] | refine Xn ?_ | refine Xp rfl ?_ | refine Xc ?_ | apply Xd;focus simp [Ya, *];done | apply Xe;focus simp [Ya, *];done | refine Yb rfl rfl ?_ | (first | (apply AOpl.pickOrZ;rfl) | (apply AOpl.pickAndZ;rfl));(focus (simp [Ya, *,-Ax.CV.bool.injEq];rfl));(focus (intro hq;(try simp only [Bool.not_eq_true',Bool.not_eq_false',decide_eq_true_eq,decide_eq_false_iff_not,Bool.and_eq_true,Bool.or_eq_false_iff] at hq);simp [Ya, *,-Ax.CV.bool.injEq];rfl));intro z hz | (first | (apply AOpl.pickOrGZ;rfl) | (apply AOpl.pickAndGZ;rfl));(focus simp [Ya, *];done);(focus (simp [Ya, *,-Ax.CV.bool.injEq];rfl));(focus (intro hq;(try simp only [Bool.not_eq_true',Bool.not_eq_false',decide_eq_true_eq,decide_eq_false_iff_not,Bool.and_eq_true,Bool.or_eq_false_iff] at hq);simp [Ya, *,-Ax.CV.bool.injEq];rfl));intro z hz | (first | (apply AOpl.pickOrCZ;rfl) | (apply AOpl.pickAndCZ;rfl));(focus (simp [Ya, *,-Ax.CV.bool.injEq,-Option.some.injEq];rfl));(focus (intro hq;(try simp only [Bool.not_eq_true',Bool.not_eq_false',decide_eq_true_eq,decide_eq_false_iff_not,Bool.and_eq_true,Bool.or_eq_false_iff] at hq);simp [Ya, *,-Ax.CV.bool.injEq];rfl));(focus (intro hp hq;(try simp only [Bool.not_eq_true',Bool.not_eq_false',decide_eq_true_eq,decide_eq_false_iff_not,Bool.and_eq_true,Bool.or_eq_false_iff] at hp hq);simp [Ya, *,-Ax.CV.bool.injEq];rfl));intro z hz | (apply AOpl.passC;rfl);focus simp [Ya, *,-Ax.CV.bool.injEq];done | (apply AOpl.lookC;rfl);(focus (simp [Ya, *,-Ax.CV.bool.injEq,-Option.some.injEq];rfl));focus intro _;simp [Ya, *,-Option.some.injEq];rfl)
  cases z with
  | false =>
    simp at hz;rw [shpT_er (e:=1) (by unfold shpE;simp (decide:=true) only [if_true,if_false,Nat.not_lt_zero,false_or];first | rw [if_pos (by omega)] | (rw [if_pos (by rcases es with _ | ⟨_,_⟩ <;> simp_all <;> omega)])) (by decide)];refine gW ?_
    ((apply AOpl.callP);(focus rfl);(focus (first | rfl | (simp [*];done)));(focus simp [*,-Option.some.injEq];rfl);kernel_rfl)
    ·exact need_no 1 _
    rfl
  | true =>
  have hne:¬ (es.length<1∨1<es.length):=by simp at hz;first | omega | (rcases es with _ | ⟨_,_⟩ <;> simp_all <;> omega)
  clear hz;refine gW ?_
  ((apply Xr);(focus rfl);(focus (first | rfl | (simp [*];done)));(focus simp [*,-Option.some.injEq];rfl);kernel_rfl)
  ·exact need_ok 1 _
  by_cases hb:b=[]
  case neg =>
   have hlb:0<b.length:=List.length_pos_iff.mpr hb;rw [shpT_er (e:=1) (by unfold shpE;simp (decide:=true) only [if_true,if_false,Nat.not_lt_zero,false_or];rw [if_neg hne];try simp [hlb]) (by decide)];refine gWf Ya ?_
   ((apply AOpl.callP);(focus rfl);(focus (first | rfl | (simp [*];done)));(focus simp [*,-Option.some.injEq];rfl);kernel_rfl)
   ·exact need_no 1 _
   rfl
  subst hb;refine gWf Ya ?_
  ((apply Xr);(focus rfl);(focus (first | rfl | (simp [*];done)));(focus simp [*,-Option.some.injEq];rfl);kernel_rfl)
  ·exact need_ok 1 _
  by_cases hl:el=[]
  case neg =>
   have hll:0<el.length:=List.length_pos_iff.mpr hl;rw [shpT_er (e:=1) (by unfold shpE;simp (decide:=true) only [if_true,if_false,Nat.not_lt_zero,false_or];rw [if_neg hne];try simp [hll]) (by decide)];refine gWf Ya ?_
   ((apply AOpl.callP);(focus rfl);(focus (first | rfl | (simp [*];done)));(focus simp [*,-Option.some.injEq];rfl);kernel_rfl)
   ·exact need_no 1 _
   rfl
  subst hl;refine gWf Ya ?_
  ((apply Xr);(focus rfl);(focus (first | rfl | (simp [*];done)));(focus simp [*,-Option.some.injEq];rfl);kernel_rfl)
  ·exact need_ok 1 _
  rw [shpT_ok (by unfold shpE;simp (decide:=true) only [if_true,if_false,Nat.not_lt_zero,false_or];rw [if_neg hne];try simp)];refine gW ?_
  (refine⟨_,(by simp [*];rfl),?_⟩;(try simp only [packA]))
  all_goals rfl
 ·subst h8;clear h0
  by_cases hM:(es.length:Int)≤1
  case neg =>
   rw [shpT_er (e:=1) (by unfold shpE;simp (decide:=true) only [if_true,if_false,Nat.not_lt_zero,false_or];rw [if_pos (by omega)]) (by decide)];refine gWf Ya ?_
   ((apply AOpl.callP);(focus rfl);(focus (first | rfl | (simp [*];done)));(focus simp [*,-Option.some.injEq];rfl);kernel_rfl)
   ·exact need_no 1 _
   rfl
  have hne:¬ 1<es.length:=by omega
  refine gWf Ya ?_
  ((apply Xr);(focus rfl);(focus (first | rfl | (simp [*];done)));(focus simp [*,-Option.some.injEq];rfl);kernel_rfl)
  ·exact need_ok 1 _
  clear hM
  by_cases hb:b=[]
  case neg =>
   have hlb:0<b.length:=List.length_pos_iff.mpr hb;rw [shpT_er (e:=1) (by unfold shpE;simp (decide:=true) only [if_true,if_false,Nat.not_lt_zero,false_or];rw [if_neg hne];try simp [hlb]) (by decide)];refine gWf Ya ?_
   ((apply AOpl.callP);(focus rfl);(focus (first | rfl | (simp [*];done)));(focus simp [*,-Option.some.injEq];rfl);kernel_rfl)
   ·exact need_no 1 _
   rfl
  subst hb;refine gWf Ya ?_
  ((apply Xr);(focus rfl);(focus (first | rfl | (simp [*];done)));(focus simp [*,-Option.some.injEq];rfl);kernel_rfl)
  ·exact need_ok 1 _
  by_cases hl:el=[]
  case neg =>
   have hll:0<el.length:=List.length_pos_iff.mpr hl;rw [shpT_er (e:=1) (by unfold shpE;simp (decide:=true) only [if_true,if_false,Nat.not_lt_zero,false_or];rw [if_neg hne];try simp [hll]) (by decide)];refine gWf Ya ?_
   ((apply AOpl.callP);(focus rfl);(focus (first | rfl | (simp [*];done)));(focus simp [*,-Option.some.injEq];rfl);kernel_rfl)
   ·exact need_no 1 _
   rfl
  subst hl;refine gWf Ya ?_
  ((apply Xr);(focus rfl);(focus (first | rfl | (simp [*];done)));(focus simp [*,-Option.some.injEq];rfl);kernel_rfl)
  ·exact need_ok 1 _
  rw [shpT_ok (by unfold shpE;simp (decide:=true) only [if_true,if_false,Nat.not_lt_zero,false_or];rw [if_neg hne];try simp)];refine gW ?_
  (refine⟨_,(by simp [*];rfl),?_⟩;(try simp only [packA]))
  all_goals rfl
 ·subst h9;clear h0
  repeat (first | (first | (apply Xf;rfl) | apply Xj);focus simp [Ya, *,-Option.some.injEq];rfl | (first | (apply Xa;rfl) | apply Xb);(focus simp [Ya, *];done);focus simp [Ya, *,-Option.some.injEq];rfl | (first | (apply Xg;rfl) | apply Xk);(focus simp [Ya, *];done) | (first | refine Xl ?_ | refine Xi ?_ | refine Xh ?_ | refine Xo ?_ | refine Xq ?_);try simp only [Xx,Xy,reduceIte,Nat.reduceEqDiff] | refine Xn ?_ | refine Xp rfl ?_ | refine Xc ?_ | apply Xd;focus simp [Ya, *];done | apply Xe;focus simp [Ya, *];done | refine Yb rfl rfl ?_ | (first | (apply AOpl.pickOrZ;rfl) | (apply AOpl.pickAndZ;rfl));(focus (simp [Ya, *,-Ax.CV.bool.injEq];rfl));(focus (intro hq;(try simp only [Bool.not_eq_true',Bool.not_eq_false',decide_eq_true_eq,decide_eq_false_iff_not,Bool.and_eq_true,Bool.or_eq_false_iff] at hq);simp [Ya, *,-Ax.CV.bool.injEq];rfl));intro z hz | (first | (apply AOpl.pickOrGZ;rfl) | (apply AOpl.pickAndGZ;rfl));(focus simp [Ya, *];done);(focus (simp [Ya, *,-Ax.CV.bool.injEq];rfl));(focus (intro hq;(try simp only [Bool.not_eq_true',Bool.not_eq_false',decide_eq_true_eq,decide_eq_false_iff_not,Bool.and_eq_true,Bool.or_eq_false_iff] at hq);simp [Ya, *,-Ax.CV.bool.injEq];rfl));intro z hz | (first | (apply AOpl.pickOrCZ;rfl) | (apply AOpl.pickAndCZ;rfl));(focus (simp [Ya, *,-Ax.CV.bool.injEq,-Option.some.injEq];rfl));(focus (intro hq;(try simp only [Bool.not_eq_true',Bool.not_eq_false',decide_eq_true_eq,decide_eq_false_iff_not,Bool.and_eq_true,Bool.or_eq_false_iff] at hq);simp [Ya, *,-Ax.CV.bool.injEq];rfl));(focus (intro hp hq;(try simp only [Bool.not_eq_true',Bool.not_eq_false',decide_eq_true_eq,decide_eq_false_iff_not,Bool.and_eq_true,Bool.or_eq_false_iff] at hp hq);simp [Ya, *,-Ax.CV.bool.injEq];rfl));intro z hz | (apply AOpl.passC;rfl);focus simp [Ya, *,-Ax.CV.bool.injEq];done | (apply AOpl.lookC;rfl);(focus (simp [Ya, *,-Ax.CV.bool.injEq,-Option.some.injEq];rfl));focus intro _;simp [Ya, *,-Option.some.injEq];rfl)
  cases z with
  | false =>
    simp at hz;rw [shpT_er (e:=1) (by unfold shpE;simp (decide:=true) only [if_true,if_false,Nat.not_lt_zero,false_or];first | rw [if_pos (by omega)] | (rw [if_pos (by rcases es with _ | ⟨_,_⟩ <;> simp_all <;> omega)])) (by decide)];refine gW ?_
    ((apply AOpl.callP);(focus rfl);(focus (first | rfl | (simp [*];done)));(focus simp [*,-Option.some.injEq];rfl);kernel_rfl)
    ·exact need_no 1 _
    rfl
  | true =>
  have hne:¬ (es.length<1∨1<es.length):=by simp at hz;first | omega | (rcases es with _ | ⟨_,_⟩ <;> simp_all <;> omega)
  clear hz;refine gW ?_
  ((apply Xr);(focus rfl);(focus (first | rfl | (simp [*];done)));(focus simp [*,-Option.some.injEq];rfl);kernel_rfl)
  ·exact need_ok 1 _
  by_cases hb:b=[]
  case neg =>
   have hlb:0<b.length:=List.length_pos_iff.mpr hb;rw [shpT_er (e:=1) (by unfold shpE;simp (decide:=true) only [if_true,if_false,Nat.not_lt_zero,false_or];rw [if_neg hne];try simp [hlb]) (by decide)];refine gWf Ya ?_
   ((apply AOpl.callP);(focus rfl);(focus (first | rfl | (simp [*];done)));(focus simp [*,-Option.some.injEq];rfl);kernel_rfl)
   ·exact need_no 1 _
   rfl
  subst hb;refine gWf Ya ?_
  ((apply Xr);(focus rfl);(focus (first | rfl | (simp [*];done)));(focus simp [*,-Option.some.injEq];rfl);kernel_rfl)
  ·exact need_ok 1 _
  by_cases hl:el=[]
  case neg =>
   have hll:0<el.length:=List.length_pos_iff.mpr hl;rw [shpT_er (e:=1) (by unfold shpE;simp (decide:=true) only [if_true,if_false,Nat.not_lt_zero,false_or];rw [if_neg hne];try simp [hll]) (by decide)];refine gWf Ya ?_
   ((apply AOpl.callP);(focus rfl);(focus (first | rfl | (simp [*];done)));(focus simp [*,-Option.some.injEq];rfl);kernel_rfl)
   ·exact need_no 1 _
   rfl
  subst hl;refine gWf Ya ?_
  ((apply Xr);(focus rfl);(focus (first | rfl | (simp [*];done)));(focus simp [*,-Option.some.injEq];rfl);kernel_rfl)
  ·exact need_ok 1 _
  rw [shpT_ok (by unfold shpE;simp (decide:=true) only [if_true,if_false,Nat.not_lt_zero,false_or];rw [if_neg hne];try simp)];refine gW ?_
  (refine⟨_,(by simp [*];rfl),?_⟩;(try simp only [packA]))
  all_goals rfl
end
section
open Lx Ax Go.RowKit
/-- The checker stands in block b, with its scope. -/
structure CkI (h:List Cd) (cls res:Bytes) (b:Nat) (H:Heap) (nx:Nat) (c:CV) (sc:List Fld) (at':Int):Prop where
 blk:H b=some (.cells [.lst (h.map cvD),.str cls,.str res,c,.int .i64 at'])
 own:OwnR cvF 2 H nx c sc
 lt:b<nx
 ne:∀ m,c≠.sl b 0 m 2
/-- What stands after code that works on the checker. -/
structure CkP (h:List Cd) (cls res:Bytes) (b:Nat) (H:Heap) (nx:Nat) (c:CV) (sc':List Fld) (H':Heap) (nx':Nat) (c':CV) (at':Int):Prop where
 ck:CkI h cls res b H' nx' c' sc' at'
 le:nx≤nx'
 from':∀ x m,c'=.sl x 0 m 2→(∃ m',c=.sl x 0 m' 2)∨nx≤x
 fr:∀ x,x<nx→x≠b→(∀ m,c≠.sl x 0 m 2)→H' x=H x
def StQ (h:List Cd)(cls res:Bytes)(b:Nat)(H:Heap)(nx:Nat)(c:CV)(t:Tk (List Fld))(r:Res)(H':Heap)(nx':Nat):Prop:=match t with
 | .error e=>r=.pan (fltV e)∧∃ sc' c' at',CkP h cls res b H nx c sc' H' nx' c' at'
 | .ok sc'=>r=.ret (.tup [])∧∃ c' at',CkP h cls res b H nx c sc' H' nx' c' at'
theorem CkP.trans {h:List Cd}{cls res:Bytes}{b:Nat}{H H1 H2:Heap}{nx nx1 nx2:Nat}{c c1 c2:CV}{s1 s2:List Fld}{a1 a2:Int}(p:CkP h cls res b H nx c s1 H1 nx1 c1 a1)(q:CkP h cls res b H1 nx1 c1 s2 H2 nx2 c2 a2):CkP h cls res b H nx c s2 H2 nx2 c2 a2 where
 ck:=q.ck
 le:=Nat.le_trans p.le q.le
 from' x m hx:=by
  rcases q.from' x m hx with⟨m',h1⟩ | h1
  ·exact p.from' x m' h1
  ·exact .inr (Nat.le_trans p.le h1)
 fr x hx hb hc:=by
  rw [q.fr x (Nat.lt_of_lt_of_le hx p.le) hb (fun m hm=>?_),p.fr x hx hb hc];rcases p.from' x m hm with⟨m',h1⟩ | h1
  ·exact hc m' h1
  ·omega
/-- The scope as it was, the rest of the memory as it was. -/
theorem CkI.same {h:List Cd}{cls res:Bytes}{b:Nat}{H H1:Heap}{nx nx1:Nat}{c:CV}{sc:List Fld}{a a1:Int}(i:CkI h cls res b H nx c sc a)(hb:H1 b=some (.cells [.lst (h.map cvD),.str cls,.str res,c,.int .i64 a1]))(hn:nx≤nx1)(hf:∀ x,x<nx→x≠b→H1 x=H x):CkP h cls res b H nx c sc H1 nx1 c a1 where
 ck:=⟨hb,i.own.keep hn fun x hx hc=>hf x hx (fun e=>i.ne _ (by rw [← e];exact hc)),Nat.lt_of_lt_of_le i.lt hn,i.ne⟩
 le:=hn
 from' x m hx:=.inl ⟨m,hx⟩
 fr x hx hb _:=hf x hx hb
theorem CkI.refl {h:List Cd}{cls res:Bytes}{b:Nat}{H:Heap}{nx:Nat}{c:CV}{sc:List Fld}{a:Int}(i:CkI h cls res b H nx c sc a):CkP h cls res b H nx c sc H nx c a:=i.same i.blk (Nat.le_refl _) fun _ _ _=>rfl
/-- The scope as new. -/
theorem CkI.newS {h:List Cd}{cls res:Bytes}{b:Nat}{H H1:Heap}{nx nx1 N n:Nat}{c:CV}{sc sc':List Fld}{a a1:Int}(i:CkI h cls res b H nx c sc a)(hb:H1 b=some (.cells [.lst (h.map cvD),.str cls,.str res,.sl N 0 n 2,.int .i64 a1]))(hN:H1 N=some (.cells (sc'.flatMap cvF)))(hl:n=sc'.length)(h0:nx≤N)(h1:N<nx1)(hf:∀ x,x<nx→x≠b→(∀ m,c≠.sl x 0 m 2)→H1 x=H x):CkP h cls res b H nx c sc' H1 nx1 (.sl N 0 n 2) a1 where
 ck:=⟨hb,OwnR.isN0 hN h1 n hl,by have:=i.lt;omega,fun m hm=>by cases hm;have:=i.lt;omega⟩
 le:=by omega
 from' x m hx:=by cases hx;exact .inr h0
 fr:=hf
/-- The checker looked at as a frozen one. -/
theorem CkI.ln {h:List Cd}{cls res:Bytes}{b:Nat}{H:Heap}{nx:Nat}{c:CV}{sc:List Fld}{a:Int}(i:CkI h cls res b H nx c sc a)(l:List CV):LnL H (.ptr b 0::l) (ckV h cls res sc a::l) :=
 LnL.cons (Ln.ptrL i.blk (LnL.cons (.same _) (LnL.cons (.same _) (LnL.cons (.same _) (LnL.cons (i.own.ln cvF_len) (LnL.cons (.same _) LnL.nil)))))) (LnL.same l)
mutual
/-- Names that fit. -/
def NmS:St→Prop
 | .mk _ nm _ _ b el=>nm.length≤maxLen∧NmSs b∧NmSs el
def NmSs:List St→Prop
 | []=>True
 | s::l=>NmS s∧NmSs l
end
theorem NmSs_mem:∀ {l:List St} {s:St},NmSs l→s∈l→NmS s
 | a::l,s,h,hs=>by
   rw [NmSs] at h;rcases List.mem_cons.mp hs with rfl | hs
   ·exact h.1
   ·exact NmSs_mem h.2 hs
/-- What stmt does with a statement. -/
def StOk (h:List Cd)(cls res:Bytes)(b:Nat)(s:St):Prop:=∀ H nx c sc a,sc.length+stSz s≤lim→CkI h cls res b H nx c sc a→ACall Tryz.prog tkG 73 [.ptr b 0,.agg (cvS s)] H nx (StQ h cls res b H nx c (stT h cls res sc s))
def blQ (t:Tk Unit)(sc:List Fld):Tk (List Fld):=match t with
 | .error e=>.error e
 | .ok _=>.ok sc
/-- What block does with statements. -/
def BlOk (h:List Cd)(cls res:Bytes)(b:Nat)(l:List St):Prop:=∀ H nx c sc a,sc.length+stsSz l≤lim→CkI h cls res b H nx c sc a→ACall Tryz.prog tkG 47 [.ptr b 0,.lst (l.map cvS)] H nx (StQ h cls res b H nx c (blQ (blT h cls res sc l) sc))
end
section
open Lx Ax Go.RowKit
attribute [local simp] stepS Ax.stepT Dl.on qstep astep estep rd putE over argE ofV ofS loadA pickCells isAggD faddA fieldA partA iaddA idxA sliA bnd binA intA strA unA convA bltA lenA mapOf findK keyD scalD storeA appA srcA srcD upd drp Dl.hp Dl.nx CV.cs CV.one buildA placesA fillA zrep tasA ifaceD eqA eqFs eqIs range2 copyA nbeq nble nblt decEq beqI bneI beqS bneS isED Int.ofNat_inj List.getElem?_map List.getElem?_eq_getElem Option.map_some ti_int ti_bool ti_str ti_i64 ti_Strs ti_Flds ti_Fld ti_Cds ti_Cd ti_Sgs ti_Sg ti_Hi ti_Exs ti_Ex ti_Sts ti_St ti_Chk ti_Flt ti_Errno gd gdB callA resA op1
attribute [local simp] nu1 nu2 nu3 nu4 nu5 nu6 nu7 nu8 nu9 nu10 nu11 nu12 nu13 upd_upd
section
variable (h:List Cd) (cls res:Bytes) (b:Nat)
theorem kindAt_one (e:Ex):kindAt [e]=e.kind:=rfl
theorem ex0_one (h:List Cd)(cls:Bytes)(sc:List Fld)(e:Ex):ex0T h cls sc [e] 0=exT9 h cls sc e:=rfl
theorem stSz_mk (k:Int)(nm ty:Bytes)(es:List Ex)(b el:List St):stSz (.mk k nm ty es b el)=exsSz es+stsSz b+stsSz el+1:=by rw [stSz]
set_option maxRecDepth 10000 in
set_option maxHeartbeats 16000000 in
theorem tk_stShp (k:Int)(nm ty:Bytes)(es:List Ex)(bd el:List St)(h0:shpE k es.length bd.length el.length≠0):StOk h cls res b (.mk k nm ty es bd el):=by
 intro H nx c sc a hlen hi;refine ACall.of_body Tryz.func73 rfl ?_;have hb:=hi.blk;have qb:=far hi.lt;have hsh:=tk_shape k nm ty es bd el;rw [stT,if_pos h0];rw [shpT_er rfl h0] at hsh;have hsh':FRes Tryz.prog tkG 90 [.agg [.int .i64 k,.str nm,.str ty,.lst (es.map cvE),.lst (bd.map cvS),.lst (el.map cvS)]] (.pan (fltV (shpE k es.length bd.length el.length))):=by rw [Ya] at hsh;exact hsh
 clear hsh;refine gWf Ya ?_
 ((apply AOpl.callP);(focus rfl);(focus (first | rfl | (simp [*];done)));(focus simp [*,-Option.some.injEq];rfl);kernel_rfl)
 ·exact hsh' _
 clear hsh';refine⟨rfl,sc,c,IntKind.i64.wrap (a+1),hi.same (upd_hit _ _ _) (Nat.le_succ nx) fun x hx hxb=>?_⟩;rw [upd_miss _ _ _ _ hxb,upd_miss _ _ _ _ (by omega)]
set_option maxRecDepth 10000 in
set_option maxHeartbeats 16000000 in
theorem tk_st9 (hc:HC h)(nm ty:Bytes)(es:List Ex)(bd el:List St)(h0:shpE 9 es.length bd.length el.length=0):StOk h cls res b (.mk 9 nm ty es bd el):=by
 intro H nx c sc a hlen hi;refine ACall.of_body Tryz.func73 rfl ?_;have hb:=hi.blk;have qb:=far hi.lt;have hsh:=tk_shape 9 nm ty es bd el;have hsc:sc.length≤lim:=by omega
 have hEx:=fun (a:Int) (e:Ex) (he:exSz e≤lim)=>tk_expr h cls res sc a hc hsc lim e he he
 obtain⟨w,hw⟩:∃ w,stT h cls res sc (.mk 9 nm ty es bd el)=w:=⟨_,rfl⟩;rw [hw];rw [stT] at hw;rw [if_neg (by rw [h0];simp)] at hw;rw [shpT_ok h0] at hsh;have hsh':FRes Tryz.prog tkG 90 [.agg [.int .i64 9,.str nm,.str ty,.lst (es.map cvE),.lst (bd.map cvS),.lst (el.map cvS)]] (.ret (.tup [])):=by rw [Ya] at hsh;exact hsh
 clear hsh;refine gWf Ya ?_
 ((apply Xr);(focus rfl);(focus (first | rfl | (simp [*];done)));(focus simp [*,-Option.some.injEq];rfl);kernel_rfl)
 ·exact hsh' _
 clear hsh';generalize IntKind.i64.wrap (a+1)=a1;generalize hH:upd _ b _=H1;have hb1:H1 b=some (.cells [.lst (h.map cvD),.str cls,.str res,c,.int .i64 a1]):=by rw [← hH,upd_hit]
 have h3:H1 nx=some (.cells [.int .i64 9,.str nm,.str ty,.lst (es.map cvE),.lst (bd.map cvS),.lst (el.map cvS)]):=by rw [← hH];simp [upd, *]
 have hf1:∀ x,x<nx→x≠b→H1 x=H x:=fun x hx hxb=>by rw [← hH,upd_miss _ _ _ _ hxb,upd_miss _ _ _ _ (by omega)]
 have P1:=hi.same hb1 (Nat.le_succ nx) hf1;have hi1:=P1.ck;clear hH hb hi qb hf1;have qb:=hi1.lt;obtain⟨e,rfl⟩:∃ e,es=[e]:=by
  match es,h0 with
  | [],h0=>exact absurd h0 (by unfold shpE;simp)
  | [e],_=>exact⟨e,rfl⟩
  | _::_::_,h0=>exact absurd h0 (by unfold shpE;simp)
 have hes:exSz e≤lim:=by rw [stSz_mk,exsSz,exsSz] at hlen;omega
 simp (decide:=true) only [if_true,if_false,simT,kindAt_one,ex0_one] at hw
 by_cases hk:e.kind=9∨e.kind=10
 case neg =>
  simp only [hk,if_false] at hw;rw [← hw];have hk9:¬ e.kind=9:=fun h=>hk (.inl h)
  have hk10:¬ e.kind=10:=fun h=>hk (.inr h)
  clear hw hEx hk;refine gWf (Xz e) ?_
  ((apply AOpl.callP);(focus rfl);(focus (first | rfl | (simp [*];done)));(focus simp [*,-Option.some.injEq];rfl);kernel_rfl)
  ·exact need_no 12 _
  exact⟨rfl,sc,c,a1,P1⟩
 simp only [hk,if_true] at hw;have hx0:=hEx a1 e (by omega);unfold ExOk at hx0;rw [Xz e] at hx0;cases hx:exT9 h cls sc e with
 | error x =>
   rw [hx] at hx0 hw;have hx1:FRes Tryz.prog tkG 95 [ckV h cls res sc a1,.agg [.int .i64 e.kind,.int .i64 e.n,.str e.of,.str e.name,.lst (e.kids.map cvE)]] (.pan (fltV x)):=hx0;clear hx0 hx hEx;simp only [andT] at hw;rw [← hw];clear hw;rcases hk with hk | hk
   ·refine gWf (Xz e) ?_
    ((apply Xr);(focus rfl);(focus (first | rfl | (simp [*];done)));(focus simp [*,-Option.some.injEq];rfl);kernel_rfl)
    ·exact need_ok 12 _
    rw [hk] at hx1;refine gWf (Xz e) ?_
    ((apply AOpl.callP);(focus rfl);(focus (first | rfl | (simp [*];done)));(focus simp [*,-Option.some.injEq];rfl);kernel_rfl)
    ·exact FRes.lend tkG_pu hx1 rfl (by simp [puL,puV,puEs,ckV_pu]) (hi1.ln _)
    exact⟨rfl,sc,c,a1,P1⟩
   ·refine gWf (Xz e) ?_
    ((apply Xr);(focus rfl);(focus (first | rfl | (simp [*];done)));(focus simp [*,-Option.some.injEq];rfl);kernel_rfl)
    ·exact need_ok 12 _
    rw [hk] at hx1;refine gWf (Xz e) ?_
    ((apply AOpl.callP);(focus rfl);(focus (first | rfl | (simp [*];done)));(focus simp [*,-Option.some.injEq];rfl);kernel_rfl)
    ·exact FRes.lend tkG_pu hx1 rfl (by simp [puL,puV,puEs,ckV_pu]) (hi1.ln _)
    exact⟨rfl,sc,c,a1,P1⟩
 | ok t =>
   rw [hx] at hx0 hw;have hx1:FRes Tryz.prog tkG 95 [ckV h cls res sc a1,.agg [.int .i64 e.kind,.int .i64 e.n,.str e.of,.str e.name,.lst (e.kids.map cvE)]] (.ret (.str t)):=hx0;clear hx0 hx hEx;simp only [andT] at hw;rw [← hw];clear hw;rcases hk with hk | hk
   ·refine gWf (Xz e) ?_
    ((apply Xr);(focus rfl);(focus (first | rfl | (simp [*];done)));(focus simp [*,-Option.some.injEq];rfl);kernel_rfl)
    ·exact need_ok 12 _
    rw [hk] at hx1;refine gWf (Xz e) ?_
    ((apply Xr);(focus rfl);(focus (first | rfl | (simp [*];done)));(focus simp [*,-Option.some.injEq];rfl);kernel_rfl)
    ·exact FRes.lend tkG_pu hx1 rfl (by simp [puL,puV,puEs,ckV_pu]) (hi1.ln _)
    refine gW ?_
    (refine⟨_,(by simp [*];rfl),?_⟩;(try simp only [packA]))
    exact⟨rfl,c,a1,P1⟩
   ·refine gWf (Xz e) ?_
    ((apply Xr);(focus rfl);(focus (first | rfl | (simp [*];done)));(focus simp [*,-Option.some.injEq];rfl);kernel_rfl)
    ·exact need_ok 12 _
    rw [hk] at hx1;refine gWf (Xz e) ?_
    ((apply Xr);(focus rfl);(focus (first | rfl | (simp [*];done)));(focus simp [*,-Option.some.injEq];rfl);kernel_rfl)
    ·exact FRes.lend tkG_pu hx1 rfl (by simp [puL,puV,puEs,ckV_pu]) (hi1.ln _)
    refine gW ?_
    (refine⟨_,(by simp [*];rfl),?_⟩;(try simp only [packA]))
    exact⟨rfl,c,a1,P1⟩
set_option maxRecDepth 10000 in
set_option maxHeartbeats 16000000 in
theorem tk_st7 (hc:HC h)(nm ty:Bytes)(es:List Ex)(bd el:List St)(h0:shpE 7 es.length bd.length el.length=0):StOk h cls res b (.mk 7 nm ty es bd el):=by
 intro H nx c sc a hlen hi;refine ACall.of_body Tryz.func73 rfl ?_;have hb:=hi.blk;have qb:=far hi.lt;have hsh:=tk_shape 7 nm ty es bd el;have hsc:sc.length≤lim:=by omega
 have hEx:=fun (a:Int) (e:Ex) (he:exSz e≤lim)=>tk_expr h cls res sc a hc hsc lim e he he
 obtain⟨w,hw⟩:∃ w,stT h cls res sc (.mk 7 nm ty es bd el)=w:=⟨_,rfl⟩;rw [hw];rw [stT] at hw;rw [if_neg (by rw [h0];simp)] at hw;rw [shpT_ok h0] at hsh;have hsh':FRes Tryz.prog tkG 90 [.agg [.int .i64 7,.str nm,.str ty,.lst (es.map cvE),.lst (bd.map cvS),.lst (el.map cvS)]] (.ret (.tup [])):=by rw [Ya] at hsh;exact hsh
 clear hsh;refine gWf Ya ?_
 ((apply Xr);(focus rfl);(focus (first | rfl | (simp [*];done)));(focus simp [*,-Option.some.injEq];rfl);kernel_rfl)
 ·exact hsh' _
 clear hsh';generalize IntKind.i64.wrap (a+1)=a1;generalize hH:upd _ b _=H1;have hb1:H1 b=some (.cells [.lst (h.map cvD),.str cls,.str res,c,.int .i64 a1]):=by rw [← hH,upd_hit]
 have h3:H1 nx=some (.cells [.int .i64 7,.str nm,.str ty,.lst (es.map cvE),.lst (bd.map cvS),.lst (el.map cvS)]):=by rw [← hH];simp [upd, *]
 have hf1:∀ x,x<nx→x≠b→H1 x=H x:=fun x hx hxb=>by rw [← hH,upd_miss _ _ _ _ hxb,upd_miss _ _ _ _ (by omega)]
 have P1:=hi.same hb1 (Nat.le_succ nx) hf1;have hi1:=P1.ck;clear hH hb hi qb hf1;have qb:=hi1.lt;obtain⟨e,rfl⟩:∃ e,es=[e]:=by
  match es,h0 with
  | [],h0=>exact absurd h0 (by unfold shpE;simp)
  | [e],_=>exact⟨e,rfl⟩
  | _::_::_,h0=>exact absurd h0 (by unfold shpE;simp)
 have hes:exSz e≤lim:=by rw [stSz_mk,exsSz,exsSz] at hlen;omega
 simp (decide:=true) only [if_true,if_false,simT,ex0_one] at hw;have hx0:=hEx a1 e (by omega);unfold ExOk at hx0;rw [Xz e] at hx0;cases hx:exT9 h cls sc e with
 | error x =>
   rw [hx] at hx0 hw;have hx1:FRes Tryz.prog tkG 95 [ckV h cls res sc a1,.agg [.int .i64 e.kind,.int .i64 e.n,.str e.of,.str e.name,.lst (e.kids.map cvE)]] (.pan (fltV x)):=hx0;clear hx0 hx hEx;simp only at hw;rw [← hw];clear hw;refine gWf (Xz e) ?_
   ((apply AOpl.callP);(focus rfl);(focus (first | rfl | (simp [*];done)));(focus simp [*,-Option.some.injEq];rfl);kernel_rfl)
   ·exact FRes.lend tkG_pu hx1 rfl (by simp [puL,puV,puEs,ckV_pu]) (hi1.ln _)
   exact⟨rfl,sc,c,a1,P1⟩
 | ok t =>
   rw [hx] at hx0 hw;have hx1:FRes Tryz.prog tkG 95 [ckV h cls res sc a1,.agg [.int .i64 e.kind,.int .i64 e.n,.str e.of,.str e.name,.lst (e.kids.map cvE)]] (.ret (.str t)):=hx0;clear hx0 hx hEx;have hcl:=tk_isClass h hc.le t;simp only at hw
   by_cases hn:t=nullB
   ·rw [if_pos (.inl hn)] at hw;rw [← hw];simp only [nullB] at hn;clear hw hcl;subst hn;refine gWf (Xz e) ?_
    ((apply Xr);(focus rfl);(focus (first | rfl | (simp [*];done)));(focus simp [*,-Option.some.injEq];rfl);kernel_rfl)
    ·exact FRes.lend tkG_pu hx1 rfl (by simp [puL,puV,puEs,ckV_pu]) (hi1.ln _)
    refine gW ?_
    ((apply Xr);(focus rfl);(focus (first | rfl | (simp [*];done)));(focus simp [*,-Option.some.injEq];rfl);kernel_rfl)
    ·exact need_ok 8 _
    refine gW ?_
    (refine⟨_,(by simp [*];rfl),?_⟩;(try simp only [packA]))
    exact⟨rfl,c,a1,P1⟩
   cases hv:clsB h t with
   | true =>
     rw [if_pos (.inr hv)] at hw;rw [hv] at hcl;rw [← hw];simp only [nullB] at hn;clear hw hv;refine gWf (Xz e) ?_
     ((apply Xr);(focus rfl);(focus (first | rfl | (simp [*];done)));(focus simp [*,-Option.some.injEq];rfl);kernel_rfl)
     ·exact FRes.lend tkG_pu hx1 rfl (by simp [puL,puV,puEs,ckV_pu]) (hi1.ln _)
     refine gW ?_
     ((apply Xr);(focus rfl);(focus (first | rfl | (simp [*];done)));(focus simp [*,-Option.some.injEq];rfl);kernel_rfl)
     ·exact hcl _
     refine gW ?_
     ((apply Xr);(focus rfl);(focus (first | rfl | (simp [*];done)));(focus simp [*,-Option.some.injEq];rfl);kernel_rfl)
     ·exact need_ok 8 _
     refine gW ?_
     (refine⟨_,(by simp [*];rfl),?_⟩;(try simp only [packA]))
     exact⟨rfl,c,a1,P1⟩
   | false =>
     rw [if_neg (by rw [hv];simp [hn])] at hw;rw [hv] at hcl;rw [← hw];simp only [nullB] at hn;clear hw hv;refine gWf (Xz e) ?_
     ((apply Xr);(focus rfl);(focus (first | rfl | (simp [*];done)));(focus simp [*,-Option.some.injEq];rfl);kernel_rfl)
     ·exact FRes.lend tkG_pu hx1 rfl (by simp [puL,puV,puEs,ckV_pu]) (hi1.ln _)
     refine gW ?_
     ((apply Xr);(focus rfl);(focus (first | rfl | (simp [*];done)));(focus simp [*,-Option.some.injEq];rfl);kernel_rfl)
     ·exact hcl _
     refine gW ?_
     ((apply AOpl.callP);(focus rfl);(focus (first | rfl | (simp [*];done)));(focus simp [*,-Option.some.injEq];rfl);kernel_rfl)
     ·exact need_no 8 _
     exact⟨rfl,sc,c,a1,P1⟩
end
end
end Go.Proofs.YtoookjadbhdfhaaGreatDoor
