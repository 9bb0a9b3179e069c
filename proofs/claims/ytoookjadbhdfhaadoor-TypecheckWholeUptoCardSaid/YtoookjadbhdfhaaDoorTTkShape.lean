/-
  shape of the checker; walked.
-/
import Derived.Test.YtoookjadbhdfhaaDoorTTkExpr
set_option linter.unusedSectionVars false
set_option linter.unusedSimpArgs false
set_option linter.unnecessarySimpa false
set_option linter.unusedVariables false
set_option linter.unusedSimpArgs false
set_option linter.unusedVariables false
namespace Go.Proofs.YtoookjadbhdfhaaDoor
open Lx Ax Go.RowKit
attribute [local simp] stepS Ax.stepT Dl.on qstep astep estep rd putE over argE ofV ofS loadA pickCells isAggD faddA fieldA partA iaddA idxA sliA bnd binA intA strA unA convA bltA lenA mapOf findK keyD scalD storeA appA srcA srcD upd drp Dl.hp Dl.nx CV.cs CV.one buildA placesA fillA zrep tasA ifaceD eqA eqFs eqIs range2 copyA nbeq nble nblt decEq beqI bneI beqS bneS isED Int.ofNat_inj List.getElem?_map List.getElem?_eq_getElem Option.map_some ti_int ti_bool ti_str ti_i64 ti_Strs ti_Exs ti_Ex ti_Sts ti_St ti_Flt ti_Errno gd gdB callA resA op1
attribute [local simp] nu1 nu2 nu3 nu4 nu5 nu6 nu7 nu8 nu9 nu10 nu11 nu12 nu13 upd_upd
/-- What shape says of a statement. -/
def shpT (k:Int)(ne nb nl:Nat):Tk Unit:=if shpE k ne nb nl=0 then .ok () else .error (shpE k ne nb nl)
theorem shpT_ok {k:Int}{ne nb nl:Nat}(h:shpE k ne nb nl=0):shpT k ne nb nl=.ok ():=by unfold shpT;rw [if_pos h]
theorem shpT_er {k:Int}{ne nb nl e:Nat}(h:shpE k ne nb nl=e)(he:e≠0):shpT k ne nb nl=.error e:=by unfold shpT;rw [h,if_neg he]
set_option maxRecDepth 10000 in
set_option maxHeartbeats 16000000 in
theorem tk_shape (k:Int)(nm ty:Bytes)(es:List Ex)(b el:List St):FRes Tryd.prog tkG 60 [.agg (cvS (.mk k nm ty es b el))] (tkU (shpT k es.length b.length el.length)):=by
 refine FRes.ofBody tkG_pu (by simp [puL,puV,puS]) (tkU_pu _) Tryd.func60 rfl rfl fun nx=>?_
 by_cases h0:k<1∨9<k
 ·rw [shpT_er (e:=12) (by unfold shpE;rw [if_pos h0]) (by decide)];have e1:¬ k=1:=by omega
  have e2:¬ k=2:=by omega
  have e3:¬ k=3:=by omega
  have e4:¬ k=4:=by omega
  have e5:¬ k=5:=by omega
  have e6:¬ k=6:=by omega
  have e7:¬ k=7:=by omega
  have e8:¬ k=8:=by omega
  have e9:¬ k=9:=by omega
  repeat (first | (first | (apply Xf;rfl) | apply Xj);focus simp [Xz, *,-Option.some.injEq];rfl | (first | (apply Xa;rfl) | apply Xb);(focus simp [Xz, *];done);focus simp [Xz, *,-Option.some.injEq];rfl | (first | (apply Xg;rfl) | apply Xk);(focus simp [Xz, *];done) | (first | refine Xl ?_ | refine Xi ?_ | refine Xh ?_ | refine Xo ?_ | refine Xq ?_);try simp only [Xw,Xx,reduceIte,Nat.reduceEqDiff] | refine Xn ?_ | refine Xp rfl ?_ | refine Xc ?_ | apply Xd;focus simp [Xz, *];done | apply Xe;focus simp [Xz, *];done | refine Ya rfl rfl ?_)
  ((apply AOpl.callP);(focus rfl);(focus (first | rfl | (simp [*];done)));(focus simp [*,-Option.some.injEq];rfl);kernel_rfl)
  ·exact need_no 12 _
  rfl
 obtain h1 | h2 | h3 | h4 | h5 | h6 | h7 | h8 | h9:k=1∨k=2∨k=3∨k=4∨k=5∨k=6∨k=7∨k=8∨k=9:=by omega
 ·subst h1;clear h0
  by_cases hM:(es.length:Int)≤1
  case neg =>
   rw [shpT_er (e:=1) (by unfold shpE;simp (decide:=true) only [if_true,if_false,Nat.not_lt_zero,false_or];rw [if_pos (by omega)]) (by decide)]
   repeat (first | (first | (apply Xf;rfl) | apply Xj);focus simp [Xz, *,-Option.some.injEq];rfl | (first | (apply Xa;rfl) | apply Xb);(focus simp [Xz, *];done);focus simp [Xz, *,-Option.some.injEq];rfl | (first | (apply Xg;rfl) | apply Xk);(focus simp [Xz, *];done) | (first | refine Xl ?_ | refine Xi ?_ | refine Xh ?_ | refine Xo ?_ | refine Xq ?_);try simp only [Xw,Xx,reduceIte,Nat.reduceEqDiff] | refine Xn ?_ | refine Xp rfl ?_ | refine Xc ?_ | apply Xd;focus simp [Xz, *];done | apply Xe;focus simp [Xz, *];done | refine Ya rfl rfl ?_)
   ((apply AOpl.callP);(focus rfl);(focus (first | rfl | (simp [*];done)));(focus simp [*,-Option.some.injEq];rfl);kernel_rfl)
   ·exact need_no 1 _
   rfl
  have hne:¬ 1<es.length:=by omega
  repeat (first | (first | (apply Xf;rfl) | apply Xj);focus simp [Xz, *,-Option.some.injEq];rfl | (first | (apply Xa;rfl) | apply Xb);(focus simp [Xz, *];done);focus simp [Xz, *,-Option.some.injEq];rfl | (first | (apply Xg;rfl) | apply Xk);(focus simp [Xz, *];done) | (first | refine Xl ?_ | refine Xi ?_ | refine Xh ?_ | refine Xo ?_ | refine Xq ?_);try simp only [Xw,Xx,reduceIte,Nat.reduceEqDiff] | refine Xn ?_ | refine Xp rfl ?_ | refine Xc ?_ | apply Xd;focus simp [Xz, *];done | apply Xe;focus simp [Xz, *];done | refine Ya rfl rfl ?_)
  ((apply Xr);(focus rfl);(focus (first | rfl | (simp [*];done)));(focus simp [*,-Option.some.injEq];rfl);kernel_rfl)
  ·exact need_ok 1 _
  clear hM
  by_cases hb:b=[]
  case neg =>
   have hlb:0<b.length:=List.length_pos_iff.mpr hb;rw [shpT_er (e:=1) (by unfold shpE;simp (decide:=true) only [if_true,if_false,Nat.not_lt_zero,false_or];rw [if_neg hne];try simp [hlb]) (by decide)]
   repeat (first | (first | (apply Xf;rfl) | apply Xj);focus simp [Xz, *,-Option.some.injEq];rfl | (first | (apply Xa;rfl) | apply Xb);(focus simp [Xz, *];done);focus simp [Xz, *,-Option.some.injEq];rfl | (first | (apply Xg;rfl) | apply Xk);(focus simp [Xz, *];done) | (first | refine Xl ?_ | refine Xi ?_ | refine Xh ?_ | refine Xo ?_ | refine Xq ?_);try simp only [Xw,Xx,reduceIte,Nat.reduceEqDiff] | refine Xn ?_ | refine Xp rfl ?_ | refine Xc ?_ | apply Xd;focus simp [Xz, *];done | apply Xe;focus simp [Xz, *];done | refine Ya rfl rfl ?_)
   ((apply AOpl.callP);(focus rfl);(focus (first | rfl | (simp [*];done)));(focus simp [*,-Option.some.injEq];rfl);kernel_rfl)
   ·exact need_no 1 _
   rfl
  subst hb
  repeat (first | (first | (apply Xf;rfl) | apply Xj);focus simp [Xz, *,-Option.some.injEq];rfl | (first | (apply Xa;rfl) | apply Xb);(focus simp [Xz, *];done);focus simp [Xz, *,-Option.some.injEq];rfl | (first | (apply Xg;rfl) | apply Xk);(focus simp [Xz, *];done) | (first | refine Xl ?_ | refine Xi ?_ | refine Xh ?_ | refine Xo ?_ | refine Xq ?_);try simp only [Xw,Xx,reduceIte,Nat.reduceEqDiff] | refine Xn ?_ | refine Xp rfl ?_ | refine Xc ?_ | apply Xd;focus simp [Xz, *];done | apply Xe;focus simp [Xz, *];done | refine Ya rfl rfl ?_)
  ((apply Xr);(focus rfl);(focus (first | rfl | (simp [*];done)));(focus simp [*,-Option.some.injEq];rfl);kernel_rfl)
  ·exact need_ok 1 _
  by_cases hl:el=[]
  case neg =>
   have hll:0<el.length:=List.length_pos_iff.mpr hl;rw [shpT_er (e:=1) (by unfold shpE;simp (decide:=true) only [if_true,if_false,Nat.not_lt_zero,false_or];rw [if_neg hne];try simp [hll]) (by decide)]
   repeat (first | (first | (apply Xf;rfl) | apply Xj);focus simp [Xz, *,-Option.some.injEq];rfl | (first | (apply Xa;rfl) | apply Xb);(focus simp [Xz, *];done);focus simp [Xz, *,-Option.some.injEq];rfl | (first | (apply Xg;rfl) | apply Xk);(focus simp [Xz, *];done) | (first | refine Xl ?_ | refine Xi ?_ | refine Xh ?_ | refine Xo ?_ | refine Xq ?_);try simp only [Xw,Xx,reduceIte,Nat.reduceEqDiff] | refine Xn ?_ | refine Xp rfl ?_ | refine Xc ?_ | apply Xd;focus simp [Xz, *];done | apply Xe;focus simp [Xz, *];done | refine Ya rfl rfl ?_)
   ((apply AOpl.callP);(focus rfl);(focus (first | rfl | (simp [*];done)));(focus simp [*,-Option.some.injEq];rfl);kernel_rfl)
   ·exact need_no 1 _
   rfl
  subst hl
  repeat (first | (first | (apply Xf;rfl) | apply Xj);focus simp [Xz, *,-Option.some.injEq];rfl | (first | (apply Xa;rfl) | apply Xb);(focus simp [Xz, *];done);focus simp [Xz, *,-Option.some.injEq];rfl | (first | (apply Xg;rfl) | apply Xk);(focus simp [Xz, *];done) | (first | refine Xl ?_ | refine Xi ?_ | refine Xh ?_ | refine Xo ?_ | refine Xq ?_);try simp only [Xw,Xx,reduceIte,Nat.reduceEqDiff] | refine Xn ?_ | refine Xp rfl ?_ | refine Xc ?_ | apply Xd;focus simp [Xz, *];done | apply Xe;focus simp [Xz, *];done | refine Ya rfl rfl ?_)
  ((apply Xr);(focus rfl);(focus (first | rfl | (simp [*];done)));(focus simp [*,-Option.some.injEq];rfl);kernel_rfl)
  ·exact need_ok 1 _
  rw [shpT_ok (by unfold shpE;simp (decide:=true) only [if_true,if_false,Nat.not_lt_zero,false_or];rw [if_neg hne];try simp)]
  repeat (first | (first | (apply Xf;rfl) | apply Xj);focus simp [*,-Option.some.injEq];rfl | (first | (apply Xa;rfl) | apply Xb);(focus simp [*];done);focus simp [*,-Option.some.injEq];rfl | (first | (apply Xg;rfl) | apply Xk);(focus simp [*];done) | (first | refine Xl ?_ | refine Xi ?_ | refine Xh ?_ | refine Xo ?_ | refine Xq ?_);try simp only [Xw,Xx,reduceIte,Nat.reduceEqDiff] | refine Xn ?_ | refine Xp rfl ?_ | refine Xc ?_ | apply Xd;focus simp [*];done | apply Xe;focus simp [*];done | refine Ya rfl rfl ?_)
  (refine⟨_,(by simp [*];rfl),?_⟩;(try simp only [packA]))
  all_goals rfl
 ·subst h2;clear h0
  repeat (first | (first | (apply Xf;rfl) | apply Xj);focus simp [Xz, *,-Option.some.injEq];rfl | (first | (apply Xa;rfl) | apply Xb);(focus simp [Xz, *];done);focus simp [Xz, *,-Option.some.injEq];rfl | (first | (apply Xg;rfl) | apply Xk);(focus simp [Xz, *];done) | (first | refine Xl ?_ | refine Xi ?_ | refine Xh ?_ | refine Xo ?_ | refine Xq ?_);try simp only [Xw,Xx,reduceIte,Nat.reduceEqDiff] | refine Xn ?_ | refine Xp rfl ?_ | refine Xc ?_ | apply Xd;focus simp [Xz, *];done | apply Xe;focus simp [Xz, *];done | refine Ya rfl rfl ?_ | (first | (apply AOpl.pickOrZ;rfl) | (apply AOpl.pickAndZ;rfl));(focus (simp [Xz, *,-Ax.CV.bool.injEq];rfl));(focus (intro hq;(try simp only [Bool.not_eq_true',Bool.not_eq_false',decide_eq_true_eq,decide_eq_false_iff_not,Bool.and_eq_true,Bool.or_eq_false_iff] at hq);simp [Xz, *,-Ax.CV.bool.injEq];rfl));intro z hz | (first | (apply AOpl.pickOrGZ;rfl) | (apply AOpl.pickAndGZ;rfl));(focus simp [Xz, *];done);(focus (simp [Xz, *,-Ax.CV.bool.injEq];rfl));(focus (intro hq;(try simp only [Bool.not_eq_true',Bool.not_eq_false',decide_eq_true_eq,decide_eq_false_iff_not,Bool.and_eq_true,Bool.or_eq_false_iff] at hq);simp [Xz, *,-Ax.CV.bool.injEq];rfl));intro z hz | (first | (apply AOpl.pickOrCZ;rfl) | (apply AOpl.pickAndCZ;rfl));(focus (simp [Xz, *,-Ax.CV.bool.injEq,-Option.some.injEq];rfl));(focus (intro hq;(try simp only [Bool.not_eq_true',Bool.not_eq_false',decide_eq_true_eq,decide_eq_false_iff_not,Bool.and_eq_true,Bool.or_eq_false_iff] at hq);simp [Xz, *,-Ax.CV.bool.injEq];rfl));(focus (intro hp hq;(try simp only [Bool.not_eq_true',Bool.not_eq_false',decide_eq_true_eq,decide_eq_false_iff_not,Bool.and_eq_true,Bool.or_eq_false_iff] at hp hq);simp [Xz, *,-Ax.CV.bool.injEq];rfl));intro z hz | (apply AOpl.passC;rfl);focus simp [Xz, *,-Ax.CV.bool.injEq];done | (apply AOpl.lookC;rfl);(focus (simp [Xz, *,-Ax.CV.bool.injEq,-Option.some.injEq];rfl));focus intro _;simp [Xz, *,-Option.some.injEq];rfl)
  cases z with
  | false =>
    simp at hz;rw [shpT_er (e:=1) (by unfold shpE;simp (decide:=true) only [if_true,if_false,Nat.not_lt_zero,false_or];first | rw [if_pos (by omega)] | (rw [if_pos (by rcases es with _ | ⟨_,_⟩ <;> simp_all <;> omega)])) (by decide)]
    repeat (first | (first | (apply Xf;rfl) | apply Xj);focus simp [*,-Option.some.injEq];rfl | (first | (apply Xa;rfl) | apply Xb);(focus simp [*];done);focus simp [*,-Option.some.injEq];rfl | (first | (apply Xg;rfl) | apply Xk);(focus simp [*];done) | (first | refine Xl ?_ | refine Xi ?_ | refine Xh ?_ | refine Xo ?_ | refine Xq ?_);try simp only [Xw,Xx,reduceIte,Nat.reduceEqDiff] | refine Xn ?_ | refine Xp rfl ?_ | refine Xc ?_ | apply Xd;focus simp [*];done | apply Xe;focus simp [*];done | refine Ya rfl rfl ?_)
    ((apply AOpl.callP);(focus rfl);(focus (first | rfl | (simp [*];done)));(focus simp [*,-Option.some.injEq];rfl);kernel_rfl)
    ·exact need_no 1 _
    rfl
  | true =>
  have hne:¬ (es.length<1∨1<es.length):=by simp at hz;first | omega | (rcases es with _ | ⟨_,_⟩ <;> simp_all <;> omega)
  clear hz
  repeat (first | (first | (apply Xf;rfl) | apply Xj);focus simp [*,-Option.some.injEq];rfl | (first | (apply Xa;rfl) | apply Xb);(focus simp [*];done);focus simp [*,-Option.some.injEq];rfl | (first | (apply Xg;rfl) | apply Xk);(focus simp [*];done) | (first | refine Xl ?_ | refine Xi ?_ | refine Xh ?_ | refine Xo ?_ | refine Xq ?_);try simp only [Xw,Xx,reduceIte,Nat.reduceEqDiff] | refine Xn ?_ | refine Xp rfl ?_ | refine Xc ?_ | apply Xd;focus simp [*];done | apply Xe;focus simp [*];done | refine Ya rfl rfl ?_)
  ((apply Xr);(focus rfl);(focus (first | rfl | (simp [*];done)));(focus simp [*,-Option.some.injEq];rfl);kernel_rfl)
  ·exact need_ok 1 _
  by_cases hb:b=[]
  case neg =>
   have hlb:0<b.length:=List.length_pos_iff.mpr hb;rw [shpT_er (e:=1) (by unfold shpE;simp (decide:=true) only [if_true,if_false,Nat.not_lt_zero,false_or];rw [if_neg hne];try simp [hlb]) (by decide)]
   repeat (first | (first | (apply Xf;rfl) | apply Xj);focus simp [Xz, *,-Option.some.injEq];rfl | (first | (apply Xa;rfl) | apply Xb);(focus simp [Xz, *];done);focus simp [Xz, *,-Option.some.injEq];rfl | (first | (apply Xg;rfl) | apply Xk);(focus simp [Xz, *];done) | (first | refine Xl ?_ | refine Xi ?_ | refine Xh ?_ | refine Xo ?_ | refine Xq ?_);try simp only [Xw,Xx,reduceIte,Nat.reduceEqDiff] | refine Xn ?_ | refine Xp rfl ?_ | refine Xc ?_ | apply Xd;focus simp [Xz, *];done | apply Xe;focus simp [Xz, *];done | refine Ya rfl rfl ?_)
   ((apply AOpl.callP);(focus rfl);(focus (first | rfl | (simp [*];done)));(focus simp [*,-Option.some.injEq];rfl);kernel_rfl)
   ·exact need_no 1 _
   rfl
  subst hb
  repeat (first | (first | (apply Xf;rfl) | apply Xj);focus simp [Xz, *,-Option.some.injEq];rfl | (first | (apply Xa;rfl) | apply Xb);(focus simp [Xz, *];done);focus simp [Xz, *,-Option.some.injEq];rfl | (first | (apply Xg;rfl) | apply Xk);(focus simp [Xz, *];done) | (first | refine Xl ?_ | refine Xi ?_ | refine Xh ?_ | refine Xo ?_ | refine Xq ?_);try simp only [Xw,Xx,reduceIte,Nat.reduceEqDiff] | refine Xn ?_ | refine Xp rfl ?_ | refine Xc ?_ | apply Xd;focus simp [Xz, *];done | apply Xe;focus simp [Xz, *];done | refine Ya rfl rfl ?_)
  ((apply Xr);(focus rfl);(focus (first | rfl | (simp [*];done)));(focus simp [*,-Option.some.injEq];rfl);kernel_rfl)
  ·exact need_ok 1 _
  by_cases hl:el=[]
  case neg =>
   have hll:0<el.length:=List.length_pos_iff.mpr hl;rw [shpT_er (e:=1) (by unfold shpE;simp (decide:=true) only [if_true,if_false,Nat.not_lt_zero,false_or];rw [if_neg hne];try simp [hll]) (by decide)]
   repeat (first | (first | (apply Xf;rfl) | apply Xj);focus simp [Xz, *,-Option.some.injEq];rfl | (first | (apply Xa;rfl) | apply Xb);(focus simp [Xz, *];done);focus simp [Xz, *,-Option.some.injEq];rfl | (first | (apply Xg;rfl) | apply Xk);(focus simp [Xz, *];done) | (first | refine Xl ?_ | refine Xi ?_ | refine Xh ?_ | refine Xo ?_ | refine Xq ?_);try simp only [Xw,Xx,reduceIte,Nat.reduceEqDiff] | refine Xn ?_ | refine Xp rfl ?_ | refine Xc ?_ | apply Xd;focus simp [Xz, *];done | apply Xe;focus simp [Xz, *];done | refine Ya rfl rfl ?_)
   ((apply AOpl.callP);(focus rfl);(focus (first | rfl | (simp [*];done)));(focus simp [*,-Option.some.injEq];rfl);kernel_rfl)
   ·exact need_no 1 _
   rfl
  subst hl
  repeat (first | (first | (apply Xf;rfl) | apply Xj);focus simp [Xz, *,-Option.some.injEq];rfl | (first | (apply Xa;rfl) | apply Xb);(focus simp [Xz, *];done);focus simp [Xz, *,-Option.some.injEq];rfl | (first | (apply Xg;rfl) | apply Xk);(focus simp [Xz, *];done) | (first | refine Xl ?_ | refine Xi ?_ | refine Xh ?_ | refine Xo ?_ | refine Xq ?_);try simp only [Xw,Xx,reduceIte,Nat.reduceEqDiff] | refine Xn ?_ | refine Xp rfl ?_ | refine Xc ?_ | apply Xd;focus simp [Xz, *];done | apply Xe;focus simp [Xz, *];done | refine Ya rfl rfl ?_)
  ((apply Xr);(focus rfl);(focus (first | rfl | (simp [*];done)));(focus simp [*,-Option.some.injEq];rfl);kernel_rfl)
  ·exact need_ok 1 _
  rw [shpT_ok (by unfold shpE;simp (decide:=true) only [if_true,if_false,Nat.not_lt_zero,false_or];rw [if_neg hne];try simp)]
  repeat (first | (first | (apply Xf;rfl) | apply Xj);focus simp [*,-Option.some.injEq];rfl | (first | (apply Xa;rfl) | apply Xb);(focus simp [*];done);focus simp [*,-Option.some.injEq];rfl | (first | (apply Xg;rfl) | apply Xk);(focus simp [*];done) | (first | refine Xl ?_ | refine Xi ?_ | refine Xh ?_ | refine Xo ?_ | refine Xq ?_);try simp only [Xw,Xx,reduceIte,Nat.reduceEqDiff] | refine Xn ?_ | refine Xp rfl ?_ | refine Xc ?_ | apply Xd;focus simp [*];done | apply Xe;focus simp [*];done | refine Ya rfl rfl ?_)
  (refine⟨_,(by simp [*];rfl),?_⟩;(try simp only [packA]))
  all_goals rfl
 ·subst h3;clear h0
  repeat (first | (first | (apply Xf;rfl) | apply Xj);focus simp [Xz, *,-Option.some.injEq];rfl | (first | (apply Xa;rfl) | apply Xb);(focus simp [Xz, *];done);focus simp [Xz, *,-Option.some.injEq];rfl | (first | (apply Xg;rfl) | apply Xk);(focus simp [Xz, *];done) | (first | refine Xl ?_ | refine Xi ?_ | refine Xh ?_ | refine Xo ?_ | refine Xq ?_);try simp only [Xw,Xx,reduceIte,Nat.reduceEqDiff] | refine Xn ?_ | refine Xp rfl ?_ | refine Xc ?_ | apply Xd;focus simp [Xz, *];done | apply Xe;focus simp [Xz, *];done | refine Ya rfl rfl ?_ | (first | (apply AOpl.pickOrZ;rfl) | (apply AOpl.pickAndZ;rfl));(focus (simp [Xz, *,-Ax.CV.bool.injEq];rfl));(focus (intro hq;(try simp only [Bool.not_eq_true',Bool.not_eq_false',decide_eq_true_eq,decide_eq_false_iff_not,Bool.and_eq_true,Bool.or_eq_false_iff] at hq);simp [Xz, *,-Ax.CV.bool.injEq];rfl));intro z hz | (first | (apply AOpl.pickOrGZ;rfl) | (apply AOpl.pickAndGZ;rfl));(focus simp [Xz, *];done);(focus (simp [Xz, *,-Ax.CV.bool.injEq];rfl));(focus (intro hq;(try simp only [Bool.not_eq_true',Bool.not_eq_false',decide_eq_true_eq,decide_eq_false_iff_not,Bool.and_eq_true,Bool.or_eq_false_iff] at hq);simp [Xz, *,-Ax.CV.bool.injEq];rfl));intro z hz | (first | (apply AOpl.pickOrCZ;rfl) | (apply AOpl.pickAndCZ;rfl));(focus (simp [Xz, *,-Ax.CV.bool.injEq,-Option.some.injEq];rfl));(focus (intro hq;(try simp only [Bool.not_eq_true',Bool.not_eq_false',decide_eq_true_eq,decide_eq_false_iff_not,Bool.and_eq_true,Bool.or_eq_false_iff] at hq);simp [Xz, *,-Ax.CV.bool.injEq];rfl));(focus (intro hp hq;(try simp only [Bool.not_eq_true',Bool.not_eq_false',decide_eq_true_eq,decide_eq_false_iff_not,Bool.and_eq_true,Bool.or_eq_false_iff] at hp hq);simp [Xz, *,-Ax.CV.bool.injEq];rfl));intro z hz | (apply AOpl.passC;rfl);focus simp [Xz, *,-Ax.CV.bool.injEq];done | (apply AOpl.lookC;rfl);(focus (simp [Xz, *,-Ax.CV.bool.injEq,-Option.some.injEq];rfl));focus intro _;simp [Xz, *,-Option.some.injEq];rfl)
  cases z with
  | false =>
    simp at hz;rw [shpT_er (e:=1) (by unfold shpE;simp (decide:=true) only [if_true,if_false,Nat.not_lt_zero,false_or];first | rw [if_pos (by omega)] | (rw [if_pos (by rcases es with _ | ⟨_,_⟩ <;> simp_all <;> omega)])) (by decide)]
    repeat (first | (first | (apply Xf;rfl) | apply Xj);focus simp [*,-Option.some.injEq];rfl | (first | (apply Xa;rfl) | apply Xb);(focus simp [*];done);focus simp [*,-Option.some.injEq];rfl | (first | (apply Xg;rfl) | apply Xk);(focus simp [*];done) | (first | refine Xl ?_ | refine Xi ?_ | refine Xh ?_ | refine Xo ?_ | refine Xq ?_);try simp only [Xw,Xx,reduceIte,Nat.reduceEqDiff] | refine Xn ?_ | refine Xp rfl ?_ | refine Xc ?_ | apply Xd;focus simp [*];done | apply Xe;focus simp [*];done | refine Ya rfl rfl ?_)
    ((apply AOpl.callP);(focus rfl);(focus (first | rfl | (simp [*];done)));(focus simp [*,-Option.some.injEq];rfl);kernel_rfl)
    ·exact need_no 1 _
    rfl
  | true =>
  have hne:¬ (es.length<2∨2<es.length):=by simp at hz;first | omega | (rcases es with _ | ⟨_,_⟩ <;> simp_all <;> omega)
  clear hz
  repeat (first | (first | (apply Xf;rfl) | apply Xj);focus simp [*,-Option.some.injEq];rfl | (first | (apply Xa;rfl) | apply Xb);(focus simp [*];done);focus simp [*,-Option.some.injEq];rfl | (first | (apply Xg;rfl) | apply Xk);(focus simp [*];done) | (first | refine Xl ?_ | refine Xi ?_ | refine Xh ?_ | refine Xo ?_ | refine Xq ?_);try simp only [Xw,Xx,reduceIte,Nat.reduceEqDiff] | refine Xn ?_ | refine Xp rfl ?_ | refine Xc ?_ | apply Xd;focus simp [*];done | apply Xe;focus simp [*];done | refine Ya rfl rfl ?_)
  ((apply Xr);(focus rfl);(focus (first | rfl | (simp [*];done)));(focus simp [*,-Option.some.injEq];rfl);kernel_rfl)
  ·exact need_ok 1 _
  by_cases hb:b=[]
  case neg =>
   have hlb:0<b.length:=List.length_pos_iff.mpr hb;rw [shpT_er (e:=1) (by unfold shpE;simp (decide:=true) only [if_true,if_false,Nat.not_lt_zero,false_or];rw [if_neg hne];try simp [hlb]) (by decide)]
   repeat (first | (first | (apply Xf;rfl) | apply Xj);focus simp [Xz, *,-Option.some.injEq];rfl | (first | (apply Xa;rfl) | apply Xb);(focus simp [Xz, *];done);focus simp [Xz, *,-Option.some.injEq];rfl | (first | (apply Xg;rfl) | apply Xk);(focus simp [Xz, *];done) | (first | refine Xl ?_ | refine Xi ?_ | refine Xh ?_ | refine Xo ?_ | refine Xq ?_);try simp only [Xw,Xx,reduceIte,Nat.reduceEqDiff] | refine Xn ?_ | refine Xp rfl ?_ | refine Xc ?_ | apply Xd;focus simp [Xz, *];done | apply Xe;focus simp [Xz, *];done | refine Ya rfl rfl ?_)
   ((apply AOpl.callP);(focus rfl);(focus (first | rfl | (simp [*];done)));(focus simp [*,-Option.some.injEq];rfl);kernel_rfl)
   ·exact need_no 1 _
   rfl
  subst hb
  repeat (first | (first | (apply Xf;rfl) | apply Xj);focus simp [Xz, *,-Option.some.injEq];rfl | (first | (apply Xa;rfl) | apply Xb);(focus simp [Xz, *];done);focus simp [Xz, *,-Option.some.injEq];rfl | (first | (apply Xg;rfl) | apply Xk);(focus simp [Xz, *];done) | (first | refine Xl ?_ | refine Xi ?_ | refine Xh ?_ | refine Xo ?_ | refine Xq ?_);try simp only [Xw,Xx,reduceIte,Nat.reduceEqDiff] | refine Xn ?_ | refine Xp rfl ?_ | refine Xc ?_ | apply Xd;focus simp [Xz, *];done | apply Xe;focus simp [Xz, *];done | refine Ya rfl rfl ?_)
  ((apply Xr);(focus rfl);(focus (first | rfl | (simp [*];done)));(focus simp [*,-Option.some.injEq];rfl);kernel_rfl)
  ·exact need_ok 1 _
  by_cases hl:el=[]
  case neg =>
   have hll:0<el.length:=List.length_pos_iff.mpr hl;rw [shpT_er (e:=1) (by unfold shpE;simp (decide:=true) only [if_true,if_false,Nat.not_lt_zero,false_or];rw [if_neg hne];try simp [hll]) (by decide)]
   repeat (first | (first | (apply Xf;rfl) | apply Xj);focus simp [Xz, *,-Option.some.injEq];rfl | (first | (apply Xa;rfl) | apply Xb);(focus simp [Xz, *];done);focus simp [Xz, *,-Option.some.injEq];rfl | (first | (apply Xg;rfl) | apply Xk);(focus simp [Xz, *];done) | (first | refine Xl ?_ | refine Xi ?_ | refine Xh ?_ | refine Xo ?_ | refine Xq ?_);try simp only [Xw,Xx,reduceIte,Nat.reduceEqDiff] | refine Xn ?_ | refine Xp rfl ?_ | refine Xc ?_ | apply Xd;focus simp [Xz, *];done | apply Xe;focus simp [Xz, *];done | refine Ya rfl rfl ?_)
   ((apply AOpl.callP);(focus rfl);(focus (first | rfl | (simp [*];done)));(focus simp [*,-Option.some.injEq];rfl);kernel_rfl)
   ·exact need_no 1 _
   rfl
  subst hl
  repeat (first | (first | (apply Xf;rfl) | apply Xj);focus simp [Xz, *,-Option.some.injEq];rfl | (first | (apply Xa;rfl) | apply Xb);(focus simp [Xz, *];done);focus simp [Xz, *,-Option.some.injEq];rfl | (first | (apply Xg;rfl) | apply Xk);(focus simp [Xz, *];done) | (first | refine Xl ?_ | refine Xi ?_ | refine Xh ?_ | refine Xo ?_ | refine Xq ?_);try simp only [Xw,Xx,reduceIte,Nat.reduceEqDiff] | refine Xn ?_ | refine Xp rfl ?_ | refine Xc ?_ | apply Xd;focus simp [Xz, *];done | apply Xe;focus simp [Xz, *];done | refine Ya rfl rfl ?_)
  ((apply Xr);(focus rfl);(focus (first | rfl | (simp [*];done)));(focus simp [*,-Option.some.injEq];rfl);kernel_rfl)
  ·exact need_ok 1 _
  rw [shpT_ok (by unfold shpE;simp (decide:=true) only [if_true,if_false,Nat.not_lt_zero,false_or];rw [if_neg hne];try simp)]
  repeat (first | (first | (apply Xf;rfl) | apply Xj);focus simp [*,-Option.some.injEq];rfl | (first | (apply Xa;rfl) | apply Xb);(focus simp [*];done);focus simp [*,-Option.some.injEq];rfl | (first | (apply Xg;rfl) | apply Xk);(focus simp [*];done) | (first | refine Xl ?_ | refine Xi ?_ | refine Xh ?_ | refine Xo ?_ | refine Xq ?_);try simp only [Xw,Xx,reduceIte,Nat.reduceEqDiff] | refine Xn ?_ | refine Xp rfl ?_ | refine Xc ?_ | apply Xd;focus simp [*];done | apply Xe;focus simp [*];done | refine Ya rfl rfl ?_)
  (refine⟨_,(by simp [*];rfl),?_⟩;(try simp only [packA]))
  all_goals rfl
 ·subst h4;clear h0
  repeat (first | (first | (apply Xf;rfl) | apply Xj);focus simp [Xz, *,-Option.some.injEq];rfl | (first | (apply Xa;rfl) | apply Xb);(focus simp [Xz, *];done);focus simp [Xz, *,-Option.some.injEq];rfl | (first | (apply Xg;rfl) | apply Xk);(focus simp [Xz, *];done) | (first | refine Xl ?_ | refine Xi ?_ | refine Xh ?_ | refine Xo ?_ | refine Xq ?_);try simp only [Xw,Xx,reduceIte,Nat.reduceEqDiff] | refine Xn ?_ | refine Xp rfl ?_ | refine Xc ?_ | apply Xd;focus simp [Xz, *];done | apply Xe;focus simp [Xz, *];done | refine Ya rfl rfl ?_ | (first | (apply AOpl.pickOrZ;rfl) | (apply AOpl.pickAndZ;rfl));(focus (simp [Xz, *,-Ax.CV.bool.injEq];rfl));(focus (intro hq;(try simp only [Bool.not_eq_true',Bool.not_eq_false',decide_eq_true_eq,decide_eq_false_iff_not,Bool.and_eq_true,Bool.or_eq_false_iff] at hq);simp [Xz, *,-Ax.CV.bool.injEq];rfl));intro z hz | (first | (apply AOpl.pickOrGZ;rfl) | (apply AOpl.pickAndGZ;rfl));(focus simp [Xz, *];done);(focus (simp [Xz, *,-Ax.CV.bool.injEq];rfl));(focus (intro hq;(try simp only [Bool.not_eq_true',Bool.not_eq_false',decide_eq_true_eq,decide_eq_false_iff_not,Bool.and_eq_true,Bool.or_eq_false_iff] at hq);simp [Xz, *,-Ax.CV.bool.injEq];rfl));intro z hz | (first | (apply AOpl.pickOrCZ;rfl) | (apply AOpl.pickAndCZ;rfl));(focus (simp [Xz, *,-Ax.CV.bool.injEq,-Option.some.injEq];rfl));(focus (intro hq;(try simp only [Bool.not_eq_true',Bool.not_eq_false',decide_eq_true_eq,decide_eq_false_iff_not,Bool.and_eq_true,Bool.or_eq_false_iff] at hq);simp [Xz, *,-Ax.CV.bool.injEq];rfl));(focus (intro hp hq;(try simp only [Bool.not_eq_true',Bool.not_eq_false',decide_eq_true_eq,decide_eq_false_iff_not,Bool.and_eq_true,Bool.or_eq_false_iff] at hp hq);simp [Xz, *,-Ax.CV.bool.injEq];rfl));intro z hz | (apply AOpl.passC;rfl);focus simp [Xz, *,-Ax.CV.bool.injEq];done | (apply AOpl.lookC;rfl);(focus (simp [Xz, *,-Ax.CV.bool.injEq,-Option.some.injEq];rfl));focus intro _;simp [Xz, *,-Option.some.injEq];rfl)
  cases z with
  | false =>
    simp at hz;rw [shpT_er (e:=1) (by unfold shpE;simp (decide:=true) only [if_true,if_false,Nat.not_lt_zero,false_or];first | rw [if_pos (by omega)] | (rw [if_pos (by rcases es with _ | ⟨_,_⟩ <;> simp_all <;> omega)])) (by decide)]
    repeat (first | (first | (apply Xf;rfl) | apply Xj);focus simp [*,-Option.some.injEq];rfl | (first | (apply Xa;rfl) | apply Xb);(focus simp [*];done);focus simp [*,-Option.some.injEq];rfl | (first | (apply Xg;rfl) | apply Xk);(focus simp [*];done) | (first | refine Xl ?_ | refine Xi ?_ | refine Xh ?_ | refine Xo ?_ | refine Xq ?_);try simp only [Xw,Xx,reduceIte,Nat.reduceEqDiff] | refine Xn ?_ | refine Xp rfl ?_ | refine Xc ?_ | apply Xd;focus simp [*];done | apply Xe;focus simp [*];done | refine Ya rfl rfl ?_)
    ((apply AOpl.callP);(focus rfl);(focus (first | rfl | (simp [*];done)));(focus simp [*,-Option.some.injEq];rfl);kernel_rfl)
    ·exact need_no 1 _
    rfl
  | true =>
  have hne:¬ (es.length<1∨1<es.length):=by simp at hz;first | omega | (rcases es with _ | ⟨_,_⟩ <;> simp_all <;> omega)
  clear hz
  repeat (first | (first | (apply Xf;rfl) | apply Xj);focus simp [*,-Option.some.injEq];rfl | (first | (apply Xa;rfl) | apply Xb);(focus simp [*];done);focus simp [*,-Option.some.injEq];rfl | (first | (apply Xg;rfl) | apply Xk);(focus simp [*];done) | (first | refine Xl ?_ | refine Xi ?_ | refine Xh ?_ | refine Xo ?_ | refine Xq ?_);try simp only [Xw,Xx,reduceIte,Nat.reduceEqDiff] | refine Xn ?_ | refine Xp rfl ?_ | refine Xc ?_ | apply Xd;focus simp [*];done | apply Xe;focus simp [*];done | refine Ya rfl rfl ?_)
  ((apply Xr);(focus rfl);(focus (first | rfl | (simp [*];done)));(focus simp [*,-Option.some.injEq];rfl);kernel_rfl)
  ·exact need_ok 1 _
  repeat (first | (first | (apply Xf;rfl) | apply Xj);focus simp [Xz, *,-Option.some.injEq];rfl | (first | (apply Xa;rfl) | apply Xb);(focus simp [Xz, *];done);focus simp [Xz, *,-Option.some.injEq];rfl | (first | (apply Xg;rfl) | apply Xk);(focus simp [Xz, *];done) | (first | refine Xl ?_ | refine Xi ?_ | refine Xh ?_ | refine Xo ?_ | refine Xq ?_);try simp only [Xw,Xx,reduceIte,Nat.reduceEqDiff] | refine Xn ?_ | refine Xp rfl ?_ | refine Xc ?_ | apply Xd;focus simp [Xz, *];done | apply Xe;focus simp [Xz, *];done | refine Ya rfl rfl ?_)
  ((apply Xr);(focus rfl);(focus (first | rfl | (simp [*];done)));(focus simp [*,-Option.some.injEq];rfl);kernel_rfl)
  ·exact need_ok 1 _
  repeat (first | (first | (apply Xf;rfl) | apply Xj);focus simp [Xz, *,-Option.some.injEq];rfl | (first | (apply Xa;rfl) | apply Xb);(focus simp [Xz, *];done);focus simp [Xz, *,-Option.some.injEq];rfl | (first | (apply Xg;rfl) | apply Xk);(focus simp [Xz, *];done) | (first | refine Xl ?_ | refine Xi ?_ | refine Xh ?_ | refine Xo ?_ | refine Xq ?_);try simp only [Xw,Xx,reduceIte,Nat.reduceEqDiff] | refine Xn ?_ | refine Xp rfl ?_ | refine Xc ?_ | apply Xd;focus simp [Xz, *];done | apply Xe;focus simp [Xz, *];done | refine Ya rfl rfl ?_)
  ((apply Xr);(focus rfl);(focus (first | rfl | (simp [*];done)));(focus simp [*,-Option.some.injEq];rfl);kernel_rfl)
  ·exact need_ok 1 _
  rw [shpT_ok (by unfold shpE;simp (decide:=true) only [if_true,if_false,Nat.not_lt_zero,false_or];rw [if_neg hne];try simp)]
  repeat (first | (first | (apply Xf;rfl) | apply Xj);focus simp [*,-Option.some.injEq];rfl | (first | (apply Xa;rfl) | apply Xb);(focus simp [*];done);focus simp [*,-Option.some.injEq];rfl | (first | (apply Xg;rfl) | apply Xk);(focus simp [*];done) | (first | refine Xl ?_ | refine Xi ?_ | refine Xh ?_ | refine Xo ?_ | refine Xq ?_);try simp only [Xw,Xx,reduceIte,Nat.reduceEqDiff] | refine Xn ?_ | refine Xp rfl ?_ | refine Xc ?_ | apply Xd;focus simp [*];done | apply Xe;focus simp [*];done | refine Ya rfl rfl ?_)
  (refine⟨_,(by simp [*];rfl),?_⟩;(try simp only [packA]))
  all_goals rfl
 ·subst h5;clear h0
  repeat (first | (first | (apply Xf;rfl) | apply Xj);focus simp [Xz, *,-Option.some.injEq];rfl | (first | (apply Xa;rfl) | apply Xb);(focus simp [Xz, *];done);focus simp [Xz, *,-Option.some.injEq];rfl | (first | (apply Xg;rfl) | apply Xk);(focus simp [Xz, *];done) | (first | refine Xl ?_ | refine Xi ?_ | refine Xh ?_ | refine Xo ?_ | refine Xq ?_);try simp only [Xw,Xx,reduceIte,Nat.reduceEqDiff] | refine Xn ?_ | refine Xp rfl ?_ | refine Xc ?_ | apply Xd;focus simp [Xz, *];done | apply Xe;focus simp [Xz, *];done | refine Ya rfl rfl ?_ | (first | (apply AOpl.pickOrZ;rfl) | (apply AOpl.pickAndZ;rfl));(focus (simp [Xz, *,-Ax.CV.bool.injEq];rfl));(focus (intro hq;(try simp only [Bool.not_eq_true',Bool.not_eq_false',decide_eq_true_eq,decide_eq_false_iff_not,Bool.and_eq_true,Bool.or_eq_false_iff] at hq);simp [Xz, *,-Ax.CV.bool.injEq];rfl));intro z hz | (first | (apply AOpl.pickOrGZ;rfl) | (apply AOpl.pickAndGZ;rfl));(focus simp [Xz, *];done);(focus (simp [Xz, *,-Ax.CV.bool.injEq];rfl));(focus (intro hq;(try simp only [Bool.not_eq_true',Bool.not_eq_false',decide_eq_true_eq,decide_eq_false_iff_not,Bool.and_eq_true,Bool.or_eq_false_iff] at hq);simp [Xz, *,-Ax.CV.bool.injEq];rfl));intro z hz | (first | (apply AOpl.pickOrCZ;rfl) | (apply AOpl.pickAndCZ;rfl));(focus (simp [Xz, *,-Ax.CV.bool.injEq,-Option.some.injEq];rfl));(focus (intro hq;(try simp only [Bool.not_eq_true',Bool.not_eq_false',decide_eq_true_eq,decide_eq_false_iff_not,Bool.and_eq_true,Bool.or_eq_false_iff] at hq);simp [Xz, *,-Ax.CV.bool.injEq];rfl));(focus (intro hp hq;(try simp only [Bool.not_eq_true',Bool.not_eq_false',decide_eq_true_eq,decide_eq_false_iff_not,Bool.and_eq_true,Bool.or_eq_false_iff] at hp hq);simp [Xz, *,-Ax.CV.bool.injEq];rfl));intro z hz | (apply AOpl.passC;rfl);focus simp [Xz, *,-Ax.CV.bool.injEq];done | (apply AOpl.lookC;rfl);(focus (simp [Xz, *,-Ax.CV.bool.injEq,-Option.some.injEq];rfl));focus intro _;simp [Xz, *,-Option.some.injEq];rfl)
  cases z with
  | false =>
    simp at hz;rw [shpT_er (e:=1) (by unfold shpE;simp (decide:=true) only [if_true,if_false,Nat.not_lt_zero,false_or];first | rw [if_pos (by omega)] | (rw [if_pos (by rcases es with _ | ⟨_,_⟩ <;> simp_all <;> omega)])) (by decide)]
    repeat (first | (first | (apply Xf;rfl) | apply Xj);focus simp [*,-Option.some.injEq];rfl | (first | (apply Xa;rfl) | apply Xb);(focus simp [*];done);focus simp [*,-Option.some.injEq];rfl | (first | (apply Xg;rfl) | apply Xk);(focus simp [*];done) | (first | refine Xl ?_ | refine Xi ?_ | refine Xh ?_ | refine Xo ?_ | refine Xq ?_);try simp only [Xw,Xx,reduceIte,Nat.reduceEqDiff] | refine Xn ?_ | refine Xp rfl ?_ | refine Xc ?_ | apply Xd;focus simp [*];done | apply Xe;focus simp [*];done | refine Ya rfl rfl ?_)
    ((apply AOpl.callP);(focus rfl);(focus (first | rfl | (simp [*];done)));(focus simp [*,-Option.some.injEq];rfl);kernel_rfl)
    ·exact need_no 1 _
    rfl
  | true =>
  have hne:¬ (es.length<1∨1<es.length):=by simp at hz;first | omega | (rcases es with _ | ⟨_,_⟩ <;> simp_all <;> omega)
  clear hz
  repeat (first | (first | (apply Xf;rfl) | apply Xj);focus simp [*,-Option.some.injEq];rfl | (first | (apply Xa;rfl) | apply Xb);(focus simp [*];done);focus simp [*,-Option.some.injEq];rfl | (first | (apply Xg;rfl) | apply Xk);(focus simp [*];done) | (first | refine Xl ?_ | refine Xi ?_ | refine Xh ?_ | refine Xo ?_ | refine Xq ?_);try simp only [Xw,Xx,reduceIte,Nat.reduceEqDiff] | refine Xn ?_ | refine Xp rfl ?_ | refine Xc ?_ | apply Xd;focus simp [*];done | apply Xe;focus simp [*];done | refine Ya rfl rfl ?_)
  ((apply Xr);(focus rfl);(focus (first | rfl | (simp [*];done)));(focus simp [*,-Option.some.injEq];rfl);kernel_rfl)
  ·exact need_ok 1 _
  repeat (first | (first | (apply Xf;rfl) | apply Xj);focus simp [Xz, *,-Option.some.injEq];rfl | (first | (apply Xa;rfl) | apply Xb);(focus simp [Xz, *];done);focus simp [Xz, *,-Option.some.injEq];rfl | (first | (apply Xg;rfl) | apply Xk);(focus simp [Xz, *];done) | (first | refine Xl ?_ | refine Xi ?_ | refine Xh ?_ | refine Xo ?_ | refine Xq ?_);try simp only [Xw,Xx,reduceIte,Nat.reduceEqDiff] | refine Xn ?_ | refine Xp rfl ?_ | refine Xc ?_ | apply Xd;focus simp [Xz, *];done | apply Xe;focus simp [Xz, *];done | refine Ya rfl rfl ?_)
  ((apply Xr);(focus rfl);(focus (first | rfl | (simp [*];done)));(focus simp [*,-Option.some.injEq];rfl);kernel_rfl)
  ·exact need_ok 1 _
  by_cases hl:el=[]
  case neg =>
   have hll:0<el.length:=List.length_pos_iff.mpr hl;rw [shpT_er (e:=1) (by unfold shpE;simp (decide:=true) only [if_true,if_false,Nat.not_lt_zero,false_or];rw [if_neg hne];try simp [hll]) (by decide)]
   repeat (first | (first | (apply Xf;rfl) | apply Xj);focus simp [Xz, *,-Option.some.injEq];rfl | (first | (apply Xa;rfl) | apply Xb);(focus simp [Xz, *];done);focus simp [Xz, *,-Option.some.injEq];rfl | (first | (apply Xg;rfl) | apply Xk);(focus simp [Xz, *];done) | (first | refine Xl ?_ | refine Xi ?_ | refine Xh ?_ | refine Xo ?_ | refine Xq ?_);try simp only [Xw,Xx,reduceIte,Nat.reduceEqDiff] | refine Xn ?_ | refine Xp rfl ?_ | refine Xc ?_ | apply Xd;focus simp [Xz, *];done | apply Xe;focus simp [Xz, *];done | refine Ya rfl rfl ?_)
   ((apply AOpl.callP);(focus rfl);(focus (first | rfl | (simp [*];done)));(focus simp [*,-Option.some.injEq];rfl);kernel_rfl)
   ·exact need_no 1 _
   rfl
  subst hl
  repeat (first | (first | (apply Xf;rfl) | apply Xj);focus simp [Xz, *,-Option.some.injEq];rfl | (first | (apply Xa;rfl) | apply Xb);(focus simp [Xz, *];done);focus simp [Xz, *,-Option.some.injEq];rfl | (first | (apply Xg;rfl) | apply Xk);(focus simp [Xz, *];done) | (first | refine Xl ?_ | refine Xi ?_ | refine Xh ?_ | refine Xo ?_ | refine Xq ?_);try simp only [Xw,Xx,reduceIte,Nat.reduceEqDiff] | refine Xn ?_ | refine Xp rfl ?_ | refine Xc ?_ | apply Xd;focus simp [Xz, *];done | apply Xe;focus simp [Xz, *];done | refine Ya rfl rfl ?_)
  ((apply Xr);(focus rfl);(focus (first | rfl | (simp [*];done)));(focus simp [*,-Option.some.injEq];rfl);kernel_rfl)
  ·exact need_ok 1 _
  rw [shpT_ok (by unfold shpE;simp (decide:=true) only [if_true,if_false,Nat.not_lt_zero,false_or];rw [if_neg hne];try simp)]
  repeat (first | (first | (apply Xf;rfl) | apply Xj);focus simp [*,-Option.some.injEq];rfl | (first | (apply Xa;rfl) | apply Xb);(focus simp [*];done);focus simp [*,-Option.some.injEq];rfl | (first | (apply Xg;rfl) | apply Xk);(focus simp [*];done) | (first | refine Xl ?_ | refine Xi ?_ | refine Xh ?_ | refine Xo ?_ | refine Xq ?_);try simp only [Xw,Xx,reduceIte,Nat.reduceEqDiff] | refine Xn ?_ | refine Xp rfl ?_ | refine Xc ?_ | apply Xd;focus simp [*];done | apply Xe;focus simp [*];done | refine Ya rfl rfl ?_)
  (refine⟨_,(by simp [*];rfl),?_⟩;(try simp only [packA]))
  all_goals rfl
 ·subst h6;clear h0
  by_cases hM:es=[]
  case neg =>
   rw [shpT_er (e:=1) (by unfold shpE;simp (decide:=true) only [if_true,if_false,Nat.not_lt_zero,false_or];rw [if_pos (by have:=List.length_pos_iff.mpr hM;omega)]) (by decide)]
   repeat (first | (first | (apply Xf;rfl) | apply Xj);focus simp [Xz, *,-Option.some.injEq];rfl | (first | (apply Xa;rfl) | apply Xb);(focus simp [Xz, *];done);focus simp [Xz, *,-Option.some.injEq];rfl | (first | (apply Xg;rfl) | apply Xk);(focus simp [Xz, *];done) | (first | refine Xl ?_ | refine Xi ?_ | refine Xh ?_ | refine Xo ?_ | refine Xq ?_);try simp only [Xw,Xx,reduceIte,Nat.reduceEqDiff] | refine Xn ?_ | refine Xp rfl ?_ | refine Xc ?_ | apply Xd;focus simp [Xz, *];done | apply Xe;focus simp [Xz, *];done | refine Ya rfl rfl ?_)
   ((apply AOpl.callP);(focus rfl);(focus (first | rfl | (simp [*];done)));(focus simp [*,-Option.some.injEq];rfl);kernel_rfl)
   ·exact need_no 1 _
   rfl
  have hne:¬ 0<es.length:=by rw [hM];simp
  repeat (first | (first | (apply Xf;rfl) | apply Xj);focus simp [Xz, *,-Option.some.injEq];rfl | (first | (apply Xa;rfl) | apply Xb);(focus simp [Xz, *];done);focus simp [Xz, *,-Option.some.injEq];rfl | (first | (apply Xg;rfl) | apply Xk);(focus simp [Xz, *];done) | (first | refine Xl ?_ | refine Xi ?_ | refine Xh ?_ | refine Xo ?_ | refine Xq ?_);try simp only [Xw,Xx,reduceIte,Nat.reduceEqDiff] | refine Xn ?_ | refine Xp rfl ?_ | refine Xc ?_ | apply Xd;focus simp [Xz, *];done | apply Xe;focus simp [Xz, *];done | refine Ya rfl rfl ?_)
  ((apply Xr);(focus rfl);(focus (first | rfl | (simp [*];done)));(focus simp [*,-Option.some.injEq];rfl);kernel_rfl)
  ·exact need_ok 1 _
  clear hM
  repeat (first | (first | (apply Xf;rfl) | apply Xj);focus simp [Xz, *,-Option.some.injEq];rfl | (first | (apply Xa;rfl) | apply Xb);(focus simp [Xz, *];done);focus simp [Xz, *,-Option.some.injEq];rfl | (first | (apply Xg;rfl) | apply Xk);(focus simp [Xz, *];done) | (first | refine Xl ?_ | refine Xi ?_ | refine Xh ?_ | refine Xo ?_ | refine Xq ?_);try simp only [Xw,Xx,reduceIte,Nat.reduceEqDiff] | refine Xn ?_ | refine Xp rfl ?_ | refine Xc ?_ | apply Xd;focus simp [Xz, *];done | apply Xe;focus simp [Xz, *];done | refine Ya rfl rfl ?_)
  ((apply Xr);(focus rfl);(focus (first | rfl | (simp [*];done)));(focus simp [*,-Option.some.injEq];rfl);kernel_rfl)
  ·exact need_ok 1 _
  repeat (first | (first | (apply Xf;rfl) | apply Xj);focus simp [Xz, *,-Option.some.injEq];rfl | (first | (apply Xa;rfl) | apply Xb);(focus simp [Xz, *];done);focus simp [Xz, *,-Option.some.injEq];rfl | (first | (apply Xg;rfl) | apply Xk);(focus simp [Xz, *];done) | (first | refine Xl ?_ | refine Xi ?_ | refine Xh ?_ | refine Xo ?_ | refine Xq ?_);try simp only [Xw,Xx,reduceIte,Nat.reduceEqDiff] | refine Xn ?_ | refine Xp rfl ?_ | refine Xc ?_ | apply Xd;focus simp [Xz, *];done | apply Xe;focus simp [Xz, *];done | refine Ya rfl rfl ?_)
  ((apply Xr);(focus rfl);(focus (first | rfl | (simp [*];done)));(focus simp [*,-Option.some.injEq];rfl);kernel_rfl)
  ·exact need_ok 1 _
  rw [shpT_ok (by unfold shpE;simp (decide:=true) only [if_true,if_false,Nat.not_lt_zero,false_or];rw [if_neg hne];try simp)]
  repeat (first | (first | (apply Xf;rfl) | apply Xj);focus simp [*,-Option.some.injEq];rfl | (first | (apply Xa;rfl) | apply Xb);(focus simp [*];done);focus simp [*,-Option.some.injEq];rfl | (first | (apply Xg;rfl) | apply Xk);(focus simp [*];done) | (first | refine Xl ?_ | refine Xi ?_ | refine Xh ?_ | refine Xo ?_ | refine Xq ?_);try simp only [Xw,Xx,reduceIte,Nat.reduceEqDiff] | refine Xn ?_ | refine Xp rfl ?_ | refine Xc ?_ | apply Xd;focus simp [*];done | apply Xe;focus simp [*];done | refine Ya rfl rfl ?_)
  (refine⟨_,(by simp [*];rfl),?_⟩;(try simp only [packA]))
  all_goals rfl
 ·subst h7;clear h0
  repeat (first | (first | (apply Xf;rfl) | apply Xj);focus simp [Xz, *,-Option.some.injEq];rfl | (first | (apply Xa;rfl) | apply Xb);(focus simp [Xz, *];done);focus simp [Xz, *,-Option.some.injEq];rfl | (first | (apply Xg;rfl) | apply Xk);(focus simp [Xz, *];done) | (first | refine Xl ?_ | refine Xi ?_ | refine Xh ?_ | refine Xo ?_ | refine Xq ?_);try simp only [Xw,Xx,reduceIte,Nat.reduceEqDiff] | refine Xn ?_ | refine Xp rfl ?_ | refine Xc ?_ | apply Xd;focus simp [Xz, *];done | apply Xe;focus simp [Xz, *];done | refine Ya rfl rfl ?_ | (first | (apply AOpl.pickOrZ;rfl) | (apply AOpl.pickAndZ;rfl));(focus (simp [Xz, *,-Ax.CV.bool.injEq];rfl));(focus (intro hq;(try simp only [Bool.not_eq_true',Bool.not_eq_false',decide_eq_true_eq,decide_eq_false_iff_not,Bool.and_eq_true,Bool.or_eq_false_iff] at hq);simp [Xz, *,-Ax.CV.bool.injEq];rfl));intro z hz | (first | (apply AOpl.pickOrGZ;rfl) | (apply AOpl.pickAndGZ;rfl));(focus simp [Xz, *];done);(focus (simp [Xz, *,-Ax.CV.bool.injEq];rfl));(focus (intro hq;(try simp only [Bool.not_eq_true',Bool.not_eq_false',decide_eq_true_eq,decide_eq_false_iff_not,Bool.and_eq_true,Bool.or_eq_false_iff] at hq);simp [Xz, *,-Ax.CV.bool.injEq];rfl));intro z hz | (first | (apply AOpl.pickOrCZ;rfl) | (apply AOpl.pickAndCZ;rfl));(focus (simp [Xz, *,-Ax.CV.bool.injEq,-Option.some.injEq];rfl));(focus (intro hq;(try simp only [Bool.not_eq_true',Bool.not_eq_false',decide_eq_true_eq,decide_eq_false_iff_not,Bool.and_eq_true,Bool.or_eq_false_iff] at hq);simp [Xz, *,-Ax.CV.bool.injEq];rfl));(focus (intro hp hq;(try simp only [Bool.not_eq_true',Bool.not_eq_false',decide_eq_true_eq,decide_eq_false_iff_not,Bool.and_eq_true,Bool.or_eq_false_iff] at hp hq);simp [Xz, *,-Ax.CV.bool.injEq];rfl));intro z hz | (apply AOpl.passC;rfl);focus simp [Xz, *,-Ax.CV.bool.injEq];done | (apply AOpl.lookC;rfl);(focus (simp [Xz, *,-Ax.CV.bool.injEq,-Option.some.injEq];rfl));focus intro _;simp [Xz, *,-Option.some.injEq];rfl)
  cases z with
  | false =>
    simp at hz;rw [shpT_er (e:=1) (by unfold shpE;simp (decide:=true) only [if_true,if_false,Nat.not_lt_zero,false_or];first | rw [if_pos (by omega)] | (rw [if_pos (by rcases es with _ | ⟨_,_⟩ <;> simp_all <;> omega)])) (by decide)]
    repeat (first | (first | (apply Xf;rfl) | apply Xj);focus simp [*,-Option.some.injEq];rfl | (first | (apply Xa;rfl) | apply Xb);(focus simp [*];done);focus simp [*,-Option.some.injEq];rfl | (first | (apply Xg;rfl) | apply Xk);(focus simp [*];done) | (first | refine Xl ?_ | refine Xi ?_ | refine Xh ?_ | refine Xo ?_ | refine Xq ?_);try simp only [Xw,Xx,reduceIte,Nat.reduceEqDiff] | refine Xn ?_ | refine Xp rfl ?_ | refine Xc ?_ | apply Xd;focus simp [*];done | apply Xe;focus simp [*];done | refine Ya rfl rfl ?_)
    ((apply AOpl.callP);(focus rfl);(focus (first | rfl | (simp [*];done)));(focus simp [*,-Option.some.injEq];rfl);kernel_rfl)
    ·exact need_no 1 _
    rfl
  | true =>
  have hne:¬ (es.length<1∨1<es.length):=by simp at hz;first | omega | (rcases es with _ | ⟨_,_⟩ <;> simp_all <;> omega)
  clear hz
  repeat (first | (first | (apply Xf;rfl) | apply Xj);focus simp [*,-Option.some.injEq];rfl | (first | (apply Xa;rfl) | apply Xb);(focus simp [*];done);focus simp [*,-Option.some.injEq];rfl | (first | (apply Xg;rfl) | apply Xk);(focus simp [*];done) | (first | refine Xl ?_ | refine Xi ?_ | refine Xh ?_ | refine Xo ?_ | refine Xq ?_);try simp only [Xw,Xx,reduceIte,Nat.reduceEqDiff] | refine Xn ?_ | refine Xp rfl ?_ | refine Xc ?_ | apply Xd;focus simp [*];done | apply Xe;focus simp [*];done | refine Ya rfl rfl ?_)
  ((apply Xr);(focus rfl);(focus (first | rfl | (simp [*];done)));(focus simp [*,-Option.some.injEq];rfl);kernel_rfl)
  ·exact need_ok 1 _
  by_cases hb:b=[]
  case neg =>
   have hlb:0<b.length:=List.length_pos_iff.mpr hb;rw [shpT_er (e:=1) (by unfold shpE;simp (decide:=true) only [if_true,if_false,Nat.not_lt_zero,false_or];rw [if_neg hne];try simp [hlb]) (by decide)]
   repeat (first | (first | (apply Xf;rfl) | apply Xj);focus simp [Xz, *,-Option.some.injEq];rfl | (first | (apply Xa;rfl) | apply Xb);(focus simp [Xz, *];done);focus simp [Xz, *,-Option.some.injEq];rfl | (first | (apply Xg;rfl) | apply Xk);(focus simp [Xz, *];done) | (first | refine Xl ?_ | refine Xi ?_ | refine Xh ?_ | refine Xo ?_ | refine Xq ?_);try simp only [Xw,Xx,reduceIte,Nat.reduceEqDiff] | refine Xn ?_ | refine Xp rfl ?_ | refine Xc ?_ | apply Xd;focus simp [Xz, *];done | apply Xe;focus simp [Xz, *];done | refine Ya rfl rfl ?_)
   ((apply AOpl.callP);(focus rfl);(focus (first | rfl | (simp [*];done)));(focus simp [*,-Option.some.injEq];rfl);kernel_rfl)
   ·exact need_no 1 _
   rfl
  subst hb
  repeat (first | (first | (apply Xf;rfl) | apply Xj);focus simp [Xz, *,-Option.some.injEq];rfl | (first | (apply Xa;rfl) | apply Xb);(focus simp [Xz, *];done);focus simp [Xz, *,-Option.some.injEq];rfl | (first | (apply Xg;rfl) | apply Xk);(focus simp [Xz, *];done) | (first | refine Xl ?_ | refine Xi ?_ | refine Xh ?_ | refine Xo ?_ | refine Xq ?_);try simp only [Xw,Xx,reduceIte,Nat.reduceEqDiff] | refine Xn ?_ | refine Xp rfl ?_ | refine Xc ?_ | apply Xd;focus simp [Xz, *];done | apply Xe;focus simp [Xz, *];done | refine Ya rfl rfl ?_)
  ((apply Xr);(focus rfl);(focus (first | rfl | (simp [*];done)));(focus simp [*,-Option.some.injEq];rfl);kernel_rfl)
  ·exact need_ok 1 _
  by_cases hl:el=[]
  case neg =>
   have hll:0<el.length:=List.length_pos_iff.mpr hl;rw [shpT_er (e:=1) (by unfold shpE;simp (decide:=true) only [if_true,if_false,Nat.not_lt_zero,false_or];rw [if_neg hne];try simp [hll]) (by decide)]
   repeat (first | (first | (apply Xf;rfl) | apply Xj);focus simp [Xz, *,-Option.some.injEq];rfl | (first | (apply Xa;rfl) | apply Xb);(focus simp [Xz, *];done);focus simp [Xz, *,-Option.some.injEq];rfl | (first | (apply Xg;rfl) | apply Xk);(focus simp [Xz, *];done) | (first | refine Xl ?_ | refine Xi ?_ | refine Xh ?_ | refine Xo ?_ | refine Xq ?_);try simp only [Xw,Xx,reduceIte,Nat.reduceEqDiff] | refine Xn ?_ | refine Xp rfl ?_ | refine Xc ?_ | apply Xd;focus simp [Xz, *];done | apply Xe;focus simp [Xz, *];done | refine Ya rfl rfl ?_)
   ((apply AOpl.callP);(focus rfl);(focus (first | rfl | (simp [*];done)));(focus simp [*,-Option.some.injEq];rfl);kernel_rfl)
   ·exact need_no 1 _
   rfl
  subst hl
  repeat (first | (first | (apply Xf;rfl) | apply Xj);focus simp [Xz, *,-Option.some.injEq];rfl | (first | (apply Xa;rfl) | apply Xb);(focus simp [Xz, *];done);focus simp [Xz, *,-Option.some.injEq];rfl | (first | (apply Xg;rfl) | apply Xk);(focus simp [Xz, *];done) | (first | refine Xl ?_ | refine Xi ?_ | refine Xh ?_ | refine Xo ?_ | refine Xq ?_);try simp only [Xw,Xx,reduceIte,Nat.reduceEqDiff] | refine Xn ?_ | refine Xp rfl ?_ | refine Xc ?_ | apply Xd;focus simp [Xz, *];done | apply Xe;focus simp [Xz, *];done | refine Ya rfl rfl ?_)
  ((apply Xr);(focus rfl);(focus (first | rfl | (simp [*];done)));(focus simp [*,-Option.some.injEq];rfl);kernel_rfl)
  ·exact need_ok 1 _
  rw [shpT_ok (by unfold shpE;simp (decide:=true) only [if_true,if_false,Nat.not_lt_zero,false_or];rw [if_neg hne];try simp)]
  repeat (first | (first | (apply Xf;rfl) | apply Xj);focus simp [*,-Option.some.injEq];rfl | (first | (apply Xa;rfl) | apply Xb);(focus simp [*];done);focus simp [*,-Option.some.injEq];rfl | (first | (apply Xg;rfl) | apply Xk);(focus simp [*];done) | (first | refine Xl ?_ | refine Xi ?_ | refine Xh ?_ | refine Xo ?_ | refine Xq ?_);try simp only [Xw,Xx,reduceIte,Nat.reduceEqDiff] | refine Xn ?_ | refine Xp rfl ?_ | refine Xc ?_ | apply Xd;focus simp [*];done | apply Xe;focus simp [*];done | refine Ya rfl rfl ?_)
  (refine⟨_,(by simp [*];rfl),?_⟩;(try simp only [packA]))
  all_goals rfl
 ·subst h8;clear h0
  by_cases hM:(es.length:Int)≤1
  case neg =>
   rw [shpT_er (e:=1) (by unfold shpE;simp (decide:=true) only [if_true,if_false,Nat.not_lt_zero,false_or];rw [if_pos (by omega)]) (by decide)]
   repeat (first | (first | (apply Xf;rfl) | apply Xj);focus simp [Xz, *,-Option.some.injEq];rfl | (first | (apply Xa;rfl) | apply Xb);(focus simp [Xz, *];done);focus simp [Xz, *,-Option.some.injEq];rfl | (first | (apply Xg;rfl) | apply Xk);(focus simp [Xz, *];done) | (first | refine Xl ?_ | refine Xi ?_ | refine Xh ?_ | refine Xo ?_ | refine Xq ?_);try simp only [Xw,Xx,reduceIte,Nat.reduceEqDiff] | refine Xn ?_ | refine Xp rfl ?_ | refine Xc ?_ | apply Xd;focus simp [Xz, *];done | apply Xe;focus simp [Xz, *];done | refine Ya rfl rfl ?_)
   ((apply AOpl.callP);(focus rfl);(focus (first | rfl | (simp [*];done)));(focus simp [*,-Option.some.injEq];rfl);kernel_rfl)
   ·exact need_no 1 _
   rfl
  have hne:¬ 1<es.length:=by omega
  repeat (first | (first | (apply Xf;rfl) | apply Xj);focus simp [Xz, *,-Option.some.injEq];rfl | (first | (apply Xa;rfl) | apply Xb);(focus simp [Xz, *];done);focus simp [Xz, *,-Option.some.injEq];rfl | (first | (apply Xg;rfl) | apply Xk);(focus simp [Xz, *];done) | (first | refine Xl ?_ | refine Xi ?_ | refine Xh ?_ | refine Xo ?_ | refine Xq ?_);try simp only [Xw,Xx,reduceIte,Nat.reduceEqDiff] | refine Xn ?_ | refine Xp rfl ?_ | refine Xc ?_ | apply Xd;focus simp [Xz, *];done | apply Xe;focus simp [Xz, *];done | refine Ya rfl rfl ?_)
  ((apply Xr);(focus rfl);(focus (first | rfl | (simp [*];done)));(focus simp [*,-Option.some.injEq];rfl);kernel_rfl)
  ·exact need_ok 1 _
  clear hM
  by_cases hb:b=[]
  case neg =>
   have hlb:0<b.length:=List.length_pos_iff.mpr hb;rw [shpT_er (e:=1) (by unfold shpE;simp (decide:=true) only [if_true,if_false,Nat.not_lt_zero,false_or];rw [if_neg hne];try simp [hlb]) (by decide)]
   repeat (first | (first | (apply Xf;rfl) | apply Xj);focus simp [Xz, *,-Option.some.injEq];rfl | (first | (apply Xa;rfl) | apply Xb);(focus simp [Xz, *];done);focus simp [Xz, *,-Option.some.injEq];rfl | (first | (apply Xg;rfl) | apply Xk);(focus simp [Xz, *];done) | (first | refine Xl ?_ | refine Xi ?_ | refine Xh ?_ | refine Xo ?_ | refine Xq ?_);try simp only [Xw,Xx,reduceIte,Nat.reduceEqDiff] | refine Xn ?_ | refine Xp rfl ?_ | refine Xc ?_ | apply Xd;focus simp [Xz, *];done | apply Xe;focus simp [Xz, *];done | refine Ya rfl rfl ?_)
   ((apply AOpl.callP);(focus rfl);(focus (first | rfl | (simp [*];done)));(focus simp [*,-Option.some.injEq];rfl);kernel_rfl)
   ·exact need_no 1 _
   rfl
  subst hb
  repeat (first | (first | (apply Xf;rfl) | apply Xj);focus simp [Xz, *,-Option.some.injEq];rfl | (first | (apply Xa;rfl) | apply Xb);(focus simp [Xz, *];done);focus simp [Xz, *,-Option.some.injEq];rfl | (first | (apply Xg;rfl) | apply Xk);(focus simp [Xz, *];done) | (first | refine Xl ?_ | refine Xi ?_ | refine Xh ?_ | refine Xo ?_ | refine Xq ?_);try simp only [Xw,Xx,reduceIte,Nat.reduceEqDiff] | refine Xn ?_ | refine Xp rfl ?_ | refine Xc ?_ | apply Xd;focus simp [Xz, *];done | apply Xe;focus simp [Xz, *];done | refine Ya rfl rfl ?_)
  ((apply Xr);(focus rfl);(focus (first | rfl | (simp [*];done)));(focus simp [*,-Option.some.injEq];rfl);kernel_rfl)
  ·exact need_ok 1 _
  by_cases hl:el=[]
  case neg =>
   have hll:0<el.length:=List.length_pos_iff.mpr hl;rw [shpT_er (e:=1) (by unfold shpE;simp (decide:=true) only [if_true,if_false,Nat.not_lt_zero,false_or];rw [if_neg hne];try simp [hll]) (by decide)]
   repeat (first | (first | (apply Xf;rfl) | apply Xj);focus simp [Xz, *,-Option.some.injEq];rfl | (first | (apply Xa;rfl) | apply Xb);(focus simp [Xz, *];done);focus simp [Xz, *,-Option.some.injEq];rfl | (first | (apply Xg;rfl) | apply Xk);(focus simp [Xz, *];done) | (first | refine Xl ?_ | refine Xi ?_ | refine Xh ?_ | refine Xo ?_ | refine Xq ?_);try simp only [Xw,Xx,reduceIte,Nat.reduceEqDiff] | refine Xn ?_ | refine Xp rfl ?_ | refine Xc ?_ | apply Xd;focus simp [Xz, *];done | apply Xe;focus simp [Xz, *];done | refine Ya rfl rfl ?_)
   ((apply AOpl.callP);(focus rfl);(focus (first | rfl | (simp [*];done)));(focus simp [*,-Option.some.injEq];rfl);kernel_rfl)
   ·exact need_no 1 _
   rfl
  subst hl
  repeat (first | (first | (apply Xf;rfl) | apply Xj);focus simp [Xz, *,-Option.some.injEq];rfl | (first | (apply Xa;rfl) | apply Xb);(focus simp [Xz, *];done);focus simp [Xz, *,-Option.some.injEq];rfl | (first | (apply Xg;rfl) | apply Xk);(focus simp [Xz, *];done) | (first | refine Xl ?_ | refine Xi ?_ | refine Xh ?_ | refine Xo ?_ | refine Xq ?_);try simp only [Xw,Xx,reduceIte,Nat.reduceEqDiff] | refine Xn ?_ | refine Xp rfl ?_ | refine Xc ?_ | apply Xd;focus simp [Xz, *];done | apply Xe;focus simp [Xz, *];done | refine Ya rfl rfl ?_)
  ((apply Xr);(focus rfl);(focus (first | rfl | (simp [*];done)));(focus simp [*,-Option.some.injEq];rfl);kernel_rfl)
  ·exact need_ok 1 _
  rw [shpT_ok (by unfold shpE;simp (decide:=true) only [if_true,if_false,Nat.not_lt_zero,false_or];rw [if_neg hne];try simp)]
  repeat (first | (first | (apply Xf;rfl) | apply Xj);focus simp [*,-Option.some.injEq];rfl | (first | (apply Xa;rfl) | apply Xb);(focus simp [*];done);focus simp [*,-Option.some.injEq];rfl | (first | (apply Xg;rfl) | apply Xk);(focus simp [*];done) | (first | refine Xl ?_ | refine Xi ?_ | refine Xh ?_ | refine Xo ?_ | refine Xq ?_);try simp only [Xw,Xx,reduceIte,Nat.reduceEqDiff] | refine Xn ?_ | refine Xp rfl ?_ | refine Xc ?_ | apply Xd;focus simp [*];done | apply Xe;focus simp [*];done | refine Ya rfl rfl ?_)
  (refine⟨_,(by simp [*];rfl),?_⟩;(try simp only [packA]))
  all_goals rfl
 ·subst h9;clear h0
  repeat (first | (first | (apply Xf;rfl) | apply Xj);focus simp [Xz, *,-Option.some.injEq];rfl | (first | (apply Xa;rfl) | apply Xb);(focus simp [Xz, *];done);focus simp [Xz, *,-Option.some.injEq];rfl | (first | (apply Xg;rfl) | apply Xk);(focus simp [Xz, *];done) | (first | refine Xl ?_ | refine Xi ?_ | refine Xh ?_ | refine Xo ?_ | refine Xq ?_);try simp only [Xw,Xx,reduceIte,Nat.reduceEqDiff] | refine Xn ?_ | refine Xp rfl ?_ | refine Xc ?_ | apply Xd;focus simp [Xz, *];done | apply Xe;focus simp [Xz, *];done | refine Ya rfl rfl ?_ | (first | (apply AOpl.pickOrZ;rfl) | (apply AOpl.pickAndZ;rfl));(focus (simp [Xz, *,-Ax.CV.bool.injEq];rfl));(focus (intro hq;(try simp only [Bool.not_eq_true',Bool.not_eq_false',decide_eq_true_eq,decide_eq_false_iff_not,Bool.and_eq_true,Bool.or_eq_false_iff] at hq);simp [Xz, *,-Ax.CV.bool.injEq];rfl));intro z hz | (first | (apply AOpl.pickOrGZ;rfl) | (apply AOpl.pickAndGZ;rfl));(focus simp [Xz, *];done);(focus (simp [Xz, *,-Ax.CV.bool.injEq];rfl));(focus (intro hq;(try simp only [Bool.not_eq_true',Bool.not_eq_false',decide_eq_true_eq,decide_eq_false_iff_not,Bool.and_eq_true,Bool.or_eq_false_iff] at hq);simp [Xz, *,-Ax.CV.bool.injEq];rfl));intro z hz | (first | (apply AOpl.pickOrCZ;rfl) | (apply AOpl.pickAndCZ;rfl));(focus (simp [Xz, *,-Ax.CV.bool.injEq,-Option.some.injEq];rfl));(focus (intro hq;(try simp only [Bool.not_eq_true',Bool.not_eq_false',decide_eq_true_eq,decide_eq_false_iff_not,Bool.and_eq_true,Bool.or_eq_false_iff] at hq);simp [Xz, *,-Ax.CV.bool.injEq];rfl));(focus (intro hp hq;(try simp only [Bool.not_eq_true',Bool.not_eq_false',decide_eq_true_eq,decide_eq_false_iff_not,Bool.and_eq_true,Bool.or_eq_false_iff] at hp hq);simp [Xz, *,-Ax.CV.bool.injEq];rfl));intro z hz | (apply AOpl.passC;rfl);focus simp [Xz, *,-Ax.CV.bool.injEq];done | (apply AOpl.lookC;rfl);(focus (simp [Xz, *,-Ax.CV.bool.injEq,-Option.some.injEq];rfl));focus intro _;simp [Xz, *,-Option.some.injEq];rfl)
  cases z with
  | false =>
    simp at hz;rw [shpT_er (e:=1) (by unfold shpE;simp (decide:=true) only [if_true,if_false,Nat.not_lt_zero,false_or];first | rw [if_pos (by omega)] | (rw [if_pos (by rcases es with _ | ⟨_,_⟩ <;> simp_all <;> omega)])) (by decide)]
    repeat (first | (first | (apply Xf;rfl) | apply Xj);focus simp [*,-Option.some.injEq];rfl | (first | (apply Xa;rfl) | apply Xb);(focus simp [*];done);focus simp [*,-Option.some.injEq];rfl | (first | (apply Xg;rfl) | apply Xk);(focus simp [*];done) | (first | refine Xl ?_ | refine Xi ?_ | refine Xh ?_ | refine Xo ?_ | refine Xq ?_);try simp only [Xw,Xx,reduceIte,Nat.reduceEqDiff] | refine Xn ?_ | refine Xp rfl ?_ | refine Xc ?_ | apply Xd;focus simp [*];done | apply Xe;focus simp [*];done | refine Ya rfl rfl ?_)
    ((apply AOpl.callP);(focus rfl);(focus (first | rfl | (simp [*];done)));(focus simp [*,-Option.some.injEq];rfl);kernel_rfl)
    ·exact need_no 1 _
    rfl
  | true =>
  have hne:¬ (es.length<1∨1<es.length):=by simp at hz;first | omega | (rcases es with _ | ⟨_,_⟩ <;> simp_all <;> omega)
  clear hz
  repeat (first | (first | (apply Xf;rfl) | apply Xj);focus simp [*,-Option.some.injEq];rfl | (first | (apply Xa;rfl) | apply Xb);(focus simp [*];done);focus simp [*,-Option.some.injEq];rfl | (first | (apply Xg;rfl) | apply Xk);(focus simp [*];done) | (first | refine Xl ?_ | refine Xi ?_ | refine Xh ?_ | refine Xo ?_ | refine Xq ?_);try simp only [Xw,Xx,reduceIte,Nat.reduceEqDiff] | refine Xn ?_ | refine Xp rfl ?_ | refine Xc ?_ | apply Xd;focus simp [*];done | apply Xe;focus simp [*];done | refine Ya rfl rfl ?_)
  ((apply Xr);(focus rfl);(focus (first | rfl | (simp [*];done)));(focus simp [*,-Option.some.injEq];rfl);kernel_rfl)
  ·exact need_ok 1 _
  by_cases hb:b=[]
  case neg =>
   have hlb:0<b.length:=List.length_pos_iff.mpr hb;rw [shpT_er (e:=1) (by unfold shpE;simp (decide:=true) only [if_true,if_false,Nat.not_lt_zero,false_or];rw [if_neg hne];try simp [hlb]) (by decide)]
   repeat (first | (first | (apply Xf;rfl) | apply Xj);focus simp [Xz, *,-Option.some.injEq];rfl | (first | (apply Xa;rfl) | apply Xb);(focus simp [Xz, *];done);focus simp [Xz, *,-Option.some.injEq];rfl | (first | (apply Xg;rfl) | apply Xk);(focus simp [Xz, *];done) | (first | refine Xl ?_ | refine Xi ?_ | refine Xh ?_ | refine Xo ?_ | refine Xq ?_);try simp only [Xw,Xx,reduceIte,Nat.reduceEqDiff] | refine Xn ?_ | refine Xp rfl ?_ | refine Xc ?_ | apply Xd;focus simp [Xz, *];done | apply Xe;focus simp [Xz, *];done | refine Ya rfl rfl ?_)
   ((apply AOpl.callP);(focus rfl);(focus (first | rfl | (simp [*];done)));(focus simp [*,-Option.some.injEq];rfl);kernel_rfl)
   ·exact need_no 1 _
   rfl
  subst hb
  repeat (first | (first | (apply Xf;rfl) | apply Xj);focus simp [Xz, *,-Option.some.injEq];rfl | (first | (apply Xa;rfl) | apply Xb);(focus simp [Xz, *];done);focus simp [Xz, *,-Option.some.injEq];rfl | (first | (apply Xg;rfl) | apply Xk);(focus simp [Xz, *];done) | (first | refine Xl ?_ | refine Xi ?_ | refine Xh ?_ | refine Xo ?_ | refine Xq ?_);try simp only [Xw,Xx,reduceIte,Nat.reduceEqDiff] | refine Xn ?_ | refine Xp rfl ?_ | refine Xc ?_ | apply Xd;focus simp [Xz, *];done | apply Xe;focus simp [Xz, *];done | refine Ya rfl rfl ?_)
  ((apply Xr);(focus rfl);(focus (first | rfl | (simp [*];done)));(focus simp [*,-Option.some.injEq];rfl);kernel_rfl)
  ·exact need_ok 1 _
  by_cases hl:el=[]
  case neg =>
   have hll:0<el.length:=List.length_pos_iff.mpr hl;rw [shpT_er (e:=1) (by unfold shpE;simp (decide:=true) only [if_true,if_false,Nat.not_lt_zero,false_or];rw [if_neg hne];try simp [hll]) (by decide)]
   repeat (first | (first | (apply Xf;rfl) | apply Xj);focus simp [Xz, *,-Option.some.injEq];rfl | (first | (apply Xa;rfl) | apply Xb);(focus simp [Xz, *];done);focus simp [Xz, *,-Option.some.injEq];rfl | (first | (apply Xg;rfl) | apply Xk);(focus simp [Xz, *];done) | (first | refine Xl ?_ | refine Xi ?_ | refine Xh ?_ | refine Xo ?_ | refine Xq ?_);try simp only [Xw,Xx,reduceIte,Nat.reduceEqDiff] | refine Xn ?_ | refine Xp rfl ?_ | refine Xc ?_ | apply Xd;focus simp [Xz, *];done | apply Xe;focus simp [Xz, *];done | refine Ya rfl rfl ?_)
   ((apply AOpl.callP);(focus rfl);(focus (first | rfl | (simp [*];done)));(focus simp [*,-Option.some.injEq];rfl);kernel_rfl)
   ·exact need_no 1 _
   rfl
  subst hl
  repeat (first | (first | (apply Xf;rfl) | apply Xj);focus simp [Xz, *,-Option.some.injEq];rfl | (first | (apply Xa;rfl) | apply Xb);(focus simp [Xz, *];done);focus simp [Xz, *,-Option.some.injEq];rfl | (first | (apply Xg;rfl) | apply Xk);(focus simp [Xz, *];done) | (first | refine Xl ?_ | refine Xi ?_ | refine Xh ?_ | refine Xo ?_ | refine Xq ?_);try simp only [Xw,Xx,reduceIte,Nat.reduceEqDiff] | refine Xn ?_ | refine Xp rfl ?_ | refine Xc ?_ | apply Xd;focus simp [Xz, *];done | apply Xe;focus simp [Xz, *];done | refine Ya rfl rfl ?_)
  ((apply Xr);(focus rfl);(focus (first | rfl | (simp [*];done)));(focus simp [*,-Option.some.injEq];rfl);kernel_rfl)
  ·exact need_ok 1 _
  rw [shpT_ok (by unfold shpE;simp (decide:=true) only [if_true,if_false,Nat.not_lt_zero,false_or];rw [if_neg hne];try simp)]
  repeat (first | (first | (apply Xf;rfl) | apply Xj);focus simp [*,-Option.some.injEq];rfl | (first | (apply Xa;rfl) | apply Xb);(focus simp [*];done);focus simp [*,-Option.some.injEq];rfl | (first | (apply Xg;rfl) | apply Xk);(focus simp [*];done) | (first | refine Xl ?_ | refine Xi ?_ | refine Xh ?_ | refine Xo ?_ | refine Xq ?_);try simp only [Xw,Xx,reduceIte,Nat.reduceEqDiff] | refine Xn ?_ | refine Xp rfl ?_ | refine Xc ?_ | apply Xd;focus simp [*];done | apply Xe;focus simp [*];done | refine Ya rfl rfl ?_)
  (refine⟨_,(by simp [*];rfl),?_⟩;(try simp only [packA]))
  all_goals rfl
end Go.Proofs.YtoookjadbhdfhaaDoor
