/-
  A unit as the reference checks it; walked.
-/
import Derived.Test.YtdjllogimomgmaaGreatDoorJkI
set_option linter.unusedSimpArgs false
set_option linter.unusedVariables false
namespace Go.Proofs.YtdjllogimomgmaaGreatDoor
open Ax Tx Go.RowKit
attribute [local simp] stepS Ax.stepT Dl.on qstep astep estep rd putE over argE ofV ofS loadA pickCells isAggD faddA fieldA partA iaddA idxA sliA bnd binA intA strA unA convA bltA lenA mapOf lookA findK keyD scalD storeA mupA appA srcA srcD upd drp Dl.hp Dl.nx CV.cs CV.one buildA placesA fillA zrep tasA ifaceD eqA eqFs eqIs range2 copyA nbeq nble nblt decEq beqI bneI beqS bneS isED Int.ofNat_inj List.getElem?_map List.getElem?_eq_getElem Option.map_some ti_int ti_bool ti_str ti_i64 ti_Strs ti_Hi ti_Cds ti_Cd ti_Flds ti_Fld ti_Sgs ti_Sg ti_Ins ti_Inss ti_Ints ti_Fu ti_Fus ti_Un gd gdB callA resA op1
structure UnB1 (u : Un) : Prop where
  hb : HiB u.classes
  fl : u.funcs.length ≤ 1000
  fb : ∀ f ∈ u.funcs, FuB2 f
def mainC (f : Fu) : Bool := (((!decide (f.cls = [77, 97, 105, 110]) || !decide (f.name = [109, 97, 105, 110])) || !f.static) || !decide (f.params = 0)) || !decide (f.result = [])
def wholeE (u : Un) : Int :=
  if (checkI u.classes).2 ≠ 0 then (checkI u.classes).2 else if (256 : Int) < u.funcs.length then 3 else if (mcount u.classes : Int) ≠ u.funcs.length then 20
  else if (decide (u.main < 0) || decide ((mcount u.classes : Int) ≤ u.main)) = true then 14 else match u.funcs[u.main.toNat]? with
    | some f => if mainC f = true then 14 else 0
    | none => 0
theorem mcount_take {l : List Cd} {i : Nat} (h : i < l.length) : mcount (l.take (i + 1)) = mcount (l.take i) + l[i].methods.length := by
  rw [take_succ_at h]
  have : ∀ a b : List Cd, mcount (a ++ b) = mcount a + mcount b := by
    intro a b
    induction a with
    | nil => simp [mcount]
    | cons x a ih => simp only [List.cons_append, mcount, ih]; omega
  rw [this]; simp [mcount]
set_option maxRecDepth 10000 in
set_option maxHeartbeats 16000000 in
theorem whole_ok (u : Un) (hu : UnB1 u) : FCall Tryz.prog cxG 98 [.agg (cvUn u)] fun r => r = .ret (.int .i64 (wholeE u)) := by
  have hl := hu.hb.len
  have hfl := hu.fl
  obtain ⟨w, hw⟩ : ∃ w, w = wholeE u := ⟨_, rfl⟩
  rw [← hw]
  unfold wholeE at hw
  refine FCall.ofBody Tryz.func98 rfl rfl fun nx => ?_
  repeat (first | (first | (apply AOpl.step; rfl) | apply ASl.step); focus simp [cvUn, *, -Option.some.injEq]; rfl | (first | (apply AOpl.stepG; rfl) | apply ASl.stepG); (focus simp [cvUn, *]; done); focus simp [cvUn, *, -Option.some.injEq]; rfl | (first | (apply AOpl.pass; rfl) | apply ASl.pass); (focus simp [cvUn, *]; done) | (first | refine AOpl.nil ?_ | refine AWp.skip ?_ | refine AWp.exit ?_ | refine AWp.ret ?_ | refine ASl.nil ?_); try simp only [Then, InBlock, reduceIte, Nat.reduceEqDiff] | refine AWp.seq ?_ | refine AWp.reg rfl ?_ | refine AWp.block ?_ | apply AWp.condT; focus simp [cvUn, *]; done | apply AWp.condF; focus simp [cvUn, *]; done | refine AWp.regT (by kernel_rfl) (by kernel_rfl) rfl rfl ?_)
  (first | (first | (apply AOpl.callN; rfl) | apply ASl.call); (focus simp [*, -Option.some.injEq]; rfl); kernel_rfl | (first | (apply AOpl.callNG; rfl) | apply ASl.callg); (focus simp [*]; done); (focus simp [*, -Option.some.injEq]; rfl); kernel_rfl)
  · exact hcheck_ok u.classes hu.hb
  intro nx2 hn2
  have q1 : ∀ k, ¬ nx = nx2 + k := fun k => by omega
  have q10 : ¬ nx = nx2 := by omega
  by_cases h1 : (checkI u.classes).2 = 0
  case neg =>
    simp only [h1, ne_eq, not_false_eq_true, if_true] at hw
    repeat (first | (first | (apply AOpl.step; rfl) | apply ASl.step); focus simp [*, -Option.some.injEq]; rfl | (first | (apply AOpl.stepG; rfl) | apply ASl.stepG); (focus simp [*]; done); focus simp [*, -Option.some.injEq]; rfl | (first | (apply AOpl.pass; rfl) | apply ASl.pass); (focus simp [*]; done) | (first | refine AOpl.nil ?_ | refine AWp.skip ?_ | refine AWp.exit ?_ | refine AWp.ret ?_ | refine ASl.nil ?_); try simp only [Then, InBlock, reduceIte, Nat.reduceEqDiff] | refine AWp.seq ?_ | refine AWp.reg rfl ?_ | refine AWp.block ?_ | apply AWp.condT; focus simp [*]; done | apply AWp.condF; focus simp [*]; done | refine AWp.regT (by kernel_rfl) (by kernel_rfl) rfl rfl ?_)
    (refine ⟨_, (by simp [*]; rfl), ?_⟩; (try simp only [packA]))
    all_goals (rw [hw] <;> rfl)
  simp only [h1, ne_eq, not_true, if_false] at hw
  by_cases h2 : (256 : Int) < u.funcs.length
  · simp only [h2, if_true] at hw
    repeat (first | (first | (apply AOpl.step; rfl) | apply ASl.step); focus simp [*, -Option.some.injEq]; rfl | (first | (apply AOpl.stepG; rfl) | apply ASl.stepG); (focus simp [*]; done); focus simp [*, -Option.some.injEq]; rfl | (first | (apply AOpl.pass; rfl) | apply ASl.pass); (focus simp [*]; done) | (first | refine AOpl.nil ?_ | refine AWp.skip ?_ | refine AWp.exit ?_ | refine AWp.ret ?_ | refine ASl.nil ?_); try simp only [Then, InBlock, reduceIte, Nat.reduceEqDiff] | refine AWp.seq ?_ | refine AWp.reg rfl ?_ | refine AWp.block ?_ | apply AWp.condT; focus simp [*]; done | apply AWp.condF; focus simp [*]; done | refine AWp.regT (by kernel_rfl) (by kernel_rfl) rfl rfl ?_)
    (refine ⟨_, (by simp [*]; rfl), ?_⟩; (try simp only [packA]))
    all_goals (rw [hw] <;> rfl)
  simp only [h2, if_false] at hw
  repeat (first | (first | (apply AOpl.step; rfl) | apply ASl.step); focus simp [*, -Option.some.injEq]; rfl | (first | (apply AOpl.stepG; rfl) | apply ASl.stepG); (focus simp [*]; done); focus simp [*, -Option.some.injEq]; rfl | (first | (apply AOpl.pass; rfl) | apply ASl.pass); (focus simp [*]; done) | (first | refine AOpl.nil ?_ | refine AWp.skip ?_ | refine AWp.exit ?_ | refine AWp.ret ?_ | refine ASl.nil ?_); try simp only [Then, InBlock, reduceIte, Nat.reduceEqDiff] | refine AWp.seq ?_ | refine AWp.reg rfl ?_ | refine AWp.block ?_ | apply AWp.condT; focus simp [*]; done | apply AWp.condF; focus simp [*]; done | refine AWp.regT (by kernel_rfl) (by kernel_rfl) rfl rfl ?_)
  refine AWp.countO u.classes.length [2, 5, 6, 7] 8 (fun i e H _ => e 6 = .int .i64 i ∧ e 5 = .int .i64 (mcount (u.classes.take i)) ∧ mcount (u.classes.take i) ≤ 1000 * i ∧ H nx = some (.cells (cvUn u))) ⟨(by first | (simp (disch := omega) [putE, over, ofV, ofS, *]; done) | (simp (disch := omega) [putE, over, ofV, ofS, *]; rfl)), (by first | (simp (disch := omega) [putE, over, ofV, ofS, *]; done) | (simp (disch := omega) [putE, over, ofV, ofS, *]; rfl)), by simp [mcount], by simp [upd, cvUn]⟩ ?_
  rintro i v H nx3 hi hn3 ⟨h6, h5, hs, hU⟩
  simp only [cvUn] at hU
  have q3 : ∀ k, ¬ nx = nx3 + k := fun k => by omega
  have q30 : ¬ nx = nx3 := by omega
  repeat (first | (first | (apply AOpl.step; rfl) | apply ASl.step); focus simp [*, -Option.some.injEq]; rfl | (first | (apply AOpl.stepG; rfl) | apply ASl.stepG); (focus simp [*]; done); focus simp [*, -Option.some.injEq]; rfl | (first | (apply AOpl.pass; rfl) | apply ASl.pass); (focus simp [*]; done) | (first | refine AOpl.nil ?_ | refine AWp.skip ?_ | refine AWp.exit ?_ | refine AWp.ret ?_ | refine ASl.nil ?_); try simp only [Then, InBlock, reduceIte, Nat.reduceEqDiff] | refine AWp.seq ?_ | refine AWp.reg rfl ?_ | refine AWp.block ?_ | apply AWp.condT; focus simp [*]; done | apply AWp.condF; focus simp [*]; done | refine AWp.regT (by kernel_rfl) (by kernel_rfl) rfl rfl ?_)
  (((apply AWp.cond'); (focus (simp [*, -Ax.CV.bool.injEq]; rfl))) <;> (intro hb) <;> (try simp only [decide_eq_true_eq, decide_eq_false_iff_not, Bool.not_eq_true', Bool.not_eq_false', Bool.not_eq_true, Bool.not_eq_false] at hb))
  · have hlt : i < u.classes.length := hb
    have hwi := wrap_up hlt (show u.classes.length ≤ maxLen by simp only [maxLen]; omega)
    have hml := hu.hb.ml _ (List.getElem_mem hlt)
    have hmt := mcount_take hlt
    have hws : IntKind.i64.wrap ((mcount (u.classes.take i) : Int) + (u.classes[i].methods.length : Int)) = ((mcount (u.classes.take (i + 1)) : Nat) : Int) := by rw [hmt, IntKind.wrap_i64]; omega
    clear hb
    repeat (first | (first | (apply AOpl.step; rfl) | apply ASl.step); focus simp [cvCd, *, -Option.some.injEq]; rfl | (first | (apply AOpl.stepG; rfl) | apply ASl.stepG); (focus simp [cvCd, *]; done); focus simp [cvCd, *, -Option.some.injEq]; rfl | (first | (apply AOpl.pass; rfl) | apply ASl.pass); (focus simp [cvCd, *]; done) | (first | refine AOpl.nil ?_ | refine AWp.skip ?_ | refine AWp.exit ?_ | refine AWp.ret ?_ | refine ASl.nil ?_); try simp only [Then, InBlock, reduceIte, Nat.reduceEqDiff] | refine AWp.seq ?_ | refine AWp.reg rfl ?_ | refine AWp.block ?_ | apply AWp.condT; focus simp [cvCd, *]; done | apply AWp.condF; focus simp [cvCd, *]; done | refine AWp.regT (by kernel_rfl) (by kernel_rfl) rfl rfl ?_)
    exact ⟨by ((repeat (first | exact Keeps.base _ _ _ _ | (with_reducible exact Keeps.refl _ _ _) | (refine Keeps.put rfl ?_) | (refine Keeps.over' rfl rfl ?_)))), hlt, (by first | (simp (disch := omega) [putE, over, ofV, ofS, *]; done) | (simp (disch := omega) [putE, over, ofV, ofS, *]; rfl)), (by first | (simp (disch := omega) [putE, over, ofV, ofS, *]; done) | (simp (disch := omega) [putE, over, ofV, ofS, *]; rfl)), by omega, by simp [hU, cvUn]⟩
  · have hi' : i = u.classes.length := by omega
    rw [hi', List.take_length] at h5 hs
    clear hb hi
    by_cases h3 : (mcount u.classes : Int) = u.funcs.length
    case neg =>
      simp only [h3, ne_eq, not_false_eq_true, if_true] at hw
      repeat (first | (first | (apply AOpl.step; rfl) | apply ASl.step); focus simp [*, -Option.some.injEq]; rfl | (first | (apply AOpl.stepG; rfl) | apply ASl.stepG); (focus simp [*]; done); focus simp [*, -Option.some.injEq]; rfl | (first | (apply AOpl.pass; rfl) | apply ASl.pass); (focus simp [*]; done) | (first | refine AOpl.nil ?_ | refine AWp.skip ?_ | refine AWp.exit ?_ | refine AWp.ret ?_ | refine ASl.nil ?_); try simp only [Then, InBlock, reduceIte, Nat.reduceEqDiff] | refine AWp.seq ?_ | refine AWp.reg rfl ?_ | refine AWp.block ?_ | apply AWp.condT; focus simp [*]; done | apply AWp.condF; focus simp [*]; done | refine AWp.regT (by kernel_rfl) (by kernel_rfl) rfl rfl ?_)
      (refine ⟨_, (by simp [*]; rfl), ?_⟩; (try simp only [packA]))
      all_goals (rw [hw] <;> rfl)
    simp only [h3, ne_eq, not_true, if_false] at hw
    obtain ⟨M, hM⟩ : ∃ M, mcount u.classes = M := ⟨_, rfl⟩
    rw [hM] at h3 h5
    have h3' : M = u.funcs.length := by omega
    subst h3'
    by_cases h4 : u.main < 0
    · simp only [h4, decide_true, Bool.true_or, if_true] at hw
      repeat (first | (first | (apply AOpl.step; rfl) | apply ASl.step); focus simp [*, -Option.some.injEq]; rfl | (first | (apply AOpl.stepG; rfl) | apply ASl.stepG); (focus simp [*]; done); focus simp [*, -Option.some.injEq]; rfl | (first | (apply AOpl.pass; rfl) | apply ASl.pass); (focus simp [*]; done) | (first | refine AOpl.nil ?_ | refine AWp.skip ?_ | refine AWp.exit ?_ | refine AWp.ret ?_ | refine ASl.nil ?_); try simp only [Then, InBlock, reduceIte, Nat.reduceEqDiff] | refine AWp.seq ?_ | refine AWp.reg rfl ?_ | refine AWp.block ?_ | apply AWp.condT; focus simp [*]; done | apply AWp.condF; focus simp [*]; done | refine AWp.regT (by kernel_rfl) (by kernel_rfl) rfl rfl ?_)
      (refine ⟨_, (by simp [*]; rfl), ?_⟩; (try simp only [packA]))
      all_goals (rw [hw] <;> rfl)
    by_cases h7 : (u.funcs.length : Int) ≤ u.main
    · simp only [h7, decide_true, Bool.or_true, if_true] at hw
      repeat (first | (first | (apply AOpl.step; rfl) | apply ASl.step); focus simp [*, -Option.some.injEq]; rfl | (first | (apply AOpl.stepG; rfl) | apply ASl.stepG); (focus simp [*]; done); focus simp [*, -Option.some.injEq]; rfl | (first | (apply AOpl.pass; rfl) | apply ASl.pass); (focus simp [*]; done) | (first | refine AOpl.nil ?_ | refine AWp.skip ?_ | refine AWp.exit ?_ | refine AWp.ret ?_ | refine ASl.nil ?_); try simp only [Then, InBlock, reduceIte, Nat.reduceEqDiff] | refine AWp.seq ?_ | refine AWp.reg rfl ?_ | refine AWp.block ?_ | apply AWp.condT; focus simp [*]; done | apply AWp.condF; focus simp [*]; done | refine AWp.regT (by kernel_rfl) (by kernel_rfl) rfl rfl ?_)
      (refine ⟨_, (by simp [*]; rfl), ?_⟩; (try simp only [packA]))
      all_goals (rw [hw] <;> rfl)
    simp only [h4, h7, decide_false, Bool.or_self, Bool.false_eq_true, if_false] at hw
    obtain ⟨k, hk⟩ : ∃ k : Nat, u.main = k := ⟨u.main.toNat, by omega⟩
    have hkl : k < u.funcs.length := by omega
    rw [hk] at hw hU
    simp only [Int.toNat_natCast, List.getElem?_eq_getElem hkl] at hw
    have h4' : ¬ (k : Int) < 0 := by omega
    have h7' : ¬ (u.funcs.length : Int) ≤ k := by omega
    clear h4 h7 h3
    repeat (first | (first | (apply AOpl.step; rfl) | apply ASl.step); focus simp [cvFu, *, -Option.some.injEq]; rfl | (first | (apply AOpl.stepG; rfl) | apply ASl.stepG); (focus simp [cvFu, *]; done); focus simp [cvFu, *, -Option.some.injEq]; rfl | (first | (apply AOpl.pass; rfl) | apply ASl.pass); (focus simp [cvFu, *]; done) | (first | refine AOpl.nil ?_ | refine AWp.skip ?_ | refine AWp.exit ?_ | refine AWp.ret ?_ | refine ASl.nil ?_); try simp only [Then, InBlock, reduceIte, Nat.reduceEqDiff] | refine AWp.seq ?_ | refine AWp.reg rfl ?_ | refine AWp.block ?_ | apply AWp.condT; focus simp [cvFu, *]; done | apply AWp.condF; focus simp [cvFu, *]; done | refine AWp.regT (by kernel_rfl) (by kernel_rfl) rfl rfl ?_)
    repeat (first | (first | (apply AOpl.step; rfl) | apply ASl.step); focus simp [*, -Option.some.injEq]; rfl | (first | (apply AOpl.stepG; rfl) | apply ASl.stepG); (focus simp [*]; done); focus simp [*, -Option.some.injEq]; rfl | (first | (apply AOpl.pass; rfl) | apply ASl.pass); (focus simp [*]; done) | (first | refine AOpl.nil ?_ | refine AWp.skip ?_ | refine AWp.exit ?_ | refine AWp.ret ?_ | refine ASl.nil ?_); try simp only [Then, InBlock, reduceIte, Nat.reduceEqDiff] | refine AWp.seq ?_ | refine AWp.reg rfl ?_ | refine AWp.block ?_ | apply AWp.condT; focus simp [*]; done | apply AWp.condF; focus simp [*]; done | refine AWp.regT (by kernel_rfl) (by kernel_rfl) rfl rfl ?_ | (first | (apply AOpl.pickOrZ; rfl) | (apply AOpl.pickAndZ; rfl)); (focus (simp [*, -Ax.CV.bool.injEq]; rfl)); (focus (intro hq; (try simp only [Bool.not_eq_true', Bool.not_eq_false', decide_eq_true_eq, decide_eq_false_iff_not, Bool.and_eq_true, Bool.or_eq_false_iff] at hq); simp [*, -Ax.CV.bool.injEq]; rfl)); intro z hz | (first | (apply AOpl.pickOrGZ; rfl) | (apply AOpl.pickAndGZ; rfl)); (focus simp [*]; done); (focus (simp [*, -Ax.CV.bool.injEq]; rfl)); (focus (intro hq; (try simp only [Bool.not_eq_true', Bool.not_eq_false', decide_eq_true_eq, decide_eq_false_iff_not, Bool.and_eq_true, Bool.or_eq_false_iff] at hq); simp [*, -Ax.CV.bool.injEq]; rfl)); intro z hz | (first | (apply AOpl.pickOrCZ; rfl) | (apply AOpl.pickAndCZ; rfl)); (focus (simp [*, -Ax.CV.bool.injEq, -Option.some.injEq]; rfl)); (focus (intro hq; (try simp only [Bool.not_eq_true', Bool.not_eq_false', decide_eq_true_eq, decide_eq_false_iff_not, Bool.and_eq_true, Bool.or_eq_false_iff] at hq); simp [*, -Ax.CV.bool.injEq]; rfl)); (focus (intro hp hq; (try simp only [Bool.not_eq_true', Bool.not_eq_false', decide_eq_true_eq, decide_eq_false_iff_not, Bool.and_eq_true, Bool.or_eq_false_iff] at hp hq); simp [*, -Ax.CV.bool.injEq]; rfl)); intro z hz | (apply AOpl.passC; rfl); focus simp [*, -Ax.CV.bool.injEq]; done | (apply AOpl.lookC; rfl); (focus (simp [*, -Ax.CV.bool.injEq, -Option.some.injEq]; rfl)); focus intro _; simp [*, -Option.some.injEq]; rfl)
    (((apply AWp.cond'); (focus (simp [*, -Ax.CV.bool.injEq]; rfl))) <;> (intro hb) <;> (try simp only [decide_eq_true_eq, decide_eq_false_iff_not, Bool.not_eq_true', Bool.not_eq_false', Bool.not_eq_true, Bool.not_eq_false] at hb))
    · have hE : mainC u.funcs[k] = true := by unfold mainC; clear hw; subst_vars; first | assumption | (simp_all; done)
      simp only [hE, if_true] at hw
      repeat (first | (first | (apply AOpl.step; rfl) | apply ASl.step); focus simp [*, -Option.some.injEq]; rfl | (first | (apply AOpl.stepG; rfl) | apply ASl.stepG); (focus simp [*]; done); focus simp [*, -Option.some.injEq]; rfl | (first | (apply AOpl.pass; rfl) | apply ASl.pass); (focus simp [*]; done) | (first | refine AOpl.nil ?_ | refine AWp.skip ?_ | refine AWp.exit ?_ | refine AWp.ret ?_ | refine ASl.nil ?_); try simp only [Then, InBlock, reduceIte, Nat.reduceEqDiff] | refine AWp.seq ?_ | refine AWp.reg rfl ?_ | refine AWp.block ?_ | apply AWp.condT; focus simp [*]; done | apply AWp.condF; focus simp [*]; done | refine AWp.regT (by kernel_rfl) (by kernel_rfl) rfl rfl ?_)
      (refine ⟨_, (by simp [*]; rfl), ?_⟩; (try simp only [packA]))
      all_goals (rw [hw] <;> rfl)
    · have hE : mainC u.funcs[k] = false := by unfold mainC; clear hw; subst_vars; first | assumption | (simp_all; done)
      simp only [hE, Bool.false_eq_true, if_false] at hw
      repeat (first | (first | (apply AOpl.step; rfl) | apply ASl.step); focus simp [*, -Option.some.injEq]; rfl | (first | (apply AOpl.stepG; rfl) | apply ASl.stepG); (focus simp [*]; done); focus simp [*, -Option.some.injEq]; rfl | (first | (apply AOpl.pass; rfl) | apply ASl.pass); (focus simp [*]; done) | (first | refine AOpl.nil ?_ | refine AWp.skip ?_ | refine AWp.exit ?_ | refine AWp.ret ?_ | refine ASl.nil ?_); try simp only [Then, InBlock, reduceIte, Nat.reduceEqDiff] | refine AWp.seq ?_ | refine AWp.reg rfl ?_ | refine AWp.block ?_ | apply AWp.condT; focus simp [*]; done | apply AWp.condF; focus simp [*]; done | refine AWp.regT (by kernel_rfl) (by kernel_rfl) rfl rfl ?_)
      (refine ⟨_, (by simp [*]; rfl), ?_⟩; (try simp only [packA]))
      all_goals (rw [hw] <;> rfl)
theorem whole_count {u : Un} (h : wholeE u = 0) : mcount u.classes = u.funcs.length := by
  unfold wholeE at h
  split at h
  · rename_i h1; exact absurd h h1
  · split at h
    · cases h
    · split at h
      · cases h
      · rename_i h3; simp only [ne_eq, Decidable.not_not] at h3; omega
end Go.Proofs.YtdjllogimomgmaaGreatDoor
namespace Go.Proofs.YtdjllogimomgmaaGreatDoor
open Ax Tx Go.RowKit
attribute [local simp] stepS Ax.stepT Dl.on qstep astep estep rd putE over argE ofV ofS loadA pickCells isAggD faddA fieldA partA iaddA idxA sliA bnd binA intA strA unA convA bltA lenA mapOf lookA findK keyD scalD storeA mupA appA srcA srcD upd drp Dl.hp Dl.nx CV.cs CV.one buildA placesA fillA zrep tasA ifaceD eqA eqFs eqIs range2 copyA nbeq nble nblt decEq beqI bneI beqS bneS isED Int.ofNat_inj List.getElem?_map List.getElem?_eq_getElem Option.map_some ti_int ti_bool ti_str ti_i64 ti_Strs ti_Hi ti_Cds ti_Cd ti_Flds ti_Fld ti_Sgs ti_Sg ti_Ins ti_Inss ti_Ints ti_Fu ti_Fus ti_Un gd gdB callA resA op1
def isNew (x : Ins) : Bool := decide (x.op = 6)
def unitW (cds : List Cd) : Nat → Nat → List Fu → Int × Int × Int
  | _, n, [] => if (1024 : Int) < n then (-1, -1, 3) else (0, 0, 0)
  | i, n, f :: l => match numW cds i with
    | none => (0, 0, 0)
    | some (c, s) => if (funcE cds f c s).2 = 0 then unitW cds (i + 1) (n + f.code.countP isNew) l else (i, (funcE cds f c s).1, (funcE cds f c s).2)
def checkU (u : Un) : Int × Int × Int := if wholeE u ≠ 0 then (-1, -1, wholeE u) else unitW u.classes 0 0 u.funcs
set_option maxRecDepth 10000 in
set_option maxHeartbeats 16000000 in
theorem ucheck_ok (u : Un) (hu : UnB1 u) : FCall Tryz.prog cxG 69 [.agg (cvUn u)] fun r => r = .ret (.tup [.int .i64 (checkU u).1, .int .i64 (checkU u).2.1, .int .i64 (checkU u).2.2]) := by
  have hl := hu.hb.len
  have hfl := hu.fl
  obtain ⟨w, hw⟩ : ∃ w, w = checkU u := ⟨_, rfl⟩
  rw [← hw]
  unfold checkU at hw
  refine FCall.ofBody Tryz.func69 rfl rfl fun nx => ?_
  repeat (first | (first | (apply AOpl.step; rfl) | apply ASl.step); focus simp [cvUn, *, -Option.some.injEq]; rfl | (first | (apply AOpl.stepG; rfl) | apply ASl.stepG); (focus simp [cvUn, *]; done); focus simp [cvUn, *, -Option.some.injEq]; rfl | (first | (apply AOpl.pass; rfl) | apply ASl.pass); (focus simp [cvUn, *]; done) | (first | refine AOpl.nil ?_ | refine AWp.skip ?_ | refine AWp.exit ?_ | refine AWp.ret ?_ | refine ASl.nil ?_); try simp only [Then, InBlock, reduceIte, Nat.reduceEqDiff] | refine AWp.seq ?_ | refine AWp.reg rfl ?_ | refine AWp.block ?_ | apply AWp.condT; focus simp [cvUn, *]; done | apply AWp.condF; focus simp [cvUn, *]; done | refine AWp.regT (by kernel_rfl) (by kernel_rfl) rfl rfl ?_)
  (first | (first | (apply AOpl.callN; rfl) | apply ASl.call); (focus simp [cvUn, *, -Option.some.injEq]; rfl); kernel_rfl | (first | (apply AOpl.callNG; rfl) | apply ASl.callg); (focus simp [cvUn, *]; done); (focus simp [cvUn, *, -Option.some.injEq]; rfl); kernel_rfl)
  · exact whole_ok u hu
  intro nx2 hn2
  have q1 : ∀ k, ¬ nx = nx2 + k := fun k => by omega
  have q10 : ¬ nx = nx2 := by omega
  by_cases h1 : wholeE u = 0
  case neg =>
    simp only [h1, ne_eq, not_false_eq_true, if_true] at hw
    repeat (first | (first | (apply AOpl.step; rfl) | apply ASl.step); focus simp [*, -Option.some.injEq]; rfl | (first | (apply AOpl.stepG; rfl) | apply ASl.stepG); (focus simp [*]; done); focus simp [*, -Option.some.injEq]; rfl | (first | (apply AOpl.pass; rfl) | apply ASl.pass); (focus simp [*]; done) | (first | refine AOpl.nil ?_ | refine AWp.skip ?_ | refine AWp.exit ?_ | refine AWp.ret ?_ | refine ASl.nil ?_); try simp only [Then, InBlock, reduceIte, Nat.reduceEqDiff] | refine AWp.seq ?_ | refine AWp.reg rfl ?_ | refine AWp.block ?_ | apply AWp.condT; focus simp [*]; done | apply AWp.condF; focus simp [*]; done | refine AWp.regT (by kernel_rfl) (by kernel_rfl) rfl rfl ?_)
    (refine ⟨_, (by simp [*]; rfl), ?_⟩; (try simp only [packA]))
    all_goals (rw [hw] <;> rfl)
  simp only [h1, ne_eq, not_true, if_false] at hw
  have hcnt := whole_count h1
  repeat (first | (first | (apply AOpl.step; rfl) | apply ASl.step); focus simp [*, -Option.some.injEq]; rfl | (first | (apply AOpl.stepG; rfl) | apply ASl.stepG); (focus simp [*]; done); focus simp [*, -Option.some.injEq]; rfl | (first | (apply AOpl.pass; rfl) | apply ASl.pass); (focus simp [*]; done) | (first | refine AOpl.nil ?_ | refine AWp.skip ?_ | refine AWp.exit ?_ | refine AWp.ret ?_ | refine ASl.nil ?_); try simp only [Then, InBlock, reduceIte, Nat.reduceEqDiff] | refine AWp.seq ?_ | refine AWp.reg rfl ?_ | refine AWp.block ?_ | apply AWp.condT; focus simp [*]; done | apply AWp.condF; focus simp [*]; done | refine AWp.regT (by kernel_rfl) (by kernel_rfl) rfl rfl ?_)
  refine AWp.countO u.funcs.length [2, 3, 4, 5, 6, 7, 8, 9, 10, 11, 12, 13] 14 (fun i e H _ => ∃ n : Nat, e 7 = .int .i64 i ∧ e 6 = .int .i64 n ∧ n ≤ 1000 * i ∧ H nx = some (.cells (cvUn u)) ∧ w = unitW u.classes i n (u.funcs.drop i)) ⟨0, (by first | (simp (disch := omega) [putE, over, ofV, ofS, *]; done) | (simp (disch := omega) [putE, over, ofV, ofS, *]; rfl)), (by first | (simp (disch := omega) [putE, over, ofV, ofS, *]; done) | (simp (disch := omega) [putE, over, ofV, ofS, *]; rfl)), by omega, by simp [upd, cvUn], hw⟩ ?_
  clear hw
  rintro i v H nx3 hi hn3 ⟨n, h7, h6, hnb, hU, hw⟩
  simp only [cvUn] at hU
  have q3 : ∀ k, ¬ nx = nx3 + k := fun k => by omega
  have q30 : ¬ nx = nx3 := by omega
  repeat (first | (first | (apply AOpl.step; rfl) | apply ASl.step); focus simp [*, -Option.some.injEq]; rfl | (first | (apply AOpl.stepG; rfl) | apply ASl.stepG); (focus simp [*]; done); focus simp [*, -Option.some.injEq]; rfl | (first | (apply AOpl.pass; rfl) | apply ASl.pass); (focus simp [*]; done) | (first | refine AOpl.nil ?_ | refine AWp.skip ?_ | refine AWp.exit ?_ | refine AWp.ret ?_ | refine ASl.nil ?_); try simp only [Then, InBlock, reduceIte, Nat.reduceEqDiff] | refine AWp.seq ?_ | refine AWp.reg rfl ?_ | refine AWp.block ?_ | apply AWp.condT; focus simp [*]; done | apply AWp.condF; focus simp [*]; done | refine AWp.regT (by kernel_rfl) (by kernel_rfl) rfl rfl ?_)
  (((apply AWp.cond'); (focus (simp [*, -Ax.CV.bool.injEq]; rfl))) <;> (intro hb) <;> (try simp only [decide_eq_true_eq, decide_eq_false_iff_not, Bool.not_eq_true', Bool.not_eq_false', Bool.not_eq_true, Bool.not_eq_false] at hb))
  · have hlt : i < u.funcs.length := hb
    have hwi := wrap_up hlt (show u.funcs.length ≤ maxLen by simp only [maxLen]; omega)
    have hfb := hu.fb _ (List.getElem_mem hlt)
    obtain ⟨c, hc, s, hs, hnum⟩ := numW_some u.classes i (by omega)
    have hpl := hu.hb.pl _ hc _ hs
    have hN := num_ok u.classes hu.hb i (by omega)
    rw [hnum] at hN
    simp only [cvLook, cvSg] at hN
    rw [dropAt hlt, unitW, hnum] at hw
    simp only at hw
    clear hb hs hc hnum hcnt
    have hF := func_one u.classes hu.hb u.funcs[i] hfb c.name s hpl
    generalize hm : u.funcs[i] = f at *
    repeat (first | (first | (apply AOpl.step; rfl) | apply ASl.step); focus simp [*, -Option.some.injEq]; rfl | (first | (apply AOpl.stepG; rfl) | apply ASl.stepG); (focus simp [*]; done); focus simp [*, -Option.some.injEq]; rfl | (first | (apply AOpl.pass; rfl) | apply ASl.pass); (focus simp [*]; done) | (first | refine AOpl.nil ?_ | refine AWp.skip ?_ | refine AWp.exit ?_ | refine AWp.ret ?_ | refine ASl.nil ?_); try simp only [Then, InBlock, reduceIte, Nat.reduceEqDiff] | refine AWp.seq ?_ | refine AWp.reg rfl ?_ | refine AWp.block ?_ | apply AWp.condT; focus simp [*]; done | apply AWp.condF; focus simp [*]; done | refine AWp.regT (by kernel_rfl) (by kernel_rfl) rfl rfl ?_)
    (first | (first | (apply AOpl.callN; rfl) | apply ASl.call); (focus simp [*, -Option.some.injEq]; rfl); kernel_rfl | (first | (apply AOpl.callNG; rfl) | apply ASl.callg); (focus simp [*]; done); (focus simp [*, -Option.some.injEq]; rfl); kernel_rfl)
    · exact hN
    intro nx4 hn4
    have q4 : ∀ k, ¬ nx = nx4 + k := fun k => by omega
    have q40 : ¬ nx = nx4 := by omega
    repeat (first | (first | (apply AOpl.step; rfl) | apply ASl.step); focus simp [cvFu, *, -Option.some.injEq]; rfl | (first | (apply AOpl.stepG; rfl) | apply ASl.stepG); (focus simp [cvFu, *]; done); focus simp [cvFu, *, -Option.some.injEq]; rfl | (first | (apply AOpl.pass; rfl) | apply ASl.pass); (focus simp [cvFu, *]; done) | (first | refine AOpl.nil ?_ | refine AWp.skip ?_ | refine AWp.exit ?_ | refine AWp.ret ?_ | refine ASl.nil ?_); try simp only [Then, InBlock, reduceIte, Nat.reduceEqDiff] | refine AWp.seq ?_ | refine AWp.reg rfl ?_ | refine AWp.block ?_ | apply AWp.condT; focus simp [cvFu, *]; done | apply AWp.condF; focus simp [cvFu, *]; done | refine AWp.regT (by kernel_rfl) (by kernel_rfl) rfl rfl ?_)
    (first | (first | (apply AOpl.callN; rfl) | apply ASl.call); (focus simp [cvFu, *, -Option.some.injEq]; rfl); kernel_rfl | (first | (apply AOpl.callNG; rfl) | apply ASl.callg); (focus simp [cvFu, *]; done); (focus simp [cvFu, *, -Option.some.injEq]; rfl); kernel_rfl)
    · exact hF
    by_cases h5 : (funcE u.classes f c.name s).2 = 0
    case neg =>
      simp only [h5, if_false] at hw
      repeat (first | (first | (apply AOpl.step; rfl) | apply ASl.step); focus simp [*, -Option.some.injEq]; rfl | (first | (apply AOpl.stepG; rfl) | apply ASl.stepG); (focus simp [*]; done); focus simp [*, -Option.some.injEq]; rfl | (first | (apply AOpl.pass; rfl) | apply ASl.pass); (focus simp [*]; done) | (first | refine AOpl.nil ?_ | refine AWp.skip ?_ | refine AWp.exit ?_ | refine AWp.ret ?_ | refine ASl.nil ?_); try simp only [Then, InBlock, reduceIte, Nat.reduceEqDiff] | refine AWp.seq ?_ | refine AWp.reg rfl ?_ | refine AWp.block ?_ | apply AWp.condT; focus simp [*]; done | apply AWp.condF; focus simp [*]; done | refine AWp.regT (by kernel_rfl) (by kernel_rfl) rfl rfl ?_)
      (refine ⟨_, (by simp [*]; rfl), ?_⟩; (try simp only [packA]))
      all_goals (rw [hw] <;> rfl)
    simp only [h5, if_true] at hw
    have hcl := hfb.cl
    repeat (first | (first | (apply AOpl.step; rfl) | apply ASl.step); focus simp [*, -Option.some.injEq]; rfl | (first | (apply AOpl.stepG; rfl) | apply ASl.stepG); (focus simp [*]; done); focus simp [*, -Option.some.injEq]; rfl | (first | (apply AOpl.pass; rfl) | apply ASl.pass); (focus simp [*]; done) | (first | refine AOpl.nil ?_ | refine AWp.skip ?_ | refine AWp.exit ?_ | refine AWp.ret ?_ | refine ASl.nil ?_); try simp only [Then, InBlock, reduceIte, Nat.reduceEqDiff] | refine AWp.seq ?_ | refine AWp.reg rfl ?_ | refine AWp.block ?_ | apply AWp.condT; focus simp [*]; done | apply AWp.condF; focus simp [*]; done | refine AWp.regT (by kernel_rfl) (by kernel_rfl) rfl rfl ?_)
    refine AWp.countO f.code.length [6, 13] 14 (fun j e H _ => e 13 = .int .i64 j ∧ e 6 = .int .i64 ((n + (f.code.take j).countP isNew : Nat) : Int) ∧ H nx = some (.cells (cvUn u))) ⟨(by first | (simp (disch := omega) [putE, over, ofV, ofS, *]; done) | (simp (disch := omega) [putE, over, ofV, ofS, *]; rfl)), (by first | (simp (disch := omega) [putE, over, ofV, ofS, *]; done) | (simp (disch := omega) [putE, over, ofV, ofS, *]; rfl)), by simp [upd, hU, cvUn, q4, q40]⟩ ?_
    rintro j v2 H2 nx5 hj hn5 ⟨h13, h62, hU2⟩
    simp only [cvUn] at hU2
    have q5 : ∀ k, ¬ nx = nx5 + k := fun k => by omega
    repeat (first | (first | (apply AOpl.step; rfl) | apply ASl.step); focus simp [cvFu, *, -Option.some.injEq]; rfl | (first | (apply AOpl.stepG; rfl) | apply ASl.stepG); (focus simp [cvFu, *]; done); focus simp [cvFu, *, -Option.some.injEq]; rfl | (first | (apply AOpl.pass; rfl) | apply ASl.pass); (focus simp [cvFu, *]; done) | (first | refine AOpl.nil ?_ | refine AWp.skip ?_ | refine AWp.exit ?_ | refine AWp.ret ?_ | refine ASl.nil ?_); try simp only [Then, InBlock, reduceIte, Nat.reduceEqDiff] | refine AWp.seq ?_ | refine AWp.reg rfl ?_ | refine AWp.block ?_ | apply AWp.condT; focus simp [cvFu, *]; done | apply AWp.condF; focus simp [cvFu, *]; done | refine AWp.regT (by kernel_rfl) (by kernel_rfl) rfl rfl ?_)
    (((apply AWp.cond'); (focus (simp [*, -Ax.CV.bool.injEq]; rfl))) <;> (intro hb) <;> (try simp only [decide_eq_true_eq, decide_eq_false_iff_not, Bool.not_eq_true', Bool.not_eq_false', Bool.not_eq_true, Bool.not_eq_false] at hb))
    · have hlj : j < f.code.length := hb
      have hwj := wrap_up hlj (show f.code.length ≤ maxLen by simp only [maxLen]; omega)
      have hle : (f.code.take j).countP isNew ≤ j := by
        have := List.countP_le_length (p := isNew) (l := f.code.take j)
        rw [List.length_take] at this; omega
      have hts := take_succ_at hlj
      have hw1 : IntKind.i64.wrap (((n + (f.code.take j).countP isNew : Nat) : Int) + 1) = ((n + (f.code.take j).countP isNew + 1 : Nat) : Int) := by rw [IntKind.wrap_i64]; omega
      clear hb
      obtain ⟨Z, hZ⟩ : ∃ Z, n + (f.code.take j).countP isNew = Z := ⟨_, rfl⟩
      rw [hZ] at h62 hw1
      repeat (first | (first | (apply AOpl.step; rfl) | apply ASl.step); focus simp [cvFu, cvIns, *, -Option.some.injEq]; rfl | (first | (apply AOpl.stepG; rfl) | apply ASl.stepG); (focus simp [cvFu, cvIns, *]; done); focus simp [cvFu, cvIns, *, -Option.some.injEq]; rfl | (first | (apply AOpl.pass; rfl) | apply ASl.pass); (focus simp [cvFu, cvIns, *]; done) | (first | refine AOpl.nil ?_ | refine AWp.skip ?_ | refine AWp.exit ?_ | refine AWp.ret ?_ | refine ASl.nil ?_); try simp only [Then, InBlock, reduceIte, Nat.reduceEqDiff] | refine AWp.seq ?_ | refine AWp.reg rfl ?_ | refine AWp.block ?_ | apply AWp.condT; focus simp [cvFu, cvIns, *]; done | apply AWp.condF; focus simp [cvFu, cvIns, *]; done | refine AWp.regT (by kernel_rfl) (by kernel_rfl) rfl rfl ?_)
      (((apply AWp.cond'); (focus (simp [*, -Ax.CV.bool.injEq]; rfl))) <;> (intro hb) <;> (try simp only [decide_eq_true_eq, decide_eq_false_iff_not, Bool.not_eq_true', Bool.not_eq_false', Bool.not_eq_true, Bool.not_eq_false] at hb))
      · have hE : isNew f.code[j] = true := by unfold isNew; simp [hb]
        clear hb
        repeat (first | (first | (apply AOpl.step; rfl) | apply ASl.step); focus simp [*, -Option.some.injEq]; rfl | (first | (apply AOpl.stepG; rfl) | apply ASl.stepG); (focus simp [*]; done); focus simp [*, -Option.some.injEq]; rfl | (first | (apply AOpl.pass; rfl) | apply ASl.pass); (focus simp [*]; done) | (first | refine AOpl.nil ?_ | refine AWp.skip ?_ | refine AWp.exit ?_ | refine AWp.ret ?_ | refine ASl.nil ?_); try simp only [Then, InBlock, reduceIte, Nat.reduceEqDiff] | refine AWp.seq ?_ | refine AWp.reg rfl ?_ | refine AWp.block ?_ | apply AWp.condT; focus simp [*]; done | apply AWp.condF; focus simp [*]; done | refine AWp.regT (by kernel_rfl) (by kernel_rfl) rfl rfl ?_)
        have e1 : n + (f.code.take (j + 1)).countP isNew = Z + 1 := by rw [hts, List.countP_append, ← hZ]; simp [hE]; omega
        exact ⟨by ((repeat (first | exact Keeps.base _ _ _ _ | (with_reducible exact Keeps.refl _ _ _) | (refine Keeps.put rfl ?_) | (refine Keeps.over' rfl rfl ?_)))), hlj, (by first | (simp (disch := omega) [putE, over, ofV, ofS, *]; done) | (simp (disch := omega) [putE, over, ofV, ofS, *]; rfl)), by rw [e1]; simp [putE, over], by simp [hU2, cvUn]⟩
      · have hE : isNew f.code[j] = false := by unfold isNew; simp [hb]
        clear hb
        repeat (first | (first | (apply AOpl.step; rfl) | apply ASl.step); focus simp [*, -Option.some.injEq]; rfl | (first | (apply AOpl.stepG; rfl) | apply ASl.stepG); (focus simp [*]; done); focus simp [*, -Option.some.injEq]; rfl | (first | (apply AOpl.pass; rfl) | apply ASl.pass); (focus simp [*]; done) | (first | refine AOpl.nil ?_ | refine AWp.skip ?_ | refine AWp.exit ?_ | refine AWp.ret ?_ | refine ASl.nil ?_); try simp only [Then, InBlock, reduceIte, Nat.reduceEqDiff] | refine AWp.seq ?_ | refine AWp.reg rfl ?_ | refine AWp.block ?_ | apply AWp.condT; focus simp [*]; done | apply AWp.condF; focus simp [*]; done | refine AWp.regT (by kernel_rfl) (by kernel_rfl) rfl rfl ?_)
        have e1 : n + (f.code.take (j + 1)).countP isNew = Z := by rw [hts, List.countP_append, ← hZ]; simp [hE]
        exact ⟨by ((repeat (first | exact Keeps.base _ _ _ _ | (with_reducible exact Keeps.refl _ _ _) | (refine Keeps.put rfl ?_) | (refine Keeps.over' rfl rfl ?_)))), hlj, (by first | (simp (disch := omega) [putE, over, ofV, ofS, *]; done) | (simp (disch := omega) [putE, over, ofV, ofS, *]; rfl)), by rw [e1]; simp [putE, over, h62], by simp [hU2, cvUn]⟩
    · have hj' : j = f.code.length := by omega
      rw [hj', List.take_length] at h62
      have hle : f.code.countP isNew ≤ f.code.length := List.countP_le_length
      clear hb hj
      repeat (first | (first | (apply AOpl.step; rfl) | apply ASl.step); focus simp [*, -Option.some.injEq]; rfl | (first | (apply AOpl.stepG; rfl) | apply ASl.stepG); (focus simp [*]; done); focus simp [*, -Option.some.injEq]; rfl | (first | (apply AOpl.pass; rfl) | apply ASl.pass); (focus simp [*]; done) | (first | refine AOpl.nil ?_ | refine AWp.skip ?_ | refine AWp.exit ?_ | refine AWp.ret ?_ | refine ASl.nil ?_); try simp only [Then, InBlock, reduceIte, Nat.reduceEqDiff] | refine AWp.seq ?_ | refine AWp.reg rfl ?_ | refine AWp.block ?_ | apply AWp.condT; focus simp [*]; done | apply AWp.condF; focus simp [*]; done | refine AWp.regT (by kernel_rfl) (by kernel_rfl) rfl rfl ?_)
      exact ⟨by ((repeat (first | exact Keeps.base _ _ _ _ | (with_reducible exact Keeps.refl _ _ _) | (refine Keeps.put rfl ?_) | (refine Keeps.over' rfl rfl ?_)))), hlt, n + f.code.countP isNew, (by first | (simp (disch := omega) [putE, over, ofV, ofS, *]; done) | (simp (disch := omega) [putE, over, ofV, ofS, *]; rfl)), (by first | (simp (disch := omega) [putE, over, ofV, ofS, *]; done) | (simp (disch := omega) [putE, over, ofV, ofS, *]; rfl)), by omega, by simp [hU2, cvUn], hw⟩
  · rw [dropEnd hi hb, unitW] at hw
    clear hb
    by_cases h5 : (1024 : Int) < n
    · simp only [h5, if_true] at hw
      repeat (first | (first | (apply AOpl.step; rfl) | apply ASl.step); focus simp [*, -Option.some.injEq]; rfl | (first | (apply AOpl.stepG; rfl) | apply ASl.stepG); (focus simp [*]; done); focus simp [*, -Option.some.injEq]; rfl | (first | (apply AOpl.pass; rfl) | apply ASl.pass); (focus simp [*]; done) | (first | refine AOpl.nil ?_ | refine AWp.skip ?_ | refine AWp.exit ?_ | refine AWp.ret ?_ | refine ASl.nil ?_); try simp only [Then, InBlock, reduceIte, Nat.reduceEqDiff] | refine AWp.seq ?_ | refine AWp.reg rfl ?_ | refine AWp.block ?_ | apply AWp.condT; focus simp [*]; done | apply AWp.condF; focus simp [*]; done | refine AWp.regT (by kernel_rfl) (by kernel_rfl) rfl rfl ?_)
      (refine ⟨_, (by simp [*]; rfl), ?_⟩; (try simp only [packA]))
      all_goals (rw [hw] <;> rfl)
    · simp only [h5, if_false] at hw
      repeat (first | (first | (apply AOpl.step; rfl) | apply ASl.step); focus simp [*, -Option.some.injEq]; rfl | (first | (apply AOpl.stepG; rfl) | apply ASl.stepG); (focus simp [*]; done); focus simp [*, -Option.some.injEq]; rfl | (first | (apply AOpl.pass; rfl) | apply ASl.pass); (focus simp [*]; done) | (first | refine AOpl.nil ?_ | refine AWp.skip ?_ | refine AWp.exit ?_ | refine AWp.ret ?_ | refine ASl.nil ?_); try simp only [Then, InBlock, reduceIte, Nat.reduceEqDiff] | refine AWp.seq ?_ | refine AWp.reg rfl ?_ | refine AWp.block ?_ | apply AWp.condT; focus simp [*]; done | apply AWp.condF; focus simp [*]; done | refine AWp.regT (by kernel_rfl) (by kernel_rfl) rfl rfl ?_)
      (refine ⟨_, (by simp [*]; rfl), ?_⟩; (try simp only [packA]))
      all_goals (rw [hw] <;> rfl)
theorem ucheck13_ok (u : Un) (hu : UnB1 u) : FCall Tryz.prog cxG 40 [.agg (cvUn u)] fun r => r = .ret (.tup [.int .i64 (checkU u).1, .int .i64 (checkU u).2.1, .int .i64 (checkU u).2.2]) := by
  refine FCall.ofBody Tryz.func40 rfl rfl fun nx => ?_
  repeat (first | (first | (apply AOpl.step; rfl) | apply ASl.step); focus simp [cvUn, *, -Option.some.injEq]; rfl | (first | (apply AOpl.stepG; rfl) | apply ASl.stepG); (focus simp [cvUn, *]; done); focus simp [cvUn, *, -Option.some.injEq]; rfl | (first | (apply AOpl.pass; rfl) | apply ASl.pass); (focus simp [cvUn, *]; done) | (first | refine AOpl.nil ?_ | refine AWp.skip ?_ | refine AWp.exit ?_ | refine AWp.ret ?_ | refine ASl.nil ?_); try simp only [Then, InBlock, reduceIte, Nat.reduceEqDiff] | refine AWp.seq ?_ | refine AWp.reg rfl ?_ | refine AWp.block ?_ | apply AWp.condT; focus simp [cvUn, *]; done | apply AWp.condF; focus simp [cvUn, *]; done | refine AWp.regT (by kernel_rfl) (by kernel_rfl) rfl rfl ?_)
  (first | (first | (apply AOpl.callN; rfl) | apply ASl.call); (focus simp [cvUn, *, -Option.some.injEq]; rfl); kernel_rfl | (first | (apply AOpl.callNG; rfl) | apply ASl.callg); (focus simp [cvUn, *]; done); (focus simp [cvUn, *, -Option.some.injEq]; rfl); kernel_rfl)
  · exact ucheck_ok u hu
  intro nx2 hn2
  repeat (first | (first | (apply AOpl.step; rfl) | apply ASl.step); focus simp [*, -Option.some.injEq]; rfl | (first | (apply AOpl.stepG; rfl) | apply ASl.stepG); (focus simp [*]; done); focus simp [*, -Option.some.injEq]; rfl | (first | (apply AOpl.pass; rfl) | apply ASl.pass); (focus simp [*]; done) | (first | refine AOpl.nil ?_ | refine AWp.skip ?_ | refine AWp.exit ?_ | refine AWp.ret ?_ | refine ASl.nil ?_); try simp only [Then, InBlock, reduceIte, Nat.reduceEqDiff] | refine AWp.seq ?_ | refine AWp.reg rfl ?_ | refine AWp.block ?_ | apply AWp.condT; focus simp [*]; done | apply AWp.condF; focus simp [*]; done | refine AWp.regT (by kernel_rfl) (by kernel_rfl) rfl rfl ?_)
  (refine ⟨_, (by simp [*]; rfl), ?_⟩; (try simp only [packA]))
  all_goals rfl
theorem fit_bounds {u : Un} (hu : UnB u) (h : fitU u = true) : UnB1 u ∧ u.funcs.length ≤ 20 ∧ u.classes.length ≤ 12 := by
  simp only [fitU, Bool.and_eq_true, decide_eq_true_eq, List.all_eq_true] at h
  obtain ⟨⟨⟨⟨h1, h2⟩, h3⟩, h4⟩, h5⟩ := h
  refine ⟨⟨⟨by omega, fun c hc => ?_, fun c hc => ?_, fun c hc m hm => ?_⟩, by omega, fun f hf => ?_⟩, h1, h2⟩
  · have := h3 c hc
    simp only [fitCd, Bool.and_eq_true, decide_eq_true_eq] at this; omega
  · have := h3 c hc
    simp only [fitCd, Bool.and_eq_true, decide_eq_true_eq] at this; omega
  · have := h3 c hc
    simp only [fitCd, Bool.and_eq_true, decide_eq_true_eq, List.all_eq_true] at this
    have := this.2 m hm; omega
  · have := h4 f hf
    simp only [fitFu, Bool.and_eq_true, decide_eq_true_eq, List.all_eq_true] at this
    exact ⟨⟨by omega, by omega, fun x hx => by have := this.2 x hx; omega⟩, fun v hv => ((hu.funcs f hf).vars v hv).1⟩
def smallB (u : Un) : Bool := fitU u && decide ((checkU u).2.2 = 0)
theorem small_ok (u : Un) (hu : UnB u) : FCall Tryz.prog cxG 17 [.agg (cvUn u), .int .i64 100] fun r => r = .ret (.bool (smallB u)) := by
  obtain ⟨w, hw⟩ : ∃ w, w = smallB u := ⟨_, rfl⟩
  rw [← hw]
  unfold smallB at hw
  refine FCall.ofBody Tryz.func17 rfl rfl fun nx => ?_
  repeat (first | (first | (apply AOpl.step; rfl) | apply ASl.step); focus simp [cvUn, *, -Option.some.injEq]; rfl | (first | (apply AOpl.stepG; rfl) | apply ASl.stepG); (focus simp [cvUn, *]; done); focus simp [cvUn, *, -Option.some.injEq]; rfl | (first | (apply AOpl.pass; rfl) | apply ASl.pass); (focus simp [cvUn, *]; done) | (first | refine AOpl.nil ?_ | refine AWp.skip ?_ | refine AWp.exit ?_ | refine AWp.ret ?_ | refine ASl.nil ?_); try simp only [Then, InBlock, reduceIte, Nat.reduceEqDiff] | refine AWp.seq ?_ | refine AWp.reg rfl ?_ | refine AWp.block ?_ | apply AWp.condT; focus simp [cvUn, *]; done | apply AWp.condF; focus simp [cvUn, *]; done | refine AWp.regT (by kernel_rfl) (by kernel_rfl) rfl rfl ?_)
  (first | (first | (apply AOpl.callN; rfl) | apply ASl.call); (focus simp [cvUn, *, -Option.some.injEq]; rfl); kernel_rfl | (first | (apply AOpl.callNG; rfl) | apply ASl.callg); (focus simp [cvUn, *]; done); (focus simp [cvUn, *, -Option.some.injEq]; rfl); kernel_rfl)
  · exact fit_ok u hu
  intro nx2 hn2
  cases h1 : fitU u
  · simp only [h1, Bool.false_and] at hw
    repeat (first | (first | (apply AOpl.step; rfl) | apply ASl.step); focus simp [*, -Option.some.injEq]; rfl | (first | (apply AOpl.stepG; rfl) | apply ASl.stepG); (focus simp [*]; done); focus simp [*, -Option.some.injEq]; rfl | (first | (apply AOpl.pass; rfl) | apply ASl.pass); (focus simp [*]; done) | (first | refine AOpl.nil ?_ | refine AWp.skip ?_ | refine AWp.exit ?_ | refine AWp.ret ?_ | refine ASl.nil ?_); try simp only [Then, InBlock, reduceIte, Nat.reduceEqDiff] | refine AWp.seq ?_ | refine AWp.reg rfl ?_ | refine AWp.block ?_ | apply AWp.condT; focus simp [*]; done | apply AWp.condF; focus simp [*]; done | refine AWp.regT (by kernel_rfl) (by kernel_rfl) rfl rfl ?_)
    (refine ⟨_, (by simp [*]; rfl), ?_⟩; (try simp only [packA]))
    all_goals (rw [hw] <;> rfl)
  simp only [h1, Bool.true_and] at hw
  have q1 : ∀ k, ¬ nx = nx2 + k := fun k => by omega
  have q10 : ¬ nx = nx2 := by omega
  repeat (first | (first | (apply AOpl.step; rfl) | apply ASl.step); focus simp [*, -Option.some.injEq]; rfl | (first | (apply AOpl.stepG; rfl) | apply ASl.stepG); (focus simp [*]; done); focus simp [*, -Option.some.injEq]; rfl | (first | (apply AOpl.pass; rfl) | apply ASl.pass); (focus simp [*]; done) | (first | refine AOpl.nil ?_ | refine AWp.skip ?_ | refine AWp.exit ?_ | refine AWp.ret ?_ | refine ASl.nil ?_); try simp only [Then, InBlock, reduceIte, Nat.reduceEqDiff] | refine AWp.seq ?_ | refine AWp.reg rfl ?_ | refine AWp.block ?_ | apply AWp.condT; focus simp [*]; done | apply AWp.condF; focus simp [*]; done | refine AWp.regT (by kernel_rfl) (by kernel_rfl) rfl rfl ?_)
  (first | (first | (apply AOpl.callN; rfl) | apply ASl.call); (focus simp [cvUn, *, -Option.some.injEq]; rfl); kernel_rfl | (first | (apply AOpl.callNG; rfl) | apply ASl.callg); (focus simp [cvUn, *]; done); (focus simp [cvUn, *, -Option.some.injEq]; rfl); kernel_rfl)
  · exact ucheck13_ok u (fit_bounds hu h1).1
  intro nx3 hn3
  repeat (first | (first | (apply AOpl.step; rfl) | apply ASl.step); focus simp [*, -Option.some.injEq]; rfl | (first | (apply AOpl.stepG; rfl) | apply ASl.stepG); (focus simp [*]; done); focus simp [*, -Option.some.injEq]; rfl | (first | (apply AOpl.pass; rfl) | apply ASl.pass); (focus simp [*]; done) | (first | refine AOpl.nil ?_ | refine AWp.skip ?_ | refine AWp.exit ?_ | refine AWp.ret ?_ | refine ASl.nil ?_); try simp only [Then, InBlock, reduceIte, Nat.reduceEqDiff] | refine AWp.seq ?_ | refine AWp.reg rfl ?_ | refine AWp.block ?_ | apply AWp.condT; focus simp [*]; done | apply AWp.condF; focus simp [*]; done | refine AWp.regT (by kernel_rfl) (by kernel_rfl) rfl rfl ?_)
  (refine ⟨_, (by simp [*]; rfl), ?_⟩; (try simp only [packA]))
  all_goals (rw [hw] <;> rfl)
end Go.Proofs.YtdjllogimomgmaaGreatDoor
