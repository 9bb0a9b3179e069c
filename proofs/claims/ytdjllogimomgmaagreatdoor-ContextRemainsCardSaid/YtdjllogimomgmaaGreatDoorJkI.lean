/-
  Whether a function is the one of a method; walked.
-/
import Derived.Test.YtdjllogimomgmaaGreatDoorJkH
set_option linter.unusedSimpArgs false
set_option linter.unusedVariables false
namespace Go.Proofs.YtdjllogimomgmaaGreatDoor
open Ax Tx Go.RowKit
attribute [local simp] stepS Ax.stepT Dl.on qstep astep estep rd putE over argE ofV ofS loadA pickCells isAggD faddA fieldA partA iaddA idxA sliA bnd binA intA strA unA convA bltA lenA mapOf lookA findK keyD scalD storeA mupA appA srcA srcD upd drp Dl.hp Dl.nx CV.cs CV.one buildA placesA fillA zrep tasA ifaceD eqA eqFs eqIs range2 copyA nbeq nble nblt decEq beqI bneI beqS bneS isED Int.ofNat_inj List.getElem?_map List.getElem?_eq_getElem Option.map_some ti_int ti_bool ti_str ti_i64 ti_Strs ti_Hi ti_Cds ti_Cd ti_Flds ti_Fld ti_Sgs ti_Sg ti_Ins ti_Inss ti_Ints ti_Fu gd gdB callA resA op1
def fC1 (f : Fu) (cls : Bs) (s : Sg) : Bool := ((!decide (f.cls = cls) || !decide (f.name = s.name)) || (f.static != s.static)) || !decide (f.result = s.result)
def fN (s : Sg) : Nat := s.params.length + if s.static = true then 0 else 1
def fC2 (f : Fu) (s : Sg) : Bool := !decide (f.params = (fN s : Int)) || decide ((f.vars.length : Int) < (fN s : Int))
def fC3 (f : Fu) (cls : Bs) (s : Sg) : Bool := !s.static && (match f.vars[0]? with
  | some v => !decide (v.name = thisS) || !decide (v.typ = cls)
  | none => true)
def mismT : List Fld → List Bs → Bool
  | v :: l, p :: m => !decide (v.typ = p) || mismT l m
  | _, _ => false
def fitB (f : Fu) (cls : Bs) (s : Sg) : Bool := if fC1 f cls s = true then false else if fC2 f s = true then false else if fC3 f cls s = true then false else !mismT (f.vars.drop (if s.static = true then 0 else 1)) s.params
theorem wrap_nat (n : Nat) (h : n ≤ maxLen) : IntKind.i64.wrap (n : Int) = n := by
  rw [IntKind.wrap_i64]; simp only [maxLen] at h; omega
set_option maxRecDepth 10000 in
set_option maxHeartbeats 16000000 in
theorem fitB_ok (f : Fu) (cls : Bs) (s : Sg) (hv : f.vars.length ≤ 1000) (hp : s.params.length ≤ 1000) :
    FCall Tryz.prog cxG 133 [.agg (cvFu f), .str cls, .agg (cvSg s)] fun r => r = .ret (.bool (fitB f cls s)) := by
  obtain ⟨w, hw⟩ : ∃ w, w = fitB f cls s := ⟨_, rfl⟩
  rw [← hw]
  unfold fitB at hw
  have c1 : fC1 f cls s = true → w = false := fun h => by rw [hw, if_pos h]
  have d1 : fC1 f cls s = false → w = (if fC2 f s = true then false else if fC3 f cls s = true then false else !mismT (f.vars.drop (if s.static = true then 0 else 1)) s.params) := fun h => by rw [hw, if_neg (by simp [h])]
  clear hw
  have wz : IntKind.i64.wrap 0 = 0 := by rw [IntKind.wrap_i64]; rfl
  have w1 : IntKind.i64.wrap 1 = 1 := by rw [IntKind.wrap_i64]; rfl
  have w2 : IntKind.i64.wrap ((s.params.length : Int) + 1 - s.params.length) = 1 := by rw [IntKind.wrap_i64]; omega
  have wl : IntKind.i64.wrap ((s.params.length : Int) + 1) = ((s.params.length + 1 : Nat) : Int) := by rw [IntKind.wrap_i64]; omega
  refine FCall.ofBody Tryz.func133 rfl rfl fun nx => ?_
  repeat (first | (first | (apply AOpl.step; rfl) | apply ASl.step); focus simp [cvFu, cvSg, *, -Option.some.injEq]; rfl | (first | (apply AOpl.stepG; rfl) | apply ASl.stepG); (focus simp [cvFu, cvSg, *]; done); focus simp [cvFu, cvSg, *, -Option.some.injEq]; rfl | (first | (apply AOpl.pass; rfl) | apply ASl.pass); (focus simp [cvFu, cvSg, *]; done) | (first | refine AOpl.nil ?_ | refine AWp.skip ?_ | refine AWp.exit ?_ | refine AWp.ret ?_ | refine ASl.nil ?_); try simp only [Then, InBlock, reduceIte, Nat.reduceEqDiff] | refine AWp.seq ?_ | refine AWp.reg rfl ?_ | refine AWp.block ?_ | apply AWp.condT; focus simp [cvFu, cvSg, *]; done | apply AWp.condF; focus simp [cvFu, cvSg, *]; done | refine AWp.regT (by kernel_rfl) (by kernel_rfl) rfl rfl ?_ | (first | (apply AOpl.pickOrZ; rfl) | (apply AOpl.pickAndZ; rfl)); (focus (simp [cvFu, cvSg, *, -Ax.CV.bool.injEq]; rfl)); (focus (intro hq; (try simp only [Bool.not_eq_true', Bool.not_eq_false', decide_eq_true_eq, decide_eq_false_iff_not, Bool.and_eq_true, Bool.or_eq_false_iff] at hq); simp [cvFu, cvSg, *, -Ax.CV.bool.injEq]; rfl)); intro z hz | (first | (apply AOpl.pickOrGZ; rfl) | (apply AOpl.pickAndGZ; rfl)); (focus simp [cvFu, cvSg, *]; done); (focus (simp [cvFu, cvSg, *, -Ax.CV.bool.injEq]; rfl)); (focus (intro hq; (try simp only [Bool.not_eq_true', Bool.not_eq_false', decide_eq_true_eq, decide_eq_false_iff_not, Bool.and_eq_true, Bool.or_eq_false_iff] at hq); simp [cvFu, cvSg, *, -Ax.CV.bool.injEq]; rfl)); intro z hz | (first | (apply AOpl.pickOrCZ; rfl) | (apply AOpl.pickAndCZ; rfl)); (focus (simp [cvFu, cvSg, *, -Ax.CV.bool.injEq, -Option.some.injEq]; rfl)); (focus (intro hq; (try simp only [Bool.not_eq_true', Bool.not_eq_false', decide_eq_true_eq, decide_eq_false_iff_not, Bool.and_eq_true, Bool.or_eq_false_iff] at hq); simp [cvFu, cvSg, *, -Ax.CV.bool.injEq]; rfl)); (focus (intro hp hq; (try simp only [Bool.not_eq_true', Bool.not_eq_false', decide_eq_true_eq, decide_eq_false_iff_not, Bool.and_eq_true, Bool.or_eq_false_iff] at hp hq); simp [cvFu, cvSg, *, -Ax.CV.bool.injEq]; rfl)); intro z hz | (apply AOpl.passC; rfl); focus simp [cvFu, cvSg, *, -Ax.CV.bool.injEq]; done | (apply AOpl.lookC; rfl); (focus (simp [cvFu, cvSg, *, -Ax.CV.bool.injEq, -Option.some.injEq]; rfl)); focus intro _; simp [cvFu, cvSg, *, -Option.some.injEq]; rfl)
  (((apply AWp.cond'); (focus (simp [*, -Ax.CV.bool.injEq]; rfl))) <;> (intro hb) <;> (try simp only [decide_eq_true_eq, decide_eq_false_iff_not, Bool.not_eq_true', Bool.not_eq_false', Bool.not_eq_true, Bool.not_eq_false] at hb))
  · have hw := c1 (by unfold fC1; clear c1 d1; subst_vars; first | assumption | (simp_all; done))
    clear c1 d1
    repeat (first | (first | (apply AOpl.step; rfl) | apply ASl.step); focus simp [*, -Option.some.injEq]; rfl | (first | (apply AOpl.stepG; rfl) | apply ASl.stepG); (focus simp [*]; done); focus simp [*, -Option.some.injEq]; rfl | (first | (apply AOpl.pass; rfl) | apply ASl.pass); (focus simp [*]; done) | (first | refine AOpl.nil ?_ | refine AWp.skip ?_ | refine AWp.exit ?_ | refine AWp.ret ?_ | refine ASl.nil ?_); try simp only [Then, InBlock, reduceIte, Nat.reduceEqDiff] | refine AWp.seq ?_ | refine AWp.reg rfl ?_ | refine AWp.block ?_ | apply AWp.condT; focus simp [*]; done | apply AWp.condF; focus simp [*]; done | refine AWp.regT (by kernel_rfl) (by kernel_rfl) rfl rfl ?_)
    (refine ⟨_, (by simp [*]; rfl), ?_⟩; (try simp only [packA]))
    all_goals (rw [hw] <;> rfl)
  have hw := d1 (by unfold fC1; clear c1 d1; subst_vars; first | assumption | (simp_all; done))
  clear c1 d1 hb
  cases hst : s.static
  · have hN : fN s = s.params.length + 1 := by simp [fN, hst]
    simp only [hst, Bool.false_eq_true, if_false] at hw
    have c2 : fC2 f s = true → w = false := fun h => by rw [hw, if_pos h]
    have d2 : fC2 f s = false → w = (if fC3 f cls s = true then false else !mismT (f.vars.drop 1) s.params) := fun h => by rw [hw, if_neg (by simp [h])]
    clear hw
    repeat (first | (first | (apply AOpl.step; rfl) | apply ASl.step); focus simp [*, -Option.some.injEq]; rfl | (first | (apply AOpl.stepG; rfl) | apply ASl.stepG); (focus simp [*]; done); focus simp [*, -Option.some.injEq]; rfl | (first | (apply AOpl.pass; rfl) | apply ASl.pass); (focus simp [*]; done) | (first | refine AOpl.nil ?_ | refine AWp.skip ?_ | refine AWp.exit ?_ | refine AWp.ret ?_ | refine ASl.nil ?_); try simp only [Then, InBlock, reduceIte, Nat.reduceEqDiff] | refine AWp.seq ?_ | refine AWp.reg rfl ?_ | refine AWp.block ?_ | apply AWp.condT; focus simp [*]; done | apply AWp.condF; focus simp [*]; done | refine AWp.regT (by kernel_rfl) (by kernel_rfl) rfl rfl ?_)
    repeat (first | (first | (apply AOpl.step; rfl) | apply ASl.step); focus simp [*, -Option.some.injEq]; rfl | (first | (apply AOpl.stepG; rfl) | apply ASl.stepG); (focus simp [*]; done); focus simp [*, -Option.some.injEq]; rfl | (first | (apply AOpl.pass; rfl) | apply ASl.pass); (focus simp [*]; done) | (first | refine AOpl.nil ?_ | refine AWp.skip ?_ | refine AWp.exit ?_ | refine AWp.ret ?_ | refine ASl.nil ?_); try simp only [Then, InBlock, reduceIte, Nat.reduceEqDiff] | refine AWp.seq ?_ | refine AWp.reg rfl ?_ | refine AWp.block ?_ | apply AWp.condT; focus simp [*]; done | apply AWp.condF; focus simp [*]; done | refine AWp.regT (by kernel_rfl) (by kernel_rfl) rfl rfl ?_ | (first | (apply AOpl.pickOrZ; rfl) | (apply AOpl.pickAndZ; rfl)); (focus (simp [*, -Ax.CV.bool.injEq]; rfl)); (focus (intro hq; (try simp only [Bool.not_eq_true', Bool.not_eq_false', decide_eq_true_eq, decide_eq_false_iff_not, Bool.and_eq_true, Bool.or_eq_false_iff] at hq); simp [*, -Ax.CV.bool.injEq]; rfl)); intro z hz | (first | (apply AOpl.pickOrGZ; rfl) | (apply AOpl.pickAndGZ; rfl)); (focus simp [*]; done); (focus (simp [*, -Ax.CV.bool.injEq]; rfl)); (focus (intro hq; (try simp only [Bool.not_eq_true', Bool.not_eq_false', decide_eq_true_eq, decide_eq_false_iff_not, Bool.and_eq_true, Bool.or_eq_false_iff] at hq); simp [*, -Ax.CV.bool.injEq]; rfl)); intro z hz | (first | (apply AOpl.pickOrCZ; rfl) | (apply AOpl.pickAndCZ; rfl)); (focus (simp [*, -Ax.CV.bool.injEq, -Option.some.injEq]; rfl)); (focus (intro hq; (try simp only [Bool.not_eq_true', Bool.not_eq_false', decide_eq_true_eq, decide_eq_false_iff_not, Bool.and_eq_true, Bool.or_eq_false_iff] at hq); simp [*, -Ax.CV.bool.injEq]; rfl)); (focus (intro hp hq; (try simp only [Bool.not_eq_true', Bool.not_eq_false', decide_eq_true_eq, decide_eq_false_iff_not, Bool.and_eq_true, Bool.or_eq_false_iff] at hp hq); simp [*, -Ax.CV.bool.injEq]; rfl)); intro z hz | (apply AOpl.passC; rfl); focus simp [*, -Ax.CV.bool.injEq]; done | (apply AOpl.lookC; rfl); (focus (simp [*, -Ax.CV.bool.injEq, -Option.some.injEq]; rfl)); focus intro _; simp [*, -Option.some.injEq]; rfl)
    (((apply AWp.cond'); (focus (simp [*, -Ax.CV.bool.injEq]; rfl))) <;> (intro hb) <;> (try simp only [decide_eq_true_eq, decide_eq_false_iff_not, Bool.not_eq_true', Bool.not_eq_false', Bool.not_eq_true, Bool.not_eq_false] at hb))
    · have hw := c2 (by unfold fC2; rw [hN]; clear c2 d2; subst_vars; first | assumption | (simp_all; done))
      clear c2 d2
      repeat (first | (first | (apply AOpl.step; rfl) | apply ASl.step); focus simp [*, -Option.some.injEq]; rfl | (first | (apply AOpl.stepG; rfl) | apply ASl.stepG); (focus simp [*]; done); focus simp [*, -Option.some.injEq]; rfl | (first | (apply AOpl.pass; rfl) | apply ASl.pass); (focus simp [*]; done) | (first | refine AOpl.nil ?_ | refine AWp.skip ?_ | refine AWp.exit ?_ | refine AWp.ret ?_ | refine ASl.nil ?_); try simp only [Then, InBlock, reduceIte, Nat.reduceEqDiff] | refine AWp.seq ?_ | refine AWp.reg rfl ?_ | refine AWp.block ?_ | apply AWp.condT; focus simp [*]; done | apply AWp.condF; focus simp [*]; done | refine AWp.regT (by kernel_rfl) (by kernel_rfl) rfl rfl ?_)
      (refine ⟨_, (by simp [*]; rfl), ?_⟩; (try simp only [packA]))
      all_goals (rw [hw] <;> rfl)
    have hE : fC2 f s = false := by unfold fC2; rw [hN]; clear c2 d2; subst_vars; first | assumption | (simp_all; done)
    have hw := d2 hE
    have hlen : s.params.length + 1 ≤ f.vars.length := by
      simp only [fC2, hN, Bool.or_eq_false_iff, decide_eq_false_iff_not] at hE
      omega
    clear c2 d2 hb hE
    have h0 : 0 < f.vars.length := by omega
    have h00 : ¬ f.vars = [] := fun h => by rw [h] at h0; simp at h0
    have c3 : fC3 f cls s = true → w = false := fun h => by rw [hw, if_pos h]
    have d3 : fC3 f cls s = false → w = !mismT (f.vars.drop 1) s.params := fun h => by rw [hw, if_neg (by simp [h])]
    have f3 : fC3 f cls s = (!decide (f.vars[0].name = thisS) || !decide (f.vars[0].typ = cls)) := by simp [fC3, hst, List.getElem?_eq_getElem h0]
    clear hw
    repeat (first | (first | (apply AOpl.step; rfl) | apply ASl.step); focus simp [cvFld, *, -Option.some.injEq]; rfl | (first | (apply AOpl.stepG; rfl) | apply ASl.stepG); (focus simp [cvFld, *]; done); focus simp [cvFld, *, -Option.some.injEq]; rfl | (first | (apply AOpl.pass; rfl) | apply ASl.pass); (focus simp [cvFld, *]; done) | (first | refine AOpl.nil ?_ | refine AWp.skip ?_ | refine AWp.exit ?_ | refine AWp.ret ?_ | refine ASl.nil ?_); try simp only [Then, InBlock, reduceIte, Nat.reduceEqDiff] | refine AWp.seq ?_ | refine AWp.reg rfl ?_ | refine AWp.block ?_ | apply AWp.condT; focus simp [cvFld, *]; done | apply AWp.condF; focus simp [cvFld, *]; done | refine AWp.regT (by kernel_rfl) (by kernel_rfl) rfl rfl ?_ | (first | (apply AOpl.pickOrZ; rfl) | (apply AOpl.pickAndZ; rfl)); (focus (simp [cvFld, *, -Ax.CV.bool.injEq]; rfl)); (focus (intro hq; (try simp only [Bool.not_eq_true', Bool.not_eq_false', decide_eq_true_eq, decide_eq_false_iff_not, Bool.and_eq_true, Bool.or_eq_false_iff] at hq); simp [cvFld, *, -Ax.CV.bool.injEq]; rfl)); intro z hz | (first | (apply AOpl.pickOrGZ; rfl) | (apply AOpl.pickAndGZ; rfl)); (focus simp [cvFld, *]; done); (focus (simp [cvFld, *, -Ax.CV.bool.injEq]; rfl)); (focus (intro hq; (try simp only [Bool.not_eq_true', Bool.not_eq_false', decide_eq_true_eq, decide_eq_false_iff_not, Bool.and_eq_true, Bool.or_eq_false_iff] at hq); simp [cvFld, *, -Ax.CV.bool.injEq]; rfl)); intro z hz | (first | (apply AOpl.pickOrCZ; rfl) | (apply AOpl.pickAndCZ; rfl)); (focus (simp [cvFld, *, -Ax.CV.bool.injEq, -Option.some.injEq]; rfl)); (focus (intro hq; (try simp only [Bool.not_eq_true', Bool.not_eq_false', decide_eq_true_eq, decide_eq_false_iff_not, Bool.and_eq_true, Bool.or_eq_false_iff] at hq); simp [cvFld, *, -Ax.CV.bool.injEq]; rfl)); (focus (intro hp hq; (try simp only [Bool.not_eq_true', Bool.not_eq_false', decide_eq_true_eq, decide_eq_false_iff_not, Bool.and_eq_true, Bool.or_eq_false_iff] at hp hq); simp [cvFld, *, -Ax.CV.bool.injEq]; rfl)); intro z hz | (apply AOpl.passC; rfl); focus simp [cvFld, *, -Ax.CV.bool.injEq]; done | (apply AOpl.lookC; rfl); (focus (simp [cvFld, *, -Ax.CV.bool.injEq, -Option.some.injEq]; rfl)); focus intro _; simp [cvFld, *, -Option.some.injEq]; rfl)
    (((apply AWp.cond'); (focus (simp [*, -Ax.CV.bool.injEq]; rfl))) <;> (intro hb) <;> (try simp only [decide_eq_true_eq, decide_eq_false_iff_not, Bool.not_eq_true', Bool.not_eq_false', Bool.not_eq_true, Bool.not_eq_false] at hb))
    · have hw := c3 (by rw [f3]; unfold thisS; clear c3 d3; subst_vars; first | assumption | (simp_all; done))
      clear c3 d3
      repeat (first | (first | (apply AOpl.step; rfl) | apply ASl.step); focus simp [*, -Option.some.injEq]; rfl | (first | (apply AOpl.stepG; rfl) | apply ASl.stepG); (focus simp [*]; done); focus simp [*, -Option.some.injEq]; rfl | (first | (apply AOpl.pass; rfl) | apply ASl.pass); (focus simp [*]; done) | (first | refine AOpl.nil ?_ | refine AWp.skip ?_ | refine AWp.exit ?_ | refine AWp.ret ?_ | refine ASl.nil ?_); try simp only [Then, InBlock, reduceIte, Nat.reduceEqDiff] | refine AWp.seq ?_ | refine AWp.reg rfl ?_ | refine AWp.block ?_ | apply AWp.condT; focus simp [*]; done | apply AWp.condF; focus simp [*]; done | refine AWp.regT (by kernel_rfl) (by kernel_rfl) rfl rfl ?_)
      (refine ⟨_, (by simp [*]; rfl), ?_⟩; (try simp only [packA]))
      all_goals (rw [hw] <;> rfl)
    have hw := d3 (by rw [f3]; unfold thisS; clear c3 d3; subst_vars; first | assumption | (simp_all; done))
    clear c3 d3 hb f3
    repeat (first | (first | (apply AOpl.step; rfl) | apply ASl.step); focus simp [*, -Option.some.injEq]; rfl | (first | (apply AOpl.stepG; rfl) | apply ASl.stepG); (focus simp [*]; done); focus simp [*, -Option.some.injEq]; rfl | (first | (apply AOpl.pass; rfl) | apply ASl.pass); (focus simp [*]; done) | (first | refine AOpl.nil ?_ | refine AWp.skip ?_ | refine AWp.exit ?_ | refine AWp.ret ?_ | refine ASl.nil ?_); try simp only [Then, InBlock, reduceIte, Nat.reduceEqDiff] | refine AWp.seq ?_ | refine AWp.reg rfl ?_ | refine AWp.block ?_ | apply AWp.condT; focus simp [*]; done | apply AWp.condF; focus simp [*]; done | refine AWp.regT (by kernel_rfl) (by kernel_rfl) rfl rfl ?_)
    refine AWp.countO s.params.length [6, 8] 9 (fun i e H _ => e 8 = .int .i64 i ∧ H nx = some (.cells (cvFu f)) ∧ H (nx + 1) = some (.cells (cvSg s)) ∧ w = !mismT (f.vars.drop (i + 1)) (s.params.drop i)) ⟨(by first | (simp (disch := omega) [putE, over, ofV, ofS, *]; done) | (simp (disch := omega) [putE, over, ofV, ofS, *]; rfl)), by simp [upd, cvFu], by simp [upd, cvSg, hst], hw⟩ ?_
    clear hw
    rintro i v H nx1 hi hn1 ⟨h8, hF, hS, hw⟩
    simp only [cvFu] at hF
    simp only [cvSg] at hS
    repeat (first | (first | (apply AOpl.step; rfl) | apply ASl.step); focus simp [*, -Option.some.injEq]; rfl | (first | (apply AOpl.stepG; rfl) | apply ASl.stepG); (focus simp [*]; done); focus simp [*, -Option.some.injEq]; rfl | (first | (apply AOpl.pass; rfl) | apply ASl.pass); (focus simp [*]; done) | (first | refine AOpl.nil ?_ | refine AWp.skip ?_ | refine AWp.exit ?_ | refine AWp.ret ?_ | refine ASl.nil ?_); try simp only [Then, InBlock, reduceIte, Nat.reduceEqDiff] | refine AWp.seq ?_ | refine AWp.reg rfl ?_ | refine AWp.block ?_ | apply AWp.condT; focus simp [*]; done | apply AWp.condF; focus simp [*]; done | refine AWp.regT (by kernel_rfl) (by kernel_rfl) rfl rfl ?_)
    (((apply AWp.cond'); (focus (simp [*, -Ax.CV.bool.injEq]; rfl))) <;> (intro hb) <;> (try simp only [decide_eq_true_eq, decide_eq_false_iff_not, Bool.not_eq_true', Bool.not_eq_false', Bool.not_eq_true, Bool.not_eq_false] at hb))
    · have hlt : i < s.params.length := hb
      have hlv : i + 1 < f.vars.length := by omega
      have hwi := wrap_up hlt (show s.params.length ≤ maxLen by simp only [maxLen]; omega)
      have wi : IntKind.i64.wrap (1 + (i : Int)) = ((i + 1 : Nat) : Int) := by rw [IntKind.wrap_i64]; omega
      rw [dropAt hlv, dropAt hlt, mismT] at hw
      clear hb
      repeat (first | (first | (apply AOpl.step; rfl) | apply ASl.step); focus simp [cvFld, cvB, *, -Option.some.injEq]; rfl | (first | (apply AOpl.stepG; rfl) | apply ASl.stepG); (focus simp [cvFld, cvB, *]; done); focus simp [cvFld, cvB, *, -Option.some.injEq]; rfl | (first | (apply AOpl.pass; rfl) | apply ASl.pass); (focus simp [cvFld, cvB, *]; done) | (first | refine AOpl.nil ?_ | refine AWp.skip ?_ | refine AWp.exit ?_ | refine AWp.ret ?_ | refine ASl.nil ?_); try simp only [Then, InBlock, reduceIte, Nat.reduceEqDiff] | refine AWp.seq ?_ | refine AWp.reg rfl ?_ | refine AWp.block ?_ | apply AWp.condT; focus simp [cvFld, cvB, *]; done | apply AWp.condF; focus simp [cvFld, cvB, *]; done | refine AWp.regT (by kernel_rfl) (by kernel_rfl) rfl rfl ?_)
      (((apply AWp.cond'); (focus (simp [*, -Ax.CV.bool.injEq]; rfl))) <;> (intro hb) <;> (try simp only [decide_eq_true_eq, decide_eq_false_iff_not, Bool.not_eq_true', Bool.not_eq_false', Bool.not_eq_true, Bool.not_eq_false] at hb))
      · have hb' : ¬ f.vars[i + 1].typ = s.params[i] := by simpa using hb
        simp only [hb', decide_false, Bool.not_false, Bool.true_or, Bool.not_true] at hw
        clear hb hb'
        repeat (first | (first | (apply AOpl.step; rfl) | apply ASl.step); focus simp [*, -Option.some.injEq]; rfl | (first | (apply AOpl.stepG; rfl) | apply ASl.stepG); (focus simp [*]; done); focus simp [*, -Option.some.injEq]; rfl | (first | (apply AOpl.pass; rfl) | apply ASl.pass); (focus simp [*]; done) | (first | refine AOpl.nil ?_ | refine AWp.skip ?_ | refine AWp.exit ?_ | refine AWp.ret ?_ | refine ASl.nil ?_); try simp only [Then, InBlock, reduceIte, Nat.reduceEqDiff] | refine AWp.seq ?_ | refine AWp.reg rfl ?_ | refine AWp.block ?_ | apply AWp.condT; focus simp [*]; done | apply AWp.condF; focus simp [*]; done | refine AWp.regT (by kernel_rfl) (by kernel_rfl) rfl rfl ?_)
        (refine ⟨_, (by simp [*]; rfl), ?_⟩; (try simp only [packA]))
        all_goals (rw [hw] <;> rfl)
      · have hb' : f.vars[i + 1].typ = s.params[i] := by simpa using hb
        simp only [hb', decide_true, Bool.not_true, Bool.false_or] at hw
        clear hb hb'
        repeat (first | (first | (apply AOpl.step; rfl) | apply ASl.step); focus simp [*, -Option.some.injEq]; rfl | (first | (apply AOpl.stepG; rfl) | apply ASl.stepG); (focus simp [*]; done); focus simp [*, -Option.some.injEq]; rfl | (first | (apply AOpl.pass; rfl) | apply ASl.pass); (focus simp [*]; done) | (first | refine AOpl.nil ?_ | refine AWp.skip ?_ | refine AWp.exit ?_ | refine AWp.ret ?_ | refine ASl.nil ?_); try simp only [Then, InBlock, reduceIte, Nat.reduceEqDiff] | refine AWp.seq ?_ | refine AWp.reg rfl ?_ | refine AWp.block ?_ | apply AWp.condT; focus simp [*]; done | apply AWp.condF; focus simp [*]; done | refine AWp.regT (by kernel_rfl) (by kernel_rfl) rfl rfl ?_)
        exact ⟨by ((repeat (first | exact Keeps.base _ _ _ _ | (with_reducible exact Keeps.refl _ _ _) | (refine Keeps.put rfl ?_) | (refine Keeps.over' rfl rfl ?_)))), hlt, (by first | (simp (disch := omega) [putE, over, ofV, ofS, *]; done) | (simp (disch := omega) [putE, over, ofV, ofS, *]; rfl)), by simp [hF, cvFu], by simp [hS, cvSg, hst], hw⟩
    · rw [dropEnd hi hb] at hw
      have hw : w = true := by rw [hw]; cases (f.vars.drop (i + 1)) <;> rfl
      repeat (first | (first | (apply AOpl.step; rfl) | apply ASl.step); focus simp [*, -Option.some.injEq]; rfl | (first | (apply AOpl.stepG; rfl) | apply ASl.stepG); (focus simp [*]; done); focus simp [*, -Option.some.injEq]; rfl | (first | (apply AOpl.pass; rfl) | apply ASl.pass); (focus simp [*]; done) | (first | refine AOpl.nil ?_ | refine AWp.skip ?_ | refine AWp.exit ?_ | refine AWp.ret ?_ | refine ASl.nil ?_); try simp only [Then, InBlock, reduceIte, Nat.reduceEqDiff] | refine AWp.seq ?_ | refine AWp.reg rfl ?_ | refine AWp.block ?_ | apply AWp.condT; focus simp [*]; done | apply AWp.condF; focus simp [*]; done | refine AWp.regT (by kernel_rfl) (by kernel_rfl) rfl rfl ?_)
      (refine ⟨_, (by simp [*]; rfl), ?_⟩; (try simp only [packA]))
      all_goals (rw [hw] <;> rfl)
  · have hN : fN s = s.params.length := by simp [fN, hst]
    simp only [hst, if_true] at hw
    have c2 : fC2 f s = true → w = false := fun h => by rw [hw, if_pos h]
    have d2 : fC2 f s = false → w = (if fC3 f cls s = true then false else !mismT (f.vars.drop 0) s.params) := fun h => by rw [hw, if_neg (by simp [h])]
    have f3 : fC3 f cls s = false := by simp [fC3, hst]
    rw [f3] at d2
    simp only [Bool.false_eq_true, if_false] at d2
    clear hw f3
    repeat (first | (first | (apply AOpl.step; rfl) | apply ASl.step); focus simp [*, -Option.some.injEq]; rfl | (first | (apply AOpl.stepG; rfl) | apply ASl.stepG); (focus simp [*]; done); focus simp [*, -Option.some.injEq]; rfl | (first | (apply AOpl.pass; rfl) | apply ASl.pass); (focus simp [*]; done) | (first | refine AOpl.nil ?_ | refine AWp.skip ?_ | refine AWp.exit ?_ | refine AWp.ret ?_ | refine ASl.nil ?_); try simp only [Then, InBlock, reduceIte, Nat.reduceEqDiff] | refine AWp.seq ?_ | refine AWp.reg rfl ?_ | refine AWp.block ?_ | apply AWp.condT; focus simp [*]; done | apply AWp.condF; focus simp [*]; done | refine AWp.regT (by kernel_rfl) (by kernel_rfl) rfl rfl ?_)
    repeat (first | (first | (apply AOpl.step; rfl) | apply ASl.step); focus simp [*, -Option.some.injEq]; rfl | (first | (apply AOpl.stepG; rfl) | apply ASl.stepG); (focus simp [*]; done); focus simp [*, -Option.some.injEq]; rfl | (first | (apply AOpl.pass; rfl) | apply ASl.pass); (focus simp [*]; done) | (first | refine AOpl.nil ?_ | refine AWp.skip ?_ | refine AWp.exit ?_ | refine AWp.ret ?_ | refine ASl.nil ?_); try simp only [Then, InBlock, reduceIte, Nat.reduceEqDiff] | refine AWp.seq ?_ | refine AWp.reg rfl ?_ | refine AWp.block ?_ | apply AWp.condT; focus simp [*]; done | apply AWp.condF; focus simp [*]; done | refine AWp.regT (by kernel_rfl) (by kernel_rfl) rfl rfl ?_ | (first | (apply AOpl.pickOrZ; rfl) | (apply AOpl.pickAndZ; rfl)); (focus (simp [*, -Ax.CV.bool.injEq]; rfl)); (focus (intro hq; (try simp only [Bool.not_eq_true', Bool.not_eq_false', decide_eq_true_eq, decide_eq_false_iff_not, Bool.and_eq_true, Bool.or_eq_false_iff] at hq); simp [*, -Ax.CV.bool.injEq]; rfl)); intro z hz | (first | (apply AOpl.pickOrGZ; rfl) | (apply AOpl.pickAndGZ; rfl)); (focus simp [*]; done); (focus (simp [*, -Ax.CV.bool.injEq]; rfl)); (focus (intro hq; (try simp only [Bool.not_eq_true', Bool.not_eq_false', decide_eq_true_eq, decide_eq_false_iff_not, Bool.and_eq_true, Bool.or_eq_false_iff] at hq); simp [*, -Ax.CV.bool.injEq]; rfl)); intro z hz | (first | (apply AOpl.pickOrCZ; rfl) | (apply AOpl.pickAndCZ; rfl)); (focus (simp [*, -Ax.CV.bool.injEq, -Option.some.injEq]; rfl)); (focus (intro hq; (try simp only [Bool.not_eq_true', Bool.not_eq_false', decide_eq_true_eq, decide_eq_false_iff_not, Bool.and_eq_true, Bool.or_eq_false_iff] at hq); simp [*, -Ax.CV.bool.injEq]; rfl)); (focus (intro hp hq; (try simp only [Bool.not_eq_true', Bool.not_eq_false', decide_eq_true_eq, decide_eq_false_iff_not, Bool.and_eq_true, Bool.or_eq_false_iff] at hp hq); simp [*, -Ax.CV.bool.injEq]; rfl)); intro z hz | (apply AOpl.passC; rfl); focus simp [*, -Ax.CV.bool.injEq]; done | (apply AOpl.lookC; rfl); (focus (simp [*, -Ax.CV.bool.injEq, -Option.some.injEq]; rfl)); focus intro _; simp [*, -Option.some.injEq]; rfl)
    (((apply AWp.cond'); (focus (simp [*, -Ax.CV.bool.injEq]; rfl))) <;> (intro hb) <;> (try simp only [decide_eq_true_eq, decide_eq_false_iff_not, Bool.not_eq_true', Bool.not_eq_false', Bool.not_eq_true, Bool.not_eq_false] at hb))
    · have hw := c2 (by unfold fC2; rw [hN]; clear c2 d2; subst_vars; first | assumption | (simp_all; done))
      clear c2 d2
      repeat (first | (first | (apply AOpl.step; rfl) | apply ASl.step); focus simp [*, -Option.some.injEq]; rfl | (first | (apply AOpl.stepG; rfl) | apply ASl.stepG); (focus simp [*]; done); focus simp [*, -Option.some.injEq]; rfl | (first | (apply AOpl.pass; rfl) | apply ASl.pass); (focus simp [*]; done) | (first | refine AOpl.nil ?_ | refine AWp.skip ?_ | refine AWp.exit ?_ | refine AWp.ret ?_ | refine ASl.nil ?_); try simp only [Then, InBlock, reduceIte, Nat.reduceEqDiff] | refine AWp.seq ?_ | refine AWp.reg rfl ?_ | refine AWp.block ?_ | apply AWp.condT; focus simp [*]; done | apply AWp.condF; focus simp [*]; done | refine AWp.regT (by kernel_rfl) (by kernel_rfl) rfl rfl ?_)
      (refine ⟨_, (by simp [*]; rfl), ?_⟩; (try simp only [packA]))
      all_goals (rw [hw] <;> rfl)
    have hE : fC2 f s = false := by unfold fC2; rw [hN]; clear c2 d2; subst_vars; first | assumption | (simp_all; done)
    have hw := d2 hE
    have hlen : s.params.length ≤ f.vars.length := by
      simp only [fC2, hN, Bool.or_eq_false_iff, decide_eq_false_iff_not] at hE
      omega
    clear c2 d2 hb hE
    repeat (first | (first | (apply AOpl.step; rfl) | apply ASl.step); focus simp [*, -Option.some.injEq]; rfl | (first | (apply AOpl.stepG; rfl) | apply ASl.stepG); (focus simp [*]; done); focus simp [*, -Option.some.injEq]; rfl | (first | (apply AOpl.pass; rfl) | apply ASl.pass); (focus simp [*]; done) | (first | refine AOpl.nil ?_ | refine AWp.skip ?_ | refine AWp.exit ?_ | refine AWp.ret ?_ | refine ASl.nil ?_); try simp only [Then, InBlock, reduceIte, Nat.reduceEqDiff] | refine AWp.seq ?_ | refine AWp.reg rfl ?_ | refine AWp.block ?_ | apply AWp.condT; focus simp [*]; done | apply AWp.condF; focus simp [*]; done | refine AWp.regT (by kernel_rfl) (by kernel_rfl) rfl rfl ?_)
    refine AWp.countO s.params.length [6, 8] 9 (fun i e H _ => e 8 = .int .i64 i ∧ H nx = some (.cells (cvFu f)) ∧ H (nx + 1) = some (.cells (cvSg s)) ∧ w = !mismT (f.vars.drop i) (s.params.drop i)) ⟨(by first | (simp (disch := omega) [putE, over, ofV, ofS, *]; done) | (simp (disch := omega) [putE, over, ofV, ofS, *]; rfl)), by simp [upd, cvFu], by simp [upd, cvSg, hst], hw⟩ ?_
    clear hw
    rintro i v H nx1 hi hn1 ⟨h8, hF, hS, hw⟩
    simp only [cvFu] at hF
    simp only [cvSg] at hS
    repeat (first | (first | (apply AOpl.step; rfl) | apply ASl.step); focus simp [*, -Option.some.injEq]; rfl | (first | (apply AOpl.stepG; rfl) | apply ASl.stepG); (focus simp [*]; done); focus simp [*, -Option.some.injEq]; rfl | (first | (apply AOpl.pass; rfl) | apply ASl.pass); (focus simp [*]; done) | (first | refine AOpl.nil ?_ | refine AWp.skip ?_ | refine AWp.exit ?_ | refine AWp.ret ?_ | refine ASl.nil ?_); try simp only [Then, InBlock, reduceIte, Nat.reduceEqDiff] | refine AWp.seq ?_ | refine AWp.reg rfl ?_ | refine AWp.block ?_ | apply AWp.condT; focus simp [*]; done | apply AWp.condF; focus simp [*]; done | refine AWp.regT (by kernel_rfl) (by kernel_rfl) rfl rfl ?_)
    (((apply AWp.cond'); (focus (simp [*, -Ax.CV.bool.injEq]; rfl))) <;> (intro hb) <;> (try simp only [decide_eq_true_eq, decide_eq_false_iff_not, Bool.not_eq_true', Bool.not_eq_false', Bool.not_eq_true, Bool.not_eq_false] at hb))
    · have hlt : i < s.params.length := hb
      have hlv : i < f.vars.length := by omega
      have hwi := wrap_up hlt (show s.params.length ≤ maxLen by simp only [maxLen]; omega)
      have wi := wrap_nat i (by simp only [maxLen]; omega)
      rw [dropAt hlv, dropAt hlt, mismT] at hw
      clear hb
      repeat (first | (first | (apply AOpl.step; rfl) | apply ASl.step); focus simp [cvFld, cvB, *, -Option.some.injEq]; rfl | (first | (apply AOpl.stepG; rfl) | apply ASl.stepG); (focus simp [cvFld, cvB, *]; done); focus simp [cvFld, cvB, *, -Option.some.injEq]; rfl | (first | (apply AOpl.pass; rfl) | apply ASl.pass); (focus simp [cvFld, cvB, *]; done) | (first | refine AOpl.nil ?_ | refine AWp.skip ?_ | refine AWp.exit ?_ | refine AWp.ret ?_ | refine ASl.nil ?_); try simp only [Then, InBlock, reduceIte, Nat.reduceEqDiff] | refine AWp.seq ?_ | refine AWp.reg rfl ?_ | refine AWp.block ?_ | apply AWp.condT; focus simp [cvFld, cvB, *]; done | apply AWp.condF; focus simp [cvFld, cvB, *]; done | refine AWp.regT (by kernel_rfl) (by kernel_rfl) rfl rfl ?_)
      (((apply AWp.cond'); (focus (simp [*, -Ax.CV.bool.injEq]; rfl))) <;> (intro hb) <;> (try simp only [decide_eq_true_eq, decide_eq_false_iff_not, Bool.not_eq_true', Bool.not_eq_false', Bool.not_eq_true, Bool.not_eq_false] at hb))
      · have hb' : ¬ f.vars[i].typ = s.params[i] := by simpa using hb
        simp only [hb', decide_false, Bool.not_false, Bool.true_or, Bool.not_true] at hw
        clear hb hb'
        repeat (first | (first | (apply AOpl.step; rfl) | apply ASl.step); focus simp [*, -Option.some.injEq]; rfl | (first | (apply AOpl.stepG; rfl) | apply ASl.stepG); (focus simp [*]; done); focus simp [*, -Option.some.injEq]; rfl | (first | (apply AOpl.pass; rfl) | apply ASl.pass); (focus simp [*]; done) | (first | refine AOpl.nil ?_ | refine AWp.skip ?_ | refine AWp.exit ?_ | refine AWp.ret ?_ | refine ASl.nil ?_); try simp only [Then, InBlock, reduceIte, Nat.reduceEqDiff] | refine AWp.seq ?_ | refine AWp.reg rfl ?_ | refine AWp.block ?_ | apply AWp.condT; focus simp [*]; done | apply AWp.condF; focus simp [*]; done | refine AWp.regT (by kernel_rfl) (by kernel_rfl) rfl rfl ?_)
        (refine ⟨_, (by simp [*]; rfl), ?_⟩; (try simp only [packA]))
        all_goals (rw [hw] <;> rfl)
      · have hb' : f.vars[i].typ = s.params[i] := by simpa using hb
        simp only [hb', decide_true, Bool.not_true, Bool.false_or] at hw
        clear hb hb'
        repeat (first | (first | (apply AOpl.step; rfl) | apply ASl.step); focus simp [*, -Option.some.injEq]; rfl | (first | (apply AOpl.stepG; rfl) | apply ASl.stepG); (focus simp [*]; done); focus simp [*, -Option.some.injEq]; rfl | (first | (apply AOpl.pass; rfl) | apply ASl.pass); (focus simp [*]; done) | (first | refine AOpl.nil ?_ | refine AWp.skip ?_ | refine AWp.exit ?_ | refine AWp.ret ?_ | refine ASl.nil ?_); try simp only [Then, InBlock, reduceIte, Nat.reduceEqDiff] | refine AWp.seq ?_ | refine AWp.reg rfl ?_ | refine AWp.block ?_ | apply AWp.condT; focus simp [*]; done | apply AWp.condF; focus simp [*]; done | refine AWp.regT (by kernel_rfl) (by kernel_rfl) rfl rfl ?_)
        exact ⟨by ((repeat (first | exact Keeps.base _ _ _ _ | (with_reducible exact Keeps.refl _ _ _) | (refine Keeps.put rfl ?_) | (refine Keeps.over' rfl rfl ?_)))), hlt, (by first | (simp (disch := omega) [putE, over, ofV, ofS, *]; done) | (simp (disch := omega) [putE, over, ofV, ofS, *]; rfl)), by simp [hF, cvFu], by simp [hS, cvSg, hst], hw⟩
    · rw [dropEnd hi hb] at hw
      have hw : w = true := by rw [hw]; cases (f.vars.drop i) <;> rfl
      repeat (first | (first | (apply AOpl.step; rfl) | apply ASl.step); focus simp [*, -Option.some.injEq]; rfl | (first | (apply AOpl.stepG; rfl) | apply ASl.stepG); (focus simp [*]; done); focus simp [*, -Option.some.injEq]; rfl | (first | (apply AOpl.pass; rfl) | apply ASl.pass); (focus simp [*]; done) | (first | refine AOpl.nil ?_ | refine AWp.skip ?_ | refine AWp.exit ?_ | refine AWp.ret ?_ | refine ASl.nil ?_); try simp only [Then, InBlock, reduceIte, Nat.reduceEqDiff] | refine AWp.seq ?_ | refine AWp.reg rfl ?_ | refine AWp.block ?_ | apply AWp.condT; focus simp [*]; done | apply AWp.condF; focus simp [*]; done | refine AWp.regT (by kernel_rfl) (by kernel_rfl) rfl rfl ?_)
      (refine ⟨_, (by simp [*]; rfl), ?_⟩; (try simp only [packA]))
      all_goals (rw [hw] <;> rfl)
end Go.Proofs.YtdjllogimomgmaaGreatDoor
namespace Go.Proofs.YtdjllogimomgmaaGreatDoor
open Ax Tx Go.RowKit
attribute [local simp] stepS Ax.stepT Dl.on qstep astep estep rd putE over argE ofV ofS loadA pickCells isAggD faddA fieldA partA iaddA idxA sliA bnd binA intA strA unA convA bltA lenA mapOf lookA findK keyD scalD storeA mupA appA srcA srcD upd drp Dl.hp Dl.nx CV.cs CV.one buildA placesA fillA zrep tasA ifaceD eqA eqFs eqIs range2 copyA nbeq nble nblt decEq beqI bneI beqS bneS isED Int.ofNat_inj List.getElem?_map List.getElem?_eq_getElem Option.map_some ti_int ti_bool ti_str ti_i64 ti_Strs ti_Hi ti_Cds ti_Cd ti_Flds ti_Fld ti_Sgs ti_Sg ti_Ins ti_Inss ti_Ints ti_Fu ti_Fus ti_Un gd gdB callA resA op1
def codeE (cds : List Cd) (f : Fu) : Nat → List Ins → Int × Int
  | _, [] => (0, 0)
  | i, x :: l => if instrI cds f i x = 0 then codeE cds f (i + 1) l else (i, instrI cds f i x)
def funcE (cds : List Cd) (f : Fu) (cls : Bs) (s : Sg) : Int × Int :=
  if fitB f cls s = false then (-1, 20) else if (256 : Int) < f.vars.length then (-1, 3) else if (1024 : Int) < f.code.length then (-1, 3) else if namesI cds f ≠ 0 then (-1, namesI cds f) else if f.code = [] then (-1, 1) else codeE cds f 0 f.code
structure FuB2 (f : Fu) : Prop extends FuB1 f where
  nl : ∀ v ∈ f.vars, v.name.length ≤ maxLen
set_option maxRecDepth 10000 in
set_option maxHeartbeats 16000000 in
theorem func_ok (cds : List Cd) (hB : HiB cds) (f : Fu) (hf : FuB2 f) (cls : Bs) (s : Sg) (hp : s.params.length ≤ 1000) :
    FCall Tryz.prog cxG 100 [.agg [.lst (cds.map cvCd)], .agg (cvFu f), .str cls, .agg (cvSg s)] fun r => r = .ret (.tup [.int .i64 (funcE cds f cls s).1, .int .i64 (funcE cds f cls s).2]) := by
  have hcl := hf.cl
  obtain ⟨w, hw⟩ : ∃ w, w = funcE cds f cls s := ⟨_, rfl⟩
  rw [← hw]
  unfold funcE at hw
  refine FCall.ofBody Tryz.func100 rfl rfl fun nx => ?_
  have e2 : ¬ nx = nx + 1 + 1 := by omega
  repeat (first | (first | (apply AOpl.step; rfl) | apply ASl.step); focus simp [cvFu, cvSg, *, -Option.some.injEq]; rfl | (first | (apply AOpl.stepG; rfl) | apply ASl.stepG); (focus simp [cvFu, cvSg, *]; done); focus simp [cvFu, cvSg, *, -Option.some.injEq]; rfl | (first | (apply AOpl.pass; rfl) | apply ASl.pass); (focus simp [cvFu, cvSg, *]; done) | (first | refine AOpl.nil ?_ | refine AWp.skip ?_ | refine AWp.exit ?_ | refine AWp.ret ?_ | refine ASl.nil ?_); try simp only [Then, InBlock, reduceIte, Nat.reduceEqDiff] | refine AWp.seq ?_ | refine AWp.reg rfl ?_ | refine AWp.block ?_ | apply AWp.condT; focus simp [cvFu, cvSg, *]; done | apply AWp.condF; focus simp [cvFu, cvSg, *]; done | refine AWp.regT (by kernel_rfl) (by kernel_rfl) rfl rfl ?_)
  (first | (first | (apply AOpl.callN; rfl) | apply ASl.call); (focus simp [cvFu, cvSg, *, -Option.some.injEq]; rfl); kernel_rfl | (first | (apply AOpl.callNG; rfl) | apply ASl.callg); (focus simp [cvFu, cvSg, *]; done); (focus simp [cvFu, cvSg, *, -Option.some.injEq]; rfl); kernel_rfl)
  · exact fitB_ok f cls s hf.vl hp
  intro nx2 hn2
  cases h1 : fitB f cls s
  · simp only [h1, if_true] at hw
    repeat (first | (first | (apply AOpl.step; rfl) | apply ASl.step); focus simp [*, -Option.some.injEq]; rfl | (first | (apply AOpl.stepG; rfl) | apply ASl.stepG); (focus simp [*]; done); focus simp [*, -Option.some.injEq]; rfl | (first | (apply AOpl.pass; rfl) | apply ASl.pass); (focus simp [*]; done) | (first | refine AOpl.nil ?_ | refine AWp.skip ?_ | refine AWp.exit ?_ | refine AWp.ret ?_ | refine ASl.nil ?_); try simp only [Then, InBlock, reduceIte, Nat.reduceEqDiff] | refine AWp.seq ?_ | refine AWp.reg rfl ?_ | refine AWp.block ?_ | apply AWp.condT; focus simp [*]; done | apply AWp.condF; focus simp [*]; done | refine AWp.regT (by kernel_rfl) (by kernel_rfl) rfl rfl ?_)
    (refine ⟨_, (by simp [*]; rfl), ?_⟩; (try simp only [packA]))
    all_goals (rw [hw] <;> rfl)
  simp only [h1, Bool.true_eq_false, if_false] at hw
  by_cases h2 : (256 : Int) < f.vars.length
  · simp only [h2, if_true] at hw
    repeat (first | (first | (apply AOpl.step; rfl) | apply ASl.step); focus simp [*, -Option.some.injEq]; rfl | (first | (apply AOpl.stepG; rfl) | apply ASl.stepG); (focus simp [*]; done); focus simp [*, -Option.some.injEq]; rfl | (first | (apply AOpl.pass; rfl) | apply ASl.pass); (focus simp [*]; done) | (first | refine AOpl.nil ?_ | refine AWp.skip ?_ | refine AWp.exit ?_ | refine AWp.ret ?_ | refine ASl.nil ?_); try simp only [Then, InBlock, reduceIte, Nat.reduceEqDiff] | refine AWp.seq ?_ | refine AWp.reg rfl ?_ | refine AWp.block ?_ | apply AWp.condT; focus simp [*]; done | apply AWp.condF; focus simp [*]; done | refine AWp.regT (by kernel_rfl) (by kernel_rfl) rfl rfl ?_)
    (refine ⟨_, (by simp [*]; rfl), ?_⟩; (try simp only [packA]))
    all_goals (rw [hw] <;> rfl)
  simp only [h2, if_false] at hw
  by_cases h3 : (1024 : Int) < f.code.length
  · simp only [h3, if_true] at hw
    repeat (first | (first | (apply AOpl.step; rfl) | apply ASl.step); focus simp [*, -Option.some.injEq]; rfl | (first | (apply AOpl.stepG; rfl) | apply ASl.stepG); (focus simp [*]; done); focus simp [*, -Option.some.injEq]; rfl | (first | (apply AOpl.pass; rfl) | apply ASl.pass); (focus simp [*]; done) | (first | refine AOpl.nil ?_ | refine AWp.skip ?_ | refine AWp.exit ?_ | refine AWp.ret ?_ | refine ASl.nil ?_); try simp only [Then, InBlock, reduceIte, Nat.reduceEqDiff] | refine AWp.seq ?_ | refine AWp.reg rfl ?_ | refine AWp.block ?_ | apply AWp.condT; focus simp [*]; done | apply AWp.condF; focus simp [*]; done | refine AWp.regT (by kernel_rfl) (by kernel_rfl) rfl rfl ?_)
    (refine ⟨_, (by simp [*]; rfl), ?_⟩; (try simp only [packA]))
    all_goals (rw [hw] <;> rfl)
  simp only [h3, if_false] at hw
  repeat (first | (first | (apply AOpl.step; rfl) | apply ASl.step); focus simp [*, -Option.some.injEq]; rfl | (first | (apply AOpl.stepG; rfl) | apply ASl.stepG); (focus simp [*]; done); focus simp [*, -Option.some.injEq]; rfl | (first | (apply AOpl.pass; rfl) | apply ASl.pass); (focus simp [*]; done) | (first | refine AOpl.nil ?_ | refine AWp.skip ?_ | refine AWp.exit ?_ | refine AWp.ret ?_ | refine ASl.nil ?_); try simp only [Then, InBlock, reduceIte, Nat.reduceEqDiff] | refine AWp.seq ?_ | refine AWp.reg rfl ?_ | refine AWp.block ?_ | apply AWp.condT; focus simp [*]; done | apply AWp.condF; focus simp [*]; done | refine AWp.regT (by kernel_rfl) (by kernel_rfl) rfl rfl ?_)
  (first | (first | (apply AOpl.callN; rfl) | apply ASl.call); (focus simp [cvFu, *, -Option.some.injEq]; rfl); kernel_rfl | (first | (apply AOpl.callNG; rfl) | apply ASl.callg); (focus simp [cvFu, *]; done); (focus simp [cvFu, *, -Option.some.injEq]; rfl); kernel_rfl)
  · exact names_ok cds hB f hf.vl hf.nl
  intro nx3 hn3
  by_cases h4 : namesI cds f = 0
  case neg =>
    simp only [h4, ne_eq, not_false_eq_true, if_true] at hw
    repeat (first | (first | (apply AOpl.step; rfl) | apply ASl.step); focus simp [*, -Option.some.injEq]; rfl | (first | (apply AOpl.stepG; rfl) | apply ASl.stepG); (focus simp [*]; done); focus simp [*, -Option.some.injEq]; rfl | (first | (apply AOpl.pass; rfl) | apply ASl.pass); (focus simp [*]; done) | (first | refine AOpl.nil ?_ | refine AWp.skip ?_ | refine AWp.exit ?_ | refine AWp.ret ?_ | refine ASl.nil ?_); try simp only [Then, InBlock, reduceIte, Nat.reduceEqDiff] | refine AWp.seq ?_ | refine AWp.reg rfl ?_ | refine AWp.block ?_ | apply AWp.condT; focus simp [*]; done | apply AWp.condF; focus simp [*]; done | refine AWp.regT (by kernel_rfl) (by kernel_rfl) rfl rfl ?_)
    (refine ⟨_, (by simp [*]; rfl), ?_⟩; (try simp only [packA]))
    all_goals (rw [hw] <;> rfl)
  simp only [h4, ne_eq, not_true, if_false] at hw
  by_cases h5 : f.code = []
  · simp only [h5, if_true] at hw
    have h5' : (f.code.length : Int) = 0 := by rw [h5]; rfl
    clear h5
    repeat (first | (first | (apply AOpl.step; rfl) | apply ASl.step); focus simp [*, -Option.some.injEq]; rfl | (first | (apply AOpl.stepG; rfl) | apply ASl.stepG); (focus simp [*]; done); focus simp [*, -Option.some.injEq]; rfl | (first | (apply AOpl.pass; rfl) | apply ASl.pass); (focus simp [*]; done) | (first | refine AOpl.nil ?_ | refine AWp.skip ?_ | refine AWp.exit ?_ | refine AWp.ret ?_ | refine ASl.nil ?_); try simp only [Then, InBlock, reduceIte, Nat.reduceEqDiff] | refine AWp.seq ?_ | refine AWp.reg rfl ?_ | refine AWp.block ?_ | apply AWp.condT; focus simp [*]; done | apply AWp.condF; focus simp [*]; done | refine AWp.regT (by kernel_rfl) (by kernel_rfl) rfl rfl ?_)
    (refine ⟨_, (by simp [*]; rfl), ?_⟩; (try simp only [packA]))
    all_goals (rw [hw] <;> rfl)
  simp only [h5, if_false] at hw
  have h5' : ¬ (f.code.length : Int) = 0 := by
    intro h; exact h5 (List.length_eq_zero_iff.mp (by omega))
  repeat (first | (first | (apply AOpl.step; rfl) | apply ASl.step); focus simp [*, -Option.some.injEq]; rfl | (first | (apply AOpl.stepG; rfl) | apply ASl.stepG); (focus simp [*]; done); focus simp [*, -Option.some.injEq]; rfl | (first | (apply AOpl.pass; rfl) | apply ASl.pass); (focus simp [*]; done) | (first | refine AOpl.nil ?_ | refine AWp.skip ?_ | refine AWp.exit ?_ | refine AWp.ret ?_ | refine ASl.nil ?_); try simp only [Then, InBlock, reduceIte, Nat.reduceEqDiff] | refine AWp.seq ?_ | refine AWp.reg rfl ?_ | refine AWp.block ?_ | apply AWp.condT; focus simp [*]; done | apply AWp.condF; focus simp [*]; done | refine AWp.regT (by kernel_rfl) (by kernel_rfl) rfl rfl ?_)
  refine AWp.countO f.code.length [8, 9, 10, 11] 12 (fun i e H _ => e 11 = .int .i64 i ∧ H nx = some (.cells [.lst (cds.map cvCd)]) ∧ H (nx + 1) = some (.cells (cvFu f)) ∧ w = codeE cds f i (f.code.drop i)) ⟨(by first | (simp (disch := omega) [putE, over, ofV, ofS, *]; done) | (simp (disch := omega) [putE, over, ofV, ofS, *]; rfl)), by simp [upd, e2], by simp [upd, cvFu], hw⟩ ?_
  clear hw
  rintro i v H nx4 hi hn4 ⟨h11, hA, hF, hw⟩
  simp only [cvFu] at hF
  repeat (first | (first | (apply AOpl.step; rfl) | apply ASl.step); focus simp [*, -Option.some.injEq]; rfl | (first | (apply AOpl.stepG; rfl) | apply ASl.stepG); (focus simp [*]; done); focus simp [*, -Option.some.injEq]; rfl | (first | (apply AOpl.pass; rfl) | apply ASl.pass); (focus simp [*]; done) | (first | refine AOpl.nil ?_ | refine AWp.skip ?_ | refine AWp.exit ?_ | refine AWp.ret ?_ | refine ASl.nil ?_); try simp only [Then, InBlock, reduceIte, Nat.reduceEqDiff] | refine AWp.seq ?_ | refine AWp.reg rfl ?_ | refine AWp.block ?_ | apply AWp.condT; focus simp [*]; done | apply AWp.condF; focus simp [*]; done | refine AWp.regT (by kernel_rfl) (by kernel_rfl) rfl rfl ?_)
  (((apply AWp.cond'); (focus (simp [*, -Ax.CV.bool.injEq]; rfl))) <;> (intro hb) <;> (try simp only [decide_eq_true_eq, decide_eq_false_iff_not, Bool.not_eq_true', Bool.not_eq_false', Bool.not_eq_true, Bool.not_eq_false] at hb))
  · have hlt : i < f.code.length := hb
    have hwi := wrap_up hlt (show f.code.length ≤ maxLen by simp only [maxLen]; omega)
    have hI := instr_ok cds hB f hf.toFuB1 i hlt
    rw [dropAt hlt, codeE] at hw
    clear hb
    repeat (first | (first | (apply AOpl.step; rfl) | apply ASl.step); focus simp [*, -Option.some.injEq]; rfl | (first | (apply AOpl.stepG; rfl) | apply ASl.stepG); (focus simp [*]; done); focus simp [*, -Option.some.injEq]; rfl | (first | (apply AOpl.pass; rfl) | apply ASl.pass); (focus simp [*]; done) | (first | refine AOpl.nil ?_ | refine AWp.skip ?_ | refine AWp.exit ?_ | refine AWp.ret ?_ | refine ASl.nil ?_); try simp only [Then, InBlock, reduceIte, Nat.reduceEqDiff] | refine AWp.seq ?_ | refine AWp.reg rfl ?_ | refine AWp.block ?_ | apply AWp.condT; focus simp [*]; done | apply AWp.condF; focus simp [*]; done | refine AWp.regT (by kernel_rfl) (by kernel_rfl) rfl rfl ?_)
    (first | (first | (apply AOpl.callN; rfl) | apply ASl.call); (focus simp [cvFu, *, -Option.some.injEq]; rfl); kernel_rfl | (first | (apply AOpl.callNG; rfl) | apply ASl.callg); (focus simp [cvFu, *]; done); (focus simp [cvFu, *, -Option.some.injEq]; rfl); kernel_rfl)
    · exact hI
    intro nx5 hn5
    by_cases h6 : instrI cds f i f.code[i] = 0
    · simp only [h6, if_true] at hw
      repeat (first | (first | (apply AOpl.step; rfl) | apply ASl.step); focus simp [*, -Option.some.injEq]; rfl | (first | (apply AOpl.stepG; rfl) | apply ASl.stepG); (focus simp [*]; done); focus simp [*, -Option.some.injEq]; rfl | (first | (apply AOpl.pass; rfl) | apply ASl.pass); (focus simp [*]; done) | (first | refine AOpl.nil ?_ | refine AWp.skip ?_ | refine AWp.exit ?_ | refine AWp.ret ?_ | refine ASl.nil ?_); try simp only [Then, InBlock, reduceIte, Nat.reduceEqDiff] | refine AWp.seq ?_ | refine AWp.reg rfl ?_ | refine AWp.block ?_ | apply AWp.condT; focus simp [*]; done | apply AWp.condF; focus simp [*]; done | refine AWp.regT (by kernel_rfl) (by kernel_rfl) rfl rfl ?_)
      exact ⟨by ((repeat (first | exact Keeps.base _ _ _ _ | (with_reducible exact Keeps.refl _ _ _) | (refine Keeps.put rfl ?_) | (refine Keeps.over' rfl rfl ?_)))), hlt, (by first | (simp (disch := omega) [putE, over, ofV, ofS, *]; done) | (simp (disch := omega) [putE, over, ofV, ofS, *]; rfl)), hA, by simp [hF, cvFu], hw⟩
    · simp only [h6, if_false] at hw
      repeat (first | (first | (apply AOpl.step; rfl) | apply ASl.step); focus simp [*, -Option.some.injEq]; rfl | (first | (apply AOpl.stepG; rfl) | apply ASl.stepG); (focus simp [*]; done); focus simp [*, -Option.some.injEq]; rfl | (first | (apply AOpl.pass; rfl) | apply ASl.pass); (focus simp [*]; done) | (first | refine AOpl.nil ?_ | refine AWp.skip ?_ | refine AWp.exit ?_ | refine AWp.ret ?_ | refine ASl.nil ?_); try simp only [Then, InBlock, reduceIte, Nat.reduceEqDiff] | refine AWp.seq ?_ | refine AWp.reg rfl ?_ | refine AWp.block ?_ | apply AWp.condT; focus simp [*]; done | apply AWp.condF; focus simp [*]; done | refine AWp.regT (by kernel_rfl) (by kernel_rfl) rfl rfl ?_)
      (refine ⟨_, (by simp [*]; rfl), ?_⟩; (try simp only [packA]))
      all_goals (rw [hw] <;> rfl)
  · rw [dropEnd hi hb] at hw
    repeat (first | (first | (apply AOpl.step; rfl) | apply ASl.step); focus simp [*, -Option.some.injEq]; rfl | (first | (apply AOpl.stepG; rfl) | apply ASl.stepG); (focus simp [*]; done); focus simp [*, -Option.some.injEq]; rfl | (first | (apply AOpl.pass; rfl) | apply ASl.pass); (focus simp [*]; done) | (first | refine AOpl.nil ?_ | refine AWp.skip ?_ | refine AWp.exit ?_ | refine AWp.ret ?_ | refine ASl.nil ?_); try simp only [Then, InBlock, reduceIte, Nat.reduceEqDiff] | refine AWp.seq ?_ | refine AWp.reg rfl ?_ | refine AWp.block ?_ | apply AWp.condT; focus simp [*]; done | apply AWp.condF; focus simp [*]; done | refine AWp.regT (by kernel_rfl) (by kernel_rfl) rfl rfl ?_)
    (refine ⟨_, (by simp [*]; rfl), ?_⟩; (try simp only [packA]))
    all_goals (rw [hw] <;> rfl)
theorem func_one (cds : List Cd) (hB : HiB cds) (f : Fu) (hf : FuB2 f) (cls : Bs) (s : Sg) (hp : s.params.length ≤ 1000) : FCall1 Tryz.prog cxG 100 [.agg [.lst (cds.map cvCd)], .agg (cvFu f), .str cls, .agg (cvSg s)] (.tup [.int .i64 (funcE cds f cls s).1, .int .i64 (funcE cds f cls s).2]) :=
  (func_ok cds hB f hf cls s hp).one cxG_pu (by simp [puL, puV, puR_mapR puL_Cd, puL_Sg, puL_Fu]) rfl
def numW : List Cd → Nat → Option (Bs × Sg)
  | [], _ => none
  | c :: l, n => match c.methods[n]? with
    | some m => some (c.name, m)
    | none => numW l (n - c.methods.length)
def mcount : List Cd → Nat
  | [] => 0
  | c :: l => c.methods.length + mcount l
theorem numW_some : ∀ (l : List Cd) (n : Nat), n < mcount l → ∃ c ∈ l, ∃ m ∈ c.methods, numW l n = some (c.name, m)
  | [], n, h => by simp [mcount] at h
  | c :: l, n, h => by
    simp only [numW]
    cases hm : c.methods[n]? with
    | some m => exact ⟨c, by simp, m, List.mem_of_getElem? hm, rfl⟩
    | none =>
      have hle := List.getElem?_eq_none_iff.mp hm
      simp only [mcount] at h
      obtain ⟨c', h1, m, h2, h3⟩ := numW_some l (n - c.methods.length) (by omega)
      exact ⟨c', by simp [h1], m, h2, h3⟩
set_option maxRecDepth 10000 in
set_option maxHeartbeats 8000000 in
theorem num_ok (cds : List Cd) (hB : HiB cds) (n : Nat) (hn : n ≤ 1000000) : FCall Tryz.prog cxG 99 [.agg [.lst (cds.map cvCd)], .int .i64 n] fun r => r = .ret (cvLook (numW cds n)) := by
  obtain ⟨w, hw⟩ : ∃ w, w = numW cds n := ⟨_, rfl⟩
  rw [← hw]
  have hl := hB.len
  refine FCall.ofBody Tryz.func99 rfl rfl fun nx => ?_
  repeat (first | (first | (apply AOpl.step; rfl) | apply ASl.step); focus simp [*, -Option.some.injEq]; rfl | (first | (apply AOpl.stepG; rfl) | apply ASl.stepG); (focus simp [*]; done); focus simp [*, -Option.some.injEq]; rfl | (first | (apply AOpl.pass; rfl) | apply ASl.pass); (focus simp [*]; done) | (first | refine AOpl.nil ?_ | refine AWp.skip ?_ | refine AWp.exit ?_ | refine AWp.ret ?_ | refine ASl.nil ?_); try simp only [Then, InBlock, reduceIte, Nat.reduceEqDiff] | refine AWp.seq ?_ | refine AWp.reg rfl ?_ | refine AWp.block ?_ | apply AWp.condT; focus simp [*]; done | apply AWp.condF; focus simp [*]; done | refine AWp.regT (by kernel_rfl) (by kernel_rfl) rfl rfl ?_)
  refine AWp.countO cds.length [1, 4, 6, 7, 8] 9 (fun i e H _ => ∃ k : Nat, e 1 = .int .i64 k ∧ k ≤ 1000000 ∧ e 7 = .int .i64 i ∧ H nx = some (.cells [.lst (cds.map cvCd)]) ∧ H (nx + 1) = some (.cells zSg) ∧ w = numW (cds.drop i) k) ⟨n, (by first | (simp (disch := omega) [putE, over, ofV, ofS, *]; done) | (simp (disch := omega) [putE, over, ofV, ofS, *]; rfl)), hn, (by first | (simp (disch := omega) [putE, over, ofV, ofS, *]; done) | (simp (disch := omega) [putE, over, ofV, ofS, *]; rfl)), by simp [upd], by simp [upd, zSg], hw⟩ ?_
  clear hw
  rintro i v H nx1 hi hn1 ⟨k, hk, hkb, h7, hA, hZ, hw⟩
  simp only [zSg] at hZ
  repeat (first | (first | (apply AOpl.step; rfl) | apply ASl.step); focus simp [*, -Option.some.injEq]; rfl | (first | (apply AOpl.stepG; rfl) | apply ASl.stepG); (focus simp [*]; done); focus simp [*, -Option.some.injEq]; rfl | (first | (apply AOpl.pass; rfl) | apply ASl.pass); (focus simp [*]; done) | (first | refine AOpl.nil ?_ | refine AWp.skip ?_ | refine AWp.exit ?_ | refine AWp.ret ?_ | refine ASl.nil ?_); try simp only [Then, InBlock, reduceIte, Nat.reduceEqDiff] | refine AWp.seq ?_ | refine AWp.reg rfl ?_ | refine AWp.block ?_ | apply AWp.condT; focus simp [*]; done | apply AWp.condF; focus simp [*]; done | refine AWp.regT (by kernel_rfl) (by kernel_rfl) rfl rfl ?_)
  (((apply AWp.cond'); (focus (simp [*, -Ax.CV.bool.injEq]; rfl))) <;> (intro hb) <;> (try simp only [decide_eq_true_eq, decide_eq_false_iff_not, Bool.not_eq_true', Bool.not_eq_false', Bool.not_eq_true, Bool.not_eq_false] at hb))
  · have hlt : i < cds.length := hb
    have hwi := wrap_up hlt (show cds.length ≤ maxLen by simp only [maxLen]; omega)
    have hml := hB.ml _ (List.getElem_mem hlt)
    rw [dropAt hlt, numW] at hw
    clear hb
    repeat (first | (first | (apply AOpl.step; rfl) | apply ASl.step); focus simp [cvCd, *, -Option.some.injEq]; rfl | (first | (apply AOpl.stepG; rfl) | apply ASl.stepG); (focus simp [cvCd, *]; done); focus simp [cvCd, *, -Option.some.injEq]; rfl | (first | (apply AOpl.pass; rfl) | apply ASl.pass); (focus simp [cvCd, *]; done) | (first | refine AOpl.nil ?_ | refine AWp.skip ?_ | refine AWp.exit ?_ | refine AWp.ret ?_ | refine ASl.nil ?_); try simp only [Then, InBlock, reduceIte, Nat.reduceEqDiff] | refine AWp.seq ?_ | refine AWp.reg rfl ?_ | refine AWp.block ?_ | apply AWp.condT; focus simp [cvCd, *]; done | apply AWp.condF; focus simp [cvCd, *]; done | refine AWp.regT (by kernel_rfl) (by kernel_rfl) rfl rfl ?_)
    (((apply AWp.cond'); (focus (simp [*, -Ax.CV.bool.injEq]; rfl))) <;> (intro hb) <;> (try simp only [decide_eq_true_eq, decide_eq_false_iff_not, Bool.not_eq_true', Bool.not_eq_false', Bool.not_eq_true, Bool.not_eq_false] at hb))
    · have hkm : k < cds[i].methods.length := hb
      rw [List.getElem?_eq_getElem hkm] at hw
      simp only at hw
      repeat (first | (first | (apply AOpl.step; rfl) | apply ASl.step); focus simp [cvCd, cvSg, *, -Option.some.injEq]; rfl | (first | (apply AOpl.stepG; rfl) | apply ASl.stepG); (focus simp [cvCd, cvSg, *]; done); focus simp [cvCd, cvSg, *, -Option.some.injEq]; rfl | (first | (apply AOpl.pass; rfl) | apply ASl.pass); (focus simp [cvCd, cvSg, *]; done) | (first | refine AOpl.nil ?_ | refine AWp.skip ?_ | refine AWp.exit ?_ | refine AWp.ret ?_ | refine ASl.nil ?_); try simp only [Then, InBlock, reduceIte, Nat.reduceEqDiff] | refine AWp.seq ?_ | refine AWp.reg rfl ?_ | refine AWp.block ?_ | apply AWp.condT; focus simp [cvCd, cvSg, *]; done | apply AWp.condF; focus simp [cvCd, cvSg, *]; done | refine AWp.regT (by kernel_rfl) (by kernel_rfl) rfl rfl ?_)
      (refine ⟨_, (by simp [ti_Sg, *]; rfl), ?_⟩; (try simp only [packA]))
      all_goals (rw [hw]; simp [cvLook, cvSg])
    · have hkm : ¬ k < cds[i].methods.length := hb
      have hws : IntKind.i64.wrap ((k : Int) - cds[i].methods.length) = ((k - cds[i].methods.length : Nat) : Int) := by rw [IntKind.wrap_i64]; omega
      rw [List.getElem?_eq_none (by omega)] at hw
      simp only at hw
      repeat (first | (first | (apply AOpl.step; rfl) | apply ASl.step); focus simp [*, -Option.some.injEq]; rfl | (first | (apply AOpl.stepG; rfl) | apply ASl.stepG); (focus simp [*]; done); focus simp [*, -Option.some.injEq]; rfl | (first | (apply AOpl.pass; rfl) | apply ASl.pass); (focus simp [*]; done) | (first | refine AOpl.nil ?_ | refine AWp.skip ?_ | refine AWp.exit ?_ | refine AWp.ret ?_ | refine ASl.nil ?_); try simp only [Then, InBlock, reduceIte, Nat.reduceEqDiff] | refine AWp.seq ?_ | refine AWp.reg rfl ?_ | refine AWp.block ?_ | apply AWp.condT; focus simp [*]; done | apply AWp.condF; focus simp [*]; done | refine AWp.regT (by kernel_rfl) (by kernel_rfl) rfl rfl ?_)
      exact ⟨by ((repeat (first | exact Keeps.base _ _ _ _ | (with_reducible exact Keeps.refl _ _ _) | (refine Keeps.put rfl ?_) | (refine Keeps.over' rfl rfl ?_)))), hlt, k - cds[i].methods.length, (by first | (simp (disch := omega) [putE, over, ofV, ofS, *]; done) | (simp (disch := omega) [putE, over, ofV, ofS, *]; rfl)), by omega, (by first | (simp (disch := omega) [putE, over, ofV, ofS, *]; done) | (simp (disch := omega) [putE, over, ofV, ofS, *]; rfl)), hA, by simp [hZ, zSg], hw⟩
  · rw [dropEnd hi hb] at hw
    repeat (first | (first | (apply AOpl.step; rfl) | apply ASl.step); focus simp [*, -Option.some.injEq]; rfl | (first | (apply AOpl.stepG; rfl) | apply ASl.stepG); (focus simp [*]; done); focus simp [*, -Option.some.injEq]; rfl | (first | (apply AOpl.pass; rfl) | apply ASl.pass); (focus simp [*]; done) | (first | refine AOpl.nil ?_ | refine AWp.skip ?_ | refine AWp.exit ?_ | refine AWp.ret ?_ | refine ASl.nil ?_); try simp only [Then, InBlock, reduceIte, Nat.reduceEqDiff] | refine AWp.seq ?_ | refine AWp.reg rfl ?_ | refine AWp.block ?_ | apply AWp.condT; focus simp [*]; done | apply AWp.condF; focus simp [*]; done | refine AWp.regT (by kernel_rfl) (by kernel_rfl) rfl rfl ?_)
    (refine ⟨_, (by simp [ti_Sg, *]; rfl), ?_⟩; (try simp only [packA]))
    all_goals (rw [hw]; simp [cvLook, numW, zSg])
end Go.Proofs.YtdjllogimomgmaaGreatDoor
