/-
  The types of an instruction's variables; walked.
-/
import Derived.Test.YtdjllogimomgmaaGreatDoorJkF
set_option linter.unusedSimpArgs false
set_option linter.unusedVariables false
namespace Go.Proofs.YtdjllogimomgmaaGreatDoor
open Ax Tx Go.RowKit
attribute [local simp] stepS Ax.stepT Dl.on qstep astep estep rd putE over argE ofV ofS loadA pickCells isAggD faddA fieldA partA iaddA idxA sliA bnd binA intA strA unA convA bltA lenA mapOf lookA findK keyD scalD storeA mupA appA srcA srcD upd drp Dl.hp Dl.nx CV.cs CV.one buildA placesA fillA zrep tasA ifaceD eqA eqFs eqIs range2 copyA nbeq nble nblt decEq beqI bneI beqS bneS isED Int.ofNat_inj List.getElem?_map List.getElem?_eq_getElem Option.map_some ti_int ti_bool ti_str ti_i64 ti_Strs ti_Hi ti_Cds ti_Cd ti_Flds ti_Fld ti_Sgs ti_Sg ti_Ins ti_Inss ti_Ints ti_Fu gd gdB callA resA op1
def tyD (f : Fu) (x : Ins) : Bs := if hasB x.op 100 = true then vtyp f x.dst else []
def tyA (f : Fu) (x : Ins) : Bs := if hasB x.op 97 = true ∧ 0 ≤ x.a then vtyp f x.a else []
def tyB (f : Fu) (x : Ins) : Bs := if hasB x.op 98 = true then vtyp f x.b else []
def intsW (cds : List Cd) (f : Fu) (x : Ins) (D A B : Bs) : Bool :=
  if x.op = 1 then decide (D = intS) else if x.op = 5 then decide (D = intS) else if x.op = 2 then !decide (D = intS) else if x.op = 3 then fitsT cds A D else if x.op = 16 then decide (A = intS) && decide (D = intS)
  else if x.op = 11 then decide (A = intS) else if x.op = 14 then !decide (A = intS) else if x.op = 4 then decide (D = intS) && ((decide (A = intS) && decide (B = intS)) || ((decide (x.n = 5) && !decide (A = intS)) && !decide (B = intS)))
  else if x.op = 13 then (if x.a = -1 then true else fitsT cds A f.result) else true
def intsB (cds : List Cd) (f : Fu) (x : Ins) : Bool := intsW cds f x (tyD f x) (tyA f x) (tyB f x)
set_option maxRecDepth 10000 in
set_option maxHeartbeats 16000000 in
theorem ints_ok (cds : List Cd) (hB : HiB cds) (f : Fu) (x : Ins) (ho : opIn x.op = true) (hd : hasB x.op 100 = true → ∃ k : Nat, x.dst = k ∧ k < f.vars.length) (ha : hasB x.op 97 = true → 0 ≤ x.a → ∃ k : Nat, x.a = k ∧ k < f.vars.length) (hb0 : hasB x.op 98 = true → ∃ k : Nat, x.b = k ∧ k < f.vars.length) :
    FCall Tryz.prog cxG 196 [.agg [.lst (cds.map cvCd)], .agg (cvFu f), .agg (cvIns x)] fun r => r = .ret (.bool (intsB cds f x)) := by
  have hh : ∀ c, letL.contains c = true → FCall Tryz.prog cxG 68 [.int .i64 x.op, .int .u8 c.toNat] fun r => r = .ret (.bool (hasB x.op c)) := fun c hc => (has_ok x.op ho c (letA hc)).f
  obtain ⟨w, hw⟩ : ∃ w, w = intsB cds f x := ⟨_, rfl⟩
  rw [← hw]
  unfold intsB at hw
  refine FCall.ofBody Tryz.func196 rfl rfl fun nx => ?_
  have e2 : ¬ nx = nx + 1 + 1 := by omega
  repeat (first | (first | (apply AOpl.step; rfl) | apply ASl.step); focus simp [cvFu, cvIns, cvFld, *, -Option.some.injEq]; rfl | (first | (apply AOpl.stepG; rfl) | apply ASl.stepG); (focus simp [cvFu, cvIns, cvFld, *]; done); focus simp [cvFu, cvIns, cvFld, *, -Option.some.injEq]; rfl | (first | (apply AOpl.pass; rfl) | apply ASl.pass); (focus simp [cvFu, cvIns, cvFld, *]; done) | (first | refine AOpl.nil ?_ | refine AWp.skip ?_ | refine AWp.exit ?_ | refine AWp.ret ?_ | refine ASl.nil ?_); try simp only [Then, InBlock, reduceIte, Nat.reduceEqDiff] | refine AWp.seq ?_ | refine AWp.reg rfl ?_ | refine AWp.block ?_ | apply AWp.condT; focus simp [cvFu, cvIns, cvFld, *]; done | apply AWp.condF; focus simp [cvFu, cvIns, cvFld, *]; done | refine AWp.regT (by kernel_rfl) (by kernel_rfl) rfl rfl ?_)
  (first | (first | (apply AOpl.callN; rfl) | apply ASl.call); (focus simp [*, -Option.some.injEq]; rfl); kernel_rfl | (first | (apply AOpl.callNG; rfl) | apply ASl.callg); (focus simp [*]; done); (focus simp [*, -Option.some.injEq]; rfl); kernel_rfl)
  · exact hh 100 rfl
  intro nx1 hn1
  have q1 : ∀ k, ¬ nx = nx1 + k := fun k => by omega
  repeat (first | (first | (apply AOpl.step; rfl) | apply ASl.step); focus simp [*, -Option.some.injEq]; rfl | (first | (apply AOpl.stepG; rfl) | apply ASl.stepG); (focus simp [*]; done); focus simp [*, -Option.some.injEq]; rfl | (first | (apply AOpl.pass; rfl) | apply ASl.pass); (focus simp [*]; done) | (first | refine AOpl.nil ?_ | refine AWp.skip ?_ | refine AWp.exit ?_ | refine AWp.ret ?_ | refine ASl.nil ?_); try simp only [Then, InBlock, reduceIte, Nat.reduceEqDiff] | refine AWp.seq ?_ | refine AWp.reg rfl ?_ | refine AWp.block ?_ | apply AWp.condT; focus simp [*]; done | apply AWp.condF; focus simp [*]; done | refine AWp.regT (by kernel_rfl) (by kernel_rfl) rfl rfl ?_)
  refine AWp.cutO [7] 10 (fun e H _ => e 7 = .str (tyD f x) ∧ H nx = some (.cells [.lst (cds.map cvCd)]) ∧ H (nx + 1) = some (.cells (cvFu f)) ∧ H (nx + 1 + 1) = some (.cells (cvIns x))) ?_ ?_
  · unfold tyD
    cases h : hasB x.op 100
    · simp only [Bool.false_eq_true, if_false]
      repeat (first | (first | (apply AOpl.step; rfl) | apply ASl.step); focus simp [*, -Option.some.injEq]; rfl | (first | (apply AOpl.stepG; rfl) | apply ASl.stepG); (focus simp [*]; done); focus simp [*, -Option.some.injEq]; rfl | (first | (apply AOpl.pass; rfl) | apply ASl.pass); (focus simp [*]; done) | (first | refine AOpl.nil ?_ | refine AWp.skip ?_ | refine AWp.exit ?_ | refine AWp.ret ?_ | refine ASl.nil ?_); try simp only [Then, InBlock, reduceIte, Nat.reduceEqDiff] | refine AWp.seq ?_ | refine AWp.reg rfl ?_ | refine AWp.block ?_ | apply AWp.condT; focus simp [*]; done | apply AWp.condF; focus simp [*]; done | refine AWp.regT (by kernel_rfl) (by kernel_rfl) rfl rfl ?_)
      exact ⟨by ((repeat (first | exact Keeps.base _ _ _ _ | (with_reducible exact Keeps.refl _ _ _) | (refine Keeps.put rfl ?_) | (refine Keeps.over' rfl rfl ?_)))), (by first | (simp (disch := omega) [putE, over, ofV, ofS, *]; done) | (simp (disch := omega) [putE, over, ofV, ofS, *]; rfl)), by simp [upd, e2], by simp [upd, cvFu, e2], by simp [upd, cvIns, e2]⟩
    · obtain ⟨k, hk, hkl⟩ := hd h
      rw [if_pos rfl, hk, vtyp_at hkl]
      repeat (first | (first | (apply AOpl.step; rfl) | apply ASl.step); focus simp [cvFld, *, -Option.some.injEq]; rfl | (first | (apply AOpl.stepG; rfl) | apply ASl.stepG); (focus simp [cvFld, *]; done); focus simp [cvFld, *, -Option.some.injEq]; rfl | (first | (apply AOpl.pass; rfl) | apply ASl.pass); (focus simp [cvFld, *]; done) | (first | refine AOpl.nil ?_ | refine AWp.skip ?_ | refine AWp.exit ?_ | refine AWp.ret ?_ | refine ASl.nil ?_); try simp only [Then, InBlock, reduceIte, Nat.reduceEqDiff] | refine AWp.seq ?_ | refine AWp.reg rfl ?_ | refine AWp.block ?_ | apply AWp.condT; focus simp [cvFld, *]; done | apply AWp.condF; focus simp [cvFld, *]; done | refine AWp.regT (by kernel_rfl) (by kernel_rfl) rfl rfl ?_)
      exact ⟨by ((repeat (first | exact Keeps.base _ _ _ _ | (with_reducible exact Keeps.refl _ _ _) | (refine Keeps.put rfl ?_) | (refine Keeps.over' rfl rfl ?_)))), (by first | (simp (disch := omega) [putE, over, ofV, ofS, *]; done) | (simp (disch := omega) [putE, over, ofV, ofS, *]; rfl)), by simp [upd, e2], by simp [upd, cvFu, e2], by simp [upd, cvIns, e2, hk]⟩
  rintro v2 H2 nx2 hn2 ⟨h7, hA, hF, hX⟩
  simp only [cvFu] at hF
  simp only [cvIns] at hX
  have q2 : ∀ k, ¬ nx = nx2 + k := fun k => by omega
  repeat (first | (first | (apply AOpl.step; rfl) | apply ASl.step); focus simp [*, -Option.some.injEq]; rfl | (first | (apply AOpl.stepG; rfl) | apply ASl.stepG); (focus simp [*]; done); focus simp [*, -Option.some.injEq]; rfl | (first | (apply AOpl.pass; rfl) | apply ASl.pass); (focus simp [*]; done) | (first | refine AOpl.nil ?_ | refine AWp.skip ?_ | refine AWp.exit ?_ | refine AWp.ret ?_ | refine ASl.nil ?_); try simp only [Then, InBlock, reduceIte, Nat.reduceEqDiff] | refine AWp.seq ?_ | refine AWp.reg rfl ?_ | refine AWp.block ?_ | apply AWp.condT; focus simp [*]; done | apply AWp.condF; focus simp [*]; done | refine AWp.regT (by kernel_rfl) (by kernel_rfl) rfl rfl ?_)
  (first | (first | (apply AOpl.callN; rfl) | apply ASl.call); (focus simp [*, -Option.some.injEq]; rfl); kernel_rfl | (first | (apply AOpl.callNG; rfl) | apply ASl.callg); (focus simp [*]; done); (focus simp [*, -Option.some.injEq]; rfl); kernel_rfl)
  · exact hh 97 rfl
  intro nx3 hn3
  repeat (first | (first | (apply AOpl.step; rfl) | apply ASl.step); focus simp [*, -Option.some.injEq]; rfl | (first | (apply AOpl.stepG; rfl) | apply ASl.stepG); (focus simp [*]; done); focus simp [*, -Option.some.injEq]; rfl | (first | (apply AOpl.pass; rfl) | apply ASl.pass); (focus simp [*]; done) | (first | refine AOpl.nil ?_ | refine AWp.skip ?_ | refine AWp.exit ?_ | refine AWp.ret ?_ | refine ASl.nil ?_); try simp only [Then, InBlock, reduceIte, Nat.reduceEqDiff] | refine AWp.seq ?_ | refine AWp.reg rfl ?_ | refine AWp.block ?_ | apply AWp.condT; focus simp [*]; done | apply AWp.condF; focus simp [*]; done | refine AWp.regT (by kernel_rfl) (by kernel_rfl) rfl rfl ?_ | (first | (apply AOpl.pickOrZ; rfl) | (apply AOpl.pickAndZ; rfl)); (focus (simp [*, -Ax.CV.bool.injEq]; rfl)); (focus (intro hq; (try simp only [Bool.not_eq_true', Bool.not_eq_false', decide_eq_true_eq, decide_eq_false_iff_not, Bool.and_eq_true, Bool.or_eq_false_iff] at hq); simp [*, -Ax.CV.bool.injEq]; rfl)); intro z hz | (first | (apply AOpl.pickOrGZ; rfl) | (apply AOpl.pickAndGZ; rfl)); (focus simp [*]; done); (focus (simp [*, -Ax.CV.bool.injEq]; rfl)); (focus (intro hq; (try simp only [Bool.not_eq_true', Bool.not_eq_false', decide_eq_true_eq, decide_eq_false_iff_not, Bool.and_eq_true, Bool.or_eq_false_iff] at hq); simp [*, -Ax.CV.bool.injEq]; rfl)); intro z hz | (first | (apply AOpl.pickOrCZ; rfl) | (apply AOpl.pickAndCZ; rfl)); (focus (simp [*, -Ax.CV.bool.injEq, -Option.some.injEq]; rfl)); (focus (intro hq; (try simp only [Bool.not_eq_true', Bool.not_eq_false', decide_eq_true_eq, decide_eq_false_iff_not, Bool.and_eq_true, Bool.or_eq_false_iff] at hq); simp [*, -Ax.CV.bool.injEq]; rfl)); (focus (intro hp hq; (try simp only [Bool.not_eq_true', Bool.not_eq_false', decide_eq_true_eq, decide_eq_false_iff_not, Bool.and_eq_true, Bool.or_eq_false_iff] at hp hq); simp [*, -Ax.CV.bool.injEq]; rfl)); intro z hz | (apply AOpl.passC; rfl); focus simp [*, -Ax.CV.bool.injEq]; done | (apply AOpl.lookC; rfl); (focus (simp [*, -Ax.CV.bool.injEq, -Option.some.injEq]; rfl)); focus intro _; simp [*, -Option.some.injEq]; rfl)
  refine AWp.cutO [8] 10 (fun e H _ => e 8 = .str (tyA f x) ∧ H nx = some (.cells [.lst (cds.map cvCd)]) ∧ H (nx + 1) = some (.cells (cvFu f)) ∧ H (nx + 1 + 1) = some (.cells (cvIns x))) ?_ ?_
  · unfold tyA
    cases z
    · have hn : ¬ (hasB x.op 97 = true ∧ 0 ≤ x.a) := by
        rintro ⟨h1, h2⟩
        simp [h1, h2] at hz
      rw [if_neg hn]
      clear hz
      repeat (first | (first | (apply AOpl.step; rfl) | apply ASl.step); focus simp [*, -Option.some.injEq]; rfl | (first | (apply AOpl.stepG; rfl) | apply ASl.stepG); (focus simp [*]; done); focus simp [*, -Option.some.injEq]; rfl | (first | (apply AOpl.pass; rfl) | apply ASl.pass); (focus simp [*]; done) | (first | refine AOpl.nil ?_ | refine AWp.skip ?_ | refine AWp.exit ?_ | refine AWp.ret ?_ | refine ASl.nil ?_); try simp only [Then, InBlock, reduceIte, Nat.reduceEqDiff] | refine AWp.seq ?_ | refine AWp.reg rfl ?_ | refine AWp.block ?_ | apply AWp.condT; focus simp [*]; done | apply AWp.condF; focus simp [*]; done | refine AWp.regT (by kernel_rfl) (by kernel_rfl) rfl rfl ?_)
      exact ⟨by ((repeat (first | exact Keeps.base _ _ _ _ | (with_reducible exact Keeps.refl _ _ _) | (refine Keeps.put rfl ?_) | (refine Keeps.over' rfl rfl ?_)))), (by first | (simp (disch := omega) [putE, over, ofV, ofS, *]; done) | (simp (disch := omega) [putE, over, ofV, ofS, *]; rfl)), hA, by simp [hF, cvFu], by simp [hX, cvIns]⟩
    · simp only [Bool.and_eq_true, decide_eq_true_eq] at hz
      obtain ⟨k, hk, hkl⟩ := ha hz.1 hz.2
      rw [if_pos hz, hk, vtyp_at hkl]
      clear hz
      repeat (first | (first | (apply AOpl.step; rfl) | apply ASl.step); focus simp [cvFld, *, -Option.some.injEq]; rfl | (first | (apply AOpl.stepG; rfl) | apply ASl.stepG); (focus simp [cvFld, *]; done); focus simp [cvFld, *, -Option.some.injEq]; rfl | (first | (apply AOpl.pass; rfl) | apply ASl.pass); (focus simp [cvFld, *]; done) | (first | refine AOpl.nil ?_ | refine AWp.skip ?_ | refine AWp.exit ?_ | refine AWp.ret ?_ | refine ASl.nil ?_); try simp only [Then, InBlock, reduceIte, Nat.reduceEqDiff] | refine AWp.seq ?_ | refine AWp.reg rfl ?_ | refine AWp.block ?_ | apply AWp.condT; focus simp [cvFld, *]; done | apply AWp.condF; focus simp [cvFld, *]; done | refine AWp.regT (by kernel_rfl) (by kernel_rfl) rfl rfl ?_)
      exact ⟨by ((repeat (first | exact Keeps.base _ _ _ _ | (with_reducible exact Keeps.refl _ _ _) | (refine Keeps.put rfl ?_) | (refine Keeps.over' rfl rfl ?_)))), (by first | (simp (disch := omega) [putE, over, ofV, ofS, *]; done) | (simp (disch := omega) [putE, over, ofV, ofS, *]; rfl)), hA, by simp [hF, cvFu], by simp [hX, cvIns, hk]⟩
  clear hz hA hF hX
  rintro v4 H4 nx4 hn4 ⟨h8, hA, hF, hX⟩
  simp only [cvFu] at hF
  simp only [cvIns] at hX
  repeat (first | (first | (apply AOpl.step; rfl) | apply ASl.step); focus simp [*, -Option.some.injEq]; rfl | (first | (apply AOpl.stepG; rfl) | apply ASl.stepG); (focus simp [*]; done); focus simp [*, -Option.some.injEq]; rfl | (first | (apply AOpl.pass; rfl) | apply ASl.pass); (focus simp [*]; done) | (first | refine AOpl.nil ?_ | refine AWp.skip ?_ | refine AWp.exit ?_ | refine AWp.ret ?_ | refine ASl.nil ?_); try simp only [Then, InBlock, reduceIte, Nat.reduceEqDiff] | refine AWp.seq ?_ | refine AWp.reg rfl ?_ | refine AWp.block ?_ | apply AWp.condT; focus simp [*]; done | apply AWp.condF; focus simp [*]; done | refine AWp.regT (by kernel_rfl) (by kernel_rfl) rfl rfl ?_)
  (first | (first | (apply AOpl.callN; rfl) | apply ASl.call); (focus simp [*, -Option.some.injEq]; rfl); kernel_rfl | (first | (apply AOpl.callNG; rfl) | apply ASl.callg); (focus simp [*]; done); (focus simp [*, -Option.some.injEq]; rfl); kernel_rfl)
  · exact hh 98 rfl
  intro nx5 hn5
  repeat (first | (first | (apply AOpl.step; rfl) | apply ASl.step); focus simp [*, -Option.some.injEq]; rfl | (first | (apply AOpl.stepG; rfl) | apply ASl.stepG); (focus simp [*]; done); focus simp [*, -Option.some.injEq]; rfl | (first | (apply AOpl.pass; rfl) | apply ASl.pass); (focus simp [*]; done) | (first | refine AOpl.nil ?_ | refine AWp.skip ?_ | refine AWp.exit ?_ | refine AWp.ret ?_ | refine ASl.nil ?_); try simp only [Then, InBlock, reduceIte, Nat.reduceEqDiff] | refine AWp.seq ?_ | refine AWp.reg rfl ?_ | refine AWp.block ?_ | apply AWp.condT; focus simp [*]; done | apply AWp.condF; focus simp [*]; done | refine AWp.regT (by kernel_rfl) (by kernel_rfl) rfl rfl ?_)
  refine AWp.cutO [9] 10 (fun e H _ => e 9 = .str (tyB f x) ∧ H nx = some (.cells [.lst (cds.map cvCd)]) ∧ H (nx + 1) = some (.cells (cvFu f)) ∧ H (nx + 1 + 1) = some (.cells (cvIns x))) ?_ ?_
  · unfold tyB
    cases h : hasB x.op 98
    · simp only [Bool.false_eq_true, if_false]
      repeat (first | (first | (apply AOpl.step; rfl) | apply ASl.step); focus simp [*, -Option.some.injEq]; rfl | (first | (apply AOpl.stepG; rfl) | apply ASl.stepG); (focus simp [*]; done); focus simp [*, -Option.some.injEq]; rfl | (first | (apply AOpl.pass; rfl) | apply ASl.pass); (focus simp [*]; done) | (first | refine AOpl.nil ?_ | refine AWp.skip ?_ | refine AWp.exit ?_ | refine AWp.ret ?_ | refine ASl.nil ?_); try simp only [Then, InBlock, reduceIte, Nat.reduceEqDiff] | refine AWp.seq ?_ | refine AWp.reg rfl ?_ | refine AWp.block ?_ | apply AWp.condT; focus simp [*]; done | apply AWp.condF; focus simp [*]; done | refine AWp.regT (by kernel_rfl) (by kernel_rfl) rfl rfl ?_)
      exact ⟨by ((repeat (first | exact Keeps.base _ _ _ _ | (with_reducible exact Keeps.refl _ _ _) | (refine Keeps.put rfl ?_) | (refine Keeps.over' rfl rfl ?_)))), (by first | (simp (disch := omega) [putE, over, ofV, ofS, *]; done) | (simp (disch := omega) [putE, over, ofV, ofS, *]; rfl)), hA, by simp [hF, cvFu], by simp [hX, cvIns]⟩
    · obtain ⟨k, hk, hkl⟩ := hb0 h
      rw [if_pos rfl, hk, vtyp_at hkl]
      repeat (first | (first | (apply AOpl.step; rfl) | apply ASl.step); focus simp [cvFld, *, -Option.some.injEq]; rfl | (first | (apply AOpl.stepG; rfl) | apply ASl.stepG); (focus simp [cvFld, *]; done); focus simp [cvFld, *, -Option.some.injEq]; rfl | (first | (apply AOpl.pass; rfl) | apply ASl.pass); (focus simp [cvFld, *]; done) | (first | refine AOpl.nil ?_ | refine AWp.skip ?_ | refine AWp.exit ?_ | refine AWp.ret ?_ | refine ASl.nil ?_); try simp only [Then, InBlock, reduceIte, Nat.reduceEqDiff] | refine AWp.seq ?_ | refine AWp.reg rfl ?_ | refine AWp.block ?_ | apply AWp.condT; focus simp [cvFld, *]; done | apply AWp.condF; focus simp [cvFld, *]; done | refine AWp.regT (by kernel_rfl) (by kernel_rfl) rfl rfl ?_)
      exact ⟨by ((repeat (first | exact Keeps.base _ _ _ _ | (with_reducible exact Keeps.refl _ _ _) | (refine Keeps.put rfl ?_) | (refine Keeps.over' rfl rfl ?_)))), (by first | (simp (disch := omega) [putE, over, ofV, ofS, *]; done) | (simp (disch := omega) [putE, over, ofV, ofS, *]; rfl)), hA, by simp [hF, cvFu], by simp [hX, cvIns, hk]⟩
  clear hA hF hX
  rintro v6 H6 nx6 hn6 ⟨h9, hA, hF, hX⟩
  simp only [cvFu] at hF
  simp only [cvIns] at hX
  generalize tyD f x = D at *
  generalize tyA f x = A at *
  generalize tyB f x = B at *
  clear hh hd ha hb0 ho
  unfold intsW at hw
  by_cases o1 : x.op = 1
  · simp only [o1, if_true, intS] at hw
    repeat (first | (first | (apply AOpl.step; rfl) | apply ASl.step); focus simp [*, -Option.some.injEq]; rfl | (first | (apply AOpl.stepG; rfl) | apply ASl.stepG); (focus simp [*]; done); focus simp [*, -Option.some.injEq]; rfl | (first | (apply AOpl.pass; rfl) | apply ASl.pass); (focus simp [*]; done) | (first | refine AOpl.nil ?_ | refine AWp.skip ?_ | refine AWp.exit ?_ | refine AWp.ret ?_ | refine ASl.nil ?_); try simp only [Then, InBlock, reduceIte, Nat.reduceEqDiff] | refine AWp.seq ?_ | refine AWp.reg rfl ?_ | refine AWp.block ?_ | apply AWp.condT; focus simp [*]; done | apply AWp.condF; focus simp [*]; done | refine AWp.regT (by kernel_rfl) (by kernel_rfl) rfl rfl ?_)
    (refine ⟨_, (by simp [*]; rfl), ?_⟩; (try simp only [packA]))
    all_goals (rw [hw] <;> rfl)
  simp only [o1, if_false] at hw
  by_cases o5 : x.op = 5
  · simp only [o5, if_true, intS] at hw
    repeat (first | (first | (apply AOpl.step; rfl) | apply ASl.step); focus simp [*, -Option.some.injEq]; rfl | (first | (apply AOpl.stepG; rfl) | apply ASl.stepG); (focus simp [*]; done); focus simp [*, -Option.some.injEq]; rfl | (first | (apply AOpl.pass; rfl) | apply ASl.pass); (focus simp [*]; done) | (first | refine AOpl.nil ?_ | refine AWp.skip ?_ | refine AWp.exit ?_ | refine AWp.ret ?_ | refine ASl.nil ?_); try simp only [Then, InBlock, reduceIte, Nat.reduceEqDiff] | refine AWp.seq ?_ | refine AWp.reg rfl ?_ | refine AWp.block ?_ | apply AWp.condT; focus simp [*]; done | apply AWp.condF; focus simp [*]; done | refine AWp.regT (by kernel_rfl) (by kernel_rfl) rfl rfl ?_)
    (refine ⟨_, (by simp [*]; rfl), ?_⟩; (try simp only [packA]))
    all_goals (rw [hw] <;> rfl)
  simp only [o5, if_false] at hw
  by_cases o2 : x.op = 2
  · simp only [o2, if_true, intS] at hw
    repeat (first | (first | (apply AOpl.step; rfl) | apply ASl.step); focus simp [*, -Option.some.injEq]; rfl | (first | (apply AOpl.stepG; rfl) | apply ASl.stepG); (focus simp [*]; done); focus simp [*, -Option.some.injEq]; rfl | (first | (apply AOpl.pass; rfl) | apply ASl.pass); (focus simp [*]; done) | (first | refine AOpl.nil ?_ | refine AWp.skip ?_ | refine AWp.exit ?_ | refine AWp.ret ?_ | refine ASl.nil ?_); try simp only [Then, InBlock, reduceIte, Nat.reduceEqDiff] | refine AWp.seq ?_ | refine AWp.reg rfl ?_ | refine AWp.block ?_ | apply AWp.condT; focus simp [*]; done | apply AWp.condF; focus simp [*]; done | refine AWp.regT (by kernel_rfl) (by kernel_rfl) rfl rfl ?_)
    (refine ⟨_, (by simp [*]; rfl), ?_⟩; (try simp only [packA]))
    all_goals (rw [hw] <;> rfl)
  simp only [o2, if_false] at hw
  by_cases o3 : x.op = 3
  · simp only [o3, if_true] at hw
    repeat (first | (first | (apply AOpl.step; rfl) | apply ASl.step); focus simp [*, -Option.some.injEq]; rfl | (first | (apply AOpl.stepG; rfl) | apply ASl.stepG); (focus simp [*]; done); focus simp [*, -Option.some.injEq]; rfl | (first | (apply AOpl.pass; rfl) | apply ASl.pass); (focus simp [*]; done) | (first | refine AOpl.nil ?_ | refine AWp.skip ?_ | refine AWp.exit ?_ | refine AWp.ret ?_ | refine ASl.nil ?_); try simp only [Then, InBlock, reduceIte, Nat.reduceEqDiff] | refine AWp.seq ?_ | refine AWp.reg rfl ?_ | refine AWp.block ?_ | apply AWp.condT; focus simp [*]; done | apply AWp.condF; focus simp [*]; done | refine AWp.regT (by kernel_rfl) (by kernel_rfl) rfl rfl ?_)
    (first | (first | (apply AOpl.callN; rfl) | apply ASl.call); (focus simp [*, -Option.some.injEq]; rfl); kernel_rfl | (first | (apply AOpl.callNG; rfl) | apply ASl.callg); (focus simp [*]; done); (focus simp [*, -Option.some.injEq]; rfl); kernel_rfl)
    · exact fitsT_ok cds hB.len _ _
    intro nx7 hn7
    repeat (first | (first | (apply AOpl.step; rfl) | apply ASl.step); focus simp [*, -Option.some.injEq]; rfl | (first | (apply AOpl.stepG; rfl) | apply ASl.stepG); (focus simp [*]; done); focus simp [*, -Option.some.injEq]; rfl | (first | (apply AOpl.pass; rfl) | apply ASl.pass); (focus simp [*]; done) | (first | refine AOpl.nil ?_ | refine AWp.skip ?_ | refine AWp.exit ?_ | refine AWp.ret ?_ | refine ASl.nil ?_); try simp only [Then, InBlock, reduceIte, Nat.reduceEqDiff] | refine AWp.seq ?_ | refine AWp.reg rfl ?_ | refine AWp.block ?_ | apply AWp.condT; focus simp [*]; done | apply AWp.condF; focus simp [*]; done | refine AWp.regT (by kernel_rfl) (by kernel_rfl) rfl rfl ?_)
    (refine ⟨_, (by simp [*]; rfl), ?_⟩; (try simp only [packA]))
    all_goals (rw [hw] <;> rfl)
  simp only [o3, if_false] at hw
  by_cases o16 : x.op = 16
  · simp only [o16, if_true, intS] at hw
    repeat (first | (first | (apply AOpl.step; rfl) | apply ASl.step); focus simp [*, -Option.some.injEq]; rfl | (first | (apply AOpl.stepG; rfl) | apply ASl.stepG); (focus simp [*]; done); focus simp [*, -Option.some.injEq]; rfl | (first | (apply AOpl.pass; rfl) | apply ASl.pass); (focus simp [*]; done) | (first | refine AOpl.nil ?_ | refine AWp.skip ?_ | refine AWp.exit ?_ | refine AWp.ret ?_ | refine ASl.nil ?_); try simp only [Then, InBlock, reduceIte, Nat.reduceEqDiff] | refine AWp.seq ?_ | refine AWp.reg rfl ?_ | refine AWp.block ?_ | apply AWp.condT; focus simp [*]; done | apply AWp.condF; focus simp [*]; done | refine AWp.regT (by kernel_rfl) (by kernel_rfl) rfl rfl ?_ | (first | (apply AOpl.pickOrZ; rfl) | (apply AOpl.pickAndZ; rfl)); (focus (simp [*, -Ax.CV.bool.injEq]; rfl)); (focus (intro hq; (try simp only [Bool.not_eq_true', Bool.not_eq_false', decide_eq_true_eq, decide_eq_false_iff_not, Bool.and_eq_true, Bool.or_eq_false_iff] at hq); simp [*, -Ax.CV.bool.injEq]; rfl)); intro z hz | (first | (apply AOpl.pickOrGZ; rfl) | (apply AOpl.pickAndGZ; rfl)); (focus simp [*]; done); (focus (simp [*, -Ax.CV.bool.injEq]; rfl)); (focus (intro hq; (try simp only [Bool.not_eq_true', Bool.not_eq_false', decide_eq_true_eq, decide_eq_false_iff_not, Bool.and_eq_true, Bool.or_eq_false_iff] at hq); simp [*, -Ax.CV.bool.injEq]; rfl)); intro z hz | (first | (apply AOpl.pickOrCZ; rfl) | (apply AOpl.pickAndCZ; rfl)); (focus (simp [*, -Ax.CV.bool.injEq, -Option.some.injEq]; rfl)); (focus (intro hq; (try simp only [Bool.not_eq_true', Bool.not_eq_false', decide_eq_true_eq, decide_eq_false_iff_not, Bool.and_eq_true, Bool.or_eq_false_iff] at hq); simp [*, -Ax.CV.bool.injEq]; rfl)); (focus (intro hp hq; (try simp only [Bool.not_eq_true', Bool.not_eq_false', decide_eq_true_eq, decide_eq_false_iff_not, Bool.and_eq_true, Bool.or_eq_false_iff] at hp hq); simp [*, -Ax.CV.bool.injEq]; rfl)); intro z hz | (apply AOpl.passC; rfl); focus simp [*, -Ax.CV.bool.injEq]; done | (apply AOpl.lookC; rfl); (focus (simp [*, -Ax.CV.bool.injEq, -Option.some.injEq]; rfl)); focus intro _; simp [*, -Option.some.injEq]; rfl)
    (refine ⟨_, (by simp [*]; rfl), ?_⟩; (try simp only [packA]))
    all_goals first | (rw [hw]; done) | (rw [hw]; clear hw; subst_vars; rfl)
  simp only [o16, if_false] at hw
  by_cases o11 : x.op = 11
  · simp only [o11, if_true, intS] at hw
    repeat (first | (first | (apply AOpl.step; rfl) | apply ASl.step); focus simp [*, -Option.some.injEq]; rfl | (first | (apply AOpl.stepG; rfl) | apply ASl.stepG); (focus simp [*]; done); focus simp [*, -Option.some.injEq]; rfl | (first | (apply AOpl.pass; rfl) | apply ASl.pass); (focus simp [*]; done) | (first | refine AOpl.nil ?_ | refine AWp.skip ?_ | refine AWp.exit ?_ | refine AWp.ret ?_ | refine ASl.nil ?_); try simp only [Then, InBlock, reduceIte, Nat.reduceEqDiff] | refine AWp.seq ?_ | refine AWp.reg rfl ?_ | refine AWp.block ?_ | apply AWp.condT; focus simp [*]; done | apply AWp.condF; focus simp [*]; done | refine AWp.regT (by kernel_rfl) (by kernel_rfl) rfl rfl ?_)
    (refine ⟨_, (by simp [*]; rfl), ?_⟩; (try simp only [packA]))
    all_goals (rw [hw] <;> rfl)
  simp only [o11, if_false] at hw
  by_cases o14 : x.op = 14
  · simp only [o14, if_true, intS] at hw
    repeat (first | (first | (apply AOpl.step; rfl) | apply ASl.step); focus simp [*, -Option.some.injEq]; rfl | (first | (apply AOpl.stepG; rfl) | apply ASl.stepG); (focus simp [*]; done); focus simp [*, -Option.some.injEq]; rfl | (first | (apply AOpl.pass; rfl) | apply ASl.pass); (focus simp [*]; done) | (first | refine AOpl.nil ?_ | refine AWp.skip ?_ | refine AWp.exit ?_ | refine AWp.ret ?_ | refine ASl.nil ?_); try simp only [Then, InBlock, reduceIte, Nat.reduceEqDiff] | refine AWp.seq ?_ | refine AWp.reg rfl ?_ | refine AWp.block ?_ | apply AWp.condT; focus simp [*]; done | apply AWp.condF; focus simp [*]; done | refine AWp.regT (by kernel_rfl) (by kernel_rfl) rfl rfl ?_)
    (refine ⟨_, (by simp [*]; rfl), ?_⟩; (try simp only [packA]))
    all_goals (rw [hw] <;> rfl)
  simp only [o14, if_false] at hw
  by_cases o4 : x.op = 4
  · simp only [o4, if_true, intS] at hw
    repeat (first | (first | (apply AOpl.step; rfl) | apply ASl.step); focus simp [*, -Option.some.injEq]; rfl | (first | (apply AOpl.stepG; rfl) | apply ASl.stepG); (focus simp [*]; done); focus simp [*, -Option.some.injEq]; rfl | (first | (apply AOpl.pass; rfl) | apply ASl.pass); (focus simp [*]; done) | (first | refine AOpl.nil ?_ | refine AWp.skip ?_ | refine AWp.exit ?_ | refine AWp.ret ?_ | refine ASl.nil ?_); try simp only [Then, InBlock, reduceIte, Nat.reduceEqDiff] | refine AWp.seq ?_ | refine AWp.reg rfl ?_ | refine AWp.block ?_ | apply AWp.condT; focus simp [*]; done | apply AWp.condF; focus simp [*]; done | refine AWp.regT (by kernel_rfl) (by kernel_rfl) rfl rfl ?_ | (first | (apply AOpl.pickOrZ; rfl) | (apply AOpl.pickAndZ; rfl)); (focus (simp [*, -Ax.CV.bool.injEq]; rfl)); (focus (intro hq; (try simp only [Bool.not_eq_true', Bool.not_eq_false', decide_eq_true_eq, decide_eq_false_iff_not, Bool.and_eq_true, Bool.or_eq_false_iff] at hq); simp [*, -Ax.CV.bool.injEq]; rfl)); intro z hz | (first | (apply AOpl.pickOrGZ; rfl) | (apply AOpl.pickAndGZ; rfl)); (focus simp [*]; done); (focus (simp [*, -Ax.CV.bool.injEq]; rfl)); (focus (intro hq; (try simp only [Bool.not_eq_true', Bool.not_eq_false', decide_eq_true_eq, decide_eq_false_iff_not, Bool.and_eq_true, Bool.or_eq_false_iff] at hq); simp [*, -Ax.CV.bool.injEq]; rfl)); intro z hz | (first | (apply AOpl.pickOrCZ; rfl) | (apply AOpl.pickAndCZ; rfl)); (focus (simp [*, -Ax.CV.bool.injEq, -Option.some.injEq]; rfl)); (focus (intro hq; (try simp only [Bool.not_eq_true', Bool.not_eq_false', decide_eq_true_eq, decide_eq_false_iff_not, Bool.and_eq_true, Bool.or_eq_false_iff] at hq); simp [*, -Ax.CV.bool.injEq]; rfl)); (focus (intro hp hq; (try simp only [Bool.not_eq_true', Bool.not_eq_false', decide_eq_true_eq, decide_eq_false_iff_not, Bool.and_eq_true, Bool.or_eq_false_iff] at hp hq); simp [*, -Ax.CV.bool.injEq]; rfl)); intro z hz | (apply AOpl.passC; rfl); focus simp [*, -Ax.CV.bool.injEq]; done | (apply AOpl.lookC; rfl); (focus (simp [*, -Ax.CV.bool.injEq, -Option.some.injEq]; rfl)); focus intro _; simp [*, -Option.some.injEq]; rfl)
    (refine ⟨_, (by simp [*]; rfl), ?_⟩; (try simp only [packA]))
    all_goals first | (rw [hw]; done) | (rw [hw]; clear hw; subst_vars; rfl)
  simp only [o4, if_false] at hw
  by_cases o13 : x.op = 13
  · simp only [o13, if_true] at hw
    by_cases g1 : x.a = -1
    · simp only [g1, if_true] at hw
      repeat (first | (first | (apply AOpl.step; rfl) | apply ASl.step); focus simp [*, -Option.some.injEq]; rfl | (first | (apply AOpl.stepG; rfl) | apply ASl.stepG); (focus simp [*]; done); focus simp [*, -Option.some.injEq]; rfl | (first | (apply AOpl.pass; rfl) | apply ASl.pass); (focus simp [*]; done) | (first | refine AOpl.nil ?_ | refine AWp.skip ?_ | refine AWp.exit ?_ | refine AWp.ret ?_ | refine ASl.nil ?_); try simp only [Then, InBlock, reduceIte, Nat.reduceEqDiff] | refine AWp.seq ?_ | refine AWp.reg rfl ?_ | refine AWp.block ?_ | apply AWp.condT; focus simp [*]; done | apply AWp.condF; focus simp [*]; done | refine AWp.regT (by kernel_rfl) (by kernel_rfl) rfl rfl ?_)
      (refine ⟨_, (by simp [*]; rfl), ?_⟩; (try simp only [packA]))
      all_goals (rw [hw] <;> rfl)
    simp only [g1, if_false] at hw
    repeat (first | (first | (apply AOpl.step; rfl) | apply ASl.step); focus simp [*, -Option.some.injEq]; rfl | (first | (apply AOpl.stepG; rfl) | apply ASl.stepG); (focus simp [*]; done); focus simp [*, -Option.some.injEq]; rfl | (first | (apply AOpl.pass; rfl) | apply ASl.pass); (focus simp [*]; done) | (first | refine AOpl.nil ?_ | refine AWp.skip ?_ | refine AWp.exit ?_ | refine AWp.ret ?_ | refine ASl.nil ?_); try simp only [Then, InBlock, reduceIte, Nat.reduceEqDiff] | refine AWp.seq ?_ | refine AWp.reg rfl ?_ | refine AWp.block ?_ | apply AWp.condT; focus simp [*]; done | apply AWp.condF; focus simp [*]; done | refine AWp.regT (by kernel_rfl) (by kernel_rfl) rfl rfl ?_)
    (first | (first | (apply AOpl.callN; rfl) | apply ASl.call); (focus simp [*, -Option.some.injEq]; rfl); kernel_rfl | (first | (apply AOpl.callNG; rfl) | apply ASl.callg); (focus simp [*]; done); (focus simp [*, -Option.some.injEq]; rfl); kernel_rfl)
    · exact fitsT_ok cds hB.len _ _
    intro nx7 hn7
    repeat (first | (first | (apply AOpl.step; rfl) | apply ASl.step); focus simp [*, -Option.some.injEq]; rfl | (first | (apply AOpl.stepG; rfl) | apply ASl.stepG); (focus simp [*]; done); focus simp [*, -Option.some.injEq]; rfl | (first | (apply AOpl.pass; rfl) | apply ASl.pass); (focus simp [*]; done) | (first | refine AOpl.nil ?_ | refine AWp.skip ?_ | refine AWp.exit ?_ | refine AWp.ret ?_ | refine ASl.nil ?_); try simp only [Then, InBlock, reduceIte, Nat.reduceEqDiff] | refine AWp.seq ?_ | refine AWp.reg rfl ?_ | refine AWp.block ?_ | apply AWp.condT; focus simp [*]; done | apply AWp.condF; focus simp [*]; done | refine AWp.regT (by kernel_rfl) (by kernel_rfl) rfl rfl ?_)
    (refine ⟨_, (by simp [*]; rfl), ?_⟩; (try simp only [packA]))
    all_goals (rw [hw] <;> rfl)
  simp only [o13, if_false] at hw
  repeat (first | (first | (apply AOpl.step; rfl) | apply ASl.step); focus simp [*, -Option.some.injEq]; rfl | (first | (apply AOpl.stepG; rfl) | apply ASl.stepG); (focus simp [*]; done); focus simp [*, -Option.some.injEq]; rfl | (first | (apply AOpl.pass; rfl) | apply ASl.pass); (focus simp [*]; done) | (first | refine AOpl.nil ?_ | refine AWp.skip ?_ | refine AWp.exit ?_ | refine AWp.ret ?_ | refine ASl.nil ?_); try simp only [Then, InBlock, reduceIte, Nat.reduceEqDiff] | refine AWp.seq ?_ | refine AWp.reg rfl ?_ | refine AWp.block ?_ | apply AWp.condT; focus simp [*]; done | apply AWp.condF; focus simp [*]; done | refine AWp.regT (by kernel_rfl) (by kernel_rfl) rfl rfl ?_)
  (refine ⟨_, (by simp [*]; rfl), ?_⟩; (try simp only [packA]))
  all_goals (rw [hw] <;> rfl)
end Go.Proofs.YtdjllogimomgmaaGreatDoor
namespace Go.Proofs.YtdjllogimomgmaaGreatDoor
open Ax Tx Go.RowKit
attribute [local simp] stepS Ax.stepT Dl.on qstep astep estep rd putE over argE ofV ofS loadA pickCells isAggD faddA fieldA partA iaddA idxA sliA bnd binA intA strA unA convA bltA lenA mapOf lookA findK keyD scalD storeA mupA appA srcA srcD upd drp Dl.hp Dl.nx CV.cs CV.one buildA placesA fillA zrep tasA ifaceD eqA eqFs eqIs range2 copyA nbeq nble nblt decEq beqI bneI beqS bneS isED Int.ofNat_inj List.getElem?_map List.getElem?_eq_getElem Option.map_some ti_int ti_bool ti_str ti_i64 ti_Strs ti_Hi ti_Cds ti_Cd ti_Flds ti_Fld ti_Sgs ti_Sg ti_Ins ti_Inss ti_Ints ti_Fu gd gdB callA resA op1
theorem use_a {x : Ins} (h : hasB x.op 97 = true) (h2 : ¬ (x.op = 13 ∧ x.a = -1)) : x.a ∈ usesL x := by
  unfold usesL; rw [if_pos ⟨h, h2⟩]; simp
theorem use_b {x : Ins} (h : hasB x.op 98 = true) : x.b ∈ usesL x := by
  unfold usesL; rw [if_pos h]; simp
theorem use_l {x : Ins} (h : hasB x.op 108 = true) {a : Int} (ha : a ∈ x.args) : a ∈ usesL x := by
  unfold usesL; rw [if_pos h]; simp [ha]
def typesI (cds : List Cd) (f : Fu) (x : Ins) : Int :=
  if x.op = 6 ∨ x.op = 15 then (if isC cds x.cls = false then 6 else if fitsT cds x.cls (vtyp f x.dst) = false then 8 else 0)
  else if x.op = 7 ∨ x.op = 8 then accessE cds f x else if x.op = 9 ∨ x.op = 10 then callE cds f x
  else if x.op = 13 ∧ ¬ (x.a = -1 ↔ f.result = []) then 9 else if intsB cds f x = false then 8 else 0
set_option maxRecDepth 10000 in
set_option maxHeartbeats 16000000 in
theorem typesI_ok (cds : List Cd) (hB : HiB cds) (f : Fu) (x : Ins) (ho : opIn x.op = true) (hl : x.args.length ≤ 1000) (hr : rangesB f x = true) :
    FCall Tryz.prog cxG 168 [.agg [.lst (cds.map cvCd)], .agg (cvFu f), .agg (cvIns x)] fun r => r = .ret (.int .i64 (typesI cds f x)) := by
  obtain ⟨w, hw⟩ : ∃ w, w = typesI cds f x := ⟨_, rfl⟩
  rw [← hw]
  unfold typesI at hw
  have e2 : ∀ nx : Nat, ¬ nx = nx + 1 + 1 := fun nx => by omega
  by_cases o6 : x.op = 6 ∨ x.op = 15
  · rw [if_pos o6] at hw
    obtain ⟨k, hk, hkl⟩ := ranges_dst hr (by rcases o6 with h | h <;> rw [h] <;> rfl) (.inl (by rcases o6 with h | h <;> rw [h] <;> decide))
    rw [hk, vtyp_at hkl] at hw
    obtain ⟨op, dst, a, b, n, cls, name, args, goto, ctch⟩ := x
    simp only at o6 hk hw hl
    subst hk
    clear hr ho
    rcases o6 with rfl | rfl
    all_goals
      refine FCall.ofBody Tryz.func168 rfl rfl fun nx => ?_
      repeat (first | (first | (apply AOpl.step; rfl) | apply ASl.step); focus simp [cvFu, cvIns, cvFld, *, -Option.some.injEq]; rfl | (first | (apply AOpl.stepG; rfl) | apply ASl.stepG); (focus simp [cvFu, cvIns, cvFld, *]; done); focus simp [cvFu, cvIns, cvFld, *, -Option.some.injEq]; rfl | (first | (apply AOpl.pass; rfl) | apply ASl.pass); (focus simp [cvFu, cvIns, cvFld, *]; done) | (first | refine AOpl.nil ?_ | refine AWp.skip ?_ | refine AWp.exit ?_ | refine AWp.ret ?_ | refine ASl.nil ?_); try simp only [Then, InBlock, reduceIte, Nat.reduceEqDiff] | refine AWp.seq ?_ | refine AWp.reg rfl ?_ | refine AWp.block ?_ | apply AWp.condT; focus simp [cvFu, cvIns, cvFld, *]; done | apply AWp.condF; focus simp [cvFu, cvIns, cvFld, *]; done | refine AWp.regT (by kernel_rfl) (by kernel_rfl) rfl rfl ?_)
      (first | (first | (apply AOpl.callN; rfl) | apply ASl.call); (focus simp [*, -Option.some.injEq]; rfl); kernel_rfl | (first | (apply AOpl.callNG; rfl) | apply ASl.callg); (focus simp [*]; done); (focus simp [*, -Option.some.injEq]; rfl); kernel_rfl)
      · exact isClass_ok cds hB.len _
      intro nx2 hn2
      have q1 : ∀ k, ¬ nx = nx2 + k := fun k => by omega
      cases h1 : isC cds cls
      · simp only [h1, if_true] at hw
        repeat (first | (first | (apply AOpl.step; rfl) | apply ASl.step); focus simp [*, -Option.some.injEq]; rfl | (first | (apply AOpl.stepG; rfl) | apply ASl.stepG); (focus simp [*]; done); focus simp [*, -Option.some.injEq]; rfl | (first | (apply AOpl.pass; rfl) | apply ASl.pass); (focus simp [*]; done) | (first | refine AOpl.nil ?_ | refine AWp.skip ?_ | refine AWp.exit ?_ | refine AWp.ret ?_ | refine ASl.nil ?_); try simp only [Then, InBlock, reduceIte, Nat.reduceEqDiff] | refine AWp.seq ?_ | refine AWp.reg rfl ?_ | refine AWp.block ?_ | apply AWp.condT; focus simp [*]; done | apply AWp.condF; focus simp [*]; done | refine AWp.regT (by kernel_rfl) (by kernel_rfl) rfl rfl ?_)
        (refine ⟨_, (by simp [*]; rfl), ?_⟩; (try simp only [packA]))
        all_goals (rw [hw] <;> rfl)
      simp only [h1, Bool.true_eq_false, if_false] at hw
      repeat (first | (first | (apply AOpl.step; rfl) | apply ASl.step); focus simp [cvFld, *, -Option.some.injEq]; rfl | (first | (apply AOpl.stepG; rfl) | apply ASl.stepG); (focus simp [cvFld, *]; done); focus simp [cvFld, *, -Option.some.injEq]; rfl | (first | (apply AOpl.pass; rfl) | apply ASl.pass); (focus simp [cvFld, *]; done) | (first | refine AOpl.nil ?_ | refine AWp.skip ?_ | refine AWp.exit ?_ | refine AWp.ret ?_ | refine ASl.nil ?_); try simp only [Then, InBlock, reduceIte, Nat.reduceEqDiff] | refine AWp.seq ?_ | refine AWp.reg rfl ?_ | refine AWp.block ?_ | apply AWp.condT; focus simp [cvFld, *]; done | apply AWp.condF; focus simp [cvFld, *]; done | refine AWp.regT (by kernel_rfl) (by kernel_rfl) rfl rfl ?_)
      (first | (first | (apply AOpl.callN; rfl) | apply ASl.call); (focus simp [cvFld, *, -Option.some.injEq]; rfl); kernel_rfl | (first | (apply AOpl.callNG; rfl) | apply ASl.callg); (focus simp [cvFld, *]; done); (focus simp [cvFld, *, -Option.some.injEq]; rfl); kernel_rfl)
      · exact fitsT_one cds hB.len _ _
      cases h2 : fitsT cds cls f.vars[k].typ
      · simp only [h2, if_true] at hw
        repeat (first | (first | (apply AOpl.step; rfl) | apply ASl.step); focus simp [*, -Option.some.injEq]; rfl | (first | (apply AOpl.stepG; rfl) | apply ASl.stepG); (focus simp [*]; done); focus simp [*, -Option.some.injEq]; rfl | (first | (apply AOpl.pass; rfl) | apply ASl.pass); (focus simp [*]; done) | (first | refine AOpl.nil ?_ | refine AWp.skip ?_ | refine AWp.exit ?_ | refine AWp.ret ?_ | refine ASl.nil ?_); try simp only [Then, InBlock, reduceIte, Nat.reduceEqDiff] | refine AWp.seq ?_ | refine AWp.reg rfl ?_ | refine AWp.block ?_ | apply AWp.condT; focus simp [*]; done | apply AWp.condF; focus simp [*]; done | refine AWp.regT (by kernel_rfl) (by kernel_rfl) rfl rfl ?_)
        (refine ⟨_, (by simp [*]; rfl), ?_⟩; (try simp only [packA]))
        all_goals (rw [hw] <;> rfl)
      · simp only [h2, Bool.true_eq_false, if_false] at hw
        repeat (first | (first | (apply AOpl.step; rfl) | apply ASl.step); focus simp [*, -Option.some.injEq]; rfl | (first | (apply AOpl.stepG; rfl) | apply ASl.stepG); (focus simp [*]; done); focus simp [*, -Option.some.injEq]; rfl | (first | (apply AOpl.pass; rfl) | apply ASl.pass); (focus simp [*]; done) | (first | refine AOpl.nil ?_ | refine AWp.skip ?_ | refine AWp.exit ?_ | refine AWp.ret ?_ | refine ASl.nil ?_); try simp only [Then, InBlock, reduceIte, Nat.reduceEqDiff] | refine AWp.seq ?_ | refine AWp.reg rfl ?_ | refine AWp.block ?_ | apply AWp.condT; focus simp [*]; done | apply AWp.condF; focus simp [*]; done | refine AWp.regT (by kernel_rfl) (by kernel_rfl) rfl rfl ?_)
        (refine ⟨_, (by simp [*]; rfl), ?_⟩; (try simp only [packA]))
        all_goals (rw [hw] <;> rfl)
  rw [if_neg o6] at hw
  by_cases o7 : x.op = 7 ∨ x.op = 8
  · rw [if_pos o7] at hw
    have hA := access_ok cds hB f x o7 (ranges_use hr (use_a (by rcases o7 with h | h <;> rw [h] <;> rfl) (by rcases o7 with h | h <;> rw [h] <;> simp))) (fun h => ranges_dst hr (by rw [h]; rfl) (.inl (by rw [h]; decide))) (fun h => ranges_use hr (use_b (by rw [h]; rfl)))
    rw [← hw] at hA
    obtain ⟨op, dst, a, b, n, cls, name, args, goto, ctch⟩ := x
    simp only at o7 o6 hl
    clear hr ho hw
    rcases o7 with rfl | rfl
    all_goals
      refine FCall.ofBody Tryz.func168 rfl rfl fun nx => ?_
      repeat (first | (first | (apply AOpl.step; rfl) | apply ASl.step); focus simp [cvFu, cvIns, cvFld, *, -Option.some.injEq]; rfl | (first | (apply AOpl.stepG; rfl) | apply ASl.stepG); (focus simp [cvFu, cvIns, cvFld, *]; done); focus simp [cvFu, cvIns, cvFld, *, -Option.some.injEq]; rfl | (first | (apply AOpl.pass; rfl) | apply ASl.pass); (focus simp [cvFu, cvIns, cvFld, *]; done) | (first | refine AOpl.nil ?_ | refine AWp.skip ?_ | refine AWp.exit ?_ | refine AWp.ret ?_ | refine ASl.nil ?_); try simp only [Then, InBlock, reduceIte, Nat.reduceEqDiff] | refine AWp.seq ?_ | refine AWp.reg rfl ?_ | refine AWp.block ?_ | apply AWp.condT; focus simp [cvFu, cvIns, cvFld, *]; done | apply AWp.condF; focus simp [cvFu, cvIns, cvFld, *]; done | refine AWp.regT (by kernel_rfl) (by kernel_rfl) rfl rfl ?_)
      (first | (first | (apply AOpl.callN; rfl) | apply ASl.call); (focus simp [*, -Option.some.injEq]; rfl); kernel_rfl | (first | (apply AOpl.callNG; rfl) | apply ASl.callg); (focus simp [*]; done); (focus simp [*, -Option.some.injEq]; rfl); kernel_rfl)
      · exact hA
      intro nx2 hn2
      repeat (first | (first | (apply AOpl.step; rfl) | apply ASl.step); focus simp [*, -Option.some.injEq]; rfl | (first | (apply AOpl.stepG; rfl) | apply ASl.stepG); (focus simp [*]; done); focus simp [*, -Option.some.injEq]; rfl | (first | (apply AOpl.pass; rfl) | apply ASl.pass); (focus simp [*]; done) | (first | refine AOpl.nil ?_ | refine AWp.skip ?_ | refine AWp.exit ?_ | refine AWp.ret ?_ | refine ASl.nil ?_); try simp only [Then, InBlock, reduceIte, Nat.reduceEqDiff] | refine AWp.seq ?_ | refine AWp.reg rfl ?_ | refine AWp.block ?_ | apply AWp.condT; focus simp [*]; done | apply AWp.condF; focus simp [*]; done | refine AWp.regT (by kernel_rfl) (by kernel_rfl) rfl rfl ?_)
      (refine ⟨_, (by simp [*]; rfl), ?_⟩; (try simp only [packA]))
  rw [if_neg o7] at hw
  by_cases o9 : x.op = 9 ∨ x.op = 10
  · rw [if_pos o9] at hw
    have hA := call_ok cds hB f x hl (fun h => ranges_use hr (use_a (by rw [h]; rfl) (by rw [h]; simp))) (fun a ha => ranges_use hr (use_l (by rcases o9 with h | h <;> rw [h] <;> rfl) ha)) (fun h => ranges_dst hr (by rcases o9 with h | h <;> rw [h] <;> rfl) (.inr h))
    rw [← hw] at hA
    obtain ⟨op, dst, a, b, n, cls, name, args, goto, ctch⟩ := x
    simp only at o7 o6 o9 hl
    clear hr ho hw
    rcases o9 with rfl | rfl
    all_goals
      refine FCall.ofBody Tryz.func168 rfl rfl fun nx => ?_
      repeat (first | (first | (apply AOpl.step; rfl) | apply ASl.step); focus simp [cvFu, cvIns, cvFld, *, -Option.some.injEq]; rfl | (first | (apply AOpl.stepG; rfl) | apply ASl.stepG); (focus simp [cvFu, cvIns, cvFld, *]; done); focus simp [cvFu, cvIns, cvFld, *, -Option.some.injEq]; rfl | (first | (apply AOpl.pass; rfl) | apply ASl.pass); (focus simp [cvFu, cvIns, cvFld, *]; done) | (first | refine AOpl.nil ?_ | refine AWp.skip ?_ | refine AWp.exit ?_ | refine AWp.ret ?_ | refine ASl.nil ?_); try simp only [Then, InBlock, reduceIte, Nat.reduceEqDiff] | refine AWp.seq ?_ | refine AWp.reg rfl ?_ | refine AWp.block ?_ | apply AWp.condT; focus simp [cvFu, cvIns, cvFld, *]; done | apply AWp.condF; focus simp [cvFu, cvIns, cvFld, *]; done | refine AWp.regT (by kernel_rfl) (by kernel_rfl) rfl rfl ?_)
      (first | (first | (apply AOpl.callN; rfl) | apply ASl.call); (focus simp [*, -Option.some.injEq]; rfl); kernel_rfl | (first | (apply AOpl.callNG; rfl) | apply ASl.callg); (focus simp [*]; done); (focus simp [*, -Option.some.injEq]; rfl); kernel_rfl)
      · exact hA
      intro nx2 hn2
      repeat (first | (first | (apply AOpl.step; rfl) | apply ASl.step); focus simp [*, -Option.some.injEq]; rfl | (first | (apply AOpl.stepG; rfl) | apply ASl.stepG); (focus simp [*]; done); focus simp [*, -Option.some.injEq]; rfl | (first | (apply AOpl.pass; rfl) | apply ASl.pass); (focus simp [*]; done) | (first | refine AOpl.nil ?_ | refine AWp.skip ?_ | refine AWp.exit ?_ | refine AWp.ret ?_ | refine ASl.nil ?_); try simp only [Then, InBlock, reduceIte, Nat.reduceEqDiff] | refine AWp.seq ?_ | refine AWp.reg rfl ?_ | refine AWp.block ?_ | apply AWp.condT; focus simp [*]; done | apply AWp.condF; focus simp [*]; done | refine AWp.regT (by kernel_rfl) (by kernel_rfl) rfl rfl ?_)
      (refine ⟨_, (by simp [*]; rfl), ?_⟩; (try simp only [packA]))
  rw [if_neg o9] at hw
  have hA := ints_ok cds hB f x ho (fun h => ranges_dst hr h (.inl o9)) (fun h h2 => ranges_use hr (use_a h (by rintro ⟨_, h3⟩; omega))) (fun h => ranges_use hr (use_b h))
  simp only [not_or] at o6 o7 o9
  have o6a := o6.1; have o6b := o6.2; have o7a := o7.1; have o7b := o7.2; have o9a := o9.1; have o9b := o9.2
  clear o6 o7 o9 hr ho
  refine FCall.ofBody Tryz.func168 rfl rfl fun nx => ?_
  by_cases o13 : x.op = 13
  · obtain ⟨op, dst, a, b, n, cls, name, args, goto, ctch⟩ := x
    obtain ⟨fc, fn, fs, fp, fv, fr, fk⟩ := f
    simp only at o13 hl o6a o6b o7a o7b o9a o9b
    subst o13
    clear o6a o6b o7a o7b o9a o9b
    by_cases g1 : a = -1
    · by_cases g2 : fr = []
      · subst g1; subst g2
        simp only [true_and, not_true, iff_self, if_false] at hw
        repeat (first | (first | (apply AOpl.step; rfl) | apply ASl.step); focus simp [cvFu, cvIns, cvFld, *, -Option.some.injEq]; rfl | (first | (apply AOpl.stepG; rfl) | apply ASl.stepG); (focus simp [cvFu, cvIns, cvFld, *]; done); focus simp [cvFu, cvIns, cvFld, *, -Option.some.injEq]; rfl | (first | (apply AOpl.pass; rfl) | apply ASl.pass); (focus simp [cvFu, cvIns, cvFld, *]; done) | (first | refine AOpl.nil ?_ | refine AWp.skip ?_ | refine AWp.exit ?_ | refine AWp.ret ?_ | refine ASl.nil ?_); try simp only [Then, InBlock, reduceIte, Nat.reduceEqDiff] | refine AWp.seq ?_ | refine AWp.reg rfl ?_ | refine AWp.block ?_ | apply AWp.condT; focus simp [cvFu, cvIns, cvFld, *]; done | apply AWp.condF; focus simp [cvFu, cvIns, cvFld, *]; done | refine AWp.regT (by kernel_rfl) (by kernel_rfl) rfl rfl ?_)
        (first | (first | (apply AOpl.callN; rfl) | apply ASl.call); (focus simp [cvFu, cvIns, *, -Option.some.injEq]; rfl); kernel_rfl | (first | (apply AOpl.callNG; rfl) | apply ASl.callg); (focus simp [cvFu, cvIns, *]; done); (focus simp [cvFu, cvIns, *, -Option.some.injEq]; rfl); kernel_rfl)
        · exact hA
        intro nx2 hn2
        cases h1 : intsB cds ⟨fc, fn, fs, fp, fv, [], fk⟩ ⟨13, dst, -1, b, n, cls, name, args, goto, ctch⟩
        · simp only [h1, if_true] at hw
          repeat (first | (first | (apply AOpl.step; rfl) | apply ASl.step); focus simp [*, -Option.some.injEq]; rfl | (first | (apply AOpl.stepG; rfl) | apply ASl.stepG); (focus simp [*]; done); focus simp [*, -Option.some.injEq]; rfl | (first | (apply AOpl.pass; rfl) | apply ASl.pass); (focus simp [*]; done) | (first | refine AOpl.nil ?_ | refine AWp.skip ?_ | refine AWp.exit ?_ | refine AWp.ret ?_ | refine ASl.nil ?_); try simp only [Then, InBlock, reduceIte, Nat.reduceEqDiff] | refine AWp.seq ?_ | refine AWp.reg rfl ?_ | refine AWp.block ?_ | apply AWp.condT; focus simp [*]; done | apply AWp.condF; focus simp [*]; done | refine AWp.regT (by kernel_rfl) (by kernel_rfl) rfl rfl ?_)
          (refine ⟨_, (by simp [*]; rfl), ?_⟩; (try simp only [packA]))
          all_goals (rw [hw] <;> rfl)
        · simp only [h1, Bool.true_eq_false, if_false] at hw
          repeat (first | (first | (apply AOpl.step; rfl) | apply ASl.step); focus simp [*, -Option.some.injEq]; rfl | (first | (apply AOpl.stepG; rfl) | apply ASl.stepG); (focus simp [*]; done); focus simp [*, -Option.some.injEq]; rfl | (first | (apply AOpl.pass; rfl) | apply ASl.pass); (focus simp [*]; done) | (first | refine AOpl.nil ?_ | refine AWp.skip ?_ | refine AWp.exit ?_ | refine AWp.ret ?_ | refine ASl.nil ?_); try simp only [Then, InBlock, reduceIte, Nat.reduceEqDiff] | refine AWp.seq ?_ | refine AWp.reg rfl ?_ | refine AWp.block ?_ | apply AWp.condT; focus simp [*]; done | apply AWp.condF; focus simp [*]; done | refine AWp.regT (by kernel_rfl) (by kernel_rfl) rfl rfl ?_)
          (refine ⟨_, (by simp [*]; rfl), ?_⟩; (try simp only [packA]))
          all_goals (rw [hw] <;> rfl)
      · subst g1
        simp only [true_and, g2, iff_false, not_true, not_false_eq_true, if_true] at hw
        repeat (first | (first | (apply AOpl.step; rfl) | apply ASl.step); focus simp [cvFu, cvIns, cvFld, *, -Option.some.injEq]; rfl | (first | (apply AOpl.stepG; rfl) | apply ASl.stepG); (focus simp [cvFu, cvIns, cvFld, *]; done); focus simp [cvFu, cvIns, cvFld, *, -Option.some.injEq]; rfl | (first | (apply AOpl.pass; rfl) | apply ASl.pass); (focus simp [cvFu, cvIns, cvFld, *]; done) | (first | refine AOpl.nil ?_ | refine AWp.skip ?_ | refine AWp.exit ?_ | refine AWp.ret ?_ | refine ASl.nil ?_); try simp only [Then, InBlock, reduceIte, Nat.reduceEqDiff] | refine AWp.seq ?_ | refine AWp.reg rfl ?_ | refine AWp.block ?_ | apply AWp.condT; focus simp [cvFu, cvIns, cvFld, *]; done | apply AWp.condF; focus simp [cvFu, cvIns, cvFld, *]; done | refine AWp.regT (by kernel_rfl) (by kernel_rfl) rfl rfl ?_)
        (refine ⟨_, (by simp [*]; rfl), ?_⟩; (try simp only [packA]))
        all_goals (rw [hw] <;> rfl)
    · by_cases g2 : fr = []
      · subst g2
        simp only [true_and, g1, iff_true, not_true, not_false_eq_true, if_true] at hw
        repeat (first | (first | (apply AOpl.step; rfl) | apply ASl.step); focus simp [cvFu, cvIns, cvFld, *, -Option.some.injEq]; rfl | (first | (apply AOpl.stepG; rfl) | apply ASl.stepG); (focus simp [cvFu, cvIns, cvFld, *]; done); focus simp [cvFu, cvIns, cvFld, *, -Option.some.injEq]; rfl | (first | (apply AOpl.pass; rfl) | apply ASl.pass); (focus simp [cvFu, cvIns, cvFld, *]; done) | (first | refine AOpl.nil ?_ | refine AWp.skip ?_ | refine AWp.exit ?_ | refine AWp.ret ?_ | refine ASl.nil ?_); try simp only [Then, InBlock, reduceIte, Nat.reduceEqDiff] | refine AWp.seq ?_ | refine AWp.reg rfl ?_ | refine AWp.block ?_ | apply AWp.condT; focus simp [cvFu, cvIns, cvFld, *]; done | apply AWp.condF; focus simp [cvFu, cvIns, cvFld, *]; done | refine AWp.regT (by kernel_rfl) (by kernel_rfl) rfl rfl ?_)
        (refine ⟨_, (by simp [*]; rfl), ?_⟩; (try simp only [packA]))
        all_goals (rw [hw] <;> rfl)
      · simp only [true_and, g1, g2, iff_self, not_true, if_false] at hw
        repeat (first | (first | (apply AOpl.step; rfl) | apply ASl.step); focus simp [cvFu, cvIns, cvFld, *, -Option.some.injEq]; rfl | (first | (apply AOpl.stepG; rfl) | apply ASl.stepG); (focus simp [cvFu, cvIns, cvFld, *]; done); focus simp [cvFu, cvIns, cvFld, *, -Option.some.injEq]; rfl | (first | (apply AOpl.pass; rfl) | apply ASl.pass); (focus simp [cvFu, cvIns, cvFld, *]; done) | (first | refine AOpl.nil ?_ | refine AWp.skip ?_ | refine AWp.exit ?_ | refine AWp.ret ?_ | refine ASl.nil ?_); try simp only [Then, InBlock, reduceIte, Nat.reduceEqDiff] | refine AWp.seq ?_ | refine AWp.reg rfl ?_ | refine AWp.block ?_ | apply AWp.condT; focus simp [cvFu, cvIns, cvFld, *]; done | apply AWp.condF; focus simp [cvFu, cvIns, cvFld, *]; done | refine AWp.regT (by kernel_rfl) (by kernel_rfl) rfl rfl ?_)
        (first | (first | (apply AOpl.callN; rfl) | apply ASl.call); (focus simp [cvFu, cvIns, *, -Option.some.injEq]; rfl); kernel_rfl | (first | (apply AOpl.callNG; rfl) | apply ASl.callg); (focus simp [cvFu, cvIns, *]; done); (focus simp [cvFu, cvIns, *, -Option.some.injEq]; rfl); kernel_rfl)
        · exact hA
        intro nx2 hn2
        cases h1 : intsB cds ⟨fc, fn, fs, fp, fv, fr, fk⟩ ⟨13, dst, a, b, n, cls, name, args, goto, ctch⟩
        · simp only [h1, if_true] at hw
          repeat (first | (first | (apply AOpl.step; rfl) | apply ASl.step); focus simp [*, -Option.some.injEq]; rfl | (first | (apply AOpl.stepG; rfl) | apply ASl.stepG); (focus simp [*]; done); focus simp [*, -Option.some.injEq]; rfl | (first | (apply AOpl.pass; rfl) | apply ASl.pass); (focus simp [*]; done) | (first | refine AOpl.nil ?_ | refine AWp.skip ?_ | refine AWp.exit ?_ | refine AWp.ret ?_ | refine ASl.nil ?_); try simp only [Then, InBlock, reduceIte, Nat.reduceEqDiff] | refine AWp.seq ?_ | refine AWp.reg rfl ?_ | refine AWp.block ?_ | apply AWp.condT; focus simp [*]; done | apply AWp.condF; focus simp [*]; done | refine AWp.regT (by kernel_rfl) (by kernel_rfl) rfl rfl ?_)
          (refine ⟨_, (by simp [*]; rfl), ?_⟩; (try simp only [packA]))
          all_goals (rw [hw] <;> rfl)
        · simp only [h1, Bool.true_eq_false, if_false] at hw
          repeat (first | (first | (apply AOpl.step; rfl) | apply ASl.step); focus simp [*, -Option.some.injEq]; rfl | (first | (apply AOpl.stepG; rfl) | apply ASl.stepG); (focus simp [*]; done); focus simp [*, -Option.some.injEq]; rfl | (first | (apply AOpl.pass; rfl) | apply ASl.pass); (focus simp [*]; done) | (first | refine AOpl.nil ?_ | refine AWp.skip ?_ | refine AWp.exit ?_ | refine AWp.ret ?_ | refine ASl.nil ?_); try simp only [Then, InBlock, reduceIte, Nat.reduceEqDiff] | refine AWp.seq ?_ | refine AWp.reg rfl ?_ | refine AWp.block ?_ | apply AWp.condT; focus simp [*]; done | apply AWp.condF; focus simp [*]; done | refine AWp.regT (by kernel_rfl) (by kernel_rfl) rfl rfl ?_)
          (refine ⟨_, (by simp [*]; rfl), ?_⟩; (try simp only [packA]))
          all_goals (rw [hw] <;> rfl)
  · simp only [o13, false_and, if_false] at hw
    repeat (first | (first | (apply AOpl.step; rfl) | apply ASl.step); focus simp [cvFu, cvIns, cvFld, *, -Option.some.injEq]; rfl | (first | (apply AOpl.stepG; rfl) | apply ASl.stepG); (focus simp [cvFu, cvIns, cvFld, *]; done); focus simp [cvFu, cvIns, cvFld, *, -Option.some.injEq]; rfl | (first | (apply AOpl.pass; rfl) | apply ASl.pass); (focus simp [cvFu, cvIns, cvFld, *]; done) | (first | refine AOpl.nil ?_ | refine AWp.skip ?_ | refine AWp.exit ?_ | refine AWp.ret ?_ | refine ASl.nil ?_); try simp only [Then, InBlock, reduceIte, Nat.reduceEqDiff] | refine AWp.seq ?_ | refine AWp.reg rfl ?_ | refine AWp.block ?_ | apply AWp.condT; focus simp [cvFu, cvIns, cvFld, *]; done | apply AWp.condF; focus simp [cvFu, cvIns, cvFld, *]; done | refine AWp.regT (by kernel_rfl) (by kernel_rfl) rfl rfl ?_)
    (first | (first | (apply AOpl.callN; rfl) | apply ASl.call); (focus simp [*, -Option.some.injEq]; rfl); kernel_rfl | (first | (apply AOpl.callNG; rfl) | apply ASl.callg); (focus simp [*]; done); (focus simp [*, -Option.some.injEq]; rfl); kernel_rfl)
    · exact hA
    intro nx2 hn2
    cases h1 : intsB cds f x
    · simp only [h1, if_true] at hw
      repeat (first | (first | (apply AOpl.step; rfl) | apply ASl.step); focus simp [*, -Option.some.injEq]; rfl | (first | (apply AOpl.stepG; rfl) | apply ASl.stepG); (focus simp [*]; done); focus simp [*, -Option.some.injEq]; rfl | (first | (apply AOpl.pass; rfl) | apply ASl.pass); (focus simp [*]; done) | (first | refine AOpl.nil ?_ | refine AWp.skip ?_ | refine AWp.exit ?_ | refine AWp.ret ?_ | refine ASl.nil ?_); try simp only [Then, InBlock, reduceIte, Nat.reduceEqDiff] | refine AWp.seq ?_ | refine AWp.reg rfl ?_ | refine AWp.block ?_ | apply AWp.condT; focus simp [*]; done | apply AWp.condF; focus simp [*]; done | refine AWp.regT (by kernel_rfl) (by kernel_rfl) rfl rfl ?_)
      (refine ⟨_, (by simp [*]; rfl), ?_⟩; (try simp only [packA]))
      all_goals (rw [hw] <;> rfl)
    · simp only [h1, Bool.true_eq_false, if_false] at hw
      repeat (first | (first | (apply AOpl.step; rfl) | apply ASl.step); focus simp [*, -Option.some.injEq]; rfl | (first | (apply AOpl.stepG; rfl) | apply ASl.stepG); (focus simp [*]; done); focus simp [*, -Option.some.injEq]; rfl | (first | (apply AOpl.pass; rfl) | apply ASl.pass); (focus simp [*]; done) | (first | refine AOpl.nil ?_ | refine AWp.skip ?_ | refine AWp.exit ?_ | refine AWp.ret ?_ | refine ASl.nil ?_); try simp only [Then, InBlock, reduceIte, Nat.reduceEqDiff] | refine AWp.seq ?_ | refine AWp.reg rfl ?_ | refine AWp.block ?_ | apply AWp.condT; focus simp [*]; done | apply AWp.condF; focus simp [*]; done | refine AWp.regT (by kernel_rfl) (by kernel_rfl) rfl rfl ?_)
      (refine ⟨_, (by simp [*]; rfl), ?_⟩; (try simp only [packA]))
      all_goals (rw [hw] <;> rfl)
end Go.Proofs.YtdjllogimomgmaaGreatDoor
namespace Go.Proofs.YtdjllogimomgmaaGreatDoor
open Ax Tx Go.RowKit
attribute [local simp] stepS Ax.stepT Dl.on qstep astep estep rd putE over argE ofV ofS loadA pickCells isAggD faddA fieldA partA iaddA idxA sliA bnd binA intA strA unA convA bltA lenA mapOf lookA findK keyD scalD storeA mupA appA srcA srcD upd drp Dl.hp Dl.nx CV.cs CV.one buildA placesA fillA zrep tasA ifaceD eqA eqFs eqIs range2 copyA nbeq nble nblt decEq beqI bneI beqS bneS isED Int.ofNat_inj List.getElem?_map List.getElem?_eq_getElem Option.map_some ti_int ti_bool ti_str ti_i64 ti_Strs ti_Hi ti_Cds ti_Cd ti_Flds ti_Fld ti_Sgs ti_Sg ti_Ins ti_Inss ti_Ints ti_Fu gd gdB callA resA op1
def badN (x : Ins) : Bool := decide (x.op = 4) && (decide (x.n < 1) || decide (5 < x.n))
def instrI (cds : List Cd) (f : Fu) (i : Nat) (x : Ins) : Int :=
  if opIn x.op = false then 12 else if badN x = true then 12 else if unusedB x = false then 1 else if rangesB f x = false then 4 else if leavesB f i x = true then 1 else typesI cds f x
structure FuB1 (f : Fu) : Prop where
  vl : f.vars.length ≤ 1000
  cl : f.code.length ≤ 1000
  al : ∀ x ∈ f.code, x.args.length ≤ 1000
set_option maxRecDepth 10000 in
set_option maxHeartbeats 16000000 in
theorem instr_ok (cds : List Cd) (hB : HiB cds) (f : Fu) (hf : FuB1 f) (i : Nat) (hi : i < f.code.length) :
    FCall Tryz.prog cxG 135 [.agg [.lst (cds.map cvCd)], .agg (cvFu f), .int .i64 i] fun r => r = .ret (.int .i64 (instrI cds f i f.code[i])) := by
  have hl := hf.al _ (List.getElem_mem hi)
  obtain ⟨w, hw⟩ : ∃ w, w = instrI cds f i f.code[i] := ⟨_, rfl⟩
  rw [← hw]
  have hlv : (ho : opIn f.code[i].op = true) → rangesB f f.code[i] = true → FCall Tryz.prog cxG 167 [.agg (cvFu f), .int .i64 i] fun r => r = .ret (.bool (leavesB f i f.code[i])) := fun ho hr => leaves_ok f i hi hf.cl ho (fun hg => ranges_goto hr hg)
  obtain ⟨x, hx⟩ : ∃ x, f.code[i] = x := ⟨_, rfl⟩
  rw [hx] at hw hl hlv
  unfold instrI at hw
  have e2 : ∀ nx : Nat, ¬ nx = nx + 1 + 1 := fun nx => by omega
  refine FCall.ofBody Tryz.func135 rfl rfl fun nx => ?_
  repeat (first | (first | (apply AOpl.step; rfl) | apply ASl.step); focus simp [cvFu, cvIns, *, -Option.some.injEq]; rfl | (first | (apply AOpl.stepG; rfl) | apply ASl.stepG); (focus simp [cvFu, cvIns, *]; done); focus simp [cvFu, cvIns, *, -Option.some.injEq]; rfl | (first | (apply AOpl.pass; rfl) | apply ASl.pass); (focus simp [cvFu, cvIns, *]; done) | (first | refine AOpl.nil ?_ | refine AWp.skip ?_ | refine AWp.exit ?_ | refine AWp.ret ?_ | refine ASl.nil ?_); try simp only [Then, InBlock, reduceIte, Nat.reduceEqDiff] | refine AWp.seq ?_ | refine AWp.reg rfl ?_ | refine AWp.block ?_ | apply AWp.condT; focus simp [cvFu, cvIns, *]; done | apply AWp.condF; focus simp [cvFu, cvIns, *]; done | refine AWp.regT (by kernel_rfl) (by kernel_rfl) rfl rfl ?_)
  (first | (first | (apply AOpl.callN; rfl) | apply ASl.call); (focus simp [*, -Option.some.injEq]; rfl); kernel_rfl | (first | (apply AOpl.callNG; rfl) | apply ASl.callg); (focus simp [*]; done); (focus simp [*, -Option.some.injEq]; rfl); kernel_rfl)
  · exact name_ok x.op
  intro nx2 hn2
  have q1 : ∀ k, ¬ nx = nx2 + k := fun k => by omega
  have q2 : ∀ k, ¬ nx + 1 = nx2 + k := fun k => by omega
  cases ho : opIn x.op
  · have hnm : nameB x.op = [] := nameB_empty.mpr ho
    simp only [ho, if_true] at hw
    repeat (first | (first | (apply AOpl.step; rfl) | apply ASl.step); focus simp [*, -Option.some.injEq]; rfl | (first | (apply AOpl.stepG; rfl) | apply ASl.stepG); (focus simp [*]; done); focus simp [*, -Option.some.injEq]; rfl | (first | (apply AOpl.pass; rfl) | apply ASl.pass); (focus simp [*]; done) | (first | refine AOpl.nil ?_ | refine AWp.skip ?_ | refine AWp.exit ?_ | refine AWp.ret ?_ | refine ASl.nil ?_); try simp only [Then, InBlock, reduceIte, Nat.reduceEqDiff] | refine AWp.seq ?_ | refine AWp.reg rfl ?_ | refine AWp.block ?_ | apply AWp.condT; focus simp [*]; done | apply AWp.condF; focus simp [*]; done | refine AWp.regT (by kernel_rfl) (by kernel_rfl) rfl rfl ?_)
    (refine ⟨_, (by simp [*]; rfl), ?_⟩; (try simp only [packA]))
    all_goals (rw [hw] <;> rfl)
  have hnm : ¬ nameB x.op = [] := fun h => by rw [nameB_empty.mp h] at ho; cases ho
  simp only [ho, Bool.true_eq_false, if_false] at hw
  repeat (first | (first | (apply AOpl.step; rfl) | apply ASl.step); focus simp [*, -Option.some.injEq]; rfl | (first | (apply AOpl.stepG; rfl) | apply ASl.stepG); (focus simp [*]; done); focus simp [*, -Option.some.injEq]; rfl | (first | (apply AOpl.pass; rfl) | apply ASl.pass); (focus simp [*]; done) | (first | refine AOpl.nil ?_ | refine AWp.skip ?_ | refine AWp.exit ?_ | refine AWp.ret ?_ | refine ASl.nil ?_); try simp only [Then, InBlock, reduceIte, Nat.reduceEqDiff] | refine AWp.seq ?_ | refine AWp.reg rfl ?_ | refine AWp.block ?_ | apply AWp.condT; focus simp [*]; done | apply AWp.condF; focus simp [*]; done | refine AWp.regT (by kernel_rfl) (by kernel_rfl) rfl rfl ?_ | (first | (apply AOpl.pickOrZ; rfl) | (apply AOpl.pickAndZ; rfl)); (focus (simp [*, -Ax.CV.bool.injEq]; rfl)); (focus (intro hq; (try simp only [Bool.not_eq_true', Bool.not_eq_false', decide_eq_true_eq, decide_eq_false_iff_not, Bool.and_eq_true, Bool.or_eq_false_iff] at hq); simp [*, -Ax.CV.bool.injEq]; rfl)); intro z hz | (first | (apply AOpl.pickOrGZ; rfl) | (apply AOpl.pickAndGZ; rfl)); (focus simp [*]; done); (focus (simp [*, -Ax.CV.bool.injEq]; rfl)); (focus (intro hq; (try simp only [Bool.not_eq_true', Bool.not_eq_false', decide_eq_true_eq, decide_eq_false_iff_not, Bool.and_eq_true, Bool.or_eq_false_iff] at hq); simp [*, -Ax.CV.bool.injEq]; rfl)); intro z hz | (first | (apply AOpl.pickOrCZ; rfl) | (apply AOpl.pickAndCZ; rfl)); (focus (simp [*, -Ax.CV.bool.injEq, -Option.some.injEq]; rfl)); (focus (intro hq; (try simp only [Bool.not_eq_true', Bool.not_eq_false', decide_eq_true_eq, decide_eq_false_iff_not, Bool.and_eq_true, Bool.or_eq_false_iff] at hq); simp [*, -Ax.CV.bool.injEq]; rfl)); (focus (intro hp hq; (try simp only [Bool.not_eq_true', Bool.not_eq_false', decide_eq_true_eq, decide_eq_false_iff_not, Bool.and_eq_true, Bool.or_eq_false_iff] at hp hq); simp [*, -Ax.CV.bool.injEq]; rfl)); intro z hz | (apply AOpl.passC; rfl); focus simp [*, -Ax.CV.bool.injEq]; done | (apply AOpl.lookC; rfl); (focus (simp [*, -Ax.CV.bool.injEq, -Option.some.injEq]; rfl)); focus intro _; simp [*, -Option.some.injEq]; rfl)
  (((apply AWp.cond'); (focus (simp [*, -Ax.CV.bool.injEq]; rfl))) <;> (intro hb) <;> (try simp only [decide_eq_true_eq, decide_eq_false_iff_not, Bool.not_eq_true', Bool.not_eq_false', Bool.not_eq_true, Bool.not_eq_false] at hb))
  · have hE : badN x = true := by unfold badN; clear hw; subst_vars; first | assumption | (simp_all; done)
    simp only [hE, if_true] at hw
    repeat (first | (first | (apply AOpl.step; rfl) | apply ASl.step); focus simp [*, -Option.some.injEq]; rfl | (first | (apply AOpl.stepG; rfl) | apply ASl.stepG); (focus simp [*]; done); focus simp [*, -Option.some.injEq]; rfl | (first | (apply AOpl.pass; rfl) | apply ASl.pass); (focus simp [*]; done) | (first | refine AOpl.nil ?_ | refine AWp.skip ?_ | refine AWp.exit ?_ | refine AWp.ret ?_ | refine ASl.nil ?_); try simp only [Then, InBlock, reduceIte, Nat.reduceEqDiff] | refine AWp.seq ?_ | refine AWp.reg rfl ?_ | refine AWp.block ?_ | apply AWp.condT; focus simp [*]; done | apply AWp.condF; focus simp [*]; done | refine AWp.regT (by kernel_rfl) (by kernel_rfl) rfl rfl ?_)
    (refine ⟨_, (by simp [*]; rfl), ?_⟩; (try simp only [packA]))
    all_goals (rw [hw] <;> rfl)
  have hE : badN x = false := by unfold badN; clear hw; subst_vars; first | assumption | (simp_all; done)
  simp only [hE, Bool.false_eq_true, if_false] at hw
  clear hb hE
  repeat (first | (first | (apply AOpl.step; rfl) | apply ASl.step); focus simp [*, -Option.some.injEq]; rfl | (first | (apply AOpl.stepG; rfl) | apply ASl.stepG); (focus simp [*]; done); focus simp [*, -Option.some.injEq]; rfl | (first | (apply AOpl.pass; rfl) | apply ASl.pass); (focus simp [*]; done) | (first | refine AOpl.nil ?_ | refine AWp.skip ?_ | refine AWp.exit ?_ | refine AWp.ret ?_ | refine ASl.nil ?_); try simp only [Then, InBlock, reduceIte, Nat.reduceEqDiff] | refine AWp.seq ?_ | refine AWp.reg rfl ?_ | refine AWp.block ?_ | apply AWp.condT; focus simp [*]; done | apply AWp.condF; focus simp [*]; done | refine AWp.regT (by kernel_rfl) (by kernel_rfl) rfl rfl ?_)
  (first | (first | (apply AOpl.callN; rfl) | apply ASl.call); (focus simp [cvIns, *, -Option.some.injEq]; rfl); kernel_rfl | (first | (apply AOpl.callNG; rfl) | apply ASl.callg); (focus simp [cvIns, *]; done); (focus simp [cvIns, *, -Option.some.injEq]; rfl); kernel_rfl)
  · exact unused_ok x ho
  intro nx3 hn3
  cases h1 : unusedB x
  · simp only [h1, if_true] at hw
    repeat (first | (first | (apply AOpl.step; rfl) | apply ASl.step); focus simp [*, -Option.some.injEq]; rfl | (first | (apply AOpl.stepG; rfl) | apply ASl.stepG); (focus simp [*]; done); focus simp [*, -Option.some.injEq]; rfl | (first | (apply AOpl.pass; rfl) | apply ASl.pass); (focus simp [*]; done) | (first | refine AOpl.nil ?_ | refine AWp.skip ?_ | refine AWp.exit ?_ | refine AWp.ret ?_ | refine ASl.nil ?_); try simp only [Then, InBlock, reduceIte, Nat.reduceEqDiff] | refine AWp.seq ?_ | refine AWp.reg rfl ?_ | refine AWp.block ?_ | apply AWp.condT; focus simp [*]; done | apply AWp.condF; focus simp [*]; done | refine AWp.regT (by kernel_rfl) (by kernel_rfl) rfl rfl ?_)
    (refine ⟨_, (by simp [*]; rfl), ?_⟩; (try simp only [packA]))
    all_goals (rw [hw] <;> rfl)
  simp only [h1, Bool.true_eq_false, if_false] at hw
  repeat (first | (first | (apply AOpl.step; rfl) | apply ASl.step); focus simp [*, -Option.some.injEq]; rfl | (first | (apply AOpl.stepG; rfl) | apply ASl.stepG); (focus simp [*]; done); focus simp [*, -Option.some.injEq]; rfl | (first | (apply AOpl.pass; rfl) | apply ASl.pass); (focus simp [*]; done) | (first | refine AOpl.nil ?_ | refine AWp.skip ?_ | refine AWp.exit ?_ | refine AWp.ret ?_ | refine ASl.nil ?_); try simp only [Then, InBlock, reduceIte, Nat.reduceEqDiff] | refine AWp.seq ?_ | refine AWp.reg rfl ?_ | refine AWp.block ?_ | apply AWp.condT; focus simp [*]; done | apply AWp.condF; focus simp [*]; done | refine AWp.regT (by kernel_rfl) (by kernel_rfl) rfl rfl ?_)
  (first | (first | (apply AOpl.callN; rfl) | apply ASl.call); (focus simp [cvIns, cvFu, *, -Option.some.injEq]; rfl); kernel_rfl | (first | (apply AOpl.callNG; rfl) | apply ASl.callg); (focus simp [cvIns, cvFu, *]; done); (focus simp [cvIns, cvFu, *, -Option.some.injEq]; rfl); kernel_rfl)
  · exact ranges_ok f x ho hl hf.vl hf.cl
  intro nx4 hn4
  cases h2 : rangesB f x
  · simp only [h2, if_true] at hw
    repeat (first | (first | (apply AOpl.step; rfl) | apply ASl.step); focus simp [*, -Option.some.injEq]; rfl | (first | (apply AOpl.stepG; rfl) | apply ASl.stepG); (focus simp [*]; done); focus simp [*, -Option.some.injEq]; rfl | (first | (apply AOpl.pass; rfl) | apply ASl.pass); (focus simp [*]; done) | (first | refine AOpl.nil ?_ | refine AWp.skip ?_ | refine AWp.exit ?_ | refine AWp.ret ?_ | refine ASl.nil ?_); try simp only [Then, InBlock, reduceIte, Nat.reduceEqDiff] | refine AWp.seq ?_ | refine AWp.reg rfl ?_ | refine AWp.block ?_ | apply AWp.condT; focus simp [*]; done | apply AWp.condF; focus simp [*]; done | refine AWp.regT (by kernel_rfl) (by kernel_rfl) rfl rfl ?_)
    (refine ⟨_, (by simp [*]; rfl), ?_⟩; (try simp only [packA]))
    all_goals (rw [hw] <;> rfl)
  simp only [h2, Bool.true_eq_false, if_false] at hw
  have hL := hlv ho h2
  repeat (first | (first | (apply AOpl.step; rfl) | apply ASl.step); focus simp [*, -Option.some.injEq]; rfl | (first | (apply AOpl.stepG; rfl) | apply ASl.stepG); (focus simp [*]; done); focus simp [*, -Option.some.injEq]; rfl | (first | (apply AOpl.pass; rfl) | apply ASl.pass); (focus simp [*]; done) | (first | refine AOpl.nil ?_ | refine AWp.skip ?_ | refine AWp.exit ?_ | refine AWp.ret ?_ | refine ASl.nil ?_); try simp only [Then, InBlock, reduceIte, Nat.reduceEqDiff] | refine AWp.seq ?_ | refine AWp.reg rfl ?_ | refine AWp.block ?_ | apply AWp.condT; focus simp [*]; done | apply AWp.condF; focus simp [*]; done | refine AWp.regT (by kernel_rfl) (by kernel_rfl) rfl rfl ?_)
  (first | (first | (apply AOpl.callN; rfl) | apply ASl.call); (focus simp [cvIns, cvFu, *, -Option.some.injEq]; rfl); kernel_rfl | (first | (apply AOpl.callNG; rfl) | apply ASl.callg); (focus simp [cvIns, cvFu, *]; done); (focus simp [cvIns, cvFu, *, -Option.some.injEq]; rfl); kernel_rfl)
  · exact hL
  intro nx5 hn5
  cases h3 : leavesB f i x
  case true =>
    simp only [h3, if_true] at hw
    repeat (first | (first | (apply AOpl.step; rfl) | apply ASl.step); focus simp [*, -Option.some.injEq]; rfl | (first | (apply AOpl.stepG; rfl) | apply ASl.stepG); (focus simp [*]; done); focus simp [*, -Option.some.injEq]; rfl | (first | (apply AOpl.pass; rfl) | apply ASl.pass); (focus simp [*]; done) | (first | refine AOpl.nil ?_ | refine AWp.skip ?_ | refine AWp.exit ?_ | refine AWp.ret ?_ | refine ASl.nil ?_); try simp only [Then, InBlock, reduceIte, Nat.reduceEqDiff] | refine AWp.seq ?_ | refine AWp.reg rfl ?_ | refine AWp.block ?_ | apply AWp.condT; focus simp [*]; done | apply AWp.condF; focus simp [*]; done | refine AWp.regT (by kernel_rfl) (by kernel_rfl) rfl rfl ?_)
    (refine ⟨_, (by simp [*]; rfl), ?_⟩; (try simp only [packA]))
    all_goals (rw [hw] <;> rfl)
  simp only [h3, Bool.false_eq_true, if_false] at hw
  repeat (first | (first | (apply AOpl.step; rfl) | apply ASl.step); focus simp [*, -Option.some.injEq]; rfl | (first | (apply AOpl.stepG; rfl) | apply ASl.stepG); (focus simp [*]; done); focus simp [*, -Option.some.injEq]; rfl | (first | (apply AOpl.pass; rfl) | apply ASl.pass); (focus simp [*]; done) | (first | refine AOpl.nil ?_ | refine AWp.skip ?_ | refine AWp.exit ?_ | refine AWp.ret ?_ | refine ASl.nil ?_); try simp only [Then, InBlock, reduceIte, Nat.reduceEqDiff] | refine AWp.seq ?_ | refine AWp.reg rfl ?_ | refine AWp.block ?_ | apply AWp.condT; focus simp [*]; done | apply AWp.condF; focus simp [*]; done | refine AWp.regT (by kernel_rfl) (by kernel_rfl) rfl rfl ?_)
  (first | (first | (apply AOpl.callN; rfl) | apply ASl.call); (focus simp [cvIns, cvFu, *, -Option.some.injEq]; rfl); kernel_rfl | (first | (apply AOpl.callNG; rfl) | apply ASl.callg); (focus simp [cvIns, cvFu, *]; done); (focus simp [cvIns, cvFu, *, -Option.some.injEq]; rfl); kernel_rfl)
  · exact typesI_ok cds hB f x ho hl h2
  intro nx6 hn6
  repeat (first | (first | (apply AOpl.step; rfl) | apply ASl.step); focus simp [*, -Option.some.injEq]; rfl | (first | (apply AOpl.stepG; rfl) | apply ASl.stepG); (focus simp [*]; done); focus simp [*, -Option.some.injEq]; rfl | (first | (apply AOpl.pass; rfl) | apply ASl.pass); (focus simp [*]; done) | (first | refine AOpl.nil ?_ | refine AWp.skip ?_ | refine AWp.exit ?_ | refine AWp.ret ?_ | refine ASl.nil ?_); try simp only [Then, InBlock, reduceIte, Nat.reduceEqDiff] | refine AWp.seq ?_ | refine AWp.reg rfl ?_ | refine AWp.block ?_ | apply AWp.condT; focus simp [*]; done | apply AWp.condF; focus simp [*]; done | refine AWp.regT (by kernel_rfl) (by kernel_rfl) rfl rfl ?_)
  (refine ⟨_, (by simp [*]; rfl), ?_⟩; (try simp only [packA]))
  all_goals (rw [hw] <;> rfl)
end Go.Proofs.YtdjllogimomgmaaGreatDoor
