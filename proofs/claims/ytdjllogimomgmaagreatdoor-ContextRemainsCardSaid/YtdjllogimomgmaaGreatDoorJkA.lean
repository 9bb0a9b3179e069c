/-
  Signatures, types and overriding, as the reference looks at them; walked.
-/
import Derived.Test.YtdjllogimomgmaaGreatDoorJcD
set_option linter.unusedSimpArgs false
set_option linter.unusedVariables false
namespace Go.Proofs.YtdjllogimomgmaaGreatDoor
open Ax Tx Go.RowKit
attribute [local simp] stepS Ax.stepT Dl.on qstep astep estep rd putE over argE ofV ofS loadA pickCells isAggD faddA fieldA partA iaddA idxA sliA bnd binA intA strA unA convA bltA lenA mapOf lookA findK keyD scalD storeA mupA appA srcA srcD upd drp Dl.hp Dl.nx CV.cs CV.one buildA placesA fillA zrep tasA ifaceD eqA eqFs eqIs range2 copyA nbeq nble nblt decEq beqI bneI beqS bneS isED Int.ofNat_inj List.getElem?_map List.getElem?_eq_getElem Option.map_some ti_int ti_bool ti_str ti_i64 ti_Strs ti_Hi ti_Cds ti_Cd ti_Flds ti_Fld ti_Sgs ti_Sg gd gdB callA resA op1
structure HiB (cds : List Cd) : Prop where
  len : cds.length ≤ 1000
  fl : ∀ c ∈ cds, c.fields.length ≤ 1000
  ml : ∀ c ∈ cds, c.methods.length ≤ 1000
  pl : ∀ c ∈ cds, ∀ m ∈ c.methods, m.params.length ≤ 1000
theorem puL_Sg (x : Sg) : puL (cvSg x) = true := by simp [cvSg, puL, puV, puR_mapR (fun a : Bs => (rfl : puL (cvB a) = true))]
theorem puL_Fld (x : Fld) : puL (cvFld x) = true := rfl
theorem puL_Cd (x : Cd) : puL (cvCd x) = true := by simp [cvCd, puL, puV, puR_mapR puL_Fld, puR_mapR puL_Sg]
def sameSigB (a b : Sg) : Bool := decide (a.params = b.params) && decide (a.result = b.result)
set_option maxRecDepth 10000 in
set_option maxHeartbeats 4000000 in
theorem sameSig_ok (a b : Sg) (ha : a.params.length ≤ 1000) : FCall Tryz.prog cxG 227 [.agg (cvSg a), .agg (cvSg b)] fun r => r = .ret (.bool (sameSigB a b)) := by
  refine FCall.ofBody Tryz.func227 rfl rfl fun nx => ?_
  by_cases h1 : a.params.length = b.params.length
  case neg =>
    have hne : ¬ a.params = b.params := fun e => h1 (by rw [e])
    repeat (first | (first | (apply AOpl.step; rfl) | apply ASl.step); focus simp [cvSg, *, -Option.some.injEq]; rfl | (first | (apply AOpl.stepG; rfl) | apply ASl.stepG); (focus simp [cvSg, *]; done); focus simp [cvSg, *, -Option.some.injEq]; rfl | (first | (apply AOpl.pass; rfl) | apply ASl.pass); (focus simp [cvSg, *]; done) | (first | refine AOpl.nil ?_ | refine AWp.skip ?_ | refine AWp.exit ?_ | refine AWp.ret ?_ | refine ASl.nil ?_); try simp only [Then, InBlock, reduceIte, Nat.reduceEqDiff] | refine AWp.seq ?_ | refine AWp.reg rfl ?_ | refine AWp.block ?_ | apply AWp.condT; focus simp [cvSg, *]; done | apply AWp.condF; focus simp [cvSg, *]; done | refine AWp.regT (by kernel_rfl) (by kernel_rfl) rfl rfl ?_)
    (refine ⟨_, (by simp [*]; rfl), ?_⟩; (try simp only [packA]))
    simp [sameSigB, hne]
  by_cases h2 : a.result = b.result
  case neg =>
    repeat (first | (first | (apply AOpl.step; rfl) | apply ASl.step); focus simp [cvSg, *, -Option.some.injEq]; rfl | (first | (apply AOpl.stepG; rfl) | apply ASl.stepG); (focus simp [cvSg, *]; done); focus simp [cvSg, *, -Option.some.injEq]; rfl | (first | (apply AOpl.pass; rfl) | apply ASl.pass); (focus simp [cvSg, *]; done) | (first | refine AOpl.nil ?_ | refine AWp.skip ?_ | refine AWp.exit ?_ | refine AWp.ret ?_ | refine ASl.nil ?_); try simp only [Then, InBlock, reduceIte, Nat.reduceEqDiff] | refine AWp.seq ?_ | refine AWp.reg rfl ?_ | refine AWp.block ?_ | apply AWp.condT; focus simp [cvSg, *]; done | apply AWp.condF; focus simp [cvSg, *]; done | refine AWp.regT (by kernel_rfl) (by kernel_rfl) rfl rfl ?_)
    (refine ⟨_, (by simp [*]; rfl), ?_⟩; (try simp only [packA]))
    simp [sameSigB, h2]
  · repeat (first | (first | (apply AOpl.step; rfl) | apply ASl.step); focus simp [cvSg, *, -Option.some.injEq]; rfl | (first | (apply AOpl.stepG; rfl) | apply ASl.stepG); (focus simp [cvSg, *]; done); focus simp [cvSg, *, -Option.some.injEq]; rfl | (first | (apply AOpl.pass; rfl) | apply ASl.pass); (focus simp [cvSg, *]; done) | (first | refine AOpl.nil ?_ | refine AWp.skip ?_ | refine AWp.exit ?_ | refine AWp.ret ?_ | refine ASl.nil ?_); try simp only [Then, InBlock, reduceIte, Nat.reduceEqDiff] | refine AWp.seq ?_ | refine AWp.reg rfl ?_ | refine AWp.block ?_ | apply AWp.condT; focus simp [cvSg, *]; done | apply AWp.condF; focus simp [cvSg, *]; done | refine AWp.regT (by kernel_rfl) (by kernel_rfl) rfl rfl ?_)
    refine AWp.countO a.params.length [4, 5] 6 (fun i e H _ => e 5 = .int .i64 i ∧ H nx = some (.cells (cvSg a)) ∧ H (nx + 1) = some (.cells (cvSg b)) ∧ a.params.take i = b.params.take i) ⟨(by first | (simp (disch := omega) [putE, over, ofV, ofS, *]; done) | (simp (disch := omega) [putE, over, ofV, ofS, *]; rfl)), by simp [upd, cvSg, h2], by simp [upd, cvSg], rfl⟩ ?_
    rintro i v H nx1 hi hn1 ⟨h5, hA, hB, ht⟩
    simp only [cvSg] at hA hB
    repeat (first | (first | (apply AOpl.step; rfl) | apply ASl.step); focus simp [*, -Option.some.injEq]; rfl | (first | (apply AOpl.stepG; rfl) | apply ASl.stepG); (focus simp [*]; done); focus simp [*, -Option.some.injEq]; rfl | (first | (apply AOpl.pass; rfl) | apply ASl.pass); (focus simp [*]; done) | (first | refine AOpl.nil ?_ | refine AWp.skip ?_ | refine AWp.exit ?_ | refine AWp.ret ?_ | refine ASl.nil ?_); try simp only [Then, InBlock, reduceIte, Nat.reduceEqDiff] | refine AWp.seq ?_ | refine AWp.reg rfl ?_ | refine AWp.block ?_ | apply AWp.condT; focus simp [*]; done | apply AWp.condF; focus simp [*]; done | refine AWp.regT (by kernel_rfl) (by kernel_rfl) rfl rfl ?_)
    (((apply AWp.cond'); (focus (simp [*, -Ax.CV.bool.injEq]; rfl))) <;> (intro hb) <;> (try simp only [decide_eq_true_eq, decide_eq_false_iff_not, Bool.not_eq_true', Bool.not_eq_false', Bool.not_eq_true, Bool.not_eq_false] at hb))
    ·
      have hlt : i < a.params.length := by omega
      have hlt' : i < b.params.length := by omega
      repeat (first | (first | (apply AOpl.step; rfl) | apply ASl.step); focus simp [cvB, *, -Option.some.injEq]; rfl | (first | (apply AOpl.stepG; rfl) | apply ASl.stepG); (focus simp [cvB, *]; done); focus simp [cvB, *, -Option.some.injEq]; rfl | (first | (apply AOpl.pass; rfl) | apply ASl.pass); (focus simp [cvB, *]; done) | (first | refine AOpl.nil ?_ | refine AWp.skip ?_ | refine AWp.exit ?_ | refine AWp.ret ?_ | refine ASl.nil ?_); try simp only [Then, InBlock, reduceIte, Nat.reduceEqDiff] | refine AWp.seq ?_ | refine AWp.reg rfl ?_ | refine AWp.block ?_ | apply AWp.condT; focus simp [cvB, *]; done | apply AWp.condF; focus simp [cvB, *]; done | refine AWp.regT (by kernel_rfl) (by kernel_rfl) rfl rfl ?_)
      (((apply AWp.cond'); (focus (simp [*, -Ax.CV.bool.injEq]; rfl))) <;> (intro hb) <;> (try simp only [decide_eq_true_eq, decide_eq_false_iff_not, Bool.not_eq_true', Bool.not_eq_false', Bool.not_eq_true, Bool.not_eq_false] at hb))
      ·
        have hne : ¬ a.params = b.params := fun e => hb (by simp only [e])
        repeat (first | (first | (apply AOpl.step; rfl) | apply ASl.step); focus simp [*, -Option.some.injEq]; rfl | (first | (apply AOpl.stepG; rfl) | apply ASl.stepG); (focus simp [*]; done); focus simp [*, -Option.some.injEq]; rfl | (first | (apply AOpl.pass; rfl) | apply ASl.pass); (focus simp [*]; done) | (first | refine AOpl.nil ?_ | refine AWp.skip ?_ | refine AWp.exit ?_ | refine AWp.ret ?_ | refine ASl.nil ?_); try simp only [Then, InBlock, reduceIte, Nat.reduceEqDiff] | refine AWp.seq ?_ | refine AWp.reg rfl ?_ | refine AWp.block ?_ | apply AWp.condT; focus simp [*]; done | apply AWp.condF; focus simp [*]; done | refine AWp.regT (by kernel_rfl) (by kernel_rfl) rfl rfl ?_)
        (refine ⟨_, (by simp [*]; rfl), ?_⟩; (try simp only [packA]))
        simp [sameSigB, hne]
      ·
        have hq : a.params[i] = b.params[i] := hb
        repeat (first | (first | (apply AOpl.step; rfl) | apply ASl.step); focus simp [wrap_up hlt (show a.params.length ≤ maxLen by simp only [maxLen]; omega), *, -Option.some.injEq]; rfl | (first | (apply AOpl.stepG; rfl) | apply ASl.stepG); (focus simp [wrap_up hlt (show a.params.length ≤ maxLen by simp only [maxLen]; omega), *]; done); focus simp [wrap_up hlt (show a.params.length ≤ maxLen by simp only [maxLen]; omega), *, -Option.some.injEq]; rfl | (first | (apply AOpl.pass; rfl) | apply ASl.pass); (focus simp [wrap_up hlt (show a.params.length ≤ maxLen by simp only [maxLen]; omega), *]; done) | (first | refine AOpl.nil ?_ | refine AWp.skip ?_ | refine AWp.exit ?_ | refine AWp.ret ?_ | refine ASl.nil ?_); try simp only [Then, InBlock, reduceIte, Nat.reduceEqDiff] | refine AWp.seq ?_ | refine AWp.reg rfl ?_ | refine AWp.block ?_ | apply AWp.condT; focus simp [wrap_up hlt (show a.params.length ≤ maxLen by simp only [maxLen]; omega), *]; done | apply AWp.condF; focus simp [wrap_up hlt (show a.params.length ≤ maxLen by simp only [maxLen]; omega), *]; done | refine AWp.regT (by kernel_rfl) (by kernel_rfl) rfl rfl ?_)
        exact ⟨by ((repeat (first | exact Keeps.base _ _ _ _ | (with_reducible exact Keeps.refl _ _ _) | (refine Keeps.put rfl ?_) | (refine Keeps.over' rfl rfl ?_)))), hlt, (by first | (simp (disch := omega) [putE, over, ofV, ofS, *]; done) | (simp (disch := omega) [putE, over, ofV, ofS, *]; rfl)), by simp [hA, cvSg], by simp [hB, cvSg], by rw [take_succ_at hlt, take_succ_at hlt', ht, hq]⟩
    ·
      have hi' : i = a.params.length := by simp at hb; omega
      have he : a.params = b.params := by
        rw [hi', List.take_length, h1, List.take_length] at ht; exact ht
      repeat (first | (first | (apply AOpl.step; rfl) | apply ASl.step); focus simp [*, -Option.some.injEq]; rfl | (first | (apply AOpl.stepG; rfl) | apply ASl.stepG); (focus simp [*]; done); focus simp [*, -Option.some.injEq]; rfl | (first | (apply AOpl.pass; rfl) | apply ASl.pass); (focus simp [*]; done) | (first | refine AOpl.nil ?_ | refine AWp.skip ?_ | refine AWp.exit ?_ | refine AWp.ret ?_ | refine ASl.nil ?_); try simp only [Then, InBlock, reduceIte, Nat.reduceEqDiff] | refine AWp.seq ?_ | refine AWp.reg rfl ?_ | refine AWp.block ?_ | apply AWp.condT; focus simp [*]; done | apply AWp.condF; focus simp [*]; done | refine AWp.regT (by kernel_rfl) (by kernel_rfl) rfl rfl ?_)
      (refine ⟨_, (by simp [*]; rfl), ?_⟩; (try simp only [packA]))
      simp [sameSigB, he, h2]
theorem sameSig_one (a b : Sg) (ha : a.params.length ≤ 1000) : FCall1 Tryz.prog cxG 227 [.agg (cvSg a), .agg (cvSg b)] (.bool (sameSigB a b)) := (sameSig_ok a b ha).one cxG_pu (by simp [puL, puV, puL_Sg]) rfl
theorem type_one (cds : List Cd) (hl : cds.length ≤ 1000) (s : Bs) : FCall1 Tryz.prog cxG 164 [.agg [.lst (cds.map cvCd)], .str s] (.bool (typeB cds s)) := (type_ok cds hl s).one cxG_pu (pu_cds cds s) rfl
def typesE (cds : List Cd) (s : Sg) : Int := if s.params.any (fun p => !typeB cds p) = true then 8 else if s.result ≠ [] ∧ typeB cds s.result = false then 8 else 0
set_option maxRecDepth 10000 in
set_option maxHeartbeats 4000000 in
theorem types_ok (cds : List Cd) (hl : cds.length ≤ 1000) (s : Sg) (hs : s.params.length ≤ 1000) : FCall Tryz.prog cxG 207 [.agg [.lst (cds.map cvCd)], .agg (cvSg s)] fun r => r = .ret (.int .i64 (typesE cds s)) := by
  refine FCall.ofBody Tryz.func207 rfl rfl fun nx => ?_
  repeat (first | (first | (apply AOpl.step; rfl) | apply ASl.step); focus simp [*, -Option.some.injEq]; rfl | (first | (apply AOpl.stepG; rfl) | apply ASl.stepG); (focus simp [*]; done); focus simp [*, -Option.some.injEq]; rfl | (first | (apply AOpl.pass; rfl) | apply ASl.pass); (focus simp [*]; done) | (first | refine AOpl.nil ?_ | refine AWp.skip ?_ | refine AWp.exit ?_ | refine AWp.ret ?_ | refine ASl.nil ?_); try simp only [Then, InBlock, reduceIte, Nat.reduceEqDiff] | refine AWp.seq ?_ | refine AWp.reg rfl ?_ | refine AWp.block ?_ | apply AWp.condT; focus simp [*]; done | apply AWp.condF; focus simp [*]; done | refine AWp.regT (by kernel_rfl) (by kernel_rfl) rfl rfl ?_)
  refine AWp.countO s.params.length [4, 5] 6 (fun i e H _ => e 5 = .int .i64 i ∧ H nx = some (.cells [.lst (cds.map cvCd)]) ∧ H (nx + 1) = some (.cells (cvSg s)) ∧ (s.params.drop i).any (fun p => !typeB cds p) = s.params.any (fun p => !typeB cds p)) ⟨(by first | (simp (disch := omega) [putE, over, ofV, ofS, *]; done) | (simp (disch := omega) [putE, over, ofV, ofS, *]; rfl)), by simp [upd], by simp [upd], rfl⟩ ?_
  rintro i v H nx1 hi hn1 ⟨h5, hA, hB, ht⟩
  simp only [cvSg] at hB
  repeat (first | (first | (apply AOpl.step; rfl) | apply ASl.step); focus simp [*, -Option.some.injEq]; rfl | (first | (apply AOpl.stepG; rfl) | apply ASl.stepG); (focus simp [*]; done); focus simp [*, -Option.some.injEq]; rfl | (first | (apply AOpl.pass; rfl) | apply ASl.pass); (focus simp [*]; done) | (first | refine AOpl.nil ?_ | refine AWp.skip ?_ | refine AWp.exit ?_ | refine AWp.ret ?_ | refine ASl.nil ?_); try simp only [Then, InBlock, reduceIte, Nat.reduceEqDiff] | refine AWp.seq ?_ | refine AWp.reg rfl ?_ | refine AWp.block ?_ | apply AWp.condT; focus simp [*]; done | apply AWp.condF; focus simp [*]; done | refine AWp.regT (by kernel_rfl) (by kernel_rfl) rfl rfl ?_)
  (((apply AWp.cond'); (focus (simp [*, -Ax.CV.bool.injEq]; rfl))) <;> (intro hb) <;> (try simp only [decide_eq_true_eq, decide_eq_false_iff_not, Bool.not_eq_true', Bool.not_eq_false', Bool.not_eq_true, Bool.not_eq_false] at hb))
  ·
    have hlt : i < s.params.length := by simpa using hb
    rw [dropAt hlt, List.any_cons] at ht
    repeat (first | (first | (apply AOpl.step; rfl) | apply ASl.step); focus simp [cvB, *, -Option.some.injEq]; rfl | (first | (apply AOpl.stepG; rfl) | apply ASl.stepG); (focus simp [cvB, *]; done); focus simp [cvB, *, -Option.some.injEq]; rfl | (first | (apply AOpl.pass; rfl) | apply ASl.pass); (focus simp [cvB, *]; done) | (first | refine AOpl.nil ?_ | refine AWp.skip ?_ | refine AWp.exit ?_ | refine AWp.ret ?_ | refine ASl.nil ?_); try simp only [Then, InBlock, reduceIte, Nat.reduceEqDiff] | refine AWp.seq ?_ | refine AWp.reg rfl ?_ | refine AWp.block ?_ | apply AWp.condT; focus simp [cvB, *]; done | apply AWp.condF; focus simp [cvB, *]; done | refine AWp.regT (by kernel_rfl) (by kernel_rfl) rfl rfl ?_)
    (first | (first | (apply AOpl.callN; rfl) | apply ASl.call); (focus simp [*, -Option.some.injEq]; rfl); kernel_rfl | (first | (apply AOpl.callNG; rfl) | apply ASl.callg); (focus simp [*]; done); (focus simp [*, -Option.some.injEq]; rfl); kernel_rfl)
    · exact type_one cds hl _
    repeat (first | (first | (apply AOpl.step; rfl) | apply ASl.step); focus simp [*, -Option.some.injEq]; rfl | (first | (apply AOpl.stepG; rfl) | apply ASl.stepG); (focus simp [*]; done); focus simp [*, -Option.some.injEq]; rfl | (first | (apply AOpl.pass; rfl) | apply ASl.pass); (focus simp [*]; done) | (first | refine AOpl.nil ?_ | refine AWp.skip ?_ | refine AWp.exit ?_ | refine AWp.ret ?_ | refine ASl.nil ?_); try simp only [Then, InBlock, reduceIte, Nat.reduceEqDiff] | refine AWp.seq ?_ | refine AWp.reg rfl ?_ | refine AWp.block ?_ | apply AWp.condT; focus simp [*]; done | apply AWp.condF; focus simp [*]; done | refine AWp.regT (by kernel_rfl) (by kernel_rfl) rfl rfl ?_)
    (((apply AWp.cond'); (focus (simp [*, -Ax.CV.bool.injEq]; rfl))) <;> (intro hb) <;> (try simp only [decide_eq_true_eq, decide_eq_false_iff_not, Bool.not_eq_true', Bool.not_eq_false', Bool.not_eq_true, Bool.not_eq_false] at hb))
    ·
      have ht' : s.params.any (fun p => !typeB cds p) = true := by rw [← ht, hb]; rfl
      repeat (first | (first | (apply AOpl.step; rfl) | apply ASl.step); focus simp [*, -Option.some.injEq]; rfl | (first | (apply AOpl.stepG; rfl) | apply ASl.stepG); (focus simp [*]; done); focus simp [*, -Option.some.injEq]; rfl | (first | (apply AOpl.pass; rfl) | apply ASl.pass); (focus simp [*]; done) | (first | refine AOpl.nil ?_ | refine AWp.skip ?_ | refine AWp.exit ?_ | refine AWp.ret ?_ | refine ASl.nil ?_); try simp only [Then, InBlock, reduceIte, Nat.reduceEqDiff] | refine AWp.seq ?_ | refine AWp.reg rfl ?_ | refine AWp.block ?_ | apply AWp.condT; focus simp [*]; done | apply AWp.condF; focus simp [*]; done | refine AWp.regT (by kernel_rfl) (by kernel_rfl) rfl rfl ?_)
      (refine ⟨_, (by simp [*]; rfl), ?_⟩; (try simp only [packA]))
      simp only [typesE, ht', if_true]
    ·
      simp only [hb, Bool.not_true, Bool.false_or] at ht
      repeat (first | (first | (apply AOpl.step; rfl) | apply ASl.step); focus simp [wrap_up hlt (show s.params.length ≤ maxLen by simp only [maxLen]; omega), *, -Option.some.injEq]; rfl | (first | (apply AOpl.stepG; rfl) | apply ASl.stepG); (focus simp [wrap_up hlt (show s.params.length ≤ maxLen by simp only [maxLen]; omega), *]; done); focus simp [wrap_up hlt (show s.params.length ≤ maxLen by simp only [maxLen]; omega), *, -Option.some.injEq]; rfl | (first | (apply AOpl.pass; rfl) | apply ASl.pass); (focus simp [wrap_up hlt (show s.params.length ≤ maxLen by simp only [maxLen]; omega), *]; done) | (first | refine AOpl.nil ?_ | refine AWp.skip ?_ | refine AWp.exit ?_ | refine AWp.ret ?_ | refine ASl.nil ?_); try simp only [Then, InBlock, reduceIte, Nat.reduceEqDiff] | refine AWp.seq ?_ | refine AWp.reg rfl ?_ | refine AWp.block ?_ | apply AWp.condT; focus simp [wrap_up hlt (show s.params.length ≤ maxLen by simp only [maxLen]; omega), *]; done | apply AWp.condF; focus simp [wrap_up hlt (show s.params.length ≤ maxLen by simp only [maxLen]; omega), *]; done | refine AWp.regT (by kernel_rfl) (by kernel_rfl) rfl rfl ?_)
      exact ⟨by ((repeat (first | exact Keeps.base _ _ _ _ | (with_reducible exact Keeps.refl _ _ _) | (refine Keeps.put rfl ?_) | (refine Keeps.over' rfl rfl ?_)))), hlt, (by first | (simp (disch := omega) [putE, over, ofV, ofS, *]; done) | (simp (disch := omega) [putE, over, ofV, ofS, *]; rfl)), hA, by simp [hB, cvSg], ht⟩
  ·
    rw [dropEnd hi (by simpa using hb)] at ht
    have ht' : s.params.any (fun p => !typeB cds p) = false := ht.symm
    by_cases h1 : s.result = []
    · repeat (first | (first | (apply AOpl.step; rfl) | apply ASl.step); focus simp [*, -Option.some.injEq]; rfl | (first | (apply AOpl.stepG; rfl) | apply ASl.stepG); (focus simp [*]; done); focus simp [*, -Option.some.injEq]; rfl | (first | (apply AOpl.pass; rfl) | apply ASl.pass); (focus simp [*]; done) | (first | refine AOpl.nil ?_ | refine AWp.skip ?_ | refine AWp.exit ?_ | refine AWp.ret ?_ | refine ASl.nil ?_); try simp only [Then, InBlock, reduceIte, Nat.reduceEqDiff] | refine AWp.seq ?_ | refine AWp.reg rfl ?_ | refine AWp.block ?_ | apply AWp.condT; focus simp [*]; done | apply AWp.condF; focus simp [*]; done | refine AWp.regT (by kernel_rfl) (by kernel_rfl) rfl rfl ?_)

      (refine ⟨_, (by simp [*]; rfl), ?_⟩; (try simp only [packA]))
      simp [typesE, ht', h1]
    · repeat (first | (first | (apply AOpl.step; rfl) | apply ASl.step); focus simp [*, -Option.some.injEq]; rfl | (first | (apply AOpl.stepG; rfl) | apply ASl.stepG); (focus simp [*]; done); focus simp [*, -Option.some.injEq]; rfl | (first | (apply AOpl.pass; rfl) | apply ASl.pass); (focus simp [*]; done) | (first | refine AOpl.nil ?_ | refine AWp.skip ?_ | refine AWp.exit ?_ | refine AWp.ret ?_ | refine ASl.nil ?_); try simp only [Then, InBlock, reduceIte, Nat.reduceEqDiff] | refine AWp.seq ?_ | refine AWp.reg rfl ?_ | refine AWp.block ?_ | apply AWp.condT; focus simp [*]; done | apply AWp.condF; focus simp [*]; done | refine AWp.regT (by kernel_rfl) (by kernel_rfl) rfl rfl ?_)
      (first | (first | (apply AOpl.callN; rfl) | apply ASl.call); (focus simp [*, -Option.some.injEq]; rfl); kernel_rfl | (first | (apply AOpl.callNG; rfl) | apply ASl.callg); (focus simp [*]; done); (focus simp [*, -Option.some.injEq]; rfl); kernel_rfl)
      · exact type_ok cds hl _
      intro nx2 hn2
      cases h2 : typeB cds s.result
      · repeat (first | (first | (apply AOpl.step; rfl) | apply ASl.step); focus simp [*, -Option.some.injEq]; rfl | (first | (apply AOpl.stepG; rfl) | apply ASl.stepG); (focus simp [*]; done); focus simp [*, -Option.some.injEq]; rfl | (first | (apply AOpl.pass; rfl) | apply ASl.pass); (focus simp [*]; done) | (first | refine AOpl.nil ?_ | refine AWp.skip ?_ | refine AWp.exit ?_ | refine AWp.ret ?_ | refine ASl.nil ?_); try simp only [Then, InBlock, reduceIte, Nat.reduceEqDiff] | refine AWp.seq ?_ | refine AWp.reg rfl ?_ | refine AWp.block ?_ | apply AWp.condT; focus simp [*]; done | apply AWp.condF; focus simp [*]; done | refine AWp.regT (by kernel_rfl) (by kernel_rfl) rfl rfl ?_)
        (refine ⟨_, (by simp [*]; rfl), ?_⟩; (try simp only [packA]))
        simp [typesE, ht', h1, h2]
      · repeat (first | (first | (apply AOpl.step; rfl) | apply ASl.step); focus simp [*, -Option.some.injEq]; rfl | (first | (apply AOpl.stepG; rfl) | apply ASl.stepG); (focus simp [*]; done); focus simp [*, -Option.some.injEq]; rfl | (first | (apply AOpl.pass; rfl) | apply ASl.pass); (focus simp [*]; done) | (first | refine AOpl.nil ?_ | refine AWp.skip ?_ | refine AWp.exit ?_ | refine AWp.ret ?_ | refine ASl.nil ?_); try simp only [Then, InBlock, reduceIte, Nat.reduceEqDiff] | refine AWp.seq ?_ | refine AWp.reg rfl ?_ | refine AWp.block ?_ | apply AWp.condT; focus simp [*]; done | apply AWp.condF; focus simp [*]; done | refine AWp.regT (by kernel_rfl) (by kernel_rfl) rfl rfl ?_)
        (refine ⟨_, (by simp [*]; rfl), ?_⟩; (try simp only [packA]))
        simp [typesE, ht', h1, h2]
end Go.Proofs.YtdjllogimomgmaaGreatDoor
namespace Go.Proofs.YtdjllogimomgmaaGreatDoor
open Ax Tx Go.RowKit
attribute [local simp] stepS Ax.stepT Dl.on qstep astep estep rd putE over argE ofV ofS loadA pickCells isAggD faddA fieldA partA iaddA idxA sliA bnd binA intA strA unA convA bltA lenA mapOf lookA findK keyD scalD storeA mupA appA srcA srcD upd drp Dl.hp Dl.nx CV.cs CV.one buildA placesA fillA zrep tasA ifaceD eqA eqFs eqIs range2 copyA nbeq nble nblt decEq beqI bneI beqS bneS isED Int.ofNat_inj List.getElem?_map List.getElem?_eq_getElem Option.map_some ti_int ti_bool ti_str ti_i64 ti_Strs ti_Hi ti_Cds ti_Cd ti_Flds ti_Fld ti_Sgs ti_Sg gd gdB callA resA op1
theorem FCall.nil_lst {P : Program} {G : Nat → CV} {f : FuncId} {args : List CV} (h : FCall P G f args fun r => r = .ret .nils) : FCall P G f args fun r => r = .ret (.lst []) := fun H nx M w vs g r v =>
  (h H nx M w vs g r v).mono (by
    rintro e w' ⟨M', x, H', n', a1, a2, a3, a4, rfl⟩
    cases e <;> simp only [EndR] at a1
    exact ⟨M', .ret (.lst []), H', n', RV.nil_lst a1, a2, a3, a4, rfl⟩)
theorem up2_ok (cds : List Cd) (hl : cds.length ≤ 1000) (s : Bs) : FCall Tryz.prog cxG 226 [.agg [.lst (cds.map cvCd)], .str s] fun r => r = .ret (.lst ((supC cds s).tail.map cvB)) := by
  have h := up_ok cds hl s
  cases hc : supC cds s with
  | nil => simp only [upV, hc] at h; exact FCall.nil_lst h
  | cons a l => simp only [upV, hc] at h; exact h
def overM (s m : Sg) : Bool := decide (m.name = s.name) && (m.static || s.static || !sameSigB m s)
def overC (cds : List Cd) (s : Sg) (c : Bs) : Bool := match clsOf cds c with
  | none => false
  | some d => d.methods.any (overM s)
def overB (cds : List Cd) (cls : Bs) (s : Sg) : Bool := (supC cds cls).tail.any (overC cds s)
set_option maxRecDepth 10000 in
set_option maxHeartbeats 8000000 in
theorem over_ok (cds : List Cd) (hB : HiB cds) (cls : Bs) (s : Sg) : FCall Tryz.prog cxG 208 [.agg [.lst (cds.map cvCd)], .str cls, .agg (cvSg s)] fun r => r = .ret (.bool (overB cds cls s)) := by
  have hl := hB.len
  have hlm : cds.length ≤ maxLen := by simp only [maxLen]; omega
  have hsl := supC_len hl cls
  refine FCall.ofBody Tryz.func208 rfl rfl fun nx => ?_
  obtain ⟨L, hL⟩ : ∃ L, (supC cds cls).tail = L := ⟨_, rfl⟩
  have hLl : L.length ≤ 1001 := by rw [← hL, List.length_tail]; omega
  have hup := up2_ok cds hl cls
  rw [hL] at hup
  have hg : overB cds cls s = L.any (overC cds s) := by rw [← hL]; rfl
  rw [hg]
  repeat (first | (first | (apply AOpl.step; rfl) | apply ASl.step); focus simp [*, -Option.some.injEq]; rfl | (first | (apply AOpl.stepG; rfl) | apply ASl.stepG); (focus simp [*]; done); focus simp [*, -Option.some.injEq]; rfl | (first | (apply AOpl.pass; rfl) | apply ASl.pass); (focus simp [*]; done) | (first | refine AOpl.nil ?_ | refine AWp.skip ?_ | refine AWp.exit ?_ | refine AWp.ret ?_ | refine ASl.nil ?_); try simp only [Then, InBlock, reduceIte, Nat.reduceEqDiff] | refine AWp.seq ?_ | refine AWp.reg rfl ?_ | refine AWp.block ?_ | apply AWp.condT; focus simp [*]; done | apply AWp.condF; focus simp [*]; done | refine AWp.regT (by kernel_rfl) (by kernel_rfl) rfl rfl ?_)
  (first | (first | (apply AOpl.callN; rfl) | apply ASl.call); (focus simp [*, -Option.some.injEq]; rfl); kernel_rfl | (first | (apply AOpl.callNG; rfl) | apply ASl.callg); (focus simp [*]; done); (focus simp [*, -Option.some.injEq]; rfl); kernel_rfl)
  · exact hup
  intro nx0 hn0
  repeat (first | (first | (apply AOpl.step; rfl) | apply ASl.step); focus simp [*, -Option.some.injEq]; rfl | (first | (apply AOpl.stepG; rfl) | apply ASl.stepG); (focus simp [*]; done); focus simp [*, -Option.some.injEq]; rfl | (first | (apply AOpl.pass; rfl) | apply ASl.pass); (focus simp [*]; done) | (first | refine AOpl.nil ?_ | refine AWp.skip ?_ | refine AWp.exit ?_ | refine AWp.ret ?_ | refine ASl.nil ?_); try simp only [Then, InBlock, reduceIte, Nat.reduceEqDiff] | refine AWp.seq ?_ | refine AWp.reg rfl ?_ | refine AWp.block ?_ | apply AWp.condT; focus simp [*]; done | apply AWp.condF; focus simp [*]; done | refine AWp.regT (by kernel_rfl) (by kernel_rfl) rfl rfl ?_)
  refine AWp.countO L.length [6, 8, 9, 10] 11 (fun i e H _ => e 8 = .int .i64 i ∧ H nx = some (.cells [.lst (cds.map cvCd)]) ∧ H (nx + 1) = some (.cells (cvSg s)) ∧ (L.drop i).any (overC cds s) = L.any (overC cds s)) ⟨(by first | (simp (disch := omega) [putE, over, ofV, ofS, *]; done) | (simp (disch := omega) [putE, over, ofV, ofS, *]; rfl)), by simp [upd], by simp [upd], rfl⟩ ?_
  rintro i v H nx1 hi hn1 ⟨h8, hA, hS, ht⟩
  have q1 : ∀ k, ¬ nx = nx1 + k := fun k => by omega
  have q2 : ∀ k, ¬ nx + 1 = nx1 + k := fun k => by omega
  repeat (first | (first | (apply AOpl.step; rfl) | apply ASl.step); focus simp [*, -Option.some.injEq]; rfl | (first | (apply AOpl.stepG; rfl) | apply ASl.stepG); (focus simp [*]; done); focus simp [*, -Option.some.injEq]; rfl | (first | (apply AOpl.pass; rfl) | apply ASl.pass); (focus simp [*]; done) | (first | refine AOpl.nil ?_ | refine AWp.skip ?_ | refine AWp.exit ?_ | refine AWp.ret ?_ | refine ASl.nil ?_); try simp only [Then, InBlock, reduceIte, Nat.reduceEqDiff] | refine AWp.seq ?_ | refine AWp.reg rfl ?_ | refine AWp.block ?_ | apply AWp.condT; focus simp [*]; done | apply AWp.condF; focus simp [*]; done | refine AWp.regT (by kernel_rfl) (by kernel_rfl) rfl rfl ?_)
  (((apply AWp.cond'); (focus (simp [*, -Ax.CV.bool.injEq]; rfl))) <;> (intro hb) <;> (try simp only [decide_eq_true_eq, decide_eq_false_iff_not, Bool.not_eq_true', Bool.not_eq_false', Bool.not_eq_true, Bool.not_eq_false] at hb))
  ·
    have hlt : i < L.length := by simpa using hb
    have hmem : L[i] ∈ (supC cds cls).tail := by rw [hL]; exact List.getElem_mem hlt
    obtain ⟨k, hk⟩ := supC_found (cds := cds) (s := cls) (List.mem_of_mem_tail hmem)
    clear hmem
    obtain ⟨hkl, -⟩ := findN_some hk
    have hv : findI cds L[i] = (k : Int) := by simp only [findI, hk]
    have hml := hB.ml _ (List.getElem_mem hkl)
    have hpl := hB.pl _ (List.getElem_mem hkl)
    rw [dropAt hlt, List.any_cons] at ht
    simp only [overC, clsOf_at hk hkl] at ht
    repeat (first | (first | (apply AOpl.step; rfl) | apply ASl.step); focus simp [*, -Option.some.injEq]; rfl | (first | (apply AOpl.stepG; rfl) | apply ASl.stepG); (focus simp [*]; done); focus simp [*, -Option.some.injEq]; rfl | (first | (apply AOpl.pass; rfl) | apply ASl.pass); (focus simp [*]; done) | (first | refine AOpl.nil ?_ | refine AWp.skip ?_ | refine AWp.exit ?_ | refine AWp.ret ?_ | refine ASl.nil ?_); try simp only [Then, InBlock, reduceIte, Nat.reduceEqDiff] | refine AWp.seq ?_ | refine AWp.reg rfl ?_ | refine AWp.block ?_ | apply AWp.condT; focus simp [*]; done | apply AWp.condF; focus simp [*]; done | refine AWp.regT (by kernel_rfl) (by kernel_rfl) rfl rfl ?_)
    (first | (first | (apply AOpl.callN; rfl) | apply ASl.call); (focus simp [*, -Option.some.injEq]; rfl); kernel_rfl | (first | (apply AOpl.callNG; rfl) | apply ASl.callg); (focus simp [*]; done); (focus simp [*, -Option.some.injEq]; rfl); kernel_rfl)
    · exact find_one cds hlm _
    repeat (first | (first | (apply AOpl.step; rfl) | apply ASl.step); focus simp [cvCd, *, -Option.some.injEq]; rfl | (first | (apply AOpl.stepG; rfl) | apply ASl.stepG); (focus simp [cvCd, *]; done); focus simp [cvCd, *, -Option.some.injEq]; rfl | (first | (apply AOpl.pass; rfl) | apply ASl.pass); (focus simp [cvCd, *]; done) | (first | refine AOpl.nil ?_ | refine AWp.skip ?_ | refine AWp.exit ?_ | refine AWp.ret ?_ | refine ASl.nil ?_); try simp only [Then, InBlock, reduceIte, Nat.reduceEqDiff] | refine AWp.seq ?_ | refine AWp.reg rfl ?_ | refine AWp.block ?_ | apply AWp.condT; focus simp [cvCd, *]; done | apply AWp.condF; focus simp [cvCd, *]; done | refine AWp.regT (by kernel_rfl) (by kernel_rfl) rfl rfl ?_)
    refine AWp.countO cds[k].methods.length [6, 10] 11 (fun j e H _ => e 10 = .int .i64 j ∧ H nx = some (.cells [.lst (cds.map cvCd)]) ∧ H (nx + 1) = some (.cells (cvSg s)) ∧ H (nx1 + 10) = some (.cells (cvCd cds[k])) ∧ (cds[k].methods.drop j).any (overM s) = cds[k].methods.any (overM s)) ⟨(by first | (simp (disch := omega) [putE, over, ofV, ofS, *]; done) | (simp (disch := omega) [putE, over, ofV, ofS, *]; rfl)), by simp [upd, q1, hA], by simp [upd, q1, hS], by simp [upd, cvCd], rfl⟩ ?_
    rintro j v2 H2 nx2 hj hn2 ⟨h12, hH2, hS2, hC, hw2⟩
    simp only [cvCd] at hC
    simp only [cvSg] at hS2
    repeat (first | (first | (apply AOpl.step; rfl) | apply ASl.step); focus simp [*, -Option.some.injEq]; rfl | (first | (apply AOpl.stepG; rfl) | apply ASl.stepG); (focus simp [*]; done); focus simp [*, -Option.some.injEq]; rfl | (first | (apply AOpl.pass; rfl) | apply ASl.pass); (focus simp [*]; done) | (first | refine AOpl.nil ?_ | refine AWp.skip ?_ | refine AWp.exit ?_ | refine AWp.ret ?_ | refine ASl.nil ?_); try simp only [Then, InBlock, reduceIte, Nat.reduceEqDiff] | refine AWp.seq ?_ | refine AWp.reg rfl ?_ | refine AWp.block ?_ | apply AWp.condT; focus simp [*]; done | apply AWp.condF; focus simp [*]; done | refine AWp.regT (by kernel_rfl) (by kernel_rfl) rfl rfl ?_)
    (((apply AWp.cond'); (focus (simp [*, -Ax.CV.bool.injEq]; rfl))) <;> (intro hb) <;> (try simp only [decide_eq_true_eq, decide_eq_false_iff_not, Bool.not_eq_true', Bool.not_eq_false', Bool.not_eq_true, Bool.not_eq_false] at hb))
    ·
      have hlj : j < cds[k].methods.length := by simpa using hb
      rw [dropAt hlj, List.any_cons] at hw2
      have hpj := hpl _ (List.getElem_mem hlj)
      have yes : overM s cds[k].methods[j] = true → L.any (overC cds s) = true := by
        intro h; rw [h, Bool.true_or] at hw2; rw [← ht, ← hw2]; rfl
      have no : overM s cds[k].methods[j] = false → (cds[k].methods.drop (j + 1)).any (overM s) = cds[k].methods.any (overM s) := by
        intro h; rw [h, Bool.false_or] at hw2; exact hw2
      clear hw2 ht
      have hwj := wrap_up hlj (show cds[k].methods.length ≤ maxLen by simp only [maxLen]; omega)
      generalize hm : cds[k].methods[j] = m at *
      by_cases hn : m.name = s.name
      case neg =>
        have hF : overM s m = false := by simp [overM, hn]
        have hno := no hF
        clear yes no
        repeat (first | (first | (apply AOpl.step; rfl) | apply ASl.step); focus simp [cvSg, *, -Option.some.injEq]; rfl | (first | (apply AOpl.stepG; rfl) | apply ASl.stepG); (focus simp [cvSg, *]; done); focus simp [cvSg, *, -Option.some.injEq]; rfl | (first | (apply AOpl.pass; rfl) | apply ASl.pass); (focus simp [cvSg, *]; done) | (first | refine AOpl.nil ?_ | refine AWp.skip ?_ | refine AWp.exit ?_ | refine AWp.ret ?_ | refine ASl.nil ?_); try simp only [Then, InBlock, reduceIte, Nat.reduceEqDiff] | refine AWp.seq ?_ | refine AWp.reg rfl ?_ | refine AWp.block ?_ | apply AWp.condT; focus simp [cvSg, *]; done | apply AWp.condF; focus simp [cvSg, *]; done | refine AWp.regT (by kernel_rfl) (by kernel_rfl) rfl rfl ?_)
        exact ⟨by ((repeat (first | exact Keeps.base _ _ _ _ | (with_reducible exact Keeps.refl _ _ _) | (refine Keeps.put rfl ?_) | (refine Keeps.over' rfl rfl ?_)))), hlj, (by first | (simp (disch := omega) [putE, over, ofV, ofS, *]; done) | (simp (disch := omega) [putE, over, ofV, ofS, *]; rfl)), hH2, by simp [hS2, cvSg], by simp [hC, cvCd], hno⟩
      cases hs1 : m.static
      case true =>
        have hy := yes (by simp [overM, hn, hs1])
        clear yes no
        repeat (first | (first | (apply AOpl.step; rfl) | apply ASl.step); focus simp [cvSg, *, -Option.some.injEq]; rfl | (first | (apply AOpl.stepG; rfl) | apply ASl.stepG); (focus simp [cvSg, *]; done); focus simp [cvSg, *, -Option.some.injEq]; rfl | (first | (apply AOpl.pass; rfl) | apply ASl.pass); (focus simp [cvSg, *]; done) | (first | refine AOpl.nil ?_ | refine AWp.skip ?_ | refine AWp.exit ?_ | refine AWp.ret ?_ | refine ASl.nil ?_); try simp only [Then, InBlock, reduceIte, Nat.reduceEqDiff] | refine AWp.seq ?_ | refine AWp.reg rfl ?_ | refine AWp.block ?_ | apply AWp.condT; focus simp [cvSg, *]; done | apply AWp.condF; focus simp [cvSg, *]; done | refine AWp.regT (by kernel_rfl) (by kernel_rfl) rfl rfl ?_)
        (refine ⟨_, (by simp [*]; rfl), ?_⟩; (try simp only [packA]))
        rw [hy]
      cases hs2 : s.static
      case true =>
        have hy := yes (by simp [overM, hn, hs2])
        clear yes no
        repeat (first | (first | (apply AOpl.step; rfl) | apply ASl.step); focus simp [cvSg, *, -Option.some.injEq]; rfl | (first | (apply AOpl.stepG; rfl) | apply ASl.stepG); (focus simp [cvSg, *]; done); focus simp [cvSg, *, -Option.some.injEq]; rfl | (first | (apply AOpl.pass; rfl) | apply ASl.pass); (focus simp [cvSg, *]; done) | (first | refine AOpl.nil ?_ | refine AWp.skip ?_ | refine AWp.exit ?_ | refine AWp.ret ?_ | refine ASl.nil ?_); try simp only [Then, InBlock, reduceIte, Nat.reduceEqDiff] | refine AWp.seq ?_ | refine AWp.reg rfl ?_ | refine AWp.block ?_ | apply AWp.condT; focus simp [cvSg, *]; done | apply AWp.condF; focus simp [cvSg, *]; done | refine AWp.regT (by kernel_rfl) (by kernel_rfl) rfl rfl ?_)
        (refine ⟨_, (by simp [*]; rfl), ?_⟩; (try simp only [packA]))
        rw [hy]
      cases hs3 : sameSigB m s
      case false =>
        have hy := yes (by simp [overM, hn, hs3])
        clear yes no
        repeat (first | (first | (apply AOpl.step; rfl) | apply ASl.step); focus simp [cvSg, *, -Option.some.injEq]; rfl | (first | (apply AOpl.stepG; rfl) | apply ASl.stepG); (focus simp [cvSg, *]; done); focus simp [cvSg, *, -Option.some.injEq]; rfl | (first | (apply AOpl.pass; rfl) | apply ASl.pass); (focus simp [cvSg, *]; done) | (first | refine AOpl.nil ?_ | refine AWp.skip ?_ | refine AWp.exit ?_ | refine AWp.ret ?_ | refine ASl.nil ?_); try simp only [Then, InBlock, reduceIte, Nat.reduceEqDiff] | refine AWp.seq ?_ | refine AWp.reg rfl ?_ | refine AWp.block ?_ | apply AWp.condT; focus simp [cvSg, *]; done | apply AWp.condF; focus simp [cvSg, *]; done | refine AWp.regT (by kernel_rfl) (by kernel_rfl) rfl rfl ?_)
        (first | (first | (apply AOpl.callN; rfl) | apply ASl.call); (focus simp [cvSg, *, -Option.some.injEq]; rfl); kernel_rfl | (first | (apply AOpl.callNG; rfl) | apply ASl.callg); (focus simp [cvSg, *]; done); (focus simp [cvSg, *, -Option.some.injEq]; rfl); kernel_rfl)
        · have := sameSig_one m s hpj
          rw [hs3] at this
          simp only [cvSg, hs1, hs2, hn] at this
          exact this
        repeat (first | (first | (apply AOpl.step; rfl) | apply ASl.step); focus simp [cvSg, *, -Option.some.injEq]; rfl | (first | (apply AOpl.stepG; rfl) | apply ASl.stepG); (focus simp [cvSg, *]; done); focus simp [cvSg, *, -Option.some.injEq]; rfl | (first | (apply AOpl.pass; rfl) | apply ASl.pass); (focus simp [cvSg, *]; done) | (first | refine AOpl.nil ?_ | refine AWp.skip ?_ | refine AWp.exit ?_ | refine AWp.ret ?_ | refine ASl.nil ?_); try simp only [Then, InBlock, reduceIte, Nat.reduceEqDiff] | refine AWp.seq ?_ | refine AWp.reg rfl ?_ | refine AWp.block ?_ | apply AWp.condT; focus simp [cvSg, *]; done | apply AWp.condF; focus simp [cvSg, *]; done | refine AWp.regT (by kernel_rfl) (by kernel_rfl) rfl rfl ?_)
        (refine ⟨_, (by simp [*]; rfl), ?_⟩; (try simp only [packA]))
        rw [hy]
      case true =>
        have hF : overM s m = false := by simp [overM, hs1, hs2, hs3]
        have hno := no hF
        clear yes no
        repeat (first | (first | (apply AOpl.step; rfl) | apply ASl.step); focus simp [cvSg, *, -Option.some.injEq]; rfl | (first | (apply AOpl.stepG; rfl) | apply ASl.stepG); (focus simp [cvSg, *]; done); focus simp [cvSg, *, -Option.some.injEq]; rfl | (first | (apply AOpl.pass; rfl) | apply ASl.pass); (focus simp [cvSg, *]; done) | (first | refine AOpl.nil ?_ | refine AWp.skip ?_ | refine AWp.exit ?_ | refine AWp.ret ?_ | refine ASl.nil ?_); try simp only [Then, InBlock, reduceIte, Nat.reduceEqDiff] | refine AWp.seq ?_ | refine AWp.reg rfl ?_ | refine AWp.block ?_ | apply AWp.condT; focus simp [cvSg, *]; done | apply AWp.condF; focus simp [cvSg, *]; done | refine AWp.regT (by kernel_rfl) (by kernel_rfl) rfl rfl ?_)
        (first | (first | (apply AOpl.callN; rfl) | apply ASl.call); (focus simp [cvSg, *, -Option.some.injEq]; rfl); kernel_rfl | (first | (apply AOpl.callNG; rfl) | apply ASl.callg); (focus simp [cvSg, *]; done); (focus simp [cvSg, *, -Option.some.injEq]; rfl); kernel_rfl)
        · have := sameSig_one m s hpj
          rw [hs3] at this
          simp only [cvSg, hs1, hs2, hn] at this
          exact this
        repeat (first | (first | (apply AOpl.step; rfl) | apply ASl.step); focus simp [*, -Option.some.injEq]; rfl | (first | (apply AOpl.stepG; rfl) | apply ASl.stepG); (focus simp [*]; done); focus simp [*, -Option.some.injEq]; rfl | (first | (apply AOpl.pass; rfl) | apply ASl.pass); (focus simp [*]; done) | (first | refine AOpl.nil ?_ | refine AWp.skip ?_ | refine AWp.exit ?_ | refine AWp.ret ?_ | refine ASl.nil ?_); try simp only [Then, InBlock, reduceIte, Nat.reduceEqDiff] | refine AWp.seq ?_ | refine AWp.reg rfl ?_ | refine AWp.block ?_ | apply AWp.condT; focus simp [*]; done | apply AWp.condF; focus simp [*]; done | refine AWp.regT (by kernel_rfl) (by kernel_rfl) rfl rfl ?_)
        exact ⟨by ((repeat (first | exact Keeps.base _ _ _ _ | (with_reducible exact Keeps.refl _ _ _) | (refine Keeps.put rfl ?_) | (refine Keeps.over' rfl rfl ?_)))), hlj, (by first | (simp (disch := omega) [putE, over, ofV, ofS, *]; done) | (simp (disch := omega) [putE, over, ofV, ofS, *]; rfl)), hH2, by simp [hS2, cvSg], by simp [hC, cvCd], hno⟩
    ·
      rw [dropEnd hj (by simpa using hb)] at hw2
      rw [← hw2] at ht
      simp only [List.any_nil, Bool.false_or] at ht
      repeat (first | (first | (apply AOpl.step; rfl) | apply ASl.step); focus simp [wrap_up hlt (show L.length ≤ maxLen by simp only [maxLen]; omega), *, -Option.some.injEq]; rfl | (first | (apply AOpl.stepG; rfl) | apply ASl.stepG); (focus simp [wrap_up hlt (show L.length ≤ maxLen by simp only [maxLen]; omega), *]; done); focus simp [wrap_up hlt (show L.length ≤ maxLen by simp only [maxLen]; omega), *, -Option.some.injEq]; rfl | (first | (apply AOpl.pass; rfl) | apply ASl.pass); (focus simp [wrap_up hlt (show L.length ≤ maxLen by simp only [maxLen]; omega), *]; done) | (first | refine AOpl.nil ?_ | refine AWp.skip ?_ | refine AWp.exit ?_ | refine AWp.ret ?_ | refine ASl.nil ?_); try simp only [Then, InBlock, reduceIte, Nat.reduceEqDiff] | refine AWp.seq ?_ | refine AWp.reg rfl ?_ | refine AWp.block ?_ | apply AWp.condT; focus simp [wrap_up hlt (show L.length ≤ maxLen by simp only [maxLen]; omega), *]; done | apply AWp.condF; focus simp [wrap_up hlt (show L.length ≤ maxLen by simp only [maxLen]; omega), *]; done | refine AWp.regT (by kernel_rfl) (by kernel_rfl) rfl rfl ?_)
      exact ⟨by ((repeat (first | exact Keeps.base _ _ _ _ | (with_reducible exact Keeps.refl _ _ _) | (refine Keeps.put rfl ?_) | (refine Keeps.over' rfl rfl ?_)))), hlt, (by first | (simp (disch := omega) [putE, over, ofV, ofS, *]; done) | (simp (disch := omega) [putE, over, ofV, ofS, *]; rfl)), hH2, by simp [hS2, cvSg], ht⟩
  ·
    rw [dropEnd hi (by simpa using hb)] at ht
    repeat (first | (first | (apply AOpl.step; rfl) | apply ASl.step); focus simp [*, -Option.some.injEq]; rfl | (first | (apply AOpl.stepG; rfl) | apply ASl.stepG); (focus simp [*]; done); focus simp [*, -Option.some.injEq]; rfl | (first | (apply AOpl.pass; rfl) | apply ASl.pass); (focus simp [*]; done) | (first | refine AOpl.nil ?_ | refine AWp.skip ?_ | refine AWp.exit ?_ | refine AWp.ret ?_ | refine ASl.nil ?_); try simp only [Then, InBlock, reduceIte, Nat.reduceEqDiff] | refine AWp.seq ?_ | refine AWp.reg rfl ?_ | refine AWp.block ?_ | apply AWp.condT; focus simp [*]; done | apply AWp.condF; focus simp [*]; done | refine AWp.regT (by kernel_rfl) (by kernel_rfl) rfl rfl ?_)
    (refine ⟨_, (by simp [*]; rfl), ?_⟩; (try simp only [packA]))
    (first | (rw [← ht]; done) | (rw [← ht]; rfl))
end Go.Proofs.YtdjllogimomgmaaGreatDoor
