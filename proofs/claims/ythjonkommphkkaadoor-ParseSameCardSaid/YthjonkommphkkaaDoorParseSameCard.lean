/-
  ParseSame: two sources are the same exactly if all their fields are equal: the law returns true for every input; the listed variables are tied to the program's text.
-/
import Derived.Test.YthjonkommphkkaaDoorParseSameLaw
import Derived.Test.YthjonkommphkkaaDoorLaid
import Derived.Test.YthjonkommphkkaaDoorReadAgain
import Derived.Test.YthjonkommphkkaaDoorTie
import Derived.Test.YthjonkommphkkaaDoorCards
import Derived.SevenTiedAt
import Derived.ShutString
namespace Go.Proofs.YthjonkommphkkaaDoor
open Lx Go.RowKit
open Go.ChangeShapes Go.WideShapes Go.ChangeAt
open Go.ChangeMaps (open_string shut_string)
theorem parseSame_own : ownKnob Tryd.prog.godebug = none := by kernel_rfl
theorem parseSame_met (os : Os) (args : Array Value) : laidMetH Tryd.prog Rows.parseSameRow.laid ((World.doorLaid Tryd.prog 72 os).forCall (fun _ _ => 0) ⟨#[], args, []⟩).memory :=
  laidMetH_of_parts3 (fuel := 8) (laidMet_of_run' 8 (by kernel_rfl) (by kernel_rfl)) (by kernel_rfl) (by kernel_rfl)
theorem parseSame_laid {W : World} (h : laidMetH Tryd.prog Rows.parseSameRow.laid W) : Laid W := by
  rw [MakeChecks.laidMetH_plain _ _ _ (by kernel_rfl)] at h
  refine Laid.of_met h ?_ ?_ ?_ ?_ <;> (unfold Rows.parseSameRow; repeat (first | exact List.mem_cons_self | apply List.mem_cons_of_mem))
set_option maxRecDepth 100000 in
theorem parseSame_lifted (os : Os) (started : os.Started) (H : Type) (enc : TypeId × Value → H) :
    ReturnsInHanded {} Tryd.checked os 3 .any (fun w args => (Rows.parseSameSpec.pre enc Tryd.prog Tryd.f3 [] false w args ∧ laidMetH Tryd.prog Rows.parseSameRow.laid w) ∧ sizedMet enc Tryd.prog Tryd.f3 (OpenSpec.ofChange Rows.parseSameSpec) false w args)
      (Rows.parseSameSpec.post enc Tryd.prog Tryd.f3 false true false false) := by
  refine returnsInHanded_of_change_and (C := Tryd.checked) (X := fun w _ => laidMetH Tryd.prog Rows.parseSameRow.laid w) (fun _ _ _ hh h => h.of_heap hh) parseSame_own started (by kernel_rfl) Tryd.func3
    (ChangeSpec.witness_shaped (enc := enc) (C := Tryd.checked) (os := os) (X := fun w _ => laidMetH Tryd.prog Rows.parseSameRow.laid w) false (World.doorLaid Tryd.prog 72 os) #[.agg #[.slice none 0 0], .agg #[.slice none 0 0]] 8 rfl (World.shaped_of_RefB (by kernel_rfl) (by kernel_rfl)) (by kernel_rfl) (by kernel_rfl) (by kernel_rfl) (parseSame_met os _)) ?_
  intro W base args ds gs before hval0 hW _ _ hL _
  have hval : ∀ (j : Nat) t v, Tryd.f3.params[j]? = some t → args[j]? = some v → Value.okWide Tryd.prog W .any base t v := hval0
  have hW' := hW
  obtain ⟨p, q, hA0, hV, rfl, hfz, hnd⟩ := hW
  have hA : DataW.TrodAll enc Tryd.prog W 0 (fun _ => true) true Tryd.f3.params.toList args.toList ds p := hA0
  rw [Tryd.params3] at hA hval
  obtain ⟨v0, v1, d0, d1, p0, p1, rfl, rfl, rfl, h0, h1⟩ := trodAll_two hA
  obtain ⟨a0, n0, c0, l0, k0, rfl, hl0, hz0⟩ := open_so (hval 0 24 v0 rfl rfl) h0
  obtain ⟨a1, n1, c1, l1, k1, rfl, hl1, hz1⟩ := open_so (hval 1 24 v1 rfl rfl) h1
  obtain ⟨rfl, rfl⟩ := trodVars_none hV
  have hLaid := parseSame_laid hL
  clear hA0 hval0
  simp only [List.append_nil] at hW'
  refine (law_ParseSame (k0 + k1) l0 l1 a0 n0 c0 a1 n1 c1 W (hl0.mono fun _ _ _ h => h.le (by omega)) (hl1.mono fun _ _ _ h => h.le (by omega)) hLaid).mono fun e W' ⟨he, hb⟩ => ?_
  subst he
  exact ⟨_, rfl, _, _, _, [], _, [], hW', trodAll_mk1 (shut_bool Tryd.underlying4 _), stays_all hb (by decide) hA, rfl, hb.frame _, fun h => by cases h⟩
theorem parseSame_holds : Rows.ParseSameSaid :=
  OpenClaim.holds_of_wide 3 Tryd.f3 rfl rfl rfl rfl rfl rfl rfl ⟨rfl, rfl, rfl, rfl, rfl⟩ rfl rfl rfl rfl rfl (by kernel_rfl) Tryd.func3 (by kernel_rfl)
    (of_decide_eq_true (by kernel_rfl)) (by unfold Func.isWrapper; first | (rw [if_pos (by decide +kernel)]; kernel_rfl) | (rw [if_neg (by decide +kernel)]; exact ⟨rfl, rfl⟩))
    (fun os started H enc _ => parseSame_lifted os started H enc)
theorem parseSame_card : Rows.ParseSameCardSaid :=
  Claim7.holds_tied_plain_at .later [] [.data, .data, .data, .sentinel, .sentinel, .data, .data] true Rows.parseSameCard.stood.harness true
    parseSame_holds (fun _ h => by cases h) (by kernel_rfl) (fun _ h => by cases h) parseSame_row_tie rfl ⟨rfl, rfl⟩ (by kernel_rfl) rfl
    (fun f fn hf hfn => by
      obtain rfl : f = 3 := Option.some.inj ((show Tryd.prog.funcNamed "dataflow/dataflowlaw08.ParseSame" = some 3 by kernel_rfl).symm.trans hf) |>.symm
      obtain rfl : fn = Tryd.f3 := (Option.some.inj (Tryd.func3.symm.trans hfn)).symm
      exact ⟨by kernel_rfl, fun j t ht => by
        rw [Tryd.params3] at ht
        have hm : t ∈ [24, 24] := by simpa using Array.mem_of_getElem? ht
        have hall : ([24, 24].all fun u => !Tryd.prog.wantsStandIn u) = true := by kernel_rfl
        exact (show Tryd.prog.wantsStandIn t = false by simpa using List.all_eq_true.1 hall t hm)⟩)
    (by kernel_rfl)
#print axioms parseSame_card
end Go.Proofs.YthjonkommphkkaaDoor
