/-
  TypecheckReturns: a body returns exactly as the chapter says, and further statements do not change that: the law returns true for every input; the listed variables are tied to the program's text.
-/
import Derived.Test.YtdjllogimomgmaaDoorTcReturns2
import Derived.Test.YtdjllogimomgmaaDoorTie
import Derived.Test.YtdjllogimomgmaaDoorCards
import Derived.SevenTiedAt
import Derived.ShutString
namespace Go.Proofs.YtdjllogimomgmaaDoor
open Ax Tx Go.RowKit
open Go.ChangeShapes Go.WideShapes Go.ChangeAt
open Go.ChangeMaps (open_string shut_string)
theorem typecheckReturns_own : ownKnob Tryd.prog.godebug = none := by kernel_rfl
theorem typecheckReturns_met (os : Os) (args : Array Value) : laidMetH Tryd.prog Rows.typecheckReturnsRow.laid ((World.doorLaid Tryd.prog 14 os).forCall (fun _ _ => 0) ⟨#[], args, []⟩).memory :=
  laidMetH_of_parts3 (fuel := 8) (laidMet_of_run' 8 (by kernel_rfl) (by kernel_rfl)) (by kernel_rfl) (by kernel_rfl)
theorem typecheckReturns_laid {W : World} (h : laidMetH Tryd.prog Rows.typecheckReturnsRow.laid W) : RG tcG (snap W) := by
  rw [MakeChecks.laidMetH_plain _ _ _ (by kernel_rfl)] at h
  exact tcG_ok h (by unfold Rows.typecheckReturnsRow; repeat (first | exact List.mem_cons_self | apply List.mem_cons_of_mem))
set_option maxRecDepth 100000 in
theorem typecheckReturns_lifted (os : Os) (started : os.Started) (H : Type) (enc : TypeId × Value → H) :
    ReturnsInHanded {} Tryd.checked os 3 .any (fun w args => (Rows.typecheckReturnsSpec.pre enc Tryd.prog Tryd.f3 [] false w args ∧ laidMetH Tryd.prog Rows.typecheckReturnsRow.laid w) ∧ sizedMet enc Tryd.prog Tryd.f3 (OpenSpec.ofChange Rows.typecheckReturnsSpec) false w args)
      (Rows.typecheckReturnsSpec.post enc Tryd.prog Tryd.f3 false true false false) := by
  refine returnsInHanded_of_change_and (C := Tryd.checked) (X := fun w _ => laidMetH Tryd.prog Rows.typecheckReturnsRow.laid w) (fun _ _ _ hh h => h.of_heap hh) typecheckReturns_own started (by kernel_rfl) Tryd.func3
    (ChangeSpec.witness_shaped (enc := enc) (C := Tryd.checked) (os := os) (X := fun w _ => laidMetH Tryd.prog Rows.typecheckReturnsRow.laid w) false (World.doorLaid Tryd.prog 14 os) #[.slice none 0 0] 8 rfl (World.shaped_of_RefB (by kernel_rfl) (by kernel_rfl)) (by kernel_rfl) (by kernel_rfl) (by kernel_rfl) (typecheckReturns_met os _)) ?_
  intro W base args ds gs before hval0 hW _ _ hL _
  have hval : ∀ (j : Nat) t v, Tryd.f3.params[j]? = some t → args[j]? = some v → Value.okWide Tryd.prog W .any base t v := hval0
  have hW' := hW
  obtain ⟨p, q, hA0, hV, rfl, hfz, hnd⟩ := hW
  have hA : DataW.TrodAll enc Tryd.prog W 0 (fun _ => true) true Tryd.f3.params.toList args.toList ds p := hA0
  rw [Tryd.params3] at hA hval
  obtain ⟨v0, d0, rfl, rfl, h0⟩ := trodAll_one hA
  obtain ⟨a0, n0, c0, rfl⟩ := slice_of Tryd.underlying22 (hval 0 22 v0 rfl rfl)
  obtain ⟨f0, h0⟩ := h0
  obtain ⟨x0, ex0, l0, hr0, hB0⟩ := trod_sts h0
  obtain rfl : x0 = .slice a0 n0 c0 := by simpa [Value.cells] using ex0.symm
  obtain ⟨rfl, rfl⟩ := trodVars_none hV
  have hLaid := typecheckReturns_laid hL
  clear hA0 hval0
  simp only [List.append_nil] at hW'
  refine (calls_of_acall ((law_TypecheckReturns l0 hB0) Heap.no 0) hLaid (RVs.cons hr0 (RVs.nil))).mono fun e W' ⟨hb, M', r, H', nx', hE, _, hr⟩ => ?_
  subst hr
  have he : e = .returned (.bool true) := by
    cases e with
    | returned v => cases hE; rfl
    | panicked c => exact hE.elim
    | outgrown => exact hE.elim
  subst he
  exact ⟨_, rfl, _, _, _, [], _, [], hW', trodAll_mk1 (shut_bool Tryd.underlying4 _), stays_all hb (by decide) hA, rfl, hb.frame _, fun h => by cases h⟩
theorem typecheckReturns_holds : Rows.TypecheckReturnsSaid :=
  OpenClaim.holds_of_wide 3 Tryd.f3 rfl rfl rfl rfl rfl rfl rfl ⟨rfl, rfl, rfl, rfl, rfl⟩ rfl rfl rfl rfl rfl (by kernel_rfl) Tryd.func3 (by kernel_rfl)
    (of_decide_eq_true (by kernel_rfl)) (by unfold Func.isWrapper; first | (rw [if_pos (by decide +kernel)]; kernel_rfl) | (rw [if_neg (by decide +kernel)]; exact ⟨rfl, rfl⟩))
    (fun os started H enc _ => typecheckReturns_lifted os started H enc)
theorem typecheckReturns_card : Rows.TypecheckReturnsCardSaid :=
  Claim7.holds_tied_plain_at .later [] [.data] true Rows.typecheckReturnsCard.stood.harness true
    typecheckReturns_holds (fun _ h => by cases h) (by kernel_rfl) (fun _ h => by cases h) typecheckReturns_row_tie rfl ⟨rfl, rfl⟩ (by kernel_rfl) rfl
    (fun f fn hf hfn => by
      obtain rfl : f = 3 := Option.some.inj ((show Tryd.prog.funcNamed "dataflow/dataflowlaw11.TypecheckReturns" = some 3 by kernel_rfl).symm.trans hf) |>.symm
      obtain rfl : fn = Tryd.f3 := (Option.some.inj (Tryd.func3.symm.trans hfn)).symm
      exact ⟨by kernel_rfl, fun j t ht => by
        rw [Tryd.params3] at ht
        have hm : t ∈ [22] := by simpa using Array.mem_of_getElem? ht
        have hall : ([22].all fun u => !Tryd.prog.wantsStandIn u) = true := by kernel_rfl
        exact (show Tryd.prog.wantsStandIn t = false by simpa using List.all_eq_true.1 hall t hm)⟩)
    (by kernel_rfl)
#print axioms typecheckReturns_card
end Go.Proofs.YtdjllogimomgmaaDoor
