/-
  ContextOrder: contexts are totally ordered, and what remains of a context is a partial order: the law returns true for every input; the listed variables are tied to the program's text.
-/
import Derived.Test.YtdjllogimomgmaaGreatDoorCxOrder
import Derived.Test.YtdjllogimomgmaaGreatDoorTie
import Derived.Test.YtdjllogimomgmaaGreatDoorCards
import Derived.SevenTiedAt
import Derived.ShutString
namespace Go.Proofs.YtdjllogimomgmaaGreatDoor
open Ax Tx Go.RowKit
open Go.ChangeShapes Go.WideShapes Go.ChangeAt
open Go.ChangeMaps (open_string shut_string)
theorem contextOrder_own : ownKnob Tryz.prog.godebug = none := by kernel_rfl
theorem contextOrder_met (os : Os) (args : Array Value) : laidMetH Tryz.prog Rows.contextOrderRow.laid ((World.doorLaid Tryz.prog 72 os).forCall (fun _ _ => 0) ⟨#[], args, []⟩).memory :=
  laidMetH_of_parts3 (fuel := 8) (laidMet_of_run' 8 (by kernel_rfl) (by kernel_rfl)) (by kernel_rfl) (by kernel_rfl)
theorem contextOrder_laid {W : World} (h : laidMetH Tryz.prog Rows.contextOrderRow.laid W) : RG cxG (snap W) := by
  rw [MakeChecks.laidMetH_plain _ _ _ (by kernel_rfl)] at h
  exact cxG_ok h (by unfold Rows.contextOrderRow; repeat (first | exact List.mem_cons_self | apply List.mem_cons_of_mem)) (by unfold Rows.contextOrderRow; repeat (first | exact List.mem_cons_self | apply List.mem_cons_of_mem))
set_option maxRecDepth 100000 in
theorem contextOrder_lifted (os : Os) (started : os.Started) (H : Type) (enc : TypeId × Value → H) :
    ReturnsInHanded {} Tryz.checked os 9 .any (fun w args => (Rows.contextOrderSpec.pre enc Tryz.prog Tryz.f9 [] false w args ∧ laidMetH Tryz.prog Rows.contextOrderRow.laid w) ∧ sizedMet enc Tryz.prog Tryz.f9 (OpenSpec.ofChange Rows.contextOrderSpec) false w args)
      (Rows.contextOrderSpec.post enc Tryz.prog Tryz.f9 false true false false) := by
  refine returnsInHanded_of_change_and (C := Tryz.checked) (X := fun w _ => laidMetH Tryz.prog Rows.contextOrderRow.laid w) (fun _ _ _ hh h => h.of_heap hh) contextOrder_own started (by kernel_rfl) Tryz.func9
    (ChangeSpec.witness_shaped (enc := enc) (C := Tryz.checked) (os := os) (X := fun w _ => laidMetH Tryz.prog Rows.contextOrderRow.laid w) false (World.doorLaid Tryz.prog 72 os) #[.slice none 0 0, .slice none 0 0, .slice none 0 0] 8 rfl (World.shaped_of_RefB (by kernel_rfl) (by kernel_rfl)) (by kernel_rfl) (by kernel_rfl) (by kernel_rfl) (contextOrder_met os _)) ?_
  intro W base args ds gs before hval0 hW _ _ hL _
  have hval : ∀ (j : Nat) t v, Tryz.f9.params[j]? = some t → args[j]? = some v → Value.okWide Tryz.prog W .any base t v := hval0
  have hW' := hW
  obtain ⟨p, q, hA0, hV, rfl, hfz, hnd⟩ := hW
  have hA : DataW.TrodAll enc Tryz.prog W 0 (fun _ => true) true Tryz.f9.params.toList args.toList ds p := hA0
  rw [Tryz.params9] at hA hval
  obtain ⟨v0, v1, v2, d0, d1, d2, p0, p1, p2, rfl, rfl, rfl, h0, h1, h2⟩ := trodAll_three hA
  obtain ⟨a0, n0, c0, rfl⟩ := slice_of Tryz.underlying49 (hval 0 49 v0 rfl rfl)
  obtain ⟨f0, h0⟩ := h0
  obtain ⟨x0, ex0, l0, hr0, hB0⟩ := trod_ints h0
  obtain rfl : x0 = .slice a0 n0 c0 := by simpa [Value.cells] using ex0.symm
  obtain ⟨a1, n1, c1, rfl⟩ := slice_of Tryz.underlying49 (hval 1 49 v1 rfl rfl)
  obtain ⟨f1, h1⟩ := h1
  obtain ⟨x1, ex1, l1, hr1, hB1⟩ := trod_ints h1
  obtain rfl : x1 = .slice a1 n1 c1 := by simpa [Value.cells] using ex1.symm
  obtain ⟨a2, n2, c2, rfl⟩ := slice_of Tryz.underlying49 (hval 2 49 v2 rfl rfl)
  obtain ⟨f2, h2⟩ := h2
  obtain ⟨x2, ex2, l2, hr2, hB2⟩ := trod_ints h2
  obtain rfl : x2 = .slice a2 n2 c2 := by simpa [Value.cells] using ex2.symm
  obtain ⟨rfl, rfl⟩ := trodVars_none hV
  have hLaid := contextOrder_laid hL
  clear hA0 hval0
  simp only [List.append_nil] at hW'
  refine (calls_of_acall ((law_ContextOrder l0 l1 l2 hB0 hB1 hB2) Heap.no 0) hLaid (RVs.cons hr0 (RVs.cons hr1 (RVs.cons hr2 (RVs.nil))))).mono fun e W' ⟨hb, M', r, H', nx', hE, _, hr⟩ => ?_
  subst hr
  have he : e = .returned (.bool true) := by
    cases e with
    | returned v => cases hE; rfl
    | panicked c => exact hE.elim
    | outgrown => exact hE.elim
  subst he
  exact ⟨_, rfl, _, _, _, [], _, [], hW', trodAll_mk1 (shut_bool Tryz.underlying4 _), stays_all hb (by decide) hA, rfl, hb.frame _, fun h => by cases h⟩
theorem contextOrder_holds : Rows.ContextOrderSaid :=
  OpenClaim.holds_of_wide 9 Tryz.f9 rfl rfl rfl rfl rfl rfl rfl ⟨rfl, rfl, rfl, rfl, rfl⟩ rfl rfl rfl rfl rfl (by kernel_rfl) Tryz.func9 (by kernel_rfl)
    (of_decide_eq_true (by kernel_rfl)) (by unfold Func.isWrapper; first | (rw [if_pos (by decide +kernel)]; kernel_rfl) | (rw [if_neg (by decide +kernel)]; exact ⟨rfl, rfl⟩))
    (fun os started H enc _ => contextOrder_lifted os started H enc)
theorem contextOrder_card : Rows.ContextOrderCardSaid :=
  Claim7.holds_tied_plain_at .later [] [.data, .data, .data, .sentinel, .sentinel, .data, .data] true Rows.contextOrderCard.stood.harness true
    contextOrder_holds (fun _ h => by cases h) (by kernel_rfl) (fun _ h => by cases h) contextOrder_row_tie rfl ⟨rfl, rfl⟩ (by kernel_rfl) rfl
    (fun f fn hf hfn => by
      obtain rfl : f = 9 := Option.some.inj ((show Tryz.prog.funcNamed "dataflow/dataflowlaw22.ContextOrder" = some 9 by kernel_rfl).symm.trans hf) |>.symm
      obtain rfl : fn = Tryz.f9 := (Option.some.inj (Tryz.func9.symm.trans hfn)).symm
      exact ⟨by kernel_rfl, fun j t ht => by
        rw [Tryz.params9] at ht
        have hm : t ∈ [49, 49, 49] := by simpa using Array.mem_of_getElem? ht
        have hall : ([49, 49, 49].all fun u => !Tryz.prog.wantsStandIn u) = true := by kernel_rfl
        exact (show Tryz.prog.wantsStandIn t = false by simpa using List.all_eq_true.1 hall t hm)⟩)
    (by kernel_rfl)
#print axioms contextOrder_card
end Go.Proofs.YtdjllogimomgmaaGreatDoor
