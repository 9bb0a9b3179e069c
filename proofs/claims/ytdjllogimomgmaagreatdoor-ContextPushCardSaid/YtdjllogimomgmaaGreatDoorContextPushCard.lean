/-
  ContextPush: valid sensitivities and the contexts of callees and objects are those of the chapter: the law returns true for every input; the listed variables are tied to the program's text.
-/
import Derived.Test.YtdjllogimomgmaaGreatDoorCkLaw
import Derived.Test.YtdjllogimomgmaaGreatDoorUnitArg
import Derived.Test.YtdjllogimomgmaaGreatDoorTie
import Derived.Test.YtdjllogimomgmaaGreatDoorCards
import Derived.SevenTiedAt
import Derived.ShutString
namespace Go.Proofs.YtdjllogimomgmaaGreatDoor
open Ax Tx Go.RowKit
open Go.ChangeShapes Go.WideShapes Go.ChangeAt
open Go.ChangeMaps (open_string shut_string)
theorem contextPush_own : ownKnob Tryz.prog.godebug = none := by kernel_rfl
theorem contextPush_met (os : Os) (args : Array Value) : laidMetH Tryz.prog Rows.contextPushRow.laid ((World.doorLaid Tryz.prog 72 os).forCall (fun _ _ => 0) ⟨#[], args, []⟩).memory :=
  laidMetH_of_parts3 (fuel := 8) (laidMet_of_run' 8 (by kernel_rfl) (by kernel_rfl)) (by kernel_rfl) (by kernel_rfl)
theorem contextPush_laid {W : World} (h : laidMetH Tryz.prog Rows.contextPushRow.laid W) : RG cxG (snap W) := by
  rw [MakeChecks.laidMetH_plain _ _ _ (by kernel_rfl)] at h
  exact cxG_ok h (by unfold Rows.contextPushRow; repeat (first | exact List.mem_cons_self | apply List.mem_cons_of_mem)) (by unfold Rows.contextPushRow; repeat (first | exact List.mem_cons_self | apply List.mem_cons_of_mem))
set_option maxRecDepth 100000 in
theorem contextPush_lifted (os : Os) (started : os.Started) (H : Type) (enc : TypeId × Value → H) :
    ReturnsInHanded {} Tryz.checked os 5 .any (fun w args => (Rows.contextPushSpec.pre enc Tryz.prog Tryz.f5 [] false w args ∧ laidMetH Tryz.prog Rows.contextPushRow.laid w) ∧ sizedMet enc Tryz.prog Tryz.f5 (OpenSpec.ofChange Rows.contextPushSpec) false w args)
      (Rows.contextPushSpec.post enc Tryz.prog Tryz.f5 false true false false) := by
  refine returnsInHanded_of_change_and (C := Tryz.checked) (X := fun w _ => laidMetH Tryz.prog Rows.contextPushRow.laid w) (fun _ _ _ hh h => h.of_heap hh) contextPush_own started (by kernel_rfl) Tryz.func5
    (ChangeSpec.witness_shaped (enc := enc) (C := Tryz.checked) (os := os) (X := fun w _ => laidMetH Tryz.prog Rows.contextPushRow.laid w) false (World.doorLaid Tryz.prog 72 os) #[.agg #[.slice none 0 0, .slice none 0 0, .int .i64 0], .agg #[.int .i64 0, .int .i64 0], .agg #[.slice none 0 0, .int .i64 0, .int .i64 0, .slice none 0 0]] 8 rfl (World.shaped_of_RefB (by kernel_rfl) (by kernel_rfl)) (by kernel_rfl) (by kernel_rfl) (by kernel_rfl) (contextPush_met os _)) ?_
  intro W base args ds gs before hval0 hW _ _ hL _
  have hval : ∀ (j : Nat) t v, Tryz.f5.params[j]? = some t → args[j]? = some v → Value.okWide Tryz.prog W .any base t v := hval0
  have hW' := hW
  obtain ⟨p, q, hA0, hV, rfl, hfz, hnd⟩ := hW
  have hA : DataW.TrodAll enc Tryz.prog W 0 (fun _ => true) true Tryz.f5.params.toList args.toList ds p := hA0
  rw [Tryz.params5] at hA hval
  obtain ⟨v0, v1, v2, d0, d1, d2, p0, p1, p2, rfl, rfl, rfl, h0, h1, h2⟩ := trodAll_three hA
  obtain ⟨a0, rfl⟩ := agg_of Tryz.underlying30 (hval 0 30 v0 rfl rfl)
  obtain ⟨f0, h0⟩ := h0
  obtain ⟨l0, hr0, hB0⟩ := trod_un h0
  replace hr0 := agg_rv hr0
  obtain ⟨a1, rfl⟩ := agg_of Tryz.underlying55 (hval 1 55 v1 rfl rfl)
  obtain ⟨f1, h1⟩ := h1
  obtain ⟨l1, hr1, hB1⟩ := trod_se h1
  replace hr1 := agg_rv hr1
  obtain ⟨a2, rfl⟩ := agg_of Tryz.underlying59 (hval 2 59 v2 rfl rfl)
  obtain ⟨f2, h2⟩ := h2
  obtain ⟨l2, hr2, hB2⟩ := trod_ca h2
  replace hr2 := agg_rv hr2
  obtain ⟨rfl, rfl⟩ := trodVars_none hV
  have hLaid := contextPush_laid hL
  clear hA0 hval0
  simp only [List.append_nil] at hW'
  refine (calls_of_acall ((law_ContextPush l0 hB0 l1 hB1 l2 hB2) Heap.no 0) hLaid (RVs.cons hr0 (RVs.cons hr1 (RVs.cons hr2 (RVs.nil))))).mono fun e W' ⟨hb, M', r, H', nx', hE, _, hr⟩ => ?_
  subst hr
  have he : e = .returned (.bool true) := by
    cases e with
    | returned v => cases hE; rfl
    | panicked c => exact hE.elim
    | outgrown => exact hE.elim
  subst he
  exact ⟨_, rfl, _, _, _, [], _, [], hW', trodAll_mk1 (shut_bool Tryz.underlying4 _), stays_all hb (by decide) hA, rfl, hb.frame _, fun h => by cases h⟩
theorem contextPush_holds : Rows.ContextPushSaid :=
  OpenClaim.holds_of_wide 5 Tryz.f5 rfl rfl rfl rfl rfl rfl rfl ⟨rfl, rfl, rfl, rfl, rfl⟩ rfl rfl rfl rfl rfl (by kernel_rfl) Tryz.func5 (by kernel_rfl)
    (of_decide_eq_true (by kernel_rfl)) (by unfold Func.isWrapper; first | (rw [if_pos (by decide +kernel)]; kernel_rfl) | (rw [if_neg (by decide +kernel)]; exact ⟨rfl, rfl⟩))
    (fun os started H enc _ => contextPush_lifted os started H enc)
theorem contextPush_card : Rows.ContextPushCardSaid :=
  Claim7.holds_tied_plain_at .later [] [.data, .data, .data, .sentinel, .sentinel, .data, .data] true Rows.contextPushCard.stood.harness true
    contextPush_holds (fun _ h => by cases h) (by kernel_rfl) (fun _ h => by cases h) contextPush_row_tie rfl ⟨rfl, rfl⟩ (by kernel_rfl) rfl
    (fun f fn hf hfn => by
      obtain rfl : f = 5 := Option.some.inj ((show Tryz.prog.funcNamed "dataflow/dataflowlaw22.ContextPush" = some 5 by kernel_rfl).symm.trans hf) |>.symm
      obtain rfl : fn = Tryz.f5 := (Option.some.inj (Tryz.func5.symm.trans hfn)).symm
      exact ⟨by kernel_rfl, fun j t ht => by
        rw [Tryz.params5] at ht
        have hm : t ∈ [30, 55, 59] := by simpa using Array.mem_of_getElem? ht
        have hall : ([30, 55, 59].all fun u => !Tryz.prog.wantsStandIn u) = true := by kernel_rfl
        exact (show Tryz.prog.wantsStandIn t = false by simpa using List.all_eq_true.1 hall t hm)⟩)
    (by kernel_rfl)
#print axioms contextPush_card
end Go.Proofs.YtdjllogimomgmaaGreatDoor
