/-
  The walk of ContextRemains as the row asks for it. A smaller sensitivity keeps what remains of the contexts of a greater one: the law returns true for every input; the listed variables are tied to the program's text.
-/
import Derived.Test.YtdjllogimomgmaaGreatDoorCkRem
import Derived.Test.YtdjllogimomgmaaGreatDoorUnitArg
import Derived.Test.YtdjllogimomgmaaGreatDoorTie
import Derived.Test.YtdjllogimomgmaaGreatDoorCards
import Derived.SevenTiedAt
import Derived.ShutString
namespace Go.Proofs.YtdjllogimomgmaaGreatDoor
open Ax Tx Go.RowKit
open Go.ChangeShapes Go.WideShapes Go.ChangeAt
open Go.ChangeMaps (open_string shut_string)
theorem contextRemains_own : ownKnob Tryz.prog.godebug = none := by kernel_rfl
theorem contextRemains_met (os : Os) (args : Array Value) : laidMetH Tryz.prog Rows.contextRemainsRow.laid ((World.doorLaid Tryz.prog 72 os).forCall (fun _ _ => 0) ⟨#[], args, []⟩).memory :=
  laidMetH_of_parts3 (fuel := 8) (laidMet_of_run' 8 (by kernel_rfl) (by kernel_rfl)) (by kernel_rfl) (by kernel_rfl)
theorem contextRemains_laid {W : World} (h : laidMetH Tryz.prog Rows.contextRemainsRow.laid W) : RG cxG (snap W) := by
  rw [MakeChecks.laidMetH_plain _ _ _ (by kernel_rfl)] at h
  exact cxG_ok h (by unfold Rows.contextRemainsRow; repeat (first | exact List.mem_cons_self | apply List.mem_cons_of_mem)) (by unfold Rows.contextRemainsRow; repeat (first | exact List.mem_cons_self | apply List.mem_cons_of_mem))
set_option maxRecDepth 100000 in
theorem contextRemains_lifted (os : Os) (started : os.Started) (H : Type) (enc : TypeId × Value → H) :
    ReturnsInHanded {} Tryz.checked os 8 .any (fun w args => (Rows.contextRemainsSpec.pre enc Tryz.prog Tryz.f8 [] false w args ∧ laidMetH Tryz.prog Rows.contextRemainsRow.laid w) ∧ sizedMet enc Tryz.prog Tryz.f8 (OpenSpec.ofChange Rows.contextRemainsSpec) false w args)
      (Rows.contextRemainsSpec.post enc Tryz.prog Tryz.f8 false true false false) := by
  refine returnsInHanded_of_change_and (C := Tryz.checked) (X := fun w _ => laidMetH Tryz.prog Rows.contextRemainsRow.laid w) (fun _ _ _ hh h => h.of_heap hh) contextRemains_own started (by kernel_rfl) Tryz.func8
    (ChangeSpec.witness_shaped (enc := enc) (C := Tryz.checked) (os := os) (X := fun w _ => laidMetH Tryz.prog Rows.contextRemainsRow.laid w) false (World.doorLaid Tryz.prog 72 os) #[.agg #[.slice none 0 0, .slice none 0 0, .int .i64 0], .agg #[.int .i64 0, .int .i64 0], .agg #[.slice none 0 0, .int .i64 0, .int .i64 0, .slice none 0 0]] 8 rfl (World.shaped_of_RefB (by kernel_rfl) (by kernel_rfl)) (by kernel_rfl) (by kernel_rfl) (by kernel_rfl) (contextRemains_met os _)) ?_
  intro W base args ds gs before hval0 hW _ _ hL _
  have hval : ∀ (j : Nat) t v, Tryz.f8.params[j]? = some t → args[j]? = some v → Value.okWide Tryz.prog W .any base t v := hval0
  have hW' := hW
  obtain ⟨p, q, hA0, hV, rfl, hfz, hnd⟩ := hW
  have hA : DataW.TrodAll enc Tryz.prog W 0 (fun _ => true) true Tryz.f8.params.toList args.toList ds p := hA0
  rw [Tryz.params8] at hA hval
  obtain ⟨v0, v1, v2, d0, d1, d2, p0, p1, p2, rfl, rfl, rfl, h0, h1, h2⟩ := trodAll_three hA
  obtain ⟨a0, rfl⟩ := agg_of Tryz.underlying30 (hval 0 30 v0 rfl rfl)
  obtain ⟨f0, h0⟩ := h0
  obtain ⟨l0, hr0, hB0⟩ := trod_un h0
  replace hr0 := agg_rv hr0
  obtain ⟨a1, rfl⟩ := agg_of Tryz.underlying55 (hval 1 55 v1 rfl rfl)
  obtain ⟨f1, h1⟩ := h1
  obtain ⟨l1, hr1, hB1⟩ := trod_se h1
  replace hr1 := agg_rv hr1
  obtain ⟨a2, rfl⟩ := agg_of Tryz.underlying59 (hval 2 59 v2 rfl rfl)
  obtain ⟨f2, h2⟩ := h2
  obtain ⟨l2, hr2, hB2⟩ := trod_ca h2
  replace hr2 := agg_rv hr2
  obtain ⟨rfl, rfl⟩ := trodVars_none hV
  have hLaid := contextRemains_laid hL
  clear hA0 hval0
  simp only [List.append_nil] at hW'
  refine (calls_of_acall ((law_ContextRemains l0 hB0 l1 hB1 l2 hB2) Heap.no 0) hLaid (RVs.cons hr0 (RVs.cons hr1 (RVs.cons hr2 (RVs.nil))))).mono fun e W' ⟨hb, M', r, H', nx', hE, _, hr⟩ => ?_
  subst hr
  have he : e = .returned (.bool true) := by
    cases e with
    | returned v => cases hE; rfl
    | panicked c => exact hE.elim
    | outgrown => exact hE.elim
  subst he
  exact ⟨_, rfl, _, _, _, [], _, [], hW', trodAll_mk1 (shut_bool Tryz.underlying4 _), stays_all hb (by decide) hA, rfl, hb.frame _, fun h => by cases h⟩
end Go.Proofs.YtdjllogimomgmaaGreatDoor
