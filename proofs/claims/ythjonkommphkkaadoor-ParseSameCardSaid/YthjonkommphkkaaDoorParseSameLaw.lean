/-
  ParseSame, walked (printed by gensame3.py).
-/
import Derived.Test.YthjonkommphkkaaDoorParSameMe
import Derived.Test.YthjonkommphkkaaDoorParTopExpr
import Derived.Deep.RegionHeld3
namespace Go.Proofs.YthjonkommphkkaaDoor
open Lx Go.RowKit
set_option maxHeartbeats 4000000 in
set_option maxRecDepth 100000 in
theorem law_ParseSame (d : Nat) (l1 l2 : List Cl) (a1 : Option Addr) (n1 c1 : Nat) (a2 : Option Addr) (n2 c2 : Nat) (w : World) (h1 : IsList Any w 4 (IsCl Any w d) l1 (.slice a1 n1 c1)) (h2 : IsList Any w 4 (IsCl Any w d) l2 (.slice a2 n2 c2)) (hL : Laid w) :
    Calls Tryd.prog 3 #[.agg #[.slice a1 n1 c1], .agg #[.slice a2 n2 c2]] w fun e w' => e = .returned (.bool true) ∧ Below w.heap.size w w' := by
  obtain ⟨W0, hW0⟩ : ∃ W0, W0 = (w.alloc (.cells #[.slice a1 n1 c1] 24)).alloc (.cells #[.slice a2 n2 c2] 24) := ⟨_, rfl⟩
  have HB0 : Hid (Below w.heap.size w W0) := by rw [hW0]; exact ((Below.refl _ _).alloc (Nat.le_refl _) _).alloc (by simp) _
  have HL0 : Hid (Laid W0) := hL.below HB0.out (Nat.le_refl _)
  have hs0 : W0.heap.size = w.heap.size + 1 + 1 := by rw [hW0]; simp
  have hk1 : W0.cell? ⟨w.heap.size, 0, none⟩ = some (.slice a1 n1 c1) := by rw [hW0]; simp [go_sem]
  have hk2 : W0.cell? ⟨w.heap.size + 1, 0, none⟩ = some (.slice a2 n2 c2) := by rw [hW0]; simp [go_sem]
  have KS : Hid (∀ w', Below W0.heap.size W0 w' → w'.cell? ⟨w.heap.size, 0, none⟩ = some (.slice a1 n1 c1) ∧ w'.cell? ⟨w.heap.size + 1, 0, none⟩ = some (.slice a2 n2 c2) ∧ Below W0.heap.size W0 w') := fun w' h => ⟨(h.cell (p := ⟨w.heap.size, 0, none⟩) (by show w.heap.size < _; omega)).trans hk1, (h.cell (p := ⟨w.heap.size + 1, 0, none⟩) (by show w.heap.size + 1 < _; omega)).trans hk2, h⟩
  have H1 : Hid (∀ x, Below W0.heap.size W0 x → IsList Any x 4 (IsCl Any x d) l1 (.slice a1 n1 c1)) := fun x hx => h1.kept (kept_any (HB0.out.trans (hx.mono HB0.out.size))) (by omega) fun _ _ _ => IsCl.kept (kept_any (HB0.out.trans (hx.mono HB0.out.size)))
  have H2 : Hid (∀ x, Below W0.heap.size W0 x → IsList Any x 4 (IsCl Any x d) l2 (.slice a2 n2 c2)) := fun x hx => h2.kept (kept_any (HB0.out.trans (hx.mono HB0.out.size))) (by omega) fun _ _ _ => IsCl.kept (kept_any (HB0.out.trans (hx.mono HB0.out.size)))
  clear h1 h2 hL hs0 hk1 hk2
  go_enter Tryd.func3, Tryd.ntmps3
  go_wp2_with fail
  rw [← hW0]
  clear hW0
  by_cases heq : l1 = l2
  · have HEQ := Lib.hid heq
    clear heq
    have hbw : Below W0.heap.size W0 W0.drew := (Below.refl _ _).drew
    go_region_held3 (fun w' => w'.cell? ⟨w.heap.size, 0, none⟩ = some (.slice a1 n1 c1) ∧ w'.cell? ⟨w.heap.size + 1, 0, none⟩ = some (.slice a2 n2 c2) ∧ Below W0.heap.size W0 w') (first | exact KS.out _ ((Below.refl _ _).drew) | exact KS.out _ hbw) (first
      | (go_at_call 7
         with_reducible refine (par_Same d l1 l2 a1 n1 c1 a2 n2 c2 _ (H1.out _ hbw) (H2.out _ hbw)).mono ?_
         rintro e w2 ⟨hb2, b, rfl, hbi⟩
         obtain rfl : b = true := hbi.2 (HEQ.out)
         have hbw : Below W0.heap.size W0 w2 := hbw.trans (hb2.mono hbw.size)
         clear hb2 hbi)
      | (go_at_call 8
         with_reducible refine (ref_Same d l1 l2 a1 n1 c1 a2 n2 c2 _ (H1.out _ hbw) (H2.out _ hbw)).mono ?_
         rintro e w2 ⟨hb2, b, rfl, hbi⟩
         obtain rfl : b = true := hbi.2 (HEQ.out)
         have hbw : Below W0.heap.size W0 w2 := hbw.trans (hb2.mono hbw.size)
         clear hb2 hbi)
      | (go_at_call 7
         with_reducible refine (par_Same d l2 l1 a2 n2 c2 a1 n1 c1 _ (H2.out _ hbw) (H1.out _ hbw)).mono ?_
         rintro e w2 ⟨hb2, b, rfl, hbi⟩
         obtain rfl : b = true := hbi.2 (HEQ.out.symm)
         have hbw : Below W0.heap.size W0 w2 := hbw.trans (hb2.mono hbw.size)
         clear hb2 hbi)
      | (go_at_call 7
         with_reducible refine (par_Same d l1 l1 a1 n1 c1 a1 n1 c1 _ (H1.out _ hbw) (H1.out _ hbw)).mono ?_
         rintro e w2 ⟨hb2, b, rfl, hbi⟩
         obtain rfl : b = true := hbi.2 rfl
         have hbw : Below W0.heap.size W0 w2 := hbw.trans (hb2.mono hbw.size)
         clear hb2 hbi)
      | (go_at_call 9
         refine (law08_awake _ (HL0.out.below hbw (Nat.le_refl _))).mono ?_
         rintro e w2 ⟨rfl, hb2⟩
         have hbw : Below W0.heap.size W0 w2 := hbw.trans (hb2.mono hbw.size)
         clear hb2))
    all_goals
      go_wp2_with fail
      go_ret
      exact ⟨rfl, HB0.out.trans (hbw.mono HB0.out.size)⟩
  · have HEQ := Lib.hid heq
    clear heq
    have hbw : Below W0.heap.size W0 W0.drew := (Below.refl _ _).drew
    go_region_held3 (fun w' => w'.cell? ⟨w.heap.size, 0, none⟩ = some (.slice a1 n1 c1) ∧ w'.cell? ⟨w.heap.size + 1, 0, none⟩ = some (.slice a2 n2 c2) ∧ Below W0.heap.size W0 w') (first | exact KS.out _ ((Below.refl _ _).drew) | exact KS.out _ hbw) (first
      | (go_at_call 7
         with_reducible refine (par_Same d l1 l2 a1 n1 c1 a2 n2 c2 _ (H1.out _ hbw) (H2.out _ hbw)).mono ?_
         rintro e w2 ⟨hb2, b, rfl, hbi⟩
         obtain rfl : b = false := by cases b; rfl; exact absurd (hbi.1 rfl) HEQ.out
         have hbw : Below W0.heap.size W0 w2 := hbw.trans (hb2.mono hbw.size)
         clear hb2 hbi)
      | (go_at_call 8
         with_reducible refine (ref_Same d l1 l2 a1 n1 c1 a2 n2 c2 _ (H1.out _ hbw) (H2.out _ hbw)).mono ?_
         rintro e w2 ⟨hb2, b, rfl, hbi⟩
         obtain rfl : b = false := by cases b; rfl; exact absurd (hbi.1 rfl) HEQ.out
         have hbw : Below W0.heap.size W0 w2 := hbw.trans (hb2.mono hbw.size)
         clear hb2 hbi)
      | (go_at_call 7
         with_reducible refine (par_Same d l2 l1 a2 n2 c2 a1 n1 c1 _ (H2.out _ hbw) (H1.out _ hbw)).mono ?_
         rintro e w2 ⟨hb2, b, rfl, hbi⟩
         obtain rfl : b = false := by cases b; rfl; exact absurd (hbi.1 rfl).symm HEQ.out
         have hbw : Below W0.heap.size W0 w2 := hbw.trans (hb2.mono hbw.size)
         clear hb2 hbi)
      | (go_at_call 7
         with_reducible refine (par_Same d l1 l1 a1 n1 c1 a1 n1 c1 _ (H1.out _ hbw) (H1.out _ hbw)).mono ?_
         rintro e w2 ⟨hb2, b, rfl, hbi⟩
         obtain rfl : b = true := hbi.2 rfl
         have hbw : Below W0.heap.size W0 w2 := hbw.trans (hb2.mono hbw.size)
         clear hb2 hbi)
      | (go_at_call 9
         refine (law08_awake _ (HL0.out.below hbw (Nat.le_refl _))).mono ?_
         rintro e w2 ⟨rfl, hb2⟩
         have hbw : Below W0.heap.size W0 w2 := hbw.trans (hb2.mono hbw.size)
         clear hb2))
    all_goals
      go_wp2_with fail
      go_ret
      exact ⟨rfl, HB0.out.trans (hbw.mono HB0.out.size)⟩
end Go.Proofs.YthjonkommphkkaaDoor
