/-
  ParseProgram, walked.
-/
import Derived.Test.YthjonkommphkkaaGreatDoorJpBo
import Derived.Test.YthjonkommphkkaaGreatDoorJpBp
import Derived.Test.YthjonkommphkkaaGreatDoorJpBe
import Derived.Deep.QuietTactic
import Derived.BigQuiet
namespace Go.Proofs.YthjonkommphkkaaGreatDoor
open Lx Go.RowKit
theorem prog_key {l : Bytes} {p1 er1 p2 er2 : Int} {x1 x2 : List Cl} (h1 : (er1 = 0 ∧ p1 = 0 ∧ programR l = .ok x1) ∨ ((er1 != 0) = true ∧ ∃ (q f : Nat), p1 = (q : Int) ∧ er1 = (f : Int) ∧ x1 = [] ∧ programR l = .error (q, f)))
    (h2 : (er2 = 0 ∧ p2 = 0 ∧ programR l = .ok x2) ∨ ((er2 != 0) = true ∧ ∃ (q f : Nat), p2 = (q : Int) ∧ er2 = (f : Int) ∧ x2 = [] ∧ programR l = .error (q, f))) : er2 = er1 ∧ x2 = x1 ∧ p2 = p1 := by
  rcases h1 with ⟨rfl, rfl, h1⟩ | ⟨_, q, f, rfl, rfl, rfl, h1⟩ <;> rcases h2 with ⟨rfl, rfl, h2⟩ | ⟨_, q2, f2, rfl, rfl, rfl, h2⟩ <;> rw [h1] at h2 <;> cases h2 <;> exact ⟨rfl, rfl, rfl⟩
theorem IsList.laterCl {w w' : World} {d : Nat} {l : List Cl} {v : Value} (h : IsList Any w 4 (IsCl Any w d) l v) (hb : Below w.heap.size w w') : IsList Any w' 4 (IsCl Any w' d) l v := h.kept (kept_any hb) (by omega) fun _ _ _ => IsCl.kept (kept_any hb)
set_option maxHeartbeats 4000000 in
set_option maxRecDepth 100000 in
theorem law_ParseProgram (s : ByteArray) (w : World) (hs : s.size ≤ maxLen) (hL : Laid w) : Calls Tryz.prog 4 #[.string s] w fun e w' => e = .returned (.bool true) ∧ Below w.heap.size w w' := by
  have HL := Lib.hid hL
  have HS := Lib.hid hs
  unfold maxLen at hs
  clear hL
  go_enter Tryz.func4, Tryz.ntmps4
  go_wp2_with fail
  refine (par_Program s _ HS.out HL.out).mono ?_
  intro e w3 ho
  obtain ⟨hb3, a1, n1, c1, p1, er1, rfl, x1, d1, hl1, hc1⟩ := ho.form
  have HB3 := Lib.hid hb3
  have HL3 : Hid (Laid w3) := HL.out.below hb3 (Nat.le_refl _)
  have HX1 := Lib.hid hl1
  have HC1 := Lib.hid hc1
  clear hb3 hl1 hc1 ho
  go_wp2_with fail
  refine (ref_Program s _ HS.out).mono ?_
  rintro e w4 ⟨hb4, a2, n2, c2, p2, er2, rfl, x2, d2, hl2, hc2⟩
  have HW4 : Hid (Below w3.heap.size w3 w4) := ((Below.refl _ _).alloc (Nat.le_refl _) _).trans (hb4.mono (by simp))
  have HB4 : Hid (Below w.heap.size w w4) := HB3.out.trans (HW4.out.mono HB3.out.size)
  have HL4 : Hid (Laid w4) := (HL3.out.alloc _).below hb4 (Nat.le_refl _)
  have hs4 : w3.heap.size < w4.heap.size := by have := hb4.size; simp at this; omega
  have b1 : w4.cell? ⟨w3.heap.size, 0, none⟩ = some (.slice a1 n1 c1) := (hb4.cell (p := ⟨w3.heap.size, 0, none⟩) (by simp)).trans (by simp [go_sem])
  obtain ⟨rfl, rfl, rfl⟩ := prog_key HC1.out hc2
  have HX : Hid (IsList Any (w4.alloc (.cells #[.slice a2 n2 c2] 32)) 4 (IsCl Any (w4.alloc (.cells #[.slice a2 n2 c2] 32)) (d1 + d2)) x2 (.slice a1 n1 c1)) := (((HX1.out.laterCl HW4.out).laterCl ((Below.refl _ _).alloc (Nat.le_refl _) _))).mono fun _ _ _ h => h.le (by omega)
  have HY : Hid (IsList Any (w4.alloc (.cells #[.slice a2 n2 c2] 32)) 4 (IsCl Any (w4.alloc (.cells #[.slice a2 n2 c2] 32)) (d1 + d2)) x2 (.slice a2 n2 c2)) := ((hl2.laterCl ((Below.refl _ _).alloc (Nat.le_refl _) _))).mono fun _ _ _ h => h.le (by omega)
  clear hb4 hl2 hc2 HC1 HX1
  go_wp2_with fail
  refine (ref_Same _ _ _ _ _ _ _ _ _ _ HX.out HY.out).mono ?_
  rintro e w5 ⟨hb5, b, rfl, hbi⟩
  obtain rfl : b = true := hbi.2 rfl
  have HW5 : Hid (Below w4.heap.size w4 w5) := ((Below.refl _ _).alloc (Nat.le_refl _) _).trans (hb5.mono (by simp))
  have HL5 : Hid (Laid w5) := HL4.out.below HW5.out (Nat.le_refl _)
  have HB5 : Hid (Below w.heap.size w w5) := HB4.out.trans (HW5.out.mono HB4.out.size)
  clear hb5 hbi b1 hs4 HX HY
  have e1 : (p2 == p2) = true := beq_self_eq_true _
  have e2 : (er2 == er2) = true := beq_self_eq_true _
  go_wp2_with fail
  refine (law08_awake _ HL5.out).mono ?_
  rintro e w9 ⟨rfl, hb9⟩
  have HB9 := Lib.hid (HB5.out.trans (hb9.mono HB5.out.size))
  clear hb9
  go_wp2_with fail
  go_ret
  exact ⟨rfl, HB9.out⟩
end Go.Proofs.YthjonkommphkkaaGreatDoor
