/-
  ParseBack, walked.
-/
import Derived.Test.YthjonkommphkkaaDoorPlProg
import Derived.Test.YthjonkommphkkaaDoorJpBh
import Derived.Test.YthjonkommphkkaaDoorJpBd
import Derived.Test.YthjonkommphkkaaDoorJpBe
import Derived.Test.YthjonkommphkkaaDoorJpBc
import Derived.Deep.QuietTactic
import Derived.BigQuiet
set_option linter.unusedSectionVars false
set_option linter.unusedSimpArgs false
set_option linter.unnecessarySimpa false
set_option linter.unusedVariables false
namespace Go.Proofs.YthjonkommphkkaaDoor
open Lx Ax Go.RowKit
theorem sized {l : Bytes} {x : List Cl} (h : programR l = .ok x) : x.length ≤ 100 ∧ ∀ c ∈ x, ClSz c := by
  obtain ⟨h1, h2⟩ := programR_sz h
  obtain ⟨h3, _⟩ := programR_wf h
  exact ⟨by omega, fun c hc => ⟨h3 c hc, by have := (h2 c hc).2.1; omega, by have := (h2 c hc).2.2; omega, fun m hm => ((h2 c hc).1 m hm).1, fun m hm => ((h2 c hc).1 m hm).2⟩⟩
theorem ref_PlainProgram (d : Nat) (x : List Cl) (a : Option Addr) (n c : Nat) (w : World) (h : IsList Any w 4 (IsCl Any w d) x (.slice a n c)) (hl : x.length ≤ 100) (hc : ∀ c ∈ x, ClSz c) :
    Calls Tryd.prog 11 #[.agg #[.slice a n c]] w fun e w' => e = .returned (.string (strOf (plP x))) ∧ Below w.heap.size w w' := by
  have hM : ∀ g o, Any g → w.heap[g]? = some o → (snap w).fz g = some o := fun g o _ h => h
  have hv : RV (snap w) (.lst (x.map cvC)) (.slice a n c) := rv_list (by decide) hM h cvC_len fun y _ cs hy => rv_cl hM hy
  have hr : RV (snap w) (.agg [.lst (x.map cvC)]) (.agg #[.slice a n c]) := .agg _ [.slice a n c] rfl (RVs.one hv).2
  refine ((pl_program x hl hc).f Heap.no 0 (snap w) w [.agg #[.slice a n c]] (paG_rg _) (Rep.snap w) (.one hr)).mono ?_
  rintro e w' ⟨M', r, H', nx', h1, h2, h3, _, rfl⟩
  refine ⟨?_, h3.below⟩
  cases e <;> simp only [EndR] at h1
  rename_i v
  cases h1 with
  | str _ s hs => rw [show s = strOf (plP x) from by apply bytes_ext; rw [hs]; simp [strOf]]
theorem IsList.laterC {w w' : World} {d : Nat} {l : List Cl} {v : Value} (h : IsList Any w 4 (IsCl Any w d) l v) (hb : Below w.heap.size w w') : IsList Any w' 4 (IsCl Any w' d) l v := h.kept (kept_any hb) (by omega) fun _ _ _ => IsCl.kept (kept_any hb)
set_option maxHeartbeats 4000000 in
set_option maxRecDepth 100000 in
theorem law_ParseBack (s : ByteArray) (w : World) (hs : s.size ≤ maxLen) (hL : Laid w) : Calls Tryd.prog 4 #[.string s] w fun e w' => e = .returned (.bool true) ∧ Below w.heap.size w w' := by
  have HL := Lib.hid hL
  have HS := Lib.hid hs
  unfold maxLen at hs
  clear hL
  go_enter Tryd.func4, Tryd.ntmps4
  go_wp2_with fail
  refine (par_Program s _ HS.out HL.out).mono ?_
  intro e w3 ho
  obtain ⟨hb3, a1, n1, c1, p1, er1, rfl, x1, d1, hl1, hc1⟩ := ho.form
  have HB3 := Lib.hid hb3
  have HL3 : Hid (Laid w3) := HL.out.below hb3 (Nat.le_refl _)
  have HX1 := Lib.hid hl1
  clear hb3 hl1 ho
  rcases hc1 with ⟨rfl, rfl, hok⟩ | ⟨her, _⟩
  · have HOK := Lib.hid hok
    clear hok
    by_cases h6 : 6000 < s.size
    · go_wp2_with fail
      refine (law08_awake _ (HL3.out.alloc _)).mono ?_
      rintro e w9 ⟨rfl, hb9⟩
      have HB9 := Lib.hid (HB3.out.trans ((((Below.refl _ _).alloc (Nat.le_refl _) _).trans (hb9.mono (by simp))).mono HB3.out.size))
      clear hb9
      go_wp2_with fail
      go_ret
      exact ⟨rfl, HB9.out⟩
    · have hk : (w3.alloc (.cells #[.slice a1 n1 c1] 24)).cell? ⟨w3.heap.size, 0, none⟩ = some (.slice a1 n1 c1) := by simp [go_sem]
      obtain ⟨z1, z2⟩ := sized HOK.out
      have HZ1 := Lib.hid z1
      have HZ2 := Lib.hid z2
      have HX2 : Hid (IsList Any (w3.alloc (.cells #[.slice a1 n1 c1] 24)) 4 (IsCl Any (w3.alloc (.cells #[.slice a1 n1 c1] 24)) d1) x1 (.slice a1 n1 c1)) := HX1.out.laterC ((Below.refl _ _).alloc (Nat.le_refl _) _)
      clear z1 z2
      go_wp2_with fail
      refine (ref_PlainProgram _ _ _ _ _ _ HX2.out HZ1.out HZ2.out).mono ?_
      rintro e w4 ⟨rfl, hb4⟩
      have HW4 : Hid (Below w3.heap.size w3 w4) := ((Below.refl _ _).alloc (Nat.le_refl _) _).trans (hb4.mono (by simp))
      have HB4 : Hid (Below w.heap.size w w4) := HB3.out.trans (HW4.out.mono HB3.out.size)
      have HL4 : Hid (Laid w4) := (HL3.out.alloc _).below hb4 (Nat.le_refl _)
      have hs4 : w3.heap.size < w4.heap.size := by have := hb4.size; simp at this; omega
      have b1 : w4.cell? ⟨w3.heap.size, 0, none⟩ = some (.slice a1 n1 c1) := (hb4.cell (p := ⟨w3.heap.size, 0, none⟩) (by simp)).trans hk
      have HX4 : Hid (IsList Any w4 4 (IsCl Any w4 d1) x1 (.slice a1 n1 c1)) := HX1.out.laterC HW4.out
      obtain ⟨T, hT⟩ : ∃ T, T = strOf (plP x1) := ⟨_, rfl⟩
      have hTl : T.data.toList = plP x1 := by rw [hT, strOf_data]
      rw [← hT]
      have HT := Lib.hid hTl
      clear hT hTl hb4 hk HX2 HX1
      by_cases h65 : 65536 < T.size
      · go_wp2_with fail
        refine (law08_awake _ HL4.out).mono ?_
        rintro e w9 ⟨rfl, hb9⟩
        have HB9 := Lib.hid (HB4.out.trans (hb9.mono HB4.out.size))
        clear hb9
        go_wp2_with fail
        go_ret
        exact ⟨rfl, HB9.out⟩
      · have HP : Hid (programR T.data.toList = .ok x1) := by
          show _ = _
          rw [HT.out]
          exact plain_back HOK.out (by rw [← HT.out]; simp; omega)
        clear HT HOK HZ1 HZ2
        go_wp2_with fail
        refine (par_Program T _ (by unfold maxLen; omega) HL4.out).mono ?_
        intro e w5 ho
        obtain ⟨hb5, a2, n2, c2, p2, er2, rfl, x2, d2, hl2, hc2⟩ := ho.form
        rw [HP.out] at hc2
        obtain ⟨rfl, rfl, rfl⟩ : er2 = 0 ∧ p2 = 0 ∧ x1 = x2 := by
          rcases hc2 with ⟨a, b, c⟩ | ⟨_, q, f, _, _, _, c⟩
          · cases c; exact ⟨a, b, rfl⟩
          · cases c
        have HB5 : Hid (Below w.heap.size w w5) := HB4.out.trans (hb5.mono HB4.out.size)
        have HL5 : Hid (Laid w5) := HL4.out.below hb5 (Nat.le_refl _)
        have hs5 : w3.heap.size < w5.heap.size := by have := hb5.size; omega
        have b2 : w5.cell? ⟨w3.heap.size, 0, none⟩ = some (.slice a1 n1 c1) := (hb5.cell (p := ⟨w3.heap.size, 0, none⟩) hs4).trans b1
        have HX : Hid (IsList Any (w5.alloc (.cells #[.slice a2 n2 c2] 24)) 4 (IsCl Any (w5.alloc (.cells #[.slice a2 n2 c2] 24)) (d1 + d2)) x1 (.slice a1 n1 c1)) := ((HX4.out.laterC hb5).laterC ((Below.refl _ _).alloc (Nat.le_refl _) _)).mono fun _ _ _ h => h.le (by omega)
        have HY : Hid (IsList Any (w5.alloc (.cells #[.slice a2 n2 c2] 24)) 4 (IsCl Any (w5.alloc (.cells #[.slice a2 n2 c2] 24)) (d1 + d2)) x1 (.slice a2 n2 c2)) := (hl2.laterC ((Below.refl _ _).alloc (Nat.le_refl _) _)).mono fun _ _ _ h => h.le (by omega)
        clear hb5 hl2 hc2 ho HX4 b1 HP
        go_wp2_with fail
        refine (ref_Same _ _ _ _ _ _ _ _ _ _ HX.out HY.out).mono ?_
        rintro e w6 ⟨hb6, b, rfl, hbi⟩
        obtain rfl : b = true := hbi.2 rfl
        have HW6 : Hid (Below w5.heap.size w5 w6) := ((Below.refl _ _).alloc (Nat.le_refl _) _).trans (hb6.mono (by simp))
        have HL6 : Hid (Laid w6) := HL5.out.below HW6.out (Nat.le_refl _)
        have HB6 : Hid (Below w.heap.size w w6) := HB5.out.trans (HW6.out.mono HB5.out.size)
        clear hb6 hbi b2 hs4 hs5 HX HY
        go_wp2_with fail
        refine (law08_awake _ HL6.out).mono ?_
        rintro e w9 ⟨rfl, hb9⟩
        have HB9 := Lib.hid (HB6.out.trans (hb9.mono HB6.out.size))
        clear hb9
        go_wp2_with fail
        go_ret
        exact ⟨rfl, HB9.out⟩
  · go_wp2_with fail
    refine (law08_awake _ (HL3.out.alloc _)).mono ?_
    rintro e w9 ⟨rfl, hb9⟩
    have HB9 := Lib.hid (HB3.out.trans ((((Below.refl _ _).alloc (Nat.le_refl _) _).trans (hb9.mono (by simp))).mono HB3.out.size))
    clear hb9
    go_wp2_with fail
    go_ret
    exact ⟨rfl, HB9.out⟩
end Go.Proofs.YthjonkommphkkaaDoor
