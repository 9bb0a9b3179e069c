/-
  ref08's SameFields, SameStmts, walked (printed by gensame.py).
-/
import Derived.Test.YthjonkommphkkaaGreatDoorJpBp
import Derived.Deep.QuietTactic
import Derived.BigQuiet
namespace Go.Proofs.YthjonkommphkkaaGreatDoor
open Lx Go.RowKit
set_option maxHeartbeats 2000000 in
theorem ref_SameFields (l1 l2 : List Fld) (a1 : Option Addr) (n1 c1 : Nat) (a2 : Option Addr) (n2 c2 : Nat) (w : World) (h1 : IsList Any w 2 IsFld l1 (.slice a1 n1 c1)) (h2 : IsList Any w 2 IsFld l2 (.slice a2 n2 c2)) :
    Calls Tryz.prog 30 #[.slice a1 n1 c1, .slice a2 n2 c2] w (SameOut w (l1 = l2)) := by
  obtain ⟨rfl, hm1, hat1⟩ := h1.fldAt
  obtain ⟨rfl, hm2, hat2⟩ := h2.fldAt
  unfold maxLen at hm1 hm2
  have HAT1 := Lib.hid hat1
  have HAT2 := Lib.hid hat2
  clear h1 h2 hat1 hat2
  by_cases hlen : l1.length = l2.length
  · have hle : ((l1.length : Int) != (l2.length : Int)) = false := by rw [bne_eq_false_iff_eq]; omega
    have hle1 : l1.length ≤ l2.length := by omega
    have hle2 : l2.length ≤ l1.length := by omega
    clear hlen
    go_enter Tryz.func30, Tryz.ntmps30
    go_wp2_with fail
    go_loopw [5] (fun i wr => SameRel l1 l2 w i wr) (fun i _ => l1.length - (intOf i).toNat)
    case atStart => exact ⟨0, Nat.zero_le _, rfl, rfl, .refl _ _⟩
    case round =>
      obtain ⟨j, hj, rfl, hpre, hb⟩ := hrel
      have HPRE := Lib.hid hpre
      clear hpre
      by_cases hlt : j < l1.length
      · have hlt2 : j < l2.length := by omega
        obtain ⟨g1, o1, rfl, hg1, x0, x1⟩ := HAT1.out j hlt
        obtain ⟨g2, o2, rfl, hg2, y0, y1⟩ := HAT2.out j hlt2
        rw [← hb.cell (p := ⟨g1, _, none⟩) hg1] at x0 x1
        rw [← hb.cell (p := ⟨g2, _, none⟩) hg2] at y0 y1
        have hs := hb.size
        have hw1 : g1 < wr.heap.size := by omega
        have hw2 : g2 < wr.heap.size := by omega
        obtain ⟨f1, hf1⟩ : ∃ f, l1[j] = f := ⟨_, rfl⟩
        obtain ⟨f2, hf2⟩ : ∃ f, l2[j] = f := ⟨_, rfl⟩
        rw [hf1] at x0 x1
        rw [hf2] at y0 y1
        have HF1 := Lib.hid hf1
        have HF2 := Lib.hid hf2
        have HB := Lib.hid hb
        clear hb hf1 hf2
        have hj1 : (j : Int) < (l1.length : Int) := by omega
        have hj2 : (j : Int) < (l2.length : Int) := by omega
        have hj0 : (0 : Int) ≤ (j : Int) := by omega
        obtain ⟨fn1, ft1⟩ := f1
        obtain ⟨fn2, ft2⟩ := f2
        simp only at x0 x1 y0 y1
        by_cases hn : fn1 = fn2
        rotate_left
        · have HNE : Hid (l1[j] ≠ l2[j]) := by show _ ≠ _; rw [HF1.out, HF2.out]; intro e; injection e; exact hn ‹_›
          obtain ⟨q, q'⟩ := str_ne hn
          clear hn
          by_cases ht : ft1 = ft2
          · subst ht
            go_wp2_with fail
            go_quiet (fail)
            go_wp2_with fail
            go_ret
            exact ⟨HB.out.trans ((below_drewN (Below.refl _ _) _).mono HB.out.size), false, rfl, by simp; exact differ hlt hlt2 HNE.out⟩
          · obtain ⟨r, r'⟩ := str_ne ht
            clear ht
            go_wp2_with fail
            go_quiet (fail)
            go_wp2_with fail
            go_ret
            exact ⟨HB.out.trans ((below_drewN (Below.refl _ _) _).mono HB.out.size), false, rfl, by simp; exact differ hlt hlt2 HNE.out⟩
        subst hn
        by_cases ht : ft1 = ft2
        rotate_left
        · have HNE : Hid (l1[j] ≠ l2[j]) := by show _ ≠ _; rw [HF1.out, HF2.out]; intro e; injection e; exact ht ‹_›
          obtain ⟨q, q'⟩ := str_ne ht
          clear ht
          go_wp2_with fail
          go_quiet (fail)
          go_wp2_with fail
          go_ret
          exact ⟨HB.out.trans ((below_drewN (Below.refl _ _) _).mono HB.out.size), false, rfl, by simp; exact differ hlt hlt2 HNE.out⟩
        subst ht
        go_wp2_with fail
        go_quiet (fail)
        go_wp2_with fail
        go_roundw
        case rel =>
          refine ⟨j + 1, by omega, by go_num, ?_, HB.out.trans ((below_drewN (Below.refl _ _) _).mono HB.out.size)⟩
          rw [List.take_succ_eq_append_getElem hlt, List.take_succ_eq_append_getElem hlt2, HPRE.out, HF1.out, HF2.out]
        case measure => simp [intOf]; omega
      · have HB := Lib.hid hb
        clear hb
        go_wp2_with fail
        go_ret
        refine ⟨HB.out, true, rfl, ?_⟩
        simp only [true_iff]
        have hp := HPRE.out
        rw [List.take_of_length_le (by omega), List.take_of_length_le (by omega)] at hp
        exact hp
  · have hle : ((l1.length : Int) != (l2.length : Int)) = true := by rw [bne_iff_ne]; omega
    have HL := Lib.hid hlen
    clear hlen
    go_enter Tryz.func30, Tryz.ntmps30
    go_wp2_with fail
    go_ret
    exact ⟨.refl _ _, false, rfl, by simp; intro h; exact HL.out (by rw [h])⟩
end Go.Proofs.YthjonkommphkkaaGreatDoor
namespace Go.Proofs.YthjonkommphkkaaGreatDoor
open Lx Go.RowKit
set_option maxHeartbeats 4000000 in
theorem ref_SameStmts (d : Nat) : ∀ (l1 l2 : List St) (a1 : Option Addr) (n1 c1 : Nat) (a2 : Option Addr) (n2 c2 : Nat) (w : World), IsList Any w 6 (IsSt Any w d) l1 (.slice a1 n1 c1) → IsList Any w 6 (IsSt Any w d) l2 (.slice a2 n2 c2) →
    Calls Tryz.prog 36 #[.slice a1 n1 c1, .slice a2 n2 c2] w (SameOut w (l1 = l2)) := by
  induction d with
  | zero =>
    intro l1 l2 a1 n1 c1 a2 n2 c2 w h1 h2
    obtain ⟨rfl, hm1, hat1⟩ := h1.stAt
    obtain ⟨rfl, hm2, hat2⟩ := h2.stAt
    cases l1 with
    | cons x l => obtain ⟨_, _, _, _, _, _, _, _, _, _, _, _, _, _, _, _, _, hx⟩ := hat1 0 (by simp); exact absurd hx (by simp [IsSt])
    | nil =>
      cases l2 with
      | cons x l => obtain ⟨_, _, _, _, _, _, _, _, _, _, _, _, _, _, _, _, _, hx⟩ := hat2 0 (by simp); exact absurd hx (by simp [IsSt])
      | nil =>
        clear h1 h2 hat1 hat2
        go_enter Tryz.func36, Tryz.ntmps36
        go_wp2_with fail
        go_loopw [5] (fun i wr => SameRel ([] : List St) [] w i wr) (fun i _ => 0 - (intOf i).toNat)
        case atStart => exact ⟨0, Nat.zero_le _, rfl, rfl, .refl _ _⟩
        case round =>
          obtain ⟨j, hj, rfl, _, hb⟩ := hrel
          obtain rfl : j = 0 := by simpa using hj
          have HB := Lib.hid hb
          clear hb
          go_wp2_with fail
          go_ret
          exact ⟨HB.out, true, rfl, by simp⟩
  | succ d ih =>
    intro l1 l2 a1 n1 c1 a2 n2 c2 w h1 h2
    obtain ⟨rfl, hm1, hat1⟩ := h1.stAt
    obtain ⟨rfl, hm2, hat2⟩ := h2.stAt
    unfold maxLen at hm1 hm2
    have HAT1 := Lib.hid hat1
    have HAT2 := Lib.hid hat2
    have IH := Lib.hid ih
    clear h1 h2 hat1 hat2 ih
    by_cases hlen : l1.length = l2.length
    · have hle : ((l1.length : Int) != (l2.length : Int)) = false := by rw [bne_eq_false_iff_eq]; omega
      have hle1 : l1.length ≤ l2.length := by omega
      have hle2 : l2.length ≤ l1.length := by omega
      clear hlen
      go_enter Tryz.func36, Tryz.ntmps36
      go_wp2_with fail
      go_loopw [5] (fun i wr => SameRel l1 l2 w i wr) (fun i _ => l1.length - (intOf i).toNat)
      case atStart => exact ⟨0, Nat.zero_le _, rfl, rfl, .refl _ _⟩
      case round =>
        obtain ⟨j, hj, rfl, hpre, hb⟩ := hrel
        have HPRE := Lib.hid hpre
        clear hpre
        by_cases hlt : j < l1.length
        · have hlt2 : j < l2.length := by omega
          obtain ⟨g1, o1, k1, s1, t1, e1, r1, q1, a2, n2, c2, a3, n3, c3, rfl, hg1, ⟨x0, x1, x2, x3, x4, x5⟩, hx⟩ := HAT1.out j hlt
          obtain ⟨g2, o2, k2, s2, t2, e2, r2, q2, a2', n2', c2', a3', n3', c3', rfl, hg2, ⟨y0, y1, y2, y3, y4, y5⟩, hy⟩ := HAT2.out j hlt2
          rw [← hb.cell (p := ⟨g1, _, none⟩) hg1] at x0 x1 x2 x3 x4 x5
          rw [← hb.cell (p := ⟨g2, _, none⟩) hg2] at y0 y1 y2 y3 y4 y5
          have hs := hb.size
          have hw1 : g1 < wr.heap.size := by omega
          have hw2 : g2 < wr.heap.size := by omega
          obtain ⟨nn1, tt1, es1, bd1, el1, he1, rfl, rfl, hl1, hb1, hr1⟩ := (IsSt.kept (kept_any hb) _ _ _ hx).flds
          obtain ⟨nn2, tt2, es2, bd2, el2, he2, rfl, rfl, hl2, hb2', hr2⟩ := (IsSt.kept (kept_any hb) _ _ _ hy).flds
          have H1 : Hid (∀ x, Below wr.heap.size wr x → IsList Any x 5 (IsEx Any x d) es1 (.slice e1 r1 q1)) := fun x hx => hl1.kept (kept_any hx) (by omega) fun _ _ _ => IsEx.kept (kept_any hx) _ _ _
          have H2 : Hid (∀ x, Below wr.heap.size wr x → IsList Any x 5 (IsEx Any x d) es2 (.slice e2 r2 q2)) := fun x hx => hl2.kept (kept_any hx) (by omega) fun _ _ _ => IsEx.kept (kept_any hx) _ _ _
          have H3 : Hid (∀ x, Below wr.heap.size wr x → IsList Any x 6 (IsSt Any x d) bd1 (.slice a2 n2 c2)) := fun x hx => hb1.kept (kept_any hx) (by omega) fun _ _ _ => IsSt.kept (kept_any hx) _ _ _
          have H4 : Hid (∀ x, Below wr.heap.size wr x → IsList Any x 6 (IsSt Any x d) bd2 (.slice a2' n2' c2')) := fun x hx => hb2'.kept (kept_any hx) (by omega) fun _ _ _ => IsSt.kept (kept_any hx) _ _ _
          have H5 : Hid (∀ x, Below wr.heap.size wr x → IsList Any x 6 (IsSt Any x d) el1 (.slice a3 n3 c3)) := fun x hx => hr1.kept (kept_any hx) (by omega) fun _ _ _ => IsSt.kept (kept_any hx) _ _ _
          have H6 : Hid (∀ x, Below wr.heap.size wr x → IsList Any x 6 (IsSt Any x d) el2 (.slice a3' n3' c3')) := fun x hx => hr2.kept (kept_any hx) (by omega) fun _ _ _ => IsSt.kept (kept_any hx) _ _ _
          have HE1 := Lib.hid he1
          have HE2 := Lib.hid he2
          have HB := Lib.hid hb
          clear hb hx hy hl1 hl2 hb1 hb2' hr1 hr2 he1 he2
          have hj1 : (j : Int) < (l1.length : Int) := by omega
          have hj2 : (j : Int) < (l2.length : Int) := by omega
          have hj0 : (0 : Int) ≤ (j : Int) := by omega
          by_cases hq : k1 = k2
          rotate_left
          · have HNE : Hid (l1[j] ≠ l2[j]) := by show _ ≠ _; rw [HE1.out, HE2.out]; intro e; injection e; exact hq ‹_›
            have q : (k1 != k2) = true := by rw [bne_iff_ne]; exact hq
            clear hq
            go_wp2_with fail
            go_region
            all_goals
              go_wp2_with fail
              go_ret
              exact ⟨HB.out.trans ((((((Below.refl _ _).alloc (Nat.le_refl _) _).alloc (by simp) _).drew)).mono HB.out.size), false, rfl, by simp; exact differ hlt hlt2 (HNE.out)⟩
          subst hq
          by_cases hq : nn1 = nn2
          rotate_left
          · have HNE : Hid (l1[j] ≠ l2[j]) := by show _ ≠ _; rw [HE1.out, HE2.out]; intro e; injection e; exact hq ‹_›
            obtain ⟨q, q'⟩ := str_ne hq
            clear hq
            go_wp2_with fail
            go_region
            all_goals
              go_wp2_with fail
              go_ret
              exact ⟨HB.out.trans ((((((Below.refl _ _).alloc (Nat.le_refl _) _).alloc (by simp) _).drew)).mono HB.out.size), false, rfl, by simp; exact differ hlt hlt2 (HNE.out)⟩
          subst hq
          by_cases hq : tt1 = tt2
          rotate_left
          · have HNE : Hid (l1[j] ≠ l2[j]) := by show _ ≠ _; rw [HE1.out, HE2.out]; intro e; injection e; exact hq ‹_›
            obtain ⟨q, q'⟩ := str_ne hq
            clear hq
            go_wp2_with fail
            go_region
            all_goals
              go_wp2_with fail
              go_ret
              exact ⟨HB.out.trans ((((((Below.refl _ _).alloc (Nat.le_refl _) _).alloc (by simp) _).drew)).mono HB.out.size), false, rfl, by simp; exact differ hlt hlt2 (HNE.out)⟩
          subst hq
          go_wp2_with fail
          go_region
          · go_wp2_with fail
            refine (ref_SameExprs d _ _ _ _ _ _ _ _ _ (H1.out _ (((((Below.refl _ _).alloc (Nat.le_refl _) _).alloc (by simp) _).drew))) (H2.out _ (((((Below.refl _ _).alloc (Nat.le_refl _) _).alloc (by simp) _).drew)))).mono ?_
            rintro e w2 ⟨hb2, b, rfl, hbi⟩
            have hs2 : wr.heap.size + 1 + 1 ≤ w2.heap.size := by have := hb2.size; simp at this; omega
            have HW2 := Lib.hid ((((((Below.refl _ _).alloc (Nat.le_refl _) _).alloc (by simp) _).drew)).trans (hb2.mono (by simp; omega)))
            have HBI := Lib.hid hbi
            have uw24 : w2.cell? ⟨wr.heap.size, 4, none⟩ = some (.slice a2 n2 c2) := (hb2.cell (p := ⟨wr.heap.size, 4, none⟩) (by simp <;> omega)).trans (by simp [go_sem])
            have vw24 : w2.cell? ⟨wr.heap.size + 1, 4, none⟩ = some (.slice a2' n2' c2') := (hb2.cell (p := ⟨wr.heap.size + 1, 4, none⟩) (by simp <;> omega)).trans (by simp [go_sem])
            have uw25 : w2.cell? ⟨wr.heap.size, 5, none⟩ = some (.slice a3 n3 c3) := (hb2.cell (p := ⟨wr.heap.size, 5, none⟩) (by simp <;> omega)).trans (by simp [go_sem])
            have vw25 : w2.cell? ⟨wr.heap.size + 1, 5, none⟩ = some (.slice a3' n3' c3') := (hb2.cell (p := ⟨wr.heap.size + 1, 5, none⟩) (by simp <;> omega)).trans (by simp [go_sem])
            clear hb2 hbi
            cases b
            · go_wp2_with fail
              go_ret
              refine ⟨HB.out.trans (HW2.out.mono HB.out.size), false, rfl, ?_⟩
              simp
              refine differ hlt hlt2 ?_
              rw [HE1.out, HE2.out]; intro e; injection e; exact absurd (HBI.out.2 ‹_›) (by decide)
            go_wp2_with fail
            refine (IH.out _ _ _ _ _ _ _ _ _ (H3.out _ HW2.out) (H4.out _ HW2.out)).mono ?_
            rintro e w3 ⟨hb3, b, rfl, hbj⟩
            have HW3 := Lib.hid (HW2.out.trans (hb3.mono (by omega)))
            have HBJ := Lib.hid hbj
            have hs3 := hb3.size
            have uw35 : w3.cell? ⟨wr.heap.size, 5, none⟩ = some (.slice a3 n3 c3) := (hb3.cell (p := ⟨wr.heap.size, 5, none⟩) (by show wr.heap.size < w2.heap.size; omega)).trans uw25
            have vw35 : w3.cell? ⟨wr.heap.size + 1, 5, none⟩ = some (.slice a3' n3' c3') := (hb3.cell (p := ⟨wr.heap.size + 1, 5, none⟩) (by show wr.heap.size + 1 < w2.heap.size; omega)).trans vw25
            clear hb3 hbj uw24 uw25 vw24 vw25
            cases b
            · go_wp2_with fail
              go_ret
              refine ⟨HB.out.trans (HW3.out.mono HB.out.size), false, rfl, ?_⟩
              simp
              refine differ hlt hlt2 ?_
              rw [HE1.out, HE2.out]; intro e; injection e; exact absurd (HBJ.out.2 ‹_›) (by decide)
            go_wp2_with fail
            refine (IH.out _ _ _ _ _ _ _ _ _ (H5.out _ HW3.out) (H6.out _ HW3.out)).mono ?_
            rintro e w4 ⟨hb4, b, rfl, hbk⟩
            have HW4 := Lib.hid (HW3.out.trans (hb4.mono (by omega)))
            have HBK := Lib.hid hbk
            clear hb4 hbk uw35 vw35
            cases b
            · go_wp2_with fail
              go_ret
              refine ⟨HB.out.trans (HW4.out.mono HB.out.size), false, rfl, ?_⟩
              simp
              refine differ hlt hlt2 ?_
              rw [HE1.out, HE2.out]; intro e; injection e; exact absurd (HBK.out.2 ‹_›) (by decide)
            go_wp2_with fail
            go_roundw
            case rel =>
              refine ⟨j + 1, by omega, by go_num, ?_, HB.out.trans (HW4.out.mono HB.out.size)⟩
              rw [List.take_succ_eq_append_getElem hlt, List.take_succ_eq_append_getElem hlt2, HPRE.out, HE1.out, HE2.out, HBI.out.1 (by simp), HBJ.out.1 (by simp), HBK.out.1 (by simp)]
            case measure => simp [intOf]; omega
          · go_wp2_with fail
            refine (ref_SameExprs d _ _ _ _ _ _ _ _ _ (H1.out _ (((((Below.refl _ _).alloc (Nat.le_refl _) _).alloc (by simp) _).drew))) (H2.out _ (((((Below.refl _ _).alloc (Nat.le_refl _) _).alloc (by simp) _).drew)))).mono ?_
            rintro e w2 ⟨hb2, b, rfl, hbi⟩
            have hs2 : wr.heap.size + 1 + 1 ≤ w2.heap.size := by have := hb2.size; simp at this; omega
            have HW2 := Lib.hid ((((((Below.refl _ _).alloc (Nat.le_refl _) _).alloc (by simp) _).drew)).trans (hb2.mono (by simp; omega)))
            have HBI := Lib.hid hbi
            have uw24 : w2.cell? ⟨wr.heap.size, 4, none⟩ = some (.slice a2' n2' c2') := (hb2.cell (p := ⟨wr.heap.size, 4, none⟩) (by simp <;> omega)).trans (by simp [go_sem])
            have vw24 : w2.cell? ⟨wr.heap.size + 1, 4, none⟩ = some (.slice a2 n2 c2) := (hb2.cell (p := ⟨wr.heap.size + 1, 4, none⟩) (by simp <;> omega)).trans (by simp [go_sem])
            have uw25 : w2.cell? ⟨wr.heap.size, 5, none⟩ = some (.slice a3' n3' c3') := (hb2.cell (p := ⟨wr.heap.size, 5, none⟩) (by simp <;> omega)).trans (by simp [go_sem])
            have vw25 : w2.cell? ⟨wr.heap.size + 1, 5, none⟩ = some (.slice a3 n3 c3) := (hb2.cell (p := ⟨wr.heap.size + 1, 5, none⟩) (by simp <;> omega)).trans (by simp [go_sem])
            clear hb2 hbi
            cases b
            · go_wp2_with fail
              go_ret
              refine ⟨HB.out.trans (HW2.out.mono HB.out.size), false, rfl, ?_⟩
              simp
              refine differ hlt hlt2 ?_
              rw [HE1.out, HE2.out]; intro e; injection e; exact absurd (HBI.out.2 ‹_›) (by decide)
            go_wp2_with fail
            refine (IH.out _ _ _ _ _ _ _ _ _ (H3.out _ HW2.out) (H4.out _ HW2.out)).mono ?_
            rintro e w3 ⟨hb3, b, rfl, hbj⟩
            have HW3 := Lib.hid (HW2.out.trans (hb3.mono (by omega)))
            have HBJ := Lib.hid hbj
            have hs3 := hb3.size
            have uw35 : w3.cell? ⟨wr.heap.size, 5, none⟩ = some (.slice a3' n3' c3') := (hb3.cell (p := ⟨wr.heap.size, 5, none⟩) (by show wr.heap.size < w2.heap.size; omega)).trans uw25
            have vw35 : w3.cell? ⟨wr.heap.size + 1, 5, none⟩ = some (.slice a3 n3 c3) := (hb3.cell (p := ⟨wr.heap.size + 1, 5, none⟩) (by show wr.heap.size + 1 < w2.heap.size; omega)).trans vw25
            clear hb3 hbj uw24 uw25 vw24 vw25
            cases b
            · go_wp2_with fail
              go_ret
              refine ⟨HB.out.trans (HW3.out.mono HB.out.size), false, rfl, ?_⟩
              simp
              refine differ hlt hlt2 ?_
              rw [HE1.out, HE2.out]; intro e; injection e; exact absurd (HBJ.out.2 ‹_›) (by decide)
            go_wp2_with fail
            refine (IH.out _ _ _ _ _ _ _ _ _ (H5.out _ HW3.out) (H6.out _ HW3.out)).mono ?_
            rintro e w4 ⟨hb4, b, rfl, hbk⟩
            have HW4 := Lib.hid (HW3.out.trans (hb4.mono (by omega)))
            have HBK := Lib.hid hbk
            clear hb4 hbk uw35 vw35
            cases b
            · go_wp2_with fail
              go_ret
              refine ⟨HB.out.trans (HW4.out.mono HB.out.size), false, rfl, ?_⟩
              simp
              refine differ hlt hlt2 ?_
              rw [HE1.out, HE2.out]; intro e; injection e; exact absurd (HBK.out.2 ‹_›) (by decide)
            go_wp2_with fail
            go_roundw
            case rel =>
              refine ⟨j + 1, by omega, by go_num, ?_, HB.out.trans (HW4.out.mono HB.out.size)⟩
              rw [List.take_succ_eq_append_getElem hlt, List.take_succ_eq_append_getElem hlt2, HPRE.out, HE1.out, HE2.out, HBI.out.1 (by simp), HBJ.out.1 (by simp), HBK.out.1 (by simp)]
            case measure => simp [intOf]; omega
        · have HB := Lib.hid hb
          clear hb
          go_wp2_with fail
          go_ret
          refine ⟨HB.out, true, rfl, ?_⟩
          simp only [true_iff]
          have hp := HPRE.out
          rw [List.take_of_length_le (by omega), List.take_of_length_le (by omega)] at hp
          exact hp
    · have hle : ((l1.length : Int) != (l2.length : Int)) = true := by rw [bne_iff_ne]; omega
      have HL := Lib.hid hlen
      clear hlen
      go_enter Tryz.func36, Tryz.ntmps36
      go_wp2_with fail
      go_ret
      exact ⟨.refl _ _, false, rfl, by simp; intro h; exact HL.out (by rw [h])⟩
end Go.Proofs.YthjonkommphkkaaGreatDoor
namespace Go.Proofs.YthjonkommphkkaaGreatDoor
open Lx Go.RowKit
set_option maxHeartbeats 4000000 in
theorem ref_SameMethods (d : Nat) (l1 l2 : List Me) (a1 : Option Addr) (n1 c1 : Nat) (a2 : Option Addr) (n2 c2 : Nat) (w : World) (h1 : IsList Any w 5 (IsMe Any w d) l1 (.slice a1 n1 c1)) (h2 : IsList Any w 5 (IsMe Any w d) l2 (.slice a2 n2 c2)) :
    Calls Tryz.prog 11 #[.slice a1 n1 c1, .slice a2 n2 c2] w (SameOut w (l1 = l2)) := by
  obtain ⟨rfl, hm1, hat1⟩ := h1.meAt
  obtain ⟨rfl, hm2, hat2⟩ := h2.meAt
  unfold maxLen at hm1 hm2
  have HAT1 := Lib.hid hat1
  have HAT2 := Lib.hid hat2
  clear h1 h2 hat1 hat2
  by_cases hlen : l1.length = l2.length
  · have hle : ((l1.length : Int) != (l2.length : Int)) = false := by rw [bne_eq_false_iff_eq]; omega
    have hle1 : l1.length ≤ l2.length := by omega
    have hle2 : l2.length ≤ l1.length := by omega
    clear hlen
    go_enter Tryz.func11, Tryz.ntmps11
    go_wp2_with fail
    go_loopw [5] (fun i wr => SameRel l1 l2 w i wr) (fun i _ => l1.length - (intOf i).toNat)
    case atStart => exact ⟨0, Nat.zero_le _, rfl, rfl, .refl _ _⟩
    case round =>
      obtain ⟨j, hj, rfl, hpre, hb⟩ := hrel
      have HPRE := Lib.hid hpre
      clear hpre
      by_cases hlt : j < l1.length
      · have hlt2 : j < l2.length := by omega
        obtain ⟨g1, o1, s1, sb1, e1, r1, q1, t1, a2, n2, c2, rfl, hg1, ⟨x0, x1, x2, x3, x4⟩, hx⟩ := HAT1.out j hlt
        obtain ⟨g2, o2, s2, sb2, e2, r2, q2, t2, a2', n2', c2', rfl, hg2, ⟨y0, y1, y2, y3, y4⟩, hy⟩ := HAT2.out j hlt2
        rw [← hb.cell (p := ⟨g1, _, none⟩) hg1] at x0 x1 x2 x3 x4
        rw [← hb.cell (p := ⟨g2, _, none⟩) hg2] at y0 y1 y2 y3 y4
        have hs := hb.size
        have hw1 : g1 < wr.heap.size := by omega
        have hw2 : g2 < wr.heap.size := by omega
        obtain ⟨nn1, tt1, ps1, bd1, he1, rfl, rfl, hl1, hb1⟩ := (IsMe.kept (kept_any hb) hx).flds
        obtain ⟨nn2, tt2, ps2, bd2, he2, rfl, rfl, hl2, hb2'⟩ := (IsMe.kept (kept_any hb) hy).flds
        have H1 : Hid (∀ x, Below wr.heap.size wr x → IsList Any x 2 IsFld ps1 (.slice e1 r1 q1)) := fun x hx => hl1.kept (kept_any hx) (by omega) fun _ _ _ h => h
        have H2 : Hid (∀ x, Below wr.heap.size wr x → IsList Any x 2 IsFld ps2 (.slice e2 r2 q2)) := fun x hx => hl2.kept (kept_any hx) (by omega) fun _ _ _ h => h
        have H3 : Hid (∀ x, Below wr.heap.size wr x → IsList Any x 6 (IsSt Any x d) bd1 (.slice a2 n2 c2)) := fun x hx => hb1.kept (kept_any hx) (by omega) fun _ _ _ => IsSt.kept (kept_any hx) _ _ _
        have H4 : Hid (∀ x, Below wr.heap.size wr x → IsList Any x 6 (IsSt Any x d) bd2 (.slice a2' n2' c2')) := fun x hx => hb2'.kept (kept_any hx) (by omega) fun _ _ _ => IsSt.kept (kept_any hx) _ _ _
        have HE1 := Lib.hid he1
        have HE2 := Lib.hid he2
        have HB := Lib.hid hb
        clear hb hx hy hl1 hl2 hb1 hb2' he1 he2
        have hj1 : (j : Int) < (l1.length : Int) := by omega
        have hj2 : (j : Int) < (l2.length : Int) := by omega
        have hj0 : (0 : Int) ≤ (j : Int) := by omega
        by_cases hq : nn1 = nn2
        rotate_left
        · have HNE : Hid (l1[j] ≠ l2[j]) := by show _ ≠ _; rw [HE1.out, HE2.out]; intro e; injection e; exact hq ‹_›
          obtain ⟨q, q'⟩ := str_ne hq
          clear hq
          go_wp2_with fail
          go_region
          all_goals
            go_wp2_with fail
            go_ret
            exact ⟨HB.out.trans ((((((Below.refl _ _).alloc (Nat.le_refl _) _).alloc (by simp) _).drew)).mono HB.out.size), false, rfl, by simp; exact differ hlt hlt2 (HNE.out)⟩
        subst hq
        by_cases hq : sb1 = sb2
        rotate_left
        · have HNE : Hid (l1[j] ≠ l2[j]) := by show _ ≠ _; rw [HE1.out, HE2.out]; intro e; injection e; exact hq ‹_›
          have q : (sb1 != sb2) = true := by rw [bne_iff_ne]; exact hq
          have q2 : (sb1 == sb2) = false := by rw [beq_eq_false_iff_ne]; exact hq
          have q3 : (sb1 ^^ sb2) = true := by revert hq; cases sb1 <;> cases sb2 <;> simp
          clear hq
          go_wp2_with fail
          go_region
          all_goals
            go_wp2_with fail
            go_ret
            exact ⟨HB.out.trans ((((((Below.refl _ _).alloc (Nat.le_refl _) _).alloc (by simp) _).drew)).mono HB.out.size), false, rfl, by simp; exact differ hlt hlt2 (HNE.out)⟩
        subst hq
        by_cases hq : tt1 = tt2
        rotate_left
        · have HNE : Hid (l1[j] ≠ l2[j]) := by show _ ≠ _; rw [HE1.out, HE2.out]; intro e; injection e; exact hq ‹_›
          obtain ⟨q, q'⟩ := str_ne hq
          clear hq
          go_wp2_with fail
          go_region
          all_goals
            go_wp2_with fail
            go_ret
            exact ⟨HB.out.trans ((((((Below.refl _ _).alloc (Nat.le_refl _) _).alloc (by simp) _).drew)).mono HB.out.size), false, rfl, by simp; exact differ hlt hlt2 (HNE.out)⟩
        subst hq
        go_wp2_with fail
        go_region
        · go_wp2_with fail
          refine (ref_SameFields _ _ _ _ _ _ _ _ _ (H1.out _ (((((Below.refl _ _).alloc (Nat.le_refl _) _).alloc (by simp) _).drew))) (H2.out _ (((((Below.refl _ _).alloc (Nat.le_refl _) _).alloc (by simp) _).drew)))).mono ?_
          rintro e w2 ⟨hb2, b, rfl, hbi⟩
          have hs2 : wr.heap.size + 1 + 1 ≤ w2.heap.size := by have := hb2.size; simp at this; omega
          have HW2 := Lib.hid ((((((Below.refl _ _).alloc (Nat.le_refl _) _).alloc (by simp) _).drew)).trans (hb2.mono (by simp; omega)))
          have HBI := Lib.hid hbi
          have uw24 : w2.cell? ⟨wr.heap.size, 4, none⟩ = some (.slice a2 n2 c2) := (hb2.cell (p := ⟨wr.heap.size, 4, none⟩) (by simp <;> omega)).trans (by simp [go_sem])
          have vw24 : w2.cell? ⟨wr.heap.size + 1, 4, none⟩ = some (.slice a2' n2' c2') := (hb2.cell (p := ⟨wr.heap.size + 1, 4, none⟩) (by simp <;> omega)).trans (by simp [go_sem])
          clear hb2 hbi
          cases b
          · go_wp2_with fail
            go_ret
            refine ⟨HB.out.trans (HW2.out.mono HB.out.size), false, rfl, ?_⟩
            simp
            refine differ hlt hlt2 ?_
            rw [HE1.out, HE2.out]; intro e; injection e; exact absurd (HBI.out.2 ‹_›) (by decide)
          go_wp2_with fail
          refine (ref_SameStmts d _ _ _ _ _ _ _ _ _ (H3.out _ HW2.out) (H4.out _ HW2.out)).mono ?_
          rintro e w3 ⟨hb3, b, rfl, hbj⟩
          have HW3 := Lib.hid (HW2.out.trans (hb3.mono (by omega)))
          have HBJ := Lib.hid hbj
          clear hb3 hbj uw24 vw24
          cases b
          · go_wp2_with fail
            go_ret
            refine ⟨HB.out.trans (HW3.out.mono HB.out.size), false, rfl, ?_⟩
            simp
            refine differ hlt hlt2 ?_
            rw [HE1.out, HE2.out]; intro e; injection e; exact absurd (HBJ.out.2 ‹_›) (by decide)
          go_wp2_with fail
          go_roundw
          case rel =>
            refine ⟨j + 1, by omega, by go_num, ?_, HB.out.trans (HW3.out.mono HB.out.size)⟩
            rw [List.take_succ_eq_append_getElem hlt, List.take_succ_eq_append_getElem hlt2, HPRE.out, HE1.out, HE2.out, HBI.out.1 (by simp), HBJ.out.1 (by simp)]
          case measure => simp [intOf]; omega
        · go_wp2_with fail
          refine (ref_SameFields _ _ _ _ _ _ _ _ _ (H1.out _ (((((Below.refl _ _).alloc (Nat.le_refl _) _).alloc (by simp) _).drew))) (H2.out _ (((((Below.refl _ _).alloc (Nat.le_refl _) _).alloc (by simp) _).drew)))).mono ?_
          rintro e w2 ⟨hb2, b, rfl, hbi⟩
          have hs2 : wr.heap.size + 1 + 1 ≤ w2.heap.size := by have := hb2.size; simp at this; omega
          have HW2 := Lib.hid ((((((Below.refl _ _).alloc (Nat.le_refl _) _).alloc (by simp) _).drew)).trans (hb2.mono (by simp; omega)))
          have HBI := Lib.hid hbi
          have uw24 : w2.cell? ⟨wr.heap.size, 4, none⟩ = some (.slice a2' n2' c2') := (hb2.cell (p := ⟨wr.heap.size, 4, none⟩) (by simp <;> omega)).trans (by simp [go_sem])
          have vw24 : w2.cell? ⟨wr.heap.size + 1, 4, none⟩ = some (.slice a2 n2 c2) := (hb2.cell (p := ⟨wr.heap.size + 1, 4, none⟩) (by simp <;> omega)).trans (by simp [go_sem])
          clear hb2 hbi
          cases b
          · go_wp2_with fail
            go_ret
            refine ⟨HB.out.trans (HW2.out.mono HB.out.size), false, rfl, ?_⟩
            simp
            refine differ hlt hlt2 ?_
            rw [HE1.out, HE2.out]; intro e; injection e; exact absurd (HBI.out.2 ‹_›) (by decide)
          go_wp2_with fail
          refine (ref_SameStmts d _ _ _ _ _ _ _ _ _ (H3.out _ HW2.out) (H4.out _ HW2.out)).mono ?_
          rintro e w3 ⟨hb3, b, rfl, hbj⟩
          have HW3 := Lib.hid (HW2.out.trans (hb3.mono (by omega)))
          have HBJ := Lib.hid hbj
          clear hb3 hbj uw24 vw24
          cases b
          · go_wp2_with fail
            go_ret
            refine ⟨HB.out.trans (HW3.out.mono HB.out.size), false, rfl, ?_⟩
            simp
            refine differ hlt hlt2 ?_
            rw [HE1.out, HE2.out]; intro e; injection e; exact absurd (HBJ.out.2 ‹_›) (by decide)
          go_wp2_with fail
          go_roundw
          case rel =>
            refine ⟨j + 1, by omega, by go_num, ?_, HB.out.trans (HW3.out.mono HB.out.size)⟩
            rw [List.take_succ_eq_append_getElem hlt, List.take_succ_eq_append_getElem hlt2, HPRE.out, HE1.out, HE2.out, HBI.out.1 (by simp), HBJ.out.1 (by simp)]
          case measure => simp [intOf]; omega
      · have HB := Lib.hid hb
        clear hb
        go_wp2_with fail
        go_ret
        refine ⟨HB.out, true, rfl, ?_⟩
        simp only [true_iff]
        have hp := HPRE.out
        rw [List.take_of_length_le (by omega), List.take_of_length_le (by omega)] at hp
        exact hp
  · have hle : ((l1.length : Int) != (l2.length : Int)) = true := by rw [bne_iff_ne]; omega
    have HL := Lib.hid hlen
    clear hlen
    go_enter Tryz.func11, Tryz.ntmps11
    go_wp2_with fail
    go_ret
    exact ⟨.refl _ _, false, rfl, by simp; intro h; exact HL.out (by rw [h])⟩
end Go.Proofs.YthjonkommphkkaaGreatDoor
namespace Go.Proofs.YthjonkommphkkaaGreatDoor
open Lx Go.RowKit
def SameRelB {α : Type} (l1 l2 : List α) (v1 v2 : Value) (w : World) (i : Value) (wr : World) : Prop := ∃ n : Nat, n ≤ l1.length ∧ i = .int .i64 (n : Int) ∧ l1.take n = l2.take n ∧ Below w.heap.size w wr ∧ w.heap.size + 2 ≤ wr.heap.size ∧ wr.cell? ⟨w.heap.size, 0, none⟩ = some v1 ∧ wr.cell? ⟨w.heap.size + 1, 0, none⟩ = some v2
set_option maxHeartbeats 4000000 in
theorem ref_Same (d : Nat) (l1 l2 : List Cl) (a1 : Option Addr) (n1 c1 : Nat) (a2 : Option Addr) (n2 c2 : Nat) (w : World) (h1 : IsList Any w 4 (IsCl Any w d) l1 (.slice a1 n1 c1)) (h2 : IsList Any w 4 (IsCl Any w d) l2 (.slice a2 n2 c2)) :
    Calls Tryz.prog 8 #[.agg #[.slice a1 n1 c1], .agg #[.slice a2 n2 c2]] w (SameOut w (l1 = l2)) := by
  obtain ⟨rfl, hm1, hat1⟩ := h1.clAt
  obtain ⟨rfl, hm2, hat2⟩ := h2.clAt
  unfold maxLen at hm1 hm2
  have HAT1 := Lib.hid hat1
  have HAT2 := Lib.hid hat2
  clear h1 h2 hat1 hat2
  by_cases hlen : l1.length = l2.length
  · have hle : ((l1.length : Int) != (l2.length : Int)) = false := by rw [bne_eq_false_iff_eq]; omega
    have hle1 : l1.length ≤ l2.length := by omega
    have hle2 : l2.length ≤ l1.length := by omega
    clear hlen
    go_enter Tryz.func8, Tryz.ntmps8
    go_wp2_with fail
    go_loopw [5] (fun i wr => SameRelB l1 l2 (.slice a1 l1.length c1) (.slice a2 l2.length c2) w i wr) (fun i _ => l1.length - (intOf i).toNat)
    case atStart => exact ⟨0, Nat.zero_le _, rfl, rfl, ((Below.refl _ _).alloc (Nat.le_refl _) _).alloc (by simp) _, by simp, by simp [go_sem], by simp [go_sem]⟩
    case round =>
      obtain ⟨j, hj, rfl, hpre, hb, hsz, bx1, bx2⟩ := hrel
      have HPRE := Lib.hid hpre
      clear hpre
      by_cases hlt : j < l1.length
      · have hlt2 : j < l2.length := by omega
        obtain ⟨g1, o1, s1, t1, e1, r1, q1, a2, n2, c2', rfl, hg1, ⟨x0, x1, x2, x3⟩, hx⟩ := HAT1.out j hlt
        obtain ⟨g2, o2, s2, t2, e2, r2, q2, a2', n2', c2'', rfl, hg2, ⟨y0, y1, y2, y3⟩, hy⟩ := HAT2.out j hlt2
        rw [← hb.cell (p := ⟨g1, _, none⟩) hg1] at x0 x1 x2 x3
        rw [← hb.cell (p := ⟨g2, _, none⟩) hg2] at y0 y1 y2 y3
        have hs := hb.size
        have hw1 : g1 < wr.heap.size := by omega
        have hw2 : g2 < wr.heap.size := by omega
        obtain ⟨nn1, tt1, ps1, bd1, he1, rfl, rfl, hl1, hb1⟩ := (IsCl.kept (kept_any hb) hx).flds
        obtain ⟨nn2, tt2, ps2, bd2, he2, rfl, rfl, hl2, hb2'⟩ := (IsCl.kept (kept_any hb) hy).flds
        have H1 : Hid (∀ x, Below wr.heap.size wr x → IsList Any x 2 IsFld ps1 (.slice e1 r1 q1)) := fun x hx => hl1.kept (kept_any hx) (by omega) fun _ _ _ h => h
        have H2 : Hid (∀ x, Below wr.heap.size wr x → IsList Any x 2 IsFld ps2 (.slice e2 r2 q2)) := fun x hx => hl2.kept (kept_any hx) (by omega) fun _ _ _ h => h
        have H3 : Hid (∀ x, Below wr.heap.size wr x → IsList Any x 5 (IsMe Any x d) bd1 (.slice a2 n2 c2')) := fun x hx => hb1.kept (kept_any hx) (by omega) fun _ _ _ => IsMe.kept (kept_any hx)
        have H4 : Hid (∀ x, Below wr.heap.size wr x → IsList Any x 5 (IsMe Any x d) bd2 (.slice a2' n2' c2'')) := fun x hx => hb2'.kept (kept_any hx) (by omega) fun _ _ _ => IsMe.kept (kept_any hx)
        have HE1 := Lib.hid he1
        have HE2 := Lib.hid he2
        have HB := Lib.hid hb
        have BX1 := Lib.hid bx1
        have BX2 := Lib.hid bx2
        clear hb hx hy hl1 hl2 hb1 hb2' he1 he2
        have hj1 : (j : Int) < (l1.length : Int) := by omega
        have hj2 : (j : Int) < (l2.length : Int) := by omega
        have hj0 : (0 : Int) ≤ (j : Int) := by omega
        have hz1 : w.heap.size < wr.heap.size := by omega
        have hz2 : w.heap.size + 1 < wr.heap.size := by omega
        by_cases hq : nn1 = nn2
        rotate_left
        · have HNE : Hid (l1[j] ≠ l2[j]) := by show _ ≠ _; rw [HE1.out, HE2.out]; intro e; injection e; exact hq ‹_›
          obtain ⟨q, q'⟩ := str_ne hq
          clear hq
          go_wp2_with fail
          go_region
          all_goals
            go_wp2_with fail
            go_ret
            exact ⟨HB.out.trans ((((((Below.refl _ _).alloc (Nat.le_refl _) _).alloc (by simp) _).drew)).mono hs), false, rfl, by simp; exact differ hlt hlt2 (HNE.out)⟩
        subst hq
        by_cases hq : tt1 = tt2
        rotate_left
        · have HNE : Hid (l1[j] ≠ l2[j]) := by show _ ≠ _; rw [HE1.out, HE2.out]; intro e; injection e; exact hq ‹_›
          obtain ⟨q, q'⟩ := str_ne hq
          clear hq
          go_wp2_with fail
          go_region
          all_goals
            go_wp2_with fail
            go_ret
            exact ⟨HB.out.trans ((((((Below.refl _ _).alloc (Nat.le_refl _) _).alloc (by simp) _).drew)).mono hs), false, rfl, by simp; exact differ hlt hlt2 (HNE.out)⟩
        subst hq
        go_wp2_with fail
        go_region
        · go_wp2_with fail
          refine (ref_SameFields _ _ _ _ _ _ _ _ _ (H1.out _ (((((Below.refl _ _).alloc (Nat.le_refl _) _).alloc (by simp) _).drew))) (H2.out _ (((((Below.refl _ _).alloc (Nat.le_refl _) _).alloc (by simp) _).drew)))).mono ?_
          rintro e w2 ⟨hb2, b, rfl, hbi⟩
          have hs2 : wr.heap.size + 1 + 1 ≤ w2.heap.size := by have := hb2.size; simp at this; omega
          have HW2 := Lib.hid ((((((Below.refl _ _).alloc (Nat.le_refl _) _).alloc (by simp) _).drew)).trans (hb2.mono (by simp; omega)))
          have HBI := Lib.hid hbi
          have uw23 : w2.cell? ⟨wr.heap.size, 3, none⟩ = some (.slice a2 n2 c2') := (hb2.cell (p := ⟨wr.heap.size, 3, none⟩) (by simp <;> omega)).trans (by simp [go_sem])
          have vw23 : w2.cell? ⟨wr.heap.size + 1, 3, none⟩ = some (.slice a2' n2' c2'') := (hb2.cell (p := ⟨wr.heap.size + 1, 3, none⟩) (by simp <;> omega)).trans (by simp [go_sem])
          clear hb2 hbi
          cases b
          · go_wp2_with fail
            go_ret
            refine ⟨HB.out.trans (HW2.out.mono hs), false, rfl, ?_⟩
            simp
            refine differ hlt hlt2 ?_
            rw [HE1.out, HE2.out]; intro e; injection e; exact absurd (HBI.out.2 ‹_›) (by decide)
          go_wp2_with fail
          refine (ref_SameMethods d _ _ _ _ _ _ _ _ _ (H3.out _ HW2.out) (H4.out _ HW2.out)).mono ?_
          rintro e w3 ⟨hb3, b, rfl, hbj⟩
          have HW3 := Lib.hid (HW2.out.trans (hb3.mono (by omega)))
          have HBJ := Lib.hid hbj
          have bz1 : w3.cell? ⟨w.heap.size, 0, none⟩ = some (.slice (some ⟨g1, o1, none⟩) l1.length c1) := (HW3.out.cell (p := ⟨w.heap.size, 0, none⟩) (by show w.heap.size < _; omega)).trans BX1.out
          have bz2 : w3.cell? ⟨w.heap.size + 1, 0, none⟩ = some (.slice (some ⟨g2, o2, none⟩) l2.length c2) := (HW3.out.cell (p := ⟨w.heap.size + 1, 0, none⟩) (by show w.heap.size + 1 < _; omega)).trans BX2.out
          have hs3 := HW3.out.size
          clear hb3 hbj uw23 vw23
          cases b
          · go_wp2_with fail
            go_ret
            refine ⟨HB.out.trans (HW3.out.mono hs), false, rfl, ?_⟩
            simp
            refine differ hlt hlt2 ?_
            rw [HE1.out, HE2.out]; intro e; injection e; exact absurd (HBJ.out.2 ‹_›) (by decide)
          have BZ1 := Lib.hid bz1
          have BZ2 := Lib.hid bz2
          clear bz1 bz2
          go_wp2_with fail
          go_roundw
          case rel =>
            refine ⟨j + 1, by omega, by go_num, ?_, HB.out.trans (HW3.out.mono hs), by omega, BZ1.out, BZ2.out⟩
            rw [List.take_succ_eq_append_getElem hlt, List.take_succ_eq_append_getElem hlt2, HPRE.out, HE1.out, HE2.out, HBI.out.1 (by simp), HBJ.out.1 (by simp)]
          case measure => simp [intOf]; omega
        · go_wp2_with fail
          refine (ref_SameFields _ _ _ _ _ _ _ _ _ (H1.out _ (((((Below.refl _ _).alloc (Nat.le_refl _) _).alloc (by simp) _).drew))) (H2.out _ (((((Below.refl _ _).alloc (Nat.le_refl _) _).alloc (by simp) _).drew)))).mono ?_
          rintro e w2 ⟨hb2, b, rfl, hbi⟩
          have hs2 : wr.heap.size + 1 + 1 ≤ w2.heap.size := by have := hb2.size; simp at this; omega
          have HW2 := Lib.hid ((((((Below.refl _ _).alloc (Nat.le_refl _) _).alloc (by simp) _).drew)).trans (hb2.mono (by simp; omega)))
          have HBI := Lib.hid hbi
          have uw23 : w2.cell? ⟨wr.heap.size, 3, none⟩ = some (.slice a2' n2' c2'') := (hb2.cell (p := ⟨wr.heap.size, 3, none⟩) (by simp <;> omega)).trans (by simp [go_sem])
          have vw23 : w2.cell? ⟨wr.heap.size + 1, 3, none⟩ = some (.slice a2 n2 c2') := (hb2.cell (p := ⟨wr.heap.size + 1, 3, none⟩) (by simp <;> omega)).trans (by simp [go_sem])
          clear hb2 hbi
          cases b
          · go_wp2_with fail
            go_ret
            refine ⟨HB.out.trans (HW2.out.mono hs), false, rfl, ?_⟩
            simp
            refine differ hlt hlt2 ?_
            rw [HE1.out, HE2.out]; intro e; injection e; exact absurd (HBI.out.2 ‹_›) (by decide)
          go_wp2_with fail
          refine (ref_SameMethods d _ _ _ _ _ _ _ _ _ (H3.out _ HW2.out) (H4.out _ HW2.out)).mono ?_
          rintro e w3 ⟨hb3, b, rfl, hbj⟩
          have HW3 := Lib.hid (HW2.out.trans (hb3.mono (by omega)))
          have HBJ := Lib.hid hbj
          have bz1 : w3.cell? ⟨w.heap.size, 0, none⟩ = some (.slice (some ⟨g1, o1, none⟩) l1.length c1) := (HW3.out.cell (p := ⟨w.heap.size, 0, none⟩) (by show w.heap.size < _; omega)).trans BX1.out
          have bz2 : w3.cell? ⟨w.heap.size + 1, 0, none⟩ = some (.slice (some ⟨g2, o2, none⟩) l2.length c2) := (HW3.out.cell (p := ⟨w.heap.size + 1, 0, none⟩) (by show w.heap.size + 1 < _; omega)).trans BX2.out
          have hs3 := HW3.out.size
          clear hb3 hbj uw23 vw23
          cases b
          · go_wp2_with fail
            go_ret
            refine ⟨HB.out.trans (HW3.out.mono hs), false, rfl, ?_⟩
            simp
            refine differ hlt hlt2 ?_
            rw [HE1.out, HE2.out]; intro e; injection e; exact absurd (HBJ.out.2 ‹_›) (by decide)
          have BZ1 := Lib.hid bz1
          have BZ2 := Lib.hid bz2
          clear bz1 bz2
          go_wp2_with fail
          go_roundw
          case rel =>
            refine ⟨j + 1, by omega, by go_num, ?_, HB.out.trans (HW3.out.mono hs), by omega, BZ1.out, BZ2.out⟩
            rw [List.take_succ_eq_append_getElem hlt, List.take_succ_eq_append_getElem hlt2, HPRE.out, HE1.out, HE2.out, HBI.out.1 (by simp), HBJ.out.1 (by simp)]
          case measure => simp [intOf]; omega
      · have HB := Lib.hid hb
        clear hb
        go_wp2_with fail
        go_ret
        refine ⟨HB.out, true, rfl, ?_⟩
        simp only [true_iff]
        have hp := HPRE.out
        rw [List.take_of_length_le (by omega), List.take_of_length_le (by omega)] at hp
        exact hp
  · have hle : ((l1.length : Int) != (l2.length : Int)) = true := by rw [bne_iff_ne]; omega
    have HL := Lib.hid hlen
    clear hlen
    go_enter Tryz.func8, Tryz.ntmps8
    go_wp2_with fail
    go_ret
    exact ⟨((Below.refl _ _).alloc (Nat.le_refl _) _).alloc (by simp) _, false, rfl, by simp; intro h; exact HL.out (by rw [h])⟩
end Go.Proofs.YthjonkommphkkaaGreatDoor
