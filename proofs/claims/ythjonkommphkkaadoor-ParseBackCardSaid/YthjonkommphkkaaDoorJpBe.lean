/-
  ref08's SameStmts, walked (printed by gensame.py).
-/
import Derived.Test.YthjonkommphkkaaDoorJpBd
import Derived.Test.YthjonkommphkkaaDoorOldAx
import Derived.Test.YthjonkommphkkaaDoorJpAn
set_option linter.unusedSectionVars false
set_option linter.unusedSimpArgs false
set_option linter.unnecessarySimpa false
set_option linter.unusedVariables false
namespace Go.Proofs.YthjonkommphkkaaDoor
open Lx Go.RowKit
set_option maxHeartbeats 4000000 in
theorem ref_SameStmts (d : Nat) : ∀ (l1 l2 : List St) (a1 : Option Addr) (n1 c1 : Nat) (a2 : Option Addr) (n2 c2 : Nat) (w : World), IsList Any w 6 (IsSt Any w d) l1 (.slice a1 n1 c1) → IsList Any w 6 (IsSt Any w d) l2 (.slice a2 n2 c2) →
    Calls Tryd.prog 28 #[.slice a1 n1 c1, .slice a2 n2 c2] w (SameOut w (l1 = l2)) := by
  induction d with
  | zero =>
    intro l1 l2 a1 n1 c1 a2 n2 c2 w h1 h2
    obtain ⟨rfl, hm1, hat1⟩ := h1.stAt
    obtain ⟨rfl, hm2, hat2⟩ := h2.stAt
    cases l1 with
    | cons x l => obtain ⟨_, _, _, _, _, _, _, _, _, _, _, _, _, _, _, _, _, hx⟩ := hat1 0 (by simp); exact absurd hx (by simp [IsSt])
    | nil =>
      cases l2 with
      | cons x l => obtain ⟨_, _, _, _, _, _, _, _, _, _, _, _, _, _, _, _, _, hx⟩ := hat2 0 (by simp); exact absurd hx (by simp [IsSt])
      | nil =>
        clear h1 h2 hat1 hat2
        go_enter Tryd.func28, Tryd.ntmps28
        go_wp2_with fail
        go_loopw [5] (fun i wr => SameRel ([] : List St) [] w i wr) (fun i _ => 0 - (intOf i).toNat)
        case atStart => exact ⟨0, Nat.zero_le _, rfl, rfl, .refl _ _⟩
        case round =>
          obtain ⟨j, hj, rfl, _, hb⟩ := hrel
          obtain rfl : j = 0 := by simpa using hj
          have HB := Lib.hid hb
          clear hb
          go_wp2_with fail
          go_ret
          exact ⟨HB.out, true, rfl, by simp⟩
  | succ d ih =>
    intro l1 l2 a1 n1 c1 a2 n2 c2 w h1 h2
    obtain ⟨rfl, hm1, hat1⟩ := h1.stAt
    obtain ⟨rfl, hm2, hat2⟩ := h2.stAt
    unfold maxLen at hm1 hm2
    have HAT1 := Lib.hid hat1
    have HAT2 := Lib.hid hat2
    have IH := Lib.hid ih
    clear h1 h2 hat1 hat2 ih
    by_cases hlen : l1.length = l2.length
    · have hle : ((l1.length : Int) != (l2.length : Int)) = false := by rw [bne_eq_false_iff_eq]; omega
      have hle1 : l1.length ≤ l2.length := by omega
      have hle2 : l2.length ≤ l1.length := by omega
      clear hlen
      go_enter Tryd.func28, Tryd.ntmps28
      go_wp2_with fail
      go_loopw [5] (fun i wr => SameRel l1 l2 w i wr) (fun i _ => l1.length - (intOf i).toNat)
      case atStart => exact ⟨0, Nat.zero_le _, rfl, rfl, .refl _ _⟩
      case round =>
        obtain ⟨j, hj, rfl, hpre, hb⟩ := hrel
        have HPRE := Lib.hid hpre
        clear hpre
        by_cases hlt : j < l1.length
        · have hlt2 : j < l2.length := by omega
          obtain ⟨g1, o1, k1, s1, t1, e1, r1, q1, a2, n2, c2, a3, n3, c3, rfl, hg1, ⟨x0, x1, x2, x3, x4, x5⟩, hx⟩ := HAT1.out j hlt
          obtain ⟨g2, o2, k2, s2, t2, e2, r2, q2, a2', n2', c2', a3', n3', c3', rfl, hg2, ⟨y0, y1, y2, y3, y4, y5⟩, hy⟩ := HAT2.out j hlt2
          rw [← hb.cell (p := ⟨g1, _, none⟩) hg1] at x0 x1 x2 x3 x4 x5
          rw [← hb.cell (p := ⟨g2, _, none⟩) hg2] at y0 y1 y2 y3 y4 y5
          have hs := hb.size
          have hw1 : g1 < wr.heap.size := by omega
          have hw2 : g2 < wr.heap.size := by omega
          obtain ⟨nn1, tt1, es1, bd1, el1, he1, rfl, rfl, hl1, hb1, hr1⟩ := (IsSt.kept (kept_any hb) _ _ _ hx).flds
          obtain ⟨nn2, tt2, es2, bd2, el2, he2, rfl, rfl, hl2, hb2', hr2⟩ := (IsSt.kept (kept_any hb) _ _ _ hy).flds
          have H1 : Hid (∀ x, Below wr.heap.size wr x → IsList Any x 5 (IsEx Any x d) es1 (.slice e1 r1 q1)) := fun x hx => hl1.kept (kept_any hx) (by omega) fun _ _ _ => IsEx.kept (kept_any hx) _ _ _
          have H2 : Hid (∀ x, Below wr.heap.size wr x → IsList Any x 5 (IsEx Any x d) es2 (.slice e2 r2 q2)) := fun x hx => hl2.kept (kept_any hx) (by omega) fun _ _ _ => IsEx.kept (kept_any hx) _ _ _
          have H3 : Hid (∀ x, Below wr.heap.size wr x → IsList Any x 6 (IsSt Any x d) bd1 (.slice a2 n2 c2)) := fun x hx => hb1.kept (kept_any hx) (by omega) fun _ _ _ => IsSt.kept (kept_any hx) _ _ _
          have H4 : Hid (∀ x, Below wr.heap.size wr x → IsList Any x 6 (IsSt Any x d) bd2 (.slice a2' n2' c2')) := fun x hx => hb2'.kept (kept_any hx) (by omega) fun _ _ _ => IsSt.kept (kept_any hx) _ _ _
          have H5 : Hid (∀ x, Below wr.heap.size wr x → IsList Any x 6 (IsSt Any x d) el1 (.slice a3 n3 c3)) := fun x hx => hr1.kept (kept_any hx) (by omega) fun _ _ _ => IsSt.kept (kept_any hx) _ _ _
          have H6 : Hid (∀ x, Below wr.heap.size wr x → IsList Any x 6 (IsSt Any x d) el2 (.slice a3' n3' c3')) := fun x hx => hr2.kept (kept_any hx) (by omega) fun _ _ _ => IsSt.kept (kept_any hx) _ _ _
          have HE1 := Lib.hid he1
          have HE2 := Lib.hid he2
          have HB := Lib.hid hb
          clear hb hx hy hl1 hl2 hb1 hb2' hr1 hr2 he1 he2
          have hj1 : (j : Int) < (l1.length : Int) := by omega
          have hj2 : (j : Int) < (l2.length : Int) := by omega
          have hj0 : (0 : Int) ≤ (j : Int) := by omega
          by_cases hq : k1 = k2
          rotate_left
          · have HNE : Hid (l1[j] ≠ l2[j]) := by show _ ≠ _; rw [HE1.out, HE2.out]; intro e; injection e; exact hq ‹_›
            have q : (k1 != k2) = true := by rw [bne_iff_ne]; exact hq
            clear hq
            go_wp2_with fail
            go_region
            all_goals
              go_wp2_with fail
              go_ret
              exact ⟨HB.out.trans ((((((Below.refl _ _).alloc (Nat.le_refl _) _).alloc (by simp) _).drew)).mono HB.out.size), false, rfl, by simp; exact differ hlt hlt2 (HNE.out)⟩
          subst hq
          by_cases hq : nn1 = nn2
          rotate_left
          · have HNE : Hid (l1[j] ≠ l2[j]) := by show _ ≠ _; rw [HE1.out, HE2.out]; intro e; injection e; exact hq ‹_›
            obtain ⟨q, q'⟩ := str_ne hq
            clear hq
            go_wp2_with fail
            go_region
            all_goals
              go_wp2_with fail
              go_ret
              exact ⟨HB.out.trans ((((((Below.refl _ _).alloc (Nat.le_refl _) _).alloc (by simp) _).drew)).mono HB.out.size), false, rfl, by simp; exact differ hlt hlt2 (HNE.out)⟩
          subst hq
          by_cases hq : tt1 = tt2
          rotate_left
          · have HNE : Hid (l1[j] ≠ l2[j]) := by show _ ≠ _; rw [HE1.out, HE2.out]; intro e; injection e; exact hq ‹_›
            obtain ⟨q, q'⟩ := str_ne hq
            clear hq
            go_wp2_with fail
            go_region
            all_goals
              go_wp2_with fail
              go_ret
              exact ⟨HB.out.trans ((((((Below.refl _ _).alloc (Nat.le_refl _) _).alloc (by simp) _).drew)).mono HB.out.size), false, rfl, by simp; exact differ hlt hlt2 (HNE.out)⟩
          subst hq
          go_wp2_with fail
          go_region
          · go_wp2_with fail
            refine (ref_SameExprs d _ _ _ _ _ _ _ _ _ (H1.out _ (((((Below.refl _ _).alloc (Nat.le_refl _) _).alloc (by simp) _).drew))) (H2.out _ (((((Below.refl _ _).alloc (Nat.le_refl _) _).alloc (by simp) _).drew)))).mono ?_
            rintro e w2 ⟨hb2, b, rfl, hbi⟩
            have hs2 : wr.heap.size + 1 + 1 ≤ w2.heap.size := by have := hb2.size; simp at this; omega
            have HW2 := Lib.hid ((((((Below.refl _ _).alloc (Nat.le_refl _) _).alloc (by simp) _).drew)).trans (hb2.mono (by simp; omega)))
            have HBI := Lib.hid hbi
            have uw24 : w2.cell? ⟨wr.heap.size, 4, none⟩ = some (.slice a2 n2 c2) := (hb2.cell (p := ⟨wr.heap.size, 4, none⟩) (by simp <;> omega)).trans (by simp [go_sem])
            have vw24 : w2.cell? ⟨wr.heap.size + 1, 4, none⟩ = some (.slice a2' n2' c2') := (hb2.cell (p := ⟨wr.heap.size + 1, 4, none⟩) (by simp <;> omega)).trans (by simp [go_sem])
            have uw25 : w2.cell? ⟨wr.heap.size, 5, none⟩ = some (.slice a3 n3 c3) := (hb2.cell (p := ⟨wr.heap.size, 5, none⟩) (by simp <;> omega)).trans (by simp [go_sem])
            have vw25 : w2.cell? ⟨wr.heap.size + 1, 5, none⟩ = some (.slice a3' n3' c3') := (hb2.cell (p := ⟨wr.heap.size + 1, 5, none⟩) (by simp <;> omega)).trans (by simp [go_sem])
            clear hb2 hbi
            cases b
            · go_wp2_with fail
              go_ret
              refine ⟨HB.out.trans (HW2.out.mono HB.out.size), false, rfl, ?_⟩
              simp
              refine differ hlt hlt2 ?_
              rw [HE1.out, HE2.out]; intro e; injection e; exact absurd (HBI.out.2 ‹_›) (by decide)
            go_wp2_with fail
            refine (IH.out _ _ _ _ _ _ _ _ _ (H3.out _ HW2.out) (H4.out _ HW2.out)).mono ?_
            rintro e w3 ⟨hb3, b, rfl, hbj⟩
            have HW3 := Lib.hid (HW2.out.trans (hb3.mono (by omega)))
            have HBJ := Lib.hid hbj
            have hs3 := hb3.size
            have uw35 : w3.cell? ⟨wr.heap.size, 5, none⟩ = some (.slice a3 n3 c3) := (hb3.cell (p := ⟨wr.heap.size, 5, none⟩) (by show wr.heap.size < w2.heap.size; omega)).trans uw25
            have vw35 : w3.cell? ⟨wr.heap.size + 1, 5, none⟩ = some (.slice a3' n3' c3') := (hb3.cell (p := ⟨wr.heap.size + 1, 5, none⟩) (by show wr.heap.size + 1 < w2.heap.size; omega)).trans vw25
            clear hb3 hbj uw24 uw25 vw24 vw25
            cases b
            · go_wp2_with fail
              go_ret
              refine ⟨HB.out.trans (HW3.out.mono HB.out.size), false, rfl, ?_⟩
              simp
              refine differ hlt hlt2 ?_
              rw [HE1.out, HE2.out]; intro e; injection e; exact absurd (HBJ.out.2 ‹_›) (by decide)
            go_wp2_with fail
            refine (IH.out _ _ _ _ _ _ _ _ _ (H5.out _ HW3.out) (H6.out _ HW3.out)).mono ?_
            rintro e w4 ⟨hb4, b, rfl, hbk⟩
            have HW4 := Lib.hid (HW3.out.trans (hb4.mono (by omega)))
            have HBK := Lib.hid hbk
            clear hb4 hbk uw35 vw35
            cases b
            · go_wp2_with fail
              go_ret
              refine ⟨HB.out.trans (HW4.out.mono HB.out.size), false, rfl, ?_⟩
              simp
              refine differ hlt hlt2 ?_
              rw [HE1.out, HE2.out]; intro e; injection e; exact absurd (HBK.out.2 ‹_›) (by decide)
            go_wp2_with fail
            go_roundw
            case rel =>
              refine ⟨j + 1, by omega, by go_num, ?_, HB.out.trans (HW4.out.mono HB.out.size)⟩
              rw [List.take_succ_eq_append_getElem hlt, List.take_succ_eq_append_getElem hlt2, HPRE.out, HE1.out, HE2.out, HBI.out.1 (by simp), HBJ.out.1 (by simp), HBK.out.1 (by simp)]
            case measure => simp [intOf]; omega
          · go_wp2_with fail
            refine (ref_SameExprs d _ _ _ _ _ _ _ _ _ (H1.out _ (((((Below.refl _ _).alloc (Nat.le_refl _) _).alloc (by simp) _).drew))) (H2.out _ (((((Below.refl _ _).alloc (Nat.le_refl _) _).alloc (by simp) _).drew)))).mono ?_
            rintro e w2 ⟨hb2, b, rfl, hbi⟩
            have hs2 : wr.heap.size + 1 + 1 ≤ w2.heap.size := by have := hb2.size; simp at this; omega
            have HW2 := Lib.hid ((((((Below.refl _ _).alloc (Nat.le_refl _) _).alloc (by simp) _).drew)).trans (hb2.mono (by simp; omega)))
            have HBI := Lib.hid hbi
            have uw24 : w2.cell? ⟨wr.heap.size, 4, none⟩ = some (.slice a2' n2' c2') := (hb2.cell (p := ⟨wr.heap.size, 4, none⟩) (by simp <;> omega)).trans (by simp [go_sem])
            have vw24 : w2.cell? ⟨wr.heap.size + 1, 4, none⟩ = some (.slice a2 n2 c2) := (hb2.cell (p := ⟨wr.heap.size + 1, 4, none⟩) (by simp <;> omega)).trans (by simp [go_sem])
            have uw25 : w2.cell? ⟨wr.heap.size, 5, none⟩ = some (.slice a3' n3' c3') := (hb2.cell (p := ⟨wr.heap.size, 5, none⟩) (by simp <;> omega)).trans (by simp [go_sem])
            have vw25 : w2.cell? ⟨wr.heap.size + 1, 5, none⟩ = some (.slice a3 n3 c3) := (hb2.cell (p := ⟨wr.heap.size + 1, 5, none⟩) (by simp <;> omega)).trans (by simp [go_sem])
            clear hb2 hbi
            cases b
            · go_wp2_with fail
              go_ret
              refine ⟨HB.out.trans (HW2.out.mono HB.out.size), false, rfl, ?_⟩
              simp
              refine differ hlt hlt2 ?_
              rw [HE1.out, HE2.out]; intro e; injection e; exact absurd (HBI.out.2 ‹_›) (by decide)
            go_wp2_with fail
            refine (IH.out _ _ _ _ _ _ _ _ _ (H3.out _ HW2.out) (H4.out _ HW2.out)).mono ?_
            rintro e w3 ⟨hb3, b, rfl, hbj⟩
            have HW3 := Lib.hid (HW2.out.trans (hb3.mono (by omega)))
            have HBJ := Lib.hid hbj
            have hs3 := hb3.size
            have uw35 : w3.cell? ⟨wr.heap.size, 5, none⟩ = some (.slice a3' n3' c3') := (hb3.cell (p := ⟨wr.heap.size, 5, none⟩) (by show wr.heap.size < w2.heap.size; omega)).trans uw25
            have vw35 : w3.cell? ⟨wr.heap.size + 1, 5, none⟩ = some (.slice a3 n3 c3) := (hb3.cell (p := ⟨wr.heap.size + 1, 5, none⟩) (by show wr.heap.size + 1 < w2.heap.size; omega)).trans vw25
            clear hb3 hbj uw24 uw25 vw24 vw25
            cases b
            · go_wp2_with fail
              go_ret
              refine ⟨HB.out.trans (HW3.out.mono HB.out.size), false, rfl, ?_⟩
              simp
              refine differ hlt hlt2 ?_
              rw [HE1.out, HE2.out]; intro e; injection e; exact absurd (HBJ.out.2 ‹_›) (by decide)
            go_wp2_with fail
            refine (IH.out _ _ _ _ _ _ _ _ _ (H5.out _ HW3.out) (H6.out _ HW3.out)).mono ?_
            rintro e w4 ⟨hb4, b, rfl, hbk⟩
            have HW4 := Lib.hid (HW3.out.trans (hb4.mono (by omega)))
            have HBK := Lib.hid hbk
            clear hb4 hbk uw35 vw35
            cases b
            · go_wp2_with fail
              go_ret
              refine ⟨HB.out.trans (HW4.out.mono HB.out.size), false, rfl, ?_⟩
              simp
              refine differ hlt hlt2 ?_
              rw [HE1.out, HE2.out]; intro e; injection e; exact absurd (HBK.out.2 ‹_›) (by decide)
            go_wp2_with fail
            go_roundw
            case rel =>
              refine ⟨j + 1, by omega, by go_num, ?_, HB.out.trans (HW4.out.mono HB.out.size)⟩
              rw [List.take_succ_eq_append_getElem hlt, List.take_succ_eq_append_getElem hlt2, HPRE.out, HE1.out, HE2.out, HBI.out.1 (by simp), HBJ.out.1 (by simp), HBK.out.1 (by simp)]
            case measure => simp [intOf]; omega
        · have HB := Lib.hid hb
          clear hb
          go_wp2_with fail
          go_ret
          refine ⟨HB.out, true, rfl, ?_⟩
          simp only [true_iff]
          have hp := HPRE.out
          rw [List.take_of_length_le (by omega), List.take_of_length_le (by omega)] at hp
          exact hp
    · have hle : ((l1.length : Int) != (l2.length : Int)) = true := by rw [bne_iff_ne]; omega
      have HL := Lib.hid hlen
      clear hlen
      go_enter Tryd.func28, Tryd.ntmps28
      go_wp2_with fail
      go_ret
      exact ⟨.refl _ _, false, rfl, by simp; intro h; exact HL.out (by rw [h])⟩
end Go.Proofs.YthjonkommphkkaaDoor
namespace Go.Proofs.YthjonkommphkkaaDoor
open Lx Go.RowKit
set_option maxHeartbeats 4000000 in
theorem ref_SameMethods (d : Nat) (l1 l2 : List Me) (a1 : Option Addr) (n1 c1 : Nat) (a2 : Option Addr) (n2 c2 : Nat) (w : World) (h1 : IsList Any w 5 (IsMe Any w d) l1 (.slice a1 n1 c1)) (h2 : IsList Any w 5 (IsMe Any w d) l2 (.slice a2 n2 c2)) :
    Calls Tryd.prog 16 #[.slice a1 n1 c1, .slice a2 n2 c2] w (SameOut w (l1 = l2)) := by
  obtain ⟨rfl, hm1, hat1⟩ := h1.meAt
  obtain ⟨rfl, hm2, hat2⟩ := h2.meAt
  unfold maxLen at hm1 hm2
  have HAT1 := Lib.hid hat1
  have HAT2 := Lib.hid hat2
  clear h1 h2 hat1 hat2
  by_cases hlen : l1.length = l2.length
  · have hle : ((l1.length : Int) != (l2.length : Int)) = false := by rw [bne_eq_false_iff_eq]; omega
    have hle1 : l1.length ≤ l2.length := by omega
    have hle2 : l2.length ≤ l1.length := by omega
    clear hlen
    go_enter Tryd.func16, Tryd.ntmps16
    go_wp2_with fail
    go_loopw [5] (fun i wr => SameRel l1 l2 w i wr) (fun i _ => l1.length - (intOf i).toNat)
    case atStart => exact ⟨0, Nat.zero_le _, rfl, rfl, .refl _ _⟩
    case round =>
      obtain ⟨j, hj, rfl, hpre, hb⟩ := hrel
      have HPRE := Lib.hid hpre
      clear hpre
      by_cases hlt : j < l1.length
      · have hlt2 : j < l2.length := by omega
        obtain ⟨g1, o1, s1, sb1, e1, r1, q1, t1, a2, n2, c2, rfl, hg1, ⟨x0, x1, x2, x3, x4⟩, hx⟩ := HAT1.out j hlt
        obtain ⟨g2, o2, s2, sb2, e2, r2, q2, t2, a2', n2', c2', rfl, hg2, ⟨y0, y1, y2, y3, y4⟩, hy⟩ := HAT2.out j hlt2
        rw [← hb.cell (p := ⟨g1, _, none⟩) hg1] at x0 x1 x2 x3 x4
        rw [← hb.cell (p := ⟨g2, _, none⟩) hg2] at y0 y1 y2 y3 y4
        have hs := hb.size
        have hw1 : g1 < wr.heap.size := by omega
        have hw2 : g2 < wr.heap.size := by omega
        obtain ⟨nn1, tt1, ps1, bd1, he1, rfl, rfl, hl1, hb1⟩ := (IsMe.kept (kept_any hb) hx).flds
        obtain ⟨nn2, tt2, ps2, bd2, he2, rfl, rfl, hl2, hb2'⟩ := (IsMe.kept (kept_any hb) hy).flds
        have H1 : Hid (∀ x, Below wr.heap.size wr x → IsList Any x 2 IsFld ps1 (.slice e1 r1 q1)) := fun x hx => hl1.kept (kept_any hx) (by omega) fun _ _ _ h => h
        have H2 : Hid (∀ x, Below wr.heap.size wr x → IsList Any x 2 IsFld ps2 (.slice e2 r2 q2)) := fun x hx => hl2.kept (kept_any hx) (by omega) fun _ _ _ h => h
        have H3 : Hid (∀ x, Below wr.heap.size wr x → IsList Any x 6 (IsSt Any x d) bd1 (.slice a2 n2 c2)) := fun x hx => hb1.kept (kept_any hx) (by omega) fun _ _ _ => IsSt.kept (kept_any hx) _ _ _
        have H4 : Hid (∀ x, Below wr.heap.size wr x → IsList Any x 6 (IsSt Any x d) bd2 (.slice a2' n2' c2')) := fun x hx => hb2'.kept (kept_any hx) (by omega) fun _ _ _ => IsSt.kept (kept_any hx) _ _ _
        have HE1 := Lib.hid he1
        have HE2 := Lib.hid he2
        have HB := Lib.hid hb
        clear hb hx hy hl1 hl2 hb1 hb2' he1 he2
        have hj1 : (j : Int) < (l1.length : Int) := by omega
        have hj2 : (j : Int) < (l2.length : Int) := by omega
        have hj0 : (0 : Int) ≤ (j : Int) := by omega
        by_cases hq : nn1 = nn2
        rotate_left
        · have HNE : Hid (l1[j] ≠ l2[j]) := by show _ ≠ _; rw [HE1.out, HE2.out]; intro e; injection e; exact hq ‹_›
          obtain ⟨q, q'⟩ := str_ne hq
          clear hq
          go_wp2_with fail
          go_region
          all_goals
            go_wp2_with fail
            go_ret
            exact ⟨HB.out.trans ((((((Below.refl _ _).alloc (Nat.le_refl _) _).alloc (by simp) _).drew)).mono HB.out.size), false, rfl, by simp; exact differ hlt hlt2 (HNE.out)⟩
        subst hq
        by_cases hq : sb1 = sb2
        rotate_left
        · have HNE : Hid (l1[j] ≠ l2[j]) := by show _ ≠ _; rw [HE1.out, HE2.out]; intro e; injection e; exact hq ‹_›
          have q : (sb1 != sb2) = true := by rw [bne_iff_ne]; exact hq
          have q2 : (sb1 == sb2) = false := by rw [beq_eq_false_iff_ne]; exact hq
          have q3 : (sb1 ^^ sb2) = true := by revert hq; cases sb1 <;> cases sb2 <;> simp
          clear hq
          go_wp2_with fail
          go_region
          all_goals
            go_wp2_with fail
            go_ret
            exact ⟨HB.out.trans ((((((Below.refl _ _).alloc (Nat.le_refl _) _).alloc (by simp) _).drew)).mono HB.out.size), false, rfl, by simp; exact differ hlt hlt2 (HNE.out)⟩
        subst hq
        by_cases hq : tt1 = tt2
        rotate_left
        · have HNE : Hid (l1[j] ≠ l2[j]) := by show _ ≠ _; rw [HE1.out, HE2.out]; intro e; injection e; exact hq ‹_›
          obtain ⟨q, q'⟩ := str_ne hq
          clear hq
          go_wp2_with fail
          go_region
          all_goals
            go_wp2_with fail
            go_ret
            exact ⟨HB.out.trans ((((((Below.refl _ _).alloc (Nat.le_refl _) _).alloc (by simp) _).drew)).mono HB.out.size), false, rfl, by simp; exact differ hlt hlt2 (HNE.out)⟩
        subst hq
        go_wp2_with fail
        go_region
        · go_wp2_with fail
          refine (ref_SameFields _ _ _ _ _ _ _ _ _ (H1.out _ (((((Below.refl _ _).alloc (Nat.le_refl _) _).alloc (by simp) _).drew))) (H2.out _ (((((Below.refl _ _).alloc (Nat.le_refl _) _).alloc (by simp) _).drew)))).mono ?_
          rintro e w2 ⟨hb2, b, rfl, hbi⟩
          have hs2 : wr.heap.size + 1 + 1 ≤ w2.heap.size := by have := hb2.size; simp at this; omega
          have HW2 := Lib.hid ((((((Below.refl _ _).alloc (Nat.le_refl _) _).alloc (by simp) _).drew)).trans (hb2.mono (by simp; omega)))
          have HBI := Lib.hid hbi
          have uw24 : w2.cell? ⟨wr.heap.size, 4, none⟩ = some (.slice a2 n2 c2) := (hb2.cell (p := ⟨wr.heap.size, 4, none⟩) (by simp <;> omega)).trans (by simp [go_sem])
          have vw24 : w2.cell? ⟨wr.heap.size + 1, 4, none⟩ = some (.slice a2' n2' c2') := (hb2.cell (p := ⟨wr.heap.size + 1, 4, none⟩) (by simp <;> omega)).trans (by simp [go_sem])
          clear hb2 hbi
          cases b
          · go_wp2_with fail
            go_ret
            refine ⟨HB.out.trans (HW2.out.mono HB.out.size), false, rfl, ?_⟩
            simp
            refine differ hlt hlt2 ?_
            rw [HE1.out, HE2.out]; intro e; injection e; exact absurd (HBI.out.2 ‹_›) (by decide)
          go_wp2_with fail
          refine (ref_SameStmts d _ _ _ _ _ _ _ _ _ (H3.out _ HW2.out) (H4.out _ HW2.out)).mono ?_
          rintro e w3 ⟨hb3, b, rfl, hbj⟩
          have HW3 := Lib.hid (HW2.out.trans (hb3.mono (by omega)))
          have HBJ := Lib.hid hbj
          clear hb3 hbj uw24 vw24
          cases b
          · go_wp2_with fail
            go_ret
            refine ⟨HB.out.trans (HW3.out.mono HB.out.size), false, rfl, ?_⟩
            simp
            refine differ hlt hlt2 ?_
            rw [HE1.out, HE2.out]; intro e; injection e; exact absurd (HBJ.out.2 ‹_›) (by decide)
          go_wp2_with fail
          go_roundw
          case rel =>
            refine ⟨j + 1, by omega, by go_num, ?_, HB.out.trans (HW3.out.mono HB.out.size)⟩
            rw [List.take_succ_eq_append_getElem hlt, List.take_succ_eq_append_getElem hlt2, HPRE.out, HE1.out, HE2.out, HBI.out.1 (by simp), HBJ.out.1 (by simp)]
          case measure => simp [intOf]; omega
        · go_wp2_with fail
          refine (ref_SameFields _ _ _ _ _ _ _ _ _ (H1.out _ (((((Below.refl _ _).alloc (Nat.le_refl _) _).alloc (by simp) _).drew))) (H2.out _ (((((Below.refl _ _).alloc (Nat.le_refl _) _).alloc (by simp) _).drew)))).mono ?_
          rintro e w2 ⟨hb2, b, rfl, hbi⟩
          have hs2 : wr.heap.size + 1 + 1 ≤ w2.heap.size := by have := hb2.size; simp at this; omega
          have HW2 := Lib.hid ((((((Below.refl _ _).alloc (Nat.le_refl _) _).alloc (by simp) _).drew)).trans (hb2.mono (by simp; omega)))
          have HBI := Lib.hid hbi
          have uw24 : w2.cell? ⟨wr.heap.size, 4, none⟩ = some (.slice a2' n2' c2') := (hb2.cell (p := ⟨wr.heap.size, 4, none⟩) (by simp <;> omega)).trans (by simp [go_sem])
          have vw24 : w2.cell? ⟨wr.heap.size + 1, 4, none⟩ = some (.slice a2 n2 c2) := (hb2.cell (p := ⟨wr.heap.size + 1, 4, none⟩) (by simp <;> omega)).trans (by simp [go_sem])
          clear hb2 hbi
          cases b
          · go_wp2_with fail
            go_ret
            refine ⟨HB.out.trans (HW2.out.mono HB.out.size), false, rfl, ?_⟩
            simp
            refine differ hlt hlt2 ?_
            rw [HE1.out, HE2.out]; intro e; injection e; exact absurd (HBI.out.2 ‹_›) (by decide)
          go_wp2_with fail
          refine (ref_SameStmts d _ _ _ _ _ _ _ _ _ (H3.out _ HW2.out) (H4.out _ HW2.out)).mono ?_
          rintro e w3 ⟨hb3, b, rfl, hbj⟩
          have HW3 := Lib.hid (HW2.out.trans (hb3.mono (by omega)))
          have HBJ := Lib.hid hbj
          clear hb3 hbj uw24 vw24
          cases b
          · go_wp2_with fail
            go_ret
            refine ⟨HB.out.trans (HW3.out.mono HB.out.size), false, rfl, ?_⟩
            simp
            refine differ hlt hlt2 ?_
            rw [HE1.out, HE2.out]; intro e; injection e; exact absurd (HBJ.out.2 ‹_›) (by decide)
          go_wp2_with fail
          go_roundw
          case rel =>
            refine ⟨j + 1, by omega, by go_num, ?_, HB.out.trans (HW3.out.mono HB.out.size)⟩
            rw [List.take_succ_eq_append_getElem hlt, List.take_succ_eq_append_getElem hlt2, HPRE.out, HE1.out, HE2.out, HBI.out.1 (by simp), HBJ.out.1 (by simp)]
          case measure => simp [intOf]; omega
      · have HB := Lib.hid hb
        clear hb
        go_wp2_with fail
        go_ret
        refine ⟨HB.out, true, rfl, ?_⟩
        simp only [true_iff]
        have hp := HPRE.out
        rw [List.take_of_length_le (by omega), List.take_of_length_le (by omega)] at hp
        exact hp
  · have hle : ((l1.length : Int) != (l2.length : Int)) = true := by rw [bne_iff_ne]; omega
    have HL := Lib.hid hlen
    clear hlen
    go_enter Tryd.func16, Tryd.ntmps16
    go_wp2_with fail
    go_ret
    exact ⟨.refl _ _, false, rfl, by simp; intro h; exact HL.out (by rw [h])⟩
end Go.Proofs.YthjonkommphkkaaDoor
namespace Go.Proofs.YthjonkommphkkaaDoor
open Lx Go.RowKit
def SameRelB {α : Type} (l1 l2 : List α) (v1 v2 : Value) (w : World) (i : Value) (wr : World) : Prop := ∃ n : Nat, n ≤ l1.length ∧ i = .int .i64 (n : Int) ∧ l1.take n = l2.take n ∧ Below w.heap.size w wr ∧ w.heap.size + 2 ≤ wr.heap.size ∧ wr.cell? ⟨w.heap.size, 0, none⟩ = some v1 ∧ wr.cell? ⟨w.heap.size + 1, 0, none⟩ = some v2
set_option maxHeartbeats 4000000 in
theorem ref_Same (d : Nat) (l1 l2 : List Cl) (a1 : Option Addr) (n1 c1 : Nat) (a2 : Option Addr) (n2 c2 : Nat) (w : World) (h1 : IsList Any w 4 (IsCl Any w d) l1 (.slice a1 n1 c1)) (h2 : IsList Any w 4 (IsCl Any w d) l2 (.slice a2 n2 c2)) :
    Calls Tryd.prog 8 #[.agg #[.slice a1 n1 c1], .agg #[.slice a2 n2 c2]] w (SameOut w (l1 = l2)) := by
  obtain ⟨rfl, hm1, hat1⟩ := h1.clAt
  obtain ⟨rfl, hm2, hat2⟩ := h2.clAt
  unfold maxLen at hm1 hm2
  have HAT1 := Lib.hid hat1
  have HAT2 := Lib.hid hat2
  clear h1 h2 hat1 hat2
  by_cases hlen : l1.length = l2.length
  · have hle : ((l1.length : Int) != (l2.length : Int)) = false := by rw [bne_eq_false_iff_eq]; omega
    have hle1 : l1.length ≤ l2.length := by omega
    have hle2 : l2.length ≤ l1.length := by omega
    clear hlen
    go_enter Tryd.func8, Tryd.ntmps8
    go_wp2_with fail
    go_loopw [5] (fun i wr => SameRelB l1 l2 (.slice a1 l1.length c1) (.slice a2 l2.length c2) w i wr) (fun i _ => l1.length - (intOf i).toNat)
    case atStart => exact ⟨0, Nat.zero_le _, rfl, rfl, ((Below.refl _ _).alloc (Nat.le_refl _) _).alloc (by simp) _, by simp, by simp [go_sem], by simp [go_sem]⟩
    case round =>
      obtain ⟨j, hj, rfl, hpre, hb, hsz, bx1, bx2⟩ := hrel
      have HPRE := Lib.hid hpre
      clear hpre
      by_cases hlt : j < l1.length
      · have hlt2 : j < l2.length := by omega
        obtain ⟨g1, o1, s1, t1, e1, r1, q1, a2, n2, c2', rfl, hg1, ⟨x0, x1, x2, x3⟩, hx⟩ := HAT1.out j hlt
        obtain ⟨g2, o2, s2, t2, e2, r2, q2, a2', n2', c2'', rfl, hg2, ⟨y0, y1, y2, y3⟩, hy⟩ := HAT2.out j hlt2
        rw [← hb.cell (p := ⟨g1, _, none⟩) hg1] at x0 x1 x2 x3
        rw [← hb.cell (p := ⟨g2, _, none⟩) hg2] at y0 y1 y2 y3
        have hs := hb.size
        have hw1 : g1 < wr.heap.size := by omega
        have hw2 : g2 < wr.heap.size := by omega
        obtain ⟨nn1, tt1, ps1, bd1, he1, rfl, rfl, hl1, hb1⟩ := (IsCl.kept (kept_any hb) hx).flds
        obtain ⟨nn2, tt2, ps2, bd2, he2, rfl, rfl, hl2, hb2'⟩ := (IsCl.kept (kept_any hb) hy).flds
        have H1 : Hid (∀ x, Below wr.heap.size wr x → IsList Any x 2 IsFld ps1 (.slice e1 r1 q1)) := fun x hx => hl1.kept (kept_any hx) (by omega) fun _ _ _ h => h
        have H2 : Hid (∀ x, Below wr.heap.size wr x → IsList Any x 2 IsFld ps2 (.slice e2 r2 q2)) := fun x hx => hl2.kept (kept_any hx) (by omega) fun _ _ _ h => h
        have H3 : Hid (∀ x, Below wr.heap.size wr x → IsList Any x 5 (IsMe Any x d) bd1 (.slice a2 n2 c2')) := fun x hx => hb1.kept (kept_any hx) (by omega) fun _ _ _ => IsMe.kept (kept_any hx)
        have H4 : Hid (∀ x, Below wr.heap.size wr x → IsList Any x 5 (IsMe Any x d) bd2 (.slice a2' n2' c2'')) := fun x hx => hb2'.kept (kept_any hx) (by omega) fun _ _ _ => IsMe.kept (kept_any hx)
        have HE1 := Lib.hid he1
        have HE2 := Lib.hid he2
        have HB := Lib.hid hb
        have BX1 := Lib.hid bx1
        have BX2 := Lib.hid bx2
        clear hb hx hy hl1 hl2 hb1 hb2' he1 he2
        have hj1 : (j : Int) < (l1.length : Int) := by omega
        have hj2 : (j : Int) < (l2.length : Int) := by omega
        have hj0 : (0 : Int) ≤ (j : Int) := by omega
        have hz1 : w.heap.size < wr.heap.size := by omega
        have hz2 : w.heap.size + 1 < wr.heap.size := by omega
        by_cases hq : nn1 = nn2
        rotate_left
        · have HNE : Hid (l1[j] ≠ l2[j]) := by show _ ≠ _; rw [HE1.out, HE2.out]; intro e; injection e; exact hq ‹_›
          obtain ⟨q, q'⟩ := str_ne hq
          clear hq
          go_wp2_with fail
          go_region
          all_goals
            go_wp2_with fail
            go_ret
            exact ⟨HB.out.trans ((((((Below.refl _ _).alloc (Nat.le_refl _) _).alloc (by simp) _).drew)).mono hs), false, rfl, by simp; exact differ hlt hlt2 (HNE.out)⟩
        subst hq
        by_cases hq : tt1 = tt2
        rotate_left
        · have HNE : Hid (l1[j] ≠ l2[j]) := by show _ ≠ _; rw [HE1.out, HE2.out]; intro e; injection e; exact hq ‹_›
          obtain ⟨q, q'⟩ := str_ne hq
          clear hq
          go_wp2_with fail
          go_region
          all_goals
            go_wp2_with fail
            go_ret
            exact ⟨HB.out.trans ((((((Below.refl _ _).alloc (Nat.le_refl _) _).alloc (by simp) _).drew)).mono hs), false, rfl, by simp; exact differ hlt hlt2 (HNE.out)⟩
        subst hq
        go_wp2_with fail
        go_region
        · go_wp2_with fail
          refine (ref_SameFields _ _ _ _ _ _ _ _ _ (H1.out _ (((((Below.refl _ _).alloc (Nat.le_refl _) _).alloc (by simp) _).drew))) (H2.out _ (((((Below.refl _ _).alloc (Nat.le_refl _) _).alloc (by simp) _).drew)))).mono ?_
          rintro e w2 ⟨hb2, b, rfl, hbi⟩
          have hs2 : wr.heap.size + 1 + 1 ≤ w2.heap.size := by have := hb2.size; simp at this; omega
          have HW2 := Lib.hid ((((((Below.refl _ _).alloc (Nat.le_refl _) _).alloc (by simp) _).drew)).trans (hb2.mono (by simp; omega)))
          have HBI := Lib.hid hbi
          have uw23 : w2.cell? ⟨wr.heap.size, 3, none⟩ = some (.slice a2 n2 c2') := (hb2.cell (p := ⟨wr.heap.size, 3, none⟩) (by simp <;> omega)).trans (by simp [go_sem])
          have vw23 : w2.cell? ⟨wr.heap.size + 1, 3, none⟩ = some (.slice a2' n2' c2'') := (hb2.cell (p := ⟨wr.heap.size + 1, 3, none⟩) (by simp <;> omega)).trans (by simp [go_sem])
          clear hb2 hbi
          cases b
          · go_wp2_with fail
            go_ret
            refine ⟨HB.out.trans (HW2.out.mono hs), false, rfl, ?_⟩
            simp
            refine differ hlt hlt2 ?_
            rw [HE1.out, HE2.out]; intro e; injection e; exact absurd (HBI.out.2 ‹_›) (by decide)
          go_wp2_with fail
          refine (ref_SameMethods d _ _ _ _ _ _ _ _ _ (H3.out _ HW2.out) (H4.out _ HW2.out)).mono ?_
          rintro e w3 ⟨hb3, b, rfl, hbj⟩
          have HW3 := Lib.hid (HW2.out.trans (hb3.mono (by omega)))
          have HBJ := Lib.hid hbj
          have bz1 : w3.cell? ⟨w.heap.size, 0, none⟩ = some (.slice (some ⟨g1, o1, none⟩) l1.length c1) := (HW3.out.cell (p := ⟨w.heap.size, 0, none⟩) (by show w.heap.size < _; omega)).trans BX1.out
          have bz2 : w3.cell? ⟨w.heap.size + 1, 0, none⟩ = some (.slice (some ⟨g2, o2, none⟩) l2.length c2) := (HW3.out.cell (p := ⟨w.heap.size + 1, 0, none⟩) (by show w.heap.size + 1 < _; omega)).trans BX2.out
          have hs3 := HW3.out.size
          clear hb3 hbj uw23 vw23
          cases b
          · go_wp2_with fail
            go_ret
            refine ⟨HB.out.trans (HW3.out.mono hs), false, rfl, ?_⟩
            simp
            refine differ hlt hlt2 ?_
            rw [HE1.out, HE2.out]; intro e; injection e; exact absurd (HBJ.out.2 ‹_›) (by decide)
          have BZ1 := Lib.hid bz1
          have BZ2 := Lib.hid bz2
          clear bz1 bz2
          go_wp2_with fail
          go_roundw
          case rel =>
            refine ⟨j + 1, by omega, by go_num, ?_, HB.out.trans (HW3.out.mono hs), by omega, BZ1.out, BZ2.out⟩
            rw [List.take_succ_eq_append_getElem hlt, List.take_succ_eq_append_getElem hlt2, HPRE.out, HE1.out, HE2.out, HBI.out.1 (by simp), HBJ.out.1 (by simp)]
          case measure => simp [intOf]; omega
        · go_wp2_with fail
          refine (ref_SameFields _ _ _ _ _ _ _ _ _ (H1.out _ (((((Below.refl _ _).alloc (Nat.le_refl _) _).alloc (by simp) _).drew))) (H2.out _ (((((Below.refl _ _).alloc (Nat.le_refl _) _).alloc (by simp) _).drew)))).mono ?_
          rintro e w2 ⟨hb2, b, rfl, hbi⟩
          have hs2 : wr.heap.size + 1 + 1 ≤ w2.heap.size := by have := hb2.size; simp at this; omega
          have HW2 := Lib.hid ((((((Below.refl _ _).alloc (Nat.le_refl _) _).alloc (by simp) _).drew)).trans (hb2.mono (by simp; omega)))
          have HBI := Lib.hid hbi
          have uw23 : w2.cell? ⟨wr.heap.size, 3, none⟩ = some (.slice a2' n2' c2'') := (hb2.cell (p := ⟨wr.heap.size, 3, none⟩) (by simp <;> omega)).trans (by simp [go_sem])
          have vw23 : w2.cell? ⟨wr.heap.size + 1, 3, none⟩ = some (.slice a2 n2 c2') := (hb2.cell (p := ⟨wr.heap.size + 1, 3, none⟩) (by simp <;> omega)).trans (by simp [go_sem])
          clear hb2 hbi
          cases b
          · go_wp2_with fail
            go_ret
            refine ⟨HB.out.trans (HW2.out.mono hs), false, rfl, ?_⟩
            simp
            refine differ hlt hlt2 ?_
            rw [HE1.out, HE2.out]; intro e; injection e; exact absurd (HBI.out.2 ‹_›) (by decide)
          go_wp2_with fail
          refine (ref_SameMethods d _ _ _ _ _ _ _ _ _ (H3.out _ HW2.out) (H4.out _ HW2.out)).mono ?_
          rintro e w3 ⟨hb3, b, rfl, hbj⟩
          have HW3 := Lib.hid (HW2.out.trans (hb3.mono (by omega)))
          have HBJ := Lib.hid hbj
          have bz1 : w3.cell? ⟨w.heap.size, 0, none⟩ = some (.slice (some ⟨g1, o1, none⟩) l1.length c1) := (HW3.out.cell (p := ⟨w.heap.size, 0, none⟩) (by show w.heap.size < _; omega)).trans BX1.out
          have bz2 : w3.cell? ⟨w.heap.size + 1, 0, none⟩ = some (.slice (some ⟨g2, o2, none⟩) l2.length c2) := (HW3.out.cell (p := ⟨w.heap.size + 1, 0, none⟩) (by show w.heap.size + 1 < _; omega)).trans BX2.out
          have hs3 := HW3.out.size
          clear hb3 hbj uw23 vw23
          cases b
          · go_wp2_with fail
            go_ret
            refine ⟨HB.out.trans (HW3.out.mono hs), false, rfl, ?_⟩
            simp
            refine differ hlt hlt2 ?_
            rw [HE1.out, HE2.out]; intro e; injection e; exact absurd (HBJ.out.2 ‹_›) (by decide)
          have BZ1 := Lib.hid bz1
          have BZ2 := Lib.hid bz2
          clear bz1 bz2
          go_wp2_with fail
          go_roundw
          case rel =>
            refine ⟨j + 1, by omega, by go_num, ?_, HB.out.trans (HW3.out.mono hs), by omega, BZ1.out, BZ2.out⟩
            rw [List.take_succ_eq_append_getElem hlt, List.take_succ_eq_append_getElem hlt2, HPRE.out, HE1.out, HE2.out, HBI.out.1 (by simp), HBJ.out.1 (by simp)]
          case measure => simp [intOf]; omega
      · have HB := Lib.hid hb
        clear hb
        go_wp2_with fail
        go_ret
        refine ⟨HB.out, true, rfl, ?_⟩
        simp only [true_iff]
        have hp := HPRE.out
        rw [List.take_of_length_le (by omega), List.take_of_length_le (by omega)] at hp
        exact hp
  · have hle : ((l1.length : Int) != (l2.length : Int)) = true := by rw [bne_iff_ne]; omega
    have HL := Lib.hid hlen
    clear hlen
    go_enter Tryd.func8, Tryd.ntmps8
    go_wp2_with fail
    go_ret
    exact ⟨((Below.refl _ _).alloc (Nat.le_refl _) _).alloc (by simp) _, false, rfl, by simp; intro h; exact HL.out (by rw [h])⟩
end Go.Proofs.YthjonkommphkkaaDoor
namespace Go.Proofs.YthjonkommphkkaaDoor
open Lx Ax Go.RowKit
mutual
theorem puE : ∀ e : Ex, puL (cvE e) = true
  | .mk k n o m ks => by rw [cvE_mk]; simp [puL, puV, puEs ks]
theorem puEs : ∀ l : List Ex, puR (l.map cvE) = true
  | [] => rfl
  | e :: l => by simp [puR, puE e, puEs l]
end
mutual
theorem puS : ∀ s : St, puL (cvS s) = true
  | .mk k nm ty es b el => by rw [cvS_mk]; simp [puL, puV, puEs es, puSs b, puSs el]
theorem puSs : ∀ l : List St, puR (l.map cvS) = true
  | [] => rfl
  | e :: l => by simp [puR, puS e, puSs l]
end
theorem puRm {α : Type} {cv : α → List CV} (h : ∀ a, puL (cv a) = true) (l : List α) : puR (l.map cv) = true := by
  induction l with
  | nil => rfl
  | cons a l ih => simp [puR, h a, ih]
theorem puF (f : Fld) : puL (cvF f) = true := rfl
theorem puM (m : Me) : puL (cvM m) = true := by simp [cvM, puL, puV, puRm puF, puSs]
theorem puC (c : Cl) : puL (cvC c) = true := by simp [cvC, puL, puV, puRm puF, puRm puM]
/-- No package-level variable is read. -/
def paG : Nat → CV := fun _ => .any
theorem paG_pu (g : Nat) : puV (paG g) = true := rfl
theorem paG_rg (M : Mp) : RG paG M := fun _ => .any _
theorem cvE_eq (e : Ex) : cvE e = [.int .i64 e.kind, .int .i64 e.n, .str e.of, .str e.name, .lst (e.kids.map cvE)] := by cases e; rw [cvE_mk]; rfl
theorem exk (k n : Int) (o m : Bytes) (ks : List Ex) : Ex.kind (.mk k n o m ks) = k := rfl
theorem exn (k n : Int) (o m : Bytes) (ks : List Ex) : Ex.n (.mk k n o m ks) = n := rfl
theorem exo (k n : Int) (o m : Bytes) (ks : List Ex) : Ex.of (.mk k n o m ks) = o := rfl
theorem exm (k n : Int) (o m : Bytes) (ks : List Ex) : Ex.name (.mk k n o m ks) = m := rfl
theorem exks (k n : Int) (o m : Bytes) (ks : List Ex) : Ex.kids (.mk k n o m ks) = ks := rfl
theorem drR {α : Type} (f : Nat → α) (k : Nat) : List.drop k (List.map f (List.range k)) = [] := by simp
def Lx.St.p0 : St → Int | .mk k _ _ _ _ _ => k
def Lx.St.p1 : St → Bytes | .mk _ n _ _ _ _ => n
def Lx.St.p2 : St → Bytes | .mk _ _ t _ _ _ => t
def Lx.St.p3 : St → List Ex | .mk _ _ _ e _ _ => e
def Lx.St.p4 : St → List St | .mk _ _ _ _ b _ => b
def Lx.St.p5 : St → List St | .mk _ _ _ _ _ l => l
theorem cvS_eq (s : St) : cvS s = [.int .i64 s.p0, .str s.p1, .str s.p2, .lst (s.p3.map cvE), .lst (s.p4.map cvS), .lst (s.p5.map cvS)] := by cases s; rw [cvS_mk]; rfl
theorem dropAt {α : Type} {l : List α} {i : Nat} (h : i < l.length) : l.drop i = l[i] :: l.drop (i + 1) := List.drop_eq_getElem_cons h
theorem dropEnd {α : Type} {l : List α} {i : Nat} (h : i ≤ l.length) (h2 : ¬ i < l.length) : l.drop i = [] := List.drop_eq_nil_of_le (by omega)
theorem bl_len {H : Heap} {t : TypeId} {x : CV} : bltA Tryd.prog H .len [t] [x] = lenA Tryd.prog H t x := rfl
theorem up1 {i n : Nat} (h : i < n) (hn : n ≤ 1000000) : IntKind.i64.wrap ((i : Int) + 1) = (i : Int) + 1 := by rw [IntKind.wrap_i64]; omega
theorem cvC_eq (c : Cl) : cvC c = [.str c.name, .str c.super, .lst (c.fields.map cvF), .lst (c.methods.map cvM)] := rfl
section
variable {P : Program} {G : Nat → CV} {n : Nat} {e : Env} {H : Heap} {nx nx0 kp ne : Nat} {Q : AExit → Env → Heap → Nat → Prop} {ops : Array Oper} {os : List Oper} {d : Option Nat} {ty t u : TypeId} {pos : String} {af : Array Edge} {K : Env → Heap → Nat → Prop} {x y : Operand} {a b : Bytes}
theorem cat_q (hx : rd G e x = .str a) (hy : rd G e y = .str b) (hl : a.length + b.length ≤ 9223372036854775807) : qstep P H (rd G e) (.binOp .add t x y u) = some (.str (a ++ b)) := by
  have h : Nat.ble (a.length + b.length) 9223372036854775807 = true := Nat.ble_eq.mpr hl
  simp only [qstep, hx, hy, binA, strA, h]
/-- Two strings put together. -/
theorem AOpl.cat (hx : rd G e x = .str a) (hy : rd G e y = .str b) (hl : a.length + b.length ≤ 9223372036854775807) (h : AOpl P G n ops os (putE e d (.str (a ++ b))) H nx Q) (hd : okD n d = true := by exact rfl) : AOpl P G n ops (⟨d, .binOp .add t x y u, ty, pos, af, none⟩ :: os) e H nx Q :=
  AOpl.step hd (c := .str (a ++ b)) (H' := H) (nx' := nx) (by unfold stepS; rw [cat_q hx hy hl]) h
theorem ASl.cat (hx : rd G e x = .str a) (hy : rd G e y = .str b) (hl : a.length + b.length ≤ 9223372036854775807) (h : ASl P G nx0 (kp + 1) ops os (putE e d (.str (a ++ b))) H ne K) : ASl P G nx0 kp ops (⟨d, .binOp .add t x y u, ty, pos, af, none⟩ :: os) e H ne K :=
  ASl.step (c := .str (a ++ b)) (H' := H) (ne' := ne) (by unfold Ax.stepT; rw [cat_q hx hy hl]) h
end
/-- All steps, strings put together among them. -/
theorem gV {X X' : Prop} (k : X') (f : Hd X' → X := by
  intro h
  repeat (first | refine AOpl.cat (by simp [*]; rfl) (by simp [*]; rfl) (by (try simp only [List.length_append, List.length_cons, List.length_nil]); omega) ?_ | refine ASl.cat (by simp [*]; rfl) (by simp [*]; rfl) (by (try simp only [List.length_append, List.length_cons, List.length_nil]); omega) ?_ | (first | (apply AOpl.step; rfl) | apply ASl.step); focus simp [*, -Option.some.injEq]; rfl | (first | (apply AOpl.stepG; rfl) | apply ASl.stepG); (focus simp [*]; done); focus simp [*, -Option.some.injEq]; rfl | (first | (apply AOpl.pass; rfl) | apply ASl.pass); (focus simp [*]; done) | (first | refine AOpl.nil ?_ | refine AWp.skip ?_ | refine AWp.exit ?_ | refine AWp.ret ?_ | refine ASl.nil ?_); try simp only [Then, InBlock, reduceIte, Nat.reduceEqDiff] | refine AWp.seq ?_ | refine AWp.reg rfl ?_ | refine AWp.block ?_ | apply AWp.condT; focus simp [*]; done | apply AWp.condF; focus simp [*]; done | refine AWp.regT (by kernel_rfl) (by kernel_rfl) rfl rfl ?_)
  exact h.out) : X := f ⟨k⟩
end Go.Proofs.YthjonkommphkkaaDoor
