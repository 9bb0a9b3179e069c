/-
  ref08's SameStmts, walked (printed by gensame.py).
-/
import Derived.Test.YthjonkommphkkaaDoorRefSameSt
namespace Go.Proofs.YthjonkommphkkaaDoor
open Lx Go.RowKit
theorem IsSt.flds {A : Nat → Prop} {w : World} {d : Nat} {e : St} {k : Int} {nm ty : ByteArray} {v1 v2 v3 : Value} (h : IsSt A w (d + 1) e [.int .i64 k, .string nm, .string ty, v1, v2, v3]) : ∃ nn tt es b el, e = .mk k nn tt es b el ∧ nm = strOf nn ∧ ty = strOf tt ∧ IsList A w 5 (IsEx A w d) es v1 ∧ IsList A w 6 (IsSt A w d) b v2 ∧ IsList A w 6 (IsSt A w d) el v3 := by
  obtain ⟨es, b, el, nn, tt, h1, h2, h3, h4, h5, h6⟩ := h.lists
  exact ⟨nn, tt, es, b, el, h1, h2, h3, h4, h5, h6⟩
set_option maxHeartbeats 4000000 in
theorem ref_SameStmts (d : Nat) : ∀ (l1 l2 : List St) (a1 : Option Addr) (n1 c1 : Nat) (a2 : Option Addr) (n2 c2 : Nat) (w : World), IsList Any w 6 (IsSt Any w d) l1 (.slice a1 n1 c1) → IsList Any w 6 (IsSt Any w d) l2 (.slice a2 n2 c2) →
    Calls Tryd.prog 28 #[.slice a1 n1 c1, .slice a2 n2 c2] w (SameOut w (l1 = l2)) := by
  induction d with
  | zero =>
    intro l1 l2 a1 n1 c1 a2 n2 c2 w h1 h2
    obtain ⟨rfl, hm1, hat1⟩ := h1.stAt
    obtain ⟨rfl, hm2, hat2⟩ := h2.stAt
    cases l1 with
    | cons x l => obtain ⟨_, _, _, _, _, _, _, _, _, _, _, _, _, _, _, _, _, hx⟩ := hat1 0 (by simp); exact absurd hx (by simp [IsSt])
    | nil =>
      cases l2 with
      | cons x l => obtain ⟨_, _, _, _, _, _, _, _, _, _, _, _, _, _, _, _, _, hx⟩ := hat2 0 (by simp); exact absurd hx (by simp [IsSt])
      | nil =>
        clear h1 h2 hat1 hat2
        go_enter Tryd.func28, Tryd.ntmps28
        go_wp2_with fail
        go_loopw [5] (fun i wr => SameRel ([] : List St) [] w i wr) (fun i _ => 0 - (intOf i).toNat)
        case atStart => exact ⟨0, Nat.zero_le _, rfl, rfl, .refl _ _⟩
        case round =>
          obtain ⟨j, hj, rfl, _, hb⟩ := hrel
          obtain rfl : j = 0 := by simpa using hj
          have HB := Lib.hid hb
          clear hb
          go_wp2_with fail
          go_ret
          exact ⟨HB.out, true, rfl, by simp⟩
  | succ d ih =>
    intro l1 l2 a1 n1 c1 a2 n2 c2 w h1 h2
    obtain ⟨rfl, hm1, hat1⟩ := h1.stAt
    obtain ⟨rfl, hm2, hat2⟩ := h2.stAt
    unfold maxLen at hm1 hm2
    have HAT1 := Lib.hid hat1
    have HAT2 := Lib.hid hat2
    have IH := Lib.hid ih
    clear h1 h2 hat1 hat2 ih
    by_cases hlen : l1.length = l2.length
    · have hle : ((l1.length : Int) != (l2.length : Int)) = false := by rw [bne_eq_false_iff_eq]; omega
      have hle1 : l1.length ≤ l2.length := by omega
      have hle2 : l2.length ≤ l1.length := by omega
      clear hlen
      go_enter Tryd.func28, Tryd.ntmps28
      go_wp2_with fail
      go_loopw [5] (fun i wr => SameRel l1 l2 w i wr) (fun i _ => l1.length - (intOf i).toNat)
      case atStart => exact ⟨0, Nat.zero_le _, rfl, rfl, .refl _ _⟩
      case round =>
        obtain ⟨j, hj, rfl, hpre, hb⟩ := hrel
        have HPRE := Lib.hid hpre
        clear hpre
        by_cases hlt : j < l1.length
        · have hlt2 : j < l2.length := by omega
          obtain ⟨g1, o1, k1, s1, t1, e1, r1, q1, a2, n2, c2, a3, n3, c3, rfl, hg1, ⟨x0, x1, x2, x3, x4, x5⟩, hx⟩ := HAT1.out j hlt
          obtain ⟨g2, o2, k2, s2, t2, e2, r2, q2, a2', n2', c2', a3', n3', c3', rfl, hg2, ⟨y0, y1, y2, y3, y4, y5⟩, hy⟩ := HAT2.out j hlt2
          rw [← hb.cell (p := ⟨g1, _, none⟩) hg1] at x0 x1 x2 x3 x4 x5
          rw [← hb.cell (p := ⟨g2, _, none⟩) hg2] at y0 y1 y2 y3 y4 y5
          have hs := hb.size
          have hw1 : g1 < wr.heap.size := by omega
          have hw2 : g2 < wr.heap.size := by omega
          obtain ⟨nn1, tt1, es1, bd1, el1, he1, rfl, rfl, hl1, hb1, hr1⟩ := (IsSt.kept (kept_any hb) _ _ _ hx).flds
          obtain ⟨nn2, tt2, es2, bd2, el2, he2, rfl, rfl, hl2, hb2', hr2⟩ := (IsSt.kept (kept_any hb) _ _ _ hy).flds
          have H1 : Hid (∀ x, Below wr.heap.size wr x → IsList Any x 5 (IsEx Any x d) es1 (.slice e1 r1 q1)) := fun x hx => hl1.kept (kept_any hx) (by omega) fun _ _ _ => IsEx.kept (kept_any hx) _ _ _
          have H2 : Hid (∀ x, Below wr.heap.size wr x → IsList Any x 5 (IsEx Any x d) es2 (.slice e2 r2 q2)) := fun x hx => hl2.kept (kept_any hx) (by omega) fun _ _ _ => IsEx.kept (kept_any hx) _ _ _
          have H3 : Hid (∀ x, Below wr.heap.size wr x → IsList Any x 6 (IsSt Any x d) bd1 (.slice a2 n2 c2)) := fun x hx => hb1.kept (kept_any hx) (by omega) fun _ _ _ => IsSt.kept (kept_any hx) _ _ _
          have H4 : Hid (∀ x, Below wr.heap.size wr x → IsList Any x 6 (IsSt Any x d) bd2 (.slice a2' n2' c2')) := fun x hx => hb2'.kept (kept_any hx) (by omega) fun _ _ _ => IsSt.kept (kept_any hx) _ _ _
          have H5 : Hid (∀ x, Below wr.heap.size wr x → IsList Any x 6 (IsSt Any x d) el1 (.slice a3 n3 c3)) := fun x hx => hr1.kept (kept_any hx) (by omega) fun _ _ _ => IsSt.kept (kept_any hx) _ _ _
          have H6 : Hid (∀ x, Below wr.heap.size wr x → IsList Any x 6 (IsSt Any x d) el2 (.slice a3' n3' c3')) := fun x hx => hr2.kept (kept_any hx) (by omega) fun _ _ _ => IsSt.kept (kept_any hx) _ _ _
          have HE1 := Lib.hid he1
          have HE2 := Lib.hid he2
          have HB := Lib.hid hb
          clear hb hx hy hl1 hl2 hb1 hb2' hr1 hr2 he1 he2
          have hj1 : (j : Int) < (l1.length : Int) := by omega
          have hj2 : (j : Int) < (l2.length : Int) := by omega
          have hj0 : (0 : Int) ≤ (j : Int) := by omega
          by_cases hq : k1 = k2
          rotate_left
          · have HNE : Hid (l1[j] ≠ l2[j]) := by show _ ≠ _; rw [HE1.out, HE2.out]; intro e; injection e; exact hq ‹_›
            have q : (k1 != k2) = true := by rw [bne_iff_ne]; exact hq
            clear hq
            go_wp2_with fail
            go_region
            all_goals
              go_wp2_with fail
              go_ret
              exact ⟨HB.out.trans ((((((Below.refl _ _).alloc (Nat.le_refl _) _).alloc (by simp) _).drew)).mono HB.out.size), false, rfl, by simp; exact differ hlt hlt2 (HNE.out)⟩
          subst hq
          by_cases hq : nn1 = nn2
          rotate_left
          · have HNE : Hid (l1[j] ≠ l2[j]) := by show _ ≠ _; rw [HE1.out, HE2.out]; intro e; injection e; exact hq ‹_›
            obtain ⟨q, q'⟩ := str_ne hq
            clear hq
            go_wp2_with fail
            go_region
            all_goals
              go_wp2_with fail
              go_ret
              exact ⟨HB.out.trans ((((((Below.refl _ _).alloc (Nat.le_refl _) _).alloc (by simp) _).drew)).mono HB.out.size), false, rfl, by simp; exact differ hlt hlt2 (HNE.out)⟩
          subst hq
          by_cases hq : tt1 = tt2
          rotate_left
          · have HNE : Hid (l1[j] ≠ l2[j]) := by show _ ≠ _; rw [HE1.out, HE2.out]; intro e; injection e; exact hq ‹_›
            obtain ⟨q, q'⟩ := str_ne hq
            clear hq
            go_wp2_with fail
            go_region
            all_goals
              go_wp2_with fail
              go_ret
              exact ⟨HB.out.trans ((((((Below.refl _ _).alloc (Nat.le_refl _) _).alloc (by simp) _).drew)).mono HB.out.size), false, rfl, by simp; exact differ hlt hlt2 (HNE.out)⟩
          subst hq
          go_wp2_with fail
          go_region
          · go_wp2_with fail
            refine (ref_SameExprs d _ _ _ _ _ _ _ _ _ (H1.out _ (((((Below.refl _ _).alloc (Nat.le_refl _) _).alloc (by simp) _).drew))) (H2.out _ (((((Below.refl _ _).alloc (Nat.le_refl _) _).alloc (by simp) _).drew)))).mono ?_
            rintro e w2 ⟨hb2, b, rfl, hbi⟩
            have hs2 : wr.heap.size + 1 + 1 ≤ w2.heap.size := by have := hb2.size; simp at this; omega
            have HW2 := Lib.hid ((((((Below.refl _ _).alloc (Nat.le_refl _) _).alloc (by simp) _).drew)).trans (hb2.mono (by simp; omega)))
            have HBI := Lib.hid hbi
            have uw24 : w2.cell? ⟨wr.heap.size, 4, none⟩ = some (.slice a2 n2 c2) := (hb2.cell (p := ⟨wr.heap.size, 4, none⟩) (by simp <;> omega)).trans (by simp [go_sem])
            have vw24 : w2.cell? ⟨wr.heap.size + 1, 4, none⟩ = some (.slice a2' n2' c2') := (hb2.cell (p := ⟨wr.heap.size + 1, 4, none⟩) (by simp <;> omega)).trans (by simp [go_sem])
            have uw25 : w2.cell? ⟨wr.heap.size, 5, none⟩ = some (.slice a3 n3 c3) := (hb2.cell (p := ⟨wr.heap.size, 5, none⟩) (by simp <;> omega)).trans (by simp [go_sem])
            have vw25 : w2.cell? ⟨wr.heap.size + 1, 5, none⟩ = some (.slice a3' n3' c3') := (hb2.cell (p := ⟨wr.heap.size + 1, 5, none⟩) (by simp <;> omega)).trans (by simp [go_sem])
            clear hb2 hbi
            cases b
            · go_wp2_with fail
              go_ret
              refine ⟨HB.out.trans (HW2.out.mono HB.out.size), false, rfl, ?_⟩
              simp
              refine differ hlt hlt2 ?_
              rw [HE1.out, HE2.out]; intro e; injection e; exact absurd (HBI.out.2 ‹_›) (by decide)
            go_wp2_with fail
            refine (IH.out _ _ _ _ _ _ _ _ _ (H3.out _ HW2.out) (H4.out _ HW2.out)).mono ?_
            rintro e w3 ⟨hb3, b, rfl, hbj⟩
            have HW3 := Lib.hid (HW2.out.trans (hb3.mono (by omega)))
            have HBJ := Lib.hid hbj
            have hs3 := hb3.size
            have uw35 : w3.cell? ⟨wr.heap.size, 5, none⟩ = some (.slice a3 n3 c3) := (hb3.cell (p := ⟨wr.heap.size, 5, none⟩) (by show wr.heap.size < w2.heap.size; omega)).trans uw25
            have vw35 : w3.cell? ⟨wr.heap.size + 1, 5, none⟩ = some (.slice a3' n3' c3') := (hb3.cell (p := ⟨wr.heap.size + 1, 5, none⟩) (by show wr.heap.size + 1 < w2.heap.size; omega)).trans vw25
            clear hb3 hbj uw24 uw25 vw24 vw25
            cases b
            · go_wp2_with fail
              go_ret
              refine ⟨HB.out.trans (HW3.out.mono HB.out.size), false, rfl, ?_⟩
              simp
              refine differ hlt hlt2 ?_
              rw [HE1.out, HE2.out]; intro e; injection e; exact absurd (HBJ.out.2 ‹_›) (by decide)
            go_wp2_with fail
            refine (IH.out _ _ _ _ _ _ _ _ _ (H5.out _ HW3.out) (H6.out _ HW3.out)).mono ?_
            rintro e w4 ⟨hb4, b, rfl, hbk⟩
            have HW4 := Lib.hid (HW3.out.trans (hb4.mono (by omega)))
            have HBK := Lib.hid hbk
            clear hb4 hbk uw35 vw35
            cases b
            · go_wp2_with fail
              go_ret
              refine ⟨HB.out.trans (HW4.out.mono HB.out.size), false, rfl, ?_⟩
              simp
              refine differ hlt hlt2 ?_
              rw [HE1.out, HE2.out]; intro e; injection e; exact absurd (HBK.out.2 ‹_›) (by decide)
            go_wp2_with fail
            go_roundw
            case rel =>
              refine ⟨j + 1, by omega, by go_num, ?_, HB.out.trans (HW4.out.mono HB.out.size)⟩
              rw [List.take_succ_eq_append_getElem hlt, List.take_succ_eq_append_getElem hlt2, HPRE.out, HE1.out, HE2.out, HBI.out.1 (by simp), HBJ.out.1 (by simp), HBK.out.1 (by simp)]
            case measure => simp [intOf]; omega
          · go_wp2_with fail
            refine (ref_SameExprs d _ _ _ _ _ _ _ _ _ (H1.out _ (((((Below.refl _ _).alloc (Nat.le_refl _) _).alloc (by simp) _).drew))) (H2.out _ (((((Below.refl _ _).alloc (Nat.le_refl _) _).alloc (by simp) _).drew)))).mono ?_
            rintro e w2 ⟨hb2, b, rfl, hbi⟩
            have hs2 : wr.heap.size + 1 + 1 ≤ w2.heap.size := by have := hb2.size; simp at this; omega
            have HW2 := Lib.hid ((((((Below.refl _ _).alloc (Nat.le_refl _) _).alloc (by simp) _).drew)).trans (hb2.mono (by simp; omega)))
            have HBI := Lib.hid hbi
            have uw24 : w2.cell? ⟨wr.heap.size, 4, none⟩ = some (.slice a2' n2' c2') := (hb2.cell (p := ⟨wr.heap.size, 4, none⟩) (by simp <;> omega)).trans (by simp [go_sem])
            have vw24 : w2.cell? ⟨wr.heap.size + 1, 4, none⟩ = some (.slice a2 n2 c2) := (hb2.cell (p := ⟨wr.heap.size + 1, 4, none⟩) (by simp <;> omega)).trans (by simp [go_sem])
            have uw25 : w2.cell? ⟨wr.heap.size, 5, none⟩ = some (.slice a3' n3' c3') := (hb2.cell (p := ⟨wr.heap.size, 5, none⟩) (by simp <;> omega)).trans (by simp [go_sem])
            have vw25 : w2.cell? ⟨wr.heap.size + 1, 5, none⟩ = some (.slice a3 n3 c3) := (hb2.cell (p := ⟨wr.heap.size + 1, 5, none⟩) (by simp <;> omega)).trans (by simp [go_sem])
            clear hb2 hbi
            cases b
            · go_wp2_with fail
              go_ret
              refine ⟨HB.out.trans (HW2.out.mono HB.out.size), false, rfl, ?_⟩
              simp
              refine differ hlt hlt2 ?_
              rw [HE1.out, HE2.out]; intro e; injection e; exact absurd (HBI.out.2 ‹_›) (by decide)
            go_wp2_with fail
            refine (IH.out _ _ _ _ _ _ _ _ _ (H3.out _ HW2.out) (H4.out _ HW2.out)).mono ?_
            rintro e w3 ⟨hb3, b, rfl, hbj⟩
            have HW3 := Lib.hid (HW2.out.trans (hb3.mono (by omega)))
            have HBJ := Lib.hid hbj
            have hs3 := hb3.size
            have uw35 : w3.cell? ⟨wr.heap.size, 5, none⟩ = some (.slice a3' n3' c3') := (hb3.cell (p := ⟨wr.heap.size, 5, none⟩) (by show wr.heap.size < w2.heap.size; omega)).trans uw25
            have vw35 : w3.cell? ⟨wr.heap.size + 1, 5, none⟩ = some (.slice a3 n3 c3) := (hb3.cell (p := ⟨wr.heap.size + 1, 5, none⟩) (by show wr.heap.size + 1 < w2.heap.size; omega)).trans vw25
            clear hb3 hbj uw24 uw25 vw24 vw25
            cases b
            · go_wp2_with fail
              go_ret
              refine ⟨HB.out.trans (HW3.out.mono HB.out.size), false, rfl, ?_⟩
              simp
              refine differ hlt hlt2 ?_
              rw [HE1.out, HE2.out]; intro e; injection e; exact absurd (HBJ.out.2 ‹_›) (by decide)
            go_wp2_with fail
            refine (IH.out _ _ _ _ _ _ _ _ _ (H5.out _ HW3.out) (H6.out _ HW3.out)).mono ?_
            rintro e w4 ⟨hb4, b, rfl, hbk⟩
            have HW4 := Lib.hid (HW3.out.trans (hb4.mono (by omega)))
            have HBK := Lib.hid hbk
            clear hb4 hbk uw35 vw35
            cases b
            · go_wp2_with fail
              go_ret
              refine ⟨HB.out.trans (HW4.out.mono HB.out.size), false, rfl, ?_⟩
              simp
              refine differ hlt hlt2 ?_
              rw [HE1.out, HE2.out]; intro e; injection e; exact absurd (HBK.out.2 ‹_›) (by decide)
            go_wp2_with fail
            go_roundw
            case rel =>
              refine ⟨j + 1, by omega, by go_num, ?_, HB.out.trans (HW4.out.mono HB.out.size)⟩
              rw [List.take_succ_eq_append_getElem hlt, List.take_succ_eq_append_getElem hlt2, HPRE.out, HE1.out, HE2.out, HBI.out.1 (by simp), HBJ.out.1 (by simp), HBK.out.1 (by simp)]
            case measure => simp [intOf]; omega
        · have HB := Lib.hid hb
          clear hb
          go_wp2_with fail
          go_ret
          refine ⟨HB.out, true, rfl, ?_⟩
          simp only [true_iff]
          have hp := HPRE.out
          rw [List.take_of_length_le (by omega), List.take_of_length_le (by omega)] at hp
          exact hp
    · have hle : ((l1.length : Int) != (l2.length : Int)) = true := by rw [bne_iff_ne]; omega
      have HL := Lib.hid hlen
      clear hlen
      go_enter Tryd.func28, Tryd.ntmps28
      go_wp2_with fail
      go_ret
      exact ⟨.refl _ _, false, rfl, by simp; intro h; exact HL.out (by rw [h])⟩
end Go.Proofs.YthjonkommphkkaaDoor
