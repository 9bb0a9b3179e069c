/-
  ref08's Same, walked (printed by gensame.py).
-/
import Derived.Test.YthjonkommphkkaaDoorRefSameMe
namespace Go.Proofs.YthjonkommphkkaaDoor
open Lx Go.RowKit
theorem IsCl.flds {A : Nat → Prop} {w : World} {d : Nat} {e : Cl} {nm sp : ByteArray} {v1 v2 : Value} (h : IsCl A w d e [.string nm, .string sp, v1, v2]) : ∃ nn ss fs ms, e = ⟨nn, ss, fs, ms⟩ ∧ nm = strOf nn ∧ sp = strOf ss ∧ IsList A w 2 IsFld fs v1 ∧ IsList A w 5 (IsMe A w d) ms v2 := by
  obtain ⟨h1, h2, h3, h4⟩ := h.parts
  obtain ⟨nn, ss, fs, ms⟩ := e
  exact ⟨nn, ss, fs, ms, rfl, h1, h2, h3, h4⟩
def SameRelB {α : Type} (l1 l2 : List α) (v1 v2 : Value) (w : World) (i : Value) (wr : World) : Prop := ∃ n : Nat, n ≤ l1.length ∧ i = .int .i64 (n : Int) ∧ l1.take n = l2.take n ∧ Below w.heap.size w wr ∧ w.heap.size + 2 ≤ wr.heap.size ∧ wr.cell? ⟨w.heap.size, 0, none⟩ = some v1 ∧ wr.cell? ⟨w.heap.size + 1, 0, none⟩ = some v2
set_option maxHeartbeats 4000000 in
theorem ref_Same (d : Nat) (l1 l2 : List Cl) (a1 : Option Addr) (n1 c1 : Nat) (a2 : Option Addr) (n2 c2 : Nat) (w : World) (h1 : IsList Any w 4 (IsCl Any w d) l1 (.slice a1 n1 c1)) (h2 : IsList Any w 4 (IsCl Any w d) l2 (.slice a2 n2 c2)) :
    Calls Tryd.prog 8 #[.agg #[.slice a1 n1 c1], .agg #[.slice a2 n2 c2]] w (SameOut w (l1 = l2)) := by
  obtain ⟨rfl, hm1, hat1⟩ := h1.clAt
  obtain ⟨rfl, hm2, hat2⟩ := h2.clAt
  unfold maxLen at hm1 hm2
  have HAT1 := Lib.hid hat1
  have HAT2 := Lib.hid hat2
  clear h1 h2 hat1 hat2
  by_cases hlen : l1.length = l2.length
  · have hle : ((l1.length : Int) != (l2.length : Int)) = false := by rw [bne_eq_false_iff_eq]; omega
    have hle1 : l1.length ≤ l2.length := by omega
    have hle2 : l2.length ≤ l1.length := by omega
    clear hlen
    go_enter Tryd.func8, Tryd.ntmps8
    go_wp2_with fail
    go_loopw [5] (fun i wr => SameRelB l1 l2 (.slice a1 l1.length c1) (.slice a2 l2.length c2) w i wr) (fun i _ => l1.length - (intOf i).toNat)
    case atStart => exact ⟨0, Nat.zero_le _, rfl, rfl, ((Below.refl _ _).alloc (Nat.le_refl _) _).alloc (by simp) _, by simp, by simp [go_sem], by simp [go_sem]⟩
    case round =>
      obtain ⟨j, hj, rfl, hpre, hb, hsz, bx1, bx2⟩ := hrel
      have HPRE := Lib.hid hpre
      clear hpre
      by_cases hlt : j < l1.length
      · have hlt2 : j < l2.length := by omega
        obtain ⟨g1, o1, s1, t1, e1, r1, q1, a2, n2, c2', rfl, hg1, ⟨x0, x1, x2, x3⟩, hx⟩ := HAT1.out j hlt
        obtain ⟨g2, o2, s2, t2, e2, r2, q2, a2', n2', c2'', rfl, hg2, ⟨y0, y1, y2, y3⟩, hy⟩ := HAT2.out j hlt2
        rw [← hb.cell (p := ⟨g1, _, none⟩) hg1] at x0 x1 x2 x3
        rw [← hb.cell (p := ⟨g2, _, none⟩) hg2] at y0 y1 y2 y3
        have hs := hb.size
        have hw1 : g1 < wr.heap.size := by omega
        have hw2 : g2 < wr.heap.size := by omega
        obtain ⟨nn1, tt1, ps1, bd1, he1, rfl, rfl, hl1, hb1⟩ := (IsCl.kept (kept_any hb) hx).flds
        obtain ⟨nn2, tt2, ps2, bd2, he2, rfl, rfl, hl2, hb2'⟩ := (IsCl.kept (kept_any hb) hy).flds
        have H1 : Hid (∀ x, Below wr.heap.size wr x → IsList Any x 2 IsFld ps1 (.slice e1 r1 q1)) := fun x hx => hl1.kept (kept_any hx) (by omega) fun _ _ _ h => h
        have H2 : Hid (∀ x, Below wr.heap.size wr x → IsList Any x 2 IsFld ps2 (.slice e2 r2 q2)) := fun x hx => hl2.kept (kept_any hx) (by omega) fun _ _ _ h => h
        have H3 : Hid (∀ x, Below wr.heap.size wr x → IsList Any x 5 (IsMe Any x d) bd1 (.slice a2 n2 c2')) := fun x hx => hb1.kept (kept_any hx) (by omega) fun _ _ _ => IsMe.kept (kept_any hx)
        have H4 : Hid (∀ x, Below wr.heap.size wr x → IsList Any x 5 (IsMe Any x d) bd2 (.slice a2' n2' c2'')) := fun x hx => hb2'.kept (kept_any hx) (by omega) fun _ _ _ => IsMe.kept (kept_any hx)
        have HE1 := Lib.hid he1
        have HE2 := Lib.hid he2
        have HB := Lib.hid hb
        have BX1 := Lib.hid bx1
        have BX2 := Lib.hid bx2
        clear hb hx hy hl1 hl2 hb1 hb2' he1 he2
        have hj1 : (j : Int) < (l1.length : Int) := by omega
        have hj2 : (j : Int) < (l2.length : Int) := by omega
        have hj0 : (0 : Int) ≤ (j : Int) := by omega
        have hz1 : w.heap.size < wr.heap.size := by omega
        have hz2 : w.heap.size + 1 < wr.heap.size := by omega
        by_cases hq : nn1 = nn2
        rotate_left
        · have HNE : Hid (l1[j] ≠ l2[j]) := by show _ ≠ _; rw [HE1.out, HE2.out]; intro e; injection e; exact hq ‹_›
          obtain ⟨q, q'⟩ := str_ne hq
          clear hq
          go_wp2_with fail
          go_region
          all_goals
            go_wp2_with fail
            go_ret
            exact ⟨HB.out.trans ((((((Below.refl _ _).alloc (Nat.le_refl _) _).alloc (by simp) _).drew)).mono hs), false, rfl, by simp; exact differ hlt hlt2 (HNE.out)⟩
        subst hq
        by_cases hq : tt1 = tt2
        rotate_left
        · have HNE : Hid (l1[j] ≠ l2[j]) := by show _ ≠ _; rw [HE1.out, HE2.out]; intro e; injection e; exact hq ‹_›
          obtain ⟨q, q'⟩ := str_ne hq
          clear hq
          go_wp2_with fail
          go_region
          all_goals
            go_wp2_with fail
            go_ret
            exact ⟨HB.out.trans ((((((Below.refl _ _).alloc (Nat.le_refl _) _).alloc (by simp) _).drew)).mono hs), false, rfl, by simp; exact differ hlt hlt2 (HNE.out)⟩
        subst hq
        go_wp2_with fail
        go_region
        · go_wp2_with fail
          refine (ref_SameFields _ _ _ _ _ _ _ _ _ (H1.out _ (((((Below.refl _ _).alloc (Nat.le_refl _) _).alloc (by simp) _).drew))) (H2.out _ (((((Below.refl _ _).alloc (Nat.le_refl _) _).alloc (by simp) _).drew)))).mono ?_
          rintro e w2 ⟨hb2, b, rfl, hbi⟩
          have hs2 : wr.heap.size + 1 + 1 ≤ w2.heap.size := by have := hb2.size; simp at this; omega
          have HW2 := Lib.hid ((((((Below.refl _ _).alloc (Nat.le_refl _) _).alloc (by simp) _).drew)).trans (hb2.mono (by simp; omega)))
          have HBI := Lib.hid hbi
          have uw23 : w2.cell? ⟨wr.heap.size, 3, none⟩ = some (.slice a2 n2 c2') := (hb2.cell (p := ⟨wr.heap.size, 3, none⟩) (by simp <;> omega)).trans (by simp [go_sem])
          have vw23 : w2.cell? ⟨wr.heap.size + 1, 3, none⟩ = some (.slice a2' n2' c2'') := (hb2.cell (p := ⟨wr.heap.size + 1, 3, none⟩) (by simp <;> omega)).trans (by simp [go_sem])
          clear hb2 hbi
          cases b
          · go_wp2_with fail
            go_ret
            refine ⟨HB.out.trans (HW2.out.mono hs), false, rfl, ?_⟩
            simp
            refine differ hlt hlt2 ?_
            rw [HE1.out, HE2.out]; intro e; injection e; exact absurd (HBI.out.2 ‹_›) (by decide)
          go_wp2_with fail
          refine (ref_SameMethods d _ _ _ _ _ _ _ _ _ (H3.out _ HW2.out) (H4.out _ HW2.out)).mono ?_
          rintro e w3 ⟨hb3, b, rfl, hbj⟩
          have HW3 := Lib.hid (HW2.out.trans (hb3.mono (by omega)))
          have HBJ := Lib.hid hbj
          have bz1 : w3.cell? ⟨w.heap.size, 0, none⟩ = some (.slice (some ⟨g1, o1, none⟩) l1.length c1) := (HW3.out.cell (p := ⟨w.heap.size, 0, none⟩) (by show w.heap.size < _; omega)).trans BX1.out
          have bz2 : w3.cell? ⟨w.heap.size + 1, 0, none⟩ = some (.slice (some ⟨g2, o2, none⟩) l2.length c2) := (HW3.out.cell (p := ⟨w.heap.size + 1, 0, none⟩) (by show w.heap.size + 1 < _; omega)).trans BX2.out
          have hs3 := HW3.out.size
          clear hb3 hbj uw23 vw23
          cases b
          · go_wp2_with fail
            go_ret
            refine ⟨HB.out.trans (HW3.out.mono hs), false, rfl, ?_⟩
            simp
            refine differ hlt hlt2 ?_
            rw [HE1.out, HE2.out]; intro e; injection e; exact absurd (HBJ.out.2 ‹_›) (by decide)
          have BZ1 := Lib.hid bz1
          have BZ2 := Lib.hid bz2
          clear bz1 bz2
          go_wp2_with fail
          go_roundw
          case rel =>
            refine ⟨j + 1, by omega, by go_num, ?_, HB.out.trans (HW3.out.mono hs), by omega, BZ1.out, BZ2.out⟩
            rw [List.take_succ_eq_append_getElem hlt, List.take_succ_eq_append_getElem hlt2, HPRE.out, HE1.out, HE2.out, HBI.out.1 (by simp), HBJ.out.1 (by simp)]
          case measure => simp [intOf]; omega
        · go_wp2_with fail
          refine (ref_SameFields _ _ _ _ _ _ _ _ _ (H1.out _ (((((Below.refl _ _).alloc (Nat.le_refl _) _).alloc (by simp) _).drew))) (H2.out _ (((((Below.refl _ _).alloc (Nat.le_refl _) _).alloc (by simp) _).drew)))).mono ?_
          rintro e w2 ⟨hb2, b, rfl, hbi⟩
          have hs2 : wr.heap.size + 1 + 1 ≤ w2.heap.size := by have := hb2.size; simp at this; omega
          have HW2 := Lib.hid ((((((Below.refl _ _).alloc (Nat.le_refl _) _).alloc (by simp) _).drew)).trans (hb2.mono (by simp; omega)))
          have HBI := Lib.hid hbi
          have uw23 : w2.cell? ⟨wr.heap.size, 3, none⟩ = some (.slice a2' n2' c2'') := (hb2.cell (p := ⟨wr.heap.size, 3, none⟩) (by simp <;> omega)).trans (by simp [go_sem])
          have vw23 : w2.cell? ⟨wr.heap.size + 1, 3, none⟩ = some (.slice a2 n2 c2') := (hb2.cell (p := ⟨wr.heap.size + 1, 3, none⟩) (by simp <;> omega)).trans (by simp [go_sem])
          clear hb2 hbi
          cases b
          · go_wp2_with fail
            go_ret
            refine ⟨HB.out.trans (HW2.out.mono hs), false, rfl, ?_⟩
            simp
            refine differ hlt hlt2 ?_
            rw [HE1.out, HE2.out]; intro e; injection e; exact absurd (HBI.out.2 ‹_›) (by decide)
          go_wp2_with fail
          refine (ref_SameMethods d _ _ _ _ _ _ _ _ _ (H3.out _ HW2.out) (H4.out _ HW2.out)).mono ?_
          rintro e w3 ⟨hb3, b, rfl, hbj⟩
          have HW3 := Lib.hid (HW2.out.trans (hb3.mono (by omega)))
          have HBJ := Lib.hid hbj
          have bz1 : w3.cell? ⟨w.heap.size, 0, none⟩ = some (.slice (some ⟨g1, o1, none⟩) l1.length c1) := (HW3.out.cell (p := ⟨w.heap.size, 0, none⟩) (by show w.heap.size < _; omega)).trans BX1.out
          have bz2 : w3.cell? ⟨w.heap.size + 1, 0, none⟩ = some (.slice (some ⟨g2, o2, none⟩) l2.length c2) := (HW3.out.cell (p := ⟨w.heap.size + 1, 0, none⟩) (by show w.heap.size + 1 < _; omega)).trans BX2.out
          have hs3 := HW3.out.size
          clear hb3 hbj uw23 vw23
          cases b
          · go_wp2_with fail
            go_ret
            refine ⟨HB.out.trans (HW3.out.mono hs), false, rfl, ?_⟩
            simp
            refine differ hlt hlt2 ?_
            rw [HE1.out, HE2.out]; intro e; injection e; exact absurd (HBJ.out.2 ‹_›) (by decide)
          have BZ1 := Lib.hid bz1
          have BZ2 := Lib.hid bz2
          clear bz1 bz2
          go_wp2_with fail
          go_roundw
          case rel =>
            refine ⟨j + 1, by omega, by go_num, ?_, HB.out.trans (HW3.out.mono hs), by omega, BZ1.out, BZ2.out⟩
            rw [List.take_succ_eq_append_getElem hlt, List.take_succ_eq_append_getElem hlt2, HPRE.out, HE1.out, HE2.out, HBI.out.1 (by simp), HBJ.out.1 (by simp)]
          case measure => simp [intOf]; omega
      · have HB := Lib.hid hb
        clear hb
        go_wp2_with fail
        go_ret
        refine ⟨HB.out, true, rfl, ?_⟩
        simp only [true_iff]
        have hp := HPRE.out
        rw [List.take_of_length_le (by omega), List.take_of_length_le (by omega)] at hp
        exact hp
  · have hle : ((l1.length : Int) != (l2.length : Int)) = true := by rw [bne_iff_ne]; omega
    have HL := Lib.hid hlen
    clear hlen
    go_enter Tryd.func8, Tryd.ntmps8
    go_wp2_with fail
    go_ret
    exact ⟨((Below.refl _ _).alloc (Nat.le_refl _) _).alloc (by simp) _, false, rfl, by simp; intro h; exact HL.out (by rw [h])⟩
end Go.Proofs.YthjonkommphkkaaDoor
