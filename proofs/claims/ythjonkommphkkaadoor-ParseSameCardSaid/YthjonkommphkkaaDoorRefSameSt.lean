/-
  ref08's SameFields, SameStmts, walked (printed by gensame.py).
-/
import Derived.Test.YthjonkommphkkaaDoorRefSameEx
import Derived.Deep.QuietTactic
import Derived.BigQuiet
namespace Go.Proofs.YthjonkommphkkaaDoor
open Lx Go.RowKit
theorem IsList.fldAt {A : Nat → Prop} {w : World} {l : List Fld} {a : Option Addr} {n c : Nat} (h : IsList A w 2 IsFld l (.slice a n c)) : n = l.length ∧ l.length ≤ maxLen ∧ ∀ i (hi : i < l.length), ∃ (g off : Nat), a = some ⟨g, off, none⟩ ∧ g < w.heap.size ∧ w.cell? ⟨g, off + i * 2, none⟩ = some (.string (strOf l[i].name)) ∧ w.cell? ⟨g, off + i * 2 + 1, none⟩ = some (.string (strOf l[i].typ)) := by
  obtain ⟨hl, ⟨rfl, a', c', hv⟩ | ⟨g, off, cp, hv, hA, hc⟩⟩ := h
  · cases hv; exact ⟨rfl, hl, fun i hi => by simp at hi⟩
  · cases hv
    refine ⟨rfl, hl, fun i hi => ?_⟩
    obtain ⟨cs, h1, h2, h3⟩ := hc i hi
    unfold IsFld at h3
    subst h3
    have g0 := h2 0 (by omega)
    have g1 := h2 1 (by omega)
    simp only [Nat.add_zero, ← Nat.add_assoc] at g0 g1
    exact ⟨g, off, rfl, World.block_lt_of_cell? w _ g0, g0, g1⟩
theorem Fld.ext' {a b : Fld} (h1 : a.name = b.name) (h2 : a.typ = b.typ) : a = b := by cases a; cases b; cases h1; cases h2; rfl
set_option maxHeartbeats 2000000 in
theorem ref_SameFields (l1 l2 : List Fld) (a1 : Option Addr) (n1 c1 : Nat) (a2 : Option Addr) (n2 c2 : Nat) (w : World) (h1 : IsList Any w 2 IsFld l1 (.slice a1 n1 c1)) (h2 : IsList Any w 2 IsFld l2 (.slice a2 n2 c2)) :
    Calls Tryd.prog 15 #[.slice a1 n1 c1, .slice a2 n2 c2] w (SameOut w (l1 = l2)) := by
  obtain ⟨rfl, hm1, hat1⟩ := h1.fldAt
  obtain ⟨rfl, hm2, hat2⟩ := h2.fldAt
  unfold maxLen at hm1 hm2
  have HAT1 := Lib.hid hat1
  have HAT2 := Lib.hid hat2
  clear h1 h2 hat1 hat2
  by_cases hlen : l1.length = l2.length
  · have hle : ((l1.length : Int) != (l2.length : Int)) = false := by rw [bne_eq_false_iff_eq]; omega
    have hle1 : l1.length ≤ l2.length := by omega
    have hle2 : l2.length ≤ l1.length := by omega
    clear hlen
    go_enter Tryd.func15, Tryd.ntmps15
    go_wp2_with fail
    go_loopw [5] (fun i wr => SameRel l1 l2 w i wr) (fun i _ => l1.length - (intOf i).toNat)
    case atStart => exact ⟨0, Nat.zero_le _, rfl, rfl, .refl _ _⟩
    case round =>
      obtain ⟨j, hj, rfl, hpre, hb⟩ := hrel
      have HPRE := Lib.hid hpre
      clear hpre
      by_cases hlt : j < l1.length
      · have hlt2 : j < l2.length := by omega
        obtain ⟨g1, o1, rfl, hg1, x0, x1⟩ := HAT1.out j hlt
        obtain ⟨g2, o2, rfl, hg2, y0, y1⟩ := HAT2.out j hlt2
        rw [← hb.cell (p := ⟨g1, _, none⟩) hg1] at x0 x1
        rw [← hb.cell (p := ⟨g2, _, none⟩) hg2] at y0 y1
        have hs := hb.size
        have hw1 : g1 < wr.heap.size := by omega
        have hw2 : g2 < wr.heap.size := by omega
        obtain ⟨f1, hf1⟩ : ∃ f, l1[j] = f := ⟨_, rfl⟩
        obtain ⟨f2, hf2⟩ : ∃ f, l2[j] = f := ⟨_, rfl⟩
        rw [hf1] at x0 x1
        rw [hf2] at y0 y1
        have HF1 := Lib.hid hf1
        have HF2 := Lib.hid hf2
        have HB := Lib.hid hb
        clear hb hf1 hf2
        have hj1 : (j : Int) < (l1.length : Int) := by omega
        have hj2 : (j : Int) < (l2.length : Int) := by omega
        have hj0 : (0 : Int) ≤ (j : Int) := by omega
        obtain ⟨fn1, ft1⟩ := f1
        obtain ⟨fn2, ft2⟩ := f2
        simp only at x0 x1 y0 y1
        by_cases hn : fn1 = fn2
        rotate_left
        · have HNE : Hid (l1[j] ≠ l2[j]) := by show _ ≠ _; rw [HF1.out, HF2.out]; intro e; injection e; exact hn ‹_›
          obtain ⟨q, q'⟩ := str_ne hn
          clear hn
          by_cases ht : ft1 = ft2
          · subst ht
            go_wp2_with fail
            go_quiet (fail)
            go_wp2_with fail
            go_ret
            exact ⟨HB.out.trans ((below_drewN (Below.refl _ _) _).mono HB.out.size), false, rfl, by simp; exact differ hlt hlt2 HNE.out⟩
          · obtain ⟨r, r'⟩ := str_ne ht
            clear ht
            go_wp2_with fail
            go_quiet (fail)
            go_wp2_with fail
            go_ret
            exact ⟨HB.out.trans ((below_drewN (Below.refl _ _) _).mono HB.out.size), false, rfl, by simp; exact differ hlt hlt2 HNE.out⟩
        subst hn
        by_cases ht : ft1 = ft2
        rotate_left
        · have HNE : Hid (l1[j] ≠ l2[j]) := by show _ ≠ _; rw [HF1.out, HF2.out]; intro e; injection e; exact ht ‹_›
          obtain ⟨q, q'⟩ := str_ne ht
          clear ht
          go_wp2_with fail
          go_quiet (fail)
          go_wp2_with fail
          go_ret
          exact ⟨HB.out.trans ((below_drewN (Below.refl _ _) _).mono HB.out.size), false, rfl, by simp; exact differ hlt hlt2 HNE.out⟩
        subst ht
        go_wp2_with fail
        go_quiet (fail)
        go_wp2_with fail
        go_roundw
        case rel =>
          refine ⟨j + 1, by omega, by go_num, ?_, HB.out.trans ((below_drewN (Below.refl _ _) _).mono HB.out.size)⟩
          rw [List.take_succ_eq_append_getElem hlt, List.take_succ_eq_append_getElem hlt2, HPRE.out, HF1.out, HF2.out]
        case measure => simp [intOf]; omega
      · have HB := Lib.hid hb
        clear hb
        go_wp2_with fail
        go_ret
        refine ⟨HB.out, true, rfl, ?_⟩
        simp only [true_iff]
        have hp := HPRE.out
        rw [List.take_of_length_le (by omega), List.take_of_length_le (by omega)] at hp
        exact hp
  · have hle : ((l1.length : Int) != (l2.length : Int)) = true := by rw [bne_iff_ne]; omega
    have HL := Lib.hid hlen
    clear hlen
    go_enter Tryd.func15, Tryd.ntmps15
    go_wp2_with fail
    go_ret
    exact ⟨.refl _ _, false, rfl, by simp; intro h; exact HL.out (by rw [h])⟩
end Go.Proofs.YthjonkommphkkaaDoor
