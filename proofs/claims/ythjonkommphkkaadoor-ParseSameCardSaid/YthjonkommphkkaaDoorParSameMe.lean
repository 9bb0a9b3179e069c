/-
  slices.Equal, parse.sameMethod, sameClass, Same, walked (printed by gensame2.py).
-/
import Derived.Test.YthjonkommphkkaaDoorParSameEx
import Derived.Deep.QuietTactic
import Derived.BigQuiet
namespace Go.Proofs.YthjonkommphkkaaDoor
open Lx Go.RowKit
set_option maxHeartbeats 2000000 in
theorem par_eqFld (l1 l2 : List Fld) (a1 : Option Addr) (n1 c1 : Nat) (a2 : Option Addr) (n2 c2 : Nat) (w : World) (h1 : IsList Any w 2 IsFld l1 (.slice a1 n1 c1)) (h2 : IsList Any w 2 IsFld l2 (.slice a2 n2 c2)) :
    Calls Tryd.prog 25 #[.slice a1 n1 c1, .slice a2 n2 c2] w (SameOut w (l1 = l2)) := by
  obtain ⟨rfl, hm1, hat1⟩ := h1.fldAt
  obtain ⟨rfl, hm2, hat2⟩ := h2.fldAt
  unfold maxLen at hm1 hm2
  have HAT1 := Lib.hid hat1
  have HAT2 := Lib.hid hat2
  clear h1 h2 hat1 hat2
  by_cases hlen : l1.length = l2.length
  · have hle : ((l1.length : Int) != (l2.length : Int)) = false := by rw [bne_eq_false_iff_eq]; omega
    have hle1 : l1.length ≤ l2.length := by omega
    have hle2 : l2.length ≤ l1.length := by omega
    clear hlen
    go_enter Tryd.func25, Tryd.ntmps25
    go_wp2_with fail
    go_loopw [13] (fun i wr => SameRel l1 l2 w i wr) (fun i _ => l1.length - (intOf i).toNat)
    case atStart => exact ⟨0, Nat.zero_le _, rfl, rfl, .refl _ _⟩
    case round =>
      obtain ⟨j, hj, rfl, hpre, hb⟩ := hrel
      have HPRE := Lib.hid hpre
      clear hpre
      by_cases hlt : j < l1.length
      · have hlt2 : j < l2.length := by omega
        obtain ⟨g1, o1, rfl, hg1, x0, x1⟩ := HAT1.out j hlt
        obtain ⟨g2, o2, rfl, hg2, y0, y1⟩ := HAT2.out j hlt2
        rw [← hb.cell (p := ⟨g1, _, none⟩) hg1] at x0 x1
        rw [← hb.cell (p := ⟨g2, _, none⟩) hg2] at y0 y1
        have hs := hb.size
        have hw1 : g1 < wr.heap.size := by omega
        have hw2 : g2 < wr.heap.size := by omega
        obtain ⟨f1, hf1⟩ : ∃ f, l1[j] = f := ⟨_, rfl⟩
        obtain ⟨f2, hf2⟩ : ∃ f, l2[j] = f := ⟨_, rfl⟩
        rw [hf1] at x0 x1
        rw [hf2] at y0 y1
        have HF1 := Lib.hid hf1
        have HF2 := Lib.hid hf2
        have HB := Lib.hid hb
        clear hb hf1 hf2
        have hj1 : (j : Int) < (l1.length : Int) := by omega
        have hj2 : (j : Int) < (l2.length : Int) := by omega
        have hj0 : (0 : Int) ≤ (j : Int) := by omega
        obtain ⟨fn1, ft1⟩ := f1
        obtain ⟨fn2, ft2⟩ := f2
        simp only at x0 x1 y0 y1
        by_cases hn : fn1 = fn2
        rotate_left
        · have HNE : Hid (l1[j] ≠ l2[j]) := by show _ ≠ _; rw [HF1.out, HF2.out]; intro e; injection e; exact hn ‹_›
          obtain ⟨q, q'⟩ := str_ne hn
          clear hn
          go_wp2_with fail
          go_quiet (fail)
          go_wp2_with fail
          go_ret
          exact ⟨HB.out.trans ((below_drewN (Below.refl _ _) _).mono HB.out.size), false, rfl, by simp; exact differ hlt hlt2 HNE.out⟩
        subst hn
        by_cases ht : ft1 = ft2
        rotate_left
        · have HNE : Hid (l1[j] ≠ l2[j]) := by show _ ≠ _; rw [HF1.out, HF2.out]; intro e; injection e; exact ht ‹_›
          obtain ⟨q, q'⟩ := str_ne ht
          clear ht
          go_wp2_with fail
          go_quiet (fail)
          go_wp2_with fail
          go_ret
          exact ⟨HB.out.trans ((below_drewN (Below.refl _ _) _).mono HB.out.size), false, rfl, by simp; exact differ hlt hlt2 HNE.out⟩
        subst ht
        go_wp2_with fail
        go_quiet (fail)
        go_wp2_with fail
        go_roundw
        case rel =>
          refine ⟨j + 1, by omega, by go_num, ?_, HB.out.trans ((below_drewN (Below.refl _ _) _).mono HB.out.size)⟩
          rw [List.take_succ_eq_append_getElem hlt, List.take_succ_eq_append_getElem hlt2, HPRE.out, HF1.out, HF2.out]
        case measure => simp [intOf]; omega
      · have HB := Lib.hid hb
        clear hb
        go_wp2_with fail
        go_ret
        refine ⟨HB.out, true, rfl, ?_⟩
        simp only [true_iff]
        have hp := HPRE.out
        rw [List.take_of_length_le (by omega), List.take_of_length_le (by omega)] at hp
        exact hp
  · have hle : ((l1.length : Int) != (l2.length : Int)) = true := by rw [bne_iff_ne]; omega
    have HL := Lib.hid hlen
    clear hlen
    go_enter Tryd.func25, Tryd.ntmps25
    go_wp2_with fail
    go_ret
    exact ⟨.refl _ _, false, rfl, by simp; intro h; exact HL.out (by rw [h])⟩
set_option maxHeartbeats 2000000 in
theorem par_sameMe (d : Nat) : ∀ (e1 e2 : Me) (vo1 : ByteArray) (vs1 : Bool) (va1 : Option Addr) (vl1 : Nat) (vc1 : Nat) (vm1 : ByteArray) (vaa1 : Option Addr) (vll1 : Nat) (vcc1 : Nat) (vo2 : ByteArray) (vs2 : Bool) (va2 : Option Addr) (vl2 : Nat) (vc2 : Nat) (vm2 : ByteArray) (vaa2 : Option Addr) (vll2 : Nat) (vcc2 : Nat) (w : World), IsMe Any w d e1 [.string vo1, .bool vs1, .slice va1 vl1 vc1, .string vm1, .slice vaa1 vll1 vcc1] → IsMe Any w d e2 [.string vo2, .bool vs2, .slice va2 vl2 vc2, .string vm2, .slice vaa2 vll2 vcc2] → Calls Tryd.prog 27 #[.agg #[.string vo1, .bool vs1, .slice va1 vl1 vc1, .string vm1, .slice vaa1 vll1 vcc1], .agg #[.string vo2, .bool vs2, .slice va2 vl2 vc2, .string vm2, .slice vaa2 vll2 vcc2]] w (SameOut w (e1 = e2)) := by
  intro e1 e2 vo1 vs1 va1 vl1 vc1 vm1 vaa1 vll1 vcc1 vo2 vs2 va2 vl2 vc2 vm2 vaa2 vll2 vcc2 w h1 h2
  obtain ⟨oo1, mm1, ps1, bd1, rfl, rfl, rfl, hl1, hm1⟩ := h1.flds
  obtain ⟨oo2, mm2, ps2, bd2, rfl, rfl, rfl, hl2, hm2⟩ := h2.flds
  have HL1 : Hid (∀ x, Below w.heap.size w x → IsList Any x 2 (IsFld) ps1 (.slice va1 vl1 vc1)) := fun x hx => hl1.kept (kept_any hx) (by omega) fun _ _ _ => id
  have HL2 : Hid (∀ x, Below w.heap.size w x → IsList Any x 2 (IsFld) ps2 (.slice va2 vl2 vc2)) := fun x hx => hl2.kept (kept_any hx) (by omega) fun _ _ _ => id
  have HM1 : Hid (∀ x, Below w.heap.size w x → IsList Any x 6 (IsSt Any x d) bd1 (.slice vaa1 vll1 vcc1)) := fun x hx => hm1.kept (kept_any hx) (by omega) fun _ _ _ => IsSt.kept (kept_any hx) _ _ _
  have HM2 : Hid (∀ x, Below w.heap.size w x → IsList Any x 6 (IsSt Any x d) bd2 (.slice vaa2 vll2 vcc2)) := fun x hx => hm2.kept (kept_any hx) (by omega) fun _ _ _ => IsSt.kept (kept_any hx) _ _ _
  clear hl1 hl2 hm1 hm2
  by_cases hq : oo1 = oo2
  rotate_left
  · have HQ := Lib.hid hq
    obtain ⟨q, q'⟩ := str_ne hq
    clear hq
    go_enter Tryd.func27, Tryd.ntmps27
    go_wp2_with fail
    go_ret
    exact ⟨(((Below.refl _ _).alloc (Nat.le_refl _) _).alloc (by simp) _), false, rfl, ⟨fun h => absurd h (by decide), fun h => absurd (by cases h; rfl) HQ.out⟩⟩
  subst hq
  by_cases hq : vs1 = vs2
  rotate_left
  · have HQ := Lib.hid hq
    have q : (vs1 != vs2) = true := by rw [bne_iff_ne]; exact hq
    have q2 : (vs1 == vs2) = false := by rw [beq_eq_false_iff_ne]; exact hq
    have q3 : (vs1 ^^ vs2) = true := by revert hq; cases vs1 <;> cases vs2 <;> simp
    clear hq
    go_enter Tryd.func27, Tryd.ntmps27
    go_wp2_with fail
    go_ret
    exact ⟨(((Below.refl _ _).alloc (Nat.le_refl _) _).alloc (by simp) _), false, rfl, ⟨fun h => absurd h (by decide), fun h => absurd (by cases h; rfl) HQ.out⟩⟩
  subst hq
  go_enter Tryd.func27, Tryd.ntmps27
  go_wp2_with fail
  refine (par_eqFld _ _ _ _ _ _ _ _ _ (HL1.out _ (((Below.refl _ _).alloc (Nat.le_refl _) _).alloc (by simp) _)) (HL2.out _ (((Below.refl _ _).alloc (Nat.le_refl _) _).alloc (by simp) _))).mono ?_
  rintro e w2 ⟨hb, b, rfl, hbi⟩
  have HW2 := Lib.hid ((((Below.refl _ _).alloc (Nat.le_refl _) _).alloc (by simp) _).trans (hb.mono (by simp; omega)))
  have hs2 : w.heap.size + 1 + 1 ≤ w2.heap.size := by have := hb.size; simp at this; omega
  have HBI2 := Lib.hid hbi
  have u231 : w2.cell? ⟨w.heap.size, 3, none⟩ = some (.string (strOf mm1)) := (hb.cell (p := ⟨w.heap.size, 3, none⟩) (by simp <;> omega)).trans (by simp [go_sem])
  have u232 : w2.cell? ⟨w.heap.size + 1, 3, none⟩ = some (.string (strOf mm2)) := (hb.cell (p := ⟨w.heap.size + 1, 3, none⟩) (by simp <;> omega)).trans (by simp [go_sem])
  have u241 : w2.cell? ⟨w.heap.size, 4, none⟩ = some (.slice vaa1 vll1 vcc1) := (hb.cell (p := ⟨w.heap.size, 4, none⟩) (by simp <;> omega)).trans (by simp [go_sem])
  have u242 : w2.cell? ⟨w.heap.size + 1, 4, none⟩ = some (.slice vaa2 vll2 vcc2) := (hb.cell (p := ⟨w.heap.size + 1, 4, none⟩) (by simp <;> omega)).trans (by simp [go_sem])
  clear hb hbi 
  cases b
  · go_wp2_with fail
    go_ret
    exact ⟨HW2.out, false, rfl, ⟨fun h => absurd h (by decide), fun h => absurd (HBI2.out.2 (by cases h; rfl)) (by decide)⟩⟩
  obtain rfl : ps1 = ps2 := HBI2.out.1 rfl
  by_cases hq : mm1 = mm2
  rotate_left
  · have HQ := Lib.hid hq
    obtain ⟨q, q'⟩ := str_ne hq
    clear hq
    go_wp2_with fail
    go_ret
    exact ⟨HW2.out, false, rfl, ⟨fun h => absurd h (by decide), fun h => absurd (by cases h; rfl) HQ.out⟩⟩
  subst hq
  go_wp2_with fail
  refine (par_eqSt d (Lib.hid (par_sameSt d)) _ _ _ _ _ _ _ _ _ (HM1.out _ HW2.out) (HM2.out _ HW2.out)).mono ?_
  rintro e w3 ⟨hb, b, rfl, hbi⟩
  have HW3 := Lib.hid (HW2.out.trans (hb.mono HW2.out.size))
  have hs3 : w.heap.size + 1 + 1 ≤ w3.heap.size := Nat.le_trans hs2 hb.size
  have HBI3 := Lib.hid hbi
  clear hb hbi u241 u242
  cases b
  · go_wp2_with fail
    go_ret
    exact ⟨HW3.out, false, rfl, ⟨fun h => absurd h (by decide), fun h => absurd (HBI3.out.2 (by cases h; rfl)) (by decide)⟩⟩
  obtain rfl : bd1 = bd2 := HBI3.out.1 rfl
  go_wp2_with fail
  go_ret
  exact ⟨HW3.out, true, rfl, by simp⟩
set_option maxHeartbeats 2000000 in
theorem par_eqMe (d : Nat) (hK : Hid (∀ (e1 e2 : Me) (vo1 : ByteArray) (vs1 : Bool) (va1 : Option Addr) (vl1 : Nat) (vc1 : Nat) (vm1 : ByteArray) (vaa1 : Option Addr) (vll1 : Nat) (vcc1 : Nat) (vo2 : ByteArray) (vs2 : Bool) (va2 : Option Addr) (vl2 : Nat) (vc2 : Nat) (vm2 : ByteArray) (vaa2 : Option Addr) (vll2 : Nat) (vcc2 : Nat) (w : World), IsMe Any w d e1 [.string vo1, .bool vs1, .slice va1 vl1 vc1, .string vm1, .slice vaa1 vll1 vcc1] → IsMe Any w d e2 [.string vo2, .bool vs2, .slice va2 vl2 vc2, .string vm2, .slice vaa2 vll2 vcc2] → Calls Tryd.prog 27 #[.agg #[.string vo1, .bool vs1, .slice va1 vl1 vc1, .string vm1, .slice vaa1 vll1 vcc1], .agg #[.string vo2, .bool vs2, .slice va2 vl2 vc2, .string vm2, .slice vaa2 vll2 vcc2]] w (SameOut w (e1 = e2)))) (l1 l2 : List Me) (a1 : Option Addr) (n1 c1 : Nat) (a2 : Option Addr) (n2 c2 : Nat) (w : World) (h1 : IsList Any w 5 (IsMe Any w d) l1 (.slice a1 n1 c1)) (h2 : IsList Any w 5 (IsMe Any w d) l2 (.slice a2 n2 c2)) :
    Calls Tryd.prog 26 #[.slice a1 n1 c1, .slice a2 n2 c2, .func (.func 27) #[] #[]] w (SameOut w (l1 = l2)) := by
  obtain ⟨rfl, hm1, hat1⟩ := h1.meAt
  obtain ⟨rfl, hm2, hat2⟩ := h2.meAt
  unfold maxLen at hm1 hm2
  have HAT1 := Lib.hid hat1
  have HAT2 := Lib.hid hat2
  clear h1 h2 hat1 hat2
  by_cases hlen : l1.length = l2.length
  · have hle : ((l1.length : Int) != (l2.length : Int)) = false := by rw [bne_eq_false_iff_eq]; omega
    have hle1 : l1.length ≤ l2.length := by omega
    have hle2 : l2.length ≤ l1.length := by omega
    clear hlen
    go_enter Tryd.func26, Tryd.ntmps26
    go_wp2_with fail
    go_loopw [17] (fun i wr => SameRel l1 l2 w i wr) (fun i _ => l1.length - (intOf i).toNat)
    case atStart => exact ⟨0, Nat.zero_le _, rfl, rfl, .refl _ _⟩
    case round =>
      obtain ⟨j, hj, rfl, hpre, hb⟩ := hrel
      have HPRE := Lib.hid hpre
      clear hpre
      by_cases hlt : j < l1.length
      · have hlt2 : j < l2.length := by omega
        obtain ⟨g1, o1, vo1, vs1, va1, vl1, vc1, vm1, vaa1, vll1, vcc1, rfl, hg1, ⟨x0, x1, x2, x3, x4⟩, hx⟩ := HAT1.out j hlt
        obtain ⟨g2, o2, vo2, vs2, va2, vl2, vc2, vm2, vaa2, vll2, vcc2, rfl, hg2, ⟨y0, y1, y2, y3, y4⟩, hy⟩ := HAT2.out j hlt2
        rw [← hb.cell (p := ⟨g1, _, none⟩) hg1] at x0 x1 x2 x3 x4
        rw [← hb.cell (p := ⟨g2, _, none⟩) hg2] at y0 y1 y2 y3 y4
        have hs := hb.size
        have hw1 : g1 < wr.heap.size := by omega
        have hw2 : g2 < wr.heap.size := by omega
        have H1 : Hid (∀ x, Below wr.heap.size wr x → IsMe Any x d l1[j] [.string vo1, .bool vs1, .slice va1 vl1 vc1, .string vm1, .slice vaa1 vll1 vcc1]) := fun x hx2 => (IsMe.kept (kept_any hx2) (IsMe.kept (kept_any hb) hx))
        have H2 : Hid (∀ x, Below wr.heap.size wr x → IsMe Any x d l2[j] [.string vo2, .bool vs2, .slice va2 vl2 vc2, .string vm2, .slice vaa2 vll2 vcc2]) := fun x hx2 => (IsMe.kept (kept_any hx2) (IsMe.kept (kept_any hb) hy))
        have HB := Lib.hid hb
        clear hb hx hy
        have hj1 : (j : Int) < (l1.length : Int) := by omega
        have hj2 : (j : Int) < (l2.length : Int) := by omega
        have hj0 : (0 : Int) ≤ (j : Int) := by omega
        go_wp2_with fail
        refine (hK.out _ _ _ _ _ _ _ _ _ _ _ _ _ _ _ _ _ _ _ _ _ (H1.out _ (((Below.refl _ _).alloc (Nat.le_refl _) _).alloc (by simp) _)) (H2.out _ (((Below.refl _ _).alloc (Nat.le_refl _) _).alloc (by simp) _))).mono ?_
        rintro e w2 ⟨hb2, b, rfl, hbi⟩
        have HW2 := Lib.hid ((((Below.refl _ _).alloc (Nat.le_refl _) _).alloc (by simp) _).trans (hb2.mono (by simp; omega)))
        have HBI := Lib.hid hbi
        clear hb2 hbi
        cases b
        · go_wp2_with fail
          go_ret
          refine ⟨HB.out.trans (HW2.out.mono HB.out.size), false, rfl, ?_⟩
          simp
          exact differ hlt hlt2 fun e => absurd (HBI.out.2 e) (by decide)
        · go_wp2_with fail
          go_roundw
          case rel =>
            refine ⟨j + 1, by omega, by go_num, ?_, HB.out.trans (HW2.out.mono HB.out.size)⟩
            rw [List.take_succ_eq_append_getElem hlt, List.take_succ_eq_append_getElem hlt2, HPRE.out, HBI.out.1 (by simp)]
          case measure => simp [intOf]; omega
      · have HB := Lib.hid hb
        clear hb
        go_wp2_with fail
        go_ret
        refine ⟨HB.out, true, rfl, ?_⟩
        simp only [true_iff]
        have hp := HPRE.out
        rw [List.take_of_length_le (by omega), List.take_of_length_le (by omega)] at hp
        exact hp
  · have hle : ((l1.length : Int) != (l2.length : Int)) = true := by rw [bne_iff_ne]; omega
    have HL := Lib.hid hlen
    clear hlen
    go_enter Tryd.func26, Tryd.ntmps26
    go_wp2_with fail
    go_ret
    exact ⟨.refl _ _, false, rfl, by simp; intro h; exact HL.out (by rw [h])⟩
set_option maxHeartbeats 2000000 in
theorem par_sameCl (d : Nat) : ∀ (e1 e2 : Cl) (vo1 : ByteArray) (vm1 : ByteArray) (va1 : Option Addr) (vl1 : Nat) (vc1 : Nat) (vaa1 : Option Addr) (vll1 : Nat) (vcc1 : Nat) (vo2 : ByteArray) (vm2 : ByteArray) (va2 : Option Addr) (vl2 : Nat) (vc2 : Nat) (vaa2 : Option Addr) (vll2 : Nat) (vcc2 : Nat) (w : World), IsCl Any w d e1 [.string vo1, .string vm1, .slice va1 vl1 vc1, .slice vaa1 vll1 vcc1] → IsCl Any w d e2 [.string vo2, .string vm2, .slice va2 vl2 vc2, .slice vaa2 vll2 vcc2] → Calls Tryd.prog 14 #[.agg #[.string vo1, .string vm1, .slice va1 vl1 vc1, .slice vaa1 vll1 vcc1], .agg #[.string vo2, .string vm2, .slice va2 vl2 vc2, .slice vaa2 vll2 vcc2]] w (SameOut w (e1 = e2)) := by
  intro e1 e2 vo1 vm1 va1 vl1 vc1 vaa1 vll1 vcc1 vo2 vm2 va2 vl2 vc2 vaa2 vll2 vcc2 w h1 h2
  obtain ⟨oo1, mm1, ps1, bd1, rfl, rfl, rfl, hl1, hm1⟩ := h1.flds
  obtain ⟨oo2, mm2, ps2, bd2, rfl, rfl, rfl, hl2, hm2⟩ := h2.flds
  have HL1 : Hid (∀ x, Below w.heap.size w x → IsList Any x 2 (IsFld) ps1 (.slice va1 vl1 vc1)) := fun x hx => hl1.kept (kept_any hx) (by omega) fun _ _ _ => id
  have HL2 : Hid (∀ x, Below w.heap.size w x → IsList Any x 2 (IsFld) ps2 (.slice va2 vl2 vc2)) := fun x hx => hl2.kept (kept_any hx) (by omega) fun _ _ _ => id
  have HM1 : Hid (∀ x, Below w.heap.size w x → IsList Any x 5 (IsMe Any x d) bd1 (.slice vaa1 vll1 vcc1)) := fun x hx => hm1.kept (kept_any hx) (by omega) fun _ _ _ => IsMe.kept (kept_any hx)
  have HM2 : Hid (∀ x, Below w.heap.size w x → IsList Any x 5 (IsMe Any x d) bd2 (.slice vaa2 vll2 vcc2)) := fun x hx => hm2.kept (kept_any hx) (by omega) fun _ _ _ => IsMe.kept (kept_any hx)
  clear hl1 hl2 hm1 hm2
  by_cases hq : oo1 = oo2
  rotate_left
  · have HQ := Lib.hid hq
    obtain ⟨q, q'⟩ := str_ne hq
    clear hq
    go_enter Tryd.func14, Tryd.ntmps14
    go_wp2_with fail
    go_ret
    exact ⟨(((Below.refl _ _).alloc (Nat.le_refl _) _).alloc (by simp) _), false, rfl, ⟨fun h => absurd h (by decide), fun h => absurd (by cases h; rfl) HQ.out⟩⟩
  subst hq
  by_cases hq : mm1 = mm2
  rotate_left
  · have HQ := Lib.hid hq
    obtain ⟨q, q'⟩ := str_ne hq
    clear hq
    go_enter Tryd.func14, Tryd.ntmps14
    go_wp2_with fail
    go_ret
    exact ⟨(((Below.refl _ _).alloc (Nat.le_refl _) _).alloc (by simp) _), false, rfl, ⟨fun h => absurd h (by decide), fun h => absurd (by cases h; rfl) HQ.out⟩⟩
  subst hq
  go_enter Tryd.func14, Tryd.ntmps14
  go_wp2_with fail
  refine (par_eqFld _ _ _ _ _ _ _ _ _ (HL1.out _ (((Below.refl _ _).alloc (Nat.le_refl _) _).alloc (by simp) _)) (HL2.out _ (((Below.refl _ _).alloc (Nat.le_refl _) _).alloc (by simp) _))).mono ?_
  rintro e w2 ⟨hb, b, rfl, hbi⟩
  have HW2 := Lib.hid ((((Below.refl _ _).alloc (Nat.le_refl _) _).alloc (by simp) _).trans (hb.mono (by simp; omega)))
  have hs2 : w.heap.size + 1 + 1 ≤ w2.heap.size := by have := hb.size; simp at this; omega
  have HBI2 := Lib.hid hbi
  have u231 : w2.cell? ⟨w.heap.size, 3, none⟩ = some (.slice vaa1 vll1 vcc1) := (hb.cell (p := ⟨w.heap.size, 3, none⟩) (by simp <;> omega)).trans (by simp [go_sem])
  have u232 : w2.cell? ⟨w.heap.size + 1, 3, none⟩ = some (.slice vaa2 vll2 vcc2) := (hb.cell (p := ⟨w.heap.size + 1, 3, none⟩) (by simp <;> omega)).trans (by simp [go_sem])
  clear hb hbi 
  cases b
  · go_wp2_with fail
    go_ret
    exact ⟨HW2.out, false, rfl, ⟨fun h => absurd h (by decide), fun h => absurd (HBI2.out.2 (by cases h; rfl)) (by decide)⟩⟩
  obtain rfl : ps1 = ps2 := HBI2.out.1 rfl
  go_wp2_with fail
  refine (par_eqMe d (Lib.hid (par_sameMe d)) _ _ _ _ _ _ _ _ _ (HM1.out _ HW2.out) (HM2.out _ HW2.out)).mono ?_
  rintro e w3 ⟨hb, b, rfl, hbi⟩
  have HW3 := Lib.hid (HW2.out.trans (hb.mono HW2.out.size))
  have hs3 : w.heap.size + 1 + 1 ≤ w3.heap.size := Nat.le_trans hs2 hb.size
  have HBI3 := Lib.hid hbi
  clear hb hbi u231 u232
  cases b
  · go_wp2_with fail
    go_ret
    exact ⟨HW3.out, false, rfl, ⟨fun h => absurd h (by decide), fun h => absurd (HBI3.out.2 (by cases h; rfl)) (by decide)⟩⟩
  obtain rfl : bd1 = bd2 := HBI3.out.1 rfl
  go_wp2_with fail
  go_ret
  exact ⟨HW3.out, true, rfl, by simp⟩
set_option maxHeartbeats 2000000 in
theorem par_eqCl (d : Nat) (hK : Hid (∀ (e1 e2 : Cl) (vo1 : ByteArray) (vm1 : ByteArray) (va1 : Option Addr) (vl1 : Nat) (vc1 : Nat) (vaa1 : Option Addr) (vll1 : Nat) (vcc1 : Nat) (vo2 : ByteArray) (vm2 : ByteArray) (va2 : Option Addr) (vl2 : Nat) (vc2 : Nat) (vaa2 : Option Addr) (vll2 : Nat) (vcc2 : Nat) (w : World), IsCl Any w d e1 [.string vo1, .string vm1, .slice va1 vl1 vc1, .slice vaa1 vll1 vcc1] → IsCl Any w d e2 [.string vo2, .string vm2, .slice va2 vl2 vc2, .slice vaa2 vll2 vcc2] → Calls Tryd.prog 14 #[.agg #[.string vo1, .string vm1, .slice va1 vl1 vc1, .slice vaa1 vll1 vcc1], .agg #[.string vo2, .string vm2, .slice va2 vl2 vc2, .slice vaa2 vll2 vcc2]] w (SameOut w (e1 = e2)))) (l1 l2 : List Cl) (a1 : Option Addr) (n1 c1 : Nat) (a2 : Option Addr) (n2 c2 : Nat) (w : World) (h1 : IsList Any w 4 (IsCl Any w d) l1 (.slice a1 n1 c1)) (h2 : IsList Any w 4 (IsCl Any w d) l2 (.slice a2 n2 c2)) :
    Calls Tryd.prog 13 #[.slice a1 n1 c1, .slice a2 n2 c2, .func (.func 14) #[] #[]] w (SameOut w (l1 = l2)) := by
  obtain ⟨rfl, hm1, hat1⟩ := h1.clAt
  obtain ⟨rfl, hm2, hat2⟩ := h2.clAt
  unfold maxLen at hm1 hm2
  have HAT1 := Lib.hid hat1
  have HAT2 := Lib.hid hat2
  clear h1 h2 hat1 hat2
  by_cases hlen : l1.length = l2.length
  · have hle : ((l1.length : Int) != (l2.length : Int)) = false := by rw [bne_eq_false_iff_eq]; omega
    have hle1 : l1.length ≤ l2.length := by omega
    have hle2 : l2.length ≤ l1.length := by omega
    clear hlen
    go_enter Tryd.func13, Tryd.ntmps13
    go_wp2_with fail
    go_loopw [17] (fun i wr => SameRel l1 l2 w i wr) (fun i _ => l1.length - (intOf i).toNat)
    case atStart => exact ⟨0, Nat.zero_le _, rfl, rfl, .refl _ _⟩
    case round =>
      obtain ⟨j, hj, rfl, hpre, hb⟩ := hrel
      have HPRE := Lib.hid hpre
      clear hpre
      by_cases hlt : j < l1.length
      · have hlt2 : j < l2.length := by omega
        obtain ⟨g1, o1, vo1, vm1, va1, vl1, vc1, vaa1, vll1, vcc1, rfl, hg1, ⟨x0, x1, x2, x3⟩, hx⟩ := HAT1.out j hlt
        obtain ⟨g2, o2, vo2, vm2, va2, vl2, vc2, vaa2, vll2, vcc2, rfl, hg2, ⟨y0, y1, y2, y3⟩, hy⟩ := HAT2.out j hlt2
        rw [← hb.cell (p := ⟨g1, _, none⟩) hg1] at x0 x1 x2 x3
        rw [← hb.cell (p := ⟨g2, _, none⟩) hg2] at y0 y1 y2 y3
        have hs := hb.size
        have hw1 : g1 < wr.heap.size := by omega
        have hw2 : g2 < wr.heap.size := by omega
        have H1 : Hid (∀ x, Below wr.heap.size wr x → IsCl Any x d l1[j] [.string vo1, .string vm1, .slice va1 vl1 vc1, .slice vaa1 vll1 vcc1]) := fun x hx2 => (IsCl.kept (kept_any hx2) (IsCl.kept (kept_any hb) hx))
        have H2 : Hid (∀ x, Below wr.heap.size wr x → IsCl Any x d l2[j] [.string vo2, .string vm2, .slice va2 vl2 vc2, .slice vaa2 vll2 vcc2]) := fun x hx2 => (IsCl.kept (kept_any hx2) (IsCl.kept (kept_any hb) hy))
        have HB := Lib.hid hb
        clear hb hx hy
        have hj1 : (j : Int) < (l1.length : Int) := by omega
        have hj2 : (j : Int) < (l2.length : Int) := by omega
        have hj0 : (0 : Int) ≤ (j : Int) := by omega
        go_wp2_with fail
        refine (hK.out _ _ _ _ _ _ _ _ _ _ _ _ _ _ _ _ _ _ _ (H1.out _ (((Below.refl _ _).alloc (Nat.le_refl _) _).alloc (by simp) _)) (H2.out _ (((Below.refl _ _).alloc (Nat.le_refl _) _).alloc (by simp) _))).mono ?_
        rintro e w2 ⟨hb2, b, rfl, hbi⟩
        have HW2 := Lib.hid ((((Below.refl _ _).alloc (Nat.le_refl _) _).alloc (by simp) _).trans (hb2.mono (by simp; omega)))
        have HBI := Lib.hid hbi
        clear hb2 hbi
        cases b
        · go_wp2_with fail
          go_ret
          refine ⟨HB.out.trans (HW2.out.mono HB.out.size), false, rfl, ?_⟩
          simp
          exact differ hlt hlt2 fun e => absurd (HBI.out.2 e) (by decide)
        · go_wp2_with fail
          go_roundw
          case rel =>
            refine ⟨j + 1, by omega, by go_num, ?_, HB.out.trans (HW2.out.mono HB.out.size)⟩
            rw [List.take_succ_eq_append_getElem hlt, List.take_succ_eq_append_getElem hlt2, HPRE.out, HBI.out.1 (by simp)]
          case measure => simp [intOf]; omega
      · have HB := Lib.hid hb
        clear hb
        go_wp2_with fail
        go_ret
        refine ⟨HB.out, true, rfl, ?_⟩
        simp only [true_iff]
        have hp := HPRE.out
        rw [List.take_of_length_le (by omega), List.take_of_length_le (by omega)] at hp
        exact hp
  · have hle : ((l1.length : Int) != (l2.length : Int)) = true := by rw [bne_iff_ne]; omega
    have HL := Lib.hid hlen
    clear hlen
    go_enter Tryd.func13, Tryd.ntmps13
    go_wp2_with fail
    go_ret
    exact ⟨.refl _ _, false, rfl, by simp; intro h; exact HL.out (by rw [h])⟩
set_option maxHeartbeats 2000000 in
theorem par_Same (d : Nat) (l1 l2 : List Cl) (a1 : Option Addr) (n1 c1 : Nat) (a2 : Option Addr) (n2 c2 : Nat) (w : World) (h1 : IsList Any w 4 (IsCl Any w d) l1 (.slice a1 n1 c1)) (h2 : IsList Any w 4 (IsCl Any w d) l2 (.slice a2 n2 c2)) :
    Calls Tryd.prog 7 #[.agg #[.slice a1 n1 c1], .agg #[.slice a2 n2 c2]] w (SameOut w (l1 = l2)) := by
  have H1 : Hid (∀ x, Below w.heap.size w x → IsList Any x 4 (IsCl Any x d) l1 (.slice a1 n1 c1)) := fun x hx => h1.kept (kept_any hx) (by omega) fun _ _ _ => IsCl.kept (kept_any hx)
  have H2 : Hid (∀ x, Below w.heap.size w x → IsList Any x 4 (IsCl Any x d) l2 (.slice a2 n2 c2)) := fun x hx => h2.kept (kept_any hx) (by omega) fun _ _ _ => IsCl.kept (kept_any hx)
  clear h1 h2
  go_enter Tryd.func7, Tryd.ntmps7
  go_wp2_with fail
  refine (par_eqCl d (Lib.hid (par_sameCl d)) _ _ _ _ _ _ _ _ _ (H1.out _ (((Below.refl _ _).alloc (Nat.le_refl _) _).alloc (by simp) _)) (H2.out _ (((Below.refl _ _).alloc (Nat.le_refl _) _).alloc (by simp) _))).mono ?_
  rintro e w2 ⟨hb2, b, rfl, hbi⟩
  have HW2 := Lib.hid ((((Below.refl _ _).alloc (Nat.le_refl _) _).alloc (by simp) _).trans (hb2.mono (by simp; omega)))
  have HBI := Lib.hid hbi
  clear hb2 hbi
  go_wp2_with fail
  go_ret
  exact ⟨HW2.out, b, rfl, HBI.out⟩
end Go.Proofs.YthjonkommphkkaaDoor
