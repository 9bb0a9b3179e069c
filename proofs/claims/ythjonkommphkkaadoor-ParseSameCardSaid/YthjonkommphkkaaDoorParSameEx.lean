/-
  parse.sameExpr and sameStmt, walked (printed by gensame2.py).
-/
import Derived.Test.YthjonkommphkkaaDoorRefSameAll
import Derived.Deep.QuietTactic
import Derived.BigQuiet
namespace Go.Proofs.YthjonkommphkkaaDoor
open Lx Go.RowKit
set_option maxHeartbeats 2000000 in
theorem par_eqEx (d : Nat) (hK : Hid (∀ (e1 e2 : Ex) (vk1 : Int) (vn1 : Int) (vo1 : ByteArray) (vm1 : ByteArray) (va1 : Option Addr) (vl1 : Nat) (vc1 : Nat) (vk2 : Int) (vn2 : Int) (vo2 : ByteArray) (vm2 : ByteArray) (va2 : Option Addr) (vl2 : Nat) (vc2 : Nat) (w : World), IsEx Any w d e1 [.int .i64 vk1, .int .i64 vn1, .string vo1, .string vm1, .slice va1 vl1 vc1] → IsEx Any w d e2 [.int .i64 vk2, .int .i64 vn2, .string vo2, .string vm2, .slice va2 vl2 vc2] → Calls Tryd.prog 61 #[.agg #[.int .i64 vk1, .int .i64 vn1, .string vo1, .string vm1, .slice va1 vl1 vc1], .agg #[.int .i64 vk2, .int .i64 vn2, .string vo2, .string vm2, .slice va2 vl2 vc2]] w (SameOut w (e1 = e2)))) (l1 l2 : List Ex) (a1 : Option Addr) (n1 c1 : Nat) (a2 : Option Addr) (n2 c2 : Nat) (w : World) (h1 : IsList Any w 5 (IsEx Any w d) l1 (.slice a1 n1 c1)) (h2 : IsList Any w 5 (IsEx Any w d) l2 (.slice a2 n2 c2)) :
    Calls Tryd.prog 60 #[.slice a1 n1 c1, .slice a2 n2 c2, .func (.func 61) #[] #[]] w (SameOut w (l1 = l2)) := by
  obtain ⟨rfl, hm1, hat1⟩ := h1.exAt
  obtain ⟨rfl, hm2, hat2⟩ := h2.exAt
  unfold maxLen at hm1 hm2
  have HAT1 := Lib.hid hat1
  have HAT2 := Lib.hid hat2
  clear h1 h2 hat1 hat2
  by_cases hlen : l1.length = l2.length
  · have hle : ((l1.length : Int) != (l2.length : Int)) = false := by rw [bne_eq_false_iff_eq]; omega
    have hle1 : l1.length ≤ l2.length := by omega
    have hle2 : l2.length ≤ l1.length := by omega
    clear hlen
    go_enter Tryd.func60, Tryd.ntmps60
    go_wp2_with fail
    go_loopw [17] (fun i wr => SameRel l1 l2 w i wr) (fun i _ => l1.length - (intOf i).toNat)
    case atStart => exact ⟨0, Nat.zero_le _, rfl, rfl, .refl _ _⟩
    case round =>
      obtain ⟨j, hj, rfl, hpre, hb⟩ := hrel
      have HPRE := Lib.hid hpre
      clear hpre
      by_cases hlt : j < l1.length
      · have hlt2 : j < l2.length := by omega
        obtain ⟨g1, o1, vk1, vn1, vo1, vm1, va1, vl1, vc1, rfl, hg1, x0, x1, x2, x3, x4, hx⟩ := HAT1.out j hlt
        obtain ⟨g2, o2, vk2, vn2, vo2, vm2, va2, vl2, vc2, rfl, hg2, y0, y1, y2, y3, y4, hy⟩ := HAT2.out j hlt2
        rw [← hb.cell (p := ⟨g1, _, none⟩) hg1] at x0 x1 x2 x3 x4
        rw [← hb.cell (p := ⟨g2, _, none⟩) hg2] at y0 y1 y2 y3 y4
        have hs := hb.size
        have hw1 : g1 < wr.heap.size := by omega
        have hw2 : g2 < wr.heap.size := by omega
        have H1 : Hid (∀ x, Below wr.heap.size wr x → IsEx Any x d l1[j] [.int .i64 vk1, .int .i64 vn1, .string vo1, .string vm1, .slice va1 vl1 vc1]) := fun x hx2 => (IsEx.kept (kept_any hx2) _ _ _ (IsEx.kept (kept_any hb) _ _ _ hx))
        have H2 : Hid (∀ x, Below wr.heap.size wr x → IsEx Any x d l2[j] [.int .i64 vk2, .int .i64 vn2, .string vo2, .string vm2, .slice va2 vl2 vc2]) := fun x hx2 => (IsEx.kept (kept_any hx2) _ _ _ (IsEx.kept (kept_any hb) _ _ _ hy))
        have HB := Lib.hid hb
        clear hb hx hy
        have hj1 : (j : Int) < (l1.length : Int) := by omega
        have hj2 : (j : Int) < (l2.length : Int) := by omega
        have hj0 : (0 : Int) ≤ (j : Int) := by omega
        go_wp2_with fail
        refine (hK.out _ _ _ _ _ _ _ _ _ _ _ _ _ _ _ _ _ (H1.out _ (((Below.refl _ _).alloc (Nat.le_refl _) _).alloc (by simp) _)) (H2.out _ (((Below.refl _ _).alloc (Nat.le_refl _) _).alloc (by simp) _))).mono ?_
        rintro e w2 ⟨hb2, b, rfl, hbi⟩
        have HW2 := Lib.hid ((((Below.refl _ _).alloc (Nat.le_refl _) _).alloc (by simp) _).trans (hb2.mono (by simp; omega)))
        have HBI := Lib.hid hbi
        clear hb2 hbi
        cases b
        · go_wp2_with fail
          go_ret
          refine ⟨HB.out.trans (HW2.out.mono HB.out.size), false, rfl, ?_⟩
          simp
          exact differ hlt hlt2 fun e => absurd (HBI.out.2 e) (by decide)
        · go_wp2_with fail
          go_roundw
          case rel =>
            refine ⟨j + 1, by omega, by go_num, ?_, HB.out.trans (HW2.out.mono HB.out.size)⟩
            rw [List.take_succ_eq_append_getElem hlt, List.take_succ_eq_append_getElem hlt2, HPRE.out, HBI.out.1 (by simp)]
          case measure => simp [intOf]; omega
      · have HB := Lib.hid hb
        clear hb
        go_wp2_with fail
        go_ret
        refine ⟨HB.out, true, rfl, ?_⟩
        simp only [true_iff]
        have hp := HPRE.out
        rw [List.take_of_length_le (by omega), List.take_of_length_le (by omega)] at hp
        exact hp
  · have hle : ((l1.length : Int) != (l2.length : Int)) = true := by rw [bne_iff_ne]; omega
    have HL := Lib.hid hlen
    clear hlen
    go_enter Tryd.func60, Tryd.ntmps60
    go_wp2_with fail
    go_ret
    exact ⟨.refl _ _, false, rfl, by simp; intro h; exact HL.out (by rw [h])⟩
set_option maxHeartbeats 2000000 in
theorem par_sameEx (d : Nat) : ∀ (e1 e2 : Ex) (vk1 : Int) (vn1 : Int) (vo1 : ByteArray) (vm1 : ByteArray) (va1 : Option Addr) (vl1 : Nat) (vc1 : Nat) (vk2 : Int) (vn2 : Int) (vo2 : ByteArray) (vm2 : ByteArray) (va2 : Option Addr) (vl2 : Nat) (vc2 : Nat) (w : World), IsEx Any w d e1 [.int .i64 vk1, .int .i64 vn1, .string vo1, .string vm1, .slice va1 vl1 vc1] → IsEx Any w d e2 [.int .i64 vk2, .int .i64 vn2, .string vo2, .string vm2, .slice va2 vl2 vc2] → Calls Tryd.prog 61 #[.agg #[.int .i64 vk1, .int .i64 vn1, .string vo1, .string vm1, .slice va1 vl1 vc1], .agg #[.int .i64 vk2, .int .i64 vn2, .string vo2, .string vm2, .slice va2 vl2 vc2]] w (SameOut w (e1 = e2)) := by
  induction d with
  | zero => intro e1 e2 vk1 vn1 vo1 vm1 va1 vl1 vc1 vk2 vn2 vo2 vm2 va2 vl2 vc2 w h1 h2; exact absurd h1 (by simp [IsEx])
  | succ d ih =>
    intro e1 e2 vk1 vn1 vo1 vm1 va1 vl1 vc1 vk2 vn2 vo2 vm2 va2 vl2 vc2 w h1 h2
    obtain ⟨oo1, mm1, ks1, rfl, rfl, rfl, hl1⟩ := h1.flds
    obtain ⟨oo2, mm2, ks2, rfl, rfl, rfl, hl2⟩ := h2.flds
    have HL1 : Hid (∀ x, Below w.heap.size w x → IsList Any x 5 (IsEx Any x d) ks1 (.slice va1 vl1 vc1)) := fun x hx => hl1.kept (kept_any hx) (by omega) fun _ _ _ => IsEx.kept (kept_any hx) _ _ _
    have HL2 : Hid (∀ x, Below w.heap.size w x → IsList Any x 5 (IsEx Any x d) ks2 (.slice va2 vl2 vc2)) := fun x hx => hl2.kept (kept_any hx) (by omega) fun _ _ _ => IsEx.kept (kept_any hx) _ _ _
    clear hl1 hl2
    by_cases hq : vk1 = vk2
    rotate_left
    · have HQ := Lib.hid hq
      have q : (vk1 == vk2) = false := by rw [beq_eq_false_iff_ne]; exact hq
      clear hq
      go_enter Tryd.func61, Tryd.ntmps61
      go_wp2_with fail
      go_ret
      exact ⟨(((Below.refl _ _).alloc (Nat.le_refl _) _).alloc (by simp) _), false, rfl, ⟨fun h => absurd h (by decide), fun h => absurd (by cases h; rfl) HQ.out⟩⟩
    subst hq
    by_cases hq : vn1 = vn2
    rotate_left
    · have HQ := Lib.hid hq
      have q : (vn1 == vn2) = false := by rw [beq_eq_false_iff_ne]; exact hq
      clear hq
      go_enter Tryd.func61, Tryd.ntmps61
      go_wp2_with fail
      go_ret
      exact ⟨(((Below.refl _ _).alloc (Nat.le_refl _) _).alloc (by simp) _), false, rfl, ⟨fun h => absurd h (by decide), fun h => absurd (by cases h; rfl) HQ.out⟩⟩
    subst hq
    by_cases hq : oo1 = oo2
    rotate_left
    · have HQ := Lib.hid hq
      obtain ⟨q, q'⟩ := str_ne hq
      clear hq
      go_enter Tryd.func61, Tryd.ntmps61
      go_wp2_with fail
      go_ret
      exact ⟨(((Below.refl _ _).alloc (Nat.le_refl _) _).alloc (by simp) _), false, rfl, ⟨fun h => absurd h (by decide), fun h => absurd (by cases h; rfl) HQ.out⟩⟩
    subst hq
    by_cases hq : mm1 = mm2
    rotate_left
    · have HQ := Lib.hid hq
      obtain ⟨q, q'⟩ := str_ne hq
      clear hq
      go_enter Tryd.func61, Tryd.ntmps61
      go_wp2_with fail
      go_ret
      exact ⟨(((Below.refl _ _).alloc (Nat.le_refl _) _).alloc (by simp) _), false, rfl, ⟨fun h => absurd h (by decide), fun h => absurd (by cases h; rfl) HQ.out⟩⟩
    subst hq
    go_enter Tryd.func61, Tryd.ntmps61
    go_wp2_with fail
    refine (par_eqEx d (Lib.hid ih) _ _ _ _ _ _ _ _ _ (HL1.out _ (((Below.refl _ _).alloc (Nat.le_refl _) _).alloc (by simp) _)) (HL2.out _ (((Below.refl _ _).alloc (Nat.le_refl _) _).alloc (by simp) _))).mono ?_
    rintro e w2 ⟨hb, b, rfl, hbi⟩
    have HW2 := Lib.hid ((((Below.refl _ _).alloc (Nat.le_refl _) _).alloc (by simp) _).trans (hb.mono (by simp; omega)))
    have hs2 : w.heap.size + 1 + 1 ≤ w2.heap.size := by have := hb.size; simp at this; omega
    have HBI2 := Lib.hid hbi
    clear hb hbi 
    cases b
    · go_wp2_with fail
      go_ret
      exact ⟨HW2.out, false, rfl, ⟨fun h => absurd h (by decide), fun h => absurd (HBI2.out.2 (by cases h; rfl)) (by decide)⟩⟩
    obtain rfl : ks1 = ks2 := HBI2.out.1 rfl
    go_wp2_with fail
    go_ret
    exact ⟨HW2.out, true, rfl, by simp⟩
set_option maxHeartbeats 2000000 in
theorem par_eqSt (d : Nat) (hK : Hid (∀ (e1 e2 : St) (vk1 : Int) (vo1 : ByteArray) (vm1 : ByteArray) (va1 : Option Addr) (vl1 : Nat) (vc1 : Nat) (vaa1 : Option Addr) (vll1 : Nat) (vcc1 : Nat) (vab1 : Option Addr) (vlb1 : Nat) (vcb1 : Nat) (vk2 : Int) (vo2 : ByteArray) (vm2 : ByteArray) (va2 : Option Addr) (vl2 : Nat) (vc2 : Nat) (vaa2 : Option Addr) (vll2 : Nat) (vcc2 : Nat) (vab2 : Option Addr) (vlb2 : Nat) (vcb2 : Nat) (w : World), IsSt Any w d e1 [.int .i64 vk1, .string vo1, .string vm1, .slice va1 vl1 vc1, .slice vaa1 vll1 vcc1, .slice vab1 vlb1 vcb1] → IsSt Any w d e2 [.int .i64 vk2, .string vo2, .string vm2, .slice va2 vl2 vc2, .slice vaa2 vll2 vcc2, .slice vab2 vlb2 vcb2] → Calls Tryd.prog 46 #[.agg #[.int .i64 vk1, .string vo1, .string vm1, .slice va1 vl1 vc1, .slice vaa1 vll1 vcc1, .slice vab1 vlb1 vcb1], .agg #[.int .i64 vk2, .string vo2, .string vm2, .slice va2 vl2 vc2, .slice vaa2 vll2 vcc2, .slice vab2 vlb2 vcb2]] w (SameOut w (e1 = e2)))) (l1 l2 : List St) (a1 : Option Addr) (n1 c1 : Nat) (a2 : Option Addr) (n2 c2 : Nat) (w : World) (h1 : IsList Any w 6 (IsSt Any w d) l1 (.slice a1 n1 c1)) (h2 : IsList Any w 6 (IsSt Any w d) l2 (.slice a2 n2 c2)) :
    Calls Tryd.prog 45 #[.slice a1 n1 c1, .slice a2 n2 c2, .func (.func 46) #[] #[]] w (SameOut w (l1 = l2)) := by
  obtain ⟨rfl, hm1, hat1⟩ := h1.stAt
  obtain ⟨rfl, hm2, hat2⟩ := h2.stAt
  unfold maxLen at hm1 hm2
  have HAT1 := Lib.hid hat1
  have HAT2 := Lib.hid hat2
  clear h1 h2 hat1 hat2
  by_cases hlen : l1.length = l2.length
  · have hle : ((l1.length : Int) != (l2.length : Int)) = false := by rw [bne_eq_false_iff_eq]; omega
    have hle1 : l1.length ≤ l2.length := by omega
    have hle2 : l2.length ≤ l1.length := by omega
    clear hlen
    go_enter Tryd.func45, Tryd.ntmps45
    go_wp2_with fail
    go_loopw [17] (fun i wr => SameRel l1 l2 w i wr) (fun i _ => l1.length - (intOf i).toNat)
    case atStart => exact ⟨0, Nat.zero_le _, rfl, rfl, .refl _ _⟩
    case round =>
      obtain ⟨j, hj, rfl, hpre, hb⟩ := hrel
      have HPRE := Lib.hid hpre
      clear hpre
      by_cases hlt : j < l1.length
      · have hlt2 : j < l2.length := by omega
        obtain ⟨g1, o1, vk1, vo1, vm1, va1, vl1, vc1, vaa1, vll1, vcc1, vab1, vlb1, vcb1, rfl, hg1, ⟨x0, x1, x2, x3, x4, x5⟩, hx⟩ := HAT1.out j hlt
        obtain ⟨g2, o2, vk2, vo2, vm2, va2, vl2, vc2, vaa2, vll2, vcc2, vab2, vlb2, vcb2, rfl, hg2, ⟨y0, y1, y2, y3, y4, y5⟩, hy⟩ := HAT2.out j hlt2
        rw [← hb.cell (p := ⟨g1, _, none⟩) hg1] at x0 x1 x2 x3 x4 x5
        rw [← hb.cell (p := ⟨g2, _, none⟩) hg2] at y0 y1 y2 y3 y4 y5
        have hs := hb.size
        have hw1 : g1 < wr.heap.size := by omega
        have hw2 : g2 < wr.heap.size := by omega
        have H1 : Hid (∀ x, Below wr.heap.size wr x → IsSt Any x d l1[j] [.int .i64 vk1, .string vo1, .string vm1, .slice va1 vl1 vc1, .slice vaa1 vll1 vcc1, .slice vab1 vlb1 vcb1]) := fun x hx2 => (IsSt.kept (kept_any hx2) _ _ _ (IsSt.kept (kept_any hb) _ _ _ hx))
        have H2 : Hid (∀ x, Below wr.heap.size wr x → IsSt Any x d l2[j] [.int .i64 vk2, .string vo2, .string vm2, .slice va2 vl2 vc2, .slice vaa2 vll2 vcc2, .slice vab2 vlb2 vcb2]) := fun x hx2 => (IsSt.kept (kept_any hx2) _ _ _ (IsSt.kept (kept_any hb) _ _ _ hy))
        have HB := Lib.hid hb
        clear hb hx hy
        have hj1 : (j : Int) < (l1.length : Int) := by omega
        have hj2 : (j : Int) < (l2.length : Int) := by omega
        have hj0 : (0 : Int) ≤ (j : Int) := by omega
        go_wp2_with fail
        refine (hK.out _ _ _ _ _ _ _ _ _ _ _ _ _ _ _ _ _ _ _ _ _ _ _ _ _ _ _ (H1.out _ (((Below.refl _ _).alloc (Nat.le_refl _) _).alloc (by simp) _)) (H2.out _ (((Below.refl _ _).alloc (Nat.le_refl _) _).alloc (by simp) _))).mono ?_
        rintro e w2 ⟨hb2, b, rfl, hbi⟩
        have HW2 := Lib.hid ((((Below.refl _ _).alloc (Nat.le_refl _) _).alloc (by simp) _).trans (hb2.mono (by simp; omega)))
        have HBI := Lib.hid hbi
        clear hb2 hbi
        cases b
        · go_wp2_with fail
          go_ret
          refine ⟨HB.out.trans (HW2.out.mono HB.out.size), false, rfl, ?_⟩
          simp
          exact differ hlt hlt2 fun e => absurd (HBI.out.2 e) (by decide)
        · go_wp2_with fail
          go_roundw
          case rel =>
            refine ⟨j + 1, by omega, by go_num, ?_, HB.out.trans (HW2.out.mono HB.out.size)⟩
            rw [List.take_succ_eq_append_getElem hlt, List.take_succ_eq_append_getElem hlt2, HPRE.out, HBI.out.1 (by simp)]
          case measure => simp [intOf]; omega
      · have HB := Lib.hid hb
        clear hb
        go_wp2_with fail
        go_ret
        refine ⟨HB.out, true, rfl, ?_⟩
        simp only [true_iff]
        have hp := HPRE.out
        rw [List.take_of_length_le (by omega), List.take_of_length_le (by omega)] at hp
        exact hp
  · have hle : ((l1.length : Int) != (l2.length : Int)) = true := by rw [bne_iff_ne]; omega
    have HL := Lib.hid hlen
    clear hlen
    go_enter Tryd.func45, Tryd.ntmps45
    go_wp2_with fail
    go_ret
    exact ⟨.refl _ _, false, rfl, by simp; intro h; exact HL.out (by rw [h])⟩
set_option maxHeartbeats 2000000 in
theorem par_sameSt (d : Nat) : ∀ (e1 e2 : St) (vk1 : Int) (vo1 : ByteArray) (vm1 : ByteArray) (va1 : Option Addr) (vl1 : Nat) (vc1 : Nat) (vaa1 : Option Addr) (vll1 : Nat) (vcc1 : Nat) (vab1 : Option Addr) (vlb1 : Nat) (vcb1 : Nat) (vk2 : Int) (vo2 : ByteArray) (vm2 : ByteArray) (va2 : Option Addr) (vl2 : Nat) (vc2 : Nat) (vaa2 : Option Addr) (vll2 : Nat) (vcc2 : Nat) (vab2 : Option Addr) (vlb2 : Nat) (vcb2 : Nat) (w : World), IsSt Any w d e1 [.int .i64 vk1, .string vo1, .string vm1, .slice va1 vl1 vc1, .slice vaa1 vll1 vcc1, .slice vab1 vlb1 vcb1] → IsSt Any w d e2 [.int .i64 vk2, .string vo2, .string vm2, .slice va2 vl2 vc2, .slice vaa2 vll2 vcc2, .slice vab2 vlb2 vcb2] → Calls Tryd.prog 46 #[.agg #[.int .i64 vk1, .string vo1, .string vm1, .slice va1 vl1 vc1, .slice vaa1 vll1 vcc1, .slice vab1 vlb1 vcb1], .agg #[.int .i64 vk2, .string vo2, .string vm2, .slice va2 vl2 vc2, .slice vaa2 vll2 vcc2, .slice vab2 vlb2 vcb2]] w (SameOut w (e1 = e2)) := by
  induction d with
  | zero => intro e1 e2 vk1 vo1 vm1 va1 vl1 vc1 vaa1 vll1 vcc1 vab1 vlb1 vcb1 vk2 vo2 vm2 va2 vl2 vc2 vaa2 vll2 vcc2 vab2 vlb2 vcb2 w h1 h2; exact absurd h1 (by simp [IsSt])
  | succ d ih =>
    intro e1 e2 vk1 vo1 vm1 va1 vl1 vc1 vaa1 vll1 vcc1 vab1 vlb1 vcb1 vk2 vo2 vm2 va2 vl2 vc2 vaa2 vll2 vcc2 vab2 vlb2 vcb2 w h1 h2
    obtain ⟨oo1, mm1, es1, bd1, el1, rfl, rfl, rfl, hl1, hm1, hn1⟩ := h1.flds
    obtain ⟨oo2, mm2, es2, bd2, el2, rfl, rfl, rfl, hl2, hm2, hn2⟩ := h2.flds
    have HL1 : Hid (∀ x, Below w.heap.size w x → IsList Any x 5 (IsEx Any x d) es1 (.slice va1 vl1 vc1)) := fun x hx => hl1.kept (kept_any hx) (by omega) fun _ _ _ => IsEx.kept (kept_any hx) _ _ _
    have HL2 : Hid (∀ x, Below w.heap.size w x → IsList Any x 5 (IsEx Any x d) es2 (.slice va2 vl2 vc2)) := fun x hx => hl2.kept (kept_any hx) (by omega) fun _ _ _ => IsEx.kept (kept_any hx) _ _ _
    have HM1 : Hid (∀ x, Below w.heap.size w x → IsList Any x 6 (IsSt Any x d) bd1 (.slice vaa1 vll1 vcc1)) := fun x hx => hm1.kept (kept_any hx) (by omega) fun _ _ _ => IsSt.kept (kept_any hx) _ _ _
    have HM2 : Hid (∀ x, Below w.heap.size w x → IsList Any x 6 (IsSt Any x d) bd2 (.slice vaa2 vll2 vcc2)) := fun x hx => hm2.kept (kept_any hx) (by omega) fun _ _ _ => IsSt.kept (kept_any hx) _ _ _
    have HN1 : Hid (∀ x, Below w.heap.size w x → IsList Any x 6 (IsSt Any x d) el1 (.slice vab1 vlb1 vcb1)) := fun x hx => hn1.kept (kept_any hx) (by omega) fun _ _ _ => IsSt.kept (kept_any hx) _ _ _
    have HN2 : Hid (∀ x, Below w.heap.size w x → IsList Any x 6 (IsSt Any x d) el2 (.slice vab2 vlb2 vcb2)) := fun x hx => hn2.kept (kept_any hx) (by omega) fun _ _ _ => IsSt.kept (kept_any hx) _ _ _
    clear hl1 hl2 hm1 hm2 hn1 hn2
    by_cases hq : vk1 = vk2
    rotate_left
    · have HQ := Lib.hid hq
      have q : (vk1 == vk2) = false := by rw [beq_eq_false_iff_ne]; exact hq
      clear hq
      go_enter Tryd.func46, Tryd.ntmps46
      go_wp2_with fail
      go_ret
      exact ⟨(((Below.refl _ _).alloc (Nat.le_refl _) _).alloc (by simp) _), false, rfl, ⟨fun h => absurd h (by decide), fun h => absurd (by cases h; rfl) HQ.out⟩⟩
    subst hq
    by_cases hq : oo1 = oo2
    rotate_left
    · have HQ := Lib.hid hq
      obtain ⟨q, q'⟩ := str_ne hq
      clear hq
      go_enter Tryd.func46, Tryd.ntmps46
      go_wp2_with fail
      go_ret
      exact ⟨(((Below.refl _ _).alloc (Nat.le_refl _) _).alloc (by simp) _), false, rfl, ⟨fun h => absurd h (by decide), fun h => absurd (by cases h; rfl) HQ.out⟩⟩
    subst hq
    by_cases hq : mm1 = mm2
    rotate_left
    · have HQ := Lib.hid hq
      obtain ⟨q, q'⟩ := str_ne hq
      clear hq
      go_enter Tryd.func46, Tryd.ntmps46
      go_wp2_with fail
      go_ret
      exact ⟨(((Below.refl _ _).alloc (Nat.le_refl _) _).alloc (by simp) _), false, rfl, ⟨fun h => absurd h (by decide), fun h => absurd (by cases h; rfl) HQ.out⟩⟩
    subst hq
    go_enter Tryd.func46, Tryd.ntmps46
    go_wp2_with fail
    refine (par_eqEx d (Lib.hid (par_sameEx d)) _ _ _ _ _ _ _ _ _ (HL1.out _ (((Below.refl _ _).alloc (Nat.le_refl _) _).alloc (by simp) _)) (HL2.out _ (((Below.refl _ _).alloc (Nat.le_refl _) _).alloc (by simp) _))).mono ?_
    rintro e w2 ⟨hb, b, rfl, hbi⟩
    have HW2 := Lib.hid ((((Below.refl _ _).alloc (Nat.le_refl _) _).alloc (by simp) _).trans (hb.mono (by simp; omega)))
    have hs2 : w.heap.size + 1 + 1 ≤ w2.heap.size := by have := hb.size; simp at this; omega
    have HBI2 := Lib.hid hbi
    have u241 : w2.cell? ⟨w.heap.size, 4, none⟩ = some (.slice vaa1 vll1 vcc1) := (hb.cell (p := ⟨w.heap.size, 4, none⟩) (by simp <;> omega)).trans (by simp [go_sem])
    have u242 : w2.cell? ⟨w.heap.size + 1, 4, none⟩ = some (.slice vaa2 vll2 vcc2) := (hb.cell (p := ⟨w.heap.size + 1, 4, none⟩) (by simp <;> omega)).trans (by simp [go_sem])
    have u251 : w2.cell? ⟨w.heap.size, 5, none⟩ = some (.slice vab1 vlb1 vcb1) := (hb.cell (p := ⟨w.heap.size, 5, none⟩) (by simp <;> omega)).trans (by simp [go_sem])
    have u252 : w2.cell? ⟨w.heap.size + 1, 5, none⟩ = some (.slice vab2 vlb2 vcb2) := (hb.cell (p := ⟨w.heap.size + 1, 5, none⟩) (by simp <;> omega)).trans (by simp [go_sem])
    clear hb hbi 
    cases b
    · go_wp2_with fail
      go_ret
      exact ⟨HW2.out, false, rfl, ⟨fun h => absurd h (by decide), fun h => absurd (HBI2.out.2 (by cases h; rfl)) (by decide)⟩⟩
    obtain rfl : es1 = es2 := HBI2.out.1 rfl
    go_wp2_with fail
    refine (par_eqSt d (Lib.hid ih) _ _ _ _ _ _ _ _ _ (HM1.out _ HW2.out) (HM2.out _ HW2.out)).mono ?_
    rintro e w3 ⟨hb, b, rfl, hbi⟩
    have HW3 := Lib.hid (HW2.out.trans (hb.mono HW2.out.size))
    have hs3 : w.heap.size + 1 + 1 ≤ w3.heap.size := Nat.le_trans hs2 hb.size
    have HBI3 := Lib.hid hbi
    have u351 : w3.cell? ⟨w.heap.size, 5, none⟩ = some (.slice vab1 vlb1 vcb1) := (hb.cell (p := ⟨w.heap.size, 5, none⟩) (by show w.heap.size < w2.heap.size; omega)).trans u251
    have u352 : w3.cell? ⟨w.heap.size + 1, 5, none⟩ = some (.slice vab2 vlb2 vcb2) := (hb.cell (p := ⟨w.heap.size + 1, 5, none⟩) (by show w.heap.size + 1 < w2.heap.size; omega)).trans u252
    clear hb hbi u241 u242 u251 u252
    cases b
    · go_wp2_with fail
      go_ret
      exact ⟨HW3.out, false, rfl, ⟨fun h => absurd h (by decide), fun h => absurd (HBI3.out.2 (by cases h; rfl)) (by decide)⟩⟩
    obtain rfl : bd1 = bd2 := HBI3.out.1 rfl
    go_wp2_with fail
    refine (par_eqSt d (Lib.hid ih) _ _ _ _ _ _ _ _ _ (HN1.out _ HW3.out) (HN2.out _ HW3.out)).mono ?_
    rintro e w4 ⟨hb, b, rfl, hbi⟩
    have HW4 := Lib.hid (HW3.out.trans (hb.mono HW3.out.size))
    have hs4 : w.heap.size + 1 + 1 ≤ w4.heap.size := Nat.le_trans hs3 hb.size
    have HBI4 := Lib.hid hbi
    clear hb hbi u351 u352
    cases b
    · go_wp2_with fail
      go_ret
      exact ⟨HW4.out, false, rfl, ⟨fun h => absurd h (by decide), fun h => absurd (HBI4.out.2 (by cases h; rfl)) (by decide)⟩⟩
    obtain rfl : el1 = el2 := HBI4.out.1 rfl
    go_wp2_with fail
    go_ret
    exact ⟨HW4.out, true, rfl, by simp⟩
end Go.Proofs.YthjonkommphkkaaDoor
