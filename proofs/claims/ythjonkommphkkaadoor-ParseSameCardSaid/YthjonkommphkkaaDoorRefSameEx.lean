/-
  ref08's SameExprs, walked: true exactly if the lists are equal.
-/
import Derived.Test.YthjonkommphkkaaDoorParItems
import Derived.RegionTactic
import Derived.BigRegion
namespace Go.Proofs.YthjonkommphkkaaDoor
open Lx Go.RowKit
/-- A call that compares: true exactly if P. -/
def SameOut (w : World) (P : Prop) (e : Ending) (w' : World) : Prop := Below w.heap.size w w' ∧ ∃ b : Bool, e = .returned (.bool b) ∧ (b = true ↔ P)
def SameRel {α : Type} (l1 l2 : List α) (w : World) (i : Value) (wr : World) : Prop := ∃ n : Nat, n ≤ l1.length ∧ i = .int .i64 (n : Int) ∧ l1.take n = l2.take n ∧ Below w.heap.size w wr
theorem IsEx.flds {A : Nat → Prop} {w : World} {d : Nat} {e : Ex} {k n : Int} {o m : ByteArray} {v : Value} (h : IsEx A w (d + 1) e [.int .i64 k, .int .i64 n, .string o, .string m, v]) : ∃ oo mm ks, e = .mk k n oo mm ks ∧ o = strOf oo ∧ m = strOf mm ∧ IsList A w 5 (IsEx A w d) ks v := by
  obtain ⟨k', n', o', m', ks⟩ := e
  obtain ⟨v', hv, hl⟩ := h
  simp only [List.cons.injEq, Value.int.injEq, Value.string.injEq, true_and, and_true] at hv
  obtain ⟨rfl, rfl, rfl, rfl, rfl⟩ := hv
  exact ⟨o', m', ks, rfl, rfl, rfl, hl⟩
theorem differ {α : Type} {l1 l2 : List α} {j : Nat} (h1 : j < l1.length) (h2 : j < l2.length) (h : l1[j] ≠ l2[j]) : ¬ l1 = l2 := fun e => by subst e; exact h rfl
theorem str_ne {a b : Bytes} (h : a ≠ b) : ((strOf a).toList == (strOf b).toList) = false ∧ ((strOf a).toList != (strOf b).toList) = true := by
  have e : ((strOf a).toList == (strOf b).toList) = false := by rw [str_beq, strOf_data, beq_eq_false_iff_ne]; exact h
  exact ⟨e, by rw [bne, e]; rfl⟩
set_option maxHeartbeats 2000000 in
theorem ref_SameExprs (d : Nat) : ∀ (l1 l2 : List Ex) (a1 : Option Addr) (n1 c1 : Nat) (a2 : Option Addr) (n2 c2 : Nat) (w : World), IsList Any w 5 (IsEx Any w d) l1 (.slice a1 n1 c1) → IsList Any w 5 (IsEx Any w d) l2 (.slice a2 n2 c2) →
    Calls Tryd.prog 47 #[.slice a1 n1 c1, .slice a2 n2 c2] w (SameOut w (l1 = l2)) := by
  induction d with
  | zero =>
    intro l1 l2 a1 n1 c1 a2 n2 c2 w h1 h2
    obtain ⟨rfl, hm1, hat1⟩ := h1.exAt
    obtain ⟨rfl, hm2, hat2⟩ := h2.exAt
    cases l1 with
    | cons x l => obtain ⟨_, _, _, _, _, _, _, _, _, _, _, _, _, _, _, _, hx⟩ := hat1 0 (by simp); exact absurd hx (by simp [IsEx])
    | nil =>
      cases l2 with
      | cons x l => obtain ⟨_, _, _, _, _, _, _, _, _, _, _, _, _, _, _, _, hx⟩ := hat2 0 (by simp); exact absurd hx (by simp [IsEx])
      | nil =>
        clear h1 h2 hat1 hat2
        go_enter Tryd.func47, Tryd.ntmps47
        go_wp2_with fail
        go_loopw [5] (fun i wr => SameRel ([] : List Ex) [] w i wr) (fun i _ => 0 - (intOf i).toNat)
        case atStart => exact ⟨0, Nat.zero_le _, rfl, rfl, .refl _ _⟩
        case round =>
          obtain ⟨j, hj, rfl, _, hb⟩ := hrel
          obtain rfl : j = 0 := by simpa using hj
          have HB := Lib.hid hb
          clear hb
          go_wp2_with fail
          go_ret
          exact ⟨HB.out, true, rfl, by simp⟩
  | succ d ih =>
    intro l1 l2 a1 n1 c1 a2 n2 c2 w h1 h2
    obtain ⟨rfl, hm1, hat1⟩ := h1.exAt
    obtain ⟨rfl, hm2, hat2⟩ := h2.exAt
    unfold maxLen at hm1 hm2
    have HAT1 := Lib.hid hat1
    have HAT2 := Lib.hid hat2
    have IH := Lib.hid ih
    clear h1 h2 hat1 hat2 ih
    by_cases hlen : l1.length = l2.length
    · have hle : ((l1.length : Int) != (l2.length : Int)) = false := by rw [bne_eq_false_iff_eq]; omega
      have hle1 : l1.length ≤ l2.length := by omega
      have hle2 : l2.length ≤ l1.length := by omega
      clear hlen
      go_enter Tryd.func47, Tryd.ntmps47
      go_wp2_with fail
      go_loopw [5] (fun i wr => SameRel l1 l2 w i wr) (fun i _ => l1.length - (intOf i).toNat)
      case atStart => exact ⟨0, Nat.zero_le _, rfl, rfl, .refl _ _⟩
      case round =>
        obtain ⟨j, hj, rfl, hpre, hb⟩ := hrel
        have HPRE := Lib.hid hpre
        clear hpre
        by_cases hlt : j < l1.length
        · have hlt2 : j < l2.length := by omega
          obtain ⟨g1, o1, k1, m1, s1, t1, b1, r1, q1, rfl, hg1, x0, x1, x2, x3, x4, hx⟩ := HAT1.out j hlt
          obtain ⟨g2, o2, k2, m2, s2, t2, b2, r2, q2, rfl, hg2, y0, y1, y2, y3, y4, hy⟩ := HAT2.out j hlt2
          rw [← hb.cell (p := ⟨g1, _, none⟩) hg1] at x0 x1 x2 x3 x4
          rw [← hb.cell (p := ⟨g2, _, none⟩) hg2] at y0 y1 y2 y3 y4
          have hs := hb.size
          have hw1 : g1 < wr.heap.size := by omega
          have hw2 : g2 < wr.heap.size := by omega
          obtain ⟨oo1, mm1, ks1, he1, rfl, rfl, hl1⟩ := (IsEx.kept (kept_any hb) _ _ _ hx).flds
          obtain ⟨oo2, mm2, ks2, he2, rfl, rfl, hl2⟩ := (IsEx.kept (kept_any hb) _ _ _ hy).flds
          have H1 : Hid (∀ x, Below wr.heap.size wr x → IsList Any x 5 (IsEx Any x d) ks1 (.slice b1 r1 q1)) := fun x hx => hl1.kept (kept_any hx) (by omega) fun _ _ _ => IsEx.kept (kept_any hx) _ _ _
          have H2 : Hid (∀ x, Below wr.heap.size wr x → IsList Any x 5 (IsEx Any x d) ks2 (.slice b2 r2 q2)) := fun x hx => hl2.kept (kept_any hx) (by omega) fun _ _ _ => IsEx.kept (kept_any hx) _ _ _
          have HE1 := Lib.hid he1
          have HE2 := Lib.hid he2
          have HB := Lib.hid hb
          clear hb hx hy hl1 hl2 he1 he2
          have hj1 : (j : Int) < (l1.length : Int) := by omega
          have hj2 : (j : Int) < (l2.length : Int) := by omega
          have hj0 : (0 : Int) ≤ (j : Int) := by omega
          by_cases hk : k1 = k2
          rotate_left
          · have HNE : Hid (l1[j] ≠ l2[j]) := by show _ ≠ _; rw [HE1.out, HE2.out]; intro e; injection e; exact hk ‹_›
            have q : (k1 != k2) = true := by rw [bne_iff_ne]; exact hk
            clear hk
            go_wp2_with fail
            go_region
            all_goals
              go_wp2_with fail
              go_ret
              exact ⟨HB.out.trans (((((Below.refl _ _).alloc (Nat.le_refl _) _).alloc (by simp) _).drew).mono HB.out.size), false, rfl, by simp; exact differ hlt hlt2 (HNE.out)⟩
          subst hk
          by_cases hm : m1 = m2
          rotate_left
          · have HNE : Hid (l1[j] ≠ l2[j]) := by show _ ≠ _; rw [HE1.out, HE2.out]; intro e; injection e; exact hm ‹_›
            have q : (m1 != m2) = true := by rw [bne_iff_ne]; exact hm
            clear hm
            go_wp2_with fail
            go_region
            all_goals
              go_wp2_with fail
              go_ret
              exact ⟨HB.out.trans (((((Below.refl _ _).alloc (Nat.le_refl _) _).alloc (by simp) _).drew).mono HB.out.size), false, rfl, by simp; exact differ hlt hlt2 (HNE.out)⟩
          subst hm
          by_cases ho : oo1 = oo2
          rotate_left
          · have HNE : Hid (l1[j] ≠ l2[j]) := by show _ ≠ _; rw [HE1.out, HE2.out]; intro e; injection e; exact ho ‹_›
            obtain ⟨q, q'⟩ := str_ne ho
            clear ho
            go_wp2_with fail
            go_region
            all_goals
              go_wp2_with fail
              go_ret
              exact ⟨HB.out.trans (((((Below.refl _ _).alloc (Nat.le_refl _) _).alloc (by simp) _).drew).mono HB.out.size), false, rfl, by simp; exact differ hlt hlt2 (HNE.out)⟩
          subst ho
          by_cases hn : mm1 = mm2
          rotate_left
          · have HNE : Hid (l1[j] ≠ l2[j]) := by show _ ≠ _; rw [HE1.out, HE2.out]; intro e; injection e; exact hn ‹_›
            obtain ⟨q, q'⟩ := str_ne hn
            clear hn
            go_wp2_with fail
            go_region
            all_goals
              go_wp2_with fail
              go_ret
              exact ⟨HB.out.trans (((((Below.refl _ _).alloc (Nat.le_refl _) _).alloc (by simp) _).drew).mono HB.out.size), false, rfl, by simp; exact differ hlt hlt2 (HNE.out)⟩
          subst hn
          go_wp2_with fail
          go_region
          all_goals
            go_wp2_with fail
            refine (IH.out _ _ _ _ _ _ _ _ _ (H1.out _ (((((Below.refl _ _).alloc (Nat.le_refl _) _).alloc (by simp) _).drew))) (H2.out _ (((((Below.refl _ _).alloc (Nat.le_refl _) _).alloc (by simp) _).drew)))).mono ?_
            rintro e w2 ⟨hb2, b, rfl, hbi⟩
            have HB2 := Lib.hid (HB.out.trans ((((((Below.refl _ _).alloc (Nat.le_refl _) _).alloc (by simp) _).drew).trans (hb2.mono (by simp; omega))).mono HB.out.size))
            have HBI := Lib.hid hbi
            clear hb2 hbi
            cases b
            · go_wp2_with fail
              go_ret
              refine ⟨HB2.out, false, rfl, ?_⟩
              simp
              refine differ hlt hlt2 ?_
              rw [HE1.out, HE2.out]; intro e; injection e; exact absurd (HBI.out.2 ‹_›) (by decide)
            · go_wp2_with fail
              go_roundw
              case rel =>
                refine ⟨j + 1, by omega, by go_num, ?_, HB2.out⟩
                rw [List.take_succ_eq_append_getElem hlt, List.take_succ_eq_append_getElem hlt2, HPRE.out, HE1.out, HE2.out, HBI.out.1 (by simp)]
              case measure => simp [intOf]; omega
        · have HB := Lib.hid hb
          clear hb
          go_wp2_with fail
          go_ret
          refine ⟨HB.out, true, rfl, ?_⟩
          simp only [true_iff]
          have hp := HPRE.out
          rw [List.take_of_length_le (by omega), List.take_of_length_le (by omega)] at hp
          exact hp
    · have hle : ((l1.length : Int) != (l2.length : Int)) = true := by rw [bne_iff_ne]; omega
      have HL := Lib.hid hlen
      clear hlen
      go_enter Tryd.func47, Tryd.ntmps47
      go_wp2_with fail
      go_ret
      exact ⟨.refl _ _, false, rfl, by simp; intro h; exact HL.out (by rw [h])⟩
end Go.Proofs.YthjonkommphkkaaDoor
