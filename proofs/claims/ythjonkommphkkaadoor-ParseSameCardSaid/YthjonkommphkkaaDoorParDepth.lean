/-
  exprDepth, walked; trees in memory that are only read.
-/
import Derived.Test.YthjonkommphkkaaDoorParStBase
import Derived.Test.YthjonkommphkkaaDoorParSpec
namespace Go.Proofs.YthjonkommphkkaaDoor
open Lx Go.RowKit
namespace Lx
mutual
def exDepth : Ex → Nat
  | .mk _ _ _ _ ks => exsDepth ks + 1
def exsDepth : List Ex → Nat
  | [] => 0
  | e :: es => max (exDepth e) (exsDepth es)
end
theorem exsDepth_snoc (l : List Ex) (e : Ex) : exsDepth (l ++ [e]) = max (exsDepth l) (exDepth e) := by
  induction l with
  | nil => simp [exsDepth]
  | cons x l ih => simp only [List.cons_append, exsDepth, ih]; omega
theorem exsDepth_take (l : List Ex) (n : Nat) : exsDepth (l.take n) ≤ exsDepth l := by
  induction l generalizing n with
  | nil => simp [exsDepth]
  | cons x l ih =>
    cases n with
    | zero => simp [exsDepth]
    | succ n => simp only [List.take_succ_cons, exsDepth]; have := ih n; omega
theorem exsDepth_get (l : List Ex) (n : Nat) (h : n < l.length) : exDepth l[n] ≤ exsDepth l := by
  induction l generalizing n with
  | nil => simp at h
  | cons x l ih =>
    cases n with
    | zero => simp only [List.getElem_cons_zero, exsDepth]; omega
    | succ n => simp only [List.getElem_cons_succ, exsDepth]; have := ih n (by simpa using h); omega
end Lx
abbrev Any : Nat → Prop := fun _ => True
theorem kept_any {w w' : World} (h : Below w.heap.size w w') : KeptA Any w w' := .of_below h
/-- An item of a list of expressions, laid open. -/
theorem IsList.exAt {A : Nat → Prop} {w : World} {d : Nat} {l : List Ex} {a : Option Addr} {n c : Nat} (h : IsList A w 5 (IsEx A w d) l (.slice a n c)) : n = l.length ∧ l.length ≤ maxLen ∧ ∀ i (hi : i < l.length), ∃ (g off : Nat) (k m : Int) (o nm : ByteArray) (a1 : Option Addr) (n1 c1 : Nat), a = some ⟨g, off, none⟩ ∧ g < w.heap.size ∧
    w.cell? ⟨g, off + i * 5, none⟩ = some (.int .i64 k) ∧ w.cell? ⟨g, off + i * 5 + 1, none⟩ = some (.int .i64 m) ∧ w.cell? ⟨g, off + i * 5 + 2, none⟩ = some (.string o) ∧ w.cell? ⟨g, off + i * 5 + 3, none⟩ = some (.string nm) ∧ w.cell? ⟨g, off + i * 5 + 4, none⟩ = some (.slice a1 n1 c1) ∧
    IsEx A w d l[i] [.int .i64 k, .int .i64 m, .string o, .string nm, .slice a1 n1 c1] := by
  obtain ⟨hl, ⟨rfl, a', c', hv⟩ | ⟨g, off, cp, hv, hA, hc⟩⟩ := h
  · cases hv; exact ⟨rfl, hl, fun i hi => by simp at hi⟩
  · cases hv
    refine ⟨rfl, hl, fun i hi => ?_⟩
    obtain ⟨cs, h1, h2, h3⟩ := hc i hi
    have h3' := h3
    generalize l[i] = e at h3 h3'
    cases d with
    | zero => exact absurd h3 (by simp [IsEx])
    | succ d =>
      obtain ⟨k, m, o, nm, ks⟩ := e
      obtain ⟨v, rfl, hl2⟩ := h3
      obtain ⟨a1, l1, c1, rfl⟩ : ∃ a1 l1 c1, v = .slice a1 l1 c1 := by
        obtain ⟨_, ⟨_, a, c, rfl⟩ | ⟨g, off, c, rfl, _⟩⟩ := hl2
        · exact ⟨_, _, _, rfl⟩
        · exact ⟨_, _, _, rfl⟩
      have g0 := h2 0 (by omega)
      have g1 := h2 1 (by omega)
      have g2 := h2 2 (by omega)
      have g3 := h2 3 (by omega)
      have g4 := h2 4 (by omega)
      simp only [Nat.add_zero, ← Nat.add_assoc] at g0 g1 g2 g3 g4
      exact ⟨g, off, k, m, _, _, a1, l1, c1, rfl, World.block_lt_of_cell? w _ g0, g0, g1, g2, g3, g4, h3'⟩
/-- Where the loop of exprDepth stands. -/
def DepthRel (ks : List Ex) (w : World) (v i : Value) (wr : World) : Prop := ∃ n : Nat, n ≤ ks.length ∧ i = .int .i64 (n : Int) ∧ v = .int .i64 (exsDepth (ks.take n) : Int) ∧ Below w.heap.size w wr
set_option maxHeartbeats 1000000 in
theorem par_exprDepth (d : Nat) : ∀ (e : Ex) (k n : Int) (o m : ByteArray) (a : Option Addr) (l c : Nat) (w : World), IsEx Any w d e [.int .i64 k, .int .i64 n, .string o, .string m, .slice a l c] → exDepth e ≤ 1000000 →
    Calls Tryd.prog 31 #[.agg #[.int .i64 k, .int .i64 n, .string o, .string m, .slice a l c]] w fun r w' => r = .returned (.int .i64 (exDepth e : Int)) ∧ Below w.heap.size w w' := by
  induction d with
  | zero => intro e k n o m a l c w h; exact absurd h (by simp [IsEx])
  | succ d ih =>
    intro e k n o m a l c w h hd
    obtain ⟨ek, en, eo, em, ks⟩ := e
    obtain ⟨v, hv, hl⟩ := h
    obtain rfl : v = .slice a l c := by simp only [List.cons.injEq, and_true] at hv; exact hv.2.2.2.2.symm
    clear hv
    obtain ⟨rfl, hm, hat⟩ := hl.exAt
    unfold maxLen at hm
    rw [exDepth] at hd ⊢
    have HAT := Lib.hid hat
    have IH := Lib.hid ih
    clear hl hat ih
    go_enter Tryd.func31, Tryd.ntmps31
    go_wp2_with fail
    go_loopw [3, 9] (fun v i wr => DepthRel ks (w.alloc (.cells #[.int .i64 k, .int .i64 n, .string o, .string m, .slice a ks.length c] 48)) v i wr) (fun _ i _ => ks.length - (intOf i).toNat)
    case atStart => exact ⟨0, Nat.zero_le _, rfl, rfl, .refl _ _⟩
    case round =>
      obtain ⟨j, hj, rfl, rfl, hb⟩ := hrel
      have hdt := exsDepth_take ks j
      by_cases hlt : j < ks.length
      · obtain ⟨g, off, k1, m1, o1, nm1, a1, n1, c1, rfl, hgl, c0, c1', c2, c3, c4, hx⟩ := HAT.out j hlt
        have hsz := hb.size
        simp only [World.size_alloc] at hsz
        have hbl : ∀ o, wr.cell? ⟨g, o, none⟩ = w.cell? ⟨g, o, none⟩ := fun o => (hb.cell (p := ⟨g, o, none⟩) (by simp; omega)).trans (((Below.refl w.heap.size w).alloc (Nat.le_refl _) _).cell (p := ⟨g, o, none⟩) hgl)
        rw [← hbl] at c0 c1' c2 c3 c4
        have hg1 : g < wr.heap.size := by omega
        have hx' : IsEx Any wr d ks[j] [.int .i64 k1, .int .i64 m1, .string o1, .string nm1, .slice a1 n1 c1] := IsEx.kept (kept_any (((Below.refl w.heap.size w).alloc (Nat.le_refl _) _).trans (hb.mono (by simp)))) _ _ _ hx
        have hx2 := Lib.hid (IsEx.kept (kept_alloc wr (.cells #[.int .i64 k1, .int .i64 m1, .string o1, .string nm1, .slice a1 n1 c1] 48)) _ _ _ hx')
        have hdj := exsDepth_get ks j hlt
        have HS : Hid (exsDepth (ks.take (j + 1)) = max (exsDepth (ks.take j)) (exDepth ks[j])) := by
          show _ = _; rw [List.take_succ_eq_append_getElem hlt, exsDepth_snoc]
        have HB := Lib.hid hb
        clear hb hbl hx hx'
        go_wp2_with fail
        refine (IH.out _ _ _ _ _ _ _ _ _ hx2.out (by omega)).mono ?_
        rintro e w2 ⟨rfl, hb2⟩
        have HB2 := Lib.hid hb2
        clear hb2 c0 c1' c2 c3 c4 hx2
        go_wp2_with fail
        go_roundw
        case rel =>
          refine ⟨j + 1, by omega, by go_num, ?_, HB.out.trans (((Below.refl _ _).alloc (Nat.le_refl _) _).trans (HB2.out.mono (by simp)) |>.mono HB.out.size)⟩
          rw [HS.out]; congr 1; omega
        case measure => simp [intOf]; omega
      · have hjl : j = ks.length := by omega
        subst hjl
        have HB := Lib.hid hb
        clear hb
        go_wp2_with fail
        go_ret
        refine ⟨?_, ((Below.refl w.heap.size w).alloc (Nat.le_refl _) _).trans (HB.out.mono (by simp))⟩
        rw [List.take_length]; rfl
end Go.Proofs.YthjonkommphkkaaDoor
namespace Go.Proofs.YthjonkommphkkaaDoor
namespace Lx
section
variable {ts : List Tok}
def Dep (E : Nat → PR Ex) : Prop := ∀ i e j, E i = .ok (e, j) → exDepth e + i ≤ j
def DepO (E : Nat → PR (Ex × Nat)) : Prop := ∀ i e j, E i = .ok (e, j) → exDepth e.1 + i ≤ j
theorem exDepth_mk (k n : Int) (o m : Bytes) (ks : List Ex) : exDepth (.mk k n o m ks) = exsDepth ks + 1 := by rw [exDepth]
theorem exDepth_bin (op : Int) (a b : Ex) : exDepth (binE op a b) = max (exDepth a) (exDepth b) + 1 := by simp [binE, exDepth, exsDepth]
variable {E : Nat → PR Ex} (hE : Dep E)
include hE
theorem argsLoop_dep : ∀ n acc i r j, argsLoop ts E n acc i = .ok (r, j) → exsDepth acc ≤ i → exsDepth r ≤ j ∧ i ≤ j := by
  intro n
  induction n with
  | zero => intro acc i r j h; cases h
  | succ n ih =>
    intro acc i r j h ha
    unfold argsLoop at h; split at h
    · obtain ⟨e, k, h1, h⟩ := bindP_inv h
      have h2 := hE _ _ _ h1
      have := ih _ _ _ _ h (by rw [exsDepth_snoc]; omega)
      omega
    · obtain ⟨_, k, h1, h⟩ := bindP_inv h
      have := expectP_adv h1; cases h; omega
/-- The kids are no deeper than the tokens between. -/
theorem argsLoop_dep2 (i0 : Nat) : ∀ n acc i r j, argsLoop ts E n acc i = .ok (r, j) → exsDepth acc + i0 ≤ i → exsDepth r + i0 + 1 ≤ j := by
  intro n
  induction n with
  | zero => intro acc i r j h; cases h
  | succ n ih =>
    intro acc i r j h ha
    unfold argsLoop at h; split at h
    · obtain ⟨e, k, h1, h⟩ := bindP_inv h
      have h2 := hE _ _ _ h1
      exact ih _ _ _ _ h (by rw [exsDepth_snoc]; omega)
    · obtain ⟨_, k, h1, h⟩ := bindP_inv h
      have := expectP_adv h1; cases h; omega
theorem argsP_dep : ∀ i r j, argsP ts E i = .ok (r, j) → exsDepth r + i + 2 ≤ j := by
  intro i r j h
  unfold argsP at h
  obtain ⟨_, k, h1, h⟩ := bindP_inv h
  have := expectP_adv h1
  split at h
  · cases h; simp [exsDepth]; omega
  · obtain ⟨e, k, h2, h⟩ := bindP_inv h
    have h3 := hE _ _ _ h2
    have := argsLoop_dep2 hE (i + 1) _ _ _ _ _ h (by simp [exsDepth]; omega)
    omega
theorem atomP_dep : DepO (atomP ts E) := by
  intro i r j h
  unfold atomP at h
  split at h
  · unfold namedP at h
    obtain ⟨_, k, h1, h⟩ := bindP_inv h
    have := nameP_adv h1
    split at h
    · obtain ⟨_, k, h2, h⟩ := bindP_inv h
      obtain ⟨_, k, h3, h⟩ := bindP_inv h
      have := nameP_adv h2; have := argsP_dep hE _ _ _ h3; cases h; simp only [exDepth]; omega
    · cases h; simp only [exDepth, exsDepth]; omega
  split at h; · cases h; simp only [exDepth, exsDepth]; omega
  split at h
  · have := minusP_adv h
    unfold minusP at h
    split at h
    · cases h; simp only [exDepth, exsDepth]; omega
    · cases h
  split at h; · cases h; simp only [exDepth, exsDepth]; omega
  split at h; · cases h; simp only [exDepth, exsDepth]; omega
  split at h
  · have := unitP_adv h
    unfold unitP at h
    obtain ⟨_, k, h1, h⟩ := bindP_inv h
    obtain ⟨_, k, h2, h⟩ := bindP_inv h
    cases h; simp only [exDepth, exsDepth]; omega
  split at h
  · obtain ⟨_, k, h1, h⟩ := bindP_inv h
    have := nameP_adv h1; have := unitP_adv h
    unfold unitP at h
    obtain ⟨_, k, h1, h⟩ := bindP_inv h
    obtain ⟨_, k, h2, h⟩ := bindP_inv h
    cases h; simp only [exDepth, exsDepth]; omega
  · unfold parenP at h
    obtain ⟨_, k, h1, h⟩ := bindP_inv h
    obtain ⟨_, k, h2, h⟩ := bindP_inv h
    obtain ⟨_, k, h3, h⟩ := bindP_inv h
    have := expectP_adv h1; have := hE _ _ _ h2; have := expectP_adv h3; cases h; simp only; omega
theorem postLoop_dep (i0 : Nat) : ∀ n e sh i r j, postLoop ts E n e sh i = .ok (r, j) → exDepth e + i0 ≤ i → exDepth r.1 + i0 ≤ j := by
  intro n
  induction n with
  | zero => intro e sh i r j h; cases h
  | succ n ih =>
    intro e sh i r j h ha
    unfold postLoop at h; split at h
    · obtain ⟨m, k, h1, h⟩ := bindP_inv h
      have := nameP_adv h1
      split at h
      · obtain ⟨ks, k, h2, h⟩ := bindP_inv h
        have := argsP_dep hE _ _ _ h2
        exact ih _ _ _ _ _ h (by simp only [exDepth, exsDepth]; omega)
      · exact ih _ _ _ _ _ h (by simp only [exDepth, exsDepth]; omega)
    · cases h; exact ha
theorem postP_dep : DepO (postP ts E) := by
  intro i r j h
  unfold postP at h
  obtain ⟨x, k, h1, h⟩ := bindP_inv h
  exact postLoop_dep hE i _ _ _ _ _ _ h (atomP_dep hE _ _ _ h1)
theorem prodLoop_dep (i0 : Nat) : ∀ n e i r j, prodLoop ts E n e i = .ok (r, j) → exDepth e + i0 ≤ i → i0 ≤ i → exDepth r + i0 ≤ j := by
  intro n
  induction n with
  | zero => intro e i r j h; cases h
  | succ n ih =>
    intro e i r j h ha hi
    unfold prodLoop at h; split at h
    · obtain ⟨m, k, h1, h⟩ := bindP_inv h
      have := postP_dep hE _ _ _ h1
      exact ih _ _ _ _ h (by rw [exDepth_bin]; omega) (by omega)
    · cases h; exact ha
theorem prodP_dep : Dep (prodP ts E) := by
  intro i r j h
  unfold prodP at h
  obtain ⟨x, k, h1, h⟩ := bindP_inv h
  have := postP_dep hE _ _ _ h1
  exact prodLoop_dep hE i _ _ _ _ _ h this (by omega)
theorem sumLoop_dep (i0 : Nat) : ∀ n e i r j, sumLoop ts E n e i = .ok (r, j) → exDepth e + i0 ≤ i → i0 ≤ i → exDepth r + i0 ≤ j := by
  intro n
  induction n with
  | zero => intro e i r j h; cases h
  | succ n ih =>
    intro e i r j h ha hi
    unfold sumLoop at h; split at h
    · obtain ⟨m, k, h1, h⟩ := bindP_inv h
      have := prodP_dep hE _ _ _ h1
      exact ih _ _ _ _ h (by rw [exDepth_bin]; omega) (by omega)
    · split at h
      · obtain ⟨m, k, h1, h⟩ := bindP_inv h
        have := prodP_dep hE _ _ _ h1
        exact ih _ _ _ _ h (by rw [exDepth_bin]; omega) (by omega)
      · cases h; exact ha
theorem sumP_dep : Dep (sumP ts E) := by
  intro i r j h
  unfold sumP at h
  obtain ⟨x, k, h1, h⟩ := bindP_inv h
  have := prodP_dep hE _ _ _ h1
  exact sumLoop_dep hE i _ _ _ _ _ h this (by omega)
theorem exprW_dep : Dep (exprW ts E) := by
  intro i r j h
  unfold exprW at h
  obtain ⟨x, k, h1, h⟩ := bindP_inv h
  have := sumP_dep hE _ _ _ h1
  split at h
  · obtain ⟨x, k, h2, h⟩ := bindP_inv h
    have := sumP_dep hE _ _ _ h2; cases h; rw [exDepth_bin]; omega
  · split at h
    · obtain ⟨x, k, h2, h⟩ := bindP_inv h
      have := sumP_dep hE _ _ _ h2; cases h; rw [exDepth_bin]; omega
    · cases h; omega
omit hE
theorem exprP_dep : ∀ f, Dep (exprP ts f) := by
  intro f
  induction f with
  | zero => intro i r j h; cases h
  | succ f ih => exact exprW_dep ih
theorem exprT_dep : Dep (exprT ts) := exprP_dep _
end
end Lx
end Go.Proofs.YthjonkommphkkaaDoor
