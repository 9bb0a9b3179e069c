/-
  Trees that are only read: depths, counts, items of lists laid open.
-/
import Derived.Test.YthjonkommphkkaaDoorJpAp
set_option linter.unusedSectionVars false
set_option linter.unusedSimpArgs false
set_option linter.unnecessarySimpa false
set_option linter.unusedVariables false
namespace Go.Proofs.YthjonkommphkkaaDoor
open Lx Go.RowKit
namespace Lx
mutual
def exDepth : Ex → Nat
  | .mk _ _ _ _ ks => exsDepth ks + 1
def exsDepth : List Ex → Nat
  | [] => 0
  | e :: es => max (exDepth e) (exsDepth es)
end
theorem exsDepth_snoc (l : List Ex) (e : Ex) : exsDepth (l ++ [e]) = max (exsDepth l) (exDepth e) := by
  induction l with
  | nil => simp [exsDepth]
  | cons x l ih => simp only [List.cons_append, exsDepth, ih]; omega
theorem exsDepth_take (l : List Ex) (n : Nat) : exsDepth (l.take n) ≤ exsDepth l := by
  induction l generalizing n with
  | nil => simp [exsDepth]
  | cons x l ih =>
    cases n with
    | zero => simp [exsDepth]
    | succ n => simp only [List.take_succ_cons, exsDepth]; have := ih n; omega
theorem exsDepth_get (l : List Ex) (n : Nat) (h : n < l.length) : exDepth l[n] ≤ exsDepth l := by
  induction l generalizing n with
  | nil => simp at h
  | cons x l ih =>
    cases n with
    | zero => simp only [List.getElem_cons_zero, exsDepth]; omega
    | succ n => simp only [List.getElem_cons_succ, exsDepth]; have := ih n (by simpa using h); omega
end Lx
theorem below_drew (w : World) : Below w.heap.size w w.drew := (Below.refl _ _).drew
theorem KeptA.of_below {A : Nat → Prop} {w w' : World} (h : Below w.heap.size w w') : KeptA A w w' := fun g _ hg => h.block g hg
theorem kept_alloc {A : Nat → Prop} (w : World) (o : Obj) : KeptA A w (w.alloc o) := .of_below ((Below.refl _ _).alloc (Nat.le_refl _) o)
abbrev Any : Nat → Prop := fun _ => True
theorem kept_any {w w' : World} (h : Below w.heap.size w w') : KeptA Any w w' := .of_below h
/-- An item of a list of expressions, laid open. -/
theorem IsList.exAt {A : Nat → Prop} {w : World} {d : Nat} {l : List Ex} {a : Option Addr} {n c : Nat} (h : IsList A w 5 (IsEx A w d) l (.slice a n c)) : n = l.length ∧ l.length ≤ maxLen ∧ ∀ i (hi : i < l.length), ∃ (g off : Nat) (k m : Int) (o nm : ByteArray) (a1 : Option Addr) (n1 c1 : Nat), a = some ⟨g, off, none⟩ ∧ g < w.heap.size ∧
    w.cell? ⟨g, off + i * 5, none⟩ = some (.int .i64 k) ∧ w.cell? ⟨g, off + i * 5 + 1, none⟩ = some (.int .i64 m) ∧ w.cell? ⟨g, off + i * 5 + 2, none⟩ = some (.string o) ∧ w.cell? ⟨g, off + i * 5 + 3, none⟩ = some (.string nm) ∧ w.cell? ⟨g, off + i * 5 + 4, none⟩ = some (.slice a1 n1 c1) ∧
    IsEx A w d l[i] [.int .i64 k, .int .i64 m, .string o, .string nm, .slice a1 n1 c1] := by
  obtain ⟨hl, ⟨rfl, a', c', hv⟩ | ⟨g, off, cp, hv, hA, hc⟩⟩ := h
  · cases hv; exact ⟨rfl, hl, fun i hi => by simp at hi⟩
  · cases hv
    refine ⟨rfl, hl, fun i hi => ?_⟩
    obtain ⟨cs, h1, h2, h3⟩ := hc i hi
    have h3' := h3
    generalize l[i] = e at h3 h3'
    cases d with
    | zero => exact absurd h3 (by simp [IsEx])
    | succ d =>
      obtain ⟨k, m, o, nm, ks⟩ := e
      obtain ⟨v, rfl, hl2⟩ := h3
      obtain ⟨a1, l1, c1, rfl⟩ : ∃ a1 l1 c1, v = .slice a1 l1 c1 := by
        obtain ⟨_, ⟨_, a, c, rfl⟩ | ⟨g, off, c, rfl, _⟩⟩ := hl2
        · exact ⟨_, _, _, rfl⟩
        · exact ⟨_, _, _, rfl⟩
      have g0 := h2 0 (by omega)
      have g1 := h2 1 (by omega)
      have g2 := h2 2 (by omega)
      have g3 := h2 3 (by omega)
      have g4 := h2 4 (by omega)
      simp only [Nat.add_zero, ← Nat.add_assoc] at g0 g1 g2 g3 g4
      exact ⟨g, off, k, m, _, _, a1, l1, c1, rfl, World.block_lt_of_cell? w _ g0, g0, g1, g2, g3, g4, h3'⟩
namespace Lx
mutual
def stDepth : St → Nat
  | .mk _ _ _ es b el => max (max (exsDepth es) (stsDepth b)) (stsDepth el) + 1
def stsDepth : List St → Nat
  | [] => 0
  | s :: l => max (stDepth s) (stsDepth l)
end
mutual
def stCount : St → Nat
  | .mk _ _ _ _ b el => stsCount b + stsCount el
def stsCount : List St → Nat
  | [] => 0
  | s :: l => 1 + stCount s + stsCount l
end
/-- The count beyond the length. -/
def inCount : List St → Nat
  | [] => 0
  | s :: l => stCount s + inCount l
theorem inCount_snoc (l : List St) (e : St) : inCount (l ++ [e]) = inCount l + stCount e := by
  induction l with
  | nil => simp [inCount]
  | cons x l ih => simp only [List.cons_append, inCount, ih]; omega
theorem inCount_take (l : List St) (n : Nat) : inCount (l.take n) ≤ inCount l := by
  induction l generalizing n with
  | nil => simp [inCount]
  | cons x l ih =>
    cases n with
    | zero => simp [inCount]
    | succ n => simp only [List.take_succ_cons, inCount]; have := ih n; omega
theorem inCount_get (l : List St) (n : Nat) (h : n < l.length) : stCount l[n] ≤ inCount l := by
  induction l generalizing n with
  | nil => simp at h
  | cons x l ih =>
    cases n with
    | zero => simp only [List.getElem_cons_zero, inCount]; omega
    | succ n => simp only [List.getElem_cons_succ, inCount]; have := ih n (by simpa using h); omega
theorem stsCount_eq (l : List St) : stsCount l = l.length + inCount l := by
  induction l with
  | nil => simp [stsCount, inCount]
  | cons x l ih => simp only [stsCount, inCount, List.length_cons, ih]; omega
theorem stsDepth_snoc (l : List St) (e : St) : stsDepth (l ++ [e]) = max (stsDepth l) (stDepth e) := by
  induction l with
  | nil => simp [stsDepth]
  | cons x l ih => simp only [List.cons_append, stsDepth, ih]; omega
theorem stsDepth_take (l : List St) (n : Nat) : stsDepth (l.take n) ≤ stsDepth l := by
  induction l generalizing n with
  | nil => simp [stsDepth]
  | cons x l ih =>
    cases n with
    | zero => simp [stsDepth]
    | succ n => simp only [List.take_succ_cons, stsDepth]; have := ih n; omega
theorem stsDepth_get (l : List St) (n : Nat) (h : n < l.length) : stDepth l[n] ≤ stsDepth l := by
  induction l generalizing n with
  | nil => simp at h
  | cons x l ih =>
    cases n with
    | zero => simp only [List.getElem_cons_zero, stsDepth]; omega
    | succ n => simp only [List.getElem_cons_succ, stsDepth]; have := ih n (by simpa using h); omega
def methodLim (m : Me) : Nat := if 6 < m.params.length ∨ 200 < stsCount m.body then 3 else if 32 < stsDepth m.body then 15 else 0
/-- The first limit that is hit. -/
def firstLim {α : Type} (f : α → Nat) : List α → Nat
  | [] => 0
  | x :: l => if f x ≠ 0 then f x else firstLim f l
def classLim (c : Cl) : Nat := if 16 < c.fields.length ∨ 16 < c.methods.length then 3 else firstLim methodLim c.methods
def sourceLim (l : List Cl) : Nat := if 64 < l.length then 3 else firstLim classLim l
theorem firstLim_take {α : Type} (f : α → Nat) (l : List α) (n : Nat) (h : n < l.length) (h0 : ∀ i (hi : i < n), f (l[i]'(by omega)) = 0) : firstLim f l = if f l[n] ≠ 0 then f l[n] else firstLim f (l.drop (n + 1)) := by
  induction l generalizing n with
  | nil => simp at h
  | cons x l ih =>
    cases n with
    | zero => simp [firstLim]
    | succ n =>
      have hx := h0 0 (by omega)
      simp only [List.getElem_cons_zero] at hx
      simp only [firstLim, hx, ne_eq, not_true_eq_false, if_false, List.getElem_cons_succ, List.drop_succ_cons]
      exact ih n (by simpa using h) (fun i hi => by have := h0 (i + 1) (by omega); simpa using this)
theorem firstLim_zero {α : Type} (f : α → Nat) (l : List α) (h0 : ∀ i (hi : i < l.length), f l[i] = 0) : firstLim f l = 0 := by
  induction l with
  | nil => rfl
  | cons x l ih =>
    have hx := h0 0 (by simp)
    simp only [List.getElem_cons_zero] at hx
    simp only [firstLim, hx, ne_eq, not_true_eq_false, if_false]
    exact ih fun i hi => by have := h0 (i + 1) (by simpa using hi); simpa using this
theorem deep_iff (l : List St) : 32 < stsDepth l ↔ ∃ i, ∃ h : i < l.length, 32 < stDepth l[i] := by
  induction l with
  | nil => simp [stsDepth]
  | cons x l ih =>
    simp only [stsDepth]
    constructor
    · intro h
      by_cases hx : 32 < stDepth x
      · exact ⟨0, by simp, hx⟩
      · obtain ⟨i, hi, h2⟩ := ih.1 (by omega)
        exact ⟨i + 1, by simpa using hi, by simpa using h2⟩
    · rintro ⟨i, hi, h2⟩
      cases i with
      | zero => simp only [List.getElem_cons_zero] at h2; omega
      | succ i =>
        have := ih.2 ⟨i, by simpa using hi, by simpa using h2⟩; omega
end Lx
theorem IsList.stAt {A : Nat → Prop} {w : World} {d : Nat} {l : List St} {a : Option Addr} {n c : Nat} (h : IsList A w 6 (IsSt A w d) l (.slice a n c)) : n = l.length ∧ l.length ≤ maxLen ∧ ∀ i (hi : i < l.length), ∃ (g off : Nat) (k1 : Int) (nm1 ty1 : ByteArray) (a1 : Option Addr) (n1 c1 : Nat) (a2 : Option Addr) (n2 c2 : Nat) (a3 : Option Addr) (n3 c3 : Nat), a = some ⟨g, off, none⟩ ∧ g < w.heap.size ∧ (w.cell? ⟨g, off + i * 6, none⟩ = some (.int .i64 k1) ∧ w.cell? ⟨g, off + i * 6 + 1, none⟩ = some (.string nm1) ∧ w.cell? ⟨g, off + i * 6 + 2, none⟩ = some (.string ty1) ∧ w.cell? ⟨g, off + i * 6 + 3, none⟩ = some (.slice a1 n1 c1) ∧ w.cell? ⟨g, off + i * 6 + 4, none⟩ = some (.slice a2 n2 c2) ∧ w.cell? ⟨g, off + i * 6 + 5, none⟩ = some (.slice a3 n3 c3)) ∧ IsSt A w d l[i] [.int .i64 k1, .string nm1, .string ty1, .slice a1 n1 c1, .slice a2 n2 c2, .slice a3 n3 c3] := by
  obtain ⟨hl, ⟨rfl, a', c', hv⟩ | ⟨g, off, cp, hv, hA, hc⟩⟩ := h
  · cases hv; exact ⟨rfl, hl, fun i hi => by simp at hi⟩
  · cases hv
    refine ⟨rfl, hl, fun i hi => ?_⟩
    obtain ⟨cs, h1, h2, h3⟩ := hc i hi
    have h3' := h3
    generalize l[i] = e at h3 h3'
    cases d with
    | zero => exact absurd h3 (by simp [IsSt])
    | succ d =>
      obtain ⟨k, nm, ty, es, b, el⟩ := e
      obtain ⟨v1, v2, v3, rfl, hl1, hl2, hl3⟩ := h3
      obtain ⟨a1, n1, c1, rfl⟩ : ∃ a1 l1 c1, v1 = .slice a1 l1 c1 := by
        obtain ⟨_, ⟨_, a, c, rfl⟩ | ⟨g, off, c, rfl, _⟩⟩ := hl1
        · exact ⟨_, _, _, rfl⟩
        · exact ⟨_, _, _, rfl⟩
      obtain ⟨a2, n2, c2, rfl⟩ : ∃ a1 l1 c1, v2 = .slice a1 l1 c1 := by
        obtain ⟨_, ⟨_, a, c, rfl⟩ | ⟨g, off, c, rfl, _⟩⟩ := hl2
        · exact ⟨_, _, _, rfl⟩
        · exact ⟨_, _, _, rfl⟩
      obtain ⟨a3, n3, c3, rfl⟩ : ∃ a1 l1 c1, v3 = .slice a1 l1 c1 := by
        obtain ⟨_, ⟨_, a, c, rfl⟩ | ⟨g, off, c, rfl, _⟩⟩ := hl3
        · exact ⟨_, _, _, rfl⟩
        · exact ⟨_, _, _, rfl⟩
      have g0 := h2 0 (by omega)
      have g1 := h2 1 (by omega)
      have g2 := h2 2 (by omega)
      have g3 := h2 3 (by omega)
      have g4 := h2 4 (by omega)
      have g5 := h2 5 (by omega)
      simp only [Nat.add_zero, ← Nat.add_assoc] at g0 g1 g2 g3 g4 g5
      exact ⟨g, off, k, _, _, a1, n1, c1, a2, n2, c2, a3, n3, c3, rfl, World.block_lt_of_cell? w _ g0, ⟨g0, g1, g2, g3, g4, g5⟩, h3'⟩
theorem IsList.meAt {A : Nat → Prop} {w : World} {d : Nat} {l : List Me} {a : Option Addr} {n c : Nat} (h : IsList A w 5 (IsMe A w d) l (.slice a n c)) : n = l.length ∧ l.length ≤ maxLen ∧ ∀ i (hi : i < l.length), ∃ (g off : Nat) (nm1 : ByteArray) (sb1 : Bool) (a1 : Option Addr) (n1 c1 : Nat) (rs1 : ByteArray) (a2 : Option Addr) (n2 c2 : Nat), a = some ⟨g, off, none⟩ ∧ g < w.heap.size ∧ (w.cell? ⟨g, off + i * 5, none⟩ = some (.string nm1) ∧ w.cell? ⟨g, off + i * 5 + 1, none⟩ = some (.bool sb1) ∧ w.cell? ⟨g, off + i * 5 + 2, none⟩ = some (.slice a1 n1 c1) ∧ w.cell? ⟨g, off + i * 5 + 3, none⟩ = some (.string rs1) ∧ w.cell? ⟨g, off + i * 5 + 4, none⟩ = some (.slice a2 n2 c2)) ∧ IsMe A w d l[i] [.string nm1, .bool sb1, .slice a1 n1 c1, .string rs1, .slice a2 n2 c2] := by
  obtain ⟨hl, ⟨rfl, a', c', hv⟩ | ⟨g, off, cp, hv, hA, hc⟩⟩ := h
  · cases hv; exact ⟨rfl, hl, fun i hi => by simp at hi⟩
  · cases hv
    refine ⟨rfl, hl, fun i hi => ?_⟩
    obtain ⟨cs, h1, h2, h3⟩ := hc i hi
    have h3' := h3
    generalize l[i] = e at h3 h3'
    · obtain ⟨v1, v2, rfl, hl1, hl2⟩ := h3
      obtain ⟨a1, n1, c1, rfl⟩ : ∃ a1 l1 c1, v1 = .slice a1 l1 c1 := by
        obtain ⟨_, ⟨_, a, c, rfl⟩ | ⟨g, off, c, rfl, _⟩⟩ := hl1
        · exact ⟨_, _, _, rfl⟩
        · exact ⟨_, _, _, rfl⟩
      obtain ⟨a2, n2, c2, rfl⟩ : ∃ a1 l1 c1, v2 = .slice a1 l1 c1 := by
        obtain ⟨_, ⟨_, a, c, rfl⟩ | ⟨g, off, c, rfl, _⟩⟩ := hl2
        · exact ⟨_, _, _, rfl⟩
        · exact ⟨_, _, _, rfl⟩
      have g0 := h2 0 (by omega)
      have g1 := h2 1 (by omega)
      have g2 := h2 2 (by omega)
      have g3 := h2 3 (by omega)
      have g4 := h2 4 (by omega)
      simp only [Nat.add_zero, ← Nat.add_assoc] at g0 g1 g2 g3 g4
      exact ⟨g, off, _, _, a1, n1, c1, _, a2, n2, c2, rfl, World.block_lt_of_cell? w _ g0, ⟨g0, g1, g2, g3, g4⟩, h3'⟩
theorem IsList.clAt {A : Nat → Prop} {w : World} {d : Nat} {l : List Cl} {a : Option Addr} {n c : Nat} (h : IsList A w 4 (IsCl A w d) l (.slice a n c)) : n = l.length ∧ l.length ≤ maxLen ∧ ∀ i (hi : i < l.length), ∃ (g off : Nat) (nm1 sp1 : ByteArray) (a1 : Option Addr) (n1 c1 : Nat) (a2 : Option Addr) (n2 c2 : Nat), a = some ⟨g, off, none⟩ ∧ g < w.heap.size ∧ (w.cell? ⟨g, off + i * 4, none⟩ = some (.string nm1) ∧ w.cell? ⟨g, off + i * 4 + 1, none⟩ = some (.string sp1) ∧ w.cell? ⟨g, off + i * 4 + 2, none⟩ = some (.slice a1 n1 c1) ∧ w.cell? ⟨g, off + i * 4 + 3, none⟩ = some (.slice a2 n2 c2)) ∧ IsCl A w d l[i] [.string nm1, .string sp1, .slice a1 n1 c1, .slice a2 n2 c2] := by
  obtain ⟨hl, ⟨rfl, a', c', hv⟩ | ⟨g, off, cp, hv, hA, hc⟩⟩ := h
  · cases hv; exact ⟨rfl, hl, fun i hi => by simp at hi⟩
  · cases hv
    refine ⟨rfl, hl, fun i hi => ?_⟩
    obtain ⟨cs, h1, h2, h3⟩ := hc i hi
    have h3' := h3
    generalize l[i] = e at h3 h3'
    · obtain ⟨v1, v2, rfl, hl1, hl2⟩ := h3
      obtain ⟨a1, n1, c1, rfl⟩ : ∃ a1 l1 c1, v1 = .slice a1 l1 c1 := by
        obtain ⟨_, ⟨_, a, c, rfl⟩ | ⟨g, off, c, rfl, _⟩⟩ := hl1
        · exact ⟨_, _, _, rfl⟩
        · exact ⟨_, _, _, rfl⟩
      obtain ⟨a2, n2, c2, rfl⟩ : ∃ a1 l1 c1, v2 = .slice a1 l1 c1 := by
        obtain ⟨_, ⟨_, a, c, rfl⟩ | ⟨g, off, c, rfl, _⟩⟩ := hl2
        · exact ⟨_, _, _, rfl⟩
        · exact ⟨_, _, _, rfl⟩
      have g0 := h2 0 (by omega)
      have g1 := h2 1 (by omega)
      have g2 := h2 2 (by omega)
      have g3 := h2 3 (by omega)
      simp only [Nat.add_zero, ← Nat.add_assoc] at g0 g1 g2 g3
      exact ⟨g, off, _, _, a1, n1, c1, a2, n2, c2, rfl, World.block_lt_of_cell? w _ g0, ⟨g0, g1, g2, g3⟩, h3'⟩
theorem IsSt.lists {A : Nat → Prop} {w : World} {d : Nat} {e : St} {k : Int} {nm ty : ByteArray} {v1 v2 v3 : Value} (h : IsSt A w (d + 1) e [.int .i64 k, .string nm, .string ty, v1, v2, v3]) : ∃ es b el nm' ty', e = .mk k nm' ty' es b el ∧ nm = strOf nm' ∧ ty = strOf ty' ∧ IsList A w 5 (IsEx A w d) es v1 ∧ IsList A w 6 (IsSt A w d) b v2 ∧ IsList A w 6 (IsSt A w d) el v3 := by
  obtain ⟨k', nm', ty', es, b, el⟩ := e
  obtain ⟨u1, u2, u3, hv, h1, h2, h3⟩ := h
  simp only [List.cons.injEq, Value.int.injEq, Value.string.injEq, true_and, and_true] at hv
  obtain ⟨rfl, rfl, rfl, rfl, rfl, rfl⟩ := hv
  exact ⟨es, b, el, nm', ty', rfl, rfl, rfl, h1, h2, h3⟩
theorem IsMe.parts {A : Nat → Prop} {w : World} {d : Nat} {m : Me} {nm rs : ByteArray} {sb : Bool} {v1 v2 : Value} (h : IsMe A w d m [.string nm, .bool sb, v1, .string rs, v2]) : nm = strOf m.name ∧ sb = m.static ∧ rs = strOf m.result ∧ IsList A w 2 IsFld m.params v1 ∧ IsList A w 6 (IsSt A w d) m.body v2 := by
  obtain ⟨u1, u2, hv, h1, h2⟩ := h
  simp only [List.cons.injEq, Value.bool.injEq, Value.string.injEq, and_true] at hv
  obtain ⟨rfl, rfl, rfl, rfl, rfl⟩ := hv
  exact ⟨rfl, rfl, rfl, h1, h2⟩
theorem IsCl.parts {A : Nat → Prop} {w : World} {d : Nat} {m : Cl} {nm sp : ByteArray} {v1 v2 : Value} (h : IsCl A w d m [.string nm, .string sp, v1, v2]) : nm = strOf m.name ∧ sp = strOf m.super ∧ IsList A w 2 IsFld m.fields v1 ∧ IsList A w 5 (IsMe A w d) m.methods v2 := by
  obtain ⟨u1, u2, hv, h1, h2⟩ := h
  simp only [List.cons.injEq, Value.string.injEq, and_true] at hv
  obtain ⟨rfl, rfl, rfl, rfl⟩ := hv
  exact ⟨rfl, rfl, h1, h2⟩
theorem IsList.len {α : Type} {A : Nat → Prop} {w : World} {k : Nat} {P : α → List Value → Prop} {l : List α} {a : Option Addr} {n c : Nat} (h : IsList A w k P l (.slice a n c)) : n = l.length ∧ l.length ≤ maxLen := by
  obtain ⟨hl, ⟨rfl, a', c', hv⟩ | ⟨g, off, cp, hv, hA, hc⟩⟩ := h
  · cases hv; exact ⟨rfl, hl⟩
  · cases hv; exact ⟨rfl, hl⟩
/-- A call that compares: true exactly if P. -/
def SameOut (w : World) (P : Prop) (e : Ending) (w' : World) : Prop := Below w.heap.size w w' ∧ ∃ b : Bool, e = .returned (.bool b) ∧ (b = true ↔ P)
def SameRel {α : Type} (l1 l2 : List α) (w : World) (i : Value) (wr : World) : Prop := ∃ n : Nat, n ≤ l1.length ∧ i = .int .i64 (n : Int) ∧ l1.take n = l2.take n ∧ Below w.heap.size w wr
theorem IsEx.flds {A : Nat → Prop} {w : World} {d : Nat} {e : Ex} {k n : Int} {o m : ByteArray} {v : Value} (h : IsEx A w (d + 1) e [.int .i64 k, .int .i64 n, .string o, .string m, v]) : ∃ oo mm ks, e = .mk k n oo mm ks ∧ o = strOf oo ∧ m = strOf mm ∧ IsList A w 5 (IsEx A w d) ks v := by
  obtain ⟨k', n', o', m', ks⟩ := e
  obtain ⟨v', hv, hl⟩ := h
  simp only [List.cons.injEq, Value.int.injEq, Value.string.injEq, true_and, and_true] at hv
  obtain ⟨rfl, rfl, rfl, rfl, rfl⟩ := hv
  exact ⟨o', m', ks, rfl, rfl, rfl, hl⟩
theorem differ {α : Type} {l1 l2 : List α} {j : Nat} (h1 : j < l1.length) (h2 : j < l2.length) (h : l1[j] ≠ l2[j]) : ¬ l1 = l2 := fun e => by subst e; exact h rfl
theorem IsList.fldAt {A : Nat → Prop} {w : World} {l : List Fld} {a : Option Addr} {n c : Nat} (h : IsList A w 2 IsFld l (.slice a n c)) : n = l.length ∧ l.length ≤ maxLen ∧ ∀ i (hi : i < l.length), ∃ (g off : Nat), a = some ⟨g, off, none⟩ ∧ g < w.heap.size ∧ w.cell? ⟨g, off + i * 2, none⟩ = some (.string (strOf l[i].name)) ∧ w.cell? ⟨g, off + i * 2 + 1, none⟩ = some (.string (strOf l[i].typ)) := by
  obtain ⟨hl, ⟨rfl, a', c', hv⟩ | ⟨g, off, cp, hv, hA, hc⟩⟩ := h
  · cases hv; exact ⟨rfl, hl, fun i hi => by simp at hi⟩
  · cases hv
    refine ⟨rfl, hl, fun i hi => ?_⟩
    obtain ⟨cs, h1, h2, h3⟩ := hc i hi
    unfold IsFld at h3
    subst h3
    have g0 := h2 0 (by omega)
    have g1 := h2 1 (by omega)
    simp only [Nat.add_zero, ← Nat.add_assoc] at g0 g1
    exact ⟨g, off, rfl, World.block_lt_of_cell? w _ g0, g0, g1⟩
theorem Fld.ext' {a b : Fld} (h1 : a.name = b.name) (h2 : a.typ = b.typ) : a = b := by cases a; cases b; cases h1; cases h2; rfl
theorem IsSt.flds {A : Nat → Prop} {w : World} {d : Nat} {e : St} {k : Int} {nm ty : ByteArray} {v1 v2 v3 : Value} (h : IsSt A w (d + 1) e [.int .i64 k, .string nm, .string ty, v1, v2, v3]) : ∃ nn tt es b el, e = .mk k nn tt es b el ∧ nm = strOf nn ∧ ty = strOf tt ∧ IsList A w 5 (IsEx A w d) es v1 ∧ IsList A w 6 (IsSt A w d) b v2 ∧ IsList A w 6 (IsSt A w d) el v3 := by
  obtain ⟨es, b, el, nn, tt, h1, h2, h3, h4, h5, h6⟩ := h.lists
  exact ⟨nn, tt, es, b, el, h1, h2, h3, h4, h5, h6⟩
theorem IsMe.flds {A : Nat → Prop} {w : World} {d : Nat} {e : Me} {nm rs : ByteArray} {sb : Bool} {v1 v2 : Value} (h : IsMe A w d e [.string nm, .bool sb, v1, .string rs, v2]) : ∃ nn rr ps b, e = ⟨nn, sb, ps, rr, b⟩ ∧ nm = strOf nn ∧ rs = strOf rr ∧ IsList A w 2 IsFld ps v1 ∧ IsList A w 6 (IsSt A w d) b v2 := by
  obtain ⟨h1, h2, h3, h4, h5⟩ := h.parts
  obtain ⟨nn, ss, ps, rr, b⟩ := e
  subst h2
  exact ⟨nn, rr, ps, b, rfl, h1, h3, h4, h5⟩
theorem IsCl.flds {A : Nat → Prop} {w : World} {d : Nat} {e : Cl} {nm sp : ByteArray} {v1 v2 : Value} (h : IsCl A w d e [.string nm, .string sp, v1, v2]) : ∃ nn ss fs ms, e = ⟨nn, ss, fs, ms⟩ ∧ nm = strOf nn ∧ sp = strOf ss ∧ IsList A w 2 IsFld fs v1 ∧ IsList A w 5 (IsMe A w d) ms v2 := by
  obtain ⟨h1, h2, h3, h4⟩ := h.parts
  obtain ⟨nn, ss, fs, ms⟩ := e
  exact ⟨nn, ss, fs, ms, rfl, h1, h2, h3, h4⟩
end Go.Proofs.YthjonkommphkkaaDoor
