/-
  Plain Lean: a tree that a rule gives has no more nodes than the rule has read tokens.
-/
import Derived.Test.YthjonkommphkkaaDoorParItems
import Derived.Test.YthjonkommphkkaaDoorJpBc
import Derived.Test.YthjonkommphkkaaDoorParPost
import Derived.Deep.RegionLaw
import Derived.Deep.AppendLies
import Derived.Laws.OwnMore
import Derived.RegionTactic
import Derived.BigRegion
import Derived.Deep.QuietTactic
import Derived.BigQuiet
set_option linter.unusedSectionVars false
set_option linter.unusedSimpArgs false
set_option linter.unnecessarySimpa false
set_option linter.unusedVariables false
set_option linter.unusedSimpArgs false
namespace Go.Proofs.YthjonkommphkkaaDoor
namespace Lx
mutual
def exSz : Ex → Nat
  | .mk _ _ _ _ ks => exsSz ks + 1
def exsSz : List Ex → Nat
  | [] => 0
  | e :: es => exSz e + exsSz es
end
mutual
def stSz : St → Nat
  | .mk _ _ _ es b el => exsSz es + stsSz b + stsSz el + 1
def stsSz : List St → Nat
  | [] => 0
  | s :: l => stSz s + stsSz l
end
theorem exsSz_snoc (l : List Ex) (e : Ex) : exsSz (l ++ [e]) = exsSz l + exSz e := by
  induction l with
  | nil => simp [exsSz]
  | cons x l ih => simp only [List.cons_append, exsSz, ih]; omega
theorem stsSz_snoc (l : List St) (e : St) : stsSz (l ++ [e]) = stsSz l + stSz e := by
  induction l with
  | nil => simp [stsSz]
  | cons x l ih => simp only [List.cons_append, stsSz, ih]; omega
theorem exSz_pos (e : Ex) : 0 < exSz e := by cases e; rw [exSz]; omega
theorem stSz_pos (s : St) : 0 < stSz s := by cases s; rw [stSz]; omega
theorem exsSz_len (l : List Ex) : l.length ≤ exsSz l := by
  induction l with
  | nil => simp
  | cons x l ih => have := exSz_pos x; simp only [List.length_cons, exsSz]; omega
theorem stsSz_len (l : List St) : l.length ≤ stsSz l := by
  induction l with
  | nil => simp
  | cons x l ih => have := stSz_pos x; simp only [List.length_cons, stsSz]; omega
theorem exsSz_mem {l : List Ex} {e : Ex} (h : e ∈ l) : exSz e ≤ exsSz l := by
  induction l with
  | nil => cases h
  | cons x l ih =>
    simp only [exsSz]
    rcases List.mem_cons.1 h with rfl | h
    · omega
    · have := ih h; omega
theorem stsSz_mem {l : List St} {e : St} (h : e ∈ l) : stSz e ≤ stsSz l := by
  induction l with
  | nil => cases h
  | cons x l ih =>
    simp only [stsSz]
    rcases List.mem_cons.1 h with rfl | h
    · omega
    · have := ih h; omega
section
variable {ts : List Tok}
def Siz (E : Nat → PR Ex) : Prop := ∀ i e j, E i = .ok (e, j) → exSz e + i ≤ j
def SizO (E : Nat → PR (Ex × Nat)) : Prop := ∀ i e j, E i = .ok (e, j) → exSz e.1 + i ≤ j
theorem exSz_bin (op : Int) (a b : Ex) : exSz (binE op a b) = exSz a + exSz b + 1 := by simp [binE, exSz, exsSz]
variable {E : Nat → PR Ex} (hE : Siz E)
include hE
/-- The kids are no deeper than the tokens between. -/
theorem argsLoop_siz (i0 : Nat) : ∀ n acc i r j, argsLoop ts E n acc i = .ok (r, j) → exsSz acc + i0 ≤ i → exsSz r + i0 + 1 ≤ j := by
  intro n
  induction n with
  | zero => intro acc i r j h; cases h
  | succ n ih =>
    intro acc i r j h ha
    unfold argsLoop at h; split at h
    · obtain ⟨e, k, h1, h⟩ := bindP_inv h
      have h2 := hE _ _ _ h1
      exact ih _ _ _ _ h (by rw [exsSz_snoc]; omega)
    · obtain ⟨_, k, h1, h⟩ := bindP_inv h
      have := expectP_adv h1; cases h; omega
theorem argsP_siz : ∀ i r j, argsP ts E i = .ok (r, j) → exsSz r + i + 2 ≤ j := by
  intro i r j h
  unfold argsP at h
  obtain ⟨_, k, h1, h⟩ := bindP_inv h
  have := expectP_adv h1
  split at h
  · cases h; simp [exsSz]; omega
  · obtain ⟨e, k, h2, h⟩ := bindP_inv h
    have h3 := hE _ _ _ h2
    have := argsLoop_siz hE (i + 1) _ _ _ _ _ h (by simp [exsSz]; omega)
    omega
theorem atomP_siz : SizO (atomP ts E) := by
  intro i r j h
  unfold atomP at h
  split at h
  · unfold namedP at h
    obtain ⟨_, k, h1, h⟩ := bindP_inv h
    have := nameP_adv h1
    split at h
    · obtain ⟨_, k, h2, h⟩ := bindP_inv h
      obtain ⟨_, k, h3, h⟩ := bindP_inv h
      have := nameP_adv h2; have := argsP_siz hE _ _ _ h3; cases h; simp only [exSz]; omega
    · cases h; simp only [exSz, exsSz]; omega
  split at h; · cases h; simp only [exSz, exsSz]; omega
  split at h
  · have := minusP_adv h
    unfold minusP at h
    split at h
    · cases h; simp only [exSz, exsSz]; omega
    · cases h
  split at h; · cases h; simp only [exSz, exsSz]; omega
  split at h; · cases h; simp only [exSz, exsSz]; omega
  split at h
  · have := unitP_adv h
    unfold unitP at h
    obtain ⟨_, k, h1, h⟩ := bindP_inv h
    obtain ⟨_, k, h2, h⟩ := bindP_inv h
    cases h; simp only [exSz, exsSz]; omega
  split at h
  · obtain ⟨_, k, h1, h⟩ := bindP_inv h
    have := nameP_adv h1; have := unitP_adv h
    unfold unitP at h
    obtain ⟨_, k, h1, h⟩ := bindP_inv h
    obtain ⟨_, k, h2, h⟩ := bindP_inv h
    cases h; simp only [exSz, exsSz]; omega
  · unfold parenP at h
    obtain ⟨_, k, h1, h⟩ := bindP_inv h
    obtain ⟨_, k, h2, h⟩ := bindP_inv h
    obtain ⟨_, k, h3, h⟩ := bindP_inv h
    have := expectP_adv h1; have := hE _ _ _ h2; have := expectP_adv h3; cases h; simp only; omega
theorem postLoop_siz (i0 : Nat) : ∀ n e sh i r j, postLoop ts E n e sh i = .ok (r, j) → exSz e + i0 ≤ i → exSz r.1 + i0 ≤ j := by
  intro n
  induction n with
  | zero => intro e sh i r j h; cases h
  | succ n ih =>
    intro e sh i r j h ha
    unfold postLoop at h; split at h
    · obtain ⟨m, k, h1, h⟩ := bindP_inv h
      have := nameP_adv h1
      split at h
      · obtain ⟨ks, k, h2, h⟩ := bindP_inv h
        have := argsP_siz hE _ _ _ h2
        exact ih _ _ _ _ _ h (by simp only [exSz, exsSz]; omega)
      · exact ih _ _ _ _ _ h (by simp only [exSz, exsSz]; omega)
    · cases h; exact ha
theorem postP_siz : SizO (postP ts E) := by
  intro i r j h
  unfold postP at h
  obtain ⟨x, k, h1, h⟩ := bindP_inv h
  exact postLoop_siz hE i _ _ _ _ _ _ h (atomP_siz hE _ _ _ h1)
theorem prodLoop_siz (i0 : Nat) : ∀ n e i r j, prodLoop ts E n e i = .ok (r, j) → exSz e + i0 ≤ i → i0 ≤ i → exSz r + i0 ≤ j := by
  intro n
  induction n with
  | zero => intro e i r j h; cases h
  | succ n ih =>
    intro e i r j h ha hi
    unfold prodLoop at h; split at h
    · obtain ⟨m, k, h1, h⟩ := bindP_inv h
      have := postP_siz hE _ _ _ h1
      exact ih _ _ _ _ h (by rw [exSz_bin]; omega) (by omega)
    · cases h; exact ha
theorem prodP_siz : Siz (prodP ts E) := by
  intro i r j h
  unfold prodP at h
  obtain ⟨x, k, h1, h⟩ := bindP_inv h
  have := postP_siz hE _ _ _ h1
  exact prodLoop_siz hE i _ _ _ _ _ h this (by omega)
theorem sumLoop_siz (i0 : Nat) : ∀ n e i r j, sumLoop ts E n e i = .ok (r, j) → exSz e + i0 ≤ i → i0 ≤ i → exSz r + i0 ≤ j := by
  intro n
  induction n with
  | zero => intro e i r j h; cases h
  | succ n ih =>
    intro e i r j h ha hi
    unfold sumLoop at h; split at h
    · obtain ⟨m, k, h1, h⟩ := bindP_inv h
      have := prodP_siz hE _ _ _ h1
      exact ih _ _ _ _ h (by rw [exSz_bin]; omega) (by omega)
    · split at h
      · obtain ⟨m, k, h1, h⟩ := bindP_inv h
        have := prodP_siz hE _ _ _ h1
        exact ih _ _ _ _ h (by rw [exSz_bin]; omega) (by omega)
      · cases h; exact ha
theorem sumP_siz : Siz (sumP ts E) := by
  intro i r j h
  unfold sumP at h
  obtain ⟨x, k, h1, h⟩ := bindP_inv h
  have := prodP_siz hE _ _ _ h1
  exact sumLoop_siz hE i _ _ _ _ _ h this (by omega)
theorem exprW_siz : Siz (exprW ts E) := by
  intro i r j h
  unfold exprW at h
  obtain ⟨x, k, h1, h⟩ := bindP_inv h
  have := sumP_siz hE _ _ _ h1
  split at h
  · obtain ⟨x, k, h2, h⟩ := bindP_inv h
    have := sumP_siz hE _ _ _ h2; cases h; rw [exSz_bin]; omega
  · split at h
    · obtain ⟨x, k, h2, h⟩ := bindP_inv h
      have := sumP_siz hE _ _ _ h2; cases h; rw [exSz_bin]; omega
    · cases h; omega
omit hE
theorem exprP_siz : ∀ f, Siz (exprP ts f) := by
  intro f
  induction f with
  | zero => intro i r j h; cases h
  | succ f ih => exact exprW_siz ih
theorem exprT_siz : Siz (exprT ts) := exprP_siz _
end
section
variable {ts : List Tok}
theorem paramsLoop_len : ∀ n acc i r j, paramsLoop ts n acc i = .ok (r, j) → acc.length ≤ i → r.length ≤ j := by
  intro n
  induction n with
  | zero => intro acc i r j h; cases h
  | succ n ih =>
    intro acc i r j h ha
    unfold paramsLoop at h; split at h
    · obtain ⟨e, k, h1, h⟩ := bindP_inv h
      have := typedP_adv h1
      exact ih _ _ _ _ h (by simp; omega)
    · obtain ⟨_, k, h1, h⟩ := bindP_inv h
      have := expectP_adv h1; cases h; omega
theorem paramsP_len {i j : Nat} {r : List Fld} (h : paramsP ts i = .ok (r, j)) : r.length ≤ j := by
  unfold paramsP at h
  split at h
  · cases h; simp
  · obtain ⟨e, k, h1, h⟩ := bindP_inv h
    have := typedP_adv h1
    exact paramsLoop_len _ _ _ _ _ h (by simp; omega)
def SizS (S : Nat → PR St) : Prop := ∀ i s j, S i = .ok (s, j) → stSz s + i ≤ j
def SizB (B : Nat → PR (List St)) : Prop := ∀ i b j, B i = .ok (b, j) → stsSz b + i ≤ j
theorem headD_siz (x : Ex) : exSz (x.kids.headD (.mk 0 0 [] [] [])) ≤ exSz x := by
  obtain ⟨k, n, o, m, ks⟩ := x
  cases ks with
  | nil => simp [Ex.kids, exSz, exsSz]
  | cons y l => simp only [Ex.kids, List.headD_cons, exSz, exsSz]; omega
theorem condP_siz {i j : Nat} {c : List Ex} (h : condP ts i = .ok (c, j)) : exsSz c + i + 2 ≤ j := by
  unfold condP at h
  obtain ⟨_, k, h1, h⟩ := bindP_inv h
  obtain ⟨_, k, h2, h⟩ := bindP_inv h
  obtain ⟨_, k, h3, h⟩ := bindP_inv h
  have := expectP_adv h1; have := exprT_siz _ _ _ h2; have := expectP_adv h3; cases h
  simp only [exsSz]; omega
theorem simpleP_siz : SizS (simpleP ts) := by
  intro i r j h
  unfold simpleP at h
  obtain ⟨x, k, h1, h⟩ := bindP_inv h
  have := postP_siz exprT_siz _ _ _ h1
  have hh := headD_siz x.1
  split at h
  · obtain ⟨_, k, h2, h⟩ := bindP_inv h
    obtain ⟨_, k, h3, h⟩ := bindP_inv h
    have := exprT_siz _ _ _ h2; have := expectP_adv h3; cases h; simp only [stSz, stsSz, exsSz]; omega
  split at h
  · obtain ⟨_, k, h2, h⟩ := bindP_inv h
    obtain ⟨_, k, h3, h⟩ := bindP_inv h
    have := exprT_siz _ _ _ h2; have := expectP_adv h3; cases h; simp only [stSz, stsSz, exsSz]; omega
  split at h
  · obtain ⟨_, k, h3, h⟩ := bindP_inv h
    have := expectP_adv h3; cases h; simp only [stSz, stsSz, exsSz]; omega
  · cases h
theorem blockLoop_siz {S : Nat → PR St} (hS : SizS S) (i0 : Nat) : ∀ n acc i r j, blockLoop ts S n acc i = .ok (r, j) → stsSz acc + i0 ≤ i → i0 ≤ i → stsSz r + i0 ≤ j := by
  intro n
  induction n with
  | zero => intro acc i r j h; cases h
  | succ n ih =>
    intro acc i r j h h1 h2
    unfold blockLoop at h; split at h
    · cases h; omega
    · obtain ⟨m, k, h3, h⟩ := bindP_inv h
      have := hS _ _ _ h3
      exact ih _ _ _ _ h (by rw [stsSz_snoc]; omega) (by omega)
theorem blockW_siz {S : Nat → PR St} (hS : SizS S) : SizB (blockW ts S) := by
  intro i r j h
  unfold blockW at h
  obtain ⟨_, k, h1, h⟩ := bindP_inv h
  have := expectP_adv h1
  have := blockLoop_siz hS (i + 1) _ _ _ _ _ h (by simp [stsSz]; omega) (by omega)
  omega
theorem stmtW_siz {B : Nat → PR (List St)} (hB : SizB B) : SizS (stmtW ts B) := by
  intro i r j h
  unfold stmtW at h
  split at h
  · unfold varP at h
    obtain ⟨_, k, h1, h⟩ := bindP_inv h
    have := typedP_adv h1
    split at h
    · obtain ⟨_, k, h2, h⟩ := bindP_inv h
      obtain ⟨_, k, h3, h⟩ := bindP_inv h
      have := exprT_siz _ _ _ h2; have := expectP_adv h3; cases h; simp only [stSz, stsSz, exsSz]; omega
    · obtain ⟨_, k, h3, h⟩ := bindP_inv h
      have := expectP_adv h3; cases h; simp only [stSz, stsSz, exsSz]; omega
  split at h
  · unfold ifP at h
    obtain ⟨_, k, h1, h⟩ := bindP_inv h
    obtain ⟨_, k, h2, h⟩ := bindP_inv h
    have := condP_siz h1; have := hB _ _ _ h2
    split at h
    · obtain ⟨_, k, h3, h⟩ := bindP_inv h
      have := hB _ _ _ h3; cases h; simp only [stSz, stsSz, exsSz]; omega
    · cases h; simp only [stSz, stsSz, exsSz]; omega
  split at h
  · unfold whileP at h
    obtain ⟨_, k, h1, h⟩ := bindP_inv h
    obtain ⟨_, k, h2, h⟩ := bindP_inv h
    have := condP_siz h1; have := hB _ _ _ h2; cases h; simp only [stSz, stsSz, exsSz]; omega
  split at h
  · unfold tryP at h
    obtain ⟨_, k, h1, h⟩ := bindP_inv h
    obtain ⟨_, k, h2, h⟩ := bindP_inv h
    obtain ⟨_, k, h3, h⟩ := bindP_inv h
    obtain ⟨_, k, h4, h⟩ := bindP_inv h
    obtain ⟨_, k, h5, h⟩ := bindP_inv h
    obtain ⟨_, k, h6, h⟩ := bindP_inv h
    have := hB _ _ _ h1; have := expectP_adv h2; have := expectP_adv h3; have := typedP_adv h4; have := expectP_adv h5; have := hB _ _ _ h6; cases h; simp only [stSz, stsSz, exsSz]; omega
  split at h
  · unfold throwP at h
    obtain ⟨_, k, h2, h⟩ := bindP_inv h
    obtain ⟨_, k, h3, h⟩ := bindP_inv h
    have := exprT_siz _ _ _ h2; have := expectP_adv h3; cases h; simp only [stSz, stsSz, exsSz]; omega
  split at h
  · unfold returnP at h
    split at h
    · cases h; simp only [stSz, stsSz, exsSz]; omega
    · obtain ⟨_, k, h2, h⟩ := bindP_inv h
      obtain ⟨_, k, h3, h⟩ := bindP_inv h
      have := exprT_siz _ _ _ h2; have := expectP_adv h3; cases h; simp only [stSz, stsSz, exsSz]; omega
  exact simpleP_siz _ _ _ h
theorem blockP_siz : ∀ f, SizB (blockP ts f) := by
  intro f
  induction f with
  | zero => intro i r j h; cases h
  | succ f ih => exact blockW_siz (stmtW_siz ih)
def MeZ (j : Nat) (m : Me) : Prop := stsSz m.body ≤ j ∧ m.params.length ≤ j
theorem methodP_siz {i j : Nat} {m : Me} (h : methodP ts i = .ok (m, j)) : MeZ j m := by
  unfold methodP at h
  obtain ⟨_, k, h1, h⟩ := bindP_inv h
  obtain ⟨_, k, h2, h⟩ := bindP_inv h
  obtain ⟨_, k, h3, h⟩ := bindP_inv h
  obtain ⟨_, k, h4, h⟩ := bindP_inv h
  obtain ⟨_, k, h5, h⟩ := bindP_inv h
  obtain ⟨_, k, h6, h⟩ := bindP_inv h
  have := blockP_siz _ _ _ _ h6
  have hp := paramsP_len h4; have := resultP_adv h5; have := blockP_adv _ _ _ _ h6; cases h; exact ⟨by simp only; omega, by simp only; omega⟩
theorem MeZ.mono {j j' : Nat} {m : Me} (h : MeZ j m) (hj : j ≤ j') : MeZ j' m := ⟨Nat.le_trans h.1 hj, Nat.le_trans h.2 hj⟩
theorem methodsLoop_siz : ∀ n acc i r j, methodsLoop ts n acc i = .ok (r, j) → (∀ m ∈ acc, MeZ i m) → ∀ m ∈ r, MeZ j m := by
  intro n
  induction n with
  | zero => intro acc i r j h; cases h
  | succ n ih =>
    intro acc i r j h ha
    unfold methodsLoop at h; split at h
    · obtain ⟨e, k, h1, h⟩ := bindP_inv h
      have h2 := methodP_siz h1
      have h3 := methodP_adv _ _ _ h1
      refine ih _ _ _ _ h fun m hm => ?_
      rcases List.mem_append.1 hm with hm | hm
      · exact (ha m hm).mono (by omega)
      · simp at hm; subst hm; exact h2
    · cases h; exact ha
theorem classP_siz {i j : Nat} {c : Cl} (h : classP ts i = .ok (c, j)) : ∀ m ∈ c.methods, MeZ j m := by
  unfold classP at h
  obtain ⟨_, k, h1, h⟩ := bindP_inv h
  obtain ⟨_, k, h2, h⟩ := bindP_inv h
  obtain ⟨_, k, h3, h⟩ := bindP_inv h
  obtain ⟨_, k, h4, h⟩ := bindP_inv h
  obtain ⟨_, k, h5, h⟩ := bindP_inv h
  obtain ⟨_, k6, h6, h⟩ := bindP_inv h
  obtain ⟨_, k, h7, h⟩ := bindP_inv h
  have h8 := methodsLoop_siz _ _ _ _ _ h6 (fun m hm => by cases hm)
  have := expectP_adv h7
  cases h
  exact fun m hm => (h8 m hm).mono (by omega)
theorem classesLoop_siz : ∀ n acc i r j, classesLoop ts n acc i = .ok (r, j) → (∀ c ∈ acc, ∀ m ∈ c.methods, MeZ i m) → ∀ c ∈ r, ∀ m ∈ c.methods, MeZ j m := by
  intro n
  induction n with
  | zero => intro acc i r j h; cases h
  | succ n ih =>
    intro acc i r j h ha
    unfold classesLoop at h; split at h
    · obtain ⟨e, k, h1, h⟩ := bindP_inv h
      have h2 := classP_siz h1
      have h3 := classP_adv _ _ _ h1
      refine ih _ _ _ _ h fun c hc => ?_
      rcases List.mem_append.1 hc with hc | hc
      · exact fun m hm => (ha c hc m hm).mono (by omega)
      · simp at hc; subst hc; exact h2
    · cases h; exact ha
theorem programP_siz {j : Nat} {l : List Cl} (h : programP ts 0 = .ok (l, j)) : ∀ c ∈ l, ∀ m ∈ c.methods, MeZ j m := classesLoop_siz _ _ _ _ _ h (fun c hc => by cases hc)
end
end Lx
end Go.Proofs.YthjonkommphkkaaDoor
namespace Go.Proofs.YthjonkommphkkaaDoor
open Lx Go.RowKit
/-- What an append reads: nothing, or the cells of a row. -/
def SrcAt (w : World) (src : Value) (m size : Nat) (news : List Value) : Prop := news.length = m * size ∧ (∀ u ∈ news, u.oneCell' = true) ∧ ((∃ c, src = .slice none 0 c ∧ m = 0) ∨ ∃ ad c, src = .slice (some ad) m c ∧ ∀ j u, news[j]? = some u → w.cell? (ad.add j) = some u)
theorem SrcAt.below {w w' : World} {src : Value} {m size : Nat} {news : List Value} (h : SrcAt w src m size news) (hb : Below w.heap.size w w') : SrcAt w' src m size news := by
  obtain ⟨h1, h2, h3 | ⟨ad, c, h3, h4⟩⟩ := h
  · exact ⟨h1, h2, .inl h3⟩
  · refine ⟨h1, h2, .inr ⟨ad, c, h3, fun j u hu => ?_⟩⟩
    have h5 := h4 j u hu
    rw [hb.cell (World.block_lt_of_cell? w _ h5)]
    exact h5
theorem flat_from {α : Type} {w : World} {k g off : Nat} {P : α → List Value → Prop} {l : List α} (hc : ∀ i (h : i < l.length), ∃ cs : List Value, cs.length = k ∧ (∀ j, j < k → w.cell? ⟨g, off + (i * k + j), none⟩ = cs[j]?) ∧ P l[i] cs) :
    ∀ m, m ≤ l.length → ∃ xs, Flat k P (l.take m) xs ∧ ∀ j, j < m * k → w.cell? ⟨g, off + j, none⟩ = xs[j]? := by
  intro m
  induction m with
  | zero => intro _; exact ⟨[], Flat.nil, fun j hj => by simp at hj⟩
  | succ m ih =>
    intro hm
    obtain ⟨xs, hf, hx⟩ := ih (by omega)
    obtain ⟨cs, h1, h2, h3⟩ := hc m (by omega)
    have hl : xs.length = m * k := by rw [hf.1, List.length_take]; congr 1; omega
    refine ⟨xs ++ cs, ?_, fun j hj => ?_⟩
    · rw [List.take_succ_eq_append_getElem (by omega)]
      exact hf.snoc h1 h3
    · by_cases hlt : j < m * k
      · rw [List.getElem?_append_left (by omega)]; exact hx j hlt
      · rw [List.getElem?_append_right (by omega), hl]
        have hjk : j - m * k < k := by rw [Nat.succ_mul] at hj; omega
        have := h2 (j - m * k) hjk
        rw [← this, show off + (m * k + (j - m * k)) = off + j from by omega]
theorem IsCl.one {A : Nat → Prop} {w : World} {d : Nat} {e : Cl} {cs : List Value} (h : IsCl A w d e cs) : ∀ u ∈ cs, u.oneCell' = true := by
  obtain ⟨v1, v2, rfl, h1, h2⟩ := h
  have hv : v1.oneCell' = true := by obtain ⟨_, ⟨_, a, c, rfl⟩ | ⟨g, off, c, rfl, _⟩⟩ := h1 <;> rfl
  have hv2 : v2.oneCell' = true := by obtain ⟨_, ⟨_, a, c, rfl⟩ | ⟨g, off, c, rfl, _⟩⟩ := h2 <;> rfl
  intro u hu
  simp at hu
  rcases hu with rfl | rfl | rfl | rfl <;> first | rfl | exact hv | exact hv2
theorem add_off (g off k : Nat) : (⟨g, off, none⟩ : Addr).add k = ⟨g, off + k, none⟩ := by
  unfold Addr.add; split
  · rename_i h; rw [h]; rfl
  · rfl
theorem IsList.src {α : Type} {w : World} {k : Nat} {P : α → List Value → Prop} {l : List α} {v : Value} (hk : 0 < k) (h : IsList Any w k P l v) (hP : ∀ x cs, P x cs → ∀ u ∈ cs, u.oneCell' = true) : ∃ xs, Flat k P l xs ∧ SrcAt w v l.length k xs := by
  obtain ⟨hl, ⟨rfl, a, c, rfl⟩ | ⟨g, off, cap, rfl, hA, hc⟩⟩ := h
  · refine ⟨[], Flat.nil, by simp, by simp, ?_⟩
    cases a with
    | none => exact .inl ⟨c, rfl, rfl⟩
    | some ad => exact .inr ⟨ad, c, rfl, by simp⟩
  · obtain ⟨xs, hf, hx⟩ := flat_from hc l.length (Nat.le_refl _)
    rw [List.take_length] at hf
    refine ⟨xs, hf, hf.1, hf.ones hk hP, .inr ⟨_, cap, rfl, fun j u hu => ?_⟩⟩
    have hj : j < xs.length := (List.getElem?_eq_some_iff.1 hu).1
    rw [add_off, hx j (by rw [← hf.1]; exact hj), hu]
theorem programR_err {l : Bytes} {p er : Nat} (h : programR l = .error (p, er)) : er ≠ 0 := by
  unfold programR at h
  cases hr : readR (fun ts => programP ts 0) l with
  | error x =>
    rw [hr] at h
    obtain ⟨q, f⟩ := x
    have := readR_err hr
    cases h; omega
  | ok c =>
    rw [hr] at h
    simp only at h
    split at h
    · rename_i h0; cases h; exact h0
    · cases h
/-- How parse.Program ends, in one form. -/
theorem ProgOut.form {w : World} {l : Bytes} {e : Ending} {w' : World} (h : ProgOut w (programR l) e w') : Below w.heap.size w w' ∧ ∃ (a : Option Addr) (n c : Nat) (p er : Int), e = .returned (.tuple #[.agg #[.slice a n c], .int .i64 p, .int .i64 er]) ∧ ∃ (x : List Cl) (d : Nat), IsList Any w' 4 (IsCl Any w' d) x (.slice a n c) ∧
    ((er = 0 ∧ p = 0 ∧ programR l = .ok x) ∨ ((er != 0) = true ∧ ∃ (q f : Nat), p = (q : Int) ∧ er = (f : Int) ∧ x = [] ∧ programR l = .error (q, f))) := by
  obtain ⟨hb, h⟩ := h
  refine ⟨hb, ?_⟩
  cases hr : programR l with
  | error x =>
    obtain ⟨p, er⟩ := x
    rw [hr] at h
    have h0 := programR_err hr
    exact ⟨none, 0, 0, p, er, h, [], 0, ⟨by simp, .inl ⟨rfl, _, _, rfl⟩⟩, .inr ⟨by rw [bne_iff_ne]; omega, p, er, rfl, rfl, rfl, rfl⟩⟩
  | ok x =>
    rw [hr] at h
    obtain ⟨a, n, c, h1, d, h2⟩ := h
    exact ⟨a, n, c, 0, 0, h1, x, d, h2.sub (fun _ _ _ => trivial) (by omega) fun _ _ _ => IsCl.sub fun _ _ _ => trivial, .inl ⟨rfl, rfl, rfl⟩⟩
end Go.Proofs.YthjonkommphkkaaDoor
namespace Go.Proofs.YthjonkommphkkaaDoor
open Lx Go.RowKit
set_option maxHeartbeats 2000000 in
theorem ref_SameExprs (d : Nat) : ∀ (l1 l2 : List Ex) (a1 : Option Addr) (n1 c1 : Nat) (a2 : Option Addr) (n2 c2 : Nat) (w : World), IsList Any w 5 (IsEx Any w d) l1 (.slice a1 n1 c1) → IsList Any w 5 (IsEx Any w d) l2 (.slice a2 n2 c2) →
    Calls Tryd.prog 47 #[.slice a1 n1 c1, .slice a2 n2 c2] w (SameOut w (l1 = l2)) := by
  induction d with
  | zero =>
    intro l1 l2 a1 n1 c1 a2 n2 c2 w h1 h2
    obtain ⟨rfl, hm1, hat1⟩ := h1.exAt
    obtain ⟨rfl, hm2, hat2⟩ := h2.exAt
    cases l1 with
    | cons x l => obtain ⟨_, _, _, _, _, _, _, _, _, _, _, _, _, _, _, _, hx⟩ := hat1 0 (by simp); exact absurd hx (by simp [IsEx])
    | nil =>
      cases l2 with
      | cons x l => obtain ⟨_, _, _, _, _, _, _, _, _, _, _, _, _, _, _, _, hx⟩ := hat2 0 (by simp); exact absurd hx (by simp [IsEx])
      | nil =>
        clear h1 h2 hat1 hat2
        go_enter Tryd.func47, Tryd.ntmps47
        go_wp2_with fail
        go_loopw [5] (fun i wr => SameRel ([] : List Ex) [] w i wr) (fun i _ => 0 - (intOf i).toNat)
        case atStart => exact ⟨0, Nat.zero_le _, rfl, rfl, .refl _ _⟩
        case round =>
          obtain ⟨j, hj, rfl, _, hb⟩ := hrel
          obtain rfl : j = 0 := by simpa using hj
          have HB := Lib.hid hb
          clear hb
          go_wp2_with fail
          go_ret
          exact ⟨HB.out, true, rfl, by simp⟩
  | succ d ih =>
    intro l1 l2 a1 n1 c1 a2 n2 c2 w h1 h2
    obtain ⟨rfl, hm1, hat1⟩ := h1.exAt
    obtain ⟨rfl, hm2, hat2⟩ := h2.exAt
    unfold maxLen at hm1 hm2
    have HAT1 := Lib.hid hat1
    have HAT2 := Lib.hid hat2
    have IH := Lib.hid ih
    clear h1 h2 hat1 hat2 ih
    by_cases hlen : l1.length = l2.length
    · have hle : ((l1.length : Int) != (l2.length : Int)) = false := by rw [bne_eq_false_iff_eq]; omega
      have hle1 : l1.length ≤ l2.length := by omega
      have hle2 : l2.length ≤ l1.length := by omega
      clear hlen
      go_enter Tryd.func47, Tryd.ntmps47
      go_wp2_with fail
      go_loopw [5] (fun i wr => SameRel l1 l2 w i wr) (fun i _ => l1.length - (intOf i).toNat)
      case atStart => exact ⟨0, Nat.zero_le _, rfl, rfl, .refl _ _⟩
      case round =>
        obtain ⟨j, hj, rfl, hpre, hb⟩ := hrel
        have HPRE := Lib.hid hpre
        clear hpre
        by_cases hlt : j < l1.length
        · have hlt2 : j < l2.length := by omega
          obtain ⟨g1, o1, k1, m1, s1, t1, b1, r1, q1, rfl, hg1, x0, x1, x2, x3, x4, hx⟩ := HAT1.out j hlt
          obtain ⟨g2, o2, k2, m2, s2, t2, b2, r2, q2, rfl, hg2, y0, y1, y2, y3, y4, hy⟩ := HAT2.out j hlt2
          rw [← hb.cell (p := ⟨g1, _, none⟩) hg1] at x0 x1 x2 x3 x4
          rw [← hb.cell (p := ⟨g2, _, none⟩) hg2] at y0 y1 y2 y3 y4
          have hs := hb.size
          have hw1 : g1 < wr.heap.size := by omega
          have hw2 : g2 < wr.heap.size := by omega
          obtain ⟨oo1, mm1, ks1, he1, rfl, rfl, hl1⟩ := (IsEx.kept (kept_any hb) _ _ _ hx).flds
          obtain ⟨oo2, mm2, ks2, he2, rfl, rfl, hl2⟩ := (IsEx.kept (kept_any hb) _ _ _ hy).flds
          have H1 : Hid (∀ x, Below wr.heap.size wr x → IsList Any x 5 (IsEx Any x d) ks1 (.slice b1 r1 q1)) := fun x hx => hl1.kept (kept_any hx) (by omega) fun _ _ _ => IsEx.kept (kept_any hx) _ _ _
          have H2 : Hid (∀ x, Below wr.heap.size wr x → IsList Any x 5 (IsEx Any x d) ks2 (.slice b2 r2 q2)) := fun x hx => hl2.kept (kept_any hx) (by omega) fun _ _ _ => IsEx.kept (kept_any hx) _ _ _
          have HE1 := Lib.hid he1
          have HE2 := Lib.hid he2
          have HB := Lib.hid hb
          clear hb hx hy hl1 hl2 he1 he2
          have hj1 : (j : Int) < (l1.length : Int) := by omega
          have hj2 : (j : Int) < (l2.length : Int) := by omega
          have hj0 : (0 : Int) ≤ (j : Int) := by omega
          by_cases hk : k1 = k2
          rotate_left
          · have HNE : Hid (l1[j] ≠ l2[j]) := by show _ ≠ _; rw [HE1.out, HE2.out]; intro e; injection e; exact hk ‹_›
            have q : (k1 != k2) = true := by rw [bne_iff_ne]; exact hk
            clear hk
            go_wp2_with fail
            go_region
            all_goals
              go_wp2_with fail
              go_ret
              exact ⟨HB.out.trans (((((Below.refl _ _).alloc (Nat.le_refl _) _).alloc (by simp) _).drew).mono HB.out.size), false, rfl, by simp; exact differ hlt hlt2 (HNE.out)⟩
          subst hk
          by_cases hm : m1 = m2
          rotate_left
          · have HNE : Hid (l1[j] ≠ l2[j]) := by show _ ≠ _; rw [HE1.out, HE2.out]; intro e; injection e; exact hm ‹_›
            have q : (m1 != m2) = true := by rw [bne_iff_ne]; exact hm
            clear hm
            go_wp2_with fail
            go_region
            all_goals
              go_wp2_with fail
              go_ret
              exact ⟨HB.out.trans (((((Below.refl _ _).alloc (Nat.le_refl _) _).alloc (by simp) _).drew).mono HB.out.size), false, rfl, by simp; exact differ hlt hlt2 (HNE.out)⟩
          subst hm
          by_cases ho : oo1 = oo2
          rotate_left
          · have HNE : Hid (l1[j] ≠ l2[j]) := by show _ ≠ _; rw [HE1.out, HE2.out]; intro e; injection e; exact ho ‹_›
            obtain ⟨q, q'⟩ := str_ne ho
            clear ho
            go_wp2_with fail
            go_region
            all_goals
              go_wp2_with fail
              go_ret
              exact ⟨HB.out.trans (((((Below.refl _ _).alloc (Nat.le_refl _) _).alloc (by simp) _).drew).mono HB.out.size), false, rfl, by simp; exact differ hlt hlt2 (HNE.out)⟩
          subst ho
          by_cases hn : mm1 = mm2
          rotate_left
          · have HNE : Hid (l1[j] ≠ l2[j]) := by show _ ≠ _; rw [HE1.out, HE2.out]; intro e; injection e; exact hn ‹_›
            obtain ⟨q, q'⟩ := str_ne hn
            clear hn
            go_wp2_with fail
            go_region
            all_goals
              go_wp2_with fail
              go_ret
              exact ⟨HB.out.trans (((((Below.refl _ _).alloc (Nat.le_refl _) _).alloc (by simp) _).drew).mono HB.out.size), false, rfl, by simp; exact differ hlt hlt2 (HNE.out)⟩
          subst hn
          go_wp2_with fail
          go_region
          all_goals
            go_wp2_with fail
            refine (IH.out _ _ _ _ _ _ _ _ _ (H1.out _ (((((Below.refl _ _).alloc (Nat.le_refl _) _).alloc (by simp) _).drew))) (H2.out _ (((((Below.refl _ _).alloc (Nat.le_refl _) _).alloc (by simp) _).drew)))).mono ?_
            rintro e w2 ⟨hb2, b, rfl, hbi⟩
            have HB2 := Lib.hid (HB.out.trans ((((((Below.refl _ _).alloc (Nat.le_refl _) _).alloc (by simp) _).drew).trans (hb2.mono (by simp; omega))).mono HB.out.size))
            have HBI := Lib.hid hbi
            clear hb2 hbi
            cases b
            · go_wp2_with fail
              go_ret
              refine ⟨HB2.out, false, rfl, ?_⟩
              simp
              refine differ hlt hlt2 ?_
              rw [HE1.out, HE2.out]; intro e; injection e; exact absurd (HBI.out.2 ‹_›) (by decide)
            · go_wp2_with fail
              go_roundw
              case rel =>
                refine ⟨j + 1, by omega, by go_num, ?_, HB2.out⟩
                rw [List.take_succ_eq_append_getElem hlt, List.take_succ_eq_append_getElem hlt2, HPRE.out, HE1.out, HE2.out, HBI.out.1 (by simp)]
              case measure => simp [intOf]; omega
        · have HB := Lib.hid hb
          clear hb
          go_wp2_with fail
          go_ret
          refine ⟨HB.out, true, rfl, ?_⟩
          simp only [true_iff]
          have hp := HPRE.out
          rw [List.take_of_length_le (by omega), List.take_of_length_le (by omega)] at hp
          exact hp
    · have hle : ((l1.length : Int) != (l2.length : Int)) = true := by rw [bne_iff_ne]; omega
      have HL := Lib.hid hlen
      clear hlen
      go_enter Tryd.func47, Tryd.ntmps47
      go_wp2_with fail
      go_ret
      exact ⟨.refl _ _, false, rfl, by simp; intro h; exact HL.out (by rw [h])⟩
end Go.Proofs.YthjonkommphkkaaDoor
namespace Go.Proofs.YthjonkommphkkaaDoor
open Lx Go.RowKit
set_option maxHeartbeats 2000000 in
theorem ref_SameFields (l1 l2 : List Fld) (a1 : Option Addr) (n1 c1 : Nat) (a2 : Option Addr) (n2 c2 : Nat) (w : World) (h1 : IsList Any w 2 IsFld l1 (.slice a1 n1 c1)) (h2 : IsList Any w 2 IsFld l2 (.slice a2 n2 c2)) :
    Calls Tryd.prog 15 #[.slice a1 n1 c1, .slice a2 n2 c2] w (SameOut w (l1 = l2)) := by
  obtain ⟨rfl, hm1, hat1⟩ := h1.fldAt
  obtain ⟨rfl, hm2, hat2⟩ := h2.fldAt
  unfold maxLen at hm1 hm2
  have HAT1 := Lib.hid hat1
  have HAT2 := Lib.hid hat2
  clear h1 h2 hat1 hat2
  by_cases hlen : l1.length = l2.length
  · have hle : ((l1.length : Int) != (l2.length : Int)) = false := by rw [bne_eq_false_iff_eq]; omega
    have hle1 : l1.length ≤ l2.length := by omega
    have hle2 : l2.length ≤ l1.length := by omega
    clear hlen
    go_enter Tryd.func15, Tryd.ntmps15
    go_wp2_with fail
    go_loopw [5] (fun i wr => SameRel l1 l2 w i wr) (fun i _ => l1.length - (intOf i).toNat)
    case atStart => exact ⟨0, Nat.zero_le _, rfl, rfl, .refl _ _⟩
    case round =>
      obtain ⟨j, hj, rfl, hpre, hb⟩ := hrel
      have HPRE := Lib.hid hpre
      clear hpre
      by_cases hlt : j < l1.length
      · have hlt2 : j < l2.length := by omega
        obtain ⟨g1, o1, rfl, hg1, x0, x1⟩ := HAT1.out j hlt
        obtain ⟨g2, o2, rfl, hg2, y0, y1⟩ := HAT2.out j hlt2
        rw [← hb.cell (p := ⟨g1, _, none⟩) hg1] at x0 x1
        rw [← hb.cell (p := ⟨g2, _, none⟩) hg2] at y0 y1
        have hs := hb.size
        have hw1 : g1 < wr.heap.size := by omega
        have hw2 : g2 < wr.heap.size := by omega
        obtain ⟨f1, hf1⟩ : ∃ f, l1[j] = f := ⟨_, rfl⟩
        obtain ⟨f2, hf2⟩ : ∃ f, l2[j] = f := ⟨_, rfl⟩
        rw [hf1] at x0 x1
        rw [hf2] at y0 y1
        have HF1 := Lib.hid hf1
        have HF2 := Lib.hid hf2
        have HB := Lib.hid hb
        clear hb hf1 hf2
        have hj1 : (j : Int) < (l1.length : Int) := by omega
        have hj2 : (j : Int) < (l2.length : Int) := by omega
        have hj0 : (0 : Int) ≤ (j : Int) := by omega
        obtain ⟨fn1, ft1⟩ := f1
        obtain ⟨fn2, ft2⟩ := f2
        simp only at x0 x1 y0 y1
        by_cases hn : fn1 = fn2
        rotate_left
        · have HNE : Hid (l1[j] ≠ l2[j]) := by show _ ≠ _; rw [HF1.out, HF2.out]; intro e; injection e; exact hn ‹_›
          obtain ⟨q, q'⟩ := str_ne hn
          clear hn
          by_cases ht : ft1 = ft2
          · subst ht
            go_wp2_with fail
            go_quiet (fail)
            go_wp2_with fail
            go_ret
            exact ⟨HB.out.trans ((below_drewN (Below.refl _ _) _).mono HB.out.size), false, rfl, by simp; exact differ hlt hlt2 HNE.out⟩
          · obtain ⟨r, r'⟩ := str_ne ht
            clear ht
            go_wp2_with fail
            go_quiet (fail)
            go_wp2_with fail
            go_ret
            exact ⟨HB.out.trans ((below_drewN (Below.refl _ _) _).mono HB.out.size), false, rfl, by simp; exact differ hlt hlt2 HNE.out⟩
        subst hn
        by_cases ht : ft1 = ft2
        rotate_left
        · have HNE : Hid (l1[j] ≠ l2[j]) := by show _ ≠ _; rw [HF1.out, HF2.out]; intro e; injection e; exact ht ‹_›
          obtain ⟨q, q'⟩ := str_ne ht
          clear ht
          go_wp2_with fail
          go_quiet (fail)
          go_wp2_with fail
          go_ret
          exact ⟨HB.out.trans ((below_drewN (Below.refl _ _) _).mono HB.out.size), false, rfl, by simp; exact differ hlt hlt2 HNE.out⟩
        subst ht
        go_wp2_with fail
        go_quiet (fail)
        go_wp2_with fail
        go_roundw
        case rel =>
          refine ⟨j + 1, by omega, by go_num, ?_, HB.out.trans ((below_drewN (Below.refl _ _) _).mono HB.out.size)⟩
          rw [List.take_succ_eq_append_getElem hlt, List.take_succ_eq_append_getElem hlt2, HPRE.out, HF1.out, HF2.out]
        case measure => simp [intOf]; omega
      · have HB := Lib.hid hb
        clear hb
        go_wp2_with fail
        go_ret
        refine ⟨HB.out, true, rfl, ?_⟩
        simp only [true_iff]
        have hp := HPRE.out
        rw [List.take_of_length_le (by omega), List.take_of_length_le (by omega)] at hp
        exact hp
  · have hle : ((l1.length : Int) != (l2.length : Int)) = true := by rw [bne_iff_ne]; omega
    have HL := Lib.hid hlen
    clear hlen
    go_enter Tryd.func15, Tryd.ntmps15
    go_wp2_with fail
    go_ret
    exact ⟨.refl _ _, false, rfl, by simp; intro h; exact HL.out (by rw [h])⟩
end Go.Proofs.YthjonkommphkkaaDoor
