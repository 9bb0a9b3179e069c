/-
  Plain Lean: a tree that a rule gives has no more nodes than the rule has read tokens.
-/
import Derived.Test.YthjonkommphkkaaGreatDoorParItems
import Derived.Test.YthjonkommphkkaaGreatDoorJpBl
set_option linter.unusedSectionVars false
set_option linter.unusedSimpArgs false
set_option linter.unnecessarySimpa false
set_option linter.unusedVariables false
namespace Go.Proofs.YthjonkommphkkaaGreatDoor
namespace Lx
mutual
def exSz : Ex → Nat
  | .mk _ _ _ _ ks => exsSz ks + 1
def exsSz : List Ex → Nat
  | [] => 0
  | e :: es => exSz e + exsSz es
end
mutual
def stSz : St → Nat
  | .mk _ _ _ es b el => exsSz es + stsSz b + stsSz el + 1
def stsSz : List St → Nat
  | [] => 0
  | s :: l => stSz s + stsSz l
end
theorem exsSz_snoc (l : List Ex) (e : Ex) : exsSz (l ++ [e]) = exsSz l + exSz e := by
  induction l with
  | nil => simp [exsSz]
  | cons x l ih => simp only [List.cons_append, exsSz, ih]; omega
theorem stsSz_snoc (l : List St) (e : St) : stsSz (l ++ [e]) = stsSz l + stSz e := by
  induction l with
  | nil => simp [stsSz]
  | cons x l ih => simp only [List.cons_append, stsSz, ih]; omega
theorem exSz_pos (e : Ex) : 0 < exSz e := by cases e; rw [exSz]; omega
theorem stSz_pos (s : St) : 0 < stSz s := by cases s; rw [stSz]; omega
theorem exsSz_len (l : List Ex) : l.length ≤ exsSz l := by
  induction l with
  | nil => simp
  | cons x l ih => have := exSz_pos x; simp only [List.length_cons, exsSz]; omega
theorem stsSz_len (l : List St) : l.length ≤ stsSz l := by
  induction l with
  | nil => simp
  | cons x l ih => have := stSz_pos x; simp only [List.length_cons, stsSz]; omega
theorem exsSz_mem {l : List Ex} {e : Ex} (h : e ∈ l) : exSz e ≤ exsSz l := by
  induction l with
  | nil => cases h
  | cons x l ih =>
    simp only [exsSz]
    rcases List.mem_cons.1 h with rfl | h
    · omega
    · have := ih h; omega
theorem stsSz_mem {l : List St} {e : St} (h : e ∈ l) : stSz e ≤ stsSz l := by
  induction l with
  | nil => cases h
  | cons x l ih =>
    simp only [stsSz]
    rcases List.mem_cons.1 h with rfl | h
    · omega
    · have := ih h; omega
mutual
theorem exDepth_sz : ∀ e : Ex, exDepth e ≤ exSz e
  | .mk k n o m ks => by rw [exDepth, exSz]; have := exsDepth_sz ks; omega
theorem exsDepth_sz : ∀ l : List Ex, exsDepth l ≤ exsSz l
  | [] => by simp [exsDepth, exsSz]
  | e :: l => by rw [exsDepth, exsSz]; have := exDepth_sz e; have := exsDepth_sz l; omega
end
mutual
theorem stDepth_sz : ∀ s : St, stDepth s ≤ stSz s
  | .mk k n t es b el => by rw [stDepth, stSz]; have := exsDepth_sz es; have := stsDepth_sz b; have := stsDepth_sz el; omega
theorem stsDepth_sz : ∀ l : List St, stsDepth l ≤ stsSz l
  | [] => by simp [stsDepth, stsSz]
  | e :: l => by rw [stsDepth, stsSz]; have := stDepth_sz e; have := stsDepth_sz l; omega
end
mutual
theorem stCount_sz : ∀ s : St, stCount s + 1 ≤ stSz s
  | .mk k n t es b el => by rw [stCount, stSz]; have := stsCount_sz b; have := stsCount_sz el; omega
theorem stsCount_sz : ∀ l : List St, stsCount l ≤ stsSz l
  | [] => by simp [stsCount, stsSz]
  | e :: l => by rw [stsCount, stsSz]; have := stCount_sz e; have := stsCount_sz l; omega
end
section
variable {ts : List Tok}
def Siz (E : Nat → PR Ex) : Prop := ∀ i e j, E i = .ok (e, j) → exSz e + i ≤ j
def SizO (E : Nat → PR (Ex × Nat)) : Prop := ∀ i e j, E i = .ok (e, j) → exSz e.1 + i ≤ j
theorem exSz_bin (op : Int) (a b : Ex) : exSz (binE op a b) = exSz a + exSz b + 1 := by simp [binE, exSz, exsSz]
variable {E : Nat → PR Ex} (hE : Siz E)
include hE
/-- The kids are no deeper than the tokens between. -/
theorem argsLoop_siz (i0 : Nat) : ∀ n acc i r j, argsLoop ts E n acc i = .ok (r, j) → exsSz acc + i0 ≤ i → exsSz r + i0 + 1 ≤ j := by
  intro n
  induction n with
  | zero => intro acc i r j h; cases h
  | succ n ih =>
    intro acc i r j h ha
    unfold argsLoop at h; split at h
    · obtain ⟨e, k, h1, h⟩ := bindP_inv h
      have h2 := hE _ _ _ h1
      exact ih _ _ _ _ h (by rw [exsSz_snoc]; omega)
    · obtain ⟨_, k, h1, h⟩ := bindP_inv h
      have := expectP_adv h1; cases h; omega
theorem argsP_siz : ∀ i r j, argsP ts E i = .ok (r, j) → exsSz r + i + 2 ≤ j := by
  intro i r j h
  unfold argsP at h
  obtain ⟨_, k, h1, h⟩ := bindP_inv h
  have := expectP_adv h1
  split at h
  · cases h; simp [exsSz]; omega
  · obtain ⟨e, k, h2, h⟩ := bindP_inv h
    have h3 := hE _ _ _ h2
    have := argsLoop_siz hE (i + 1) _ _ _ _ _ h (by simp [exsSz]; omega)
    omega
theorem atomP_siz : SizO (atomP ts E) := by
  intro i r j h
  unfold atomP at h
  split at h
  · unfold namedP at h
    obtain ⟨_, k, h1, h⟩ := bindP_inv h
    have := nameP_adv h1
    split at h
    · obtain ⟨_, k, h2, h⟩ := bindP_inv h
      obtain ⟨_, k, h3, h⟩ := bindP_inv h
      have := nameP_adv h2; have := argsP_siz hE _ _ _ h3; cases h; simp only [exSz]; omega
    · cases h; simp only [exSz, exsSz]; omega
  split at h; · cases h; simp only [exSz, exsSz]; omega
  split at h
  · have := minusP_adv h
    unfold minusP at h
    split at h
    · cases h; simp only [exSz, exsSz]; omega
    · cases h
  split at h; · cases h; simp only [exSz, exsSz]; omega
  split at h; · cases h; simp only [exSz, exsSz]; omega
  split at h
  · have := unitP_adv h
    unfold unitP at h
    obtain ⟨_, k, h1, h⟩ := bindP_inv h
    obtain ⟨_, k, h2, h⟩ := bindP_inv h
    cases h; simp only [exSz, exsSz]; omega
  split at h
  · obtain ⟨_, k, h1, h⟩ := bindP_inv h
    have := nameP_adv h1; have := unitP_adv h
    unfold unitP at h
    obtain ⟨_, k, h1, h⟩ := bindP_inv h
    obtain ⟨_, k, h2, h⟩ := bindP_inv h
    cases h; simp only [exSz, exsSz]; omega
  · unfold parenP at h
    obtain ⟨_, k, h1, h⟩ := bindP_inv h
    obtain ⟨_, k, h2, h⟩ := bindP_inv h
    obtain ⟨_, k, h3, h⟩ := bindP_inv h
    have := expectP_adv h1; have := hE _ _ _ h2; have := expectP_adv h3; cases h; simp only; omega
theorem postLoop_siz (i0 : Nat) : ∀ n e sh i r j, postLoop ts E n e sh i = .ok (r, j) → exSz e + i0 ≤ i → exSz r.1 + i0 ≤ j := by
  intro n
  induction n with
  | zero => intro e sh i r j h; cases h
  | succ n ih =>
    intro e sh i r j h ha
    unfold postLoop at h; split at h
    · obtain ⟨m, k, h1, h⟩ := bindP_inv h
      have := nameP_adv h1
      split at h
      · obtain ⟨ks, k, h2, h⟩ := bindP_inv h
        have := argsP_siz hE _ _ _ h2
        exact ih _ _ _ _ _ h (by simp only [exSz, exsSz]; omega)
      · exact ih _ _ _ _ _ h (by simp only [exSz, exsSz]; omega)
    · cases h; exact ha
theorem postP_siz : SizO (postP ts E) := by
  intro i r j h
  unfold postP at h
  obtain ⟨x, k, h1, h⟩ := bindP_inv h
  exact postLoop_siz hE i _ _ _ _ _ _ h (atomP_siz hE _ _ _ h1)
theorem prodLoop_siz (i0 : Nat) : ∀ n e i r j, prodLoop ts E n e i = .ok (r, j) → exSz e + i0 ≤ i → i0 ≤ i → exSz r + i0 ≤ j := by
  intro n
  induction n with
  | zero => intro e i r j h; cases h
  | succ n ih =>
    intro e i r j h ha hi
    unfold prodLoop at h; split at h
    · obtain ⟨m, k, h1, h⟩ := bindP_inv h
      have := postP_siz hE _ _ _ h1
      exact ih _ _ _ _ h (by rw [exSz_bin]; omega) (by omega)
    · cases h; exact ha
theorem prodP_siz : Siz (prodP ts E) := by
  intro i r j h
  unfold prodP at h
  obtain ⟨x, k, h1, h⟩ := bindP_inv h
  have := postP_siz hE _ _ _ h1
  exact prodLoop_siz hE i _ _ _ _ _ h this (by omega)
theorem sumLoop_siz (i0 : Nat) : ∀ n e i r j, sumLoop ts E n e i = .ok (r, j) → exSz e + i0 ≤ i → i0 ≤ i → exSz r + i0 ≤ j := by
  intro n
  induction n with
  | zero => intro e i r j h; cases h
  | succ n ih =>
    intro e i r j h ha hi
    unfold sumLoop at h; split at h
    · obtain ⟨m, k, h1, h⟩ := bindP_inv h
      have := prodP_siz hE _ _ _ h1
      exact ih _ _ _ _ h (by rw [exSz_bin]; omega) (by omega)
    · split at h
      · obtain ⟨m, k, h1, h⟩ := bindP_inv h
        have := prodP_siz hE _ _ _ h1
        exact ih _ _ _ _ h (by rw [exSz_bin]; omega) (by omega)
      · cases h; exact ha
theorem sumP_siz : Siz (sumP ts E) := by
  intro i r j h
  unfold sumP at h
  obtain ⟨x, k, h1, h⟩ := bindP_inv h
  have := prodP_siz hE _ _ _ h1
  exact sumLoop_siz hE i _ _ _ _ _ h this (by omega)
theorem exprW_siz : Siz (exprW ts E) := by
  intro i r j h
  unfold exprW at h
  obtain ⟨x, k, h1, h⟩ := bindP_inv h
  have := sumP_siz hE _ _ _ h1
  split at h
  · obtain ⟨x, k, h2, h⟩ := bindP_inv h
    have := sumP_siz hE _ _ _ h2; cases h; rw [exSz_bin]; omega
  · split at h
    · obtain ⟨x, k, h2, h⟩ := bindP_inv h
      have := sumP_siz hE _ _ _ h2; cases h; rw [exSz_bin]; omega
    · cases h; omega
omit hE
theorem exprP_siz : ∀ f, Siz (exprP ts f) := by
  intro f
  induction f with
  | zero => intro i r j h; cases h
  | succ f ih => exact exprW_siz ih
theorem exprT_siz : Siz (exprT ts) := exprP_siz _
end
section
variable {ts : List Tok}
theorem paramsLoop_len : ∀ n acc i r j, paramsLoop ts n acc i = .ok (r, j) → acc.length ≤ i → r.length ≤ j := by
  intro n
  induction n with
  | zero => intro acc i r j h; cases h
  | succ n ih =>
    intro acc i r j h ha
    unfold paramsLoop at h; split at h
    · obtain ⟨e, k, h1, h⟩ := bindP_inv h
      have := typedP_adv h1
      exact ih _ _ _ _ h (by simp; omega)
    · obtain ⟨_, k, h1, h⟩ := bindP_inv h
      have := expectP_adv h1; cases h; omega
theorem paramsP_len {i j : Nat} {r : List Fld} (h : paramsP ts i = .ok (r, j)) : r.length ≤ j := by
  unfold paramsP at h
  split at h
  · cases h; simp
  · obtain ⟨e, k, h1, h⟩ := bindP_inv h
    have := typedP_adv h1
    exact paramsLoop_len _ _ _ _ _ h (by simp; omega)
def SizS (S : Nat → PR St) : Prop := ∀ i s j, S i = .ok (s, j) → stSz s + i ≤ j
def SizB (B : Nat → PR (List St)) : Prop := ∀ i b j, B i = .ok (b, j) → stsSz b + i ≤ j
theorem headD_siz (x : Ex) : exSz (x.kids.headD (.mk 0 0 [] [] [])) ≤ exSz x := by
  obtain ⟨k, n, o, m, ks⟩ := x
  cases ks with
  | nil => simp [Ex.kids, exSz, exsSz]
  | cons y l => simp only [Ex.kids, List.headD_cons, exSz, exsSz]; omega
theorem condP_siz {i j : Nat} {c : List Ex} (h : condP ts i = .ok (c, j)) : exsSz c + i + 2 ≤ j := by
  unfold condP at h
  obtain ⟨_, k, h1, h⟩ := bindP_inv h
  obtain ⟨_, k, h2, h⟩ := bindP_inv h
  obtain ⟨_, k, h3, h⟩ := bindP_inv h
  have := expectP_adv h1; have := exprT_siz _ _ _ h2; have := expectP_adv h3; cases h
  simp only [exsSz]; omega
theorem simpleP_siz : SizS (simpleP ts) := by
  intro i r j h
  unfold simpleP at h
  obtain ⟨x, k, h1, h⟩ := bindP_inv h
  have := postP_siz exprT_siz _ _ _ h1
  have hh := headD_siz x.1
  split at h
  · obtain ⟨_, k, h2, h⟩ := bindP_inv h
    obtain ⟨_, k, h3, h⟩ := bindP_inv h
    have := exprT_siz _ _ _ h2; have := expectP_adv h3; cases h; simp only [stSz, stsSz, exsSz]; omega
  split at h
  · obtain ⟨_, k, h2, h⟩ := bindP_inv h
    obtain ⟨_, k, h3, h⟩ := bindP_inv h
    have := exprT_siz _ _ _ h2; have := expectP_adv h3; cases h; simp only [stSz, stsSz, exsSz]; omega
  split at h
  · obtain ⟨_, k, h3, h⟩ := bindP_inv h
    have := expectP_adv h3; cases h; simp only [stSz, stsSz, exsSz]; omega
  · cases h
theorem blockLoop_siz {S : Nat → PR St} (hS : SizS S) (i0 : Nat) : ∀ n acc i r j, blockLoop ts S n acc i = .ok (r, j) → stsSz acc + i0 ≤ i → i0 ≤ i → stsSz r + i0 ≤ j := by
  intro n
  induction n with
  | zero => intro acc i r j h; cases h
  | succ n ih =>
    intro acc i r j h h1 h2
    unfold blockLoop at h; split at h
    · cases h; omega
    · obtain ⟨m, k, h3, h⟩ := bindP_inv h
      have := hS _ _ _ h3
      exact ih _ _ _ _ h (by rw [stsSz_snoc]; omega) (by omega)
theorem blockW_siz {S : Nat → PR St} (hS : SizS S) : SizB (blockW ts S) := by
  intro i r j h
  unfold blockW at h
  obtain ⟨_, k, h1, h⟩ := bindP_inv h
  have := expectP_adv h1
  have := blockLoop_siz hS (i + 1) _ _ _ _ _ h (by simp [stsSz]; omega) (by omega)
  omega
theorem stmtW_siz {B : Nat → PR (List St)} (hB : SizB B) : SizS (stmtW ts B) := by
  intro i r j h
  unfold stmtW at h
  split at h
  · unfold varP at h
    obtain ⟨_, k, h1, h⟩ := bindP_inv h
    have := typedP_adv h1
    split at h
    · obtain ⟨_, k, h2, h⟩ := bindP_inv h
      obtain ⟨_, k, h3, h⟩ := bindP_inv h
      have := exprT_siz _ _ _ h2; have := expectP_adv h3; cases h; simp only [stSz, stsSz, exsSz]; omega
    · obtain ⟨_, k, h3, h⟩ := bindP_inv h
      have := expectP_adv h3; cases h; simp only [stSz, stsSz, exsSz]; omega
  split at h
  · unfold ifP at h
    obtain ⟨_, k, h1, h⟩ := bindP_inv h
    obtain ⟨_, k, h2, h⟩ := bindP_inv h
    have := condP_siz h1; have := hB _ _ _ h2
    split at h
    · obtain ⟨_, k, h3, h⟩ := bindP_inv h
      have := hB _ _ _ h3; cases h; simp only [stSz, stsSz, exsSz]; omega
    · cases h; simp only [stSz, stsSz, exsSz]; omega
  split at h
  · unfold whileP at h
    obtain ⟨_, k, h1, h⟩ := bindP_inv h
    obtain ⟨_, k, h2, h⟩ := bindP_inv h
    have := condP_siz h1; have := hB _ _ _ h2; cases h; simp only [stSz, stsSz, exsSz]; omega
  split at h
  · unfold tryP at h
    obtain ⟨_, k, h1, h⟩ := bindP_inv h
    obtain ⟨_, k, h2, h⟩ := bindP_inv h
    obtain ⟨_, k, h3, h⟩ := bindP_inv h
    obtain ⟨_, k, h4, h⟩ := bindP_inv h
    obtain ⟨_, k, h5, h⟩ := bindP_inv h
    obtain ⟨_, k, h6, h⟩ := bindP_inv h
    have := hB _ _ _ h1; have := expectP_adv h2; have := expectP_adv h3; have := typedP_adv h4; have := expectP_adv h5; have := hB _ _ _ h6; cases h; simp only [stSz, stsSz, exsSz]; omega
  split at h
  · unfold throwP at h
    obtain ⟨_, k, h2, h⟩ := bindP_inv h
    obtain ⟨_, k, h3, h⟩ := bindP_inv h
    have := exprT_siz _ _ _ h2; have := expectP_adv h3; cases h; simp only [stSz, stsSz, exsSz]; omega
  split at h
  · unfold returnP at h
    split at h
    · cases h; simp only [stSz, stsSz, exsSz]; omega
    · obtain ⟨_, k, h2, h⟩ := bindP_inv h
      obtain ⟨_, k, h3, h⟩ := bindP_inv h
      have := exprT_siz _ _ _ h2; have := expectP_adv h3; cases h; simp only [stSz, stsSz, exsSz]; omega
  exact simpleP_siz _ _ _ h
theorem blockP_siz : ∀ f, SizB (blockP ts f) := by
  intro f
  induction f with
  | zero => intro i r j h; cases h
  | succ f ih => exact blockW_siz (stmtW_siz ih)
def MeZ (j : Nat) (m : Me) : Prop := stsSz m.body ≤ j ∧ m.params.length ≤ j
theorem methodP_siz {i j : Nat} {m : Me} (h : methodP ts i = .ok (m, j)) : MeZ j m := by
  unfold methodP at h
  obtain ⟨_, k, h1, h⟩ := bindP_inv h
  obtain ⟨_, k, h2, h⟩ := bindP_inv h
  obtain ⟨_, k, h3, h⟩ := bindP_inv h
  obtain ⟨_, k, h4, h⟩ := bindP_inv h
  obtain ⟨_, k, h5, h⟩ := bindP_inv h
  obtain ⟨_, k, h6, h⟩ := bindP_inv h
  have := blockP_siz _ _ _ _ h6
  have hp := paramsP_len h4; have := resultP_adv h5; have := blockP_adv _ _ _ _ h6; cases h; exact ⟨by simp only; omega, by simp only; omega⟩
theorem MeZ.mono {j j' : Nat} {m : Me} (h : MeZ j m) (hj : j ≤ j') : MeZ j' m := ⟨Nat.le_trans h.1 hj, Nat.le_trans h.2 hj⟩
theorem methodsLoop_siz : ∀ n acc i r j, methodsLoop ts n acc i = .ok (r, j) → (∀ m ∈ acc, MeZ i m) → ∀ m ∈ r, MeZ j m := by
  intro n
  induction n with
  | zero => intro acc i r j h; cases h
  | succ n ih =>
    intro acc i r j h ha
    unfold methodsLoop at h; split at h
    · obtain ⟨e, k, h1, h⟩ := bindP_inv h
      have h2 := methodP_siz h1
      have h3 := methodP_adv _ _ _ h1
      refine ih _ _ _ _ h fun m hm => ?_
      rcases List.mem_append.1 hm with hm | hm
      · exact (ha m hm).mono (by omega)
      · simp at hm; subst hm; exact h2
    · cases h; exact ha
theorem classP_siz {i j : Nat} {c : Cl} (h : classP ts i = .ok (c, j)) : ∀ m ∈ c.methods, MeZ j m := by
  unfold classP at h
  obtain ⟨_, k, h1, h⟩ := bindP_inv h
  obtain ⟨_, k, h2, h⟩ := bindP_inv h
  obtain ⟨_, k, h3, h⟩ := bindP_inv h
  obtain ⟨_, k, h4, h⟩ := bindP_inv h
  obtain ⟨_, k, h5, h⟩ := bindP_inv h
  obtain ⟨_, k6, h6, h⟩ := bindP_inv h
  obtain ⟨_, k, h7, h⟩ := bindP_inv h
  have h8 := methodsLoop_siz _ _ _ _ _ h6 (fun m hm => by cases hm)
  have := expectP_adv h7
  cases h
  exact fun m hm => (h8 m hm).mono (by omega)
end
end Lx
end Go.Proofs.YthjonkommphkkaaGreatDoor
set_option linter.unusedSimpArgs false
set_option linter.unusedVariables false
namespace Go.Proofs.YthjonkommphkkaaGreatDoor
open Lx Ax
theorem dropAt {α : Type} {l : List α} {i : Nat} (h : i < l.length) : l.drop i = l[i] :: l.drop (i + 1) := List.drop_eq_getElem_cons h
theorem dropEnd {α : Type} {l : List α} {i : Nat} (h : i ≤ l.length) (h2 : ¬ i < l.length) : l.drop i = [] := List.drop_eq_nil_of_le (by omega)
def maxI (x y : Int) : Int := if y > x then y else x
theorem maxI_nat (a b : Nat) : maxI (a : Int) (b : Int) = ((max a b : Nat) : Int) := by unfold maxI; split <;> omega
theorem bl_len {H : Heap} {t : TypeId} {x : CV} : bltA Tryz.prog H .len [t] [x] = lenA Tryz.prog H t x := rfl
theorem bl_max {H : Heap} {t : List TypeId} {k k' : IntKind} {x y : Int} : bltA Tryz.prog H .max t [.int k x, .int k' y] = some (.int k (maxI x y)) := rfl
end Go.Proofs.YthjonkommphkkaaGreatDoor
namespace Go.Proofs.YthjonkommphkkaaGreatDoor
open Lx Ax Go.RowKit
attribute [local simp] stepS Ax.stepT Dl.on qstep astep estep rd putE over argE ofV ofS loadA pickCells isAggD faddA fieldA partA iaddA idxA bnd binA intA strA unA convA lenA mapOf lookA findK keyD scalD storeA mupA srcA srcD upd drp Dl.hp Dl.nx CV.cs CV.one buildA placesA fillA zrep tasA ifaceD eqA eqFs eqIs range2 copyA nbeq nble nblt decEq beqI bneI beqS bneS isED Int.ofNat_inj List.getElem?_map List.getElem?_eq_getElem Option.map_some ti_int ti_i64 ti_str ti_bool ti_Exs ti_Ex ti_St ti_Sts ti_Fld ti_Flds ti_Me ti_Mes ti_Cl ti_Cls ti_So gd gdB callA resA op1
attribute [local simp] one1 cvE_eq cvS_eq exk exn exo exm exks drR drp nu1 nu2 nu3 nu4 nu5 nu6 nu7 nu8 nu9 nu10 nu11 nu12 nu13 bl_len bl_max maxI_nat cvM cvC
theorem up1 {i n : Nat} (h : i < n) (hn : n ≤ 1000000) : IntKind.i64.wrap ((i : Int) + 1) = (i : Int) + 1 := by rw [IntKind.wrap_i64]; omega
set_option maxRecDepth 10000 in
set_option maxHeartbeats 16000000 in
theorem rl_depth : ∀ d e, exSz e ≤ d → d ≤ 1000000 → FCall1 Tryz.prog paG 44 [.agg (cvE e)] (.int .i64 (exDepth e)) := by
  intro d
  induction d with
  | zero => intro e h; have := exSz_pos e; omega
  | succ d ih =>
    intro e hd hb
    refine FCall.one paG_pu (by simp only [puL, puV, puE]; rfl) rfl ?_
    refine FCall.ofBody Tryz.func44 rfl rfl fun nx => ?_
    have hde : exDepth e = exsDepth e.kids + 1 := by cases e; rw [exDepth]; rfl
    have hse : exSz e = exsSz e.kids + 1 := by cases e; rw [exSz]; rfl
    have hln := exsSz_len e.kids
    have hdp := exsDepth_sz e.kids
    obtain ⟨R, hR⟩ : ∃ R, R = exsDepth e.kids := ⟨_, rfl⟩
    rw [hde, ← hR]
    have hwR : IntKind.i64.wrap ((R : Int) + 1) = (R : Int) + 1 := by rw [IntKind.wrap_i64]; omega
    refine gW ?_
    refine AWp.countO e.kids.length [3, 4] 5 (fun i v H nx1 => ∃ n : Nat, v 3 = .int .i64 n ∧ v 4 = .int .i64 i ∧ H nx = some (.cells (cvE e)) ∧ R = max n (exsDepth (e.kids.drop i))) ⟨0, rfl, rfl, by simp [upd], by rw [hR]; simp⟩ ?_
    clear hR
    rintro i v H nx1 hi hn1 ⟨n, h3, h4, hH, hR⟩
    by_cases hb2 : i < e.kids.length
    · have hwi := up1 hb2 (by omega)
      rw [dropAt hb2, exsDepth, ← Nat.max_assoc] at hR
      have hc := ih e.kids[i] (by have := exsSz_mem (List.getElem_mem hb2); omega) (by omega)
      clear hn1
      refine gW ?_
      (first | refine AOpl.call1 rfl (by first | rfl | (simp [*]; done)) (by simp [*]) (by kernel_rfl) (hc) ?_ | refine ASl.callg (by first | rfl | (simp [*]; done)) (by simp [*]) (by kernel_rfl) (hc) ?_)
      refine gW ?_
      exact ⟨by ((repeat (first | exact Keeps.base _ _ _ _ | (with_reducible exact Keeps.refl _ _ _) | (refine Keeps.put rfl ?_) | (refine Keeps.over' rfl rfl ?_)))), hb2, _, by first | rfl | (simp [putE, over]; done), by simp [putE, over], by simp [hH], hR⟩
    · rw [dropEnd hi hb2, exsDepth, Nat.max_zero] at hR
      clear hn1
      obtain rfl : R = n := hR
      refine gW ?_
      (refine ⟨_, (by simp [*]; rfl), ?_⟩; (try simp only [packA]))
      simp
set_option maxRecDepth 10000 in
set_option maxHeartbeats 16000000 in
theorem rl_count : ∀ d l, stsSz l ≤ d → d ≤ 1000000 → FCall1 Tryz.prog paG 75 [.lst (l.map cvS)] (.int .i64 (stsCount l)) := by
  intro d
  induction d with
  | zero =>
    intro l h hb
    have := stsSz_len l
    obtain rfl : l = [] := List.length_eq_zero_iff.mp (by omega)
    refine FCall.one paG_pu rfl rfl ?_
    refine FCall.ofBody Tryz.func75 rfl rfl fun nx => ?_
    refine gW ?_
    refine AWp.countO 0 [3, 4] 5 (fun i v H nx1 => v 3 = .int .i64 0 ∧ v 4 = .int .i64 i) ⟨rfl, rfl⟩ ?_
    rintro i v H nx1 hi hn1 ⟨h3, h4⟩
    obtain rfl : i = 0 := by omega
    refine gW ?_
    (refine ⟨_, (by simp [*]; rfl), ?_⟩; (try simp only [packA]))
    rfl
  | succ d ih =>
    intro l hd hb
    refine FCall.one paG_pu (by simp only [puL, puV, puSs]; rfl) rfl ?_
    refine FCall.ofBody Tryz.func75 rfl rfl fun nx => ?_
    have hln := stsSz_len l
    have hdp := stsCount_sz l
    obtain ⟨R, hR⟩ : ∃ R, R = stsCount l := ⟨_, rfl⟩
    rw [← hR] at hdp ⊢
    refine gW ?_
    refine AWp.countO l.length [3, 4] 5 (fun i v H nx1 => ∃ n : Nat, v 3 = .int .i64 n ∧ v 4 = .int .i64 i ∧ R = n + stsCount (l.drop i)) ⟨0, rfl, rfl, by rw [hR]; simp⟩ ?_
    clear hR
    rintro i v H nx1 hi hn1 ⟨n, h3, h4, hR⟩
    by_cases hb2 : i < l.length
    · have hwi := up1 hb2 (by omega)
      rw [dropAt hb2, stsCount] at hR
      have hsz := stsSz_mem (List.getElem_mem hb2)
      have hst : stSz l[i] = exsSz l[i].p3 + stsSz l[i].p4 + stsSz l[i].p5 + 1 := by cases l[i]; rw [stSz]; rfl
      have hct : stCount l[i] = stsCount l[i].p4 + stsCount l[i].p5 := by cases l[i]; rw [stCount]; rfl
      have hc := ih l[i].p4 (by omega) (by omega)
      have hc2 := ih l[i].p5 (by omega) (by omega)
      obtain ⟨a, ha⟩ : ∃ a, a = stsCount l[i].p4 := ⟨_, rfl⟩
      obtain ⟨b, hbb⟩ : ∃ a, a = stsCount l[i].p5 := ⟨_, rfl⟩
      rw [hct, ← ha, ← hbb] at hR
      rw [← ha] at hc
      rw [← hbb] at hc2
      have w1 : IntKind.i64.wrap (1 + (a : Int)) = 1 + (a : Int) := by rw [IntKind.wrap_i64]; omega
      have w2 : IntKind.i64.wrap (1 + (a : Int) + (b : Int)) = 1 + (a : Int) + (b : Int) := by rw [IntKind.wrap_i64]; omega
      have w3 : IntKind.i64.wrap ((n : Int) + (1 + (a : Int) + (b : Int))) = (n : Int) + (1 + (a : Int) + (b : Int)) := by rw [IntKind.wrap_i64]; omega
      clear hn1 ha hbb hct hst
      refine gW ?_
      (first | refine AOpl.call1 rfl (by first | rfl | (simp [*]; done)) (by simp [*]) (by kernel_rfl) (hc) ?_ | refine ASl.callg (by first | rfl | (simp [*]; done)) (by simp [*]) (by kernel_rfl) (hc) ?_)
      refine gW ?_
      (first | refine AOpl.call1 rfl (by first | rfl | (simp [*]; done)) (by simp [*]) (by kernel_rfl) (hc2) ?_ | refine ASl.callg (by first | rfl | (simp [*]; done)) (by simp [*]) (by kernel_rfl) (hc2) ?_)
      refine gW ?_
      exact ⟨by ((repeat (first | exact Keeps.base _ _ _ _ | (with_reducible exact Keeps.refl _ _ _) | (refine Keeps.put rfl ?_) | (refine Keeps.over' rfl rfl ?_)))), hb2, n + (1 + a + b), by simp [putE, over], by simp [putE, over], by omega⟩
    · rw [dropEnd hi hb2, stsCount, Nat.add_zero] at hR
      clear hn1
      obtain rfl : R = n := hR
      refine gW ?_
      (refine ⟨_, (by simp [*]; rfl), ?_⟩; (try simp only [packA]))
set_option maxRecDepth 10000 in
set_option maxHeartbeats 16000000 in
theorem rl_deep : ∀ d l, stsSz l ≤ d → d ≤ 1000000 → FCall1 Tryz.prog paG 76 [.lst (l.map cvS)] (.int .i64 (stsDepth l)) := by
  intro d
  induction d with
  | zero =>
    intro l h hb
    have := stsSz_len l
    obtain rfl : l = [] := List.length_eq_zero_iff.mp (by omega)
    refine FCall.one paG_pu rfl rfl ?_
    refine FCall.ofBody Tryz.func76 rfl rfl fun nx => ?_
    refine gW ?_
    refine AWp.countO 0 [3, 4, 5, 6] 7 (fun i v H nx1 => v 3 = .int .i64 0 ∧ v 4 = .int .i64 i) ⟨rfl, rfl⟩ ?_
    rintro i v H nx1 hi hn1 ⟨h3, h4⟩
    obtain rfl : i = 0 := by omega
    refine gW ?_
    (refine ⟨_, (by simp [*]; rfl), ?_⟩; (try simp only [packA]))
    rfl
  | succ d ih =>
    intro l hd hb
    refine FCall.one paG_pu (by simp only [puL, puV, puSs]; rfl) rfl ?_
    refine FCall.ofBody Tryz.func76 rfl rfl fun nx => ?_
    have hln := stsSz_len l
    have hdp := stsDepth_sz l
    obtain ⟨R, hR⟩ : ∃ R, R = stsDepth l := ⟨_, rfl⟩
    rw [← hR] at hdp ⊢
    refine gW ?_
    refine AWp.countO l.length [3, 4, 5, 6] 7 (fun i v H nx1 => ∃ n : Nat, v 3 = .int .i64 n ∧ v 4 = .int .i64 i ∧ R = max n (stsDepth (l.drop i))) ⟨0, rfl, rfl, by rw [hR]; simp⟩ ?_
    clear hR
    rintro i v H nx1 hi hn1 ⟨n, h3, h4, hR⟩
    by_cases hb2 : i < l.length
    · have hwi := up1 hb2 (by omega)
      rw [dropAt hb2, stsDepth] at hR
      have hsz := stsSz_mem (List.getElem_mem hb2)
      have hst : stSz l[i] = exsSz l[i].p3 + stsSz l[i].p4 + stsSz l[i].p5 + 1 := by cases l[i]; rw [stSz]; rfl
      have hct : stDepth l[i] = max (max (exsDepth l[i].p3) (stsDepth l[i].p4)) (stsDepth l[i].p5) + 1 := by cases l[i]; rw [stDepth]; rfl
      have hc := ih l[i].p4 (by omega) (by omega)
      have hc2 := ih l[i].p5 (by omega) (by omega)
      have z1 := stsDepth_sz l[i].p4
      have z2 := stsDepth_sz l[i].p5
      have z3 := exsDepth_sz l[i].p3
      have z4 := exsSz_len l[i].p3
      obtain ⟨Rk, hRk⟩ : ∃ Rk, Rk = max (max (stsDepth l[i].p4) (stsDepth l[i].p5)) (exsDepth l[i].p3) := ⟨_, rfl⟩
      have hR2 : R = max (max n (Rk + 1)) (stsDepth (l.drop (i + 1))) := by rw [hR, hct, hRk]; omega
      have hwk : IntKind.i64.wrap ((Rk : Int) + 1) = (Rk : Int) + 1 := by rw [IntKind.wrap_i64]; omega
      clear hR hct hn1
      refine gW ?_
      (first | refine AOpl.call1 rfl (by first | rfl | (simp [*]; done)) (by simp [*]) (by kernel_rfl) (hc) ?_ | refine ASl.callg (by first | rfl | (simp [*]; done)) (by simp [*]) (by kernel_rfl) (hc) ?_)
      refine gW ?_
      (first | refine AOpl.call1 rfl (by first | rfl | (simp [*]; done)) (by simp [*]) (by kernel_rfl) (hc2) ?_ | refine ASl.callg (by first | rfl | (simp [*]; done)) (by simp [*]) (by kernel_rfl) (hc2) ?_)
      refine gW ?_
      refine AWp.countO l[i].p3.length [5, 6] 26 (fun j v2 H nx2 => ∃ k : Nat, v2 5 = .int .i64 k ∧ v2 6 = .int .i64 j ∧ Rk = max k (exsDepth (l[i].p3.drop j))) ⟨max (stsDepth l[i].p4) (stsDepth l[i].p5), by simp [putE, over], by simp [putE, over], by rw [hRk]; simp⟩ ?_
      clear hRk hc hc2
      rintro j v2 H2 nx2 hj hn2 ⟨k, h5, h6, hRk⟩
      by_cases hb3 : j < l[i].p3.length
      · have hwj := up1 hb3 (by omega)
        rw [dropAt hb3, exsDepth, ← Nat.max_assoc] at hRk
        have hc := rl_depth (exSz l[i].p3[j]) l[i].p3[j] (Nat.le_refl _) (by have := exsSz_mem (List.getElem_mem hb3); omega)
        clear hn2
        refine gW ?_
        (first | refine AOpl.call1 rfl (by first | rfl | (simp [*]; done)) (by simp [*]) (by kernel_rfl) (hc) ?_ | refine ASl.callg (by first | rfl | (simp [*]; done)) (by simp [*]) (by kernel_rfl) (hc) ?_)
        refine gW ?_
        exact ⟨by ((repeat (first | exact Keeps.base _ _ _ _ | (with_reducible exact Keeps.refl _ _ _) | (refine Keeps.put rfl ?_) | (refine Keeps.over' rfl rfl ?_)))), hb3, _, by first | rfl | (simp [putE, over]; done), by simp [putE, over], hRk⟩
      · rw [dropEnd hj hb3, exsDepth, Nat.max_zero] at hRk
        clear hn2
        obtain rfl : Rk = k := hRk
        refine gW ?_
        exact ⟨by ((repeat (first | exact Keeps.base _ _ _ _ | (with_reducible exact Keeps.refl _ _ _) | (refine Keeps.put rfl ?_) | (refine Keeps.over' rfl rfl ?_)))), hb2, max n (Rk + 1), by simp [putE, over, ← maxI_nat], by simp [putE, over], hR2⟩
    · rw [dropEnd hi hb2, stsDepth, Nat.max_zero] at hR
      clear hn1
      obtain rfl : R = n := hR
      refine gW ?_
      (refine ⟨_, (by simp [*]; rfl), ?_⟩; (try simp only [packA]))
set_option maxRecDepth 10000 in
set_option maxHeartbeats 16000000 in
theorem rl_method (m : Me) (hm : stsSz m.body ≤ 1000000) : FCall1 Tryz.prog paG 35 [.agg (cvM m)] (.int .i64 (methodLim m)) := by
  refine FCall.one paG_pu (by simp only [puL, puV, puM]; rfl) rfl ?_
  refine FCall.ofBody Tryz.func35 rfl rfl fun nx => ?_
  have hc := rl_count _ m.body (Nat.le_refl _) hm
  have hd := rl_deep _ m.body (Nat.le_refl _) hm
  unfold methodLim
  by_cases h1 : 6 < m.params.length
  · rw [if_pos (.inl h1)]
    have h1' : (6 : Int) < m.params.length := by omega
    refine gW ?_
    (refine ⟨_, (by simp [*]; rfl), ?_⟩; (try simp only [packA]))
    rfl
  · have h1' : ¬ (6 : Int) < m.params.length := by omega
    by_cases h2 : 200 < stsCount m.body
    · rw [if_pos (.inr h2)]
      have h2' : (200 : Int) < stsCount m.body := by omega
      refine gW ?_
      (first | refine AOpl.call1 rfl (by first | rfl | (simp [*]; done)) (by simp [*]) (by kernel_rfl) (hc) ?_ | refine ASl.callg (by first | rfl | (simp [*]; done)) (by simp [*]) (by kernel_rfl) (hc) ?_)
      refine gW ?_
      (refine ⟨_, (by simp [*]; rfl), ?_⟩; (try simp only [packA]))
      rfl
    · have h2' : ¬ (200 : Int) < stsCount m.body := by omega
      rw [if_neg (by omega)]
      by_cases h3 : 32 < stsDepth m.body
      · rw [if_pos h3]
        have h3' : (32 : Int) < stsDepth m.body := by omega
        refine gW ?_
        (first | refine AOpl.call1 rfl (by first | rfl | (simp [*]; done)) (by simp [*]) (by kernel_rfl) (hc) ?_ | refine ASl.callg (by first | rfl | (simp [*]; done)) (by simp [*]) (by kernel_rfl) (hc) ?_)
        refine gW ?_
        (first | refine AOpl.call1 rfl (by first | rfl | (simp [*]; done)) (by simp [*]) (by kernel_rfl) (hd) ?_ | refine ASl.callg (by first | rfl | (simp [*]; done)) (by simp [*]) (by kernel_rfl) (hd) ?_)
        refine gW ?_
        (refine ⟨_, (by simp [*]; rfl), ?_⟩; (try simp only [packA]))
        rfl
      · rw [if_neg h3]
        have h3' : ¬ (32 : Int) < stsDepth m.body := by omega
        refine gW ?_
        (first | refine AOpl.call1 rfl (by first | rfl | (simp [*]; done)) (by simp [*]) (by kernel_rfl) (hc) ?_ | refine ASl.callg (by first | rfl | (simp [*]; done)) (by simp [*]) (by kernel_rfl) (hc) ?_)
        refine gW ?_
        (first | refine AOpl.call1 rfl (by first | rfl | (simp [*]; done)) (by simp [*]) (by kernel_rfl) (hd) ?_ | refine ASl.callg (by first | rfl | (simp [*]; done)) (by simp [*]) (by kernel_rfl) (hd) ?_)
        refine gW ?_
        (refine ⟨_, (by simp [*]; rfl), ?_⟩; (try simp only [packA]))
        rfl
set_option maxRecDepth 10000 in
set_option maxHeartbeats 16000000 in
theorem rl_class (c : Cl) (hm : ∀ m ∈ c.methods, stsSz m.body ≤ 1000000) : FCall1 Tryz.prog paG 29 [.agg (cvC c)] (.int .i64 (classLim c)) := by
  refine FCall.one paG_pu (by simp only [puL, puV, puC]; rfl) rfl ?_
  refine FCall.ofBody Tryz.func29 rfl rfl fun nx => ?_
  unfold classLim
  by_cases h1 : 16 < c.fields.length
  · rw [if_pos (.inl h1)]
    have h1' : (16 : Int) < c.fields.length := by omega
    refine gW ?_
    (refine ⟨_, (by simp [*]; rfl), ?_⟩; (try simp only [packA]))
    rfl
  have h1' : ¬ (16 : Int) < c.fields.length := by omega
  by_cases h2 : 16 < c.methods.length
  · rw [if_pos (.inr h2)]
    have h2' : (16 : Int) < c.methods.length := by omega
    refine gW ?_
    (refine ⟨_, (by simp [*]; rfl), ?_⟩; (try simp only [packA]))
    rfl
  have h2' : ¬ (16 : Int) < c.methods.length := by omega
  rw [if_neg (by omega)]
  obtain ⟨R, hR⟩ : ∃ R, R = firstLim methodLim c.methods := ⟨_, rfl⟩
  rw [← hR]
  refine gW ?_
  refine AWp.countO c.methods.length [3, 4] 5 (fun i v H nx1 => v 3 = .int .i64 i ∧ H nx = some (.cells (cvC c)) ∧ R = firstLim methodLim (c.methods.drop i)) ⟨rfl, by simp [upd, cvC], by rw [hR]; simp⟩ ?_
  clear hR
  rintro i v H nx1 hi hn1 ⟨h3, hH, hR⟩
  by_cases hb2 : i < c.methods.length
  · have hwi := up1 hb2 (by omega)
    rw [dropAt hb2, firstLim] at hR
    have hc := rl_method c.methods[i] (hm _ (List.getElem_mem hb2))
    clear hn1 h1' h2'
    by_cases h0 : methodLim c.methods[i] = 0
    · rw [if_neg (by rw [h0]; simp)] at hR
      simp only [h0] at hc
      refine gW ?_
      (first | refine AOpl.call1 rfl (by first | rfl | (simp [*]; done)) (by simp [*]) (by kernel_rfl) (hc) ?_ | refine ASl.callg (by first | rfl | (simp [*]; done)) (by simp [*]) (by kernel_rfl) (hc) ?_)
      refine gW ?_
      exact ⟨by ((repeat (first | exact Keeps.base _ _ _ _ | (with_reducible exact Keeps.refl _ _ _) | (refine Keeps.put rfl ?_) | (refine Keeps.over' rfl rfl ?_)))), hb2, by simp [putE, over], by simp [hH], hR⟩
    · rw [if_pos h0] at hR
      have h0' : ¬ (methodLim c.methods[i] : Int) = 0 := by omega
      rw [hR]
      refine gW ?_
      (first | refine AOpl.call1 rfl (by first | rfl | (simp [*]; done)) (by simp [*]) (by kernel_rfl) (hc) ?_ | refine ASl.callg (by first | rfl | (simp [*]; done)) (by simp [*]) (by kernel_rfl) (hc) ?_)
      refine gW ?_
      (refine ⟨_, (by simp [*]; rfl), ?_⟩; (try simp only [packA]))
  · rw [dropEnd hi hb2, firstLim] at hR
    clear hn1 h1' h2'
    rw [hR]
    refine gW ?_
    (refine ⟨_, (by simp [*]; rfl), ?_⟩; (try simp only [packA]))
    rfl
end Go.Proofs.YthjonkommphkkaaGreatDoor
