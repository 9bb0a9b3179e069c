/-
  A slice of tokens in memory, read as a list.
-/
import Derived.Test.YthjonkommphkkaaDoorLexTokens
namespace Go.Proofs.YthjonkommphkkaaDoor
open Lx Go.RowKit
/-- A slice value that reads as a list of tokens. -/
def HasToks (w : World) (v : Value) (ts : List Tok) : Prop :=
  (v = .slice none 0 0 ∧ ts = []) ∨ ∃ g cap, v = .slice (some ⟨g, 0, none⟩) ts.length cap ∧ ts.length ≤ maxLen ∧ ∀ i (h : i < ts.length), w.cell? ⟨g, i * 4, none⟩ = some (.int .i64 (ts[i].kind : Int)) ∧ w.cell? ⟨g, i * 4 + 1, none⟩ = some (.int .i64 (ts[i].pos : Int)) ∧
    w.cell? ⟨g, i * 4 + 2, none⟩ = some (.string (strOf ts[i].text)) ∧ w.cell? ⟨g, i * 4 + 3, none⟩ = some (.int .i64 (ts[i].n : Int))
theorem add_at (g k : Nat) : (⟨g, 0, none⟩ : Addr).add k = ⟨g, k, none⟩ := by
  unfold Addr.add; split
  · rename_i h; rw [h]
  · simp
theorem toksCells_get (ts : List Tok) (i : Nat) (h : i < ts.length) : ∀ j, j < 4 → (toksCells ts)[i * 4 + j]? = (tokCells ts[i])[j]? := by
  induction ts generalizing i with
  | nil => simp at h
  | cons t r ih =>
    intro j hj
    have e : toksCells (t :: r) = tokCells t ++ toksCells r := rfl
    have hl : (tokCells t).length = 4 := rfl
    rw [e]
    cases i with
    | zero => rw [List.getElem?_append_left (by omega)]; simp
    | succ i =>
      rw [List.getElem?_append_right (by omega), hl, show (i + 1) * 4 + j - 4 = i * 4 + j from by omega]
      exact ih i (by simpa using h) j hj
theorem HasToks.of_own {w : World} {B : Nat} {v : Value} {ts : List Tok} (h : w.ownsRow B 37 4 v ts.length (toksCells ts)) : HasToks w v ts := by
  obtain ⟨_, h2⟩ := h
  rcases h2 with ⟨h3, h4⟩ | ⟨g, cap, cur, hv, hB, hg, hn, hm, hcs, htk⟩
  · exact .inl ⟨h3, List.length_eq_zero_iff.1 h4⟩
  · refine .inr ⟨g, cap, hv, by omega, fun i hi => ?_⟩
    have key : ∀ j, j < 4 → w.cell? ⟨g, i * 4 + j, none⟩ = (tokCells ts[i])[j]? := by
      intro j hj
      have h5 := toksCells_get ts i hi j hj
      rw [← htk, List.getElem?_take_of_lt (by omega)] at h5
      rw [← h5]
      simp [World.cell?, hg]
    exact ⟨key 0 (by omega), key 1 (by omega), key 2 (by omega), key 3 (by omega)⟩
theorem HasToks.below {w w' : World} {v : Value} {ts : List Tok} (h : HasToks w v ts) (hb : Below w.heap.size w w') : HasToks w' v ts := by
  rcases h with h | ⟨g, cap, hv, hm, hc⟩
  · exact .inl h
  · refine .inr ⟨g, cap, hv, hm, fun i hi => ?_⟩
    obtain ⟨h0, h1, h2, h3⟩ := hc i hi
    have hlt : g < w.heap.size := World.block_lt_of_cell? w _ h0
    exact ⟨(hb.cell (p := ⟨g, _, none⟩) hlt).trans h0, (hb.cell (p := ⟨g, _, none⟩) hlt).trans h1, (hb.cell (p := ⟨g, _, none⟩) hlt).trans h2, (hb.cell (p := ⟨g, _, none⟩) hlt).trans h3⟩
theorem HasToks.form {w : World} {v : Value} {ts : List Tok} (h : HasToks w v ts) : (ts = [] ∧ ∃ a cap, v = .slice a 0 cap) ∨ (0 < ts.length ∧ ∃ g cap, v = .slice (some ⟨g, 0, none⟩) ts.length cap ∧ ts.length ≤ maxLen ∧ ∀ i (h : i < ts.length), w.cell? ⟨g, i * 4, none⟩ = some (.int .i64 (ts[i].kind : Int)) ∧ w.cell? ⟨g, i * 4 + 1, none⟩ = some (.int .i64 (ts[i].pos : Int)) ∧
    w.cell? ⟨g, i * 4 + 2, none⟩ = some (.string (strOf ts[i].text)) ∧ w.cell? ⟨g, i * 4 + 3, none⟩ = some (.int .i64 (ts[i].n : Int))) := by
  rcases h with ⟨rfl, rfl⟩ | ⟨g, cap, rfl, hm, hc⟩
  · exact .inl ⟨rfl, _, _, rfl⟩
  · cases ts with
    | nil => exact .inl ⟨rfl, _, _, rfl⟩
    | cons t r => exact .inr ⟨by simp, g, cap, rfl, hm, hc⟩
end Go.Proofs.YthjonkommphkkaaDoor
