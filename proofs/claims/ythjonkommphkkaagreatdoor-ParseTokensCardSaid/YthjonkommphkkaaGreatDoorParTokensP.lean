/-
  Plain Lean: the result depends on the kinds, texts and values of the tokens alone.
-/
import Derived.Test.YthjonkommphkkaaGreatDoorParFirstP
import Derived.Test.YthjonkommphkkaaGreatDoorParShift
import Derived.Test.YthjonkommphkkaaGreatDoorLexJoinsPlain
namespace Go.Proofs.YthjonkommphkkaaGreatDoor
namespace Lx
theorem SameToks.sh {ts us : List Tok} (h : SameToks ts us) : Sh ts us 0 := by
  have hl := h.length
  have hg : ∀ i, (tk us i).kind = (tk ts i).kind ∧ (tk us i).text = (tk ts i).text ∧ (tk us i).n = (tk ts i).n := by
    intro i
    by_cases hi : i < ts.length
    · have h1 := h.get i hi (by omega)
      rw [tk_get _ _ hi, tk_get _ _ (by omega)]
      exact ⟨h1.1.symm, h1.2.1.symm, h1.2.2.symm⟩
    · rw [tk_out (by omega), tk_out (by omega)]
      exact ⟨rfl, rfl, rfl⟩
  exact ⟨fun i => (hg i).1, fun i => (hg i).2.1, fun i => (hg i).2.2, by omega⟩
theorem programP_same {ts us : List Tok} (h : SameToks ts us) : programP us 0 = programP ts 0 := by
  have hl := h.length
  have h1 := classesLoop_sh h.sh [] (ts.length + 1) (us.length + 1) [] 0 (by omega) (by omega) (by omega) (by omega)
  unfold programP
  simp only [List.nil_append, Nat.zero_add] at h1
  rw [h1]
  cases classesLoop ts (ts.length + 1) [] 0 with
  | error e => rfl
  | ok x => obtain ⟨a, j⟩ := x; rfl
/-- What ParseTokens asks. -/
theorem parse_tokens {s t : Bytes} {ts us : List Tok} (h1 : tokensOf s = .ok ts) (h2 : tokensOf t = .ok us) (h : SameToks ts us) :
    (∃ c, programR s = .ok c ∧ programR t = .ok c) ∨ (∃ e, e ≠ 2 ∧ programR s = .error (0, e) ∧ programR t = .error (0, e)) ∨ ∃ q, q < ts.length ∧ programR s = .error ((tk ts q).pos, 2) ∧ programR t = .error ((tk us q).pos, 2) := by
  have hp := programP_same h
  have hin := programP_in (twf_of h1)
  have hk := h.sh.kind
  unfold programR readR
  rw [h1, h2]
  simp only [hp]
  cases he : programP ts 0 with
  | error q =>
    rw [he] at hin
    exact .inr (.inr ⟨q, hin, rfl, rfl⟩)
  | ok x =>
    obtain ⟨a, j⟩ := x
    rw [he] at hin
    have hkj := hk j
    rw [Nat.add_zero] at hkj
    simp only [hkj]
    by_cases h5 : (tk ts j).kind = 5
    · simp only [h5, if_true]
      by_cases h0 : sourceLim a = 0
      · exact .inl ⟨a, by simp [h0], by simp [h0]⟩
      · exact .inr (.inl ⟨sourceLim a, by rcases sourceLim_vals a with h1 | h1 | h1 <;> omega, by simp [h0], by simp [h0]⟩)
    · simp only [h5, if_false]
      exact .inr (.inr ⟨j, hin, rfl, rfl⟩)
end Lx
end Go.Proofs.YthjonkommphkkaaGreatDoor
