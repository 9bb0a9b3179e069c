/-
  Plain Lean: tokens stand in order.
-/
import Derived.Test.YthjonkommphkkaaGreatDoorParFirstP
import Derived.Test.YthjonkommphkkaaGreatDoorHasToks
namespace Go.Proofs.YthjonkommphkkaaGreatDoor
open Lx Go.RowKit
namespace Lx
theorem toks_lt : ∀ f b p l ts, toks f b p l = .ok ts → ∀ i j (hi : i < j) (hj : j < ts.length), ts[i].pos < ts[j].pos := by
  intro f
  induction f with
  | zero => intro b p l ts h; cases h
  | succ f ih =>
    intro b p l ts h
    simp only [toks] at h
    generalize skipB b l = r at h
    cases r with
    | nil => cases h; intro i j hi hj; simp at hj; omega
    | cons c t =>
      simp only at h
      cases ho : oneTok (c :: t) with
      | bad e => rw [ho] at h; cases h
      | ok k m n =>
        rw [ho] at h
        simp only at h
        have hb := oneTok_bounds ho
        generalize hq : toks f false (p + (l.length - (c :: t).length) + m) ((c :: t).drop m) = x at h
        cases x with
        | error y => cases h
        | ok us =>
          cases h
          intro i j hi hj
          obtain ⟨j, rfl⟩ : ∃ j', j = j' + 1 := ⟨j - 1, by omega⟩
          simp only [List.length_append, List.length_cons, List.length_nil] at hj
          have hju : j < us.length := by omega
          have e1 : ([(⟨k, p + (l.length - (c :: t).length), (c :: t).take m, n⟩ : Tok)] ++ us)[j + 1]'(by simp; omega) = us[j] := by simp
          rw [e1]
          cases i with
          | zero => have := toks_pos _ _ _ _ _ hq _ (List.getElem_mem hju); simp only [List.cons_append, List.getElem_cons_zero]; omega
          | succ i =>
            have e2 : ([(⟨k, p + (l.length - (c :: t).length), (c :: t).take m, n⟩ : Tok)] ++ us)[i + 1]'(by simp; omega) = us[i] := by simp
            rw [e2]
            exact ih _ _ _ _ hq i j (by omega) hju
theorem tokens_lt {l : Bytes} {ts : List Tok} (h : tokensOf l = .ok ts) {i j : Nat} (hi : i < j) (hj : j < ts.length) : (tk ts i).pos < (tk ts j).pos := by
  rw [tk_get _ _ (by omega), tk_get _ _ hj]
  exact toks_lt _ _ _ _ _ (tokensOf_len h).2 i j hi hj
theorem endOf_succ (ts : List Tok) (n : Nat) : endOf ts (n + 1) = (tk ts n).pos + (tk ts n).text.length := by simp [endOf]
end Lx
end Go.Proofs.YthjonkommphkkaaGreatDoor
