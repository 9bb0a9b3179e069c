/-
  Plain Lean: words and their tokens.
-/
import Derived.Test.YthjonkommphkkaaGreatDoorRefTokens
import Derived.Test.YthjonkommphkkaaGreatDoorLexIdentP
namespace Go.Proofs.YthjonkommphkkaaGreatDoor
open Lx Go.RowKit
namespace Lx
theorem skip_letter {c : UInt8} (t : Bytes) (h : isLetter c = true) : isSep c = false ∧ opens c t = false := by
  simp only [isLetter, decide_eq_true_eq] at h
  refine ⟨?_, ?_⟩
  · rw [isSep, decide_eq_false_iff_not]; omega
  · rw [opens, Bool.and_eq_false_iff]; left; rw [decide_eq_false_iff_not]; omega
/-- A word of at most 32 bytes is one token. -/
theorem tokens_word {c : UInt8} {t : Bytes} (h1 : isLetter c = true) (h2 : (c :: t).all isPart = true) (h3 : t.length < 32) :
    tokensOf (c :: t) = .ok [⟨if isKeyword (c :: t) then 2 else 1, 0, c :: t, 0⟩, ⟨5, (c :: t).length, [], 0⟩] := by
  have hs := (spanOf_all isPart (c :: t)).2 h2
  have ho : oneTok (c :: t) = .ok (if isKeyword (c :: t) then 2 else 1) (c :: t).length 0 := by
    simp only [oneTok, h1, if_true, wordTok, hs, List.take_length]
    rw [if_neg (by simp; omega)]
  obtain ⟨h4, h5⟩ := skip_letter t h1
  rw [tokensOf, if_neg (by simp; omega), lexAt_ok h4 h5 ho, List.drop_length, lexAt_nil, List.take_length]
  simp [after]
theorem kw_words : ∀ k ∈ kwList, ∃ c t, k = c :: t ∧ isLetter c = true ∧ (c :: t).all isPart = true ∧ t.length < 32 := by
  intro k hk
  have h : ∀ k ∈ kwList, (match k with | [] => false | c :: t => isLetter c && (c :: t).all isPart && decide (t.length < 32)) = true := by decide
  have := h k hk
  cases k with
  | nil => simp at this
  | cons c t =>
    simp only [Bool.and_eq_true, decide_eq_true_eq] at this
    exact ⟨c, t, rfl, this.1.1, this.1.2, this.2⟩
theorem tokens_one {l : Bytes} {t0 t1 : Tok} (h : tokensOf l = .ok [t0, t1]) (ht : t0.text = l) : ∃ n, l ≠ [] ∧ oneTok l = .ok t0.kind l.length n := by
  unfold tokensOf at h
  split at h
  · cases h
  rw [lexAt_eq] at h
  have hle := skipB_le false l
  have hsf := skipB_suffix false l
  generalize hr : skipB false l = r at h hle hsf
  cases r with
  | nil => simp at h
  | cons c t =>
    simp only at h
    cases ho : oneTok (c :: t) with
    | bad e => rw [ho] at h; simp at h
    | ok k m n =>
      have hb := oneTok_bounds ho
      rw [ho] at h
      simp only at h
      generalize lexAt false (0 + (l.length - (t.length + 1)) + m) (List.drop m (c :: t)) = rest at h
      cases rest with
      | error x => simp [after] at h
      | ok ts =>
        simp only [after, List.cons_append, List.nil_append, Except.ok.injEq, List.cons.injEq] at h
        have ht0 : t0.text = (c :: t).take m := by rw [← h.1]
        rw [ht] at ht0
        have hl : l.length = min m (c :: t).length := by rw [ht0, List.length_take]
        have hlen : l.length = (c :: t).length := by omega
        have heq : c :: t = l := hsf.eq_of_length hlen.symm
        refine ⟨n, by rw [← heq]; simp, ?_⟩
        rw [← heq, ho, ← h.1]
        congr 1
        omega
theorem word_of_kind {l : Bytes} {k n : Nat} (hne : l ≠ []) (h : oneTok l = .ok k l.length n) (hk : k = 1 ∨ k = 2) : ∃ c t, l = c :: t ∧ isLetter c = true ∧ l.all isPart = true ∧ t.length < 32 ∧ (isKeyword l = true ↔ k = 2) := by
  cases l with
  | nil => exact absurd rfl hne
  | cons c t =>
    simp only [oneTok] at h
    by_cases h1 : isLetter c = true
    · rw [if_pos h1] at h
      simp only [wordTok] at h
      split at h
      · cases h
      · rename_i h32
        simp only [OneR.ok.injEq] at h
        have ha := (spanOf_all isPart (c :: t)).1 h.2.1
        rw [h.2.1, List.take_length] at h
        refine ⟨c, t, rfl, h1, ha, ?_, ?_⟩
        · have := h.2.1; rw [(spanOf_all isPart (c :: t)).2 ha] at h32; simp at h32; omega
        · rw [← h.1]
          cases isKeyword (c :: t) <;> simp
    · rw [if_neg h1] at h
      by_cases h2 : isDigit c = true
      · rw [if_pos h2] at h
        simp only [numTok] at h
        split at h
        · cases h
        · split at h
          · cases h
          · simp only [OneR.ok.injEq] at h; omega
      · rw [if_neg h2] at h
        simp only [markTok] at h
        cases hm : markLen (c :: t) with
        | none => rw [hm] at h; cases h
        | some x => rw [hm] at h; simp only [OneR.ok.injEq] at h; omega
theorem toks_err3 (f : Nat) : ∀ (b : Bool) (p : Nat) (l : Bytes) (q e : Nat), l.length < f → toks f b p l = .error (q, e) → e = 2 ∨ e = 3 ∨ e = 4 := by
  induction f with
  | zero => intro b p l q e h; omega
  | succ f ih =>
    intro b p l q e hf h
    have hle := skipB_le b l
    simp only [toks] at h
    generalize skipB b l = r at hle h
    cases r with
    | nil => cases h
    | cons c t =>
      simp only at h
      cases ho : oneTok (c :: t) with
      | bad x =>
        rw [ho] at h
        simp only [Except.error.injEq, Prod.mk.injEq] at h
        rw [← h.2]; exact oneTok_bad_pos ho
      | ok k m n =>
        have hb := oneTok_bounds ho
        rw [ho] at h
        simp only at h
        generalize hx : toks f false _ (List.drop m (c :: t)) = rest at h
        cases rest with
        | error x =>
          obtain ⟨q', e'⟩ := x
          simp only [after, Except.error.injEq, Prod.mk.injEq] at h
          rw [← h.2]
          exact ih _ _ _ _ _ (by rw [List.length_drop]; omega) hx
        | ok ts => simp [after] at h
theorem tokens_err {l : Bytes} {q e : Nat} (h : tokensOf l = .error (q, e)) : e = 2 ∨ e = 3 ∨ e = 4 := by
  unfold tokensOf at h
  split at h
  · simp only [Except.error.injEq, Prod.mk.injEq] at h; omega
  · exact toks_err3 _ _ _ _ _ _ (Nat.lt_succ_self _) h
theorem words_case (l : Bytes) : (∃ K : Nat, tokensOf l = .ok [⟨K, 0, l, 0⟩, ⟨5, l.length, [], 0⟩] ∧ ((K = 1 ∧ isIdent l = true ∧ isKeyword l = false) ∨ (K = 2 ∧ isIdent l = false ∧ isKeyword l = true))) ∨
    (isIdent l = false ∧ isKeyword l = false ∧ ∀ t0 t1, tokensOf l = .ok [t0, t1] → t0.text = l → t0.kind ≠ 1 ∧ t0.kind ≠ 2) := by
  have hident : ∀ c t, isIdent (c :: t) = (decide (t.length < 32) && isLetter c && (c :: t).all isPart && !isKeyword (c :: t)) := fun _ _ => rfl
  cases hk : isKeyword l
  · cases hi : isIdent l
    · right
      refine ⟨rfl, rfl, fun t0 t1 h ht => ?_⟩
      obtain ⟨n, hne, ho⟩ := tokens_one h ht
      have key : ¬ (t0.kind = 1 ∨ t0.kind = 2) := by
        intro hk2
        obtain ⟨c, t, rfl, h1, h2, h3, h4⟩ := word_of_kind hne ho hk2
        rw [hident, h1, h2, hk] at hi
        simp at hi; omega
      omega
    · left
      cases l with
      | nil => cases hi
      | cons c t =>
        rw [hident] at hi
        simp only [Bool.and_eq_true, decide_eq_true_eq] at hi
        refine ⟨1, ?_, .inl ⟨rfl, rfl, rfl⟩⟩
        rw [tokens_word hi.1.1.2 hi.1.2 hi.1.1.1, hk]
        rfl
  · left
    have hmem : l ∈ kwList := by simpa [isKeyword] using hk
    obtain ⟨c, t, rfl, h1, h2, h3⟩ := kw_words l hmem
    refine ⟨2, ?_, .inr ⟨rfl, ?_, rfl⟩⟩
    · rw [tokens_word h1 h2 h3, hk]; rfl
    · rw [hident, hk]; simp
end Lx
end Go.Proofs.YthjonkommphkkaaGreatDoor
