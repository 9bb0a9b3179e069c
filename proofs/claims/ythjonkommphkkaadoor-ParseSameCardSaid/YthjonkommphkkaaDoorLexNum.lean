/-
  Plain Lean: numbers of the lexer against the library's ParseInt.
-/
import Derived.Test.YthjonkommphkkaaDoorLexIdentP
import Derived.Lib.ParseIntB
namespace Go.Proofs.YthjonkommphkkaaDoor
namespace Lx
def numFrom (acc : Nat) (l : Bytes) : Nat := l.foldl (fun a c => a * 10 + (c.toNat - 48)) acc
theorem numFrom_cons (acc : Nat) (c : UInt8) (l : Bytes) : numFrom acc (c :: l) = numFrom (acc * 10 + (c.toNat - 48)) l := by unfold numFrom; rw [List.foldl_cons]
theorem numFrom_ge (l : Bytes) : ∀ acc, acc ≤ numFrom acc l := by
  induction l with
  | nil => intro acc; exact Nat.le_refl _
  | cons c t ih => intro acc; rw [numFrom_cons]; have := ih (acc * 10 + (c.toNat - 48)); omega
theorem parseUintM_digits (l : Bytes) : ∀ acc, l.all isDigit = true → acc < 18446744073709551616 →
    Lib.parseUintM (2 ^ 64 - 1) acc l = if numFrom acc l < 18446744073709551616 then .ok (numFrom acc l) else .range := by
  induction l with
  | nil => intro acc _ h; rw [if_pos (by simpa [numFrom] using h)]; rfl
  | cons c t ih =>
    intro acc ha hacc
    simp only [List.all_cons, Bool.and_eq_true] at ha
    obtain ⟨hc, ht⟩ := ha
    have hc' : 48 ≤ c.toNat ∧ c.toNat ≤ 57 := by simpa [isDigit] using hc
    have hge := numFrom_ge t (acc * 10 + (c.toNat - 48))
    rw [numFrom_cons]
    simp only [Lib.parseUintM]
    rw [if_pos hc']
    by_cases h1 : 1844674407370955162 ≤ acc
    · rw [if_pos h1, if_neg (by omega)]
    · rw [if_neg h1]
      by_cases h2 : 2 ^ 64 - 1 < acc * 10 + (c.toNat - 48)
      · rw [if_pos h2, if_neg (by omega)]
      · rw [if_neg h2, ih _ ht (by omega)]
theorem parseIntB_digits (l : Bytes) (hne : l ≠ []) (ha : l.all isDigit = true) :
    Lib.parseIntB 64 l = if 9223372036854775808 ≤ numVal l then .range else .ok (numVal l : Int) := by
  cases l with
  | nil => exact absurd rfl hne
  | cons c t =>
    have hc : isDigit c = true := by simp only [List.all_cons, Bool.and_eq_true] at ha; exact ha.1
    have hc' : 48 ≤ c.toNat ∧ c.toNat ≤ 57 := by simpa [isDigit] using hc
    have e : numVal (c :: t) = numFrom 0 (c :: t) := rfl
    have h45 : ¬ (c.toNat = 45) := by omega
    have h43 : ¬ (c.toNat = 43 ∨ c.toNat = 45) := by omega
    have hu : Lib.parseUintB 64 (c :: t) = if numFrom 0 (c :: t) < 18446744073709551616 then .ok (numFrom 0 (c :: t)) else .range := by
      unfold Lib.parseUintB
      rw [if_neg (by simp)]
      exact parseUintM_digits _ 0 ha (by omega)
    simp only [Lib.parseIntB]
    rw [if_neg h43, hu, e]
    by_cases h1 : numFrom 0 (c :: t) < 18446744073709551616
    · rw [if_pos h1]
      simp only
      by_cases h2 : 9223372036854775808 ≤ numFrom 0 (c :: t)
      · rw [if_pos h2, if_pos ⟨h45, h2⟩]
      · rw [if_neg h2, if_neg (fun h => h2 h.2), if_neg (fun h => h45 h.1), if_neg h45]
    · rw [if_neg h1, if_pos (by omega)]
theorem take_span_all (p : UInt8 → Bool) (l : Bytes) : (l.take (spanOf p l)).all p = true := by
  induction l with
  | nil => simp
  | cons c t ih =>
    simp only [spanOf]
    split
    · rename_i h; simp only [List.take_succ_cons, List.all_cons, h, ih, Bool.true_and]
    · simp
theorem numBad_eq (s : ByteArray) (h : 0 < s.size) : numBad s.data.toList = ((decide (s[0].toNat = 48) && decide (1 < spanOf isDigit s.data.toList)) || nextPart (s.data.toList.drop (spanOf isDigit s.data.toList))) := by
  unfold numBad
  congr 2
  rw [Bool.eq_iff_iff]
  simp only [decide_eq_true_eq]
  have e := list_of_pos s h
  generalize s.data.toList.drop 1 = t at e
  rw [e]
  simp only [List.head?_cons, Option.some.injEq]
  constructor
  · intro h; rw [h]; rfl
  · intro h; exact UInt8.toNat_inj.1 h
theorem nextPart_lt (s : ByteArray) (k : Nat) (h : k < s.size) : nextPart (s.data.toList.drop k) = isPart s[k] := by rw [drop_cons s k h]; rfl
theorem nextPart_ge (s : ByteArray) (k : Nat) (h : s.size ≤ k) : nextPart (s.data.toList.drop k) = false := by rw [List.drop_eq_nil_of_le (by rw [len_list]; exact h)]; rfl
theorem numTok_eq (l : Bytes) : numTok l = if numBad l then .bad 2 else if 9223372036854775808 ≤ numVal (l.take (spanOf isDigit l)) then .bad 4 else .ok 3 (spanOf isDigit l) (numVal (l.take (spanOf isDigit l))) := rfl
end Lx
end Go.Proofs.YthjonkommphkkaaDoor
