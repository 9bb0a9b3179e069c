/-
  Plain Lean: identifiers.
-/
import Derived.Test.YthjonkommphkkaaDoorLexSpan
import Derived.Test.YthjonkommphkkaaDoorLexKeyword
namespace Go.Proofs.YthjonkommphkkaaDoor
open Lx Go.RowKit
namespace Lx
def isIdent (l : Bytes) : Bool := match l with
  | [] => false
  | c :: t => decide (t.length < 32) && isLetter c && (c :: t).all isPart && !isKeyword (c :: t)
theorem spanOf_all (p : UInt8 → Bool) (l : Bytes) : spanOf p l = l.length ↔ l.all p = true := by
  induction l with
  | nil => simp [spanOf]
  | cons c t ih =>
    have := spanOf_le p t
    cases h : p c <;> simp [spanOf, h] <;> simp at ih <;> omega
theorem list_of_pos (s : ByteArray) (h : 0 < s.size) : s.data.toList = s[0] :: s.data.toList.drop 1 := by
  have := drop_cons s 0 h; simpa using this
theorem isEmpty_pos (s : ByteArray) (h : 0 < s.size) : s.toList.isEmpty = false := by rw [ByteArray.toList_eq, list_of_pos s h]; rfl
theorem isEmpty_zero (s : ByteArray) (h : s.size = 0) : s.toList.isEmpty = true := by
  rw [ByteArray.toList_eq, List.isEmpty_iff, ← List.length_eq_zero_iff]; simpa using h
theorem isIdent_pos (s : ByteArray) (h : 0 < s.size) : isIdent s.data.toList = (decide (s.size ≤ 32) && isLetter s[0] && s.data.toList.all isPart && !isKeyword s.data.toList) := by
  have e := list_of_pos s h
  have hl : (s.data.toList.drop 1).length = s.size - 1 := by simp
  generalize hd : s.data.toList.drop 1 = d at e hl
  rw [e, isIdent, hl, Bool.eq_iff_iff]
  simp only [Bool.and_eq_true, decide_eq_true_eq]
  refine ⟨fun ⟨⟨⟨a, b⟩, c⟩, d⟩ => ⟨⟨⟨by omega, b⟩, c⟩, d⟩, fun ⟨⟨⟨a, b⟩, c⟩, d⟩ => ⟨⟨⟨by omega, b⟩, c⟩, d⟩⟩
theorem isIdent_zero (s : ByteArray) (h : s.size = 0) : isIdent s.data.toList = false := by
  have : s.data.toList = [] := by rw [← List.length_eq_zero_iff]; simpa using h
  rw [this]; rfl
end Lx
end Go.Proofs.YthjonkommphkkaaDoor
namespace Go.Proofs.YthjonkommphkkaaDoor
namespace Lx
structure Tok where
  kind : Nat
  pos : Nat
  text : Bytes
  n : Nat
  deriving DecidableEq
inductive OneR where
  | ok (kind len n : Nat)
  | bad (e : Nat)
  deriving DecidableEq
def numVal (l : Bytes) : Nat := l.foldl (fun a c => a * 10 + (c.toNat - 48)) 0
def nextPart (l : Bytes) : Bool := match l with
  | [] => false
  | c :: _ => isPart c
def markLen (l : Bytes) : Option Nat := (markList.find? (fun m => m.isPrefixOf l)).map List.length
def wordTok (l : Bytes) : OneR := if 32 < spanOf isPart l then .bad 3 else .ok (if isKeyword (l.take (spanOf isPart l)) then 2 else 1) (spanOf isPart l) 0
def numBad (l : Bytes) : Bool := (decide (l.head? = some 48) && decide (1 < spanOf isDigit l)) || nextPart (l.drop (spanOf isDigit l))
def numTok (l : Bytes) : OneR := if numBad l then .bad 2
  else if 9223372036854775808 ≤ numVal (l.take (spanOf isDigit l)) then .bad 4 else .ok 3 (spanOf isDigit l) (numVal (l.take (spanOf isDigit l)))
def markTok (l : Bytes) : OneR := match markLen l with
  | some n => .ok 4 n 0
  | none => .bad 2
/-- The token at the beginning of a text that is not empty. -/
def oneTok (l : Bytes) : OneR := match l with
  | [] => .bad 2
  | c :: t => if isLetter c then wordTok (c :: t) else if isDigit c then numTok (c :: t) else markTok (c :: t)
def isSep (c : UInt8) : Bool := decide (c.toNat = 32 ∨ c.toNat = 9 ∨ c.toNat = 13 ∨ c.toNat = 10)
def opens (c : UInt8) (t : Bytes) : Bool := decide (c.toNat = 47) && decide (t.head? = some 47)
/-- What is left behind the separators and comments (true: the text begins inside a comment). -/
def skipB : Bool → Bytes → Bytes
  | _, [] => []
  | true, c :: t => if c.toNat = 10 then skipB false t else skipB true t
  | false, c :: t => if isSep c then skipB false t else if opens c t then skipB true t else c :: t
theorem skipB_suffix (b : Bool) (l : Bytes) : skipB b l <:+ l := by
  induction l generalizing b with
  | nil => simp [skipB]
  | cons c t ih =>
    cases b
    · simp only [skipB]
      split
      · exact (ih _).trans (List.suffix_cons _ _)
      · split
        · exact (ih _).trans (List.suffix_cons _ _)
        · exact List.suffix_refl _
    · simp only [skipB]
      split <;> exact (ih _).trans (List.suffix_cons _ _)
theorem skipB_le (b : Bool) (l : Bytes) : (skipB b l).length ≤ l.length := (skipB_suffix b l).length_le
abbrev LexR := Except (Nat × Nat) (List Tok)
def after (out : List Tok) : LexR → LexR
  | .error x => .error x
  | .ok ts => .ok (out ++ ts)
/-- The tokens of a text that begins at an offset. -/
def toks : Nat → Bool → Nat → Bytes → LexR
  | 0, _, _, _ => .error (0, 0)
  | f + 1, b, p, l =>
    let r := skipB b l
    let q := p + (l.length - r.length)
    match r with
    | [] => .ok [⟨5, q, [], 0⟩]
    | c :: t => match oneTok (c :: t) with
      | .bad e => .error (q, e)
      | .ok k m n => after [⟨k, q, (c :: t).take m, n⟩] (toks f false (q + m) ((c :: t).drop m))
theorem spanOf_pos (p : UInt8 → Bool) (c : UInt8) (t : Bytes) (h : p c = true) : 0 < spanOf p (c :: t) := by simp [spanOf, h]
theorem part_of_letter {c : UInt8} (h : isLetter c = true) : isPart c = true := by simp [isPart, h]
theorem part_of_digit {c : UInt8} (h : isDigit c = true) : isPart c = true := by simp [isPart, h]
theorem markLen_bounds {l : Bytes} {m : Nat} (h : markLen l = some m) : 0 < m ∧ m ≤ l.length := by
  simp only [markLen, Option.map_eq_some_iff] at h
  obtain ⟨x, hx, rfl⟩ := h
  have h1 := List.find?_some hx
  have h2 := List.mem_of_find?_eq_some hx
  refine ⟨?_, (List.isPrefixOf_iff_prefix.1 h1).length_le⟩
  have : ∀ y ∈ markList, 0 < y.length := by decide
  exact this x h2
theorem oneTok_bounds {l : Bytes} {k m n : Nat} (h : oneTok l = .ok k m n) : 0 < m ∧ m ≤ l.length := by
  cases l with
  | nil => simp [oneTok] at h
  | cons c t =>
    simp only [oneTok] at h
    by_cases h1 : isLetter c = true
    · rw [if_pos h1] at h
      simp only [wordTok] at h
      split at h
      · simp at h
      · simp only [OneR.ok.injEq] at h
        rw [← h.2.1]
        exact ⟨spanOf_pos _ _ _ (part_of_letter h1), spanOf_le _ _⟩
    · rw [if_neg h1] at h
      by_cases h2 : isDigit c = true
      · rw [if_pos h2] at h
        simp only [numTok] at h
        split at h
        · simp at h
        · split at h
          · simp at h
          · simp only [OneR.ok.injEq] at h
            rw [← h.2.1]
            exact ⟨spanOf_pos _ _ _ h2, spanOf_le _ _⟩
      · rw [if_neg h2] at h
        simp only [markTok] at h
        cases hm : markLen (c :: t) with
        | none => rw [hm] at h; simp at h
        | some x =>
          rw [hm] at h
          simp only [OneR.ok.injEq] at h
          rw [← h.2.1]
          exact markLen_bounds hm
theorem toks_fuel (f : Nat) : ∀ (g : Nat) (b : Bool) (p : Nat) (l : Bytes), l.length < f → l.length < g → toks f b p l = toks g b p l := by
  induction f with
  | zero => intro g b p l h; omega
  | succ f ih =>
    intro g b p l hf hg
    cases g with
    | zero => omega
    | succ g =>
      have hle := skipB_le b l
      simp only [toks]
      generalize skipB b l = r at hle ⊢
      cases r with
      | nil => rfl
      | cons c t =>
        simp only
        cases ho : oneTok (c :: t) with
        | bad e => rfl
        | ok k m n =>
          have hb := oneTok_bounds ho
          simp only
          rw [ih g false _ _ (by rw [List.length_drop]; omega) (by rw [List.length_drop]; omega)]
def lexAt (b : Bool) (p : Nat) (l : Bytes) : LexR := toks (l.length + 1) b p l
def tokensOf (l : Bytes) : LexR := if 65536 < l.length then .error (0, 3) else lexAt false 0 l
theorem lexAt_eq (b : Bool) (p : Nat) (l : Bytes) : lexAt b p l = match skipB b l with
    | [] => .ok [⟨5, p + l.length, [], 0⟩]
    | c :: t => match oneTok (c :: t) with
      | .bad e => .error (p + (l.length - (t.length + 1)), e)
      | .ok k m n => after [⟨k, p + (l.length - (t.length + 1)), (c :: t).take m, n⟩] (lexAt false (p + (l.length - (t.length + 1)) + m) ((c :: t).drop m)) := by
  have hle := skipB_le b l
  rw [show lexAt b p l = toks (l.length + 1) b p l from rfl, toks]
  generalize skipB b l = r at hle ⊢
  cases r with
  | nil => simp
  | cons c t =>
    simp only [List.length_cons]
    cases ho : oneTok (c :: t) with
    | bad e => rfl
    | ok k m n =>
      have hb := oneTok_bounds ho
      simp only
      rw [toks_fuel l.length _ false _ _ (by rw [List.length_drop]; simp at *; omega) (Nat.lt_succ_self _)]
      rfl
theorem lexAt_nil (b : Bool) (p : Nat) : lexAt b p [] = .ok [⟨5, p, [], 0⟩] := by
  rw [lexAt_eq]; cases b <;> simp [skipB]
theorem lexAt_of_skip {b b' : Bool} {p : Nat} {c : UInt8} {t : Bytes} (h : skipB b (c :: t) = skipB b' t) : lexAt b p (c :: t) = lexAt b' (p + 1) t := by
  have hle := skipB_le b' t
  rw [lexAt_eq, lexAt_eq b', h]
  generalize skipB b' t = r at hle ⊢
  cases r with
  | nil => simp; omega
  | cons d u =>
    simp only [List.length_cons] at hle ⊢
    have e : p + (t.length + 1 - (u.length + 1)) = p + 1 + (t.length - (u.length + 1)) := by omega
    rw [e]
theorem lexAt_sep {p : Nat} {c : UInt8} {t : Bytes} (h : isSep c = true) : lexAt false p (c :: t) = lexAt false (p + 1) t := lexAt_of_skip (by simp [skipB, h])
theorem lexAt_open {p : Nat} {c : UInt8} {t : Bytes} (h : isSep c = false) (h2 : opens c t = true) : lexAt false p (c :: t) = lexAt true (p + 1) t := lexAt_of_skip (by simp [skipB, h, h2])
theorem lexAt_line {p : Nat} {c : UInt8} {t : Bytes} (h : c.toNat = 10) : lexAt true p (c :: t) = lexAt false (p + 1) t := lexAt_of_skip (by simp [skipB, h])
theorem lexAt_comment {p : Nat} {c : UInt8} {t : Bytes} (h : c.toNat ≠ 10) : lexAt true p (c :: t) = lexAt true (p + 1) t := lexAt_of_skip (by simp [skipB, h])
theorem lexAt_bad {p e : Nat} {c : UInt8} {t : Bytes} (h : isSep c = false) (h2 : opens c t = false) (ho : oneTok (c :: t) = .bad e) : lexAt false p (c :: t) = .error (p, e) := by
  rw [lexAt_eq]; simp [skipB, h, h2, ho]
theorem lexAt_ok {p k m n : Nat} {c : UInt8} {t : Bytes} (h : isSep c = false) (h2 : opens c t = false) (ho : oneTok (c :: t) = .ok k m n) :
    lexAt false p (c :: t) = after [⟨k, p, (c :: t).take m, n⟩] (lexAt false (p + m) ((c :: t).drop m)) := by
  rw [lexAt_eq]; simp [skipB, h, h2, ho]
theorem after_after (a b : List Tok) (r : LexR) : after a (after b r) = after (a ++ b) r := by
  cases r <;> simp [after]
theorem after_nil (r : LexR) : after [] r = r := by cases r <;> simp [after]
end Lx
end Go.Proofs.YthjonkommphkkaaDoor
