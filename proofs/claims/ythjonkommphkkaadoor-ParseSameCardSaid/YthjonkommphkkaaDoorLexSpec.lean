/-
  Plain Lean: the bytes and words of the lexer (no program in sight).
-/
import Derived.WalkKit
namespace Go.Proofs.YthjonkommphkkaaDoor
namespace Lx
abbrev Bytes := List UInt8
def isLetter (c : UInt8) : Bool := decide (97 ≤ c.toNat ∧ c.toNat ≤ 122 ∨ 65 ≤ c.toNat ∧ c.toNat ≤ 90)
def isDigit (c : UInt8) : Bool := decide (48 ≤ c.toNat ∧ c.toNat ≤ 57)
def isPart (c : UInt8) : Bool := isLetter c || isDigit c || decide (c.toNat = 95)
/-- How many bytes at the beginning are of a kind. -/
def spanOf (p : UInt8 → Bool) : Bytes → Nat
  | [] => 0
  | c :: t => if p c then spanOf p t + 1 else 0
theorem spanOf_le (p : UInt8 → Bool) (l : Bytes) : spanOf p l ≤ l.length := by
  induction l with
  | nil => simp [spanOf]
  | cons c t ih => simp only [spanOf, List.length_cons]; split <;> omega
theorem drop_cons (s : ByteArray) (k : Nat) (h : k < s.size) : s.data.toList.drop k = s[k] :: s.data.toList.drop (k + 1) := by
  rw [List.drop_eq_getElem_cons (by simpa using h)]; rfl
theorem len_list (s : ByteArray) : s.data.toList.length = s.size := by simp
theorem spanOf_stop (p : UInt8 → Bool) (s : ByteArray) (k : Nat) (h : k < s.size) (hp : p s[k] = false) : spanOf p (s.data.toList.drop k) = 0 := by
  rw [drop_cons s k h]; simp [spanOf, hp]
theorem spanOf_go (p : UInt8 → Bool) (s : ByteArray) (k : Nat) (h : k < s.size) (hp : p s[k] = true) : spanOf p (s.data.toList.drop k) = spanOf p (s.data.toList.drop (k + 1)) + 1 := by
  rw [drop_cons s k h]; simp [spanOf, hp]
theorem spanOf_end (p : UInt8 → Bool) (s : ByteArray) (k : Nat) (h : s.size ≤ k) : spanOf p (s.data.toList.drop k) = 0 := by
  rw [List.drop_eq_nil_of_le (by simpa using h)]; rfl
end Lx
end Go.Proofs.YthjonkommphkkaaDoor
