/-
  lex.word, walked.
-/
import Derived.Test.YthjonkommphkkaaDoorLexIdentP
import Derived.Lib.Strings
import Derived.Outline
namespace Go.Proofs.YthjonkommphkkaaDoor
open Lx Go.RowKit
theorem strOf_data (l : Bytes) : (strOf l).data.toList = l := by simp [strOf]
theorem strOf_size (l : Bytes) : (strOf l).size = l.length := by simp [strOf, ByteArray.size]
theorem strOf_of (s : ByteArray) : s = strOf s.data.toList := by cases s; simp [strOf]
theorem bytes_ext {a b : ByteArray} (h : a.data.toList = b.data.toList) : a = b := by
  cases a; cases b; simp at h; simpa using h
theorem extract_strOf (s : ByteArray) (a b : Nat) : s.extract a b = strOf ((s.data.toList.drop a).take (b - a)) := by
  apply bytes_ext; rw [strOf_data, Lib.extract_data]
theorem extract_take (s : ByteArray) (k : Nat) : s.extract 0 k = strOf (s.data.toList.take k) := by
  rw [extract_strOf]; rfl
theorem extract_take_data (s : ByteArray) (k : Nat) : (s.extract 0 k).data.toList = s.data.toList.take k := by
  rw [extract_take, strOf_data]
def tokAgg (kind pos : Nat) (text : Bytes) (n : Nat) : Value := .agg #[.int .i64 kind, .int .i64 pos, .string (strOf text), .int .i64 n]
def oneV (r : OneR) (l : Bytes) (pos : Nat) : Value := match r with
  | .bad e => .tuple #[tokAgg 0 0 [] 0, .int .i64 e]
  | .ok k m n => .tuple #[tokAgg k pos (l.take m) n, .int .i64 0]
def OneP (r : OneR) (l : Bytes) (pos : Nat) (w : World) (e : Ending) (w' : World) : Prop := e = .returned (oneV r l pos) ∧ Below w.heap.size w w'
theorem wordTok_eq (l : Bytes) : wordTok l = if 32 < spanOf isPart l then .bad 3 else .ok (if isKeyword (l.take (spanOf isPart l)) then 2 else 1) (spanOf isPart l) 0 := rfl
set_option maxHeartbeats 400000 in
theorem lex_word (s : ByteArray) (w : World) (hs : s.size ≤ maxLen) (hL : Laid w) : Calls Tryd.prog 65 #[.string s] w (OneP (wordTok s.data.toList) s.data.toList 0 w) := by
  have HL := Lib.hid hL
  have HS := Lib.hid hs
  clear hL
  unfold maxLen at hs
  have hle := spanOf_le isPart s.data.toList
  rw [len_list] at hle
  have HW := Lib.hid (wordTok_eq s.data.toList)
  go_enter Tryd.func65, Tryd.ntmps65
  go_wp2_with fail
  refine (lex_span_part s _ HS.out).mono ?_
  rintro e w' ⟨rfl, rfl⟩
  generalize hn : spanOf isPart s.data.toList = n at hle HW ⊢
  clear hn
  by_cases h1 : 32 < n
  · go_wp2_with fail
    refine bodyPost_ret (v := oneV (.bad 3) s.data.toList 0) (by simp [results, Tryd.results65, go_sem]; rfl) rfl ⟨by rw [HW.out, if_pos h1], ?_⟩
    exact (Below.refl _ _).alloc (Nat.le_refl _) _
  · go_wp2_with fail
    refine (lex_Keyword _ _ ((HL.out.alloc _).alloc _)).mono ?_
    rintro e w' ⟨rfl, rfl⟩
    rw [extract_take_data]
    cases h7 : isKeyword (s.data.toList.take n)
    · have H7 := Lib.hid h7
      go_wp2_with fail
      refine bodyPost_ret (v := oneV (.ok 1 n 0) s.data.toList 0) (by simp [results, Tryd.results65, go_sem, extract_take]; rfl) rfl ⟨by rw [HW.out, if_neg h1, H7.out]; rfl, ?_⟩
      exact ((Below.refl _ _).alloc (Nat.le_refl _) _).alloc (by simp) _
    · have H7 := Lib.hid h7
      go_wp2_with fail
      refine bodyPost_ret (v := oneV (.ok 2 n 0) s.data.toList 0) (by simp [results, Tryd.results65, go_sem, extract_take]; rfl) rfl ⟨by rw [HW.out, if_neg h1, H7.out]; rfl, ?_⟩
      exact ((Below.refl _ _).alloc (Nat.le_refl _) _).alloc (by simp) _
end Go.Proofs.YthjonkommphkkaaDoor
