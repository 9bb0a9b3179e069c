/-
  lex.Ident and the reference's Ident, walked.
-/
import Derived.Test.YtfkdilbepddlfaaDoorLexSpan
import Derived.Test.YtfkdilbepddlfaaDoorLexKeyword
import Derived.Outline
namespace Go.Proofs.YtfkdilbepddlfaaDoor
open Lx Go.RowKit
namespace Lx
def isIdent (l : Bytes) : Bool := match l with
  | [] => false
  | c :: t => decide (t.length < 32) && isLetter c && (c :: t).all isPart && !isKeyword (c :: t)
theorem spanOf_all (p : UInt8 → Bool) (l : Bytes) : spanOf p l = l.length ↔ l.all p = true := by
  induction l with
  | nil => simp [spanOf]
  | cons c t ih =>
    have := spanOf_le p t
    cases h : p c <;> simp [spanOf, h] <;> simp at ih <;> omega
theorem list_of_pos (s : ByteArray) (h : 0 < s.size) : s.data.toList = s[0] :: s.data.toList.drop 1 := by
  have := drop_cons s 0 h; simpa using this
theorem isEmpty_pos (s : ByteArray) (h : 0 < s.size) : s.toList.isEmpty = false := by rw [ByteArray.toList_eq, list_of_pos s h]; rfl
theorem isEmpty_zero (s : ByteArray) (h : s.size = 0) : s.toList.isEmpty = true := by
  rw [ByteArray.toList_eq, List.isEmpty_iff, ← List.length_eq_zero_iff]; simpa using h
theorem isIdent_pos (s : ByteArray) (h : 0 < s.size) : isIdent s.data.toList = (decide (s.size ≤ 32) && isLetter s[0] && s.data.toList.all isPart && !isKeyword s.data.toList) := by
  have e := list_of_pos s h
  have hl : (s.data.toList.drop 1).length = s.size - 1 := by simp
  generalize hd : s.data.toList.drop 1 = d at e hl
  rw [e, isIdent, hl, Bool.eq_iff_iff]
  simp only [Bool.and_eq_true, decide_eq_true_eq]
  refine ⟨fun ⟨⟨⟨a, b⟩, c⟩, d⟩ => ⟨⟨⟨by omega, b⟩, c⟩, d⟩, fun ⟨⟨⟨a, b⟩, c⟩, d⟩ => ⟨⟨⟨by omega, b⟩, c⟩, d⟩⟩
theorem isIdent_zero (s : ByteArray) (h : s.size = 0) : isIdent s.data.toList = false := by
  have : s.data.toList = [] := by rw [← List.length_eq_zero_iff]; simpa using h
  rw [this]; rfl
end Lx
set_option maxHeartbeats 400000 in
theorem lex_Ident (s : ByteArray) (w : World) (hs : s.size ≤ maxLen) (hL : Laid w) : Calls Tryd.prog 12 #[.string s] w fun e w' => e = .returned (.bool (isIdent s.data.toList)) ∧ w = w' := by
  have HL := Lib.hid hL
  have HS := Lib.hid hs
  clear hL
  unfold maxLen at hs
  by_cases h0 : s.size = 0
  · have h1 := isEmpty_zero s h0
    have H0 := Lib.hid h0
    clear h0
    go_enter Tryd.func12, Tryd.ntmps12
    go_wp2_with fail
    go_ret
    exact ⟨ret_bool (isIdent_zero s H0.out).symm, rfl⟩
  have h0 : 0 < s.size := by omega
  have h1 := isEmpty_pos s h0
  have HI := Lib.hid (isIdent_pos s h0)
  by_cases h2 : s.size ≤ 32
  · go_enter Tryd.func12, Tryd.ntmps12
    go_wp2_with fail
    refine (lex_letter _ _).mono ?_
    rintro e w' ⟨rfl, rfl⟩
    cases h3 : isLetter s[0]
    · have H3 := Lib.hid h3
      go_wp2_with fail
      go_ret
      exact ⟨ret_bool (by rw [HI.out, H3.out]; simp), rfl⟩
    · have H3 := Lib.hid h3
      go_wp2_with fail
      refine (lex_span_part s _ HS.out).mono ?_
      rintro e w' ⟨rfl, rfl⟩
      have HA := Lib.hid (spanOf_all isPart s.data.toList)
      have HSS := Lib.hid (len_list s)
      generalize hn : spanOf isPart s.data.toList = n at HA ⊢
      clear hn
      by_cases h4 : n = s.size
      · have h5 : (n == s.size) = true := beq_iff_eq.2 h4
        have h6 : ((n : Int) == (s.size : Int)) = true := beq_iff_eq.2 (by omega)
        have H4 := Lib.hid h4
        clear h4
        go_wp2_with fail
        refine (lex_Keyword s _ HL.out).mono ?_
        rintro e w' ⟨rfl, rfl⟩
        have HB : Hid (s.data.toList.all isPart = true) := HA.out.1 (by rw [HSS.out]; exact H4.out)
        cases h7 : isKeyword s.data.toList
        · have H7 := Lib.hid h7
          go_wp2_with fail
          go_ret
          exact ⟨ret_bool (by rw [HI.out, H3.out, HB.out, H7.out]; simp [h2]), rfl⟩
        · have H7 := Lib.hid h7
          go_wp2_with fail
          go_ret
          exact ⟨ret_bool (by rw [HI.out, H7.out]; simp), rfl⟩
      · have h5 : (n == s.size) = false := beq_eq_false_iff_ne.2 h4
        have h6 : ((n : Int) == (s.size : Int)) = false := beq_eq_false_iff_ne.2 (by omega)
        have H4 := Lib.hid h4
        clear h4
        have HB : Hid (s.data.toList.all isPart = false) := by
          cases hb : s.data.toList.all isPart
          · rfl
          · exact absurd (HA.out.2 hb) (by rw [HSS.out]; exact H4.out)
        go_wp2_with fail
        go_ret
        exact ⟨ret_bool (by rw [HI.out, HB.out]; simp), rfl⟩
  · go_enter Tryd.func12, Tryd.ntmps12
    go_wp2_with fail
    go_ret
    exact ⟨ret_bool (by rw [HI.out]; simp [h2]), rfl⟩
set_option maxHeartbeats 400000 in
theorem ref_Ident (s : ByteArray) (w : World) (hs : s.size ≤ maxLen) : Calls Tryd.prog 13 #[.string s] w fun e w' => e = .returned (.bool (isIdent s.data.toList)) ∧ Below w.heap.size w w' := by
  unfold maxLen at hs
  by_cases h0 : s.size = 0
  · have h1 := isEmpty_zero s h0
    have H0 := Lib.hid h0
    clear h0
    go_enter Tryd.func13, Tryd.ntmps13
    go_wp2_with fail
    go_ret
    exact ⟨ret_bool (isIdent_zero s H0.out).symm, Below.refl _ _⟩
  have h0 : 0 < s.size := by omega
  have h1 := isEmpty_pos s h0
  have HI := Lib.hid (isIdent_pos s h0)
  by_cases h2 : s.size ≤ 32
  · go_enter Tryd.func13, Tryd.ntmps13
    go_wp2_with fail
    refine (ref_letter _ _).mono ?_
    rintro e w' ⟨rfl, rfl⟩
    cases h3 : isLetter s[0]
    · have H3 := Lib.hid h3
      go_wp2_with fail
      go_ret
      exact ⟨ret_bool (by rw [HI.out, H3.out]; simp), Below.refl _ _⟩
    · have H3 := Lib.hid h3
      go_wp2_with fail
      refine (ref_Keyword s _).mono ?_
      rintro e w1 ⟨rfl, hb1⟩
      cases h7 : isKeyword s.data.toList
      · have H7 := Lib.hid h7
        go_wp2_with fail
        go_loop [3] (fun i => ∃ k : Nat, k ≤ s.size ∧ i = .int .i64 k ∧ s.data.toList.all isPart = (s.data.toList.drop k).all isPart) (fun i => s.size - (intOf i).toNat)
        case atStart => exact ⟨0, by omega, rfl, rfl⟩
        case round =>
          obtain ⟨k, hk, rfl, hr⟩ := hrel
          have HR := Lib.hid hr
          clear hr
          by_cases hlt : k < s.size
          · have HD := Lib.hid (drop_cons s k hlt)
            go_wp2_with fail
            refine (ref_part _ _).mono ?_
            rintro e w' ⟨rfl, rfl⟩
            cases h8 : isPart s[k]
            · have H8 := Lib.hid h8
              go_wp2_with fail
              go_ret
              exact ⟨ret_bool (by rw [HI.out, HR.out, HD.out, List.all_cons, H8.out]; simp), hb1⟩
            · have H8 := Lib.hid h8
              go_wp2_with fail
              go_round
              case rel => exact ⟨k + 1, by omega, by go_num, by rw [HR.out, HD.out, List.all_cons, H8.out, Bool.true_and]⟩
              case measure => simp [intOf]; omega
          · go_wp2_with fail
            go_ret
            exact ⟨ret_bool (by rw [HI.out, HR.out, H7.out, H3.out, List.drop_eq_nil_of_le (by rw [len_list]; omega)]; simp [h2]), hb1⟩
      · have H7 := Lib.hid h7
        go_wp2_with fail
        go_ret
        exact ⟨ret_bool (by rw [HI.out, H7.out]; simp), hb1⟩
  · go_enter Tryd.func13, Tryd.ntmps13
    go_wp2_with fail
    go_ret
    exact ⟨ret_bool (by rw [HI.out]; simp [h2]), Below.refl _ _⟩
end Go.Proofs.YtfkdilbepddlfaaDoor
