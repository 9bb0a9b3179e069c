/-
  lex.span at 'part' and at 'digit', walked.
-/
import Derived.Test.YthjonkommphkkaaDoorLexBytes
import Derived.Lib.Hide
import Derived.LoopTactic
namespace Go.Proofs.YthjonkommphkkaaDoor
open Lx Go.RowKit
set_option maxHeartbeats 400000 in
theorem lex_span_part (s : ByteArray) (w : World) (hs : s.size ≤ maxLen) : Calls Tryd.prog 77 #[.string s, .func (.func 78) #[] #[]] w fun e w' => e = .returned (.int .i64 (spanOf isPart s.data.toList : Nat)) ∧ w = w' := by
  unfold maxLen at hs
  go_enter Tryd.func77, Tryd.ntmps77
  go_wp2_with fail
  go_loop [5] (fun n => ∃ k : Nat, k ≤ s.size ∧ n = .int .i64 k ∧ spanOf isPart s.data.toList = k + spanOf isPart (s.data.toList.drop k)) (fun n => s.size - (intOf n).toNat)
  case atStart => exact ⟨0, Nat.zero_le _, rfl, by simp⟩
  case round =>
    obtain ⟨k, hk, rfl, hr⟩ := hrel
    have HR := Lib.hid hr
    clear hr
    by_cases hlt : k < s.size
    · cases hp : isPart s[k]
      · have HP := Lib.hid hp
        go_wp2_with (go_at_call 78; refine (lex_part _ _).mono ?_; rintro e w' ⟨rfl, rfl⟩)
        go_ret
        exact ⟨ret_int (by rw [HR.out, spanOf_stop _ _ _ hlt HP.out]; simp), rfl⟩
      · have HP := Lib.hid hp
        go_wp2_with (go_at_call 78; refine (lex_part _ _).mono ?_; rintro e w' ⟨rfl, rfl⟩)
        go_round
        case rel => exact ⟨k + 1, by omega, by go_num, by rw [HR.out, spanOf_go _ _ _ hlt HP.out]; omega⟩
        case measure => simp [intOf]; omega
    · go_wp2_with fail
      go_ret
      exact ⟨ret_int (by rw [HR.out, spanOf_end _ _ _ (by omega)]; simp), rfl⟩
set_option maxHeartbeats 400000 in
theorem lex_span_digit (s : ByteArray) (w : World) (hs : s.size ≤ maxLen) : Calls Tryd.prog 77 #[.string s, .func (.func 66) #[] #[]] w fun e w' => e = .returned (.int .i64 (spanOf isDigit s.data.toList : Nat)) ∧ w = w' := by
  unfold maxLen at hs
  go_enter Tryd.func77, Tryd.ntmps77
  go_wp2_with fail
  go_loop [5] (fun n => ∃ k : Nat, k ≤ s.size ∧ n = .int .i64 k ∧ spanOf isDigit s.data.toList = k + spanOf isDigit (s.data.toList.drop k)) (fun n => s.size - (intOf n).toNat)
  case atStart => exact ⟨0, Nat.zero_le _, rfl, by simp⟩
  case round =>
    obtain ⟨k, hk, rfl, hr⟩ := hrel
    have HR := Lib.hid hr
    clear hr
    by_cases hlt : k < s.size
    · cases hp : isDigit s[k]
      · have HP := Lib.hid hp
        go_wp2_with (go_at_call 66; refine (lex_digit _ _).mono ?_; rintro e w' ⟨rfl, rfl⟩)
        go_ret
        exact ⟨ret_int (by rw [HR.out, spanOf_stop _ _ _ hlt HP.out]; simp), rfl⟩
      · have HP := Lib.hid hp
        go_wp2_with (go_at_call 66; refine (lex_digit _ _).mono ?_; rintro e w' ⟨rfl, rfl⟩)
        go_round
        case rel => exact ⟨k + 1, by omega, by go_num, by rw [HR.out, spanOf_go _ _ _ hlt HP.out]; omega⟩
        case measure => simp [intOf]; omega
    · go_wp2_with fail
      go_ret
      exact ⟨ret_int (by rw [HR.out, spanOf_end _ _ _ (by omega)]; simp), rfl⟩
end Go.Proofs.YthjonkommphkkaaDoor
