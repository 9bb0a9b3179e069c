/-
  The reference's end and number, walked.
-/
import Derived.Test.YthjonkommphkkaaGreatDoorLexUtf
namespace Go.Proofs.YthjonkommphkkaaGreatDoor
open Lx Go.RowKit
set_option maxHeartbeats 1000000 in
theorem ref_end_word (s : ByteArray) (p : Nat) (w : World) (hs : s.size ≤ 65536) (hp : p < s.size) (hl : isLetter s[p] = true) : Calls Tryz.prog 82 #[.string s, .int .i64 (p : Int)] w fun e w' => e = .returned (.int .i64 ((p + spanOf isPart (s.data.toList.drop p) : Nat) : Int)) ∧ w = w' := by
  have HLT := Lib.hid hl
  clear hl
  go_enter Tryz.func82, Tryz.ntmps82
  go_wp2_with fail
  refine (ref_letter _ _).mono ?_
  rintro e w' ⟨rfl, rfl⟩
  rw [HLT.out]
  go_wp2_with fail
  go_loop [1] (fun a => ∃ k : Nat, p ≤ k ∧ k ≤ s.size ∧ a = .int .i64 k ∧ p + spanOf isPart (s.data.toList.drop p) = k + spanOf isPart (s.data.toList.drop k)) (fun a => s.size - (intOf a).toNat)
  case atStart => exact ⟨p, Nat.le_refl _, by omega, rfl, rfl⟩
  case round =>
    obtain ⟨k, hpk, hk, rfl, hr⟩ := hrel
    have HR := Lib.hid hr
    clear hr
    by_cases hlt : k < s.size
    · cases hq : isPart s[k]
      · have HQ := Lib.hid hq
        go_wp2_with (go_at_call 93; refine (ref_part _ _).mono ?_; rintro e w' ⟨rfl, rfl⟩)
        go_ret
        exact ⟨ret_int (by rw [HR.out, spanOf_stop _ _ _ hlt HQ.out]; simp), rfl⟩
      · have HQ := Lib.hid hq
        go_wp2_with (go_at_call 93; refine (ref_part _ _).mono ?_; rintro e w' ⟨rfl, rfl⟩)
        go_round
        case rel => exact ⟨k + 1, by omega, by omega, by go_num, by rw [HR.out, spanOf_go _ _ _ hlt HQ.out]; omega⟩
        case measure => simp [intOf]; omega
    · go_wp2_with fail
      go_ret
      exact ⟨ret_int (by have h := HR.out; have h2 := spanOf_end isPart s k (by omega); omega), rfl⟩
set_option maxHeartbeats 1000000 in
theorem ref_end_num (s : ByteArray) (p : Nat) (w : World) (hs : s.size ≤ 65536) (hp : p < s.size) (hl : isLetter s[p] = false) : Calls Tryz.prog 82 #[.string s, .int .i64 (p : Int)] w fun e w' => e = .returned (.int .i64 ((p + spanOf isDigit (s.data.toList.drop p) : Nat) : Int)) ∧ w = w' := by
  have HLT := Lib.hid hl
  clear hl
  go_enter Tryz.func82, Tryz.ntmps82
  go_wp2_with fail
  refine (ref_letter _ _).mono ?_
  rintro e w' ⟨rfl, rfl⟩
  rw [HLT.out]
  go_wp2_with fail
  go_loop [1] (fun a => ∃ k : Nat, p ≤ k ∧ k ≤ s.size ∧ a = .int .i64 k ∧ p + spanOf isDigit (s.data.toList.drop p) = k + spanOf isDigit (s.data.toList.drop k)) (fun a => s.size - (intOf a).toNat)
  case atStart => exact ⟨p, Nat.le_refl _, by omega, rfl, rfl⟩
  case round =>
    obtain ⟨k, hpk, hk, rfl, hr⟩ := hrel
    have HR := Lib.hid hr
    clear hr
    by_cases hlt : k < s.size
    · cases hq : isDigit s[k]
      · have HQ := Lib.hid hq
        go_wp2_with (go_at_call 84; refine (ref_digit _ _).mono ?_; rintro e w' ⟨rfl, rfl⟩)
        go_ret
        exact ⟨ret_int (by rw [HR.out, spanOf_stop _ _ _ hlt HQ.out]; simp), rfl⟩
      · have HQ := Lib.hid hq
        go_wp2_with (go_at_call 84; refine (ref_digit _ _).mono ?_; rintro e w' ⟨rfl, rfl⟩)
        go_round
        case rel => exact ⟨k + 1, by omega, by omega, by go_num, by rw [HR.out, spanOf_go _ _ _ hlt HQ.out]; omega⟩
        case measure => simp [intOf]; omega
    · go_wp2_with fail
      go_ret
      exact ⟨ret_int (by have h := HR.out; have h2 := spanOf_end isDigit s k (by omega); omega), rfl⟩
namespace Lx
theorem span_digit_at (s : ByteArray) (p j : Nat) (hj : j < spanOf isDigit (s.data.toList.drop p)) : ∃ h : p + j < s.size, 48 ≤ s[p + j].toNat ∧ s[p + j].toNat ≤ 57 := by
  have hle := spanOf_le isDigit (s.data.toList.drop p)
  rw [List.length_drop, len_list] at hle
  have h : p + j < s.size := by omega
  refine ⟨h, ?_⟩
  have ha := List.all_eq_true.1 (take_span_all isDigit (s.data.toList.drop p)) s[p + j] (by
    rw [List.mem_iff_getElem?]
    refine ⟨j, ?_⟩
    rw [List.getElem?_take_of_lt hj, List.getElem?_drop, List.getElem?_eq_getElem (by simpa using h)]
    rfl)
  simpa [isDigit] using ha
theorem numFrom_snoc (acc : Nat) (l : Bytes) (c : UInt8) : numFrom acc (l ++ [c]) = numFrom acc l * 10 + (c.toNat - 48) := by
  unfold numFrom; rw [List.foldl_append]; rfl
theorem take_snoc_drop (s : ByteArray) (p j : Nat) (h : p + j < s.size) : (s.data.toList.drop p).take (j + 1) = (s.data.toList.drop p).take j ++ [s[p + j]] := by
  rw [List.take_succ_eq_append_getElem (by rw [List.length_drop, len_list]; omega)]
  congr 2
  rw [List.getElem_drop]; rfl
theorem numVal_ge (l : Bytes) (j : Nat) : numFrom 0 (l.take j) ≤ numVal l := by
  have e : numVal l = numFrom (numFrom 0 (l.take j)) (l.drop j) := by
    show numFrom 0 l = _
    conv => lhs; rw [← List.take_append_drop j l]
    unfold numFrom; rw [List.foldl_append]
  rw [e]; exact numFrom_ge _ _
theorem numBad_at (s : ByteArray) (p : Nat) (h : p < s.size) : numBad (s.data.toList.drop p) = ((decide (s[p].toNat = 48) && decide (1 < spanOf isDigit (s.data.toList.drop p))) || nextPart (s.data.toList.drop (p + spanOf isDigit (s.data.toList.drop p)))) := by
  unfold numBad
  rw [List.drop_drop]
  congr 2
  rw [Bool.eq_iff_iff]
  simp only [decide_eq_true_eq]
  rw [drop_cons s p h]
  simp only [List.head?_cons, Option.some.injEq]
  constructor
  · intro h; rw [h]; rfl
  · intro h; exact UInt8.toNat_inj.1 h
end Lx
theorem num_step (s : ByteArray) (p k : Nat) (a : Int) (hpk : p ≤ k) (hks : k < s.size) (hdg : 48 ≤ s[k].toNat ∧ s[k].toNat ≤ 57) (hr : a = (numFrom 0 ((s.data.toList.drop p).take (k - p)) : Nat)) :
    a * 10 + ((s[k].toNat : Int) - 48) = (numFrom 0 ((s.data.toList.drop p).take (k + 1 - p)) : Nat) := by
  have e : k + 1 - p = (k - p) + 1 := by omega
  have h : p + (k - p) < s.size := by omega
  rw [e, take_snoc_drop s p (k - p) h, numFrom_snoc]
  have e2 : p + (k - p) = k := by omega
  simp only [e2]
  omega
theorem num_over (s : ByteArray) (p t k m : Nat) (a : Int) (hpk : p ≤ k) (hlt : k < t) (htl : t ≤ s.size) (htm : t = p + m) (hdg : 48 ≤ (s[k]'(by omega)).toNat ∧ (s[k]'(by omega)).toNat ≤ 57) (hr : a = (numFrom 0 ((s.data.toList.drop p).take (k - p)) : Nat))
    (hov : (9223372036854775807 - (((s[k]'(by omega)).toNat : Int) - 48)) / 10 < a) : 9223372036854775808 ≤ numVal ((s.data.toList.drop p).take m) := by
  have h1 := num_step s p k a hpk (by omega) hdg hr
  have h2 := numVal_ge ((s.data.toList.drop p).take m) (k + 1 - p)
  rw [List.take_take, Nat.min_eq_left (by omega)] at h2
  omega
def NumRel (s : ByteArray) (p t : Nat) (n i : Value) : Prop :=
  ∃ (k : Nat) (a : Int), p ≤ k ∧ k ≤ t ∧ i = .int .i64 k ∧ n = .int .i64 a ∧ 0 ≤ a ∧ a ≤ 9223372036854775807 ∧ a = (numFrom 0 ((s.data.toList.drop p).take (k - p)) : Nat)
set_option maxHeartbeats 1000000 in
theorem ref_number (s : ByteArray) (p : Nat) (q : Int) (w : World) (hs : s.size ≤ 65536) (hp : p < s.size) (hd : isDigit s[p] = true) (hq : q = ((p + spanOf isDigit (s.data.toList.drop p) : Nat) : Int)) :
    Calls Tryz.prog 85 #[.string s, .int .i64 (p : Int), .int .i64 q] w (OneP (numTok (s.data.toList.drop p)) (s.data.toList.drop p) p w) := by
  have hle := spanOf_le isDigit (s.data.toList.drop p)
  rw [List.length_drop, len_list] at hle
  have hpos : 0 < spanOf isDigit (s.data.toList.drop p) := by
    rw [drop_cons s p hp]; exact spanOf_pos _ _ _ hd
  have HN := Lib.hid (numTok_eq (s.data.toList.drop p))
  have HB := Lib.hid (numBad_at s p hp)
  have HDG := Lib.hid (span_digit_at s p)
  clear hd
  generalize hm : spanOf isDigit (s.data.toList.drop p) = m at hle hpos HN HB HDG hq
  clear hm
  obtain ⟨t, ht⟩ : ∃ t : Nat, t = p + m := ⟨_, rfl⟩
  have hq' : q = (t : Int) := by omega
  subst hq'
  have htl : t ≤ s.size := by omega
  have htm : p < t := by omega
  rw [← ht] at HB
  have HTM := Lib.hid ht
  clear hq ht
  cases hbad : numBad (s.data.toList.drop p)
  · have HBAD := Lib.hid hbad
    rw [HB.out, Bool.or_eq_false_iff] at hbad
    have key : (((s[p].toNat : Int) == 48) = false ∨ t ≤ p + 1) ∧ (s.size ≤ t ∨ ∃ h : t < s.size, isPart s[t] = false) := by
      refine ⟨?_, ?_⟩
      · by_cases hz : s[p].toNat = 48
        · right
          have := hbad.1
          have h2 := HTM.out
          simp [hz] at this
          omega
        · left
          rw [beq_eq_false_iff_ne]; omega
      · by_cases h2 : t < s.size
        · right
          exact ⟨h2, by rw [← nextPart_lt s t h2]; exact hbad.2⟩
        · left; omega
    clear hbad HB
    have key1 : (((s[p].toNat : Int) == 48) = false ∨ (((s[p].toNat : Int) == 48) = true ∧ decide ((p : Int) + 1 < (t : Int)) = false)) := by
      cases hz : ((s[p].toNat : Int) == 48)
      · exact .inl rfl
      · rcases key.1 with h | h
        · rw [hz] at h; cases h
        · exact .inr ⟨rfl, by rw [decide_eq_false_iff_not]; omega⟩
    have key2 := key.2
    clear key
    rcases key1 with hz | ⟨hz, h1⟩ <;> rcases key2 with h2 | ⟨h2, h3⟩
    all_goals
      go_enter Tryz.func85, Tryz.ntmps85
      go_wp2_with (go_at_call 93; refine (ref_part _ _).mono ?_; rintro e w' ⟨rfl, rfl⟩)
      go_loop [8, 9] (fun n i => NumRel s p t n i) (fun _ i => t - (intOf i).toNat)
      case atStart => exact ⟨p, 0, Nat.le_refl _, by omega, rfl, rfl, by omega, by omega, by simp [numFrom]⟩
      case round =>
        obtain ⟨k, a, hpk, hkt, rfl, rfl, ha0, ha1, hr⟩ := hrel
        have HR := Lib.hid hr
        clear hr
        by_cases hlt : k < t
        · have hks : k < s.size := by omega
          have hdg : 48 ≤ s[k].toNat ∧ s[k].toNat ≤ 57 := by
            obtain ⟨h1, h2⟩ := HDG.out (k - p) (by have := HTM.out; omega)
            have e : p + (k - p) = k := by omega
            simp only [e] at h2; exact h2
          have hg1 : (48 : Int) ≤ (s[k].toNat : Int) := by omega
          have hg2 : (s[k].toNat : Int) ≤ 57 := by omega
          by_cases hov : (9223372036854775807 - ((s[k].toNat : Int) - 48)) / 10 < a
          · go_wp2_with fail
            refine bodyPost_ret (v := oneV (.bad 4) (s.data.toList.drop p) p) ?_ rfl ⟨?_, ?_⟩
            · simp [results, Tryz.results85, go_sem, oneV, tokAgg]
              rfl
            · rw [HN.out, HBAD.out, if_neg (by simp), if_pos (num_over s p t k m a hpk hlt htl HTM.out hdg HR.out hov)]
            · exact (Below.refl _ _).alloc (Nat.le_refl _) _
          · go_wp2_with fail
            go_round
            case rel => exact ⟨k + 1, _, by omega, by omega, by go_num, rfl, by omega, by omega, num_step s p k a hpk hks hdg HR.out⟩
            case measure => simp [intOf]; omega
        · obtain rfl : k = t := by omega
          go_wp2_with fail
          have hm2 : k - p = m := by have := HTM.out; omega
          have hr := HR.out
          rw [hm2] at hr
          have hle9 : ¬ 9223372036854775808 ≤ numVal ((s.data.toList.drop p).take m) := by
            have e : numVal ((s.data.toList.drop p).take m) = numFrom 0 ((s.data.toList.drop p).take m) := rfl
            rw [e]; omega
          refine bodyPost_ret (v := oneV (.ok 3 m (numVal ((s.data.toList.drop p).take m))) (s.data.toList.drop p) p) ?_ rfl ⟨?_, ?_⟩
          · simp [results, Tryz.results85, go_sem, oneV, tokAgg, extract_strOf, hm2]
            exact hr
          · rw [HN.out, HBAD.out, if_neg (by simp), if_neg hle9]
          · exact (Below.refl _ _).alloc (Nat.le_refl _) _
  · have HBAD := Lib.hid hbad
    rw [HB.out, Bool.or_eq_true] at hbad
    have key : (((s[p].toNat : Int) == 48) = true ∧ p + 1 < t) ∨ ((((s[p].toNat : Int) == 48) = false ∨ (((s[p].toNat : Int) == 48) = true ∧ t ≤ p + 1)) ∧ ∃ h : t < s.size, isPart s[t] = true) := by
      have htm2 := HTM.out
      by_cases hz : s[p].toNat = 48 ∧ 1 < m
      · exact .inl ⟨by rw [beq_iff_eq]; omega, by omega⟩
      · right
        refine ⟨?_, ?_⟩
        · by_cases hz0 : s[p].toNat = 48
          · right; exact ⟨by rw [beq_iff_eq]; omega, by omega⟩
          · left; rw [beq_eq_false_iff_ne]; omega
        · rcases hbad with h | h
          · simp only [Bool.and_eq_true, decide_eq_true_eq] at h; exact absurd h hz
          · by_cases h2 : t < s.size
            · exact ⟨h2, by rw [← nextPart_lt s t h2]; exact h⟩
            · rw [nextPart_ge s t (by omega)] at h; cases h
    clear hbad HB
    rcases key with ⟨hz, h1⟩ | ⟨hz | ⟨hz, h1⟩, h2, h3⟩
    all_goals
      go_enter Tryz.func85, Tryz.ntmps85
      go_wp2_with (go_at_call 93; refine (ref_part _ _).mono ?_; rintro e w' ⟨rfl, rfl⟩)
      refine bodyPost_ret (v := oneV (.bad 2) (s.data.toList.drop p) p) ?_ rfl ⟨by rw [HN.out, HBAD.out, if_pos rfl], ?_⟩
      · simp [results, Tryz.results85, go_sem, oneV, tokAgg]
        rfl
      · exact (Below.refl _ _).alloc (Nat.le_refl _) _
end Go.Proofs.YthjonkommphkkaaGreatDoor
