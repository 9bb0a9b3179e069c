/-
  The reference's end and number, walked.
-/
import Derived.Test.YthjonkommphkkaaGreatDoorJpAo
import Derived.Outline
namespace Go.Proofs.YthjonkommphkkaaGreatDoor
open Lx Go.RowKit
set_option maxHeartbeats 1000000 in
theorem ref_end_word (s : ByteArray) (p : Nat) (w : World) (hs : s.size ≤ 65536) (hp : p < s.size) (hl : isLetter s[p] = true) : Calls Tryz.prog 82 #[.string s, .int .i64 (p : Int)] w fun e w' => e = .returned (.int .i64 ((p + spanOf isPart (s.data.toList.drop p) : Nat) : Int)) ∧ w = w' := by
  have HLT := Lib.hid hl
  clear hl
  go_enter Tryz.func82, Tryz.ntmps82
  go_wp2_with fail
  refine (ref_letter _ _).mono ?_
  rintro e w' ⟨rfl, rfl⟩
  rw [HLT.out]
  go_wp2_with fail
  go_loop [1] (fun a => ∃ k : Nat, p ≤ k ∧ k ≤ s.size ∧ a = .int .i64 k ∧ p + spanOf isPart (s.data.toList.drop p) = k + spanOf isPart (s.data.toList.drop k)) (fun a => s.size - (intOf a).toNat)
  case atStart => exact ⟨p, Nat.le_refl _, by omega, rfl, rfl⟩
  case round =>
    obtain ⟨k, hpk, hk, rfl, hr⟩ := hrel
    have HR := Lib.hid hr
    clear hr
    by_cases hlt : k < s.size
    · cases hq : isPart s[k]
      · have HQ := Lib.hid hq
        go_wp2_with (go_at_call 93; refine (ref_part _ _).mono ?_; rintro e w' ⟨rfl, rfl⟩)
        go_ret
        exact ⟨ret_int (by rw [HR.out, spanOf_stop _ _ _ hlt HQ.out]; simp), rfl⟩
      · have HQ := Lib.hid hq
        go_wp2_with (go_at_call 93; refine (ref_part _ _).mono ?_; rintro e w' ⟨rfl, rfl⟩)
        go_round
        case rel => exact ⟨k + 1, by omega, by omega, by go_num, by rw [HR.out, spanOf_go _ _ _ hlt HQ.out]; omega⟩
        case measure => simp [intOf]; omega
    · go_wp2_with fail
      go_ret
      exact ⟨ret_int (by have h := HR.out; have h2 := spanOf_end isPart s k (by omega); omega), rfl⟩
set_option maxHeartbeats 1000000 in
theorem ref_end_num (s : ByteArray) (p : Nat) (w : World) (hs : s.size ≤ 65536) (hp : p < s.size) (hl : isLetter s[p] = false) : Calls Tryz.prog 82 #[.string s, .int .i64 (p : Int)] w fun e w' => e = .returned (.int .i64 ((p + spanOf isDigit (s.data.toList.drop p) : Nat) : Int)) ∧ w = w' := by
  have HLT := Lib.hid hl
  clear hl
  go_enter Tryz.func82, Tryz.ntmps82
  go_wp2_with fail
  refine (ref_letter _ _).mono ?_
  rintro e w' ⟨rfl, rfl⟩
  rw [HLT.out]
  go_wp2_with fail
  go_loop [1] (fun a => ∃ k : Nat, p ≤ k ∧ k ≤ s.size ∧ a = .int .i64 k ∧ p + spanOf isDigit (s.data.toList.drop p) = k + spanOf isDigit (s.data.toList.drop k)) (fun a => s.size - (intOf a).toNat)
  case atStart => exact ⟨p, Nat.le_refl _, by omega, rfl, rfl⟩
  case round =>
    obtain ⟨k, hpk, hk, rfl, hr⟩ := hrel
    have HR := Lib.hid hr
    clear hr
    by_cases hlt : k < s.size
    · cases hq : isDigit s[k]
      · have HQ := Lib.hid hq
        go_wp2_with (go_at_call 84; refine (ref_digit _ _).mono ?_; rintro e w' ⟨rfl, rfl⟩)
        go_ret
        exact ⟨ret_int (by rw [HR.out, spanOf_stop _ _ _ hlt HQ.out]; simp), rfl⟩
      · have HQ := Lib.hid hq
        go_wp2_with (go_at_call 84; refine (ref_digit _ _).mono ?_; rintro e w' ⟨rfl, rfl⟩)
        go_round
        case rel => exact ⟨k + 1, by omega, by omega, by go_num, by rw [HR.out, spanOf_go _ _ _ hlt HQ.out]; omega⟩
        case measure => simp [intOf]; omega
    · go_wp2_with fail
      go_ret
      exact ⟨ret_int (by have h := HR.out; have h2 := spanOf_end isDigit s k (by omega); omega), rfl⟩
namespace Lx
theorem span_digit_at (s : ByteArray) (p j : Nat) (hj : j < spanOf isDigit (s.data.toList.drop p)) : ∃ h : p + j < s.size, 48 ≤ s[p + j].toNat ∧ s[p + j].toNat ≤ 57 := by
  have hle := spanOf_le isDigit (s.data.toList.drop p)
  rw [List.length_drop, len_list] at hle
  have h : p + j < s.size := by omega
  refine ⟨h, ?_⟩
  have ha := List.all_eq_true.1 (take_span_all isDigit (s.data.toList.drop p)) s[p + j] (by
    rw [List.mem_iff_getElem?]
    refine ⟨j, ?_⟩
    rw [List.getElem?_take_of_lt hj, List.getElem?_drop, List.getElem?_eq_getElem (by simpa using h)]
    rfl)
  simpa [isDigit] using ha
theorem numFrom_snoc (acc : Nat) (l : Bytes) (c : UInt8) : numFrom acc (l ++ [c]) = numFrom acc l * 10 + (c.toNat - 48) := by
  unfold numFrom; rw [List.foldl_append]; rfl
theorem take_snoc_drop (s : ByteArray) (p j : Nat) (h : p + j < s.size) : (s.data.toList.drop p).take (j + 1) = (s.data.toList.drop p).take j ++ [s[p + j]] := by
  rw [List.take_succ_eq_append_getElem (by rw [List.length_drop, len_list]; omega)]
  congr 2
  rw [List.getElem_drop]; rfl
theorem numVal_ge (l : Bytes) (j : Nat) : numFrom 0 (l.take j) ≤ numVal l := by
  have e : numVal l = numFrom (numFrom 0 (l.take j)) (l.drop j) := by
    show numFrom 0 l = _
    conv => lhs; rw [← List.take_append_drop j l]
    unfold numFrom; rw [List.foldl_append]
  rw [e]; exact numFrom_ge _ _
theorem numBad_at (s : ByteArray) (p : Nat) (h : p < s.size) : numBad (s.data.toList.drop p) = ((decide (s[p].toNat = 48) && decide (1 < spanOf isDigit (s.data.toList.drop p))) || nextPart (s.data.toList.drop (p + spanOf isDigit (s.data.toList.drop p)))) := by
  unfold numBad
  rw [List.drop_drop]
  congr 2
  rw [Bool.eq_iff_iff]
  simp only [decide_eq_true_eq]
  rw [drop_cons s p h]
  simp only [List.head?_cons, Option.some.injEq]
  constructor
  · intro h; rw [h]; rfl
  · intro h; exact UInt8.toNat_inj.1 h
end Lx
theorem num_step (s : ByteArray) (p k : Nat) (a : Int) (hpk : p ≤ k) (hks : k < s.size) (hdg : 48 ≤ s[k].toNat ∧ s[k].toNat ≤ 57) (hr : a = (numFrom 0 ((s.data.toList.drop p).take (k - p)) : Nat)) :
    a * 10 + ((s[k].toNat : Int) - 48) = (numFrom 0 ((s.data.toList.drop p).take (k + 1 - p)) : Nat) := by
  have e : k + 1 - p = (k - p) + 1 := by omega
  have h : p + (k - p) < s.size := by omega
  rw [e, take_snoc_drop s p (k - p) h, numFrom_snoc]
  have e2 : p + (k - p) = k := by omega
  simp only [e2]
  omega
theorem num_over (s : ByteArray) (p t k m : Nat) (a : Int) (hpk : p ≤ k) (hlt : k < t) (htl : t ≤ s.size) (htm : t = p + m) (hdg : 48 ≤ (s[k]'(by omega)).toNat ∧ (s[k]'(by omega)).toNat ≤ 57) (hr : a = (numFrom 0 ((s.data.toList.drop p).take (k - p)) : Nat))
    (hov : (9223372036854775807 - (((s[k]'(by omega)).toNat : Int) - 48)) / 10 < a) : 9223372036854775808 ≤ numVal ((s.data.toList.drop p).take m) := by
  have h1 := num_step s p k a hpk (by omega) hdg hr
  have h2 := numVal_ge ((s.data.toList.drop p).take m) (k + 1 - p)
  rw [List.take_take, Nat.min_eq_left (by omega)] at h2
  omega
def NumRel (s : ByteArray) (p t : Nat) (n i : Value) : Prop :=
  ∃ (k : Nat) (a : Int), p ≤ k ∧ k ≤ t ∧ i = .int .i64 k ∧ n = .int .i64 a ∧ 0 ≤ a ∧ a ≤ 9223372036854775807 ∧ a = (numFrom 0 ((s.data.toList.drop p).take (k - p)) : Nat)
set_option maxHeartbeats 1000000 in
theorem ref_number (s : ByteArray) (p : Nat) (q : Int) (w : World) (hs : s.size ≤ 65536) (hp : p < s.size) (hd : isDigit s[p] = true) (hq : q = ((p + spanOf isDigit (s.data.toList.drop p) : Nat) : Int)) :
    Calls Tryz.prog 85 #[.string s, .int .i64 (p : Int), .int .i64 q] w (OneP (numTok (s.data.toList.drop p)) (s.data.toList.drop p) p w) := by
  have hle := spanOf_le isDigit (s.data.toList.drop p)
  rw [List.length_drop, len_list] at hle
  have hpos : 0 < spanOf isDigit (s.data.toList.drop p) := by
    rw [drop_cons s p hp]; exact spanOf_pos _ _ _ hd
  have HN := Lib.hid (numTok_eq (s.data.toList.drop p))
  have HB := Lib.hid (numBad_at s p hp)
  have HDG := Lib.hid (span_digit_at s p)
  clear hd
  generalize hm : spanOf isDigit (s.data.toList.drop p) = m at hle hpos HN HB HDG hq
  clear hm
  obtain ⟨t, ht⟩ : ∃ t : Nat, t = p + m := ⟨_, rfl⟩
  have hq' : q = (t : Int) := by omega
  subst hq'
  have htl : t ≤ s.size := by omega
  have htm : p < t := by omega
  rw [← ht] at HB
  have HTM := Lib.hid ht
  clear hq ht
  cases hbad : numBad (s.data.toList.drop p)
  · have HBAD := Lib.hid hbad
    rw [HB.out, Bool.or_eq_false_iff] at hbad
    have key : (((s[p].toNat : Int) == 48) = false ∨ t ≤ p + 1) ∧ (s.size ≤ t ∨ ∃ h : t < s.size, isPart s[t] = false) := by
      refine ⟨?_, ?_⟩
      · by_cases hz : s[p].toNat = 48
        · right
          have := hbad.1
          have h2 := HTM.out
          simp [hz] at this
          omega
        · left
          rw [beq_eq_false_iff_ne]; omega
      · by_cases h2 : t < s.size
        · right
          exact ⟨h2, by rw [← nextPart_lt s t h2]; exact hbad.2⟩
        · left; omega
    clear hbad HB
    have key1 : (((s[p].toNat : Int) == 48) = false ∨ (((s[p].toNat : Int) == 48) = true ∧ decide ((p : Int) + 1 < (t : Int)) = false)) := by
      cases hz : ((s[p].toNat : Int) == 48)
      · exact .inl rfl
      · rcases key.1 with h | h
        · rw [hz] at h; cases h
        · exact .inr ⟨rfl, by rw [decide_eq_false_iff_not]; omega⟩
    have key2 := key.2
    clear key
    rcases key1 with hz | ⟨hz, h1⟩ <;> rcases key2 with h2 | ⟨h2, h3⟩
    all_goals
      go_enter Tryz.func85, Tryz.ntmps85
      go_wp2_with (go_at_call 93; refine (ref_part _ _).mono ?_; rintro e w' ⟨rfl, rfl⟩)
      go_loop [8, 9] (fun n i => NumRel s p t n i) (fun _ i => t - (intOf i).toNat)
      case atStart => exact ⟨p, 0, Nat.le_refl _, by omega, rfl, rfl, by omega, by omega, by simp [numFrom]⟩
      case round =>
        obtain ⟨k, a, hpk, hkt, rfl, rfl, ha0, ha1, hr⟩ := hrel
        have HR := Lib.hid hr
        clear hr
        by_cases hlt : k < t
        · have hks : k < s.size := by omega
          have hdg : 48 ≤ s[k].toNat ∧ s[k].toNat ≤ 57 := by
            obtain ⟨h1, h2⟩ := HDG.out (k - p) (by have := HTM.out; omega)
            have e : p + (k - p) = k := by omega
            simp only [e] at h2; exact h2
          have hg1 : (48 : Int) ≤ (s[k].toNat : Int) := by omega
          have hg2 : (s[k].toNat : Int) ≤ 57 := by omega
          by_cases hov : (9223372036854775807 - ((s[k].toNat : Int) - 48)) / 10 < a
          · go_wp2_with fail
            refine bodyPost_ret (v := oneV (.bad 4) (s.data.toList.drop p) p) ?_ rfl ⟨?_, ?_⟩
            · simp [results, Tryz.results85, go_sem, oneV, tokAgg]
              rfl
            · rw [HN.out, HBAD.out, if_neg (by simp), if_pos (num_over s p t k m a hpk hlt htl HTM.out hdg HR.out hov)]
            · exact (Below.refl _ _).alloc (Nat.le_refl _) _
          · go_wp2_with fail
            go_round
            case rel => exact ⟨k + 1, _, by omega, by omega, by go_num, rfl, by omega, by omega, num_step s p k a hpk hks hdg HR.out⟩
            case measure => simp [intOf]; omega
        · obtain rfl : k = t := by omega
          go_wp2_with fail
          have hm2 : k - p = m := by have := HTM.out; omega
          have hr := HR.out
          rw [hm2] at hr
          have hle9 : ¬ 9223372036854775808 ≤ numVal ((s.data.toList.drop p).take m) := by
            have e : numVal ((s.data.toList.drop p).take m) = numFrom 0 ((s.data.toList.drop p).take m) := rfl
            rw [e]; omega
          refine bodyPost_ret (v := oneV (.ok 3 m (numVal ((s.data.toList.drop p).take m))) (s.data.toList.drop p) p) ?_ rfl ⟨?_, ?_⟩
          · simp [results, Tryz.results85, go_sem, oneV, tokAgg, extract_strOf, hm2]
            exact hr
          · rw [HN.out, HBAD.out, if_neg (by simp), if_neg hle9]
          · exact (Below.refl _ _).alloc (Nat.le_refl _) _
  · have HBAD := Lib.hid hbad
    rw [HB.out, Bool.or_eq_true] at hbad
    have key : (((s[p].toNat : Int) == 48) = true ∧ p + 1 < t) ∨ ((((s[p].toNat : Int) == 48) = false ∨ (((s[p].toNat : Int) == 48) = true ∧ t ≤ p + 1)) ∧ ∃ h : t < s.size, isPart s[t] = true) := by
      have htm2 := HTM.out
      by_cases hz : s[p].toNat = 48 ∧ 1 < m
      · exact .inl ⟨by rw [beq_iff_eq]; omega, by omega⟩
      · right
        refine ⟨?_, ?_⟩
        · by_cases hz0 : s[p].toNat = 48
          · right; exact ⟨by rw [beq_iff_eq]; omega, by omega⟩
          · left; rw [beq_eq_false_iff_ne]; omega
        · rcases hbad with h | h
          · simp only [Bool.and_eq_true, decide_eq_true_eq] at h; exact absurd h hz
          · by_cases h2 : t < s.size
            · exact ⟨h2, by rw [← nextPart_lt s t h2]; exact h⟩
            · rw [nextPart_ge s t (by omega)] at h; cases h
    clear hbad HB
    rcases key with ⟨hz, h1⟩ | ⟨hz | ⟨hz, h1⟩, h2, h3⟩
    all_goals
      go_enter Tryz.func85, Tryz.ntmps85
      go_wp2_with (go_at_call 93; refine (ref_part _ _).mono ?_; rintro e w' ⟨rfl, rfl⟩)
      refine bodyPost_ret (v := oneV (.bad 2) (s.data.toList.drop p) p) ?_ rfl ⟨by rw [HN.out, HBAD.out, if_pos rfl], ?_⟩
      · simp [results, Tryz.results85, go_sem, oneV, tokAgg]
        rfl
      · exact (Below.refl _ _).alloc (Nat.le_refl _) _
end Go.Proofs.YthjonkommphkkaaGreatDoor
namespace Go.Proofs.YthjonkommphkkaaGreatDoor
open Lx Go.RowKit
namespace Lx
def markBytes : Bytes := [123, 125, 40, 41, 59, 44, 46, 60, 43, 45, 42, 58, 61]
def twice (c : UInt8) (t : Bytes) : Bool := (decide (c.toNat = 58) || decide (c.toNat = 61)) && decide (t.head? = some c)
theorem markLen_cons (c : UInt8) (t : Bytes) : markLen (c :: t) = if markBytes.contains c then some (if twice c t then 2 else 1) else none := by
  have hx : ∀ x : UInt8, ([x] : Bytes).isPrefixOf (c :: t) = (x == c) := by intro x; simp [List.isPrefixOf]
  have h2 : ∀ x y : UInt8, ([x, y] : Bytes).isPrefixOf (c :: t) = ((x == c) && decide (t.head? = some y)) := by
    intro x y
    cases t with
    | nil => simp [List.isPrefixOf]
    | cons d u => simp only [List.isPrefixOf, List.head?_cons, Option.some.injEq, Bool.and_true]; congr 1; rw [Bool.eq_iff_iff, beq_iff_eq, decide_eq_true_eq]; exact ⟨Eq.symm, Eq.symm⟩
  simp only [markLen, markList, List.find?_cons, hx, h2, List.find?_nil, markBytes]
  by_cases c1 : c = 58
  · subst c1
    cases hh : decide (t.head? = some 58) <;> simp [twice, hh]
  by_cases c2 : c = 61
  · subst c2
    cases hh : decide (t.head? = some 61) <;> simp [twice, hh]
  have n1 : ((58 : UInt8) == c) = false := by rw [beq_eq_false_iff_ne]; exact fun h => c1 h.symm
  have n2 : ((61 : UInt8) == c) = false := by rw [beq_eq_false_iff_ne]; exact fun h => c2 h.symm
  have tw : twice c t = false := by
    have e1 : ¬ c.toNat = 58 := fun h => c1 (UInt8.toNat_inj.1 h)
    have e2 : ¬ c.toNat = 61 := fun h => c2 (UInt8.toNat_inj.1 h)
    simp [twice, e1, e2]
  simp only [n1, n2, tw, Bool.false_and]
  by_cases c3 : c = 123; · subst c3; rfl
  by_cases c4 : c = 125; · subst c4; rfl
  by_cases c5 : c = 40; · subst c5; rfl
  by_cases c6 : c = 41; · subst c6; rfl
  by_cases c7 : c = 59; · subst c7; rfl
  by_cases c8 : c = 44; · subst c8; rfl
  by_cases c9 : c = 46; · subst c9; rfl
  by_cases c10 : c = 60; · subst c10; rfl
  by_cases c11 : c = 43; · subst c11; rfl
  by_cases c12 : c = 45; · subst c12; rfl
  by_cases c13 : c = 42; · subst c13; rfl
  have nn : ∀ x : UInt8, ¬ c = x → (x == c) = false := fun x h => by rw [beq_eq_false_iff_ne]; exact fun e => h e.symm
  have hc : ([123, 125, 40, 41, 59, 44, 46, 60, 43, 45, 42, 58, 61] : Bytes).contains c = false := by
    simp [c1, c2, c3, c4, c5, c6, c7, c8, c9, c10, c11, c12, c13]
  simp only [nn _ c3, nn _ c4, nn _ c5, nn _ c6, nn _ c7, nn _ c8, nn _ c9, nn _ c10, nn _ c11, nn _ c12, nn _ c13, hc, Option.map_none, Bool.false_eq_true, if_false]
theorem twice_at (s : ByteArray) (p : Nat) (hp : p < s.size) : twice s[p] (s.data.toList.drop (p + 1)) = true ↔ (s[p].toNat = 58 ∨ s[p].toNat = 61) ∧ ∃ h : p + 1 < s.size, s[p + 1].toNat = s[p].toNat := by
  simp only [twice, Bool.and_eq_true, Bool.or_eq_true, decide_eq_true_eq]
  refine and_congr Iff.rfl ?_
  by_cases h : p + 1 < s.size
  · rw [drop_cons s (p + 1) h]
    simp only [List.head?_cons, Option.some.injEq]
    exact ⟨fun e => ⟨h, by rw [e]⟩, fun ⟨_, e⟩ => UInt8.toNat_inj.1 e⟩
  · rw [List.drop_eq_nil_of_le (by rw [len_list]; omega)]
    simp; omega
theorem contains_drop_hit {l : Bytes} {r : Bytes} {c m : UInt8} (h : l = m :: r) (e : m = c) : l.contains c = true := by subst h; subst e; simp
theorem contains_drop_miss {l : Bytes} {r : Bytes} {c m : UInt8} (h : l = m :: r) (e : m ≠ c) : l.contains c = r.contains c := by
  subst h; simp only [List.contains_cons]; rw [beq_eq_false_iff_ne.2 (fun x => e x.symm), Bool.false_or]
theorem oneTok_at (s : ByteArray) (p : Nat) (hp : p < s.size) : oneTok (s.data.toList.drop p) = if isLetter s[p] then wordTok (s.data.toList.drop p) else if isDigit s[p] then numTok (s.data.toList.drop p) else markTok (s.data.toList.drop p) := by
  rw [drop_cons s p hp]; rfl
theorem markTok_at (s : ByteArray) (p : Nat) (hp : p < s.size) : markTok (s.data.toList.drop p) = if markBytes.contains s[p] then .ok 4 (if twice s[p] (s.data.toList.drop (p + 1)) then 2 else 1) 0 else .bad 2 := by
  unfold markTok
  rw [drop_cons s p hp, markLen_cons]
  split
  · rename_i h
    split at h
    · rename_i h1; rw [if_pos h1]; cases h; rfl
    · cases h
  · rename_i h
    split at h
    · cases h
    · rename_i h1; rw [if_neg h1]
end Lx
theorem mb_index (k : Nat) (hk : k < 13) : ∃ m : UInt8, markBytes.drop k = m :: markBytes.drop (k + 1) ∧ ∀ w, (Instr.index 9 (.string ⟨#[123, 125, 40, 41, 59, 44, 46, 60, 43, 45, 42, 58, 61]⟩) (.int .i64 (k : Int))).run Tryz.prog w = .ok (.int .u8 (m.toNat : Int)) w := by
  match k, hk with
  | 0, _ => exact ⟨_, rfl, fun _ => by kernel_rfl⟩
  | 1, _ => exact ⟨_, rfl, fun _ => by kernel_rfl⟩
  | 2, _ => exact ⟨_, rfl, fun _ => by kernel_rfl⟩
  | 3, _ => exact ⟨_, rfl, fun _ => by kernel_rfl⟩
  | 4, _ => exact ⟨_, rfl, fun _ => by kernel_rfl⟩
  | 5, _ => exact ⟨_, rfl, fun _ => by kernel_rfl⟩
  | 6, _ => exact ⟨_, rfl, fun _ => by kernel_rfl⟩
  | 7, _ => exact ⟨_, rfl, fun _ => by kernel_rfl⟩
  | 8, _ => exact ⟨_, rfl, fun _ => by kernel_rfl⟩
  | 9, _ => exact ⟨_, rfl, fun _ => by kernel_rfl⟩
  | 10, _ => exact ⟨_, rfl, fun _ => by kernel_rfl⟩
  | 11, _ => exact ⟨_, rfl, fun _ => by kernel_rfl⟩
  | 12, _ => exact ⟨_, rfl, fun _ => by kernel_rfl⟩
  | n + 13, h => omega
theorem slice_run (s : ByteArray) (p k : Nat) (w : World) (h : p + k ≤ s.size) : (Instr.slice 9 (.string s) (some (.int .i64 (p : Int))) (some (.int .i64 ((p : Int) + (k : Int)))) none).run Tryz.prog w = .ok (.string (s.extract p (p + k))) w := by
  have := run_slice_string (P := Tryz.prog) (w := w) 9 s .i64 .i64 (p : Int) ((p : Int) + (k : Int)) Tryz.underlying9 (by omega) (by omega) (by omega)
  rw [this]
  congr
set_option maxHeartbeats 1000000 in
set_option maxRecDepth 100000 in
theorem ref_one (s : ByteArray) (p : Nat) (w : World) (hs : s.size ≤ 65536) (hp : p < s.size) :
    Calls Tryz.prog 51 #[.string s, .int .i64 (p : Int)] w (OneP (oneTok (s.data.toList.drop p)) (s.data.toList.drop p) p w) := by
  have HO := Lib.hid (oneTok_at s p hp)
  go_enter Tryz.func51, Tryz.ntmps51
  go_wp2_with fail
  refine (ref_letter _ _).mono ?_
  rintro e w' ⟨rfl, rfl⟩
  cases hl : isLetter s[p]
  · have HLt := Lib.hid hl
    go_wp2_with fail
    refine (ref_digit _ _).mono ?_
    rintro e w' ⟨rfl, rfl⟩
    cases hd : isDigit s[p]
    · have HD := Lib.hid hd
      have HMK := Lib.hid (markTok_at s p hp)
      have HTW := Lib.hid (twice_at s p hp)
      go_wp2_with fail
      go_loop [9] (fun i => ∃ k : Nat, k ≤ 13 ∧ i = .int .i64 k ∧ markBytes.contains s[p] = (markBytes.drop k).contains s[p]) (fun i => 13 - (intOf i).toNat)
      case atStart => exact ⟨0, by omega, rfl, rfl⟩
      case round =>
        obtain ⟨k, hk, rfl, hr⟩ := hrel
        have HR := Lib.hid hr
        clear hr
        by_cases hlt : k < 13
        · obtain ⟨m, hm, hidx⟩ := mb_index k hlt
          have HM := Lib.hid hm
          clear hm
          by_cases he : m = s[p]
          · have HE := Lib.hid he
            have e1 : ((m.toNat : Int) != (s[p].toNat : Int)) = false := by rw [bne_eq_false_iff_eq, he]
            have e2 : (m.toNat != s[p].toNat) = false := by rw [bne_eq_false_iff_eq, he]
            have HC : Hid (markBytes.contains s[p] = true) := HR.out.trans (contains_drop_hit HM.out HE.out)
            clear he HE HR HM
            cases htw : twice s[p] (s.data.toList.drop (p + 1))
            · have HTW2 := Lib.hid htw
              have key : (((s[p].toNat : Int) == 58) = false ∧ ((s[p].toNat : Int) == 61) = false) ∨ ((((s[p].toNat : Int) == 58) = true ∨ (((s[p].toNat : Int) == 58) = false ∧ ((s[p].toNat : Int) == 61) = true)) ∧ (s.size ≤ p + 1 ∨ ∃ h : p + 1 < s.size, ((s[p + 1].toNat : Int) == (s[p].toNat : Int)) = false ∧ (s[p + 1].toNat == s[p].toNat) = false)) := by
                have hn := (not_congr HTW.out).1 (by rw [htw]; simp)
                by_cases h58 : s[p].toNat = 58 ∨ s[p].toNat = 61
                · right
                  refine ⟨?_, ?_⟩
                  · by_cases h : s[p].toNat = 58
                    · left; rw [beq_iff_eq]; omega
                    · right; exact ⟨by rw [beq_eq_false_iff_ne]; omega, by rw [beq_iff_eq]; omega⟩
                  · by_cases h : p + 1 < s.size
                    · right
                      refine ⟨h, ?_⟩
                      have : ¬ s[p + 1].toNat = s[p].toNat := fun e => hn ⟨h58, h, e⟩
                      exact ⟨by rw [beq_eq_false_iff_ne]; omega, by rw [beq_eq_false_iff_ne]; omega⟩
                    · left; omega
                · left
                  exact ⟨by rw [beq_eq_false_iff_ne]; omega, by rw [beq_eq_false_iff_ne]; omega⟩
              clear htw
              have hsl : ∀ w, (Instr.slice 9 (.string s) (some (.int .i64 (p : Int))) (some (.int .i64 ((p : Int) + 1))) none).run Tryz.prog w = .ok (.string (s.extract p (p + 1))) w := fun w => slice_run s p 1 w (by omega)
              rcases key with ⟨k1, k2⟩ | ⟨k1 | ⟨k1, k2⟩, k3 | ⟨k3, k4, k5⟩⟩
              all_goals
                go_wp2_with fail
                refine bodyPost_ret (v := oneV (.ok 4 1 0) (s.data.toList.drop p) p) ?_ rfl ⟨by rw [HO.out, HLt.out, HD.out, HMK.out, HC.out, HTW2.out]; rfl, ?_⟩
                · simp [results, Tryz.results51, go_sem, oneV, tokAgg, extract_strOf]
                · exact (Below.refl _ _).alloc (Nat.le_refl _) _
            · have HTW2 := Lib.hid htw
              obtain ⟨h58, hp1, heq⟩ := HTW.out.1 htw
              have k4 : ((s[p + 1].toNat : Int) == (s[p].toNat : Int)) = true := by rw [beq_iff_eq]; omega
              have k5 : (s[p + 1].toNat == s[p].toNat) = true := by rw [beq_iff_eq]; omega
              have key : (((s[p].toNat : Int) == 58) = true ∨ (((s[p].toNat : Int) == 58) = false ∧ ((s[p].toNat : Int) == 61) = true)) := by
                by_cases h : s[p].toNat = 58
                · left; rw [beq_iff_eq]; omega
                · right; exact ⟨by rw [beq_eq_false_iff_ne]; omega, by rw [beq_iff_eq]; omega⟩
              clear htw heq h58
              have hsl : ∀ w, (Instr.slice 9 (.string s) (some (.int .i64 (p : Int))) (some (.int .i64 ((p : Int) + 2))) none).run Tryz.prog w = .ok (.string (s.extract p (p + 2))) w := fun w => slice_run s p 2 w (by omega)
              rcases key with k1 | ⟨k1, k2⟩
              all_goals
                go_wp2_with fail
                refine bodyPost_ret (v := oneV (.ok 4 2 0) (s.data.toList.drop p) p) ?_ rfl ⟨by rw [HO.out, HLt.out, HD.out, HMK.out, HC.out, HTW2.out]; rfl, ?_⟩
                · simp [results, Tryz.results51, go_sem, oneV, tokAgg, extract_strOf]
                · exact (Below.refl _ _).alloc (Nat.le_refl _) _
          · have HE := Lib.hid he
            have hne : ¬ m.toNat = s[p].toNat := fun e => he (UInt8.toNat_inj.1 e)
            have e1 : ((m.toNat : Int) != (s[p].toNat : Int)) = true := by rw [bne_iff_ne]; omega
            have e2 : (m.toNat != s[p].toNat) = true := by rw [bne_iff_ne]; omega
            clear he hne
            go_wp2_with fail
            go_round
            case rel => exact ⟨k + 1, by omega, by go_num, by rw [HR.out]; exact contains_drop_miss HM.out HE.out⟩
            case measure => simp [intOf]; omega
        · have HC : Hid (markBytes.contains s[p] = false) := by
            rw [List.drop_eq_nil_of_le (by simp [markBytes]; omega)] at HR
            exact HR.out
          go_wp2_with fail
          refine bodyPost_ret (v := oneV (.bad 2) (s.data.toList.drop p) p) ?_ rfl ⟨by rw [HO.out, HLt.out, HD.out, HMK.out, HC.out]; rfl, ?_⟩
          · simp [results, Tryz.results51, go_sem, oneV, tokAgg]
            rfl
          · exact (Below.refl _ _).alloc (Nat.le_refl _) _
    · have HD := Lib.hid hd
      go_wp2_with fail
      refine (ref_end_num s p _ hs hp HLt.out).mono ?_
      rintro e w' ⟨rfl, rfl⟩
      obtain ⟨q, hq⟩ : ∃ q : Nat, q = p + spanOf isDigit (s.data.toList.drop p) := ⟨_, rfl⟩
      rw [← hq]
      have HQ := Lib.hid hq
      clear hq
      go_wp2_with fail
      refine (ref_number s p _ _ hs hp HD.out (by rw [HQ.out])).mono ?_
      rintro e w2 ⟨rfl, hb⟩
      obtain ⟨k, p', x, n, er, hv⟩ := oneV_form (numTok (s.data.toList.drop p)) (s.data.toList.drop p) p
      rw [hv]
      have HV := Lib.hid hv
      clear hv
      have HBE := Lib.hid hb
      obtain ⟨hc, hf⟩ := bcell hb
      have hz : w.heap.size < w2.heap.size := by have := hb.size; simp at this; omega
      clear hb
      go_wp2_with fail
      refine bodyPost_ret (v := oneV (numTok (s.data.toList.drop p)) (s.data.toList.drop p) p) ?_ rfl ⟨by rw [HO.out, HLt.out, HD.out]; rfl, ?_⟩
      · rw [HV.out]
        simp [results, Tryz.results51, go_sem, hc]
      · exact below_set4 (((Below.refl _ _).alloc (Nat.le_refl _) _).trans (HBE.out.mono (by simp))) (Nat.le_refl _) _ _ _ _
  · have HLt := Lib.hid hl
    have hle := spanOf_le isPart (s.data.toList.drop p)
    rw [List.length_drop, len_list] at hle
    have HW := Lib.hid (wordTok_eq (s.data.toList.drop p))
    go_wp2_with fail
    refine (ref_end_word s p _ hs hp HLt.out).mono ?_
    rintro e w' ⟨rfl, rfl⟩
    generalize hm : spanOf isPart (s.data.toList.drop p) = m at hle HW ⊢
    clear hm
    obtain ⟨q, hq⟩ : ∃ q : Nat, q = p + m := ⟨_, rfl⟩
    rw [← hq]
    have hpq : p ≤ q := by omega
    have hqs : q ≤ s.size := by omega
    have hqm : q - p = m := by omega
    have HQ := Lib.hid hqm
    clear hq hqm
    have HX : Hid (s.extract p q = strOf ((s.data.toList.drop p).take m)) := by show _ = _; rw [extract_strOf, HQ.out]
    have hsz : (s.extract p q).size = q - p := by rw [HX.out, strOf_size]; simp; have := HQ.out; omega
    by_cases h32 : 32 < m
    · have h32' : 32 < q - p := by have := HQ.out; omega
      go_wp2_with fail
      refine bodyPost_ret (v := oneV (.bad 3) (s.data.toList.drop p) p) ?_ rfl ⟨by rw [HO.out, HLt.out, HW.out, if_pos rfl, if_pos h32], ?_⟩
      · simp [results, Tryz.results51, go_sem, oneV, tokAgg]
        rfl
      · exact (Below.refl _ _).alloc (Nat.le_refl _) _
    · have h32' : ¬ 32 < q - p := by have := HQ.out; omega
      go_wp2_with fail
      refine (ref_Keyword _ _).mono ?_
      rintro e w2 ⟨rfl, hb⟩
      rw [show (s.extract p q).data.toList = (s.data.toList.drop p).take m by rw [HX.out, strOf_data]]
      have HBE := Lib.hid hb
      obtain ⟨hc, hf⟩ := bcell hb
      have hz : w.heap.size < w2.heap.size := by have := hb.size; simp at this; omega
      clear hb
      cases h7 : isKeyword ((s.data.toList.drop p).take m)
      · have H7 := Lib.hid h7
        go_wp2_with fail
        refine bodyPost_ret (v := oneV (.ok 1 m 0) (s.data.toList.drop p) p) ?_ rfl ⟨by rw [HO.out, HLt.out, HW.out, if_pos rfl, if_neg h32, H7.out]; rfl, ?_⟩
        · rw [HX.out]
          simp [results, Tryz.results51, go_sem, hc, oneV, tokAgg]
        · exact below_set4 (((Below.refl _ _).alloc (Nat.le_refl _) _).trans (HBE.out.mono (by simp))) (Nat.le_refl _) _ _ _ _
      · have H7 := Lib.hid h7
        go_wp2_with fail
        refine bodyPost_ret (v := oneV (.ok 2 m 0) (s.data.toList.drop p) p) ?_ rfl ⟨by rw [HO.out, HLt.out, HW.out, if_pos rfl, if_neg h32, H7.out]; rfl, ?_⟩
        · rw [HX.out]
          simp [results, Tryz.results51, go_sem, hc, oneV, tokAgg]
        · exact below_set4 (((Below.refl _ _).alloc (Nat.le_refl _) _).trans (HBE.out.mono (by simp))) (Nat.le_refl _) _ _ _ _
end Go.Proofs.YthjonkommphkkaaGreatDoor
namespace Go.Proofs.YthjonkommphkkaaGreatDoor
open Lx Go.RowKit
namespace Lx
def skipPos (b : Bool) (l : Bytes) (p : Nat) : Nat := l.length - (skipB b (l.drop p)).length
theorem skipPos_of {b b' : Bool} {l : Bytes} {p q : Nat} (h : skipB b (l.drop p) = skipB b' (l.drop q)) : skipPos b l p = skipPos b' l q := by unfold skipPos; rw [h]
theorem skipPos_sep {s : ByteArray} {p : Nat} (hp : p < s.size) (h : isSep s[p] = true) : skipPos false s.data.toList p = skipPos false s.data.toList (p + 1) :=
  skipPos_of (by rw [drop_cons s p hp]; simp [skipB, h])
theorem skipPos_open {s : ByteArray} {p : Nat} (hp : p < s.size) (h : isSep s[p] = false) (h2 : opens s[p] (s.data.toList.drop (p + 1)) = true) : skipPos false s.data.toList p = skipPos true s.data.toList p :=
  skipPos_of (by rw [drop_cons s p hp]; simp [opens] at h2; simp [skipB, h, opens, h2])
theorem skipPos_cont {s : ByteArray} {p : Nat} (hp : p < s.size) (h : s[p].toNat ≠ 10) : skipPos true s.data.toList p = skipPos true s.data.toList (p + 1) :=
  skipPos_of (by rw [drop_cons s p hp]; simp [skipB, h])
theorem skipPos_line {s : ByteArray} {p : Nat} (hp : p < s.size) (h : s[p].toNat = 10) : skipPos true s.data.toList p = skipPos false s.data.toList p :=
  skipPos_of (by rw [drop_cons s p hp]; simp [skipB, h, isSep])
theorem skipPos_end {s : ByteArray} {p : Nat} (b : Bool) (hp : p = s.size) : skipPos b s.data.toList p = p := by
  unfold skipPos; rw [List.drop_eq_nil_of_le (by rw [len_list]; omega), len_list]; cases b <;> simp [skipB, hp]
theorem skipPos_stop {s : ByteArray} {p : Nat} (hp : p < s.size) (h : isSep s[p] = false) (h2 : opens s[p] (s.data.toList.drop (p + 1)) = false) : skipPos false s.data.toList p = p := by
  unfold skipPos
  have e : skipB false (s.data.toList.drop p) = s.data.toList.drop p := by rw [drop_cons s p hp]; simp [skipB, h, h2]
  rw [e, List.length_drop, len_list]; omega
theorem drop_skipPos (l : Bytes) (p : Nat) : l.drop (skipPos false l p) = skipB false (l.drop p) := by
  have h := (skipB_suffix false (l.drop p)).trans (List.drop_suffix p l)
  unfold skipPos
  exact (List.suffix_iff_eq_drop.1 h).symm
theorem skipPos_ge (l : Bytes) (p : Nat) (hp : p ≤ l.length) : p ≤ skipPos false l p := by
  have := skipB_le false (l.drop p); unfold skipPos; rw [List.length_drop] at this; omega
theorem skipPos_le (l : Bytes) (p : Nat) : skipPos false l p ≤ l.length := by unfold skipPos; omega
end Lx
set_option maxHeartbeats 1000000 in
theorem ref_skip (s : ByteArray) (a : Int) (w : World) (hs : s.size ≤ 65536) (h0 : 0 ≤ a) (h1 : a ≤ s.size) : Calls Tryz.prog 50 #[.string s, .int .i64 a] w fun e w' => e = .returned (.int .i64 (skipPos false s.data.toList a.toNat : Nat)) ∧ w = w' := by
  obtain ⟨p, rfl⟩ := Int.eq_ofNat_of_zero_le h0
  clear h0
  rw [Int.toNat_natCast]
  have hp : p ≤ s.size := by omega
  clear h1
  go_enter Tryz.func50, Tryz.ntmps50
  go_wp2_with fail
  go_loop [1] (fun a => ∃ k : Nat, k ≤ s.size ∧ a = .int .i64 k ∧ skipPos false s.data.toList p = skipPos false s.data.toList k) (fun a => s.size - (intOf a).toNat)
  case atStart => exact ⟨p, hp, rfl, rfl⟩
  case round =>
    obtain ⟨k, hk, rfl, hr⟩ := hrel
    have HR := Lib.hid hr
    clear hr
    by_cases hlt : k < s.size
    · cases hsep : isSep s[k]
      · have hne := (not_congr (sep_of (c := s[k]) rfl)).1 (by rw [hsep]; simp)
        have e1 : ((s[k].toNat : Int) == 32) = false := beq_eq_false_iff_ne.2 (by omega)
        have e2 : ((s[k].toNat : Int) == 9) = false := beq_eq_false_iff_ne.2 (by omega)
        have e3 : ((s[k].toNat : Int) == 13) = false := beq_eq_false_iff_ne.2 (by omega)
        have e4 : ((s[k].toNat : Int) == 10) = false := beq_eq_false_iff_ne.2 (by omega)
        have HSEP := Lib.hid hsep
        clear hsep hne
        cases hop : opens s[k] (s.data.toList.drop (k + 1))
        · have HOP := Lib.hid hop
          have key : ((s[k].toNat : Int) != 47) = true ∨ (((s[k].toNat : Int) != 47) = false ∧ (s.size ≤ k + 1 ∨ ∃ h : k + 1 < s.size, ((s[k + 1].toNat : Int) != 47) = true)) := by
            by_cases hc : s[k].toNat = 47
            · right
              refine ⟨by rw [bne_eq_false_iff_eq]; omega, ?_⟩
              by_cases h2 : k + 1 < s.size
              · right
                refine ⟨h2, ?_⟩
                rw [drop_cons s (k + 1) h2] at hop
                simp only [opens, hc, decide_true, Bool.true_and, List.head?_cons, Option.some.injEq, decide_eq_false_iff_not] at hop
                rw [bne_iff_ne]
                intro h3
                exact hop (UInt8.toNat_inj.1 (by have e47 : (47 : UInt8).toNat = 47 := rfl; omega))
              · left; omega
            · left; rw [bne_iff_ne]; omega
          clear hop
          rcases key with hc | ⟨hc, h2 | ⟨h2, h3⟩⟩
          all_goals
            go_wp2_with fail
            go_ret
            exact ⟨ret_int (by rw [HR.out, skipPos_stop hlt HSEP.out HOP.out]), rfl⟩
        · have HOP := Lib.hid hop
          have hc : s[k].toNat = 47 := by simp [opens] at hop; omega
          have h2 : k + 1 < s.size := by
            rcases Nat.lt_or_ge (k + 1) s.size with h | h
            · exact h
            · rw [List.drop_eq_nil_of_le (by rw [len_list]; omega)] at hop; simp [opens] at hop
          have h3 : s[k + 1].toNat = 47 := by
            rw [drop_cons s (k + 1) h2] at hop
            simp only [opens, hc, decide_true, Bool.true_and, List.head?_cons, Option.some.injEq, decide_eq_true_eq] at hop
            rw [hop]; rfl
          have f1 : ((s[k].toNat : Int) != 47) = false := by rw [bne_eq_false_iff_eq]; omega
          have f2 : ((s[k + 1].toNat : Int) != 47) = false := by rw [bne_eq_false_iff_eq]; omega
          have HC := Lib.hid hc
          clear hop hc h3
          have HR2 : Hid (skipPos false s.data.toList p = skipPos true s.data.toList k) := HR.out.trans (skipPos_open hlt HSEP.out HOP.out)
          go_wp2_with fail
          go_loop [1] (fun a => ∃ j : Nat, k ≤ j ∧ j ≤ s.size ∧ a = .int .i64 j ∧ skipPos false s.data.toList p = skipPos true s.data.toList j) (fun a => s.size - (intOf a).toNat)
          case atStart => exact ⟨k, Nat.le_refl _, hk, rfl, HR2.out⟩
          case round =>
            obtain ⟨j, hkj, hj, rfl, hr⟩ := hrel
            have HJ := Lib.hid hr
            clear hr
            by_cases hlj : j < s.size
            · by_cases hc : s[j].toNat = 10
              · have g1 : ((s[j].toNat : Int) != 10) = false := by rw [bne_eq_false_iff_eq]; omega
                have hkj' : k < j := by
                  rcases Nat.lt_or_ge k j with h | h
                  · exact h
                  · obtain rfl : k = j := by omega
                    have := HC.out; omega
                have HCJ := Lib.hid hc
                clear hc
                go_wp2_with fail
                go_round
                case rel => exact ⟨j, hj, rfl, by rw [HJ.out, skipPos_line hlj HCJ.out]⟩
                case measure => simp [intOf]; omega
              · have g1 : ((s[j].toNat : Int) != 10) = true := by rw [bne_iff_ne]; omega
                have HCJ := Lib.hid hc
                clear hc
                go_wp2_with fail
                go_round
                case rel => exact ⟨j + 1, by omega, by omega, by go_num, by rw [HJ.out, skipPos_cont hlj HCJ.out]⟩
                case measure => simp [intOf]; omega
            · obtain rfl : j = s.size := by omega
              go_wp2_with fail
              go_round
              case rel => exact ⟨s.size, hj, rfl, by rw [HJ.out, skipPos_end true rfl, skipPos_end false rfl]⟩
              case measure => simp [intOf]; omega
      · have HSEP := Lib.hid hsep
        have hor := (sep_of (c := s[k]) rfl).1 hsep
        clear hsep
        rcases hor with hc | hc | hc | hc
        all_goals
          go_wp2_with fail
          all_goals
            go_round
            case rel => exact ⟨k + 1, by omega, by go_num, by rw [HR.out, skipPos_sep hlt HSEP.out]⟩
            case measure => simp [intOf]; omega
    · go_wp2_with fail
      go_ret
      exact ⟨ret_int (by rw [HR.out, skipPos_end false (by omega)]), rfl⟩
end Go.Proofs.YthjonkommphkkaaGreatDoor
