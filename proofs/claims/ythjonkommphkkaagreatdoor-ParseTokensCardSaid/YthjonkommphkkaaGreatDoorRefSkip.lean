/-
  The reference's skip, walked.
-/
import Derived.Test.YthjonkommphkkaaGreatDoorLexUtf
import Derived.Outline
namespace Go.Proofs.YthjonkommphkkaaGreatDoor
open Lx Go.RowKit
namespace Lx
def skipPos (b : Bool) (l : Bytes) (p : Nat) : Nat := l.length - (skipB b (l.drop p)).length
theorem skipPos_of {b b' : Bool} {l : Bytes} {p q : Nat} (h : skipB b (l.drop p) = skipB b' (l.drop q)) : skipPos b l p = skipPos b' l q := by unfold skipPos; rw [h]
theorem skipPos_sep {s : ByteArray} {p : Nat} (hp : p < s.size) (h : isSep s[p] = true) : skipPos false s.data.toList p = skipPos false s.data.toList (p + 1) :=
  skipPos_of (by rw [drop_cons s p hp]; simp [skipB, h])
theorem skipPos_open {s : ByteArray} {p : Nat} (hp : p < s.size) (h : isSep s[p] = false) (h2 : opens s[p] (s.data.toList.drop (p + 1)) = true) : skipPos false s.data.toList p = skipPos true s.data.toList p :=
  skipPos_of (by rw [drop_cons s p hp]; simp [opens] at h2; simp [skipB, h, opens, h2])
theorem skipPos_cont {s : ByteArray} {p : Nat} (hp : p < s.size) (h : s[p].toNat ≠ 10) : skipPos true s.data.toList p = skipPos true s.data.toList (p + 1) :=
  skipPos_of (by rw [drop_cons s p hp]; simp [skipB, h])
theorem skipPos_line {s : ByteArray} {p : Nat} (hp : p < s.size) (h : s[p].toNat = 10) : skipPos true s.data.toList p = skipPos false s.data.toList p :=
  skipPos_of (by rw [drop_cons s p hp]; simp [skipB, h, isSep])
theorem skipPos_end {s : ByteArray} {p : Nat} (b : Bool) (hp : p = s.size) : skipPos b s.data.toList p = p := by
  unfold skipPos; rw [List.drop_eq_nil_of_le (by rw [len_list]; omega), len_list]; cases b <;> simp [skipB, hp]
theorem skipPos_stop {s : ByteArray} {p : Nat} (hp : p < s.size) (h : isSep s[p] = false) (h2 : opens s[p] (s.data.toList.drop (p + 1)) = false) : skipPos false s.data.toList p = p := by
  unfold skipPos
  have e : skipB false (s.data.toList.drop p) = s.data.toList.drop p := by rw [drop_cons s p hp]; simp [skipB, h, h2]
  rw [e, List.length_drop, len_list]; omega
theorem drop_skipPos (l : Bytes) (p : Nat) : l.drop (skipPos false l p) = skipB false (l.drop p) := by
  have h := (skipB_suffix false (l.drop p)).trans (List.drop_suffix p l)
  unfold skipPos
  exact (List.suffix_iff_eq_drop.1 h).symm
theorem skipPos_ge (l : Bytes) (p : Nat) (hp : p ≤ l.length) : p ≤ skipPos false l p := by
  have := skipB_le false (l.drop p); unfold skipPos; rw [List.length_drop] at this; omega
theorem skipPos_le (l : Bytes) (p : Nat) : skipPos false l p ≤ l.length := by unfold skipPos; omega
end Lx
set_option maxHeartbeats 1000000 in
theorem ref_skip (s : ByteArray) (a : Int) (w : World) (hs : s.size ≤ 65536) (h0 : 0 ≤ a) (h1 : a ≤ s.size) : Calls Tryz.prog 50 #[.string s, .int .i64 a] w fun e w' => e = .returned (.int .i64 (skipPos false s.data.toList a.toNat : Nat)) ∧ w = w' := by
  obtain ⟨p, rfl⟩ := Int.eq_ofNat_of_zero_le h0
  clear h0
  rw [Int.toNat_natCast]
  have hp : p ≤ s.size := by omega
  clear h1
  go_enter Tryz.func50, Tryz.ntmps50
  go_wp2_with fail
  go_loop [1] (fun a => ∃ k : Nat, k ≤ s.size ∧ a = .int .i64 k ∧ skipPos false s.data.toList p = skipPos false s.data.toList k) (fun a => s.size - (intOf a).toNat)
  case atStart => exact ⟨p, hp, rfl, rfl⟩
  case round =>
    obtain ⟨k, hk, rfl, hr⟩ := hrel
    have HR := Lib.hid hr
    clear hr
    by_cases hlt : k < s.size
    · cases hsep : isSep s[k]
      · have hne := (not_congr (sep_of (c := s[k]) rfl)).1 (by rw [hsep]; simp)
        have e1 : ((s[k].toNat : Int) == 32) = false := beq_eq_false_iff_ne.2 (by omega)
        have e2 : ((s[k].toNat : Int) == 9) = false := beq_eq_false_iff_ne.2 (by omega)
        have e3 : ((s[k].toNat : Int) == 13) = false := beq_eq_false_iff_ne.2 (by omega)
        have e4 : ((s[k].toNat : Int) == 10) = false := beq_eq_false_iff_ne.2 (by omega)
        have HSEP := Lib.hid hsep
        clear hsep hne
        cases hop : opens s[k] (s.data.toList.drop (k + 1))
        · have HOP := Lib.hid hop
          have key : ((s[k].toNat : Int) != 47) = true ∨ (((s[k].toNat : Int) != 47) = false ∧ (s.size ≤ k + 1 ∨ ∃ h : k + 1 < s.size, ((s[k + 1].toNat : Int) != 47) = true)) := by
            by_cases hc : s[k].toNat = 47
            · right
              refine ⟨by rw [bne_eq_false_iff_eq]; omega, ?_⟩
              by_cases h2 : k + 1 < s.size
              · right
                refine ⟨h2, ?_⟩
                rw [drop_cons s (k + 1) h2] at hop
                simp only [opens, hc, decide_true, Bool.true_and, List.head?_cons, Option.some.injEq, decide_eq_false_iff_not] at hop
                rw [bne_iff_ne]
                intro h3
                exact hop (UInt8.toNat_inj.1 (by have e47 : (47 : UInt8).toNat = 47 := rfl; omega))
              · left; omega
            · left; rw [bne_iff_ne]; omega
          clear hop
          rcases key with hc | ⟨hc, h2 | ⟨h2, h3⟩⟩
          all_goals
            go_wp2_with fail
            go_ret
            exact ⟨ret_int (by rw [HR.out, skipPos_stop hlt HSEP.out HOP.out]), rfl⟩
        · have HOP := Lib.hid hop
          have hc : s[k].toNat = 47 := by simp [opens] at hop; omega
          have h2 : k + 1 < s.size := by
            rcases Nat.lt_or_ge (k + 1) s.size with h | h
            · exact h
            · rw [List.drop_eq_nil_of_le (by rw [len_list]; omega)] at hop; simp [opens] at hop
          have h3 : s[k + 1].toNat = 47 := by
            rw [drop_cons s (k + 1) h2] at hop
            simp only [opens, hc, decide_true, Bool.true_and, List.head?_cons, Option.some.injEq, decide_eq_true_eq] at hop
            rw [hop]; rfl
          have f1 : ((s[k].toNat : Int) != 47) = false := by rw [bne_eq_false_iff_eq]; omega
          have f2 : ((s[k + 1].toNat : Int) != 47) = false := by rw [bne_eq_false_iff_eq]; omega
          have HC := Lib.hid hc
          clear hop hc h3
          have HR2 : Hid (skipPos false s.data.toList p = skipPos true s.data.toList k) := HR.out.trans (skipPos_open hlt HSEP.out HOP.out)
          go_wp2_with fail
          go_loop [1] (fun a => ∃ j : Nat, k ≤ j ∧ j ≤ s.size ∧ a = .int .i64 j ∧ skipPos false s.data.toList p = skipPos true s.data.toList j) (fun a => s.size - (intOf a).toNat)
          case atStart => exact ⟨k, Nat.le_refl _, hk, rfl, HR2.out⟩
          case round =>
            obtain ⟨j, hkj, hj, rfl, hr⟩ := hrel
            have HJ := Lib.hid hr
            clear hr
            by_cases hlj : j < s.size
            · by_cases hc : s[j].toNat = 10
              · have g1 : ((s[j].toNat : Int) != 10) = false := by rw [bne_eq_false_iff_eq]; omega
                have hkj' : k < j := by
                  rcases Nat.lt_or_ge k j with h | h
                  · exact h
                  · obtain rfl : k = j := by omega
                    have := HC.out; omega
                have HCJ := Lib.hid hc
                clear hc
                go_wp2_with fail
                go_round
                case rel => exact ⟨j, hj, rfl, by rw [HJ.out, skipPos_line hlj HCJ.out]⟩
                case measure => simp [intOf]; omega
              · have g1 : ((s[j].toNat : Int) != 10) = true := by rw [bne_iff_ne]; omega
                have HCJ := Lib.hid hc
                clear hc
                go_wp2_with fail
                go_round
                case rel => exact ⟨j + 1, by omega, by omega, by go_num, by rw [HJ.out, skipPos_cont hlj HCJ.out]⟩
                case measure => simp [intOf]; omega
            · obtain rfl : j = s.size := by omega
              go_wp2_with fail
              go_round
              case rel => exact ⟨s.size, hj, rfl, by rw [HJ.out, skipPos_end true rfl, skipPos_end false rfl]⟩
              case measure => simp [intOf]; omega
      · have HSEP := Lib.hid hsep
        have hor := (sep_of (c := s[k]) rfl).1 hsep
        clear hsep
        rcases hor with hc | hc | hc | hc
        all_goals
          go_wp2_with fail
          all_goals
            go_round
            case rel => exact ⟨k + 1, by omega, by go_num, by rw [HR.out, skipPos_sep hlt HSEP.out]⟩
            case measure => simp [intOf]; omega
    · go_wp2_with fail
      go_ret
      exact ⟨ret_int (by rw [HR.out, skipPos_end false (by omega)]), rfl⟩
end Go.Proofs.YthjonkommphkkaaGreatDoor
