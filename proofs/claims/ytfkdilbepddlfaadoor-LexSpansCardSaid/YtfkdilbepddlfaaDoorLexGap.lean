/-
  law07's gap, walked.
-/
import Derived.Test.YtfkdilbepddlfaaDoorLexSpansPlain
namespace Go.Proofs.YtfkdilbepddlfaaDoor
open Lx Go.RowKit
namespace Lx
def skE (b : Bool) (l : Bytes) (p : Nat) : Bool := (skipB b (l.drop p)).isEmpty
theorem skE_of {b b' : Bool} {l : Bytes} {p q : Nat} (h : skipB b (l.drop p) = skipB b' (l.drop q)) : skE b l p = skE b' l q := by unfold skE; rw [h]
theorem skE_sep {s : ByteArray} {p : Nat} (hp : p < s.size) (h : isSep s[p] = true) : skE false s.data.toList p = skE false s.data.toList (p + 1) :=
  skE_of (by rw [drop_cons s p hp]; simp [skipB, h])
theorem skE_open {s : ByteArray} {p : Nat} (hp : p < s.size) (h : isSep s[p] = false) (h2 : opens s[p] (s.data.toList.drop (p + 1)) = true) : skE false s.data.toList p = skE true s.data.toList p :=
  skE_of (by rw [drop_cons s p hp]; simp [opens] at h2; simp [skipB, h, opens, h2])
theorem skE_cont {s : ByteArray} {p : Nat} (hp : p < s.size) (h : s[p].toNat ≠ 10) : skE true s.data.toList p = skE true s.data.toList (p + 1) :=
  skE_of (by rw [drop_cons s p hp]; simp [skipB, h])
theorem skE_line {s : ByteArray} {p : Nat} (hp : p < s.size) (h : s[p].toNat = 10) : skE true s.data.toList p = skE false s.data.toList (p + 1) :=
  skE_of (by rw [drop_cons s p hp]; simp [skipB, h])
theorem skE_end {s : ByteArray} {p : Nat} (b : Bool) (hp : s.size ≤ p) : skE b s.data.toList p = true := by
  unfold skE; rw [List.drop_eq_nil_of_le (by rw [len_list]; omega)]; cases b <;> simp [skipB]
theorem skE_stop {s : ByteArray} {p : Nat} (hp : p < s.size) (h : isSep s[p] = false) (h2 : opens s[p] (s.data.toList.drop (p + 1)) = false) : skE false s.data.toList p = false := by
  unfold skE; rw [drop_cons s p hp]; simp [skipB, h, h2]
end Lx
set_option maxHeartbeats 1000000 in
theorem law_gap (s : ByteArray) (w : World) (hs : s.size ≤ 65536) : Calls Tryd.prog 16 #[.string s] w fun e w' => e = .returned (.bool (skipB false s.data.toList).isEmpty) ∧ w' = w := by
  have H0 : Hid ((skipB false s.data.toList).isEmpty = skE false s.data.toList 0) := rfl
  go_enter Tryd.func16, Tryd.ntmps16
  go_wp2_with fail
  go_loop [3] (fun a => ∃ k : Nat, k ≤ s.size + 1 ∧ a = .int .i64 k ∧ skE false s.data.toList 0 = skE false s.data.toList k) (fun a => s.size + 1 - (intOf a).toNat)
  case atStart => exact ⟨0, Nat.zero_le _, rfl, rfl⟩
  case round =>
    obtain ⟨k, hk, rfl, hr⟩ := hrel
    have HR := Lib.hid hr
    clear hr
    by_cases hlt : k < s.size
    · cases hsep : isSep s[k]
      · have hne := (not_congr (sep_of (c := s[k]) rfl)).1 (by rw [hsep]; simp)
        have e1 : ((s[k].toNat : Int) != 32) = true := by rw [bne_iff_ne]; omega
        have e2 : ((s[k].toNat : Int) != 9) = true := by rw [bne_iff_ne]; omega
        have e3 : ((s[k].toNat : Int) != 13) = true := by rw [bne_iff_ne]; omega
        have e4 : ((s[k].toNat : Int) != 10) = true := by rw [bne_iff_ne]; omega
        have HSEP := Lib.hid hsep
        clear hsep hne
        cases hop : opens s[k] (s.data.toList.drop (k + 1))
        · have HOP := Lib.hid hop
          have key : ((s[k].toNat : Int) == 47) = false ∨ (((s[k].toNat : Int) == 47) = true ∧ (s.size ≤ k + 1 ∨ ∃ h : k + 1 < s.size, ((s[k + 1].toNat : Int) == 47) = false)) := by
            by_cases hc : s[k].toNat = 47
            · right
              refine ⟨by rw [beq_iff_eq]; omega, ?_⟩
              by_cases h2 : k + 1 < s.size
              · right
                refine ⟨h2, ?_⟩
                rw [drop_cons s (k + 1) h2] at hop
                simp only [opens, hc, decide_true, Bool.true_and, List.head?_cons, Option.some.injEq, decide_eq_false_iff_not] at hop
                rw [beq_eq_false_iff_ne]
                intro h3
                exact hop (UInt8.toNat_inj.1 (by have e47 : (47 : UInt8).toNat = 47 := rfl; omega))
              · left; omega
            · left; rw [beq_eq_false_iff_ne]; omega
          clear hop
          rcases key with hc | ⟨hc, h2 | ⟨h2, h3⟩⟩
          all_goals
            go_wp2_with fail
            go_ret
            exact ⟨ret_bool (by rw [H0.out, HR.out, skE_stop hlt HSEP.out HOP.out]), rfl⟩
        · have HOP := Lib.hid hop
          have hc : s[k].toNat = 47 := by simp [opens] at hop; omega
          have h2 : k + 1 < s.size := by
            rcases Nat.lt_or_ge (k + 1) s.size with h | h
            · exact h
            · rw [List.drop_eq_nil_of_le (by rw [len_list]; omega)] at hop; simp [opens] at hop
          have h3 : s[k + 1].toNat = 47 := by
            rw [drop_cons s (k + 1) h2] at hop
            simp only [opens, hc, decide_true, Bool.true_and, List.head?_cons, Option.some.injEq, decide_eq_true_eq] at hop
            rw [hop]; rfl
          have f1 : ((s[k].toNat : Int) == 47) = true := by rw [beq_iff_eq]; omega
          have f2 : ((s[k + 1].toNat : Int) == 47) = true := by rw [beq_iff_eq]; omega
          have HC := Lib.hid hc
          clear hop hc h3
          have HR2 : Hid (skE false s.data.toList 0 = skE true s.data.toList k) := HR.out.trans (skE_open hlt HSEP.out HOP.out)
          go_wp2_with fail
          go_loop [3] (fun a => ∃ j : Nat, k ≤ j ∧ j ≤ s.size ∧ a = .int .i64 j ∧ skE false s.data.toList 0 = skE true s.data.toList j) (fun a => s.size - (intOf a).toNat)
          case atStart => exact ⟨k, Nat.le_refl _, by omega, rfl, HR2.out⟩
          case round =>
            obtain ⟨j, hkj, hj, rfl, hr⟩ := hrel
            have HJ := Lib.hid hr
            clear hr
            by_cases hlj : j < s.size
            · by_cases hc : s[j].toNat = 10
              · have g1 : ((s[j].toNat : Int) != 10) = false := by rw [bne_eq_false_iff_eq]; omega
                have HCJ := Lib.hid hc
                clear hc
                go_wp2_with fail
                go_round
                case rel => exact ⟨j + 1, by omega, by go_num, by rw [HJ.out, skE_line hlj HCJ.out]⟩
                case measure => simp [intOf]; omega
              · have g1 : ((s[j].toNat : Int) != 10) = true := by rw [bne_iff_ne]; omega
                have HCJ := Lib.hid hc
                clear hc
                go_wp2_with fail
                go_round
                case rel => exact ⟨j + 1, by omega, by omega, by go_num, by rw [HJ.out, skE_cont hlj HCJ.out]⟩
                case measure => simp [intOf]; omega
            · obtain rfl : j = s.size := by omega
              go_wp2_with fail
              go_round
              case rel => exact ⟨s.size + 1, by omega, by go_num, by rw [HJ.out, skE_end true (Nat.le_refl _), skE_end false (by omega)]⟩
              case measure => simp [intOf]; omega
      · have HSEP := Lib.hid hsep
        have hor := (sep_of (c := s[k]) rfl).1 hsep
        have f1 : ((s[k].toNat : Int) == 47) = false := by rw [beq_eq_false_iff_ne]; omega
        clear hsep
        rcases hor with hc | hc | hc | hc
        all_goals
          go_wp2_with fail
          all_goals
            go_round
            case rel => exact ⟨k + 1, by omega, by go_num, by rw [HR.out, skE_sep hlt HSEP.out]⟩
            case measure => simp [intOf]; omega
    · go_wp2_with fail
      go_ret
      exact ⟨ret_bool (by rw [H0.out, HR.out, skE_end false (by omega)]), rfl⟩
end Go.Proofs.YtfkdilbepddlfaaDoor
