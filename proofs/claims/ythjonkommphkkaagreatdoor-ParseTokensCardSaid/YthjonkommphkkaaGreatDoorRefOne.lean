/-
  The reference's one, walked.
-/
import Derived.Test.YthjonkommphkkaaGreatDoorRefNum
namespace Go.Proofs.YthjonkommphkkaaGreatDoor
open Lx Go.RowKit
namespace Lx
def markBytes : Bytes := [123, 125, 40, 41, 59, 44, 46, 60, 43, 45, 42, 58, 61]
def twice (c : UInt8) (t : Bytes) : Bool := (decide (c.toNat = 58) || decide (c.toNat = 61)) && decide (t.head? = some c)
theorem markLen_cons (c : UInt8) (t : Bytes) : markLen (c :: t) = if markBytes.contains c then some (if twice c t then 2 else 1) else none := by
  have hx : ∀ x : UInt8, ([x] : Bytes).isPrefixOf (c :: t) = (x == c) := by intro x; simp [List.isPrefixOf]
  have h2 : ∀ x y : UInt8, ([x, y] : Bytes).isPrefixOf (c :: t) = ((x == c) && decide (t.head? = some y)) := by
    intro x y
    cases t with
    | nil => simp [List.isPrefixOf]
    | cons d u => simp only [List.isPrefixOf, List.head?_cons, Option.some.injEq, Bool.and_true]; congr 1; rw [Bool.eq_iff_iff, beq_iff_eq, decide_eq_true_eq]; exact ⟨Eq.symm, Eq.symm⟩
  simp only [markLen, markList, List.find?_cons, hx, h2, List.find?_nil, markBytes]
  by_cases c1 : c = 58
  · subst c1
    cases hh : decide (t.head? = some 58) <;> simp [twice, hh]
  by_cases c2 : c = 61
  · subst c2
    cases hh : decide (t.head? = some 61) <;> simp [twice, hh]
  have n1 : ((58 : UInt8) == c) = false := by rw [beq_eq_false_iff_ne]; exact fun h => c1 h.symm
  have n2 : ((61 : UInt8) == c) = false := by rw [beq_eq_false_iff_ne]; exact fun h => c2 h.symm
  have tw : twice c t = false := by
    have e1 : ¬ c.toNat = 58 := fun h => c1 (UInt8.toNat_inj.1 h)
    have e2 : ¬ c.toNat = 61 := fun h => c2 (UInt8.toNat_inj.1 h)
    simp [twice, e1, e2]
  simp only [n1, n2, tw, Bool.false_and]
  by_cases c3 : c = 123; · subst c3; rfl
  by_cases c4 : c = 125; · subst c4; rfl
  by_cases c5 : c = 40; · subst c5; rfl
  by_cases c6 : c = 41; · subst c6; rfl
  by_cases c7 : c = 59; · subst c7; rfl
  by_cases c8 : c = 44; · subst c8; rfl
  by_cases c9 : c = 46; · subst c9; rfl
  by_cases c10 : c = 60; · subst c10; rfl
  by_cases c11 : c = 43; · subst c11; rfl
  by_cases c12 : c = 45; · subst c12; rfl
  by_cases c13 : c = 42; · subst c13; rfl
  have nn : ∀ x : UInt8, ¬ c = x → (x == c) = false := fun x h => by rw [beq_eq_false_iff_ne]; exact fun e => h e.symm
  have hc : ([123, 125, 40, 41, 59, 44, 46, 60, 43, 45, 42, 58, 61] : Bytes).contains c = false := by
    simp [c1, c2, c3, c4, c5, c6, c7, c8, c9, c10, c11, c12, c13]
  simp only [nn _ c3, nn _ c4, nn _ c5, nn _ c6, nn _ c7, nn _ c8, nn _ c9, nn _ c10, nn _ c11, nn _ c12, nn _ c13, hc, Option.map_none, Bool.false_eq_true, if_false]
theorem twice_at (s : ByteArray) (p : Nat) (hp : p < s.size) : twice s[p] (s.data.toList.drop (p + 1)) = true ↔ (s[p].toNat = 58 ∨ s[p].toNat = 61) ∧ ∃ h : p + 1 < s.size, s[p + 1].toNat = s[p].toNat := by
  simp only [twice, Bool.and_eq_true, Bool.or_eq_true, decide_eq_true_eq]
  refine and_congr Iff.rfl ?_
  by_cases h : p + 1 < s.size
  · rw [drop_cons s (p + 1) h]
    simp only [List.head?_cons, Option.some.injEq]
    exact ⟨fun e => ⟨h, by rw [e]⟩, fun ⟨_, e⟩ => UInt8.toNat_inj.1 e⟩
  · rw [List.drop_eq_nil_of_le (by rw [len_list]; omega)]
    simp; omega
theorem contains_drop_hit {l : Bytes} {r : Bytes} {c m : UInt8} (h : l = m :: r) (e : m = c) : l.contains c = true := by subst h; subst e; simp
theorem contains_drop_miss {l : Bytes} {r : Bytes} {c m : UInt8} (h : l = m :: r) (e : m ≠ c) : l.contains c = r.contains c := by
  subst h; simp only [List.contains_cons]; rw [beq_eq_false_iff_ne.2 (fun x => e x.symm), Bool.false_or]
theorem oneTok_at (s : ByteArray) (p : Nat) (hp : p < s.size) : oneTok (s.data.toList.drop p) = if isLetter s[p] then wordTok (s.data.toList.drop p) else if isDigit s[p] then numTok (s.data.toList.drop p) else markTok (s.data.toList.drop p) := by
  rw [drop_cons s p hp]; rfl
theorem markTok_at (s : ByteArray) (p : Nat) (hp : p < s.size) : markTok (s.data.toList.drop p) = if markBytes.contains s[p] then .ok 4 (if twice s[p] (s.data.toList.drop (p + 1)) then 2 else 1) 0 else .bad 2 := by
  unfold markTok
  rw [drop_cons s p hp, markLen_cons]
  split
  · rename_i h
    split at h
    · rename_i h1; rw [if_pos h1]; cases h; rfl
    · cases h
  · rename_i h
    split at h
    · cases h
    · rename_i h1; rw [if_neg h1]
end Lx
theorem mb_index (k : Nat) (hk : k < 13) : ∃ m : UInt8, markBytes.drop k = m :: markBytes.drop (k + 1) ∧ ∀ w, (Instr.index 9 (.string ⟨#[123, 125, 40, 41, 59, 44, 46, 60, 43, 45, 42, 58, 61]⟩) (.int .i64 (k : Int))).run Tryz.prog w = .ok (.int .u8 (m.toNat : Int)) w := by
  match k, hk with
  | 0, _ => exact ⟨_, rfl, fun _ => by kernel_rfl⟩
  | 1, _ => exact ⟨_, rfl, fun _ => by kernel_rfl⟩
  | 2, _ => exact ⟨_, rfl, fun _ => by kernel_rfl⟩
  | 3, _ => exact ⟨_, rfl, fun _ => by kernel_rfl⟩
  | 4, _ => exact ⟨_, rfl, fun _ => by kernel_rfl⟩
  | 5, _ => exact ⟨_, rfl, fun _ => by kernel_rfl⟩
  | 6, _ => exact ⟨_, rfl, fun _ => by kernel_rfl⟩
  | 7, _ => exact ⟨_, rfl, fun _ => by kernel_rfl⟩
  | 8, _ => exact ⟨_, rfl, fun _ => by kernel_rfl⟩
  | 9, _ => exact ⟨_, rfl, fun _ => by kernel_rfl⟩
  | 10, _ => exact ⟨_, rfl, fun _ => by kernel_rfl⟩
  | 11, _ => exact ⟨_, rfl, fun _ => by kernel_rfl⟩
  | 12, _ => exact ⟨_, rfl, fun _ => by kernel_rfl⟩
  | n + 13, h => omega
theorem slice_run (s : ByteArray) (p k : Nat) (w : World) (h : p + k ≤ s.size) : (Instr.slice 9 (.string s) (some (.int .i64 (p : Int))) (some (.int .i64 ((p : Int) + (k : Int)))) none).run Tryz.prog w = .ok (.string (s.extract p (p + k))) w := by
  have := run_slice_string (P := Tryz.prog) (w := w) 9 s .i64 .i64 (p : Int) ((p : Int) + (k : Int)) Tryz.underlying9 (by omega) (by omega) (by omega)
  rw [this]
  congr
set_option maxHeartbeats 1000000 in
set_option maxRecDepth 100000 in
theorem ref_one (s : ByteArray) (p : Nat) (w : World) (hs : s.size ≤ 65536) (hp : p < s.size) :
    Calls Tryz.prog 51 #[.string s, .int .i64 (p : Int)] w (OneP (oneTok (s.data.toList.drop p)) (s.data.toList.drop p) p w) := by
  have HO := Lib.hid (oneTok_at s p hp)
  go_enter Tryz.func51, Tryz.ntmps51
  go_wp2_with fail
  refine (ref_letter _ _).mono ?_
  rintro e w' ⟨rfl, rfl⟩
  cases hl : isLetter s[p]
  · have HLt := Lib.hid hl
    go_wp2_with fail
    refine (ref_digit _ _).mono ?_
    rintro e w' ⟨rfl, rfl⟩
    cases hd : isDigit s[p]
    · have HD := Lib.hid hd
      have HMK := Lib.hid (markTok_at s p hp)
      have HTW := Lib.hid (twice_at s p hp)
      go_wp2_with fail
      go_loop [9] (fun i => ∃ k : Nat, k ≤ 13 ∧ i = .int .i64 k ∧ markBytes.contains s[p] = (markBytes.drop k).contains s[p]) (fun i => 13 - (intOf i).toNat)
      case atStart => exact ⟨0, by omega, rfl, rfl⟩
      case round =>
        obtain ⟨k, hk, rfl, hr⟩ := hrel
        have HR := Lib.hid hr
        clear hr
        by_cases hlt : k < 13
        · obtain ⟨m, hm, hidx⟩ := mb_index k hlt
          have HM := Lib.hid hm
          clear hm
          by_cases he : m = s[p]
          · have HE := Lib.hid he
            have e1 : ((m.toNat : Int) != (s[p].toNat : Int)) = false := by rw [bne_eq_false_iff_eq, he]
            have e2 : (m.toNat != s[p].toNat) = false := by rw [bne_eq_false_iff_eq, he]
            have HC : Hid (markBytes.contains s[p] = true) := HR.out.trans (contains_drop_hit HM.out HE.out)
            clear he HE HR HM
            cases htw : twice s[p] (s.data.toList.drop (p + 1))
            · have HTW2 := Lib.hid htw
              have key : (((s[p].toNat : Int) == 58) = false ∧ ((s[p].toNat : Int) == 61) = false) ∨ ((((s[p].toNat : Int) == 58) = true ∨ (((s[p].toNat : Int) == 58) = false ∧ ((s[p].toNat : Int) == 61) = true)) ∧ (s.size ≤ p + 1 ∨ ∃ h : p + 1 < s.size, ((s[p + 1].toNat : Int) == (s[p].toNat : Int)) = false ∧ (s[p + 1].toNat == s[p].toNat) = false)) := by
                have hn := (not_congr HTW.out).1 (by rw [htw]; simp)
                by_cases h58 : s[p].toNat = 58 ∨ s[p].toNat = 61
                · right
                  refine ⟨?_, ?_⟩
                  · by_cases h : s[p].toNat = 58
                    · left; rw [beq_iff_eq]; omega
                    · right; exact ⟨by rw [beq_eq_false_iff_ne]; omega, by rw [beq_iff_eq]; omega⟩
                  · by_cases h : p + 1 < s.size
                    · right
                      refine ⟨h, ?_⟩
                      have : ¬ s[p + 1].toNat = s[p].toNat := fun e => hn ⟨h58, h, e⟩
                      exact ⟨by rw [beq_eq_false_iff_ne]; omega, by rw [beq_eq_false_iff_ne]; omega⟩
                    · left; omega
                · left
                  exact ⟨by rw [beq_eq_false_iff_ne]; omega, by rw [beq_eq_false_iff_ne]; omega⟩
              clear htw
              have hsl : ∀ w, (Instr.slice 9 (.string s) (some (.int .i64 (p : Int))) (some (.int .i64 ((p : Int) + 1))) none).run Tryz.prog w = .ok (.string (s.extract p (p + 1))) w := fun w => slice_run s p 1 w (by omega)
              rcases key with ⟨k1, k2⟩ | ⟨k1 | ⟨k1, k2⟩, k3 | ⟨k3, k4, k5⟩⟩
              all_goals
                go_wp2_with fail
                refine bodyPost_ret (v := oneV (.ok 4 1 0) (s.data.toList.drop p) p) ?_ rfl ⟨by rw [HO.out, HLt.out, HD.out, HMK.out, HC.out, HTW2.out]; rfl, ?_⟩
                · simp [results, Tryz.results51, go_sem, oneV, tokAgg, extract_strOf]
                · exact (Below.refl _ _).alloc (Nat.le_refl _) _
            · have HTW2 := Lib.hid htw
              obtain ⟨h58, hp1, heq⟩ := HTW.out.1 htw
              have k4 : ((s[p + 1].toNat : Int) == (s[p].toNat : Int)) = true := by rw [beq_iff_eq]; omega
              have k5 : (s[p + 1].toNat == s[p].toNat) = true := by rw [beq_iff_eq]; omega
              have key : (((s[p].toNat : Int) == 58) = true ∨ (((s[p].toNat : Int) == 58) = false ∧ ((s[p].toNat : Int) == 61) = true)) := by
                by_cases h : s[p].toNat = 58
                · left; rw [beq_iff_eq]; omega
                · right; exact ⟨by rw [beq_eq_false_iff_ne]; omega, by rw [beq_iff_eq]; omega⟩
              clear htw heq h58
              have hsl : ∀ w, (Instr.slice 9 (.string s) (some (.int .i64 (p : Int))) (some (.int .i64 ((p : Int) + 2))) none).run Tryz.prog w = .ok (.string (s.extract p (p + 2))) w := fun w => slice_run s p 2 w (by omega)
              rcases key with k1 | ⟨k1, k2⟩
              all_goals
                go_wp2_with fail
                refine bodyPost_ret (v := oneV (.ok 4 2 0) (s.data.toList.drop p) p) ?_ rfl ⟨by rw [HO.out, HLt.out, HD.out, HMK.out, HC.out, HTW2.out]; rfl, ?_⟩
                · simp [results, Tryz.results51, go_sem, oneV, tokAgg, extract_strOf]
                · exact (Below.refl _ _).alloc (Nat.le_refl _) _
          · have HE := Lib.hid he
            have hne : ¬ m.toNat = s[p].toNat := fun e => he (UInt8.toNat_inj.1 e)
            have e1 : ((m.toNat : Int) != (s[p].toNat : Int)) = true := by rw [bne_iff_ne]; omega
            have e2 : (m.toNat != s[p].toNat) = true := by rw [bne_iff_ne]; omega
            clear he hne
            go_wp2_with fail
            go_round
            case rel => exact ⟨k + 1, by omega, by go_num, by rw [HR.out]; exact contains_drop_miss HM.out HE.out⟩
            case measure => simp [intOf]; omega
        · have HC : Hid (markBytes.contains s[p] = false) := by
            rw [List.drop_eq_nil_of_le (by simp [markBytes]; omega)] at HR
            exact HR.out
          go_wp2_with fail
          refine bodyPost_ret (v := oneV (.bad 2) (s.data.toList.drop p) p) ?_ rfl ⟨by rw [HO.out, HLt.out, HD.out, HMK.out, HC.out]; rfl, ?_⟩
          · simp [results, Tryz.results51, go_sem, oneV, tokAgg]
            rfl
          · exact (Below.refl _ _).alloc (Nat.le_refl _) _
    · have HD := Lib.hid hd
      go_wp2_with fail
      refine (ref_end_num s p _ hs hp HLt.out).mono ?_
      rintro e w' ⟨rfl, rfl⟩
      obtain ⟨q, hq⟩ : ∃ q : Nat, q = p + spanOf isDigit (s.data.toList.drop p) := ⟨_, rfl⟩
      rw [← hq]
      have HQ := Lib.hid hq
      clear hq
      go_wp2_with fail
      refine (ref_number s p _ _ hs hp HD.out (by rw [HQ.out])).mono ?_
      rintro e w2 ⟨rfl, hb⟩
      obtain ⟨k, p', x, n, er, hv⟩ := oneV_form (numTok (s.data.toList.drop p)) (s.data.toList.drop p) p
      rw [hv]
      have HV := Lib.hid hv
      clear hv
      have HBE := Lib.hid hb
      obtain ⟨hc, hf⟩ := bcell hb
      have hz : w.heap.size < w2.heap.size := by have := hb.size; simp at this; omega
      clear hb
      go_wp2_with fail
      refine bodyPost_ret (v := oneV (numTok (s.data.toList.drop p)) (s.data.toList.drop p) p) ?_ rfl ⟨by rw [HO.out, HLt.out, HD.out]; rfl, ?_⟩
      · rw [HV.out]
        simp [results, Tryz.results51, go_sem, hc]
      · exact below_set4 (((Below.refl _ _).alloc (Nat.le_refl _) _).trans (HBE.out.mono (by simp))) (Nat.le_refl _) _ _ _ _
  · have HLt := Lib.hid hl
    have hle := spanOf_le isPart (s.data.toList.drop p)
    rw [List.length_drop, len_list] at hle
    have HW := Lib.hid (wordTok_eq (s.data.toList.drop p))
    go_wp2_with fail
    refine (ref_end_word s p _ hs hp HLt.out).mono ?_
    rintro e w' ⟨rfl, rfl⟩
    generalize hm : spanOf isPart (s.data.toList.drop p) = m at hle HW ⊢
    clear hm
    obtain ⟨q, hq⟩ : ∃ q : Nat, q = p + m := ⟨_, rfl⟩
    rw [← hq]
    have hpq : p ≤ q := by omega
    have hqs : q ≤ s.size := by omega
    have hqm : q - p = m := by omega
    have HQ := Lib.hid hqm
    clear hq hqm
    have HX : Hid (s.extract p q = strOf ((s.data.toList.drop p).take m)) := by show _ = _; rw [extract_strOf, HQ.out]
    have hsz : (s.extract p q).size = q - p := by rw [HX.out, strOf_size]; simp; have := HQ.out; omega
    by_cases h32 : 32 < m
    · have h32' : 32 < q - p := by have := HQ.out; omega
      go_wp2_with fail
      refine bodyPost_ret (v := oneV (.bad 3) (s.data.toList.drop p) p) ?_ rfl ⟨by rw [HO.out, HLt.out, HW.out, if_pos rfl, if_pos h32], ?_⟩
      · simp [results, Tryz.results51, go_sem, oneV, tokAgg]
        rfl
      · exact (Below.refl _ _).alloc (Nat.le_refl _) _
    · have h32' : ¬ 32 < q - p := by have := HQ.out; omega
      go_wp2_with fail
      refine (ref_Keyword _ _).mono ?_
      rintro e w2 ⟨rfl, hb⟩
      rw [show (s.extract p q).data.toList = (s.data.toList.drop p).take m by rw [HX.out, strOf_data]]
      have HBE := Lib.hid hb
      obtain ⟨hc, hf⟩ := bcell hb
      have hz : w.heap.size < w2.heap.size := by have := hb.size; simp at this; omega
      clear hb
      cases h7 : isKeyword ((s.data.toList.drop p).take m)
      · have H7 := Lib.hid h7
        go_wp2_with fail
        refine bodyPost_ret (v := oneV (.ok 1 m 0) (s.data.toList.drop p) p) ?_ rfl ⟨by rw [HO.out, HLt.out, HW.out, if_pos rfl, if_neg h32, H7.out]; rfl, ?_⟩
        · rw [HX.out]
          simp [results, Tryz.results51, go_sem, hc, oneV, tokAgg]
        · exact below_set4 (((Below.refl _ _).alloc (Nat.le_refl _) _).trans (HBE.out.mono (by simp))) (Nat.le_refl _) _ _ _ _
      · have H7 := Lib.hid h7
        go_wp2_with fail
        refine bodyPost_ret (v := oneV (.ok 2 m 0) (s.data.toList.drop p) p) ?_ rfl ⟨by rw [HO.out, HLt.out, HW.out, if_pos rfl, if_neg h32, H7.out]; rfl, ?_⟩
        · rw [HX.out]
          simp [results, Tryz.results51, go_sem, hc, oneV, tokAgg]
        · exact below_set4 (((Below.refl _ _).alloc (Nat.le_refl _) _).trans (HBE.out.mono (by simp))) (Nat.le_refl _) _ _ _ _
end Go.Proofs.YthjonkommphkkaaGreatDoor
