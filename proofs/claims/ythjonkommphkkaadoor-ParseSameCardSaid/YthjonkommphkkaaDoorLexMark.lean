/-
  lex.mark and lex.token, walked.
-/
import Derived.Test.YthjonkommphkkaaDoorLexNumber
import Derived.Laws.Rows

namespace Go.Proofs.YthjonkommphkkaaDoor
open Lx Go.RowKit
theorem mk_index (k : Nat) (hk : k < 15) : ∃ m : Bytes, markList.drop k = m :: markList.drop (k + 1) ∧ 0 < m.length ∧ m.length ≤ 2 ∧ ∀ w, (Instr.index 110 (.agg markCells) (.int .i64 (k : Int))).run Tryd.prog w = .ok (.string (strOf m)) w := by
  match k, hk with
  | 0, _ => exact ⟨_, rfl, by decide, by decide, fun _ => by kernel_rfl⟩
  | 1, _ => exact ⟨_, rfl, by decide, by decide, fun _ => by kernel_rfl⟩
  | 2, _ => exact ⟨_, rfl, by decide, by decide, fun _ => by kernel_rfl⟩
  | 3, _ => exact ⟨_, rfl, by decide, by decide, fun _ => by kernel_rfl⟩
  | 4, _ => exact ⟨_, rfl, by decide, by decide, fun _ => by kernel_rfl⟩
  | 5, _ => exact ⟨_, rfl, by decide, by decide, fun _ => by kernel_rfl⟩
  | 6, _ => exact ⟨_, rfl, by decide, by decide, fun _ => by kernel_rfl⟩
  | 7, _ => exact ⟨_, rfl, by decide, by decide, fun _ => by kernel_rfl⟩
  | 8, _ => exact ⟨_, rfl, by decide, by decide, fun _ => by kernel_rfl⟩
  | 9, _ => exact ⟨_, rfl, by decide, by decide, fun _ => by kernel_rfl⟩
  | 10, _ => exact ⟨_, rfl, by decide, by decide, fun _ => by kernel_rfl⟩
  | 11, _ => exact ⟨_, rfl, by decide, by decide, fun _ => by kernel_rfl⟩
  | 12, _ => exact ⟨_, rfl, by decide, by decide, fun _ => by kernel_rfl⟩
  | 13, _ => exact ⟨_, rfl, by decide, by decide, fun _ => by kernel_rfl⟩
  | 14, _ => exact ⟨_, rfl, by decide, by decide, fun _ => by kernel_rfl⟩
  | n + 15, h => omega
theorem has_prefix (s p : ByteArray) (w : World) : Calls Tryd.prog 51 #[.string s, .string p] w fun e w' => e = .returned (.bool (p.data.toList.isPrefixOf s.data.toList)) ∧ w = w' :=
  (Tryd.strings_HasPrefix s p w).mono fun _ _ ⟨he, hw⟩ => ⟨he, hw.symm⟩
theorem markLen_from (k : Nat) (l : Bytes) (h : k = 0) : markLen l = ((markList.drop k).find? (fun m => m.isPrefixOf l)).map List.length := by subst h; rfl
theorem find_hit {l m : Bytes} {r x : List Bytes} (hx : x = m :: r) (h : m.isPrefixOf l = true) : (x.find? (fun m => m.isPrefixOf l)).map List.length = some m.length := by subst hx; simp [h]
theorem find_miss {l m : Bytes} {r x : List Bytes} (hx : x = m :: r) (h : m.isPrefixOf l = false) : (x.find? (fun m => m.isPrefixOf l)).map List.length = (r.find? (fun m => m.isPrefixOf l)).map List.length := by subst hx; simp [h]
theorem markTok_some {l : Bytes} {n : Nat} (h : markLen l = some n) : markTok l = .ok 4 n 0 := by simp [markTok, h]
theorem markTok_none {l : Bytes} (h : markLen l = none) : markTok l = .bad 2 := by simp [markTok, h]
set_option maxHeartbeats 400000 in
theorem lex_mark (s : ByteArray) (w : World) (_hs : s.size ≤ 65536) (hL : Laid w) : Calls Tryd.prog 68 #[.string s] w (OneP (markTok s.data.toList) s.data.toList 0 w) := by
  obtain ⟨t, fr, hg⟩ := hL.ms
  have hsz := lt_of_heap hg
  have HG : Hid (∀ o, (w.alloc o).heap[0]? = some (.cells markCells t fr)) := fun o => by rw [Below.heap_alloc _ _ _ hsz]; exact hg
  clear hg hL hsz
  go_enter Tryd.func68, Tryd.ntmps68
  go_wp2_with (refine wpList_load_row rfl 110 _ rfl 0 rfl t _ fr _ (HG.out _) Tryd.underlying110 rfl (by kernel_rfl) ?_)
  go_loop [7] (fun i => ∃ k : Nat, k ≤ 15 ∧ i = .int .i64 k ∧ markLen s.data.toList = ((markList.drop k).find? (fun m => m.isPrefixOf s.data.toList)).map List.length) (fun i => 15 - (intOf i).toNat)
  case atStart => exact ⟨0, by omega, rfl, rfl⟩
  case round =>
    obtain ⟨k, hk, rfl, hr⟩ := hrel
    have HR := Lib.hid hr
    clear hr
    by_cases hlt : k < 15
    · obtain ⟨m, hm, hm1, hm2, hidx⟩ := mk_index k hlt
      have HM := Lib.hid hm
      clear hm
      go_wp2_with fail
      refine (has_prefix _ _ _).mono ?_
      rintro e w' ⟨rfl, rfl⟩
      have HD := Lib.hid (strOf_data m)
      rw [HD.out]
      cases he : m.isPrefixOf s.data.toList
      · have HE := Lib.hid he
        go_wp2_with fail
        go_round
        case rel => exact ⟨k + 1, by omega, by go_num, by rw [HR.out]; exact find_miss HM.out HE.out⟩
        case measure => simp [intOf]; omega
      · have HE := Lib.hid he
        have hpre : m.length ≤ s.size := by have := (List.isPrefixOf_iff_prefix.1 he).length_le; rwa [len_list] at this
        have hsz := strOf_size m
        go_wp2_with fail
        refine bodyPost_ret (v := oneV (.ok 4 m.length 0) s.data.toList 0) ?_ rfl ⟨by rw [markTok_some (HR.out.trans (find_hit HM.out HE.out))], ?_⟩
        · simp [results, Tryd.results68, go_sem, oneV, tokAgg, extract_take]
        · exact (Below.refl _ _).alloc (Nat.le_refl _) _
    · go_wp2_with fail
      refine bodyPost_ret (v := oneV (.bad 2) s.data.toList 0) ?_ rfl ⟨by rw [markTok_none (by rw [HR.out, List.drop_eq_nil_of_le (by simp [markList]; omega)]; rfl)], ?_⟩
      · simp [results, Tryd.results68, go_sem, oneV, tokAgg]
        rfl
      · exact (Below.refl _ _).alloc (Nat.le_refl _) _
theorem oneTok_pos (s : ByteArray) (h : 0 < s.size) : oneTok s.data.toList = if isLetter s[0] then wordTok s.data.toList else if isDigit s[0] then numTok s.data.toList else markTok s.data.toList := by
  have e := list_of_pos s h
  generalize s.data.toList.drop 1 = t at e
  rw [e]; rfl
theorem oneV_form (r : OneR) (l : Bytes) (pos : Nat) : ∃ k p x n e, oneV r l pos = .tuple #[.agg #[.int .i64 k, .int .i64 p, .string x, .int .i64 n], .int .i64 e] := by
  cases r <;> exact ⟨_, _, _, _, _, rfl⟩
set_option maxHeartbeats 400000 in
theorem lex_token (s : ByteArray) (w : World) (hs : s.size ≤ 65536) (hL : Laid w) (h0 : 0 < s.size) : Calls Tryd.prog 52 #[.string s] w (OneP (oneTok s.data.toList) s.data.toList 0 w) := by
  have HL := Lib.hid hL
  have HS := Lib.hid hs
  clear hL
  have HO := Lib.hid (oneTok_pos s h0)
  go_enter Tryd.func52, Tryd.ntmps52
  go_wp2_with fail
  refine (lex_letter _ _).mono ?_
  rintro e w' ⟨rfl, rfl⟩
  cases hl : isLetter s[0]
  · have HLt := Lib.hid hl
    go_wp2_with fail
    refine (lex_digit _ _).mono ?_
    rintro e w' ⟨rfl, rfl⟩
    cases hd : isDigit s[0]
    · have HD := Lib.hid hd
      go_wp2_with fail
      refine (lex_mark s _ HS.out (HL.out.alloc _)).mono ?_
      rintro e w2 ⟨rfl, hb⟩
      obtain ⟨k, p, x, n, er, hv⟩ := oneV_form (markTok s.data.toList) s.data.toList 0
      rw [hv]
      have HV := Lib.hid hv
      clear hv
      have HBE := Lib.hid hb
      obtain ⟨hc, hf⟩ := bcell hb
      have hz : w.heap.size < w2.heap.size := by have := hb.size; simp at this; omega
      clear hb
      go_wp2_with fail
      refine bodyPost_ret (v := oneV (markTok s.data.toList) s.data.toList 0) ?_ rfl ⟨by rw [HO.out, HLt.out, HD.out]; rfl, ?_⟩
      · rw [HV.out]
        simp [results, Tryd.results52, go_sem, hc]
      · exact below_set4 (((Below.refl _ _).alloc (Nat.le_refl _) _).trans (HBE.out.mono (by simp))) (Nat.le_refl _) _ _ _ _
    · have HD := Lib.hid hd
      go_wp2_with fail
      refine (lex_number s _ HS.out (HL.out.alloc _) h0 HD.out).mono ?_
      rintro e w2 ⟨rfl, hb⟩
      obtain ⟨k, p, x, n, er, hv⟩ := oneV_form (numTok s.data.toList) s.data.toList 0
      rw [hv]
      have HV := Lib.hid hv
      clear hv
      have HBE := Lib.hid hb
      obtain ⟨hc, hf⟩ := bcell hb
      have hz : w.heap.size < w2.heap.size := by have := hb.size; simp at this; omega
      clear hb
      go_wp2_with fail
      refine bodyPost_ret (v := oneV (numTok s.data.toList) s.data.toList 0) ?_ rfl ⟨by rw [HO.out, HLt.out, HD.out]; rfl, ?_⟩
      · rw [HV.out]
        simp [results, Tryd.results52, go_sem, hc]
      · exact below_set4 (((Below.refl _ _).alloc (Nat.le_refl _) _).trans (HBE.out.mono (by simp))) (Nat.le_refl _) _ _ _ _
  · have HLt := Lib.hid hl
    go_wp2_with fail
    refine (lex_word s _ (by unfold maxLen; omega) (HL.out.alloc _)).mono ?_
    rintro e w2 ⟨rfl, hb⟩
    obtain ⟨k, p, x, n, er, hv⟩ := oneV_form (wordTok s.data.toList) s.data.toList 0
    rw [hv]
    have HV := Lib.hid hv
    clear hv
    have HBE := Lib.hid hb
    obtain ⟨hc, hf⟩ := bcell hb
    have hz : w.heap.size < w2.heap.size := by have := hb.size; simp at this; omega
    clear hb
    go_wp2_with fail
    refine bodyPost_ret (v := oneV (wordTok s.data.toList) s.data.toList 0) ?_ rfl ⟨by rw [HO.out, HLt.out]; rfl, ?_⟩
    · rw [HV.out]
      simp [results, Tryd.results52, go_sem, hc]
    · exact below_set4 (((Below.refl _ _).alloc (Nat.le_refl _) _).trans (HBE.out.mono (by simp))) (Nat.le_refl _) _ _ _ _
end Go.Proofs.YthjonkommphkkaaDoor
