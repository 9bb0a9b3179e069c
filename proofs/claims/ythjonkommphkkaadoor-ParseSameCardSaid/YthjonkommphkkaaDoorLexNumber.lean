/-
  lex.number, walked.
-/
import Derived.Test.YthjonkommphkkaaDoorLexWord
import Derived.Test.YthjonkommphkkaaDoorLexNum
import Derived.Test.YthjonkommphkkaaDoorShelf
import Derived.Lib.AtoiErrMem
namespace Go.Proofs.YthjonkommphkkaaDoor
open Lx Go.RowKit
theorem bcell {W w1 : World} (hb : Below W.heap.size W w1) : (∀ b o, b < W.heap.size → w1.cell? ⟨b, o, none⟩ = W.cell? ⟨b, o, none⟩) ∧ (∀ b o, b < W.heap.size → w1.frozen? ⟨b, o, none⟩ = W.frozen? ⟨b, o, none⟩) :=
  ⟨fun b o h => hb.cell (p := ⟨b, o, none⟩) h, fun b o h => hb.frozen (p := ⟨b, o, none⟩) h⟩
theorem extract_take_le (s : ByteArray) (k : Nat) : (s.extract 0 k).size ≤ s.size := by
  rw [extract_take, strOf_size, List.length_take, len_list]; omega
theorem Laid.erCell {w : World} (h : Laid w) : ∃ tp p, w.cell? ⟨3, 0, none⟩ = some (.iface tp p) := by
  obtain ⟨tp, p, t, fr, hh⟩ := h.er
  exact ⟨tp, p, by simp [World.cell?, hh]⟩
theorem parse_ok (s : ByteArray) (hmax : s.size ≤ 9223372036854775806) (v : Int) (h : Lib.parseIntB 64 s.data.toList = .ok v) (w : World) :
    Calls Tryd.prog 80 #[.string s, .int .i64 10, .int .i64 64] w fun e w' => e = .returned (.tuple #[.int .i64 v, .nilIface]) ∧ Below w.heap.size w w' := by
  refine (Tryd.strconv_ParseInt_10_at64_ok s hmax v h w).mono ?_
  rintro e w' ⟨rfl, rfl | ⟨t, rfl⟩⟩
  · exact ⟨rfl, Below.refl _ _⟩
  · exact ⟨rfl, Lib.bytesWorld_below _ _ _⟩
theorem below_set4 {w0 w : World} {B b : Nat} (h : Below B w0 w) (hb : B ≤ b) (v0 v1 v2 v3 : Value) :
    Below B w0 ((((w.setCell ⟨b, 0, none⟩ v0).setCell ⟨b, 1, none⟩ v1).setCell ⟨b, 2, none⟩ v2).setCell ⟨b, 3, none⟩ v3) :=
  (((h.setCell hb _).setCell hb _).setCell hb _).setCell hb _
set_option maxHeartbeats 400000 in
theorem lex_number (s : ByteArray) (w : World) (hs : s.size ≤ 65536) (hL : Laid w) (h0 : 0 < s.size) (hd : isDigit s[0] = true) : Calls Tryd.prog 67 #[.string s] w (OneP (numTok s.data.toList) s.data.toList 0 w) := by
  have HL := Lib.hid hL
  have HS : Hid (s.size ≤ maxLen) := by show s.size ≤ maxLen; unfold maxLen; omega
  clear hL
  have hle := spanOf_le isDigit s.data.toList
  rw [len_list] at hle
  have hpos : 0 < spanOf isDigit s.data.toList := by
    have e := list_of_pos s h0
    generalize s.data.toList.drop 1 = t at e
    rw [e]; exact spanOf_pos _ _ _ hd
  have HN := Lib.hid (numTok_eq s.data.toList)
  have HB := Lib.hid (numBad_eq s h0)
  have HP := Lib.hid (parseIntB_digits (s.data.toList.take (spanOf isDigit s.data.toList)) (by intro h; have := congrArg List.length h; rw [List.length_take, len_list, List.length_nil] at this; omega) (take_span_all _ _))
  clear hd
  go_enter Tryd.func67, Tryd.ntmps67
  go_wp2_with fail
  refine (lex_span_digit s _ HS.out).mono ?_
  rintro e w' ⟨rfl, rfl⟩
  generalize hn : spanOf isDigit s.data.toList = n at hle hpos HN HB HP ⊢
  clear hn
  have hreach : s.size ≤ 9223372036854775806 := by omega
  cases hbad : numBad s.data.toList
  · have HBAD := Lib.hid hbad
    rw [HB.out, Bool.or_eq_false_iff] at hbad
    have key : (((s[0].toNat : Int) == 48) = false ∨ n ≤ 1) ∧ (s.size ≤ n ∨ ∃ h : n < s.size, isPart s[n] = false) := by
      refine ⟨?_, ?_⟩
      · by_cases hz : s[0].toNat = 48
        · right
          have := hbad.1
          simp [hz] at this
          omega
        · left
          rw [beq_eq_false_iff_ne]; omega
      · by_cases h2 : n < s.size
        · right
          exact ⟨h2, by rw [← nextPart_lt s n h2]; exact hbad.2⟩
        · left; omega
    clear hbad HB
    rcases key with ⟨hz | h1, h2 | ⟨h2, h3⟩⟩
    all_goals
      go_wp2_with (go_at_call 78; refine (lex_part _ _).mono ?_; rintro e w' ⟨rfl, rfl⟩)
      all_goals
        by_cases hv : 9223372036854775808 ≤ numVal (s.data.toList.take n)
        · obtain ⟨tp, p, hcell⟩ := (HL.out.alloc (Obj.cells #[Value.int IntKind.i64 0, Value.int IntKind.i64 0, Value.string ⟨#[]⟩, Value.int IntKind.i64 0] 37)).erCell
          refine (Tryd.strconv_ParseInt_10_at64_range (s.extract 0 n) ?_ ?_ _ _ hcell (.inr ⟨tp, p, rfl⟩)).mono ?_
          · have := extract_take_le s n; omega
          · rw [extract_take_data, HP.out, if_pos hv]
          · rintro e w2 ⟨N, rfl, _, _, hb⟩
            clear hcell
            have HBE := Lib.hid hb
            obtain ⟨hc, hf⟩ := bcell hb
            have hz : w.heap.size < w2.heap.size := by have := hb.size; simp at this; omega
            clear hb
            go_wp2_with fail
            refine bodyPost_ret (v := oneV (.bad 4) s.data.toList 0) ?_ rfl ⟨by rw [HN.out, HBAD.out, if_neg (by simp), if_pos hv], ?_⟩
            · clear HN HP HBAD HBE HL HS hs hv
              simp [results, Tryd.results67, go_sem, hc, oneV, tokAgg]
              rfl
            · exact below_set4 (((Below.refl _ _).alloc (Nat.le_refl _) _).trans (HBE.out.mono (by simp))) (Nat.le_refl _) _ _ _ _
        · refine (parse_ok (s.extract 0 n) ?_ (numVal (s.data.toList.take n) : Nat) ?_ _).mono ?_
          · have := extract_take_le s n; omega
          · rw [extract_take_data, HP.out, if_neg hv]
          · rintro e w2 ⟨rfl, hb⟩
            have HBE := Lib.hid hb
            obtain ⟨hc, hf⟩ := bcell hb
            have hz : w.heap.size < w2.heap.size := by have := hb.size; simp at this; omega
            clear hb
            go_wp2_with fail
            refine bodyPost_ret (v := oneV (.ok 3 n (numVal (s.data.toList.take n))) s.data.toList 0) ?_ rfl ⟨by rw [HN.out, HBAD.out, if_neg (by simp), if_neg hv], ?_⟩
            · clear HN HP HBAD HBE HL HS hs hv
              simp [results, Tryd.results67, go_sem, hc, oneV, tokAgg, extract_take]
            · exact below_set4 (((Below.refl _ _).alloc (Nat.le_refl _) _).trans (HBE.out.mono (by simp))) (Nat.le_refl _) _ _ _ _
  · have HBAD := Lib.hid hbad
    rw [HB.out, Bool.or_eq_true] at hbad
    have key : (((s[0].toNat : Int) == 48) = true ∧ 1 < n) ∨ ((((s[0].toNat : Int) == 48) = false ∨ n ≤ 1) ∧ ∃ h : n < s.size, isPart s[n] = true) := by
      by_cases hz : s[0].toNat = 48 ∧ 1 < n
      · exact .inl ⟨by rw [beq_iff_eq]; omega, hz.2⟩
      · right
        refine ⟨?_, ?_⟩
        · by_cases hz0 : s[0].toNat = 48
          · right; omega
          · left; rw [beq_eq_false_iff_ne]; omega
        · rcases hbad with h | h
          · simp only [Bool.and_eq_true, decide_eq_true_eq] at h; exact absurd h hz
          · by_cases h2 : n < s.size
            · exact ⟨h2, by rw [← nextPart_lt s n h2]; exact h⟩
            · rw [nextPart_ge s n (by omega)] at h; cases h
    clear hbad HB
    rcases key with ⟨hz, h1⟩ | ⟨hz | h1, h2, h3⟩
    all_goals
      go_wp2_with (go_at_call 78; refine (lex_part _ _).mono ?_; rintro e w' ⟨rfl, rfl⟩)
      all_goals
        refine bodyPost_ret (v := oneV (.bad 2) s.data.toList 0) ?_ rfl ⟨by rw [HN.out, HBAD.out, if_pos rfl], ?_⟩
        · clear HN HP HBAD HL HS hs
          simp [results, Tryd.results67, go_sem, oneV, tokAgg]
          rfl
        · exact (Below.refl _ _).alloc (Nat.le_refl _) _
end Go.Proofs.YthjonkommphkkaaDoor
