/-
  LexSpans, walked.
-/
import Derived.Test.YtfkdilbepddlfaaDoorLexGap
import Derived.Test.YtfkdilbepddlfaaDoorLaw07Awake
import Derived.Test.YtfkdilbepddlfaaDoorLexWordsLaw
import Derived.Deep.QuietTactic
import Derived.BigQuiet
import Derived.IntWalk
namespace Go.Proofs.YtfkdilbepddlfaaDoor
open Lx Go.RowKit
theorem HasToks.drewN {w : World} {v : Value} {ts : List Tok} (h : HasToks w v ts) (n : Nat) : HasToks (w.drewN n) v ts := h.below (below_drewN (Below.refl _ _) n)
theorem HasToks.cells {w : World} {g n cap : Nat} {ts : List Tok} (h : HasToks w (.slice (some ⟨g, 0, none⟩) n cap) ts) (i : Nat) (hi : i < ts.length) : w.cell? ⟨g, i * 4, none⟩ = some (.int .i64 (ts[i].kind : Int)) ∧ w.cell? ⟨g, i * 4 + 1, none⟩ = some (.int .i64 (ts[i].pos : Int)) ∧
    w.cell? ⟨g, i * 4 + 2, none⟩ = some (.string (strOf ts[i].text)) ∧ w.cell? ⟨g, i * 4 + 3, none⟩ = some (.int .i64 (ts[i].n : Int)) := by
  rcases h with ⟨h, _⟩ | ⟨g', cap', h, _, hc⟩
  · cases h
  · cases h; exact hc i hi
theorem law_gap_true (s : ByteArray) (w : World) (hs : s.size ≤ 65536) (h : (skipB false s.data.toList).isEmpty = true) : Calls Tryd.prog 16 #[.string s] w fun e w' => e = .returned (.bool true) ∧ w' = w :=
  (law_gap s w hs).mono fun _ _ ⟨he, hw⟩ => ⟨by rw [he, h], hw⟩
theorem slice_run2 (s : ByteArray) (p q : Nat) (w : World) (h : p ≤ q) (h2 : q ≤ s.size) : (Instr.slice 9 (.string s) (some (.int .i64 (p : Int))) (some (.int .i64 (q : Int))) none).run Tryd.prog w = .ok (.string (s.extract p q)) w := by
  have := run_slice_string (P := Tryd.prog) (w := w) 9 s .i64 .i64 (p : Int) (q : Int) Tryd.underlying9 (by omega) (by omega) (by omega)
  rw [this]
  congr
def SpanRel (s : ByteArray) (ts : List Tok) (v : Value) (w : World) (en ix : Value) (wr : World) : Prop :=
  ∃ (i e : Nat), en = .int .i64 e ∧ ix = .int .i64 i ∧ e ≤ s.size ∧ i ≤ ts.length ∧ (i < ts.length → Spans s.data.toList e (ts.drop i)) ∧ (i = ts.length → e = s.size) ∧ HasToks wr v ts ∧ Laid wr ∧ Below w.heap.size w wr
set_option maxHeartbeats 2000000 in
set_option maxRecDepth 100000 in
theorem law_LexSpans (s : ByteArray) (w : World) (hs : s.size ≤ maxLen) (hL : Laid w) : Calls Tryd.prog 5 #[.string s] w fun e w' => e = .returned (.bool true) ∧ Below w.heap.size w w' := by
  have HL := Lib.hid hL
  have HS := Lib.hid hs
  unfold maxLen at hs
  clear hL
  go_enter Tryd.func5, Tryd.ntmps5
  go_wp2_with fail
  refine (lex_Tokens s _ HS.out HL.out).mono ?_
  rintro e w1 ⟨hb1, hr1⟩
  have HB1 := Lib.hid hb1
  have HL1 : Hid (Laid w1) := HL.out.below hb1 (Nat.le_refl _)
  clear hb1
  cases hr : tokensOf s.data.toList with
  | error x =>
    obtain ⟨p, er⟩ := x
    rw [hr] at hr1
    subst hr1
    have her : ((er : Int) != 0) = true := by rw [bne_iff_ne]; have := tokens_err hr; omega
    by_cases hbig : 65536 < s.size
    · have h3 : p = 0 ∧ er = 3 := by
        unfold tokensOf at hr
        rw [if_pos (by rw [len_list]; exact hbig)] at hr
        simp only [Except.error.injEq, Prod.mk.injEq] at hr
        omega
      obtain ⟨rfl, rfl⟩ := h3
      clear hr her
      go_wp2_with fail
      refine (law07_awake _ HL1.out).mono ?_
      rintro e w4 ⟨rfl, hb4⟩
      have HB4 := Lib.hid hb4
      clear hb4
      go_wp2_with fail
      go_ret
      exact ⟨rfl, HB1.out.trans (HB4.out.mono HB1.out.size)⟩
    · obtain ⟨hq, ts, hts⟩ := tokens_cut hr (by rw [len_list]; omega)
      rw [len_list] at hq
      have HTS : Hid (tokensOf (s.extract 0 p).data.toList = .ok ts) := by show _ = _; rw [extract_take_data]; exact hts
      have hxs : (s.extract 0 p).size ≤ maxLen := by have := extract_take_le s p; unfold maxLen; omega
      have HX := Lib.hid hxs
      clear hr hts hxs
      by_cases he3 : er = 3
      · subst he3
        clear her
        go_wp2_with fail
        refine (lex_Tokens _ _ HX.out HL1.out).mono ?_
        rintro e w2 ⟨hb2, hr2⟩
        rw [HTS.out] at hr2
        obtain ⟨v2, rfl, _⟩ := hr2
        have HB2 : Hid (Below w.heap.size w w2) := HB1.out.trans (hb2.mono HB1.out.size)
        have HL2 : Hid (Laid w2) := HL1.out.below hb2 (Nat.le_refl _)
        clear hb2
        go_wp2_with fail
        refine (law07_awake _ HL2.out).mono ?_
        rintro e w4 ⟨rfl, hb4⟩
        have HB4 := Lib.hid hb4
        clear hb4
        go_wp2_with fail
        go_ret
        exact ⟨rfl, HB2.out.trans (HB4.out.mono HB2.out.size)⟩
      · have he3' : ((er : Int) == 3) = false := by rw [beq_eq_false_iff_ne]; omega
        clear he3
        go_wp2_with fail
        refine (lex_Tokens _ _ HX.out HL1.out).mono ?_
        rintro e w2 ⟨hb2, hr2⟩
        rw [HTS.out] at hr2
        obtain ⟨v2, rfl, _⟩ := hr2
        have HB2 : Hid (Below w.heap.size w w2) := HB1.out.trans (hb2.mono HB1.out.size)
        have HL2 : Hid (Laid w2) := HL1.out.below hb2 (Nat.le_refl _)
        clear hb2
        go_wp2_with fail
        refine (law07_awake _ HL2.out).mono ?_
        rintro e w4 ⟨rfl, hb4⟩
        have HB4 := Lib.hid hb4
        clear hb4
        go_wp2_with fail
        go_ret
        exact ⟨rfl, HB2.out.trans (HB4.out.mono HB2.out.size)⟩
  | ok ts =>
    rw [hr] at hr1
    obtain ⟨v, rfl, hown⟩ := hr1
    obtain ⟨hl65, hsp⟩ := tokens_spans hr
    rw [len_list] at hl65
    have hht := HasToks.of_own hown
    have hpos : 0 < ts.length := by
      cases ts with
      | nil => exact absurd hsp (by simp [Spans])
      | cons t r => simp
    obtain ⟨g, cap, hv, hm⟩ : ∃ g cap, v = .slice (some ⟨g, 0, none⟩) ts.length cap ∧ ts.length ≤ maxLen := by
      rcases hht.form with ⟨rfl, _⟩ | ⟨_, g, cap, h, hm, _⟩
      · simp at hpos
      · exact ⟨g, cap, h, hm⟩
    have HT := Lib.hid hht
    have HSP := Lib.hid hsp
    clear hr hown hht hsp
    subst hv
    unfold maxLen at hm
    obtain ⟨n, hn⟩ : ∃ n, n = ts.length := ⟨_, rfl⟩
    rw [← hn] at hpos hm ⊢
    have HN := Lib.hid hn
    clear hn
    go_wp2_with fail
    go_loopw [9, 10] (fun en ix wr => SpanRel s ts (.slice (some ⟨g, 0, none⟩) ts.length cap) w en ix wr) (fun _ ix _ => n - (intOf ix).toNat)
    case atStart => exact ⟨0, 0, rfl, rfl, Nat.zero_le _, Nat.zero_le _, fun _ => by simpa using HSP.out, fun h => by rw [← HN.out] at h; omega, HT.out, HL1.out, HB1.out⟩
    case round =>
      obtain ⟨i, e, rfl, rfl, hes, hi, hspan, hend, hht, hlaid, hbel⟩ := hrel
      have hws : w.heap.size ≤ wr.heap.size := hbel.size
      by_cases hlt : i < n
      · have hlt' : i < ts.length := by rw [← HN.out]; exact hlt
        obtain ⟨c0, c1, c2, c3⟩ := hht.cells i hlt'
        have hsp := hspan hlt'
        rw [List.drop_eq_getElem_cons hlt'] at hsp
        obtain ⟨⟨s1, s2, s3, s4⟩, s5⟩ := hsp
        rw [len_list] at s2
        have HNX : Hid (if ts.drop (i + 1) = [] then (ts[i]'hlt').kind = 5 ∧ (ts[i]'hlt').text = [] ∧ (ts[i]'hlt').pos = s.data.toList.length else (ts[i]'hlt').kind ≠ 5 ∧ (ts[i]'hlt').text ≠ [] ∧ Spans s.data.toList ((ts[i]'hlt').pos + (ts[i]'hlt').text.length) (ts.drop (i + 1))) := s5
        generalize ts[i]'hlt' = t at c0 c1 c2 c3 s1 s2 s3 s4 HNX
        have HT2 := Lib.hid hht
        have HL2 := Lib.hid hlaid
        have HB2 := Lib.hid hbel
        clear hht hlaid hbel hspan hend s5
        obtain ⟨kd, pos, tx, nv⟩ := t
        simp only at c0 c1 c2 c3 s1 s2 s3 s4
        obtain ⟨m, hm2⟩ : ∃ m, m = tx.length := ⟨_, rfl⟩
        have HM := Lib.hid hm2
        have hsz : (strOf tx).size = m := by rw [strOf_size, hm2]
        rw [← hm2] at s2 s3
        clear hm2
        have hx1 : (s.extract pos (pos + m)).toList = tx := by
          rw [ByteArray.toList_eq, extract_strOf, strOf_data, show pos + m - pos = m from by omega]; exact s3
        have hx2 : (strOf tx).toList = tx := by rw [ByteArray.toList_eq, strOf_data]
        have hgp : (skipB false (s.extract e pos).data.toList).isEmpty = true := by
          rw [extract_strOf, strOf_data, s4]; rfl
        have HGP := Lib.hid hgp
        clear hgp
        have hgs : (s.extract e pos).size ≤ 65536 := by rw [extract_strOf, strOf_size]; simp; omega
        clear s3 s4
        go_wp2_with fail
        have k1 : decide (pos < e) = false := by rw [decide_eq_false_iff_not]; omega
        have k2 : decide ((pos : Int) < (e : Int)) = false := by rw [decide_eq_false_iff_not]; omega
        have k3 : decide ((s.size : Int) < (pos : Int) + (m : Int)) = false := by rw [decide_eq_false_iff_not]; omega
        have k4 : IntKind.i64.wrap ((pos : Int) + (m : Int)) = (pos : Int) + (m : Int) := IntWalk.i64_in _ (by omega)
        have k5 : ∀ w, (Instr.slice 9 (.string s) (some (.int .i64 (pos : Int))) (some (.int .i64 ((pos : Int) + (m : Int)))) none).run Tryd.prog w = .ok (.string (s.extract pos (pos + m))) w := fun w => slice_run s pos m w s2
        have k6 : ∀ w, (Instr.slice 9 (.string s) (some (.int .i64 (e : Int))) (some (.int .i64 (pos : Int))) none).run Tryd.prog w = .ok (.string (s.extract e pos)) w := fun w => slice_run2 s e pos w s1 (by omega)
        go_quiet ((go_at_call 16; exact Calls.quiet_of_same (law_gap_true _ _ hgs HGP.out)))
        clear k1 k2 k3 k4 k5 k6 HGP hgs hx1
        have hcd : ∀ nq : Nat, Below wr.heap.size wr ((wr.alloc (.cells #[.int .i64 (kd : Int), .int .i64 (pos : Int), .string (strOf tx), .int .i64 (nv : Int)] 30)).drewN nq) := fun nq => below_drewN ((Below.refl _ _).alloc (Nat.le_refl _) _) nq
        have HCD := Lib.hid hcd
        clear hcd c0 c1 c2 c3
        by_cases hlast : i + 1 = n
        · have hnx := HNX.out
          rw [if_pos (List.drop_eq_nil_of_le (by rw [← HN.out]; omega))] at hnx
          obtain ⟨n1, n2, n3⟩ := hnx
          rw [len_list] at n3
          have h5 : ((kd : Int) == 5) = true := by rw [beq_iff_eq]; omega
          have h5' : ((kd : Int) != 5) = false := by rw [bne_eq_false_iff_eq]; omega
          have hi5 : ((i : Int) == (n : Int) - 1) = true := by rw [beq_iff_eq]; omega
          have hm0 : m = 0 := by rw [HM.out, n2]; rfl
          have HE : Hid (pos + m = s.size) := by show _ = _; omega
          clear n1 n2 n3 HNX hm0
          go_wp2_with fail
          go_roundw
          case rel => exact ⟨i + 1, pos + m, by go_num, by go_num, by omega, by rw [← HN.out]; omega, fun h => by rw [← HN.out] at h; omega, fun _ => HE.out, HT2.out.below (HCD.out _), HL2.out.below (HCD.out _) (Nat.le_refl _), HB2.out.trans ((HCD.out _).mono hws)⟩
          case measure => simp [intOf]; omega
        · have hnx := HNX.out
          rw [if_neg (by intro h; have := congrArg List.length h; rw [List.length_drop, ← HN.out] at this; simp at this; omega)] at hnx
          obtain ⟨n1, n2, n3⟩ := hnx
          rw [← HM.out] at n3
          have h5 : ((kd : Int) == 5) = false := by rw [beq_eq_false_iff_ne]; omega
          have h5' : ((kd : Int) != 5) = true := by rw [bne_iff_ne]; omega
          have hi5 : ((i : Int) == (n : Int) - 1) = false := by rw [beq_eq_false_iff_ne]; omega
          have htx : tx.isEmpty = false := by cases tx with
            | nil => exact absurd rfl n2
            | cons a b => rfl
          have HN3 := Lib.hid n3
          clear n1 n2 n3 HNX
          go_wp2_with fail
          go_roundw
          case rel => exact ⟨i + 1, pos + m, by go_num, by go_num, by omega, by rw [← HN.out]; omega, fun _ => HN3.out, fun h => by rw [← HN.out] at h; omega, HT2.out.below (HCD.out _), HL2.out.below (HCD.out _) (Nat.le_refl _), HB2.out.trans ((HCD.out _).mono hws)⟩
          case measure => simp [intOf]; omega
      · have hee : e = s.size := hend (by have := HN.out; omega)
        have HL2 := Lib.hid hlaid
        have HB2 := Lib.hid hbel
        clear hht hlaid hbel hspan hend
        subst hee
        go_wp2_with fail
        refine (law07_awake _ HL2.out).mono ?_
        rintro e w4 ⟨rfl, hb4⟩
        have HB4 := Lib.hid hb4
        clear hb4
        go_wp2_with fail
        go_ret
        exact ⟨rfl, HB2.out.trans (HB4.out.mono HB2.out.size)⟩
end Go.Proofs.YtfkdilbepddlfaaDoor
