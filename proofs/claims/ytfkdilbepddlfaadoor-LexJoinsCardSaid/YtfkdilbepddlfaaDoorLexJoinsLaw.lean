/-
  LexJoins, walked.
-/
import Derived.Test.YtfkdilbepddlfaaDoorLexJoinsPlain
import Derived.Test.YtfkdilbepddlfaaDoorLaw07Awake
import Derived.Deep.QuietTactic
import Derived.BigQuiet
namespace Go.Proofs.YtfkdilbepddlfaaDoor
open Lx Go.RowKit
theorem HasToks.slice {w : World} {v : Value} {ts : List Tok} (h : HasToks w v ts) (hp : 0 < ts.length) : ∃ g cap, v = .slice (some ⟨g, 0, none⟩) ts.length cap ∧ ts.length ≤ maxLen := by
  rcases h.form with ⟨rfl, _⟩ | ⟨_, g, cap, h, hm, _⟩
  · simp at hp
  · exact ⟨g, cap, h, hm⟩
def TwoRel (ts us : List Tok) (v u : Value) (w : World) (ix : Value) (wr : World) : Prop :=
  ∃ k : Nat, k ≤ ts.length ∧ ix = .int .i64 k ∧ HasToks wr v ts ∧ HasToks wr u us ∧ Laid wr ∧ Below w.heap.size w wr
set_option maxHeartbeats 2000000 in
set_option maxRecDepth 100000 in
theorem law_LexJoins (s : ByteArray) (w : World) (hs : s.size ≤ maxLen) (hL : Laid w) : Calls Tryd.prog 6 #[.string s] w fun e w' => e = .returned (.bool true) ∧ Below w.heap.size w w' := by
  have HL := Lib.hid hL
  have HS := Lib.hid hs
  unfold maxLen at hs
  clear hL
  go_enter Tryd.func6, Tryd.ntmps6
  go_wp2_with fail
  refine (lex_Tokens s _ HS.out HL.out).mono ?_
  rintro e w1 ⟨hb1, hr1⟩
  have HB1 := Lib.hid hb1
  have HL1 : Hid (Laid w1) := HL.out.below hb1 (Nat.le_refl _)
  clear hb1
  cases hr : tokensOf s.data.toList with
  | error x =>
    obtain ⟨p, er⟩ := x
    rw [hr] at hr1
    subst hr1
    have her : ((er : Int) != 0) = true := by rw [bne_iff_ne]; have := tokens_err hr; omega
    clear hr
    go_wp2_with fail
    refine (law07_awake _ HL1.out).mono ?_
    rintro e w4 ⟨rfl, hb4⟩
    have HB4 := Lib.hid hb4
    clear hb4
    go_wp2_with fail
    go_ret
    exact ⟨rfl, HB1.out.trans (HB4.out.mono HB1.out.size)⟩
  | ok ts =>
    rw [hr] at hr1
    obtain ⟨v, rfl, hown⟩ := hr1
    have HT := Lib.hid (HasToks.of_own hown)
    clear hown
    by_cases h3 : 3000 < s.size
    · clear hr
      go_wp2_with fail
      refine (law07_awake _ HL1.out).mono ?_
      rintro e w4 ⟨rfl, hb4⟩
      have HB4 := Lib.hid hb4
      clear hb4
      go_wp2_with fail
      go_ret
      exact ⟨rfl, HB1.out.trans (HB4.out.mono HB1.out.size)⟩
    · obtain ⟨hbk, hpos, us, hus, hsame⟩ := tokens_join hr (by rw [len_list]; omega)
      have HUS := Lib.hid hus
      have HSM := Lib.hid hsame
      have hjl := joinOf_len ts
      clear hr hus hsame
      go_wp2_with fail
      refine (lex_Join v ts _ HT.out hpos (by omega)).mono ?_
      rintro e w2 ⟨rfl, hb2⟩
      have HB2 : Hid (Below w.heap.size w w2) := HB1.out.trans (hb2.mono HB1.out.size)
      have HL2 : Hid (Laid w2) := HL1.out.below hb2 (Nat.le_refl _)
      have HT2 : Hid (HasToks w2 v ts) := HT.out.below hb2
      clear hb2
      have hjs : (strOf (joinOf ts)).size ≤ maxLen := by rw [strOf_size]; unfold maxLen; omega
      have HJS := Lib.hid hjs
      clear hjs
      go_wp2_with fail
      refine (lex_Tokens _ _ HJS.out HL2.out).mono ?_
      rintro e w3 ⟨hb3, hr3⟩
      rw [strOf_data, HUS.out] at hr3
      obtain ⟨u, rfl, hown3⟩ := hr3
      have HU3 : Hid (HasToks w3 u us) := HasToks.of_own hown3
      have HB3 : Hid (Below w.heap.size w w3) := HB2.out.trans (hb3.mono HB2.out.size)
      have HL3 : Hid (Laid w3) := HL2.out.below hb3 (Nat.le_refl _)
      have HT3 : Hid (HasToks w3 v ts) := HT2.out.below hb3
      clear hb3 hown3
      go_wp2_with fail
      refine (ref_Join v ts _ HT3.out hpos (by omega)).mono ?_
      rintro e w' ⟨rfl, rfl⟩
      have hlen := HSM.out.length
      obtain ⟨g, cap, hv, hm⟩ := HT3.out.slice hpos
      obtain ⟨g', cap', hu, hm'⟩ := HU3.out.slice (by omega)
      subst hv
      subst hu
      unfold maxLen at hm hm'
      obtain ⟨n, hn⟩ : ∃ n, n = ts.length := ⟨_, rfl⟩
      rw [← hlen] at HU3 ⊢
      rw [← hn] at hpos hm HT3 HU3 ⊢
      have HN := Lib.hid hn
      have HLN := Lib.hid hlen
      clear hn hlen hm' hbk hjl HT HT2
      go_wp2_with fail
      go_loopw [10] (fun ix wr => TwoRel ts us (.slice (some ⟨g, 0, none⟩) n cap) (.slice (some ⟨g', 0, none⟩) n cap') w ix wr) (fun ix _ => n - (intOf ix).toNat)
      case atStart => exact ⟨0, Nat.zero_le _, rfl, HT3.out, HU3.out, HL3.out, HB3.out⟩
      case round =>
        obtain ⟨k, hk, rfl, h1, h2, h4, h5⟩ := hrel
        have H1 := Lib.hid h1
        have H2 := Lib.hid h2
        have H4 := Lib.hid h4
        have H5 := Lib.hid h5
        clear h1 h2 h4 h5
        by_cases hlt : k < n
        · have hlt' : k < ts.length := by rw [← HN.out]; exact hlt
          have hlt2 : k < us.length := by rw [← HLN.out]; exact hlt'
          obtain ⟨c0, _, c2, c3⟩ := H1.out.cellsAt k hlt'
          obtain ⟨d0, _, d2, d3⟩ := H2.out.cellsAt k hlt2
          obtain ⟨s1, s2, s3⟩ := HSM.out.get k hlt' hlt2
          rw [← s1] at d0
          rw [← s2] at d2
          rw [← s3] at d3
          clear s1 s2 s3
          generalize ts[k]'hlt' = t at c0 c2 c3 d0 d2 d3
          go_wp2_with fail
          go_quiet (fail)
          go_wp2_with fail
          go_roundw
          case rel => exact ⟨k + 1, hlt', by go_num, H1.out.below (below_drewN (Below.refl _ _) _), H2.out.below (below_drewN (Below.refl _ _) _), H4.out.below (below_drewN (Below.refl _ _) _) (Nat.le_refl _), below_drewN H5.out _⟩
          case measure => simp [intOf]; omega
        · go_wp2_with fail
          refine (law07_awake _ H4.out).mono ?_
          rintro e w4 ⟨rfl, hb4⟩
          have HB4 := Lib.hid hb4
          clear hb4
          go_wp2_with fail
          go_ret
          exact ⟨rfl, H5.out.trans (HB4.out.mono H5.out.size)⟩
end Go.Proofs.YtfkdilbepddlfaaDoor
