/-
  ParseTokens, walked.
-/
import Derived.Test.YthjonkommphkkaaGreatDoorSrcAt
import Derived.Test.YthjonkommphkkaaGreatDoorRefSameAll
import Derived.Test.YthjonkommphkkaaGreatDoorParTokensP
import Derived.Test.YthjonkommphkkaaGreatDoorTokLt
import Derived.Test.YthjonkommphkkaaGreatDoorParTopExpr
import Derived.Deep.QuietTactic
import Derived.BigQuiet
namespace Go.Proofs.YthjonkommphkkaaGreatDoor
open Lx Go.RowKit
theorem tokens_key {s t : Bytes} {ts us : List Tok} (h : (∃ c, programR s = .ok c ∧ programR t = .ok c) ∨ (∃ e, e ≠ 2 ∧ programR s = .error (0, e) ∧ programR t = .error (0, e)) ∨ ∃ q, q < ts.length ∧ programR s = .error ((tk ts q).pos, 2) ∧ programR t = .error ((tk us q).pos, 2))
    {p1 er1 p2 er2 : Int} {x1 x2 : List Cl} (h1 : (er1 = 0 ∧ p1 = 0 ∧ programR s = .ok x1) ∨ ((er1 != 0) = true ∧ ∃ (q f : Nat), p1 = (q : Int) ∧ er1 = (f : Int) ∧ x1 = [] ∧ programR s = .error (q, f)))
    (h2 : (er2 = 0 ∧ p2 = 0 ∧ programR t = .ok x2) ∨ ((er2 != 0) = true ∧ ∃ (q f : Nat), p2 = (q : Int) ∧ er2 = (f : Int) ∧ x2 = [] ∧ programR t = .error (q, f))) :
    er2 = er1 ∧ x2 = x1 ∧ (((er1 != 2) = true ∧ p1 = 0 ∧ p2 = 0) ∨ (er1 = 2 ∧ ∃ q, q < ts.length ∧ p1 = ((tk ts q).pos : Int) ∧ p2 = ((tk us q).pos : Int))) := by
  rcases h with ⟨c, a, b⟩ | ⟨e, he, a, b⟩ | ⟨q, hq, a, b⟩
  · rcases h1 with ⟨rfl, rfl, h1⟩ | ⟨_, q, f, _, _, _, h1⟩
    · rcases h2 with ⟨rfl, rfl, h2⟩ | ⟨_, q, f, _, _, _, h2⟩
      · rw [a] at h1; rw [b] at h2; cases h1; cases h2
        exact ⟨rfl, rfl, .inl ⟨by decide, rfl, rfl⟩⟩
      · rw [b] at h2; cases h2
    · rw [a] at h1; cases h1
  · rcases h1 with ⟨rfl, rfl, h1⟩ | ⟨_, q, f, rfl, rfl, rfl, h1⟩
    · rw [a] at h1; cases h1
    · rcases h2 with ⟨rfl, rfl, h2⟩ | ⟨_, q2, f2, rfl, rfl, rfl, h2⟩
      · rw [b] at h2; cases h2
      · rw [a] at h1; rw [b] at h2; cases h1; cases h2
        exact ⟨rfl, rfl, .inl ⟨by rw [bne_iff_ne]; omega, rfl, rfl⟩⟩
  · rcases h1 with ⟨rfl, rfl, h1⟩ | ⟨_, q, f, rfl, rfl, rfl, h1⟩
    · rw [a] at h1; cases h1
    · rcases h2 with ⟨rfl, rfl, h2⟩ | ⟨_, q2, f2, rfl, rfl, rfl, h2⟩
      · rw [b] at h2; cases h2
      · rw [a] at h1; rw [b] at h2; cases h1; cases h2
        exact ⟨rfl, rfl, .inr ⟨rfl, _, hq, rfl, rfl⟩⟩
theorem IsList.laterCl {w w' : World} {d : Nat} {l : List Cl} {v : Value} (h : IsList Any w 4 (IsCl Any w d) l v) (hb : Below w.heap.size w w') : IsList Any w' 4 (IsCl Any w' d) l v := h.kept (kept_any hb) (by omega) fun _ _ _ => IsCl.kept (kept_any hb)
theorem HasToks.slice1 {w : World} {v : Value} {ts : List Tok} (h : HasToks w v ts) (hp : 0 < ts.length) : ∃ g cap, v = .slice (some ⟨g, 0, none⟩) ts.length cap ∧ ts.length ≤ maxLen := by
  rcases h.form with ⟨rfl, _⟩ | ⟨_, g, cap, h, hm, _⟩
  · simp at hp
  · exact ⟨g, cap, h, hm⟩
/-- Where the loop of ParseTokens stands. -/
def AtRel (q : Nat) (w : World) (i : Value) (wr : World) : Prop := ∃ n : Nat, n ≤ q ∧ i = .int .i64 (n : Int) ∧ Below w.heap.size w wr
set_option maxHeartbeats 4000000 in
set_option maxRecDepth 100000 in
theorem law_ParseTokens (s : ByteArray) (w : World) (hs : s.size ≤ maxLen) (hL : Laid w) : Calls Tryz.prog 5 #[.string s] w fun e w' => e = .returned (.bool true) ∧ Below w.heap.size w w' := by
  have HL := Lib.hid hL
  have HS := Lib.hid hs
  unfold maxLen at hs
  clear hL
  go_enter Tryz.func5, Tryz.ntmps5
  go_wp2_with fail
  refine (ref_Tokens s _ HS.out).mono ?_
  rintro e w1 ⟨hb1, hr1⟩
  have HB1 := Lib.hid hb1
  have HL1 : Hid (Laid w1) := HL.out.below hb1 (Nat.le_refl _)
  clear hb1
  cases hr : tokensOf s.data.toList with
  | error x =>
    obtain ⟨p, er⟩ := x
    have her := tokensOf_err hr
    rw [hr] at hr1
    subst hr1
    clear hr
    have he0 : ((er : Int) != 0) = true := by rw [bne, beq_eq_false_iff_ne.2 (by omega)]; rfl
    go_wp2_with fail
    refine (law08_awake _ HL1.out).mono ?_
    rintro e w9 ⟨rfl, hb9⟩
    have HB9 := Lib.hid (HB1.out.trans (hb9.mono HB1.out.size))
    clear hb9
    go_wp2_with fail
    go_ret
    exact ⟨rfl, HB9.out⟩
  | ok ts =>
    rw [hr] at hr1
    obtain ⟨v, rfl, hown⟩ := hr1
    have HT := Lib.hid (HasToks.of_own hown)
    clear hown
    by_cases h3 : 3000 < s.size
    · clear hr
      go_wp2_with fail
      refine (law08_awake _ HL1.out).mono ?_
      rintro e w9 ⟨rfl, hb9⟩
      have HB9 := Lib.hid (HB1.out.trans (hb9.mono HB1.out.size))
      clear hb9
      go_wp2_with fail
      go_ret
      exact ⟨rfl, HB9.out⟩
    · obtain ⟨hbk, hpos, us, hus, hsame⟩ := tokens_join hr (by rw [len_list]; omega)
      have HK := Lib.hid (parse_tokens hr hus hsame)
      have HTK := Lib.hid hr
      have HUS := Lib.hid hus
      have HSM := Lib.hid hsame
      have HBK := Lib.hid hbk
      have HPOS := Lib.hid hpos
      have hjl := joinOf_len ts
      have HJS : Hid ((strOf (joinOf ts)).size ≤ maxLen) := by show _ ≤ _; rw [strOf_size]; unfold maxLen; omega
      clear hr hus hsame hbk hpos hjl
      go_wp2_with fail
      refine (lex_Join v ts _ HT.out HPOS.out (by have := HBK.out; omega)).mono ?_
      rintro e w2 ⟨rfl, hb2⟩
      have HB2 : Hid (Below w.heap.size w w2) := HB1.out.trans (hb2.mono HB1.out.size)
      have HL2 : Hid (Laid w2) := HL1.out.below hb2 (Nat.le_refl _)
      have HT2 : Hid (HasToks w2 v ts) := HT.out.below hb2
      clear hb2
      go_wp2_with fail
      refine (par_Program s _ HS.out HL2.out).mono ?_
      intro e w3 ho
      obtain ⟨hb3, a1, n1, c1, p1, er1, rfl, x1, d1, hl1, hc1⟩ := ho.form
      have HB3 : Hid (Below w.heap.size w w3) := HB2.out.trans (hb3.mono HB2.out.size)
      have HL3 : Hid (Laid w3) := HL2.out.below hb3 (Nat.le_refl _)
      have HT3 : Hid (HasToks w3 v ts) := HT2.out.below hb3
      have HX1 := Lib.hid hl1
      have HC1 := Lib.hid hc1
      clear hb3 hl1 hc1 ho
      go_wp2_with fail
      refine (par_Program _ _ HJS.out (HL3.out.alloc _)).mono ?_
      intro e w4 ho
      rw [strOf_data] at ho
      obtain ⟨hb4, a2, n2, c2, p2, er2, rfl, x2, d2, hl2, hc2⟩ := ho.form
      have HW4 : Hid (Below w3.heap.size w3 w4) := ((Below.refl _ _).alloc (Nat.le_refl _) _).trans (hb4.mono (by simp))
      have HB4 : Hid (Below w.heap.size w w4) := HB3.out.trans (HW4.out.mono HB3.out.size)
      have HL4 : Hid (Laid w4) := (HL3.out.alloc _).below hb4 (Nat.le_refl _)
      have HT4 : Hid (HasToks w4 v ts) := HT3.out.below HW4.out
      have hs4 : w3.heap.size < w4.heap.size := by have := hb4.size; simp at this; omega
      have b1 : w4.cell? ⟨w3.heap.size, 0, none⟩ = some (.slice a1 n1 c1) := (hb4.cell (p := ⟨w3.heap.size, 0, none⟩) (by simp)).trans (by simp [go_sem])
      obtain ⟨rfl, rfl, hcase⟩ := tokens_key HK.out HC1.out hc2
      have HX : Hid (IsList Any (w4.alloc (.cells #[.slice a2 n2 c2] 32)) 4 (IsCl Any (w4.alloc (.cells #[.slice a2 n2 c2] 32)) (d1 + d2)) x2 (.slice a1 n1 c1)) := (((HX1.out.laterCl HW4.out).laterCl ((Below.refl _ _).alloc (Nat.le_refl _) _))).mono fun _ _ _ h => h.le (by omega)
      have HY : Hid (IsList Any (w4.alloc (.cells #[.slice a2 n2 c2] 32)) 4 (IsCl Any (w4.alloc (.cells #[.slice a2 n2 c2] 32)) (d1 + d2)) x2 (.slice a2 n2 c2)) := ((hl2.laterCl ((Below.refl _ _).alloc (Nat.le_refl _) _))).mono fun _ _ _ h => h.le (by omega)
      have HCA := Lib.hid hcase
      clear hb4 hl2 hc2 ho HC1 HX1 hcase
      go_wp2_with fail
      refine (ref_Same _ _ _ _ _ _ _ _ _ _ HX.out HY.out).mono ?_
      rintro e w5 ⟨hb5, b, rfl, hbi⟩
      obtain rfl : b = true := hbi.2 rfl
      have HW5 : Hid (Below w4.heap.size w4 w5) := ((Below.refl _ _).alloc (Nat.le_refl _) _).trans (hb5.mono (by simp))
      have HL5 : Hid (Laid w5) := HL4.out.below HW5.out (Nat.le_refl _)
      have HB5 : Hid (Below w.heap.size w w5) := HB4.out.trans (HW5.out.mono HB4.out.size)
      have HT5 : Hid (HasToks w5 v ts) := HT4.out.below HW5.out
      clear hb5 hbi b1 hs4 HX HY
      rcases HCA.out with ⟨h2, rfl, rfl⟩ | ⟨rfl, q, hq, rfl, rfl⟩
      · clear HCA
        go_wp2_with fail
        refine (law08_awake _ HL5.out).mono ?_
        rintro e w9 ⟨rfl, hb9⟩
        have HB9 := Lib.hid (HB5.out.trans (hb9.mono HB5.out.size))
        clear hb9
        go_wp2_with fail
        go_ret
        exact ⟨rfl, HB9.out⟩
      · clear HCA
        go_wp2_with fail
        refine (ref_Tokens _ _ HJS.out).mono ?_
        rintro e w6 ⟨hb6, hr6⟩
        rw [strOf_data, HUS.out] at hr6
        obtain ⟨u, rfl, hown6⟩ := hr6
        have HU6 : Hid (HasToks w6 u us) := HasToks.of_own hown6
        have HB6 : Hid (Below w.heap.size w w6) := HB5.out.trans (hb6.mono HB5.out.size)
        have HL6 : Hid (Laid w6) := HL5.out.below hb6 (Nat.le_refl _)
        have HT6 : Hid (HasToks w6 v ts) := HT5.out.below hb6
        clear hb6 hown6 HT HT2 HT3 HT4 HT5
        have hlen := HSM.out.length
        obtain ⟨g, cap, hv, hm⟩ := HT6.out.slice1 HPOS.out
        obtain ⟨g', cap', hu, hm'⟩ := HU6.out.slice1 (by have := HPOS.out; omega)
        subst hv
        subst hu
        unfold maxLen at hm hm'
        have hqu : q < us.length := by omega
        have HLN := Lib.hid hlen
        clear hlen
        go_wp2_with fail
        go_loopw [16] (fun i wr => AtRel q w6 i wr) (fun i _ => q + 1 - (intOf i).toNat)
        case atStart => exact ⟨0, Nat.zero_le _, rfl, .refl _ _⟩
        case round =>
          obtain ⟨n, hn, rfl, hb⟩ := hrel
          have hnl : n < ts.length := by omega
          have hnu : n < us.length := by omega
          obtain ⟨_, c1, _, _⟩ := (HT6.out.below hb).cellsAt n hnl
          obtain ⟨_, e1, _, _⟩ := (HU6.out.below hb).cellsAt n hnu
          rw [← tk_get _ _ hnl] at c1
          rw [← tk_get _ _ hnu] at e1
          have HB := Lib.hid hb
          clear hb
          have hj0 : (0 : Int) ≤ (n : Int) := by omega
          have hj1 : (n : Int) < (ts.length : Int) := by omega
          have hj2 : (n : Int) < (us.length : Int) := by omega
          by_cases hlt : n < q
          · have hpos := tokens_lt HTK.out hlt hq
            have hne : (((tk ts n).pos : Int) == ((tk ts q).pos : Int)) = false := by rw [beq_eq_false_iff_ne]; omega
            clear hpos
            go_wp2_with fail
            go_roundw
            case rel => exact ⟨n + 1, by omega, by go_num, HB.out⟩
            case measure => simp [intOf]; omega
          · obtain rfl : n = q := by omega
            clear hlt
            go_wp2_with fail
            refine (law08_awake _ (HL6.out.below HB.out (Nat.le_refl _))).mono ?_
            rintro e w9 ⟨rfl, hb9⟩
            have HB9 := Lib.hid (HB6.out.trans ((HB.out.trans (hb9.mono HB.out.size)).mono HB6.out.size))
            clear hb9
            go_wp2_with fail
            go_ret
            exact ⟨rfl, HB9.out⟩
end Go.Proofs.YthjonkommphkkaaGreatDoor
