/-
  LexTokens, walked.
-/
import Derived.Test.YtfkdilbepddlfaaDoorLaw07Awake
namespace Go.Proofs.YtfkdilbepddlfaaDoor
open Lx Go.RowKit
set_option maxHeartbeats 1000000 in
theorem law_LexTokens (s : ByteArray) (w : World) (hs : s.size ≤ maxLen) (hL : Laid w) : Calls Tryd.prog 3 #[.string s] w fun e w' => e = .returned (.bool true) ∧ Below w.heap.size w w' := by
  have HL := Lib.hid hL
  have HS := Lib.hid hs
  clear hL hs
  go_enter Tryd.func3, Tryd.ntmps3
  go_wp2_with fail
  refine (lex_Tokens s _ HS.out HL.out).mono ?_
  rintro e w1 ⟨hb1, hr1⟩
  have HB1 := Lib.hid hb1
  have HL1 : Hid (Laid w1) := HL.out.below hb1 (Nat.le_refl _)
  clear hb1
  cases hr : tokensOf s.data.toList with
  | error x =>
    obtain ⟨p, er⟩ := x
    have HR := Lib.hid hr
    rw [hr] at hr1
    subst hr1
    clear hr
    go_wp2_with fail
    refine (ref_Tokens s _ HS.out).mono ?_
    rintro e w2 ⟨hb2, hr2⟩
    have HB2 := Lib.hid hb2
    have HL2 : Hid (Laid w2) := HL1.out.below hb2 (Nat.le_refl _)
    rw [HR.out] at hr2
    subst hr2
    clear hb2
    go_wp2_with fail
    refine (ref_Same_eq _ _ [] _ (.inl ⟨rfl, rfl⟩) (.inl ⟨rfl, rfl⟩)).mono ?_
    rintro e w3 ⟨rfl, n, rfl⟩
    go_wp2_with fail
    refine (law07_awake _ (HL2.out.below (below_drewN (Below.refl _ _) n) (Nat.le_refl _))).mono ?_
    rintro e w4 ⟨rfl, hb4⟩
    have HB4 := Lib.hid hb4
    clear hb4
    go_wp2_with fail
    go_ret
    exact ⟨rfl, (HB1.out.trans (HB2.out.mono HB1.out.size)).trans ((below_drewN (Below.refl _ _) n).trans (HB4.out.mono (Nat.le_trans HB1.out.size HB2.out.size)))⟩
  | ok ts =>
    have HR := Lib.hid hr
    rw [hr] at hr1
    obtain ⟨v1, rfl, ho1⟩ := hr1
    have HO1 := Lib.hid ho1
    clear hr ho1
    go_wp2_with fail
    refine (ref_Tokens s _ HS.out).mono ?_
    rintro e w2 ⟨hb2, hr2⟩
    have HB2 := Lib.hid hb2
    have HL2 : Hid (Laid w2) := HL1.out.below hb2 (Nat.le_refl _)
    rw [HR.out] at hr2
    obtain ⟨v2, rfl, ho2⟩ := hr2
    have HO2 := Lib.hid ho2
    clear hb2 ho2
    go_wp2_with fail
    refine (ref_Same_eq _ _ ts _ ((HasToks.of_own HO1.out).below HB2.out) (HasToks.of_own HO2.out)).mono ?_
    rintro e w3 ⟨rfl, n, rfl⟩
    go_wp2_with fail
    refine (law07_awake _ (HL2.out.below (below_drewN (Below.refl _ _) n) (Nat.le_refl _))).mono ?_
    rintro e w4 ⟨rfl, hb4⟩
    have HB4 := Lib.hid hb4
    clear hb4
    go_wp2_with fail
    go_ret
    exact ⟨rfl, (HB1.out.trans (HB2.out.mono HB1.out.size)).trans ((below_drewN (Below.refl _ _) n).trans (HB4.out.mono (Nat.le_trans HB1.out.size HB2.out.size)))⟩
end Go.Proofs.YtfkdilbepddlfaaDoor
