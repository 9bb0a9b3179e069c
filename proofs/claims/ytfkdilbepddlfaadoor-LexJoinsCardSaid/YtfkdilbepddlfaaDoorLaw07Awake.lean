/-
  law07's awake and LexTokens, walked.
-/
import Derived.Test.YtfkdilbepddlfaaDoorRefSame
import Derived.Outline
namespace Go.Proofs.YtfkdilbepddlfaaDoor
open Lx Go.RowKit
theorem tokens_example : tokensOf [118, 97, 114, 32, 120, 49, 58, 32, 65, 59] = .ok [⟨2, 0, [118, 97, 114], 0⟩, ⟨1, 4, [120, 49], 0⟩, ⟨4, 6, [58], 0⟩, ⟨1, 8, [65], 0⟩, ⟨4, 9, [59], 0⟩, ⟨5, 10, [], 0⟩] := by kernel_rfl
theorem kw_new : isKeyword [110, 101, 119] = true := by decide +kernel
theorem id_new : isIdent [110, 101, 119] = false := by decide +kernel
theorem id_a : isIdent [97] = true := by decide +kernel
set_option maxHeartbeats 1000000 in
theorem law07_awake (w : World) (hL : Laid w) : Calls Tryd.prog 11 #[] w fun e w' => e = .returned (.bool true) ∧ Below w.heap.size w w' := by
  have HL := Lib.hid hL
  clear hL
  go_enter Tryd.func11, Tryd.ntmps11
  go_wp2_with fail
  refine (lex_Tokens _ _ (by decide) HL.out).mono ?_
  rintro e w1 ⟨hb, hr⟩
  rw [show ({ data := #[118, 97, 114, 32, 120, 49, 58, 32, 65, 59] } : ByteArray).data.toList = [118, 97, 114, 32, 120, 49, 58, 32, 65, 59] from rfl, tokens_example] at hr
  obtain ⟨v, rfl, hown⟩ := hr
  have hl1 := HL.out.below hb (Nat.le_refl _)
  have HL1 := Lib.hid hl1
  have HB := Lib.hid hb
  rcases (HasToks.of_own hown).form with ⟨h, _⟩ | ⟨_, g, cap, rfl, hm, hc⟩
  · cases h
  obtain ⟨_, c1, c2, _⟩ := hc 1 (by decide)
  simp only [List.getElem_cons_succ, List.getElem_cons_zero, Nat.one_mul] at c1 c2
  clear hc hown hb hl1 hm
  simp only [List.length_cons, List.length_nil]
  have hx1 : ((strOf [120, 49]).toList == [120, 49]) = true := by rw [ByteArray.toList_eq, strOf_data]; rfl
  go_wp2_with fail
  refine (lex_Keyword _ _ HL1.out).mono ?_
  rintro e w' ⟨rfl, rfl⟩
  rw [show isKeyword ({ data := #[110, 101, 119] } : ByteArray).data.toList = true from kw_new]
  go_wp2_with fail
  refine (lex_Ident _ _ (by decide) HL1.out).mono ?_
  rintro e w' ⟨rfl, rfl⟩
  rw [show isIdent ({ data := #[110, 101, 119] } : ByteArray).data.toList = false from id_new]
  go_wp2_with fail
  refine (lex_Ident _ _ (by decide) HL1.out).mono ?_
  rintro e w' ⟨rfl, rfl⟩
  rw [show isIdent ({ data := #[97] } : ByteArray).data.toList = true from id_a]
  go_wp2_with fail
  go_ret
  exact ⟨rfl, HB.out⟩
end Go.Proofs.YtfkdilbepddlfaaDoor
