/-
  ParseConcats, walked.
-/
import Derived.Test.YthjonkommphkkaaDoorSrcAt
import Derived.Test.YthjonkommphkkaaDoorRefSameAll
import Derived.Test.YthjonkommphkkaaDoorParConcatP
import Derived.Test.YthjonkommphkkaaDoorParTopExpr
import Derived.Deep.QuietTactic
import Derived.BigQuiet
namespace Go.Proofs.YthjonkommphkkaaDoor
open Lx Go.RowKit
theorem below_of_grownO {w wc w' : World} {r : Option Nat} (h : Below w.heap.size w wc) (hg : wc.grownBy w' r) (hr : ∀ g, r = some g → w.heap.size ≤ g) : Below w.heap.size w w' :=
  ⟨hg.os.trans h.os, hg.tape.trans h.tape, hg.output.trans h.output, Nat.le_trans h.size hg.size, fun k hk => (hg.block k (Nat.lt_of_lt_of_le hk h.size) (fun e => absurd (hr k e.symm) (Nat.not_le_of_lt hk))).trans (h.block k hk)⟩
theorem own_base {w : World} {base : Nat} {e : TypeId} {size : Nat} {v : Value} {n : Nat} {xs : List Value} (h : w.ownsRow base e size v n xs) : ∀ g, v.ownBlock = some g → base ≤ g := by
  intro g hg
  rcases h.2 with ⟨rfl, _⟩ | ⟨g', cap, cur, rfl, hb, _⟩
  · simp [Value.ownBlock] at hg
  · simp [Value.ownBlock] at hg; omega
theorem own_empty {W : World} {base H : Nat} {T : TypeId} (hH : W.heap.size = H) (hb : base ≤ H) : (W.alloc (.cells #[] T)).ownsRow base T 4 (.slice (some ⟨H, 0, none⟩) 0 0) 0 [] := by
  subst hH; exact World.ownsRow_lit W #[] 0 hb (Nat.zero_le _) rfl
theorem own_emptyD {W : World} {base H : Nat} {T : TypeId} (hH : W.heap.size = H) (hb : base ≤ H) : (W.alloc (.cells #[] T)).drew.ownsRow base T 4 (.slice (some ⟨H, 0, none⟩) 0 0) 0 [] := own_empty hH hb
theorem own_drew {W : World} {base : Nat} {T : TypeId} {k n : Nat} {v : Value} {xs : List Value} (h : W.ownsRow base T k v n xs) : W.drew.ownsRow base T k v n xs := h
theorem IsList.laterCl {w w' : World} {d : Nat} {l : List Cl} {v : Value} (h : IsList Any w 4 (IsCl Any w d) l v) (hb : Below w.heap.size w w') : IsList Any w' 4 (IsCl Any w' d) l v := h.kept (kept_any hb) (by omega) fun _ _ _ => IsCl.kept (kept_any hb)
set_option maxHeartbeats 4000000 in
set_option maxRecDepth 100000 in
theorem law_ParseConcats (s t : ByteArray) (w : World) (hs : s.size ≤ maxLen) (ht : t.size ≤ maxLen) (hL : Laid w) : Calls Tryd.prog 5 #[.string s, .string t] w fun e w' => e = .returned (.bool true) ∧ Below w.heap.size w w' := by
  have HL := Lib.hid hL
  have HS := Lib.hid hs
  have HT := Lib.hid ht
  unfold maxLen at hs ht
  clear hL
  go_enter Tryd.func5, Tryd.ntmps5
  go_wp2_with fail
  refine (par_Program s _ HS.out HL.out).mono ?_
  intro e w1 ho
  obtain ⟨hb1, a1, n1, c1, p1, er1, rfl, x1, d1, hl1, hc1⟩ := ho.form
  obtain ⟨rfl, hm1, _⟩ := hl1.clAt
  unfold maxLen at hm1
  have HB1 := Lib.hid hb1
  have HL1 : Hid (Laid w1) := HL.out.below hb1 (Nat.le_refl _)
  have HX1 := Lib.hid hl1
  have HC1 := Lib.hid hc1
  clear hb1 hl1 hc1 ho
  go_wp2_with fail
  refine (par_Program t _ HT.out (HL1.out.alloc _)).mono ?_
  intro e w2 ho
  obtain ⟨hb2, a2, n2, c2, p2, er2, rfl, x2, d2, hl2, hc2⟩ := ho.form
  obtain ⟨rfl, hm2, _⟩ := hl2.clAt
  unfold maxLen at hm2
  have HL2 : Hid (Laid w2) := (HL1.out.alloc _).below hb2 (Nat.le_refl _)
  have HW2 : Hid (Below w1.heap.size w1 w2) := ((Below.refl _ _).alloc (Nat.le_refl _) _).trans (hb2.mono (by simp))
  have HX2 := Lib.hid hl2
  have HC2 := Lib.hid hc2
  have hs2 : w1.heap.size < w2.heap.size := by have := hb2.size; simp at this; omega
  have b1 : w2.cell? ⟨w1.heap.size, 0, none⟩ = some (.slice a1 x1.length c1) := (hb2.cell (p := ⟨w1.heap.size, 0, none⟩) (by simp)).trans (by simp [go_sem])
  clear hb2 hl2 hc2 ho
  rcases HC1.out with ⟨rfl, rfl, hr1⟩ | ⟨he1, _⟩
  rotate_left
  · clear HC1 HC2
    go_wp2_with fail
    refine (law08_awake _ (HL2.out.alloc _)).mono ?_
    rintro e w9 ⟨rfl, hb9⟩
    have HB9 := Lib.hid (HB1.out.trans ((HW2.out.trans ((((Below.refl _ _).alloc (Nat.le_refl _) _).trans (hb9.mono (by simp))).mono HW2.out.size)).mono HB1.out.size))
    clear hb9
    go_wp2_with fail
    go_ret
    exact ⟨rfl, HB9.out⟩
  have HR1 := Lib.hid hr1
  clear hr1 HC1
  rcases HC2.out with ⟨rfl, rfl, hr2⟩ | ⟨he2, _⟩
  rotate_left
  · clear HC2
    go_wp2_with fail
    refine (law08_awake _ (HL2.out.alloc _)).mono ?_
    rintro e w9 ⟨rfl, hb9⟩
    have HB9 := Lib.hid (HB1.out.trans ((HW2.out.trans ((((Below.refl _ _).alloc (Nat.le_refl _) _).trans (hb9.mono (by simp))).mono HW2.out.size)).mono HB1.out.size))
    clear hb9
    go_wp2_with fail
    go_ret
    exact ⟨rfl, HB9.out⟩
  have HR2 := Lib.hid hr2
  clear hr2 HC2
  have hz1 := programR_len HR1.out
  have hz2 := programR_len HR2.out
  rw [len_list] at hz1 hz2
  have k1 : IntKind.i64.wrap ((s.size : Int) + 1) = (s.size : Int) + 1 := IntWalk.i64_in _ (by omega)
  have k2 : IntKind.i64.wrap ((s.size : Int) + 1 + (t.size : Int)) = (s.size : Int) + 1 + (t.size : Int) := IntWalk.i64_in _ (by omega)
  by_cases h3 : 65536 < s.size + 1 + t.size
  · have k3 : (65536 : Int) < (s.size : Int) + 1 + (t.size : Int) := by omega
    go_wp2_with fail
    refine (law08_awake _ (HL2.out.alloc _)).mono ?_
    rintro e w9 ⟨rfl, hb9⟩
    have HB9 := Lib.hid (HB1.out.trans ((HW2.out.trans ((((Below.refl _ _).alloc (Nat.le_refl _) _).trans (hb9.mono (by simp))).mono HW2.out.size)).mono HB1.out.size))
    clear hb9
    go_wp2_with fail
    go_ret
    exact ⟨rfl, HB9.out⟩
  have k3 : ¬ (65536 : Int) < (s.size : Int) + 1 + (t.size : Int) := by omega
  have k3' : decide ((65536 : Int) < (s.size : Int) + 1 + (t.size : Int)) = false := decide_eq_false k3
  have q1 : IntKind.i64.wrap ((x1.length : Int) + (x2.length : Int)) = (x1.length : Int) + (x2.length : Int) := IntWalk.i64_in _ (by have := programR_few HR1.out; have := programR_few HR2.out; omega)
  by_cases h4 : 64 < x1.length + x2.length
  · have k4 : (64 : Int) < (x1.length : Int) + (x2.length : Int) := by omega
    go_wp2_with fail
    refine (law08_awake _ (HL2.out.alloc _)).mono ?_
    rintro e w9 ⟨rfl, hb9⟩
    have HB9 := Lib.hid (HB1.out.trans ((HW2.out.trans ((((Below.refl _ _).alloc (Nat.le_refl _) _).trans (hb9.mono (by simp))).mono HW2.out.size)).mono HB1.out.size))
    clear hb9
    go_wp2_with fail
    go_ret
    exact ⟨rfl, HB9.out⟩
  have k4 : ¬ (64 : Int) < (x1.length : Int) + (x2.length : Int) := by omega
  have k4' : decide ((64 : Int) < (x1.length : Int) + (x2.length : Int)) = false := decide_eq_false k4
  have HR3 := Lib.hid (parse_concat HR1.out HR2.out (by rw [len_list, len_list]; omega) (by omega))
  have HP : Hid (∀ (c : ByteArray) (W : World), c.data.toList = [10] → Laid W → Calls Tryd.prog 10 #[.string (s ++ c ++ t)] W (ProgOut W (.ok (x1 ++ x2)))) := by
    intro c W hc hLW
    have h1 : (s ++ c ++ t).data.toList = s.data.toList ++ 10 :: t.data.toList := by
      simp only [ByteArray.data_append, Array.toList_append, hc]; simp
    have h2 : (s ++ c ++ t).size ≤ maxLen := by rw [← len_list, h1, List.length_append, List.length_cons, len_list, len_list]; unfold maxLen; omega
    have h3 := par_Program (s ++ c ++ t) W h2 hLW
    rw [h1, HR3.out] at h3
    exact h3
  go_wp2_with fail
  refine (HP.out _ _ (by rfl) (HL2.out.alloc _)).mono ?_
  intro e w3 ho
  obtain ⟨hb3, a3, n3, c3, rfl, d3, hl3⟩ := ho
  replace hl3 : IsList Any w3 4 (IsCl Any w3 d3) (x1 ++ x2) (.slice a3 n3 c3) := hl3.sub (fun _ _ _ => trivial) (by omega) fun _ _ _ => IsCl.sub fun _ _ _ => trivial
  have HL3 : Hid (Laid w3) := (HL2.out.alloc _).below hb3 (Nat.le_refl _)
  have hs3 : w2.heap.size < w3.heap.size := by have := hb3.size; simp at this; omega
  have b2 : w3.cell? ⟨w2.heap.size, 0, none⟩ = some (.slice a2 x2.length c2) := (hb3.cell (p := ⟨w2.heap.size, 0, none⟩) (by simp)).trans (by simp [go_sem])
  have HW3 : Hid (Below w2.heap.size w2 w3) := ((Below.refl _ _).alloc (Nat.le_refl _) _).trans (hb3.mono (by simp))
  have b1' : w3.cell? ⟨w1.heap.size, 0, none⟩ = some (.slice a1 x1.length c1) := (HW3.out.cell (p := ⟨w1.heap.size, 0, none⟩) hs2).trans b1
  have hs13 : w1.heap.size < w3.heap.size := by omega
  have HB3 := Lib.hid (HB1.out.trans ((HW2.out.trans (HW3.out.mono HW2.out.size)).mono HB1.out.size))
  clear hb3 b1 k1 k2 k3 k3' q1 k4 k4'
  obtain ⟨W0, hW0⟩ : ∃ W0, W0 = w3.alloc (.cells #[.slice a3 n3 c3] 24) := ⟨_, rfl⟩
  have HA0 : Hid (Below w3.heap.size w3 W0) := by rw [hW0]; exact (Below.refl _ _).alloc (Nat.le_refl _) _
  have hs0 : W0.heap.size = w3.heap.size + 1 := by rw [hW0]; simp
  have hy1 := ((HX1.out.laterCl HW2.out).laterCl HW3.out).laterCl HA0.out
  have hy2 := (HX2.out.laterCl HW3.out).laterCl HA0.out
  have HY3 := Lib.hid (hl3.laterCl HA0.out)
  obtain ⟨f1, hf1, hsrc1⟩ := hy1.src (by omega) fun _ _ h => h.one
  obtain ⟨f2, hf2, hsrc2⟩ := hy2.src (by omega) fun _ _ h => h.one
  have HF1 := Lib.hid hf1
  have HF2 := Lib.hid hf2
  have SR1 : Hid (∀ X, Below W0.heap.size W0 X → SrcAt X (.slice a1 x1.length c1) x1.length 4 f1) := fun X hX => hsrc1.below hX
  have SR2 : Hid (∀ X, Below W0.heap.size W0 X → SrcAt X (.slice a2 x2.length c2) x2.length 4 f2) := fun X hX => hsrc2.below hX
  have B1 : Hid (W0.cell? ⟨w1.heap.size, 0, none⟩ = some (.slice a1 x1.length c1)) := (HA0.out.cell (p := ⟨w1.heap.size, 0, none⟩) hs13).trans b1'
  have B2 : Hid (W0.cell? ⟨w2.heap.size, 0, none⟩ = some (.slice a2 x2.length c2)) := (HA0.out.cell (p := ⟨w2.heap.size, 0, none⟩) hs3).trans b2
  have B3 : Hid (W0.cell? ⟨w3.heap.size, 0, none⟩ = some (.slice a3 n3 c3)) := by show _ = _; rw [hW0]; simp [go_sem]
  have HL0 : Hid (Laid W0) := HL3.out.below HA0.out (Nat.le_refl _)
  have HB0 : Hid (Below w.heap.size w W0) := HB3.out.trans (HA0.out.mono HB3.out.size)
  obtain ⟨i0, hi0, hz0, hz1, hz2⟩ := info_parts Tryd.infoCl
  have HI := Lib.hid hi0
  have HZ0 := Lib.hid hz0
  have HZ1 := Lib.hid hz1
  have HZ2 := Lib.hid hz2
  clear hi0 hz0 hz1 hz2 hf1 hf2 hsrc1 hsrc2 hy1 hy2 hl3
  go_wp2_with fail
  rw [← hW0]
  have HW0 := Lib.hid hW0
  clear hW0 b1' b2
  have b1 := B1.out
  have b2 := B2.out
  have l1 : w1.heap.size < W0.heap.size := by omega
  have l2 : w2.heap.size < W0.heap.size := by omega
  have HS0 := Lib.hid hs0
  clear hs0
  go_region_law (first
    | (refine step_append_src (by rfl) (.tmp 62) (.tmp 64) 22 (by rfl) W0.heap.size 42 i0 _ 4 80 Tryd.underlying22 HI.out HZ0.out HZ1.out HZ2.out rfl (by decide) _ 0 [] (by rfl) (own_emptyD rfl (Nat.le_refl _)) _ x1.length f1 (by rfl) (SR1.out _ (((Below.refl _ _).alloc (Nat.le_refl _) _).drew)) (by unfold maxLen; omega) (by omega) (by simp) ?_
       intro v1 X1 hown hgrow hat
       have HB5 : Hid (Below W0.heap.size W0 X1) := below_of_grownO (((Below.refl _ _).alloc (Nat.le_refl _) _).drew) hgrow (fun g hg => by simp [Value.ownBlock] at hg; omega)
       have x8 : X1.cell? ⟨w2.heap.size, 0, none⟩ = some (.slice a2 x2.length c2) := (HB5.out.cell (p := ⟨w2.heap.size, 0, none⟩) l2).trans b2
       have lx : w2.heap.size < X1.heap.size := Nat.lt_of_lt_of_le l2 HB5.out.size
       have HO1 := Lib.hid hown
       clear hown hgrow hat)
    | (have tok := HO1
       clear tok
       refine step_append_src (by rfl) (.tmp 65) (.tmp 67) 22 (by rfl) W0.heap.size 42 i0 _ 4 80 Tryd.underlying22 HI.out HZ0.out HZ1.out HZ2.out rfl (by decide) _ _ _ (by rfl) HO1.out _ x2.length f2 (by rfl) (SR2.out _ HB5.out) (by unfold maxLen; omega) (by omega) HB5.out.size ?_
       intro v2 X2 hown2 hgrow2 hat2
       have HB6 : Hid (Below W0.heap.size W0 X2) := below_of_grownO HB5.out hgrow2 (own_base HO1.out)
       have HO2 := Lib.hid hown2
       clear hown2 hgrow2 hat2))
  all_goals
    obtain ⟨a4, n4, c4, rfl⟩ := ownsRow.sliceForm HO2.out
    have l3 : w3.heap.size < X2.heap.size := by have h1 := HB6.out.size; have h2 := HS0.out; omega
    have x3 : X2.cell? ⟨w3.heap.size, 0, none⟩ = some (.slice a3 n3 c3) := (HB6.out.cell (p := ⟨w3.heap.size, 0, none⟩) (by have h2 := HS0.out; show w3.heap.size < _; omega)).trans B3.out
    have HY : Hid (IsList Any X2 4 (IsCl Any X2 (d1 + d2 + d3)) (x1 ++ x2) (.slice a4 n4 c4)) := by
      refine IsList.of_own (B := W0.heap.size) (T := 42) (xs := f1 ++ f2) ?_ ?_ (fun _ _ => trivial)
      · have h := HO2.out
        rw [Nat.zero_add, List.nil_append] at h
        rw [List.length_append]; exact h
      · exact (HF1.out.mono fun _ _ h => ((IsCl.kept (kept_any HB6.out) h).le (by omega))).append (HF2.out.mono fun _ _ h => ((IsCl.kept (kept_any HB6.out) h).le (by omega)))
    have HY4 : Hid (IsList Any X2 4 (IsCl Any X2 (d1 + d2 + d3)) (x1 ++ x2) (.slice a3 n3 c3)) := (HY3.out.laterCl HB6.out).mono fun _ _ _ h => h.le (by omega)
    have HLX : Hid (Laid X2) := HL0.out.below HB6.out (Nat.le_refl _)
    have HBX : Hid (Below w.heap.size w X2) := HB0.out.trans (HB6.out.mono HB0.out.size)
    clear HO1 HO2 x8 lx b1 b2 l1 l2
    go_wp2_with fail
    refine (ref_Same _ _ _ _ _ _ _ _ _ _ HY4.out HY.out).mono ?_
    rintro e w5 ⟨hb5, b, rfl, hbi⟩
    obtain rfl : b = true := hbi.2 rfl
    have HL5 : Hid (Laid w5) := HLX.out.below hb5 (Nat.le_refl _)
    have HB7 : Hid (Below w.heap.size w w5) := HBX.out.trans (hb5.mono HBX.out.size)
    clear hb5 hbi
    go_wp2_with fail
    refine (law08_awake _ HL5.out).mono ?_
    rintro e w9 ⟨rfl, hb9⟩
    have HB9 := Lib.hid (HB7.out.trans (hb9.mono HB7.out.size))
    clear hb9
    go_wp2_with fail
    go_ret
    exact ⟨rfl, HB9.out⟩
end Go.Proofs.YthjonkommphkkaaDoor
