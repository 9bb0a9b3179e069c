/-
  ParseParts, walked.
-/
import Derived.Test.YthjonkommphkkaaGreatDoorJpBp
import Derived.Test.YthjonkommphkkaaGreatDoorJpBq
import Derived.Test.YthjonkommphkkaaGreatDoorJpBe
import Derived.Deep.QuietTactic
import Derived.BigQuiet
set_option linter.unusedSimpArgs false
set_option linter.unusedVariables false
namespace Go.Proofs.YthjonkommphkkaaGreatDoor
open Lx Go.RowKit
theorem IsEx.later {w w' : World} {d D : Nat} {x : Ex} {cs : List Value} (h : IsEx Any w d x cs) (hb : Below w.heap.size w w') (hd : d ≤ D) : IsEx Any w' D x cs := (IsEx.kept (kept_any hb) _ _ _ h).le hd
theorem IsMe.later {w w' : World} {d D : Nat} {x : Me} {cs : List Value} (h : IsMe Any w d x cs) (hb : Below w.heap.size w w') (hd : d ≤ D) : IsMe Any w' D x cs := (IsMe.kept (kept_any hb) h).le hd
theorem IsCl.later {w w' : World} {d D : Nat} {x : Cl} {cs : List Value} (h : IsCl Any w d x cs) (hb : Below w.heap.size w w') (hd : d ≤ D) : IsCl Any w' D x cs := (IsCl.kept (kept_any hb) h).le hd
theorem alloc3 (w : World) (o1 o2 o3 : Obj) : Below w.heap.size w (((w.alloc o1).alloc o2).alloc o3) := (((Below.refl _ _).alloc (Nat.le_refl _) _).alloc (by simp) _).alloc (by simp; omega) _
theorem alloc_mid (w : World) (o1 o2 o3 : Obj) : (((w.alloc o1).alloc o2).alloc o3).heap[w.heap.size + 1]? = some o2 := (((Below.refl _ _).alloc (Nat.le_refl _) _).block _ (by simp)).trans (alloc_last _ _ _ (by simp))
theorem alloc_lst (w : World) (o1 o2 o3 : Obj) : (((w.alloc o1).alloc o2).alloc o3).heap[w.heap.size + 1 + 1]? = some o3 := alloc_last _ _ _ (by simp)
set_option maxHeartbeats 8000000 in
set_option maxRecDepth 100000 in
theorem law_ParseParts (s : ByteArray) (w : World) (hs : s.size ≤ maxLen) (hL : Laid w) : Calls Tryz.prog 3 #[.string s] w fun e w' => e = .returned (.bool true) ∧ Below w.heap.size w w' := by
  have HL0 := Lib.hid hL
  have HS := Lib.hid hs
  have HB0 := Lib.hid (Below.refl w.heap.size w)
  unfold maxLen at hs
  clear hL
  go_enter Tryz.func3, Tryz.ntmps3
  go_wp2_with fail
  refine (par_TClass s _ HS.out HL0.out).mono ?_
  intro e w0a ho
  obtain ⟨hb3, nm1, sp1, aA1, nA1, cA1, aB1, nB1, cB1, p1, er1, x1, d1, rfl, hx1, hk1⟩ := ho.form
  have HBa0 := Lib.hid (HB0.out.trans (hb3.mono HB0.out.size))
  have HLa0 : Hid (Laid w0a) := HL0.out.below hb3 (Nat.le_refl _)
  have HX1 := Lib.hid hx1
  have HK1 := Lib.hid hk1
  clear hb3 hx1 hk1 ho HL0 HB0
  go_wp2_with fail
  refine (ref_TClass s _ HS.out).mono ?_
  rintro e w0b ⟨hb4, nm2, sp2, aA2, nA2, cA2, aB2, nB2, cB2, p2, er2, x2, d2, rfl, hx2, hk2⟩
  have HW4 : Hid (Below w0a.heap.size w0a w0b) := ((Below.refl _ _).alloc (Nat.le_refl _) _).trans (hb4.mono (by simp))
  have HBb0 : Hid (Below w.heap.size w w0b) := HBa0.out.trans (HW4.out.mono HBa0.out.size)
  have HLb0 : Hid (Laid w0b) := (HLa0.out.alloc _).below hb4 (Nat.le_refl _)
  have hs4 : w0a.heap.size < w0b.heap.size := by have := hb4.size; simp at this; omega
  have hc4 : w0b.heap[w0a.heap.size]? = some (.cells #[.string nm1, .string sp1, .slice aA1 nA1 cA1, .slice aB1 nB1 cB1] 25 (0, 0)) := (hb4.block _ (by simp)).trans (alloc_last _ _ _ rfl)
  have b0 := (blk_cell hc4).1 0
  have b1 := (blk_cell hc4).1 1
  have b2 := (blk_cell hc4).1 2
  have b3 := (blk_cell hc4).1 3
  simp only [List.getElem?_toArray, List.getElem?_cons_zero, List.getElem?_cons_succ] at b0 b1 b2 b3
  obtain ⟨rfl, rfl, rfl⟩ := HK1.out.eq hk2
  have HX : Hid (IsList Any (((w0b.alloc (.cells #[.string nm2, .string sp2, .slice aA2 nA2 cA2, .slice aB2 nB2 cB2] 25)).alloc (.cells #[.string nm1, .string sp1, .slice aA1 nA1 cA1, .slice aB1 nB1 cB1] 25)).alloc (.cells #[.string nm2, .string sp2, .slice aA2 nA2 cA2, .slice aB2 nB2 cB2] 25)) 4 (IsCl Any (((w0b.alloc (.cells #[.string nm2, .string sp2, .slice aA2 nA2 cA2, .slice aB2 nB2 cB2] 25)).alloc (.cells #[.string nm1, .string sp1, .slice aA1 nA1 cA1, .slice aB1 nB1 cB1] 25)).alloc (.cells #[.string nm2, .string sp2, .slice aA2 nA2 cA2, .slice aB2 nB2 cB2] 25)) (d1 + d2)) [x2] (.slice (some ⟨w0b.heap.size + 1, 0, none⟩) 1 1)) := isList_one (alloc_mid _ _ _ _) rfl ((HX1.out.later HW4.out (Nat.le_refl _)).later (alloc3 _ _ _ _) (by omega))
  have HY : Hid (IsList Any (((w0b.alloc (.cells #[.string nm2, .string sp2, .slice aA2 nA2 cA2, .slice aB2 nB2 cB2] 25)).alloc (.cells #[.string nm1, .string sp1, .slice aA1 nA1 cA1, .slice aB1 nB1 cB1] 25)).alloc (.cells #[.string nm2, .string sp2, .slice aA2 nA2 cA2, .slice aB2 nB2 cB2] 25)) 4 (IsCl Any (((w0b.alloc (.cells #[.string nm2, .string sp2, .slice aA2 nA2 cA2, .slice aB2 nB2 cB2] 25)).alloc (.cells #[.string nm1, .string sp1, .slice aA1 nA1 cA1, .slice aB1 nB1 cB1] 25)).alloc (.cells #[.string nm2, .string sp2, .slice aA2 nA2 cA2, .slice aB2 nB2 cB2] 25)) (d1 + d2)) [x2] (.slice (some ⟨w0b.heap.size + 1 + 1, 0, none⟩) 1 1)) := isList_one (alloc_lst _ _ _ _) rfl (hx2.later (alloc3 _ _ _ _) (by omega))
  clear hb4 hx2 hk2 HK1 hc4 HX1
  have e1 : (p2 == p2) = true := beq_self_eq_true _
  have e2 : (er2 == er2) = true := beq_self_eq_true _
  have e3 : (p2 != p2) = false := by simp
  have e4 : (er2 != er2) = false := by simp
  go_wp2_with fail
  refine (ref_Same _ _ _ _ _ _ _ _ _ _ HX.out HY.out).mono ?_
  rintro e w0c ⟨hb5, bb, rfl, hbi⟩
  obtain rfl : bb = true := hbi.2 rfl
  have HWc0 : Hid (Below w0b.heap.size w0b w0c) := (alloc3 _ _ _ _).trans (hb5.mono (by simp; omega))
  have HL1 : Hid (Laid w0c) := HLb0.out.below HWc0.out (Nat.le_refl _)
  have HB1 : Hid (Below w.heap.size w w0c) := HBb0.out.trans (HWc0.out.mono HBb0.out.size)
  clear hb5 hbi b0 b1 b2 b3 hs4 HX HY HW4 HLa0 HLb0 HBa0 HBb0 HWc0
  clear e1 e2 e3 e4
  go_wp2_with fail
  refine (par_TMethod s _ HS.out HL1.out).mono ?_
  intro e w1a ho
  obtain ⟨hb3, nm1, sb1, aA1, nA1, cA1, rs1, aB1, nB1, cB1, p1, er1, x1, d1, rfl, hx1, hk1⟩ := ho.form
  have HBa1 := Lib.hid (HB1.out.trans (hb3.mono HB1.out.size))
  have HLa1 : Hid (Laid w1a) := HL1.out.below hb3 (Nat.le_refl _)
  have HX1 := Lib.hid hx1
  have HK1 := Lib.hid hk1
  clear hb3 hx1 hk1 ho HL1 HB1
  go_wp2_with fail
  refine (ref_TMethod s _ HS.out).mono ?_
  rintro e w1b ⟨hb4, nm2, sb2, aA2, nA2, cA2, rs2, aB2, nB2, cB2, p2, er2, x2, d2, rfl, hx2, hk2⟩
  have HW4 : Hid (Below w1a.heap.size w1a w1b) := ((Below.refl _ _).alloc (Nat.le_refl _) _).trans (hb4.mono (by simp))
  have HBb1 : Hid (Below w.heap.size w w1b) := HBa1.out.trans (HW4.out.mono HBa1.out.size)
  have HLb1 : Hid (Laid w1b) := (HLa1.out.alloc _).below hb4 (Nat.le_refl _)
  have hs4 : w1a.heap.size < w1b.heap.size := by have := hb4.size; simp at this; omega
  have hc4 : w1b.heap[w1a.heap.size]? = some (.cells #[.string nm1, .bool sb1, .slice aA1 nA1 cA1, .string rs1, .slice aB1 nB1 cB1] 35 (0, 0)) := (hb4.block _ (by simp)).trans (alloc_last _ _ _ rfl)
  have b0 := (blk_cell hc4).1 0
  have b1 := (blk_cell hc4).1 1
  have b2 := (blk_cell hc4).1 2
  have b3 := (blk_cell hc4).1 3
  have b4 := (blk_cell hc4).1 4
  simp only [List.getElem?_toArray, List.getElem?_cons_zero, List.getElem?_cons_succ] at b0 b1 b2 b3 b4
  obtain ⟨rfl, rfl, rfl⟩ := HK1.out.eq hk2
  have HX : Hid (IsList Any (((w1b.alloc (.cells #[.string nm2, .bool sb2, .slice aA2 nA2 cA2, .string rs2, .slice aB2 nB2 cB2] 35)).alloc (.cells #[.string nm1, .bool sb1, .slice aA1 nA1 cA1, .string rs1, .slice aB1 nB1 cB1] 35)).alloc (.cells #[.string nm2, .bool sb2, .slice aA2 nA2 cA2, .string rs2, .slice aB2 nB2 cB2] 35)) 5 (IsMe Any (((w1b.alloc (.cells #[.string nm2, .bool sb2, .slice aA2 nA2 cA2, .string rs2, .slice aB2 nB2 cB2] 35)).alloc (.cells #[.string nm1, .bool sb1, .slice aA1 nA1 cA1, .string rs1, .slice aB1 nB1 cB1] 35)).alloc (.cells #[.string nm2, .bool sb2, .slice aA2 nA2 cA2, .string rs2, .slice aB2 nB2 cB2] 35)) (d1 + d2)) [x2] (.slice (some ⟨w1b.heap.size + 1, 0, none⟩) 1 1)) := isList_one (alloc_mid _ _ _ _) rfl ((HX1.out.later HW4.out (Nat.le_refl _)).later (alloc3 _ _ _ _) (by omega))
  have HY : Hid (IsList Any (((w1b.alloc (.cells #[.string nm2, .bool sb2, .slice aA2 nA2 cA2, .string rs2, .slice aB2 nB2 cB2] 35)).alloc (.cells #[.string nm1, .bool sb1, .slice aA1 nA1 cA1, .string rs1, .slice aB1 nB1 cB1] 35)).alloc (.cells #[.string nm2, .bool sb2, .slice aA2 nA2 cA2, .string rs2, .slice aB2 nB2 cB2] 35)) 5 (IsMe Any (((w1b.alloc (.cells #[.string nm2, .bool sb2, .slice aA2 nA2 cA2, .string rs2, .slice aB2 nB2 cB2] 35)).alloc (.cells #[.string nm1, .bool sb1, .slice aA1 nA1 cA1, .string rs1, .slice aB1 nB1 cB1] 35)).alloc (.cells #[.string nm2, .bool sb2, .slice aA2 nA2 cA2, .string rs2, .slice aB2 nB2 cB2] 35)) (d1 + d2)) [x2] (.slice (some ⟨w1b.heap.size + 1 + 1, 0, none⟩) 1 1)) := isList_one (alloc_lst _ _ _ _) rfl (hx2.later (alloc3 _ _ _ _) (by omega))
  clear hb4 hx2 hk2 HK1 hc4 HX1
  have e1 : (p2 == p2) = true := beq_self_eq_true _
  have e2 : (er2 == er2) = true := beq_self_eq_true _
  have e3 : (p2 != p2) = false := by simp
  have e4 : (er2 != er2) = false := by simp
  go_wp2_with fail
  refine (ref_SameMethods _ _ _ _ _ _ _ _ _ _ HX.out HY.out).mono ?_
  rintro e w1c ⟨hb5, bb, rfl, hbi⟩
  obtain rfl : bb = true := hbi.2 rfl
  have HWc1 : Hid (Below w1b.heap.size w1b w1c) := (alloc3 _ _ _ _).trans (hb5.mono (by simp; omega))
  have HL2 : Hid (Laid w1c) := HLb1.out.below HWc1.out (Nat.le_refl _)
  have HB2 : Hid (Below w.heap.size w w1c) := HBb1.out.trans (HWc1.out.mono HBb1.out.size)
  clear hb5 hbi b0 b1 b2 b3 b4 hs4 HX HY HW4 HLa1 HLb1 HBa1 HBb1 HWc1
  clear e1 e2 e3 e4
  go_wp2_with fail
  refine (par_TField s _ HS.out HL2.out).mono ?_
  intro e w2a ho
  obtain ⟨hb3, p1, er1, x1, rfl, hk1⟩ := ho.form
  have HBa2 := Lib.hid (HB2.out.trans (hb3.mono HB2.out.size))
  have HLa2 : Hid (Laid w2a) := HL2.out.below hb3 (Nat.le_refl _)
  have HK1 := Lib.hid hk1
  clear hb3 hk1 ho HL2 HB2
  go_wp2_with fail
  refine (ref_TField s _ HS.out).mono ?_
  rintro e w2b ⟨hb4, p2, er2, x2, rfl, hk2⟩
  have HW4 : Hid (Below w2a.heap.size w2a w2b) := ((Below.refl _ _).alloc (Nat.le_refl _) _).trans (hb4.mono (by simp))
  have HB3 : Hid (Below w.heap.size w (w2b.alloc (.cells #[.string (strOf x2.name), .string (strOf x2.typ)] 40))) := (HBa2.out.trans (HW4.out.mono HBa2.out.size)).alloc (Nat.le_trans HBa2.out.size HW4.out.size) _
  have HL3 : Hid (Laid (w2b.alloc (.cells #[.string (strOf x2.name), .string (strOf x2.typ)] 40))) := ((HLa2.out.alloc _).below hb4 (Nat.le_refl _)).alloc _
  have hs4 : w2a.heap.size < w2b.heap.size := by have := hb4.size; simp at this; omega
  have hc4 : w2b.heap[w2a.heap.size]? = some (.cells #[.string (strOf x1.name), .string (strOf x1.typ)] 40 (0, 0)) := (hb4.block _ (by simp)).trans (alloc_last _ _ _ rfl)
  have b0 := (blk_cell hc4).1 0
  have b1 := (blk_cell hc4).1 1
  simp only [List.getElem?_toArray, List.getElem?_cons_zero, List.getElem?_cons_succ] at b0 b1
  obtain ⟨rfl, rfl, rfl⟩ := HK1.out.eq hk2
  clear hb4 hk2 HK1 hc4 HW4 HBa2 HLa2
  have e3 : (p2 != p2) = false := by simp
  have e4 : (er2 != er2) = false := by simp
  go_wp2_with fail
  refine (par_Expr s _ HS.out HL3.out).mono ?_
  intro e w3a ho
  obtain ⟨hb3, k1, n1, o1, m1, aA1, nA1, cA1, p1, er1, x1, d1, rfl, hx1, hk1⟩ := ho.form
  have HBa3 := Lib.hid (HB3.out.trans (hb3.mono HB3.out.size))
  have HLa3 : Hid (Laid w3a) := HL3.out.below hb3 (Nat.le_refl _)
  have HX1 := Lib.hid hx1
  have HK1 := Lib.hid hk1
  clear hb3 hx1 hk1 ho HL3 HB3
  go_wp2_with fail
  refine (ref_TExpr s _ HS.out).mono ?_
  rintro e w3b ⟨hb4, k2, n2, o2, m2, aA2, nA2, cA2, p2, er2, x2, d2, rfl, hx2, hk2⟩
  have HW4 : Hid (Below w3a.heap.size w3a w3b) := ((Below.refl _ _).alloc (Nat.le_refl _) _).trans (hb4.mono (by simp))
  have HBb3 : Hid (Below w.heap.size w w3b) := HBa3.out.trans (HW4.out.mono HBa3.out.size)
  have HLb3 : Hid (Laid w3b) := (HLa3.out.alloc _).below hb4 (Nat.le_refl _)
  have hs4 : w3a.heap.size < w3b.heap.size := by have := hb4.size; simp at this; omega
  have hc4 : w3b.heap[w3a.heap.size]? = some (.cells #[.int .i64 k1, .int .i64 n1, .string o1, .string m1, .slice aA1 nA1 cA1] 45 (0, 0)) := (hb4.block _ (by simp)).trans (alloc_last _ _ _ rfl)
  have b0 := (blk_cell hc4).1 0
  have b1 := (blk_cell hc4).1 1
  have b2 := (blk_cell hc4).1 2
  have b3 := (blk_cell hc4).1 3
  have b4 := (blk_cell hc4).1 4
  simp only [List.getElem?_toArray, List.getElem?_cons_zero, List.getElem?_cons_succ] at b0 b1 b2 b3 b4
  obtain ⟨rfl, rfl, rfl⟩ := HK1.out.eq hk2
  have HX : Hid (IsList Any (((w3b.alloc (.cells #[.int .i64 k2, .int .i64 n2, .string o2, .string m2, .slice aA2 nA2 cA2] 45)).alloc (.cells #[.int .i64 k1, .int .i64 n1, .string o1, .string m1, .slice aA1 nA1 cA1] 45)).alloc (.cells #[.int .i64 k2, .int .i64 n2, .string o2, .string m2, .slice aA2 nA2 cA2] 45)) 5 (IsEx Any (((w3b.alloc (.cells #[.int .i64 k2, .int .i64 n2, .string o2, .string m2, .slice aA2 nA2 cA2] 45)).alloc (.cells #[.int .i64 k1, .int .i64 n1, .string o1, .string m1, .slice aA1 nA1 cA1] 45)).alloc (.cells #[.int .i64 k2, .int .i64 n2, .string o2, .string m2, .slice aA2 nA2 cA2] 45)) (d1 + d2)) [x2] (.slice (some ⟨w3b.heap.size + 1, 0, none⟩) 1 1)) := isList_one (alloc_mid _ _ _ _) rfl ((HX1.out.later HW4.out (Nat.le_refl _)).later (alloc3 _ _ _ _) (by omega))
  have HY : Hid (IsList Any (((w3b.alloc (.cells #[.int .i64 k2, .int .i64 n2, .string o2, .string m2, .slice aA2 nA2 cA2] 45)).alloc (.cells #[.int .i64 k1, .int .i64 n1, .string o1, .string m1, .slice aA1 nA1 cA1] 45)).alloc (.cells #[.int .i64 k2, .int .i64 n2, .string o2, .string m2, .slice aA2 nA2 cA2] 45)) 5 (IsEx Any (((w3b.alloc (.cells #[.int .i64 k2, .int .i64 n2, .string o2, .string m2, .slice aA2 nA2 cA2] 45)).alloc (.cells #[.int .i64 k1, .int .i64 n1, .string o1, .string m1, .slice aA1 nA1 cA1] 45)).alloc (.cells #[.int .i64 k2, .int .i64 n2, .string o2, .string m2, .slice aA2 nA2 cA2] 45)) (d1 + d2)) [x2] (.slice (some ⟨w3b.heap.size + 1 + 1, 0, none⟩) 1 1)) := isList_one (alloc_lst _ _ _ _) rfl (hx2.later (alloc3 _ _ _ _) (by omega))
  clear hb4 hx2 hk2 HK1 hc4 HX1
  have e1 : (p2 == p2) = true := beq_self_eq_true _
  have e2 : (er2 == er2) = true := beq_self_eq_true _
  have e3 : (p2 != p2) = false := by simp
  have e4 : (er2 != er2) = false := by simp
  go_wp2_with fail
  refine (ref_SameExprs _ _ _ _ _ _ _ _ _ _ HX.out HY.out).mono ?_
  rintro e w3c ⟨hb5, bb, rfl, hbi⟩
  obtain rfl : bb = true := hbi.2 rfl
  have HWc3 : Hid (Below w3b.heap.size w3b w3c) := (alloc3 _ _ _ _).trans (hb5.mono (by simp; omega))
  have HL4 : Hid (Laid w3c) := HLb3.out.below HWc3.out (Nat.le_refl _)
  have HB4 : Hid (Below w.heap.size w w3c) := HBb3.out.trans (HWc3.out.mono HBb3.out.size)
  clear hb5 hbi b0 b1 b2 b3 b4 hs4 HX HY HW4 HLa3 HLb3 HBa3 HBb3 HWc3
  go_wp2_with fail
  refine (law08_awake _ HL4.out).mono ?_
  rintro e w9 ⟨rfl, hb9⟩
  have HB9 := Lib.hid (HB4.out.trans (hb9.mono HB4.out.size))
  clear hb9
  go_wp2_with fail
  go_ret
  exact ⟨rfl, HB9.out⟩
end Go.Proofs.YthjonkommphkkaaGreatDoor
