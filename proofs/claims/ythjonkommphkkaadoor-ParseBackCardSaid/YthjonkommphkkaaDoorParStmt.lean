/-
  The rule stmt, walked (walks printed by genpar2.py).
-/
import Derived.Test.YthjonkommphkkaaDoorParStBase
import Derived.Deep.DrawnRows
set_option linter.unusedSectionVars false
set_option linter.unusedSimpArgs false
set_option linter.unnecessarySimpa false
set_option linter.unusedVariables false
namespace Go.Proofs.YthjonkommphkkaaDoor
open Lx Go.RowKit
attribute [local go_sem ↓] Go.wp_at_zero Go.wp_at_succ
section
variable {pb g cap : Nat} {ts : List Tok} {i : Nat} {w : World}
variable {B : Nat → PR (List St)} {f : Nat} (hB : Adv B)
set_option maxHeartbeats 4000000 in
include hB in
theorem par_stmt (hT : TWF ts) (hP : ∀ i w, PEnv pb g cap ts i w → ts.length - i < f + 1 → Calls Tryd.prog 71 #[.pointer (some ⟨pb, 0, none⟩)] w (POut pb g cap ts w (QSs w.heap.size) (B i)))
    (h : PEnv pb g cap ts i w) (hi : ts.length - i < f + 1) : Calls Tryd.prog 81 #[.pointer (some ⟨pb, 0, none⟩)] w (POut pb g cap ts w (QSt w.heap.size) (stmtW ts B i)) := by
  obtain ⟨R, hr⟩ : ∃ R, R = stmtW ts B i := ⟨_, rfl⟩
  rw [← hr]
  unfold stmtW at hr
  have R0 := Lib.hid hr
  have hpb := h.pb_lt
  have hil := h.lt
  have S0 := Lib.hid h.ps
  clear hr h
  have HP := Lib.hid hP
  clear hP
  have S1 := Lib.hid (S0.out.alloc (w.heap.size) (by simp) (.cells #[.int .i64 0, .string ⟨#[]⟩, .string ⟨#[]⟩, .slice none 0 0, .slice none 0 0, .slice none 0 0] 84))
  clear S0
  go_enter Tryd.func81, Tryd.ntmps81
  obtain ⟨t, ht⟩ : ∃ t, isT ts (i) [118, 97, 114] = t := ⟨_, rfl⟩
  have hr := R0.out
  rw [ht] at hr
  cases t
  rotate_left
  · rw [if_pos rfl] at hr
    have R2y := Lib.hid hr
    have T2y := Lib.hid ht
    clear hr ht R0
    have hr := R2y.out
    unfold varP at hr
    have R3 := Lib.hid hr
    clear hr R2y
    go_wp2_with fail
    refine (accept_true hT ⟨#[118, 97, 114]⟩ (by decide) T2y.out S1.out.env).mono ?_
    rintro e w4 ⟨rfl, hg, hEv⟩
    have hs4 := hg.size
    have hjl4 := hEv.lt
    have S4 := Lib.hid (S1.out.call hg hEv)
    clear hg hEv S1 T2y
    replace hs4 : w.heap.size + 1 ≤ w4.heap.size := by simp at hs4; omega
    go_wp2_with fail
    refine (par_typed hT S4.out.env).mono ?_
    intro e w5 ho
    obtain ⟨ch, rfl, hp⟩ | ⟨fl, j5, v, rfl, rfl, hS, hr, hs5, hq5⟩ := S4.out.rule ho R3.out
    · exact ⟨rfl, hp⟩
    have hjl5 := hS.env.lt
    have hadv5 := typedP_adv hq5
    clear hq5
    have S5 := Lib.hid hS
    have R5 := Lib.hid hr
    clear hS hr ho R3 S4
    have S6 := Lib.hid (S5.out.alloc (w5.heap.size) (by simp) (.cells #[.string (strOf fl.name), .string (strOf fl.typ)] 62))
    clear S5
    have S7 := Lib.hid (S6.out.alloc (w5.heap.size + 1) (by simp) (.cells #[.int .i64 1, .string (strOf fl.name), .string (strOf fl.typ), .slice none 0 0, .slice none 0 0, .slice none 0 0] 84))
    clear S6
    obtain ⟨t, ht⟩ : ∃ t, isT ts (j5) [61] = t := ⟨_, rfl⟩
    have hr := R5.out
    rw [ht] at hr
    cases t
    rotate_left
    · rw [if_pos rfl] at hr
      have R8y := Lib.hid hr
      have T8y := Lib.hid ht
      clear hr ht R5
      go_wp2_with fail
      refine (accept_true hT ⟨#[61]⟩ (by decide) T8y.out S7.out.env).mono ?_
      rintro e w9 ⟨rfl, hg, hEv⟩
      have hs9 := hg.size
      have hjl9 := hEv.lt
      have S9 := Lib.hid (S7.out.call hg hEv)
      clear hg hEv S7 T8y
      replace hs9 : w5.heap.size + 1 + 1 ≤ w9.heap.size := by simp at hs9; omega
      go_wp2_with fail
      refine (par_expr hT S9.out.env).mono ?_
      intro e w10 ho
      obtain ⟨ch, rfl, hp⟩ | ⟨x, j10, v, rfl, ⟨d, k, n, o, m, a, l, c, rfl, hx⟩, hS, hr, hs10, hq10⟩ := S9.out.rule ho R8y.out
      · exact ⟨rfl, hp⟩
      have hjl10 := hS.env.lt
      clear hq10
      have S10 := Lib.hid (hS.add S9.out (fEx x [.int .i64 k, .int .i64 n, .string o, .string m, .slice a l c]) ⟨d, hx⟩)
      have R10 := Lib.hid hr
      clear hS hr ho R8y S9 hx
      obtain ⟨⟨c11_0, c11_1, c11_2, c11_3, c11_4, c11_5⟩, z11⟩ := S10.out.cells6 0 rfl
      have l11 := (S10.out.blk 0 rfl).2.1
      go_wp2_with fail
      have S12 := Lib.hid (S10.out.setTo 0 rfl 3 (.slice (some ⟨w10.heap.size, 0, none⟩) 1 1) #[.int .i64 1, .string (strOf fl.name), .string (strOf fl.typ), .slice (some ⟨w10.heap.size, 0, none⟩) 1 1, .slice none 0 0, .slice none 0 0] rfl [(w5.heap.size + 1, (.cells #[.int .i64 1, .string (strOf fl.name), .string (strOf fl.typ), .slice (some ⟨w10.heap.size, 0, none⟩) 1 1, .slice none 0 0, .slice none 0 0] 84)), (w5.heap.size, (.cells #[.string (strOf fl.name), .string (strOf fl.typ)] 62)), (w.heap.size, (.cells #[.int .i64 0, .string ⟨#[]⟩, .string ⟨#[]⟩, .slice none 0 0, .slice none 0 0, .slice none 0 0] 84))] rfl)
      clear S10
      have S13 := Lib.hid (S12.out.alloc (w10.heap.size) (by simp) (.cells #[.int .i64 k, .int .i64 n, .string o, .string m, .slice a l c] 48))
      clear S12
      have S14 := Lib.hid (S13.out.give 0 rfl)
      clear S13
      refine (par_expect hT _ (by decide) S14.out.env).mono ?_
      intro e w15 ho
      obtain ⟨ch, rfl, hp⟩ | ⟨_, j15, v, rfl, rfl, hS, hr, hs15, hq15⟩ := S14.out.rule ho R10.out
      · exact ⟨rfl, hp⟩
      have hjl15 := hS.env.lt
      clear hq15
      clear c11_0 c11_1 c11_2 c11_3 c11_4 c11_5 z11 l11
      have S15 := Lib.hid hS
      have R15 := Lib.hid hr
      clear hS hr ho R10 S14
      replace hs15 : w10.heap.size + 1 ≤ w15.heap.size := by simp at hs15; omega
      obtain ⟨⟨c16_0, c16_1, c16_2, c16_3, c16_4, c16_5⟩, z16⟩ := S15.out.cells6 2 rfl
      have l16 := (S15.out.blk 2 rfl).2.1
      obtain ⟨⟨c17_0, c17_1, c17_2, c17_3, c17_4, c17_5⟩, z17⟩ := S15.out.cells6 0 rfl
      have l17 := (S15.out.blk 0 rfl).2.1
      go_wp2_with fail
      have S18 := Lib.hid (S15.out.imp (G := fSt (.mk 1 fl.name fl.typ [x] [] []) [.int .i64 1, .string (strOf fl.name), .string (strOf fl.typ), .slice (some ⟨w10.heap.size, 0, none⟩) 1 1, .slice none 0 0, .slice none 0 0]) (fun A hF => fSt.mk (fExs.one _ hF.2 hF.1.2) (fSts.nil _ _) (fSts.nil _ _)))
      clear S15
      have S19 := Lib.hid (S18.out.set6 2 rfl (.int .i64 1) (.string (strOf fl.name)) (.string (strOf fl.typ)) (.slice (some ⟨w10.heap.size, 0, none⟩) 1 1) (.slice none 0 0) (.slice none 0 0) [(w5.heap.size + 1, (.cells #[.int .i64 1, .string (strOf fl.name), .string (strOf fl.typ), .slice (some ⟨w10.heap.size, 0, none⟩) 1 1, .slice none 0 0, .slice none 0 0] 84)), (w5.heap.size, (.cells #[.string (strOf fl.name), .string (strOf fl.typ)] 62)), (w.heap.size, (.cells #[.int .i64 1, .string (strOf fl.name), .string (strOf fl.typ), .slice (some ⟨w10.heap.size, 0, none⟩) 1 1, .slice none 0 0, .slice none 0 0] 84))] rfl)
      clear S18
      refine bodyPost_ret (v := .agg #[.int .i64 1, .string (strOf fl.name), .string (strOf fl.typ), .slice (some ⟨w10.heap.size, 0, none⟩) 1 1, .slice none 0 0, .slice none 0 0]) ?_ rfl (S19.out.ret R15.out (QSt.of S19.out.wk.fin))
      simp [results, Tryd.results81, go_sem, c16_0, c16_1, c16_2, c16_3, c16_4, c16_5]
    rw [if_neg (by decide)] at hr
    have R8n := Lib.hid hr
    have T8n := Lib.hid ht
    clear hr ht R5
    go_wp2_with fail
    refine (accept_false hT ⟨#[61]⟩ (by decide) T8n.out S7.out.env).mono ?_
    rintro e w20 ⟨rfl, hg, hEv⟩
    have hs20 := hg.size
    have hjl20 := hEv.lt
    have S20 := Lib.hid (S7.out.call hg hEv)
    clear hg hEv S7 T8n
    replace hs20 : w5.heap.size + 1 + 1 ≤ w20.heap.size := by simp at hs20; omega
    go_wp2_with fail
    refine (par_expect hT _ (by decide) S20.out.env).mono ?_
    intro e w21 ho
    obtain ⟨ch, rfl, hp⟩ | ⟨_, j21, v, rfl, rfl, hS, hr, hs21, hq21⟩ := S20.out.rule ho R8n.out
    · exact ⟨rfl, hp⟩
    have hjl21 := hS.env.lt
    clear hq21
    have S21 := Lib.hid hS
    have R21 := Lib.hid hr
    clear hS hr ho R8n S20
    obtain ⟨⟨c22_0, c22_1, c22_2, c22_3, c22_4, c22_5⟩, z22⟩ := S21.out.cells6 2 rfl
    have l22 := (S21.out.blk 2 rfl).2.1
    obtain ⟨⟨c23_0, c23_1, c23_2, c23_3, c23_4, c23_5⟩, z23⟩ := S21.out.cells6 0 rfl
    have l23 := (S21.out.blk 0 rfl).2.1
    go_wp2_with fail
    have S24 := Lib.hid (S21.out.imp (G := fSt (.mk 1 fl.name fl.typ [] [] []) [.int .i64 1, .string (strOf fl.name), .string (strOf fl.typ), .slice none 0 0, .slice none 0 0, .slice none 0 0]) (fun A hF => fSt.mk (fExs.nil _ _) (fSts.nil _ _) (fSts.nil _ _)))
    clear S21
    have S25 := Lib.hid (S24.out.set6 2 rfl (.int .i64 1) (.string (strOf fl.name)) (.string (strOf fl.typ)) (.slice none 0 0) (.slice none 0 0) (.slice none 0 0) [(w5.heap.size + 1, (.cells #[.int .i64 1, .string (strOf fl.name), .string (strOf fl.typ), .slice none 0 0, .slice none 0 0, .slice none 0 0] 84)), (w5.heap.size, (.cells #[.string (strOf fl.name), .string (strOf fl.typ)] 62)), (w.heap.size, (.cells #[.int .i64 1, .string (strOf fl.name), .string (strOf fl.typ), .slice none 0 0, .slice none 0 0, .slice none 0 0] 84))] rfl)
    clear S24
    refine bodyPost_ret (v := .agg #[.int .i64 1, .string (strOf fl.name), .string (strOf fl.typ), .slice none 0 0, .slice none 0 0, .slice none 0 0]) ?_ rfl (S25.out.ret R21.out (QSt.of S25.out.wk.fin))
    simp [results, Tryd.results81, go_sem, c22_0, c22_1, c22_2, c22_3, c22_4, c22_5]
  rw [if_neg (by decide)] at hr
  have R2n := Lib.hid hr
  have T2n := Lib.hid ht
  clear hr ht R0
  go_wp2_with fail
  refine (accept_false hT ⟨#[118, 97, 114]⟩ (by decide) T2n.out S1.out.env).mono ?_
  rintro e w26 ⟨rfl, hg, hEv⟩
  have hs26 := hg.size
  have hjl26 := hEv.lt
  have S26 := Lib.hid (S1.out.call hg hEv)
  clear hg hEv S1 T2n
  replace hs26 : w.heap.size + 1 ≤ w26.heap.size := by simp at hs26; omega
  obtain ⟨t, ht⟩ : ∃ t, isT ts (i) [105, 102] = t := ⟨_, rfl⟩
  have hr := R2n.out
  rw [ht] at hr
  cases t
  rotate_left
  · rw [if_pos rfl] at hr
    have R27y := Lib.hid hr
    have T27y := Lib.hid ht
    clear hr ht R2n
    have hr := R27y.out
    unfold ifP at hr
    have R28 := Lib.hid hr
    clear hr R27y
    go_wp2_with fail
    refine (accept_true hT ⟨#[105, 102]⟩ (by decide) T27y.out S26.out.env).mono ?_
    rintro e w29 ⟨rfl, hg, hEv⟩
    have hs29 := hg.size
    have hjl29 := hEv.lt
    have S29 := Lib.hid (S26.out.call hg hEv)
    clear hg hEv S26 T27y
    go_wp2_with fail
    refine (par_condition hT S29.out.env).mono ?_
    intro e w30 ho
    obtain ⟨ch, rfl, hp⟩ | ⟨cs, j30, v, rfl, ⟨a1, n1, c1, rfl, hx⟩, hS, hr, hs30, hq30⟩ := S29.out.rule ho R28.out
    · exact ⟨rfl, hp⟩
    have hjl30 := hS.env.lt
    have hadv30 := condP_adv _ _ _ hq30
    clear hq30
    have S30 := Lib.hid (hS.add S29.out (fExs cs (.slice a1 n1 c1)) hx)
    have R30 := Lib.hid hr
    clear hS hr ho R28 S29 hx
    have S31 := Lib.hid (S30.out.alloc (w30.heap.size) (by simp) (.cells #[.int .i64 4, .string ⟨#[]⟩, .string ⟨#[]⟩, .slice a1 n1 c1, .slice none 0 0, .slice none 0 0] 84))
    clear S30
    go_wp2_with fail
    refine (HP.out _ _ S31.out.env (by omega)).mono ?_
    intro e w32 ho
    obtain ⟨ch, rfl, hp⟩ | ⟨bd, j32, v, rfl, ⟨a2, n2, c2, rfl, hx⟩, hS, hr, hs32, hq32⟩ := S31.out.rule ho R30.out
    · exact ⟨rfl, hp⟩
    have hjl32 := hS.env.lt
    have hadv32 := hB _ _ _ hq32
    clear hq32
    have S32 := Lib.hid (hS.add S31.out (fSts bd (.slice a2 n2 c2)) hx)
    have R32 := Lib.hid hr
    clear hS hr ho R30 S31 hx
    replace hs32 : w30.heap.size + 1 ≤ w32.heap.size := by simp at hs32; omega
    obtain ⟨t, ht⟩ : ∃ t, isT ts (j32) [101, 108, 115, 101] = t := ⟨_, rfl⟩
    have hr := R32.out
    rw [ht] at hr
    cases t
    rotate_left
    · rw [if_pos rfl] at hr
      have R33y := Lib.hid hr
      have T33y := Lib.hid ht
      clear hr ht R32
      obtain ⟨⟨c34_0, c34_1, c34_2, c34_3, c34_4, c34_5⟩, z34⟩ := S32.out.cells6 0 rfl
      have l34 := (S32.out.blk 0 rfl).2.1
      go_wp2_with fail
      have S35 := Lib.hid (S32.out.setTo 0 rfl 4 (.slice a2 n2 c2) #[.int .i64 4, .string ⟨#[]⟩, .string ⟨#[]⟩, .slice a1 n1 c1, .slice a2 n2 c2, .slice none 0 0] rfl [(w30.heap.size, (.cells #[.int .i64 4, .string ⟨#[]⟩, .string ⟨#[]⟩, .slice a1 n1 c1, .slice a2 n2 c2, .slice none 0 0] 84)), (w.heap.size, (.cells #[.int .i64 0, .string ⟨#[]⟩, .string ⟨#[]⟩, .slice none 0 0, .slice none 0 0, .slice none 0 0] 84))] rfl)
      clear S32
      refine (accept_true hT ⟨#[101, 108, 115, 101]⟩ (by decide) T33y.out S35.out.env).mono ?_
      rintro e w36 ⟨rfl, hg, hEv⟩
      have hs36 := hg.size
      have hjl36 := hEv.lt
      have S36 := Lib.hid (S35.out.call hg hEv)
      clear hg hEv S35 T33y
      clear c34_0 c34_1 c34_2 c34_3 c34_4 c34_5 z34 l34
      replace hs36 : w32.heap.size ≤ w36.heap.size := by simp at hs36; omega
      go_wp2_with fail
      refine (HP.out _ _ S36.out.env (by omega)).mono ?_
      intro e w37 ho
      obtain ⟨ch, rfl, hp⟩ | ⟨el, j37, v, rfl, ⟨a3, n3, c3, rfl, hx⟩, hS, hr, hs37, hq37⟩ := S36.out.rule ho R33y.out
      · exact ⟨rfl, hp⟩
      have hjl37 := hS.env.lt
      have hadv37 := hB _ _ _ hq37
      clear hq37
      have S37 := Lib.hid (hS.add S36.out (fSts el (.slice a3 n3 c3)) hx)
      have R37 := Lib.hid hr
      clear hS hr ho R33y S36 hx
      obtain ⟨⟨c38_0, c38_1, c38_2, c38_3, c38_4, c38_5⟩, z38⟩ := S37.out.cells6 1 rfl
      have l38 := (S37.out.blk 1 rfl).2.1
      obtain ⟨⟨c39_0, c39_1, c39_2, c39_3, c39_4, c39_5⟩, z39⟩ := S37.out.cells6 0 rfl
      have l39 := (S37.out.blk 0 rfl).2.1
      go_wp2_with fail
      have S40 := Lib.hid (S37.out.setTo 0 rfl 5 (.slice a3 n3 c3) #[.int .i64 4, .string ⟨#[]⟩, .string ⟨#[]⟩, .slice a1 n1 c1, .slice a2 n2 c2, .slice a3 n3 c3] rfl [(w30.heap.size, (.cells #[.int .i64 4, .string ⟨#[]⟩, .string ⟨#[]⟩, .slice a1 n1 c1, .slice a2 n2 c2, .slice a3 n3 c3] 84)), (w.heap.size, (.cells #[.int .i64 0, .string ⟨#[]⟩, .string ⟨#[]⟩, .slice none 0 0, .slice none 0 0, .slice none 0 0] 84))] rfl)
      clear S37
      have S41 := Lib.hid (S40.out.imp (G := fSt (.mk 4 [] [] cs bd el) [.int .i64 4, .string ⟨#[]⟩, .string ⟨#[]⟩, .slice a1 n1 c1, .slice a2 n2 c2, .slice a3 n3 c3]) (fun A hF => fSt.mk hF.1.1.2 hF.1.2 hF.2))
      clear S40
      have S42 := Lib.hid (S41.out.set6 1 rfl (.int .i64 4) (.string ⟨#[]⟩) (.string ⟨#[]⟩) (.slice a1 n1 c1) (.slice a2 n2 c2) (.slice a3 n3 c3) [(w30.heap.size, (.cells #[.int .i64 4, .string ⟨#[]⟩, .string ⟨#[]⟩, .slice a1 n1 c1, .slice a2 n2 c2, .slice a3 n3 c3] 84)), (w.heap.size, (.cells #[.int .i64 4, .string ⟨#[]⟩, .string ⟨#[]⟩, .slice a1 n1 c1, .slice a2 n2 c2, .slice a3 n3 c3] 84))] rfl)
      clear S41
      refine bodyPost_ret (v := .agg #[.int .i64 4, .string ⟨#[]⟩, .string ⟨#[]⟩, .slice a1 n1 c1, .slice a2 n2 c2, .slice a3 n3 c3]) ?_ rfl (S42.out.ret R37.out (QSt.of S42.out.wk.fin))
      simp [results, Tryd.results81, go_sem, c38_0, c38_1, c38_2, c38_3, c38_4, c38_5]
    rw [if_neg (by decide)] at hr
    have R33n := Lib.hid hr
    have T33n := Lib.hid ht
    clear hr ht R32
    obtain ⟨⟨c43_0, c43_1, c43_2, c43_3, c43_4, c43_5⟩, z43⟩ := S32.out.cells6 0 rfl
    have l43 := (S32.out.blk 0 rfl).2.1
    go_wp2_with fail
    have S44 := Lib.hid (S32.out.setTo 0 rfl 4 (.slice a2 n2 c2) #[.int .i64 4, .string ⟨#[]⟩, .string ⟨#[]⟩, .slice a1 n1 c1, .slice a2 n2 c2, .slice none 0 0] rfl [(w30.heap.size, (.cells #[.int .i64 4, .string ⟨#[]⟩, .string ⟨#[]⟩, .slice a1 n1 c1, .slice a2 n2 c2, .slice none 0 0] 84)), (w.heap.size, (.cells #[.int .i64 0, .string ⟨#[]⟩, .string ⟨#[]⟩, .slice none 0 0, .slice none 0 0, .slice none 0 0] 84))] rfl)
    clear S32
    refine (accept_false hT ⟨#[101, 108, 115, 101]⟩ (by decide) T33n.out S44.out.env).mono ?_
    rintro e w45 ⟨rfl, hg, hEv⟩
    have hs45 := hg.size
    have hjl45 := hEv.lt
    have S45 := Lib.hid (S44.out.call hg hEv)
    clear hg hEv S44 T33n
    clear c43_0 c43_1 c43_2 c43_3 c43_4 c43_5 z43 l43
    replace hs45 : w32.heap.size ≤ w45.heap.size := by simp at hs45; omega
    obtain ⟨⟨c46_0, c46_1, c46_2, c46_3, c46_4, c46_5⟩, z46⟩ := S45.out.cells6 1 rfl
    have l46 := (S45.out.blk 1 rfl).2.1
    obtain ⟨⟨c47_0, c47_1, c47_2, c47_3, c47_4, c47_5⟩, z47⟩ := S45.out.cells6 0 rfl
    have l47 := (S45.out.blk 0 rfl).2.1
    go_wp2_with fail
    have S48 := Lib.hid (S45.out.imp (G := fSt (.mk 4 [] [] cs bd []) [.int .i64 4, .string ⟨#[]⟩, .string ⟨#[]⟩, .slice a1 n1 c1, .slice a2 n2 c2, .slice none 0 0]) (fun A hF => fSt.mk hF.1.2 hF.2 (fSts.nil _ _)))
    clear S45
    have S49 := Lib.hid (S48.out.set6 1 rfl (.int .i64 4) (.string ⟨#[]⟩) (.string ⟨#[]⟩) (.slice a1 n1 c1) (.slice a2 n2 c2) (.slice none 0 0) [(w30.heap.size, (.cells #[.int .i64 4, .string ⟨#[]⟩, .string ⟨#[]⟩, .slice a1 n1 c1, .slice a2 n2 c2, .slice none 0 0] 84)), (w.heap.size, (.cells #[.int .i64 4, .string ⟨#[]⟩, .string ⟨#[]⟩, .slice a1 n1 c1, .slice a2 n2 c2, .slice none 0 0] 84))] rfl)
    clear S48
    refine bodyPost_ret (v := .agg #[.int .i64 4, .string ⟨#[]⟩, .string ⟨#[]⟩, .slice a1 n1 c1, .slice a2 n2 c2, .slice none 0 0]) ?_ rfl (S49.out.ret R33n.out (QSt.of S49.out.wk.fin))
    simp [results, Tryd.results81, go_sem, c46_0, c46_1, c46_2, c46_3, c46_4, c46_5]
  rw [if_neg (by decide)] at hr
  have R27n := Lib.hid hr
  have T27n := Lib.hid ht
  clear hr ht R2n
  go_wp2_with fail
  refine (accept_false hT ⟨#[105, 102]⟩ (by decide) T27n.out S26.out.env).mono ?_
  rintro e w50 ⟨rfl, hg, hEv⟩
  have hs50 := hg.size
  have hjl50 := hEv.lt
  have S50 := Lib.hid (S26.out.call hg hEv)
  clear hg hEv S26 T27n
  obtain ⟨t, ht⟩ : ∃ t, isT ts (i) [119, 104, 105, 108, 101] = t := ⟨_, rfl⟩
  have hr := R27n.out
  rw [ht] at hr
  cases t
  rotate_left
  · rw [if_pos rfl] at hr
    have R51y := Lib.hid hr
    have T51y := Lib.hid ht
    clear hr ht R27n
    have hr := R51y.out
    unfold whileP at hr
    have R52 := Lib.hid hr
    clear hr R51y
    go_wp2_with fail
    refine (accept_true hT ⟨#[119, 104, 105, 108, 101]⟩ (by decide) T51y.out S50.out.env).mono ?_
    rintro e w53 ⟨rfl, hg, hEv⟩
    have hs53 := hg.size
    have hjl53 := hEv.lt
    have S53 := Lib.hid (S50.out.call hg hEv)
    clear hg hEv S50 T51y
    go_wp2_with fail
    refine (par_condition hT S53.out.env).mono ?_
    intro e w54 ho
    obtain ⟨ch, rfl, hp⟩ | ⟨cs, j54, v, rfl, ⟨a1, n1, c1, rfl, hx⟩, hS, hr, hs54, hq54⟩ := S53.out.rule ho R52.out
    · exact ⟨rfl, hp⟩
    have hjl54 := hS.env.lt
    have hadv54 := condP_adv _ _ _ hq54
    clear hq54
    have S54 := Lib.hid (hS.add S53.out (fExs cs (.slice a1 n1 c1)) hx)
    have R54 := Lib.hid hr
    clear hS hr ho R52 S53 hx
    have S55 := Lib.hid (S54.out.alloc (w54.heap.size) (by simp) (.cells #[.int .i64 5, .string ⟨#[]⟩, .string ⟨#[]⟩, .slice a1 n1 c1, .slice none 0 0, .slice none 0 0] 84))
    clear S54
    go_wp2_with fail
    refine (HP.out _ _ S55.out.env (by omega)).mono ?_
    intro e w56 ho
    obtain ⟨ch, rfl, hp⟩ | ⟨bd, j56, v, rfl, ⟨a2, n2, c2, rfl, hx⟩, hS, hr, hs56, hq56⟩ := S55.out.rule ho R54.out
    · exact ⟨rfl, hp⟩
    have hjl56 := hS.env.lt
    have hadv56 := hB _ _ _ hq56
    clear hq56
    have S56 := Lib.hid (hS.add S55.out (fSts bd (.slice a2 n2 c2)) hx)
    have R56 := Lib.hid hr
    clear hS hr ho R54 S55 hx
    replace hs56 : w54.heap.size + 1 ≤ w56.heap.size := by simp at hs56; omega
    obtain ⟨⟨c57_0, c57_1, c57_2, c57_3, c57_4, c57_5⟩, z57⟩ := S56.out.cells6 1 rfl
    have l57 := (S56.out.blk 1 rfl).2.1
    obtain ⟨⟨c58_0, c58_1, c58_2, c58_3, c58_4, c58_5⟩, z58⟩ := S56.out.cells6 0 rfl
    have l58 := (S56.out.blk 0 rfl).2.1
    go_wp2_with fail
    have S59 := Lib.hid (S56.out.setTo 0 rfl 4 (.slice a2 n2 c2) #[.int .i64 5, .string ⟨#[]⟩, .string ⟨#[]⟩, .slice a1 n1 c1, .slice a2 n2 c2, .slice none 0 0] rfl [(w54.heap.size, (.cells #[.int .i64 5, .string ⟨#[]⟩, .string ⟨#[]⟩, .slice a1 n1 c1, .slice a2 n2 c2, .slice none 0 0] 84)), (w.heap.size, (.cells #[.int .i64 0, .string ⟨#[]⟩, .string ⟨#[]⟩, .slice none 0 0, .slice none 0 0, .slice none 0 0] 84))] rfl)
    clear S56
    have S60 := Lib.hid (S59.out.imp (G := fSt (.mk 5 [] [] cs bd []) [.int .i64 5, .string ⟨#[]⟩, .string ⟨#[]⟩, .slice a1 n1 c1, .slice a2 n2 c2, .slice none 0 0]) (fun A hF => fSt.mk hF.1.2 hF.2 (fSts.nil _ _)))
    clear S59
    have S61 := Lib.hid (S60.out.set6 1 rfl (.int .i64 5) (.string ⟨#[]⟩) (.string ⟨#[]⟩) (.slice a1 n1 c1) (.slice a2 n2 c2) (.slice none 0 0) [(w54.heap.size, (.cells #[.int .i64 5, .string ⟨#[]⟩, .string ⟨#[]⟩, .slice a1 n1 c1, .slice a2 n2 c2, .slice none 0 0] 84)), (w.heap.size, (.cells #[.int .i64 5, .string ⟨#[]⟩, .string ⟨#[]⟩, .slice a1 n1 c1, .slice a2 n2 c2, .slice none 0 0] 84))] rfl)
    clear S60
    refine bodyPost_ret (v := .agg #[.int .i64 5, .string ⟨#[]⟩, .string ⟨#[]⟩, .slice a1 n1 c1, .slice a2 n2 c2, .slice none 0 0]) ?_ rfl (S61.out.ret R56.out (QSt.of S61.out.wk.fin))
    simp [results, Tryd.results81, go_sem, c57_0, c57_1, c57_2, c57_3, c57_4, c57_5]
  rw [if_neg (by decide)] at hr
  have R51n := Lib.hid hr
  have T51n := Lib.hid ht
  clear hr ht R27n
  go_wp2_with fail
  refine (accept_false hT ⟨#[119, 104, 105, 108, 101]⟩ (by decide) T51n.out S50.out.env).mono ?_
  rintro e w62 ⟨rfl, hg, hEv⟩
  have hs62 := hg.size
  have hjl62 := hEv.lt
  have S62 := Lib.hid (S50.out.call hg hEv)
  clear hg hEv S50 T51n
  obtain ⟨t, ht⟩ : ∃ t, isT ts (i) [116, 114, 121] = t := ⟨_, rfl⟩
  have hr := R51n.out
  rw [ht] at hr
  cases t
  rotate_left
  · rw [if_pos rfl] at hr
    have R63y := Lib.hid hr
    have T63y := Lib.hid ht
    clear hr ht R51n
    have hr := R63y.out
    unfold tryP at hr
    have R64 := Lib.hid hr
    clear hr R63y
    go_wp2_with fail
    refine (accept_true hT ⟨#[116, 114, 121]⟩ (by decide) T63y.out S62.out.env).mono ?_
    rintro e w65 ⟨rfl, hg, hEv⟩
    have hs65 := hg.size
    have hjl65 := hEv.lt
    have S65 := Lib.hid (S62.out.call hg hEv)
    clear hg hEv S62 T63y
    go_wp2_with fail
    refine (HP.out _ _ S65.out.env (by omega)).mono ?_
    intro e w66 ho
    obtain ⟨ch, rfl, hp⟩ | ⟨bd, j66, v, rfl, ⟨a2, n2, c2, rfl, hx⟩, hS, hr, hs66, hq66⟩ := S65.out.rule ho R64.out
    · exact ⟨rfl, hp⟩
    have hjl66 := hS.env.lt
    have hadv66 := hB _ _ _ hq66
    clear hq66
    have S66 := Lib.hid (hS.add S65.out (fSts bd (.slice a2 n2 c2)) hx)
    have R66 := Lib.hid hr
    clear hS hr ho R64 S65 hx
    have S67 := Lib.hid (S66.out.alloc (w66.heap.size) (by simp) (.cells #[.int .i64 6, .string ⟨#[]⟩, .string ⟨#[]⟩, .slice none 0 0, .slice a2 n2 c2, .slice none 0 0] 84))
    clear S66
    go_wp2_with fail
    refine (par_expect hT _ (by decide) S67.out.env).mono ?_
    intro e w68 ho
    obtain ⟨ch, rfl, hp⟩ | ⟨_, j68, v, rfl, rfl, hS, hr, hs68, hq68⟩ := S67.out.rule ho R66.out
    · exact ⟨rfl, hp⟩
    have hjl68 := hS.env.lt
    have hadv68 := expectP_adv hq68
    clear hq68
    have S68 := Lib.hid hS
    have R68 := Lib.hid hr
    clear hS hr ho R66 S67
    replace hs68 : w66.heap.size + 1 ≤ w68.heap.size := by simp at hs68; omega
    go_wp2_with fail
    refine (par_expect hT _ (by decide) S68.out.env).mono ?_
    intro e w69 ho
    obtain ⟨ch, rfl, hp⟩ | ⟨_, j69, v, rfl, rfl, hS, hr, hs69, hq69⟩ := S68.out.rule ho R68.out
    · exact ⟨rfl, hp⟩
    have hjl69 := hS.env.lt
    have hadv69 := expectP_adv hq69
    clear hq69
    have S69 := Lib.hid hS
    have R69 := Lib.hid hr
    clear hS hr ho R68 S68
    go_wp2_with fail
    refine (par_typed hT S69.out.env).mono ?_
    intro e w70 ho
    obtain ⟨ch, rfl, hp⟩ | ⟨fl, j70, v, rfl, rfl, hS, hr, hs70, hq70⟩ := S69.out.rule ho R69.out
    · exact ⟨rfl, hp⟩
    have hjl70 := hS.env.lt
    have hadv70 := typedP_adv hq70
    clear hq70
    have S70 := Lib.hid hS
    have R70 := Lib.hid hr
    clear hS hr ho R69 S69
    obtain ⟨⟨c71_0, c71_1, c71_2, c71_3, c71_4, c71_5⟩, z71⟩ := S70.out.cells6 0 rfl
    have l71 := (S70.out.blk 0 rfl).2.1
    go_wp2_with fail
    go_region
    go_wp2_with fail
    have S72 := Lib.hid (S70.out.setTo 0 rfl 1 (.string (strOf fl.name)) #[.int .i64 6, .string (strOf fl.name), .string ⟨#[]⟩, .slice none 0 0, .slice a2 n2 c2, .slice none 0 0] rfl [(w66.heap.size, (.cells #[.int .i64 6, .string (strOf fl.name), .string ⟨#[]⟩, .slice none 0 0, .slice a2 n2 c2, .slice none 0 0] 84)), (w.heap.size, (.cells #[.int .i64 0, .string ⟨#[]⟩, .string ⟨#[]⟩, .slice none 0 0, .slice none 0 0, .slice none 0 0] 84))] rfl)
    clear S70
    have S73 := Lib.hid (S72.out.setTo 0 rfl 2 (.string (strOf fl.typ)) #[.int .i64 6, .string (strOf fl.name), .string (strOf fl.typ), .slice none 0 0, .slice a2 n2 c2, .slice none 0 0] rfl [(w66.heap.size, (.cells #[.int .i64 6, .string (strOf fl.name), .string (strOf fl.typ), .slice none 0 0, .slice a2 n2 c2, .slice none 0 0] 84)), (w.heap.size, (.cells #[.int .i64 0, .string ⟨#[]⟩, .string ⟨#[]⟩, .slice none 0 0, .slice none 0 0, .slice none 0 0] 84))] rfl)
    clear S72
    have S74 := Lib.hid (S73.out.alloc (w70.heap.size) (by simp) (.cells #[.string (strOf fl.name), .string (strOf fl.typ)] 62))
    clear S73
    have S75 := Lib.hid (S74.out.drew)
    clear S74
    refine (par_expect hT _ (by decide) S75.out.env).mono ?_
    intro e w76 ho
    obtain ⟨ch, rfl, hp⟩ | ⟨_, j76, v, rfl, rfl, hS, hr, hs76, hq76⟩ := S75.out.rule ho R70.out
    · exact ⟨rfl, hp⟩
    have hjl76 := hS.env.lt
    have hadv76 := expectP_adv hq76
    clear hq76
    clear c71_0 c71_1 c71_2 c71_3 c71_4 c71_5 z71 l71
    have S76 := Lib.hid hS
    have R76 := Lib.hid hr
    clear hS hr ho R70 S75
    replace hs76 : w70.heap.size + 1 ≤ w76.heap.size := by simp at hs76; omega
    go_wp2_with fail
    refine (HP.out _ _ S76.out.env (by omega)).mono ?_
    intro e w77 ho
    obtain ⟨ch, rfl, hp⟩ | ⟨el, j77, v, rfl, ⟨a3, n3, c3, rfl, hx⟩, hS, hr, hs77, hq77⟩ := S76.out.rule ho R76.out
    · exact ⟨rfl, hp⟩
    have hjl77 := hS.env.lt
    have hadv77 := hB _ _ _ hq77
    clear hq77
    have S77 := Lib.hid (hS.add S76.out (fSts el (.slice a3 n3 c3)) hx)
    have R77 := Lib.hid hr
    clear hS hr ho R76 S76 hx
    obtain ⟨⟨c78_0, c78_1, c78_2, c78_3, c78_4, c78_5⟩, z78⟩ := S77.out.cells6 2 rfl
    have l78 := (S77.out.blk 2 rfl).2.1
    obtain ⟨⟨c79_0, c79_1, c79_2, c79_3, c79_4, c79_5⟩, z79⟩ := S77.out.cells6 1 rfl
    have l79 := (S77.out.blk 1 rfl).2.1
    go_wp2_with fail
    have S80 := Lib.hid (S77.out.setTo 1 rfl 5 (.slice a3 n3 c3) #[.int .i64 6, .string (strOf fl.name), .string (strOf fl.typ), .slice none 0 0, .slice a2 n2 c2, .slice a3 n3 c3] rfl [(w70.heap.size, (.cells #[.string (strOf fl.name), .string (strOf fl.typ)] 62)), (w66.heap.size, (.cells #[.int .i64 6, .string (strOf fl.name), .string (strOf fl.typ), .slice none 0 0, .slice a2 n2 c2, .slice a3 n3 c3] 84)), (w.heap.size, (.cells #[.int .i64 0, .string ⟨#[]⟩, .string ⟨#[]⟩, .slice none 0 0, .slice none 0 0, .slice none 0 0] 84))] rfl)
    clear S77
    have S81 := Lib.hid (S80.out.imp (G := fSt (.mk 6 fl.name fl.typ [] bd el) [.int .i64 6, .string (strOf fl.name), .string (strOf fl.typ), .slice none 0 0, .slice a2 n2 c2, .slice a3 n3 c3]) (fun A hF => fSt.mk (fExs.nil _ _) hF.1.2 hF.2))
    clear S80
    have S82 := Lib.hid (S81.out.set6 2 rfl (.int .i64 6) (.string (strOf fl.name)) (.string (strOf fl.typ)) (.slice none 0 0) (.slice a2 n2 c2) (.slice a3 n3 c3) [(w70.heap.size, (.cells #[.string (strOf fl.name), .string (strOf fl.typ)] 62)), (w66.heap.size, (.cells #[.int .i64 6, .string (strOf fl.name), .string (strOf fl.typ), .slice none 0 0, .slice a2 n2 c2, .slice a3 n3 c3] 84)), (w.heap.size, (.cells #[.int .i64 6, .string (strOf fl.name), .string (strOf fl.typ), .slice none 0 0, .slice a2 n2 c2, .slice a3 n3 c3] 84))] rfl)
    clear S81
    refine bodyPost_ret (v := .agg #[.int .i64 6, .string (strOf fl.name), .string (strOf fl.typ), .slice none 0 0, .slice a2 n2 c2, .slice a3 n3 c3]) ?_ rfl (S82.out.ret R77.out (QSt.of S82.out.wk.fin))
    simp [results, Tryd.results81, go_sem, c78_0, c78_1, c78_2, c78_3, c78_4, c78_5]
  rw [if_neg (by decide)] at hr
  have R63n := Lib.hid hr
  have T63n := Lib.hid ht
  clear hr ht R51n
  go_wp2_with fail
  refine (accept_false hT ⟨#[116, 114, 121]⟩ (by decide) T63n.out S62.out.env).mono ?_
  rintro e w83 ⟨rfl, hg, hEv⟩
  have hs83 := hg.size
  have hjl83 := hEv.lt
  have S83 := Lib.hid (S62.out.call hg hEv)
  clear hg hEv S62 T63n
  obtain ⟨t, ht⟩ : ∃ t, isT ts (i) [116, 104, 114, 111, 119] = t := ⟨_, rfl⟩
  have hr := R63n.out
  rw [ht] at hr
  cases t
  rotate_left
  · rw [if_pos rfl] at hr
    have R84y := Lib.hid hr
    have T84y := Lib.hid ht
    clear hr ht R63n
    have hr := R84y.out
    unfold throwP at hr
    have R85 := Lib.hid hr
    clear hr R84y
    go_wp2_with fail
    refine (accept_true hT ⟨#[116, 104, 114, 111, 119]⟩ (by decide) T84y.out S83.out.env).mono ?_
    rintro e w86 ⟨rfl, hg, hEv⟩
    have hs86 := hg.size
    have hjl86 := hEv.lt
    have S86 := Lib.hid (S83.out.call hg hEv)
    clear hg hEv S83 T84y
    go_wp2_with fail
    refine (par_expr hT S86.out.env).mono ?_
    intro e w87 ho
    obtain ⟨ch, rfl, hp⟩ | ⟨x, j87, v, rfl, ⟨d, k, n, o, m, a, l, c, rfl, hx⟩, hS, hr, hs87, hq87⟩ := S86.out.rule ho R85.out
    · exact ⟨rfl, hp⟩
    have hjl87 := hS.env.lt
    clear hq87
    have S87 := Lib.hid (hS.add S86.out (fEx x [.int .i64 k, .int .i64 n, .string o, .string m, .slice a l c]) ⟨d, hx⟩)
    have R87 := Lib.hid hr
    clear hS hr ho R85 S86 hx
    have S88 := Lib.hid (S87.out.alloc (w87.heap.size) (by simp) (.cells #[.int .i64 k, .int .i64 n, .string o, .string m, .slice a l c] 48))
    clear S87
    have S89 := Lib.hid (S88.out.alloc (w87.heap.size + 1) (by simp) (.cells #[.int .i64 7, .string ⟨#[]⟩, .string ⟨#[]⟩, .slice (some ⟨w87.heap.size, 0, none⟩) 1 1, .slice none 0 0, .slice none 0 0] 84))
    clear S88
    go_wp2_with fail
    refine (par_expect hT _ (by decide) S89.out.env).mono ?_
    intro e w90 ho
    obtain ⟨ch, rfl, hp⟩ | ⟨_, j90, v, rfl, rfl, hS, hr, hs90, hq90⟩ := S89.out.rule ho R87.out
    · exact ⟨rfl, hp⟩
    have hjl90 := hS.env.lt
    clear hq90
    have S90 := Lib.hid hS
    have R90 := Lib.hid hr
    clear hS hr ho R87 S89
    replace hs90 : w87.heap.size + 1 + 1 ≤ w90.heap.size := by simp at hs90; omega
    have S91 := Lib.hid (S90.out.give 1 rfl)
    clear S90
    obtain ⟨⟨c92_0, c92_1, c92_2, c92_3, c92_4, c92_5⟩, z92⟩ := S91.out.cells6 1 rfl
    have l92 := (S91.out.blk 1 rfl).2.1
    obtain ⟨⟨c93_0, c93_1, c93_2, c93_3, c93_4, c93_5⟩, z93⟩ := S91.out.cells6 0 rfl
    have l93 := (S91.out.blk 0 rfl).2.1
    go_wp2_with fail
    have S94 := Lib.hid (S91.out.imp (G := fSt (.mk 7 [] [] [x] [] []) [.int .i64 7, .string ⟨#[]⟩, .string ⟨#[]⟩, .slice (some ⟨w87.heap.size, 0, none⟩) 1 1, .slice none 0 0, .slice none 0 0]) (fun A hF => fSt.mk (fExs.one _ hF.2 hF.1.2) (fSts.nil _ _) (fSts.nil _ _)))
    clear S91
    have S95 := Lib.hid (S94.out.set6 1 rfl (.int .i64 7) (.string ⟨#[]⟩) (.string ⟨#[]⟩) (.slice (some ⟨w87.heap.size, 0, none⟩) 1 1) (.slice none 0 0) (.slice none 0 0) [(w87.heap.size + 1, (.cells #[.int .i64 7, .string ⟨#[]⟩, .string ⟨#[]⟩, .slice (some ⟨w87.heap.size, 0, none⟩) 1 1, .slice none 0 0, .slice none 0 0] 84)), (w.heap.size, (.cells #[.int .i64 7, .string ⟨#[]⟩, .string ⟨#[]⟩, .slice (some ⟨w87.heap.size, 0, none⟩) 1 1, .slice none 0 0, .slice none 0 0] 84))] rfl)
    clear S94
    refine bodyPost_ret (v := .agg #[.int .i64 7, .string ⟨#[]⟩, .string ⟨#[]⟩, .slice (some ⟨w87.heap.size, 0, none⟩) 1 1, .slice none 0 0, .slice none 0 0]) ?_ rfl (S95.out.ret R90.out (QSt.of S95.out.wk.fin))
    simp [results, Tryd.results81, go_sem, c92_0, c92_1, c92_2, c92_3, c92_4, c92_5]
  rw [if_neg (by decide)] at hr
  have R84n := Lib.hid hr
  have T84n := Lib.hid ht
  clear hr ht R63n
  go_wp2_with fail
  refine (accept_false hT ⟨#[116, 104, 114, 111, 119]⟩ (by decide) T84n.out S83.out.env).mono ?_
  rintro e w96 ⟨rfl, hg, hEv⟩
  have hs96 := hg.size
  have hjl96 := hEv.lt
  have S96 := Lib.hid (S83.out.call hg hEv)
  clear hg hEv S83 T84n
  obtain ⟨t, ht⟩ : ∃ t, isT ts (i) [114, 101, 116, 117, 114, 110] = t := ⟨_, rfl⟩
  have hr := R84n.out
  rw [ht] at hr
  cases t
  rotate_left
  · rw [if_pos rfl] at hr
    have R97y := Lib.hid hr
    have T97y := Lib.hid ht
    clear hr ht R84n
    have hr := R97y.out
    unfold returnP at hr
    have R98 := Lib.hid hr
    clear hr R97y
    go_wp2_with fail
    refine (accept_true hT ⟨#[114, 101, 116, 117, 114, 110]⟩ (by decide) T97y.out S96.out.env).mono ?_
    rintro e w99 ⟨rfl, hg, hEv⟩
    have hs99 := hg.size
    have hjl99 := hEv.lt
    have S99 := Lib.hid (S96.out.call hg hEv)
    clear hg hEv S96 T97y
    have S100 := Lib.hid (S99.out.alloc (w99.heap.size) (by simp) (.cells #[.int .i64 8, .string ⟨#[]⟩, .string ⟨#[]⟩, .slice none 0 0, .slice none 0 0, .slice none 0 0] 84))
    clear S99
    obtain ⟨t, ht⟩ : ∃ t, isT ts (i + 1) [59] = t := ⟨_, rfl⟩
    have hr := R98.out
    rw [ht] at hr
    cases t
    rotate_left
    · rw [if_pos rfl] at hr
      have R101y := Lib.hid hr
      have T101y := Lib.hid ht
      clear hr ht R98
      have TX := Lib.hid T101y.out
      go_wp2_with fail
      refine (is_true ⟨#[59]⟩ T101y.out S100.out.env).mono ?_
      rintro e w102 ⟨rfl, hg⟩
      have hs102 := hg.size
      have S102 := Lib.hid (S100.out.below hg)
      clear hg S100 T101y
      replace hs102 : w99.heap.size + 1 ≤ w102.heap.size := by simp at hs102; omega
      go_wp2_with fail
      have RX := Lib.hid (R101y.out.trans (show _ = bindP (expectP ts [59] (i + 1)) fun _ j => .ok (.mk 8 [] [] [] [] [], j) by unfold expectP; rw [TX.out, if_pos rfl, bindP_ok]))
      clear R101y
      refine (par_expect hT _ (by decide) S102.out.env).mono ?_
      intro e w103 ho
      obtain ⟨ch, rfl, hp⟩ | ⟨_, j103, v, rfl, rfl, hS, hr, hs103, hq103⟩ := S102.out.rule ho RX.out
      · exact ⟨rfl, hp⟩
      have hjl103 := hS.env.lt
      clear hq103
      have S103 := Lib.hid hS
      have R103 := Lib.hid hr
      clear hS hr ho RX S102
      obtain ⟨⟨c104_0, c104_1, c104_2, c104_3, c104_4, c104_5⟩, z104⟩ := S103.out.cells6 1 rfl
      have l104 := (S103.out.blk 1 rfl).2.1
      obtain ⟨⟨c105_0, c105_1, c105_2, c105_3, c105_4, c105_5⟩, z105⟩ := S103.out.cells6 0 rfl
      have l105 := (S103.out.blk 0 rfl).2.1
      go_wp2_with fail
      have S106 := Lib.hid (S103.out.imp (G := fSt (.mk 8 [] [] [] [] []) [.int .i64 8, .string ⟨#[]⟩, .string ⟨#[]⟩, .slice none 0 0, .slice none 0 0, .slice none 0 0]) (fun A hF => fSt.mk (fExs.nil _ _) (fSts.nil _ _) (fSts.nil _ _)))
      clear S103
      have S107 := Lib.hid (S106.out.set6 1 rfl (.int .i64 8) (.string ⟨#[]⟩) (.string ⟨#[]⟩) (.slice none 0 0) (.slice none 0 0) (.slice none 0 0) [(w99.heap.size, (.cells #[.int .i64 8, .string ⟨#[]⟩, .string ⟨#[]⟩, .slice none 0 0, .slice none 0 0, .slice none 0 0] 84)), (w.heap.size, (.cells #[.int .i64 8, .string ⟨#[]⟩, .string ⟨#[]⟩, .slice none 0 0, .slice none 0 0, .slice none 0 0] 84))] rfl)
      clear S106
      refine bodyPost_ret (v := .agg #[.int .i64 8, .string ⟨#[]⟩, .string ⟨#[]⟩, .slice none 0 0, .slice none 0 0, .slice none 0 0]) ?_ rfl (S107.out.ret R103.out (QSt.of S107.out.wk.fin))
      simp [results, Tryd.results81, go_sem, c104_0, c104_1, c104_2, c104_3, c104_4, c104_5]
    rw [if_neg (by decide)] at hr
    have R101n := Lib.hid hr
    have T101n := Lib.hid ht
    clear hr ht R98
    go_wp2_with fail
    refine (is_false ⟨#[59]⟩ T101n.out S100.out.env).mono ?_
    rintro e w108 ⟨rfl, hg⟩
    have hs108 := hg.size
    have S108 := Lib.hid (S100.out.below hg)
    clear hg S100 T101n
    replace hs108 : w99.heap.size + 1 ≤ w108.heap.size := by simp at hs108; omega
    go_wp2_with fail
    refine (par_expr hT S108.out.env).mono ?_
    intro e w109 ho
    obtain ⟨ch, rfl, hp⟩ | ⟨x, j109, v, rfl, ⟨d, k, n, o, m, a, l, c, rfl, hx⟩, hS, hr, hs109, hq109⟩ := S108.out.rule ho R101n.out
    · exact ⟨rfl, hp⟩
    have hjl109 := hS.env.lt
    clear hq109
    have S109 := Lib.hid (hS.add S108.out (fEx x [.int .i64 k, .int .i64 n, .string o, .string m, .slice a l c]) ⟨d, hx⟩)
    have R109 := Lib.hid hr
    clear hS hr ho R101n S108 hx
    obtain ⟨⟨c110_0, c110_1, c110_2, c110_3, c110_4, c110_5⟩, z110⟩ := S109.out.cells6 0 rfl
    have l110 := (S109.out.blk 0 rfl).2.1
    go_wp2_with fail
    have S111 := Lib.hid (S109.out.setTo 0 rfl 3 (.slice (some ⟨w109.heap.size, 0, none⟩) 1 1) #[.int .i64 8, .string ⟨#[]⟩, .string ⟨#[]⟩, .slice (some ⟨w109.heap.size, 0, none⟩) 1 1, .slice none 0 0, .slice none 0 0] rfl [(w99.heap.size, (.cells #[.int .i64 8, .string ⟨#[]⟩, .string ⟨#[]⟩, .slice (some ⟨w109.heap.size, 0, none⟩) 1 1, .slice none 0 0, .slice none 0 0] 84)), (w.heap.size, (.cells #[.int .i64 0, .string ⟨#[]⟩, .string ⟨#[]⟩, .slice none 0 0, .slice none 0 0, .slice none 0 0] 84))] rfl)
    clear S109
    have S112 := Lib.hid (S111.out.alloc (w109.heap.size) (by simp) (.cells #[.int .i64 k, .int .i64 n, .string o, .string m, .slice a l c] 48))
    clear S111
    have S113 := Lib.hid (S112.out.give 0 rfl)
    clear S112
    refine (par_expect hT _ (by decide) S113.out.env).mono ?_
    intro e w114 ho
    obtain ⟨ch, rfl, hp⟩ | ⟨_, j114, v, rfl, rfl, hS, hr, hs114, hq114⟩ := S113.out.rule ho R109.out
    · exact ⟨rfl, hp⟩
    have hjl114 := hS.env.lt
    clear hq114
    clear c110_0 c110_1 c110_2 c110_3 c110_4 c110_5 z110 l110
    have S114 := Lib.hid hS
    have R114 := Lib.hid hr
    clear hS hr ho R109 S113
    replace hs114 : w109.heap.size + 1 ≤ w114.heap.size := by simp at hs114; omega
    obtain ⟨⟨c115_0, c115_1, c115_2, c115_3, c115_4, c115_5⟩, z115⟩ := S114.out.cells6 1 rfl
    have l115 := (S114.out.blk 1 rfl).2.1
    obtain ⟨⟨c116_0, c116_1, c116_2, c116_3, c116_4, c116_5⟩, z116⟩ := S114.out.cells6 0 rfl
    have l116 := (S114.out.blk 0 rfl).2.1
    go_wp2_with fail
    have S117 := Lib.hid (S114.out.imp (G := fSt (.mk 8 [] [] [x] [] []) [.int .i64 8, .string ⟨#[]⟩, .string ⟨#[]⟩, .slice (some ⟨w109.heap.size, 0, none⟩) 1 1, .slice none 0 0, .slice none 0 0]) (fun A hF => fSt.mk (fExs.one _ hF.2 hF.1.2) (fSts.nil _ _) (fSts.nil _ _)))
    clear S114
    have S118 := Lib.hid (S117.out.set6 1 rfl (.int .i64 8) (.string ⟨#[]⟩) (.string ⟨#[]⟩) (.slice (some ⟨w109.heap.size, 0, none⟩) 1 1) (.slice none 0 0) (.slice none 0 0) [(w99.heap.size, (.cells #[.int .i64 8, .string ⟨#[]⟩, .string ⟨#[]⟩, .slice (some ⟨w109.heap.size, 0, none⟩) 1 1, .slice none 0 0, .slice none 0 0] 84)), (w.heap.size, (.cells #[.int .i64 8, .string ⟨#[]⟩, .string ⟨#[]⟩, .slice (some ⟨w109.heap.size, 0, none⟩) 1 1, .slice none 0 0, .slice none 0 0] 84))] rfl)
    clear S117
    refine bodyPost_ret (v := .agg #[.int .i64 8, .string ⟨#[]⟩, .string ⟨#[]⟩, .slice (some ⟨w109.heap.size, 0, none⟩) 1 1, .slice none 0 0, .slice none 0 0]) ?_ rfl (S118.out.ret R114.out (QSt.of S118.out.wk.fin))
    simp [results, Tryd.results81, go_sem, c115_0, c115_1, c115_2, c115_3, c115_4, c115_5]
  rw [if_neg (by decide)] at hr
  have R97n := Lib.hid hr
  have T97n := Lib.hid ht
  clear hr ht R84n
  go_wp2_with fail
  refine (accept_false hT ⟨#[114, 101, 116, 117, 114, 110]⟩ (by decide) T97n.out S96.out.env).mono ?_
  rintro e w119 ⟨rfl, hg, hEv⟩
  have hs119 := hg.size
  have hjl119 := hEv.lt
  have S119 := Lib.hid (S96.out.call hg hEv)
  clear hg hEv S96 T97n
  have hr := R97n.out
  have R120 := Lib.hid (hr.trans (bindP_id _))
  clear hr R97n
  go_wp2_with fail
  refine (par_simple hT S119.out.env).mono ?_
  intro e w121 ho
  obtain ⟨ch, rfl, hp⟩ | ⟨sx, j121, v, rfl, ⟨sk, snm, sty, a1, n1, c1, a2, n2, c2, a3, n3, c3, rfl, hx⟩, hS, hr, hs121, hq121⟩ := S119.out.rule ho R120.out
  · exact ⟨rfl, hp⟩
  have hjl121 := hS.env.lt
  clear hq121
  have S121 := Lib.hid (hS.add S119.out (fSt sx [.int .i64 sk, .string snm, .string sty, .slice a1 n1 c1, .slice a2 n2 c2, .slice a3 n3 c3]) hx)
  have R121 := Lib.hid hr
  clear hS hr ho R120 S119 hx
  obtain ⟨⟨c122_0, c122_1, c122_2, c122_3, c122_4, c122_5⟩, z122⟩ := S121.out.cells6 0 rfl
  have l122 := (S121.out.blk 0 rfl).2.1
  go_wp2_with fail
  have S123 := Lib.hid (S121.out.set6 0 rfl (.int .i64 sk) (.string snm) (.string sty) (.slice a1 n1 c1) (.slice a2 n2 c2) (.slice a3 n3 c3) [(w.heap.size, (.cells #[.int .i64 sk, .string snm, .string sty, .slice a1 n1 c1, .slice a2 n2 c2, .slice a3 n3 c3] 84))] rfl)
  clear S121
  refine bodyPost_ret (v := .agg #[.int .i64 sk, .string snm, .string sty, .slice a1 n1 c1, .slice a2 n2 c2, .slice a3 n3 c3]) ?_ rfl (S123.out.ret R121.out (QSt.of S123.out.wk.fin.2))
  simp [results, Tryd.results81, go_sem, c122_0, c122_1, c122_2, c122_3, c122_4, c122_5]
end
end Go.Proofs.YthjonkommphkkaaDoor
namespace Go.Proofs.YthjonkommphkkaaDoor
open Lx Go.RowKit
attribute [local go_sem ↓] Go.wp_at_zero Go.wp_at_succ
theorem one6 (k : Int) (nm ty : ByteArray) (a1 : Option Addr) (n1 c1 : Nat) (a2 : Option Addr) (n2 c2 : Nat) (a3 : Option Addr) (n3 c3 : Nat) : ∀ u ∈ [Value.int .i64 k, .string nm, .string ty, .slice a1 n1 c1, .slice a2 n2 c2, .slice a3 n3 c3], u.oneCell' = true := by
  intro u hu; simp at hu; rcases hu with rfl | rfl | rfl | rfl | rfl | rfl <;> rfl
/-- Where the loop of block stands. -/
def BlockRel (pb g cap : Nat) (ts : List Tok) (S : Nat → PR St) (i : Nat) (w : World) (R : PR (List St)) (v : Value) (wr : World) : Prop :=
  ∃ (j q : Nat) (acc : List St) (xs : List Value) (va : Option Addr) (vn vc : Nat), v = .slice va vn vc ∧ PS pb g cap ts w j wr [] ⟨.slice va vn vc, 84, 6, acc.length, xs⟩ (fFlatSt acc xs) ∧ ts.length - j < q ∧ i ≤ j ∧ acc.length ≤ j ∧ R = blockLoop ts S q acc j
section
variable {pb g cap : Nat} {ts : List Tok} {i : Nat} {w : World}
variable {S : Nat → PR St} {f : Nat} (hS0 : Adv S)
set_option maxHeartbeats 1000000 in
include hS0 in
theorem par_block (hT : TWF ts) (hP : ∀ i w, PEnv pb g cap ts i w → ts.length - i < f → Calls Tryd.prog 81 #[.pointer (some ⟨pb, 0, none⟩)] w (POut pb g cap ts w (QSt w.heap.size) (S i)))
    (h : PEnv pb g cap ts i w) (hi : ts.length - i < f + 1) : Calls Tryd.prog 71 #[.pointer (some ⟨pb, 0, none⟩)] w (POut pb g cap ts w (QSs w.heap.size) (blockW ts S i)) := by
  obtain ⟨R, hr⟩ : ∃ R, R = blockW ts S i := ⟨_, rfl⟩
  rw [← hr]
  unfold blockW at hr
  have R0 := Lib.hid hr
  have hpb := h.pb_lt
  have hil := h.lt
  have S0 := Lib.hid h.ps
  clear hr h
  have HP := Lib.hid hP
  clear hP
  go_enter Tryd.func71, Tryd.ntmps71
  go_wp2_with fail
  refine (par_expect hT _ (by decide) S0.out.env).mono ?_
  intro e w1 ho
  obtain ⟨ch, rfl, hp⟩ | ⟨_, j1, v, rfl, rfl, hS, hr, hs1, hq1⟩ := S0.out.rule ho R0.out
  · exact ⟨rfl, hp⟩
  have hjl1 := hS.env.lt
  have hadv1 := expectP_adv hq1
  clear hq1
  have S1 := Lib.hid hS
  have R1 := Lib.hid hr
  clear hS hr ho R0 S0
  go_wp2_with fail
  go_loopw [3] (fun v wr => BlockRel pb g cap ts S (i + 1) w R v wr) (fun _ wr => ts.length - nextOf pb wr)
  case atStart => exact ⟨j1, _, [], [], none, 0, 0, rfl, (S1.out.row0 rfl 84 6).imp fun A _ => ⟨0, Flat.nil⟩, by omega, by omega, by simp, R1.out⟩
  case round =>
    clear S1 R1
    obtain ⟨j, q, acc, xs, va, vn, vc, rfl, hS, hq, hij, hal, hr⟩ := hrel
    have hnx := Lib.hid hS.env.next_eq
    have hjl := hS.env.lt
    have SS := Lib.hid hS
    obtain ⟨q, rfl⟩ : ∃ q', q = q' + 1 := ⟨q - 1, by omega⟩
    unfold blockLoop at hr
    have RL := Lib.hid hr
    clear hr hS
    obtain ⟨t, ht⟩ : ∃ t, isT ts (j) [125] = t := ⟨_, rfl⟩
    have hr := RL.out
    rw [ht] at hr
    cases t
    rotate_left
    · rw [if_pos rfl] at hr
      have R2y := Lib.hid hr
      have T2y := Lib.hid ht
      clear hr ht RL
      go_wp2_with fail
      refine (accept_true hT ⟨#[125]⟩ (by decide) T2y.out SS.out.env).mono ?_
      rintro e w3 ⟨rfl, hg, hEv⟩
      have hs3 := hg.size
      have hjl3 := hEv.lt
      have S3 := Lib.hid (SS.out.call hg hEv)
      clear hg hEv SS T2y
      go_wp2_with fail
      refine bodyPost_ret (v := .slice va vn vc) ?_ rfl (S3.out.ret R2y.out ⟨_, _, _, rfl, (S3.out.whole (G := fSts acc (.slice va vn vc)) fun A hF hA => fSts.of_row S3.out.wk.row hF hA).wk.fin⟩)
      simp [results, Tryd.results71, go_sem]
    rw [if_neg (by decide)] at hr
    have R2n := Lib.hid hr
    have T2n := Lib.hid ht
    clear hr ht RL
    go_wp2_with fail
    refine (accept_false hT ⟨#[125]⟩ (by decide) T2n.out SS.out.env).mono ?_
    rintro e w4 ⟨rfl, hg, hEv⟩
    have hs4 := hg.size
    have hjl4 := hEv.lt
    have S4 := Lib.hid (SS.out.call hg hEv)
    clear hg hEv SS T2n
    go_wp2_with fail
    refine (HP.out _ _ S4.out.env (by omega)).mono ?_
    intro e w5 ho
    obtain ⟨ch, rfl, hp⟩ | ⟨x, j5, v, rfl, ⟨sk, snm, sty, a1, n1, c1, a2, n2, c2, a3, n3, c3, rfl, hx⟩, hS, hr, hs5, hq5⟩ := S4.out.rule ho R2n.out
    · exact ⟨rfl, hp⟩
    have hjl5 := hS.env.lt
    have hadv5 := hS0 _ _ _ hq5
    clear hq5
    have S5 := Lib.hid (hS.add S4.out (fSt x [.int .i64 sk, .string snm, .string sty, .slice a1 n1 c1, .slice a2 n2 c2, .slice a3 n3 c3]) hx)
    have R5 := Lib.hid hr
    clear hS hr ho R2n S4 hx
    have S6 := Lib.hid (S5.out.alloc0 (.cells #[.int .i64 sk, .string snm, .string sty, .slice a1 n1 c1, .slice a2 n2 c2, .slice a3 n3 c3] 84))
    clear S5
    have hlen := hT.len
    obtain ⟨i0, hi0, hz0, hz1, hz2⟩ := info_parts Tryd.infoSt
    have HI := Lib.hid hi0
    have HZ0 := Lib.hid hz0
    have HZ1 := Lib.hid hz1
    have HZ2 := Lib.hid hz2
    clear hi0 hz0 hz1 hz2
    go_wp2_with (at_builtin; refine wpList_append_lies _ rfl _ _ 64 rfl w.heap.size 84 i0 _ 6 112 Tryd.underlying64 HI.out HZ0.out HZ1.out HZ2.out rfl (by decide) _ _ _ rfl S6.out.wk.row ⟨w5.heap.size, 0, none⟩ 1 1 [.int .i64 sk, .string snm, .string sty, .slice a1 n1 c1, .slice a2 n2 c2, .slice a3 n3 c3] rfl rfl ?c1 (one6 _ _ _ _ _ _ _ _ _ _ _ _) (by decide) ?c3 ?c4 ?c5 _ rfl ?_)
    case c1 => exact World.news_of_block (alloc_last _ _ _ rfl)
    case c3 => show acc.length + 1 ≤ maxLen; unfold maxLen; omega
    case c4 => show (acc.length + 1) * 112 ≤ 140737488355328; omega
    case c5 => exact S6.out.lo_le
    intro g' cp' w7 hown hgrow hat hlt
    have S7 := Lib.hid ((S6.out.append hown hgrow (hat.imp id fun h => h.trans (by simp))).imp (G := fFlatSt (acc ++ [x]) (xs ++ [.int .i64 sk, .string snm, .string sty, .slice a1 n1 c1, .slice a2 n2 c2, .slice a3 n3 c3])) fun A hF => fFlatSt.snoc hF.1 hF.2 rfl)
    have H7 := Lib.hid S7.out.env.next_eq
    clear hown hgrow hat hlt S6
    go_wp2_with fail
    go_roundw
    case rel => exact ⟨j5, q, acc ++ [x], _, some ⟨g', 0, none⟩, acc.length + 1, cp', rfl, by simpa using S7.out, by omega, by omega, by simp; omega, R5.out⟩
    case measure => rw [H7.out, hnx.out]; omega
end
section
variable {pb g cap : Nat} {ts : List Tok} (hT : TWF ts)
include hT
theorem par_block_all : ∀ f i w, PEnv pb g cap ts i w → ts.length - i < f → Calls Tryd.prog 71 #[.pointer (some ⟨pb, 0, none⟩)] w (POut pb g cap ts w (QSs w.heap.size) (blockP ts f i)) := by
  intro f
  induction f with
  | zero => intro i w _ hi; omega
  | succ f ih =>
    intro i w h hi
    cases f with
    | zero =>
      have hS : ∀ i w, PEnv pb g cap ts i w → ts.length - i < 0 → Calls Tryd.prog 81 #[.pointer (some ⟨pb, 0, none⟩)] w (POut pb g cap ts w (QSt w.heap.size) (stmtW ts (blockP ts 0) i)) := fun i w _ hi => by omega
      exact par_block (stmtW_adv (blockP_adv 0)) hT hS h hi
    | succ f =>
      exact par_block (stmtW_adv (blockP_adv (f + 1))) hT (fun i w h hi => par_stmt (blockP_adv (f + 1)) hT ih h hi) h hi
theorem par_block_any {i : Nat} {w : World} (h : PEnv pb g cap ts i w) : Calls Tryd.prog 71 #[.pointer (some ⟨pb, 0, none⟩)] w (POut pb g cap ts w (QSs w.heap.size) (blockT ts i)) :=
  par_block_all hT _ _ _ h (by omega)
end
end Go.Proofs.YthjonkommphkkaaDoor
