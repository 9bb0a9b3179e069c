/-
  The rules field and method, walked (walks printed by genpar2.py).
-/
import Derived.Test.YthjonkommphkkaaDoorParStmt
import Derived.Deep.DrawnRows
import Derived.Deep.RegionLaw
set_option linter.unusedSectionVars false
set_option linter.unusedSimpArgs false
set_option linter.unnecessarySimpa false
set_option linter.unusedVariables false
namespace Go.Proofs.YthjonkommphkkaaDoor
open Lx Go.RowKit
attribute [local go_sem ↓] Go.wp_at_zero Go.wp_at_succ
theorem Tryd.infoFld : (Tryd.prog.info? 62).map (fun i => (i.zero, i.size, i.bytes)) = some (some (.agg #[.string ⟨#[]⟩, .string ⟨#[]⟩]), 2, 32) := by kernel_rfl
theorem bindP_assoc {α β γ : Type} (r : PR α) (k : α → Nat → PR β) (h : β → Nat → PR γ) : bindP (bindP r k) h = bindP r fun a j => bindP (k a j) h := by
  match r with | .error _ => rfl | .ok (_, _) => rfl
theorem one2 (s t : ByteArray) : ∀ u ∈ [Value.string s, .string t], u.oneCell' = true := by
  intro u hu; simp at hu; rcases hu with rfl | rfl <;> rfl
theorem fFlatFld.snoc {A : Nat → Prop} {w : World} {l : List Fld} {xs : List Value} {e : Fld} (h : (fFlatFld l xs).holds A w) : (fFlatFld (l ++ [e]) (xs ++ [.string (strOf e.name), .string (strOf e.typ)])).holds A w := Flat.snoc h rfl rfl
/-- The value of a rule that gives a method. -/
def QMe (lo : Nat) (e : Me) (r : Value) (w' : World) : Prop := ∃ (nm : ByteArray) (sb : Bool) (a1 : Option Addr) (n1 c1 : Nat) (rs : ByteArray) (a2 : Option Addr) (n2 c2 : Nat), r = .agg #[.string nm, .bool sb, .slice a1 n1 c1, .string rs, .slice a2 n2 c2] ∧ (fMe e [.string nm, .bool sb, .slice a1 n1 c1, .string rs, .slice a2 n2 c2]).holds (lo ≤ ·) w'
def QFl (x : Fld) (v : Value) (_ : World) : Prop := v = .agg #[.string (strOf x.name), .string (strOf x.typ)]
/-- Where the loop of parameters stands. -/
def ParamsRel (pb g cap : Nat) (ts : List Tok) (i : Nat) (w : World) (R : PR Me) (n : Bytes) (t : Bool) (mb : Nat) (wr : World) : Prop :=
  ∃ (j q : Nat) (acc : List Fld) (xs : List Value) (va : Option Addr) (vn vc : Nat), PS pb g cap ts w j wr [(mb, .cells #[.string (strOf n), .bool t, .slice va vn vc, .string ⟨#[]⟩, .slice none 0 0] 66), (w.heap.size, .cells #[.string ⟨#[]⟩, .bool false, .slice none 0 0, .string ⟨#[]⟩, .slice none 0 0] 66)] ⟨.slice va vn vc, 62, 2, acc.length, xs⟩ (fFlatFld acc xs) ∧ ts.length - j < q ∧ i ≤ j ∧ acc.length ≤ j ∧ R = bindP (paramsLoop ts q acc j) (fun ps j => bindP (resultP ts j) fun r j => bindP (blockT ts j) fun b j => .ok (⟨n, t, ps, r, b⟩, j))
section
variable {pb g cap : Nat} {ts : List Tok} {i : Nat} {w : World}
set_option maxHeartbeats 1000000 in
theorem par_field (hT : TWF ts) 
    (h : PEnv pb g cap ts i w) : Calls Tryd.prog 55 #[.pointer (some ⟨pb, 0, none⟩)] w (POut pb g cap ts w (QFl) (fieldP ts i)) := by
  obtain ⟨R, hr⟩ : ∃ R, R = fieldP ts i := ⟨_, rfl⟩
  rw [← hr]
  unfold fieldP at hr
  have R0 := Lib.hid hr
  have hpb := h.pb_lt
  have hil := h.lt
  have S0 := Lib.hid h.ps
  clear hr h
  have S1 := Lib.hid (S0.out.alloc (w.heap.size) (by simp) (.cells #[.string ⟨#[]⟩, .string ⟨#[]⟩] 62))
  clear S0
  go_enter Tryd.func55, Tryd.ntmps55
  go_wp2_with fail
  refine (par_expect hT _ (by decide) S1.out.env).mono ?_
  intro e w2 ho
  obtain ⟨ch, rfl, hp⟩ | ⟨_, j2, v, rfl, rfl, hS, hr, hs2, hq2⟩ := S1.out.rule ho R0.out
  · exact ⟨rfl, hp⟩
  have hjl2 := hS.env.lt
  clear hq2
  have S2 := Lib.hid hS
  have R2 := Lib.hid hr
  clear hS hr ho R0 S1
  replace hs2 : w.heap.size + 1 ≤ w2.heap.size := by simp at hs2; omega
  go_wp2_with fail
  refine (par_typed hT S2.out.env).mono ?_
  intro e w3 ho
  obtain ⟨ch, rfl, hp⟩ | ⟨x, j3, v, rfl, rfl, hS, hr, hs3, hq3⟩ := S2.out.rule ho R2.out
  · exact ⟨rfl, hp⟩
  have hjl3 := hS.env.lt
  clear hq3
  have S3 := Lib.hid hS
  have R3 := Lib.hid hr
  clear hS hr ho R2 S2
  have S4 := Lib.hid (S3.out.alloc (w3.heap.size) (by simp) (.cells #[.string (strOf x.name), .string (strOf x.typ)] 62))
  clear S3
  go_wp2_with fail
  refine (par_expect hT _ (by decide) S4.out.env).mono ?_
  intro e w5 ho
  obtain ⟨ch, rfl, hp⟩ | ⟨_, j5, v, rfl, rfl, hS, hr, hs5, hq5⟩ := S4.out.rule ho R3.out
  · exact ⟨rfl, hp⟩
  have hjl5 := hS.env.lt
  clear hq5
  have S5 := Lib.hid hS
  have R5 := Lib.hid hr
  clear hS hr ho R3 S4
  replace hs5 : w3.heap.size + 1 ≤ w5.heap.size := by simp at hs5; omega
  obtain ⟨⟨c6_0, c6_1⟩, z6⟩ := S5.out.cells2 1 rfl
  have l6 := (S5.out.blk 1 rfl).2.1
  obtain ⟨⟨c7_0, c7_1⟩, z7⟩ := S5.out.cells2 0 rfl
  have l7 := (S5.out.blk 0 rfl).2.1
  go_wp2_with fail
  have S8 := Lib.hid (S5.out.set2 1 rfl (.string (strOf x.name)) (.string (strOf x.typ)) [(w3.heap.size, (.cells #[.string (strOf x.name), .string (strOf x.typ)] 62)), (w.heap.size, (.cells #[.string (strOf x.name), .string (strOf x.typ)] 62))] rfl)
  clear S5
  refine bodyPost_ret (v := .agg #[.string (strOf x.name), .string (strOf x.typ)]) ?_ rfl (S8.out.ret R5.out rfl)
  simp [results, Tryd.results55, go_sem, c6_0, c6_1]
set_option maxHeartbeats 4000000 in
theorem par_method (hT : TWF ts) 
    (h : PEnv pb g cap ts i w) : Calls Tryd.prog 56 #[.pointer (some ⟨pb, 0, none⟩)] w (POut pb g cap ts w (QMe w.heap.size) (methodP ts i)) := by
  obtain ⟨R, hr⟩ : ∃ R, R = methodP ts i := ⟨_, rfl⟩
  rw [← hr]
  unfold methodP at hr
  have R0 := Lib.hid hr
  have hpb := h.pb_lt
  have hil := h.lt
  have S0 := Lib.hid h.ps
  clear hr h
  have S1 := Lib.hid (S0.out.alloc (w.heap.size) (by simp) (.cells #[.string ⟨#[]⟩, .bool false, .slice none 0 0, .string ⟨#[]⟩, .slice none 0 0] 66))
  clear S0
  have S2 := Lib.hid (S1.out.alloc (w.heap.size + 1) (by simp) (.cells #[.string ⟨#[]⟩, .bool false, .slice none 0 0, .string ⟨#[]⟩, .slice none 0 0] 66))
  clear S1
  obtain ⟨t, ht⟩ : ∃ t, isT ts i [115, 116, 97, 116, 105, 99] = t := ⟨_, rfl⟩
  have hp := par_accept hT ⟨#[115, 116, 97, 116, 105, 99]⟩ (by decide) S2.out.env
  have ht' : isT ts i (⟨#[115, 116, 97, 116, 105, 99]⟩ : ByteArray).data.toList = t := ht
  rw [ht'] at hp
  have hr := R0.out
  rw [ht] at hr
  obtain ⟨j0, hj0⟩ : ∃ j0, (if t = true then i + 1 else i) = j0 := ⟨_, rfl⟩
  have hij0 : i ≤ j0 := by rw [← hj0]; split <;> omega
  rw [hj0] at hp hr
  have PA := Lib.hid hp
  have R1 := Lib.hid hr
  clear hp hr ht ht' hj0 R0
  go_enter Tryd.func56, Tryd.ntmps56
  go_wp2_with fail
  refine PA.out.mono ?_
  rintro e w3 ⟨rfl, hg, hEv⟩
  have hs3 := hg.size
  have hjl3 := hEv.lt
  have S3 := Lib.hid (S2.out.call hg hEv)
  clear hg hEv PA S2
  replace hs3 : w.heap.size + 1 + 1 ≤ w3.heap.size := by simp at hs3; omega
  obtain ⟨⟨c11_0, c11_1, c11_2, c11_3, c11_4⟩, z11⟩ := S3.out.cells5 0 rfl
  have l11 := (S3.out.blk 0 rfl).2.1
  go_wp2_with fail
  have S12 := Lib.hid (S3.out.setTo 0 rfl 1 (.bool t) #[.string ⟨#[]⟩, .bool t, .slice none 0 0, .string ⟨#[]⟩, .slice none 0 0] rfl [(w.heap.size + 1, (.cells #[.string ⟨#[]⟩, .bool t, .slice none 0 0, .string ⟨#[]⟩, .slice none 0 0] 66)), (w.heap.size, (.cells #[.string ⟨#[]⟩, .bool false, .slice none 0 0, .string ⟨#[]⟩, .slice none 0 0] 66))] rfl)
  clear S3
  refine (par_expect hT _ (by decide) S12.out.env).mono ?_
  intro e w13 ho
  obtain ⟨ch, rfl, hp⟩ | ⟨_, j13, v, rfl, rfl, hS, hr, hs13, hq13⟩ := S12.out.rule ho R1.out
  · exact ⟨rfl, hp⟩
  have hjl13 := hS.env.lt
  have hadv13 := expectP_adv hq13
  clear hq13
  clear c11_0 c11_1 c11_2 c11_3 c11_4 z11 l11
  have S13 := Lib.hid hS
  have R13 := Lib.hid hr
  clear hS hr ho R1 S12
  replace hs13 : w3.heap.size ≤ w13.heap.size := by simp at hs13; omega
  go_wp2_with fail
  refine (par_name hT S13.out.env).mono ?_
  intro e w14 ho
  obtain ⟨ch, rfl, hp⟩ | ⟨n, j14, v, rfl, rfl, hS, hr, hs14, hq14⟩ := S13.out.rule ho R13.out
  · exact ⟨rfl, hp⟩
  have hjl14 := hS.env.lt
  have hadv14 := nameP_adv hq14
  clear hq14
  have S14 := Lib.hid hS
  have R14 := Lib.hid hr
  clear hS hr ho R13 S13
  obtain ⟨⟨c15_0, c15_1, c15_2, c15_3, c15_4⟩, z15⟩ := S14.out.cells5 0 rfl
  have l15 := (S14.out.blk 0 rfl).2.1
  go_wp2_with fail
  have S16 := Lib.hid (S14.out.setTo 0 rfl 0 (.string (strOf n)) #[.string (strOf n), .bool t, .slice none 0 0, .string ⟨#[]⟩, .slice none 0 0] rfl [(w.heap.size + 1, (.cells #[.string (strOf n), .bool t, .slice none 0 0, .string ⟨#[]⟩, .slice none 0 0] 66)), (w.heap.size, (.cells #[.string ⟨#[]⟩, .bool false, .slice none 0 0, .string ⟨#[]⟩, .slice none 0 0] 66))] rfl)
  clear S14
  refine (par_expect hT _ (by decide) S16.out.env).mono ?_
  intro e w17 ho
  obtain ⟨ch, rfl, hp⟩ | ⟨_, j17, v, rfl, rfl, hS, hr, hs17, hq17⟩ := S16.out.rule ho R14.out
  · exact ⟨rfl, hp⟩
  have hjl17 := hS.env.lt
  have hadv17 := expectP_adv hq17
  clear hq17
  clear c15_0 c15_1 c15_2 c15_3 c15_4 z15 l15
  have S17 := Lib.hid hS
  have R17 := Lib.hid hr
  clear hS hr ho R14 S16
  replace hs17 : w14.heap.size ≤ w17.heap.size := by simp at hs17; omega
  have hr := R17.out
  unfold paramsP at hr
  have R18 := Lib.hid hr
  clear hr R17
  obtain ⟨t, ht⟩ : ∃ t, isT ts (j17) [41] = t := ⟨_, rfl⟩
  have hr := R18.out
  rw [ht] at hr
  cases t
  rotate_left
  · rw [if_pos rfl] at hr
    have R19y := Lib.hid hr
    have T19y := Lib.hid ht
    clear hr ht R18
    have hr := R19y.out
    rw [bindP_ok] at hr
    have R20 := Lib.hid hr
    clear hr R19y
    go_wp2_with fail
    refine (accept_true hT ⟨#[41]⟩ (by decide) T19y.out S17.out.env).mono ?_
    rintro e w21 ⟨rfl, hg, hEv⟩
    have hs21 := hg.size
    have hjl21 := hEv.lt
    have S21 := Lib.hid (S17.out.call hg hEv)
    clear hg hEv S17 T19y
    go_wp2_with fail
    have hr := R20.out
    unfold resultP at hr
    have R22 := Lib.hid hr
    clear hr R20
    obtain ⟨t, ht⟩ : ∃ t, isT ts (j17 + 1) [58] = t := ⟨_, rfl⟩
    have hr := R22.out
    rw [ht] at hr
    cases t
    rotate_left
    · rw [if_pos rfl] at hr
      have R23y := Lib.hid hr
      have T23y := Lib.hid ht
      clear hr ht R22
      go_wp2_with fail
      refine (accept_true hT ⟨#[58]⟩ (by decide) T23y.out S21.out.env).mono ?_
      rintro e w24 ⟨rfl, hg, hEv⟩
      have hs24 := hg.size
      have hjl24 := hEv.lt
      have S24 := Lib.hid (S21.out.call hg hEv)
      clear hg hEv S21 T23y
      go_wp2_with fail
      refine (par_typ hT S24.out.env).mono ?_
      intro e w25 ho
      obtain ⟨ch, rfl, hp⟩ | ⟨rs, j25, v, rfl, rfl, hS, hr, hs25, hq25⟩ := S24.out.rule ho R23y.out
      · exact ⟨rfl, hp⟩
      have hjl25 := hS.env.lt
      clear hq25
      have S25 := Lib.hid hS
      have R25 := Lib.hid hr
      clear hS hr ho R23y S24
      obtain ⟨⟨c26_0, c26_1, c26_2, c26_3, c26_4⟩, z26⟩ := S25.out.cells5 0 rfl
      have l26 := (S25.out.blk 0 rfl).2.1
      go_wp2_with fail
      have S27 := Lib.hid (S25.out.setTo 0 rfl 3 (.string (strOf rs)) #[.string (strOf n), .bool t, .slice none 0 0, .string (strOf rs), .slice none 0 0] rfl [(w.heap.size + 1, (.cells #[.string (strOf n), .bool t, .slice none 0 0, .string (strOf rs), .slice none 0 0] 66)), (w.heap.size, (.cells #[.string ⟨#[]⟩, .bool false, .slice none 0 0, .string ⟨#[]⟩, .slice none 0 0] 66))] rfl)
      clear S25
      refine (par_block_any hT S27.out.env).mono ?_
      intro e w28 ho
      obtain ⟨ch, rfl, hp⟩ | ⟨bd, j28, v, rfl, ⟨a2, n2, c2, rfl, hx⟩, hS, hr, hs28, hq28⟩ := S27.out.rule ho R25.out
      · exact ⟨rfl, hp⟩
      have hjl28 := hS.env.lt
      clear hq28
      clear c26_0 c26_1 c26_2 c26_3 c26_4 z26 l26
      have S28 := Lib.hid (hS.add S27.out (fSts bd (.slice a2 n2 c2)) hx)
      have R28 := Lib.hid hr
      clear hS hr ho R25 S27 hx
      replace hs28 : w25.heap.size ≤ w28.heap.size := by simp at hs28; omega
      obtain ⟨⟨c29_0, c29_1, c29_2, c29_3, c29_4⟩, z29⟩ := S28.out.cells5 0 rfl
      have l29 := (S28.out.blk 0 rfl).2.1
      obtain ⟨⟨c30_0, c30_1, c30_2, c30_3, c30_4⟩, z30⟩ := S28.out.cells5 1 rfl
      have l30 := (S28.out.blk 1 rfl).2.1
      go_wp2_with fail
      have S31 := Lib.hid (S28.out.setTo 0 rfl 4 (.slice a2 n2 c2) #[.string (strOf n), .bool t, .slice none 0 0, .string (strOf rs), .slice a2 n2 c2] rfl [(w.heap.size + 1, (.cells #[.string (strOf n), .bool t, .slice none 0 0, .string (strOf rs), .slice a2 n2 c2] 66)), (w.heap.size, (.cells #[.string ⟨#[]⟩, .bool false, .slice none 0 0, .string ⟨#[]⟩, .slice none 0 0] 66))] rfl)
      clear S28
      have S32 := Lib.hid (S31.out.set5 1 rfl (.string (strOf n)) (.bool t) (.slice none 0 0) (.string (strOf rs)) (.slice a2 n2 c2) [(w.heap.size + 1, (.cells #[.string (strOf n), .bool t, .slice none 0 0, .string (strOf rs), .slice a2 n2 c2] 66)), (w.heap.size, (.cells #[.string (strOf n), .bool t, .slice none 0 0, .string (strOf rs), .slice a2 n2 c2] 66))] rfl)
      clear S31
      refine bodyPost_ret (v := .agg #[.string (strOf n), .bool t, .slice none 0 0, .string (strOf rs), .slice a2 n2 c2]) ?_ rfl (S32.out.ret R28.out ⟨_, _, _, _, _, _, _, _, _, rfl, fMe.mk (rs := rs) (⟨Nat.zero_le _, .inl ⟨rfl, _, _, rfl⟩⟩) S32.out.wk.fin.2⟩)
      simp [results, Tryd.results56, go_sem, c30_0, c30_1, c30_2, c30_3, c30_4]
    rw [if_neg (by decide)] at hr
    have R23n := Lib.hid hr
    have T23n := Lib.hid ht
    clear hr ht R22
    have hr := R23n.out
    rw [bindP_ok] at hr
    have R33 := Lib.hid hr
    clear hr R23n
    go_wp2_with fail
    refine (accept_false hT ⟨#[58]⟩ (by decide) T23n.out S21.out.env).mono ?_
    rintro e w34 ⟨rfl, hg, hEv⟩
    have hs34 := hg.size
    have hjl34 := hEv.lt
    have S34 := Lib.hid (S21.out.call hg hEv)
    clear hg hEv S21 T23n
    go_wp2_with fail
    refine (par_block_any hT S34.out.env).mono ?_
    intro e w35 ho
    obtain ⟨ch, rfl, hp⟩ | ⟨bd, j35, v, rfl, ⟨a2, n2, c2, rfl, hx⟩, hS, hr, hs35, hq35⟩ := S34.out.rule ho R33.out
    · exact ⟨rfl, hp⟩
    have hjl35 := hS.env.lt
    clear hq35
    have S35 := Lib.hid (hS.add S34.out (fSts bd (.slice a2 n2 c2)) hx)
    have R35 := Lib.hid hr
    clear hS hr ho R33 S34 hx
    obtain ⟨⟨c36_0, c36_1, c36_2, c36_3, c36_4⟩, z36⟩ := S35.out.cells5 0 rfl
    have l36 := (S35.out.blk 0 rfl).2.1
    obtain ⟨⟨c37_0, c37_1, c37_2, c37_3, c37_4⟩, z37⟩ := S35.out.cells5 1 rfl
    have l37 := (S35.out.blk 1 rfl).2.1
    go_wp2_with fail
    have S38 := Lib.hid (S35.out.setTo 0 rfl 4 (.slice a2 n2 c2) #[.string (strOf n), .bool t, .slice none 0 0, .string ⟨#[]⟩, .slice a2 n2 c2] rfl [(w.heap.size + 1, (.cells #[.string (strOf n), .bool t, .slice none 0 0, .string ⟨#[]⟩, .slice a2 n2 c2] 66)), (w.heap.size, (.cells #[.string ⟨#[]⟩, .bool false, .slice none 0 0, .string ⟨#[]⟩, .slice none 0 0] 66))] rfl)
    clear S35
    have S39 := Lib.hid (S38.out.set5 1 rfl (.string (strOf n)) (.bool t) (.slice none 0 0) (.string ⟨#[]⟩) (.slice a2 n2 c2) [(w.heap.size + 1, (.cells #[.string (strOf n), .bool t, .slice none 0 0, .string ⟨#[]⟩, .slice a2 n2 c2] 66)), (w.heap.size, (.cells #[.string (strOf n), .bool t, .slice none 0 0, .string ⟨#[]⟩, .slice a2 n2 c2] 66))] rfl)
    clear S38
    refine bodyPost_ret (v := .agg #[.string (strOf n), .bool t, .slice none 0 0, .string ⟨#[]⟩, .slice a2 n2 c2]) ?_ rfl (S39.out.ret R35.out ⟨_, _, _, _, _, _, _, _, _, rfl, fMe.mk (rs := []) (⟨Nat.zero_le _, .inl ⟨rfl, _, _, rfl⟩⟩) S39.out.wk.fin.2⟩)
    simp [results, Tryd.results56, go_sem, c37_0, c37_1, c37_2, c37_3, c37_4]
  rw [if_neg (by decide)] at hr
  have R19n := Lib.hid hr
  have T19n := Lib.hid ht
  clear hr ht R18
  have hr := R19n.out
  rw [bindP_assoc] at hr
  have R40 := Lib.hid hr
  clear hr R19n
  go_wp2_with fail
  refine (accept_false hT ⟨#[41]⟩ (by decide) T19n.out S17.out.env).mono ?_
  rintro e w41 ⟨rfl, hg, hEv⟩
  have hs41 := hg.size
  have hjl41 := hEv.lt
  have S41 := Lib.hid (S17.out.call hg hEv)
  clear hg hEv S17 T19n
  have S42 := Lib.hid ((S41.out.row0 rfl 62 2).imp (G := fFlatFld [] []) fun A _ => Flat.nil)
  clear S41
  obtain ⟨acc, hacc⟩ : ∃ acc : List Fld, acc = [] := ⟨_, rfl⟩
  have hacc0 : acc.length = 0 := by rw [hacc]; rfl
  have S42b : Hid (PS pb g cap ts w (j17) w41 [(w.heap.size + 1, (.cells #[.string (strOf n), .bool t, .slice none 0 0, .string ⟨#[]⟩, .slice none 0 0] 66)), (w.heap.size, (.cells #[.string ⟨#[]⟩, .bool false, .slice none 0 0, .string ⟨#[]⟩, .slice none 0 0] 66))] ⟨.slice none 0 0, 62, 2, acc.length, []⟩ (fFlatFld acc [])) := by rw [hacc]; exact S42.out
  clear S42
  have HACC := Lib.hid hacc
  clear hacc
  obtain ⟨⟨c43_0, c43_1, c43_2, c43_3, c43_4⟩, z43⟩ := S42b.out.cells5 0 rfl
  have l43 := (S42b.out.blk 0 rfl).2.1
  have S44 := Lib.hid (S42b.out.drew)
  clear S42b
  have hlen := hT.len
  obtain ⟨i0, hi0, hz0, hz1, hz2⟩ := info_parts Tryd.infoFld
  have HI := Lib.hid hi0
  have HZ0 := Lib.hid hz0
  have HZ1 := Lib.hid hz1
  have HZ2 := Lib.hid hz2
  clear hi0 hz0 hz1 hz2
  go_wp2_with fail
  go_region_law (first
    | (have tok := SE
       clear tok
       refine step_append_lies _ (by rfl) (.tmp 18) (.tmp 21) 39 (by rfl) w.heap.size 62 i0 _ 2 32 Tryd.underlying39 HI.out HZ0.out HZ1.out HZ2.out rfl (by decide) _ _ _ (by rfl) SE.out.wk.row ⟨w45.heap.size, 0, none⟩ 1 1 [.string (strOf x.name), .string (strOf x.typ)] (by rfl) (by rfl) (World.news_of_block (alloc_last _ _ _ rfl)) (one2 _ _) (by decide) (by show acc.length + 1 ≤ maxLen; unfold maxLen; omega) (by show (acc.length + 1) * 32 ≤ 140737488355328; omega) SE.out.lo_le _ rfl ?_
       intro g' cp' w7 hown hgrow hat hlt
       have S7 := Lib.hid ((SE.out.append hown hgrow (hat.imp id fun h => h.trans (by simp))).imp (G := fFlatFld (acc ++ [x]) ([] ++ [.string (strOf x.name), .string (strOf x.typ)])) fun A hF => fFlatFld.snoc hF)
       obtain ⟨⟨g0, g1, g2, g3, g4⟩, gf⟩ := S7.out.cells5 0 rfl
       have gl := (S7.out.blk 0 rfl).2.1
       clear hown hgrow hat hlt SE q0 q1 q2 q3 q4 qf ql)
    | (go_simp
       go_at_call 69
       refine (par_typed hT S44.out.env).mono ?_
       intro e w45 ho
       obtain ⟨ch, rfl, hp⟩ | ⟨x, j45, v, rfl, rfl, hS, hr, hs45, hq45⟩ := S44.out.rule ho R40.out
       · exact ⟨rfl, hp⟩
       have hadv45 := typedP_adv hq45
       have hjl45 := hS.env.lt
       have SE := Lib.hid (hS.alloc0 (.cells #[.string (strOf x.name), .string (strOf x.typ)] 62))
       have R45 := Lib.hid hr
       replace hs45 : w41.heap.size ≤ w45.heap.size := by simp at hs45; omega
       obtain ⟨⟨q0, q1, q2, q3, q4⟩, qf⟩ := hS.cells5 0 rfl
       have ql := (hS.blk 0 rfl).2.1
       clear hr ho hq45 hS))
  all_goals
    clear g0 g1 g2 g3 g4 gf gl
    go_wp2_with fail
    have S46 := Lib.hid (S7.out.setTo 0 rfl 2 (.slice (some ⟨g', 0, none⟩) (acc.length + 1) cp') #[.string (strOf n), .bool t, .slice (some ⟨g', 0, none⟩) (acc.length + 1) cp', .string ⟨#[]⟩, .slice none 0 0] rfl [(w.heap.size + 1, (.cells #[.string (strOf n), .bool t, .slice (some ⟨g', 0, none⟩) (acc.length + 1) cp', .string ⟨#[]⟩, .slice none 0 0] 66)), (w.heap.size, (.cells #[.string ⟨#[]⟩, .bool false, .slice none 0 0, .string ⟨#[]⟩, .slice none 0 0] 66))] rfl)
    clear S7
    obtain rfl := HACC.out
    clear HACC hacc0
    go_loopw [] (fun wr => ParamsRel pb g cap ts i w R n t (w.heap.size + 1) wr) (fun wr => ts.length - nextOf pb wr)
    case atStart => exact ⟨j45, _, [x], _, some ⟨g', 0, none⟩, 1, cp', by simpa using S46.out, by omega, by omega, by simp; omega, R45.out⟩
    case round =>
      clear S46 R45
      obtain ⟨j, q, acc, xs, va, vn, vc, hS, hq, hij, hal, hr⟩ := hrel
      have hnx := Lib.hid hS.env.next_eq
      have hjl := hS.env.lt
      have SS := Lib.hid hS
      obtain ⟨q, rfl⟩ : ∃ q', q = q' + 1 := ⟨q - 1, by omega⟩
      unfold paramsLoop at hr
      have RL := Lib.hid hr
      clear hr hS
      obtain ⟨t, ht⟩ : ∃ t, isT ts (j) [44] = t := ⟨_, rfl⟩
      have hr := RL.out
      rw [ht] at hr
      cases t
      rotate_left
      · rw [if_pos rfl] at hr
        have R47y := Lib.hid hr
        have T47y := Lib.hid ht
        clear hr ht RL
        have hr := R47y.out
        rw [bindP_assoc] at hr
        have R48 := Lib.hid hr
        clear hr R47y
        go_wp2_with fail
        refine (accept_true hT ⟨#[44]⟩ (by decide) T47y.out SS.out.env).mono ?_
        rintro e w49 ⟨rfl, hg, hEv⟩
        have hs49 := hg.size
        have hjl49 := hEv.lt
        have S49 := Lib.hid (SS.out.call hg hEv)
        clear hg hEv SS T47y
        obtain ⟨⟨c50_0, c50_1, c50_2, c50_3, c50_4⟩, z50⟩ := S49.out.cells5 0 rfl
        have l50 := (S49.out.blk 0 rfl).2.1
        have S51 := Lib.hid (S49.out.drew)
        clear S49
        have hlen := hT.len
        obtain ⟨i0, hi0, hz0, hz1, hz2⟩ := info_parts Tryd.infoFld
        have HI := Lib.hid hi0
        have HZ0 := Lib.hid hz0
        have HZ1 := Lib.hid hz1
        have HZ2 := Lib.hid hz2
        clear hi0 hz0 hz1 hz2
        go_wp2_with fail
        go_region_law (first
          | (have tok := SE
             clear tok
             refine step_append_lies _ (by rfl) (.tmp 27) (.tmp 30) 39 (by rfl) w.heap.size 62 i0 _ 2 32 Tryd.underlying39 HI.out HZ0.out HZ1.out HZ2.out rfl (by decide) _ _ _ (by rfl) SE.out.wk.row ⟨w52.heap.size, 0, none⟩ 1 1 [.string (strOf x.name), .string (strOf x.typ)] (by rfl) (by rfl) (World.news_of_block (alloc_last _ _ _ rfl)) (one2 _ _) (by decide) (by show acc.length + 1 ≤ maxLen; unfold maxLen; omega) (by show (acc.length + 1) * 32 ≤ 140737488355328; omega) SE.out.lo_le _ rfl ?_
             intro g' cp' w7 hown hgrow hat hlt
             have S7 := Lib.hid ((SE.out.append hown hgrow (hat.imp id fun h => h.trans (by simp))).imp (G := fFlatFld (acc ++ [x]) (xs ++ [.string (strOf x.name), .string (strOf x.typ)])) fun A hF => fFlatFld.snoc hF)
             obtain ⟨⟨g0, g1, g2, g3, g4⟩, gf⟩ := S7.out.cells5 0 rfl
             have gl := (S7.out.blk 0 rfl).2.1
             clear hown hgrow hat hlt SE q0 q1 q2 q3 q4 qf ql)
          | (go_simp
             go_at_call 69
             refine (par_typed hT S51.out.env).mono ?_
             intro e w52 ho
             obtain ⟨ch, rfl, hp⟩ | ⟨x, j52, v, rfl, rfl, hS, hr, hs52, hq52⟩ := S51.out.rule ho R48.out
             · exact ⟨rfl, hp⟩
             have hadv52 := typedP_adv hq52
             have hjl52 := hS.env.lt
             have SE := Lib.hid (hS.alloc0 (.cells #[.string (strOf x.name), .string (strOf x.typ)] 62))
             have R52 := Lib.hid hr
             replace hs52 : w49.heap.size ≤ w52.heap.size := by simp at hs52; omega
             obtain ⟨⟨q0, q1, q2, q3, q4⟩, qf⟩ := hS.cells5 0 rfl
             have ql := (hS.blk 0 rfl).2.1
             clear hr ho hq52 hS))
        all_goals
          clear g0 g1 g2 g3 g4 gf gl
          go_wp2_with fail
          have S53 := Lib.hid (S7.out.setTo 0 rfl 2 (.slice (some ⟨g', 0, none⟩) (acc.length + 1) cp') #[.string (strOf n), .bool t, .slice (some ⟨g', 0, none⟩) (acc.length + 1) cp', .string ⟨#[]⟩, .slice none 0 0] rfl [(w.heap.size + 1, (.cells #[.string (strOf n), .bool t, .slice (some ⟨g', 0, none⟩) (acc.length + 1) cp', .string ⟨#[]⟩, .slice none 0 0] 66)), (w.heap.size, (.cells #[.string ⟨#[]⟩, .bool false, .slice none 0 0, .string ⟨#[]⟩, .slice none 0 0] 66))] rfl)
          clear S7
          have H7 := Lib.hid S53.out.env.next_eq
          go_roundw
          case rel => exact ⟨j52, q, acc ++ [x], _, some ⟨g', 0, none⟩, acc.length + 1, cp', by simpa using S53.out, by omega, by omega, by simp; omega, R52.out⟩
          case measure => rw [H7.out, hnx.out]; omega
      rw [if_neg (by decide)] at hr
      have R47n := Lib.hid hr
      have T47n := Lib.hid ht
      clear hr ht RL
      have hr := R47n.out
      rw [bindP_assoc] at hr
      have R54 := Lib.hid hr
      clear hr R47n
      go_wp2_with fail
      refine (accept_false hT ⟨#[44]⟩ (by decide) T47n.out SS.out.env).mono ?_
      rintro e w55 ⟨rfl, hg, hEv⟩
      have hs55 := hg.size
      have hjl55 := hEv.lt
      have S55 := Lib.hid (SS.out.call hg hEv)
      clear hg hEv SS T47n
      go_wp2_with fail
      refine (par_expect hT _ (by decide) S55.out.env).mono ?_
      intro e w56 ho
      obtain ⟨ch, rfl, hp⟩ | ⟨_, j56, v, rfl, rfl, hS, hr, hs56, hq56⟩ := S55.out.rule ho R54.out
      · exact ⟨rfl, hp⟩
      have hjl56 := hS.env.lt
      clear hq56
      have S56 := Lib.hid hS
      have R56 := Lib.hid hr
      clear hS hr ho R54 S55
      have hr := R56.out
      rw [bindP_ok] at hr
      have R57 := Lib.hid hr
      clear hr R56
      have S58 := Lib.hid (S56.out.whole (G := fFlds acc (.slice va vn vc)) fun A hF hA => fFlds.of_row S56.out.wk.row hF hA)
      clear S56
      go_wp2_with fail
      have hr := R57.out
      unfold resultP at hr
      have R59 := Lib.hid hr
      clear hr R57
      obtain ⟨t, ht⟩ : ∃ t, isT ts (j56) [58] = t := ⟨_, rfl⟩
      have hr := R59.out
      rw [ht] at hr
      cases t
      rotate_left
      · rw [if_pos rfl] at hr
        have R60y := Lib.hid hr
        have T60y := Lib.hid ht
        clear hr ht R59
        go_wp2_with fail
        refine (accept_true hT ⟨#[58]⟩ (by decide) T60y.out S58.out.env).mono ?_
        rintro e w61 ⟨rfl, hg, hEv⟩
        have hs61 := hg.size
        have hjl61 := hEv.lt
        have S61 := Lib.hid (S58.out.call hg hEv)
        clear hg hEv S58 T60y
        go_wp2_with fail
        refine (par_typ hT S61.out.env).mono ?_
        intro e w62 ho
        obtain ⟨ch, rfl, hp⟩ | ⟨rs, j62, v, rfl, rfl, hS, hr, hs62, hq62⟩ := S61.out.rule ho R60y.out
        · exact ⟨rfl, hp⟩
        have hjl62 := hS.env.lt
        clear hq62
        have S62 := Lib.hid hS
        have R62 := Lib.hid hr
        clear hS hr ho R60y S61
        obtain ⟨⟨c63_0, c63_1, c63_2, c63_3, c63_4⟩, z63⟩ := S62.out.cells5 0 rfl
        have l63 := (S62.out.blk 0 rfl).2.1
        go_wp2_with fail
        have S64 := Lib.hid (S62.out.setTo 0 rfl 3 (.string (strOf rs)) #[.string (strOf n), .bool t, .slice va vn vc, .string (strOf rs), .slice none 0 0] rfl [(w.heap.size + 1, (.cells #[.string (strOf n), .bool t, .slice va vn vc, .string (strOf rs), .slice none 0 0] 66)), (w.heap.size, (.cells #[.string ⟨#[]⟩, .bool false, .slice none 0 0, .string ⟨#[]⟩, .slice none 0 0] 66))] rfl)
        clear S62
        refine (par_block_any hT S64.out.env).mono ?_
        intro e w65 ho
        obtain ⟨ch, rfl, hp⟩ | ⟨bd, j65, v, rfl, ⟨a2, n2, c2, rfl, hx⟩, hS, hr, hs65, hq65⟩ := S64.out.rule ho R62.out
        · exact ⟨rfl, hp⟩
        have hjl65 := hS.env.lt
        clear hq65
        clear c63_0 c63_1 c63_2 c63_3 c63_4 z63 l63
        have S65 := Lib.hid (hS.add S64.out (fSts bd (.slice a2 n2 c2)) hx)
        have R65 := Lib.hid hr
        clear hS hr ho R62 S64 hx
        replace hs65 : w62.heap.size ≤ w65.heap.size := by simp at hs65; omega
        obtain ⟨⟨c66_0, c66_1, c66_2, c66_3, c66_4⟩, z66⟩ := S65.out.cells5 0 rfl
        have l66 := (S65.out.blk 0 rfl).2.1
        obtain ⟨⟨c67_0, c67_1, c67_2, c67_3, c67_4⟩, z67⟩ := S65.out.cells5 1 rfl
        have l67 := (S65.out.blk 1 rfl).2.1
        go_wp2_with fail
        have S68 := Lib.hid (S65.out.setTo 0 rfl 4 (.slice a2 n2 c2) #[.string (strOf n), .bool t, .slice va vn vc, .string (strOf rs), .slice a2 n2 c2] rfl [(w.heap.size + 1, (.cells #[.string (strOf n), .bool t, .slice va vn vc, .string (strOf rs), .slice a2 n2 c2] 66)), (w.heap.size, (.cells #[.string ⟨#[]⟩, .bool false, .slice none 0 0, .string ⟨#[]⟩, .slice none 0 0] 66))] rfl)
        clear S65
        have S69 := Lib.hid (S68.out.set5 1 rfl (.string (strOf n)) (.bool t) (.slice va vn vc) (.string (strOf rs)) (.slice a2 n2 c2) [(w.heap.size + 1, (.cells #[.string (strOf n), .bool t, .slice va vn vc, .string (strOf rs), .slice a2 n2 c2] 66)), (w.heap.size, (.cells #[.string (strOf n), .bool t, .slice va vn vc, .string (strOf rs), .slice a2 n2 c2] 66))] rfl)
        clear S68
        refine bodyPost_ret (v := .agg #[.string (strOf n), .bool t, .slice va vn vc, .string (strOf rs), .slice a2 n2 c2]) ?_ rfl (S69.out.ret R65.out ⟨_, _, _, _, _, _, _, _, _, rfl, fMe.mk (rs := rs) (S69.out.wk.fin.1) S69.out.wk.fin.2⟩)
        simp [results, Tryd.results56, go_sem, c67_0, c67_1, c67_2, c67_3, c67_4]
      rw [if_neg (by decide)] at hr
      have R60n := Lib.hid hr
      have T60n := Lib.hid ht
      clear hr ht R59
      have hr := R60n.out
      rw [bindP_ok] at hr
      have R70 := Lib.hid hr
      clear hr R60n
      go_wp2_with fail
      refine (accept_false hT ⟨#[58]⟩ (by decide) T60n.out S58.out.env).mono ?_
      rintro e w71 ⟨rfl, hg, hEv⟩
      have hs71 := hg.size
      have hjl71 := hEv.lt
      have S71 := Lib.hid (S58.out.call hg hEv)
      clear hg hEv S58 T60n
      go_wp2_with fail
      refine (par_block_any hT S71.out.env).mono ?_
      intro e w72 ho
      obtain ⟨ch, rfl, hp⟩ | ⟨bd, j72, v, rfl, ⟨a2, n2, c2, rfl, hx⟩, hS, hr, hs72, hq72⟩ := S71.out.rule ho R70.out
      · exact ⟨rfl, hp⟩
      have hjl72 := hS.env.lt
      clear hq72
      have S72 := Lib.hid (hS.add S71.out (fSts bd (.slice a2 n2 c2)) hx)
      have R72 := Lib.hid hr
      clear hS hr ho R70 S71 hx
      obtain ⟨⟨c73_0, c73_1, c73_2, c73_3, c73_4⟩, z73⟩ := S72.out.cells5 0 rfl
      have l73 := (S72.out.blk 0 rfl).2.1
      obtain ⟨⟨c74_0, c74_1, c74_2, c74_3, c74_4⟩, z74⟩ := S72.out.cells5 1 rfl
      have l74 := (S72.out.blk 1 rfl).2.1
      go_wp2_with fail
      have S75 := Lib.hid (S72.out.setTo 0 rfl 4 (.slice a2 n2 c2) #[.string (strOf n), .bool t, .slice va vn vc, .string ⟨#[]⟩, .slice a2 n2 c2] rfl [(w.heap.size + 1, (.cells #[.string (strOf n), .bool t, .slice va vn vc, .string ⟨#[]⟩, .slice a2 n2 c2] 66)), (w.heap.size, (.cells #[.string ⟨#[]⟩, .bool false, .slice none 0 0, .string ⟨#[]⟩, .slice none 0 0] 66))] rfl)
      clear S72
      have S76 := Lib.hid (S75.out.set5 1 rfl (.string (strOf n)) (.bool t) (.slice va vn vc) (.string ⟨#[]⟩) (.slice a2 n2 c2) [(w.heap.size + 1, (.cells #[.string (strOf n), .bool t, .slice va vn vc, .string ⟨#[]⟩, .slice a2 n2 c2] 66)), (w.heap.size, (.cells #[.string (strOf n), .bool t, .slice va vn vc, .string ⟨#[]⟩, .slice a2 n2 c2] 66))] rfl)
      clear S75
      refine bodyPost_ret (v := .agg #[.string (strOf n), .bool t, .slice va vn vc, .string ⟨#[]⟩, .slice a2 n2 c2]) ?_ rfl (S76.out.ret R72.out ⟨_, _, _, _, _, _, _, _, _, rfl, fMe.mk (rs := []) (S76.out.wk.fin.1) S76.out.wk.fin.2⟩)
      simp [results, Tryd.results56, go_sem, c74_0, c74_1, c74_2, c74_3, c74_4]
end
end Go.Proofs.YthjonkommphkkaaDoor
namespace Go.Proofs.YthjonkommphkkaaDoor
open Lx Go.RowKit
attribute [local go_sem ↓] Go.wp_at_zero Go.wp_at_succ
theorem Tryd.infoMe : (Tryd.prog.info? 66).map (fun i => (i.zero, i.size, i.bytes)) = some (some (.agg #[.string ⟨#[]⟩, .bool false, .slice none 0 0, .string ⟨#[]⟩, .slice none 0 0]), 5, 88) := by kernel_rfl
theorem Tryd.infoCl : (Tryd.prog.info? 42).map (fun i => (i.zero, i.size, i.bytes)) = some (some (.agg #[.string ⟨#[]⟩, .string ⟨#[]⟩, .slice none 0 0, .slice none 0 0]), 4, 80) := by kernel_rfl
theorem oneM (nm : ByteArray) (sb : Bool) (a1 : Option Addr) (n1 c1 : Nat) (rs : ByteArray) (a2 : Option Addr) (n2 c2 : Nat) : ∀ u ∈ [Value.string nm, .bool sb, .slice a1 n1 c1, .string rs, .slice a2 n2 c2], u.oneCell' = true := by
  intro u hu; simp at hu; rcases hu with rfl | rfl | rfl | rfl | rfl <;> rfl
theorem oneC (nm sp : ByteArray) (a1 : Option Addr) (n1 c1 : Nat) (a2 : Option Addr) (n2 c2 : Nat) : ∀ u ∈ [Value.string nm, .string sp, .slice a1 n1 c1, .slice a2 n2 c2], u.oneCell' = true := by
  intro u hu; simp at hu; rcases hu with rfl | rfl | rfl | rfl <;> rfl
/-- The value of a rule that gives a class; a source. -/
def QCl (lo : Nat) (e : Cl) (r : Value) (w' : World) : Prop := ∃ (nm sp : ByteArray) (a1 : Option Addr) (n1 c1 : Nat) (a2 : Option Addr) (n2 c2 : Nat), r = .agg #[.string nm, .string sp, .slice a1 n1 c1, .slice a2 n2 c2] ∧ (fCl e [.string nm, .string sp, .slice a1 n1 c1, .slice a2 n2 c2]).holds (lo ≤ ·) w'
def QSo (lo : Nat) (l : List Cl) (r : Value) (w' : World) : Prop := ∃ (a : Option Addr) (n c : Nat), r = .agg #[.slice a n c] ∧ (fCls l (.slice a n c)).holds (lo ≤ ·) w'
/-- Where the loops of class and program stand. -/
def FieldsRel (pb g cap : Nat) (ts : List Tok) (i : Nat) (w : World) (R : PR Cl) (n s : Bytes) (cb : Nat) (wr : World) : Prop :=
  ∃ (j q : Nat) (acc : List Fld) (xs : List Value) (va : Option Addr) (vn vc : Nat), PS pb g cap ts w j wr [(cb, .cells #[.string (strOf n), .string (strOf s), .slice va vn vc, .slice none 0 0] 42), (w.heap.size, .cells #[.string ⟨#[]⟩, .string ⟨#[]⟩, .slice none 0 0, .slice none 0 0] 42)] ⟨.slice va vn vc, 62, 2, acc.length, xs⟩ (fFlatFld acc xs) ∧ ts.length - j < q ∧ i ≤ j ∧ acc.length ≤ j ∧ R = bindP (fieldsLoop ts q acc j) (fun fs i => bindP (methodsLoop ts (ts.length + 1) [] i) fun ms i => bindP (expectP ts [125] i) fun _ i => .ok (⟨n, s, fs, ms⟩, i))
def MethodsRel (pb g cap : Nat) (ts : List Tok) (i : Nat) (w : World) (R : PR Cl) (n s : Bytes) (fs : List Fld) (va : Option Addr) (vn vc : Nat) (cb : Nat) (wr : World) : Prop :=
  ∃ (j q : Nat) (acc2 : List Me) (xs2 : List Value) (ua : Option Addr) (un uc : Nat), PS pb g cap ts w j wr [(cb, .cells #[.string (strOf n), .string (strOf s), .slice va vn vc, .slice ua un uc] 42), (w.heap.size, .cells #[.string ⟨#[]⟩, .string ⟨#[]⟩, .slice none 0 0, .slice none 0 0] 42)] ⟨.slice ua un uc, 66, 5, acc2.length, xs2⟩ ((fFlds fs (.slice va vn vc)).and (fFlatMe acc2 xs2)) ∧ ts.length - j < q ∧ i ≤ j ∧ acc2.length ≤ j ∧ R = bindP (methodsLoop ts q acc2 j) (fun ms i => bindP (expectP ts [125] i) fun _ i => .ok (⟨n, s, fs, ms⟩, i))
def ClassesRel (pb g cap : Nat) (ts : List Tok) (w : World) (R : PR (List Cl)) (sb : Nat) (wr : World) : Prop :=
  ∃ (j q : Nat) (acc : List Cl) (xs : List Value) (va : Option Addr) (vn vc : Nat), PS pb g cap ts w j wr [(sb, .cells #[.slice va vn vc] 24), (w.heap.size, .cells #[.slice none 0 0] 24)] ⟨.slice va vn vc, 42, 4, acc.length, xs⟩ (fFlatCl acc xs) ∧ ts.length - j < q ∧ acc.length ≤ j ∧ R = classesLoop ts q acc j
section
variable {pb g cap : Nat} {ts : List Tok} {i : Nat} {w : World}
set_option maxHeartbeats 4000000 in
theorem par_class (hT : TWF ts) 
    (h : PEnv pb g cap ts i w) : Calls Tryd.prog 37 #[.pointer (some ⟨pb, 0, none⟩)] w (POut pb g cap ts w (QCl w.heap.size) (classP ts i)) := by
  obtain ⟨R, hr⟩ : ∃ R, R = classP ts i := ⟨_, rfl⟩
  rw [← hr]
  unfold classP at hr
  have R0 := Lib.hid hr
  have hpb := h.pb_lt
  have hil := h.lt
  have S0 := Lib.hid h.ps
  clear hr h
  have S1 := Lib.hid (S0.out.alloc (w.heap.size) (by simp) (.cells #[.string ⟨#[]⟩, .string ⟨#[]⟩, .slice none 0 0, .slice none 0 0] 42))
  clear S0
  have S2 := Lib.hid (S1.out.alloc (w.heap.size + 1) (by simp) (.cells #[.string ⟨#[]⟩, .string ⟨#[]⟩, .slice none 0 0, .slice none 0 0] 42))
  clear S1
  go_enter Tryd.func37, Tryd.ntmps37
  go_wp2_with fail
  refine (par_expect hT _ (by decide) S2.out.env).mono ?_
  intro e w3 ho
  obtain ⟨ch, rfl, hp⟩ | ⟨_, j3, v, rfl, rfl, hS, hr, hs3, hq3⟩ := S2.out.rule ho R0.out
  · exact ⟨rfl, hp⟩
  have hjl3 := hS.env.lt
  have hadv3 := expectP_adv hq3
  clear hq3
  have S3 := Lib.hid hS
  have R3 := Lib.hid hr
  clear hS hr ho R0 S2
  replace hs3 : w.heap.size + 1 + 1 ≤ w3.heap.size := by simp at hs3; omega
  go_wp2_with fail
  refine (par_name hT S3.out.env).mono ?_
  intro e w4 ho
  obtain ⟨ch, rfl, hp⟩ | ⟨n, j4, v, rfl, rfl, hS, hr, hs4, hq4⟩ := S3.out.rule ho R3.out
  · exact ⟨rfl, hp⟩
  have hjl4 := hS.env.lt
  have hadv4 := nameP_adv hq4
  clear hq4
  have S4 := Lib.hid hS
  have R4 := Lib.hid hr
  clear hS hr ho R3 S3
  have hr := R4.out
  unfold superP at hr
  have R5 := Lib.hid hr
  clear hr R4
  obtain ⟨t, ht⟩ : ∃ t, isT ts (j4) [101, 120, 116, 101, 110, 100, 115] = t := ⟨_, rfl⟩
  have hr := R5.out
  rw [ht] at hr
  cases t
  rotate_left
  · rw [if_pos rfl] at hr
    have R6y := Lib.hid hr
    have T6y := Lib.hid ht
    clear hr ht R5
    obtain ⟨⟨c7_0, c7_1, c7_2, c7_3⟩, z7⟩ := S4.out.cells4 0 rfl
    have l7 := (S4.out.blk 0 rfl).2.1
    go_wp2_with fail
    have S8 := Lib.hid (S4.out.setTo 0 rfl 0 (.string (strOf n)) #[.string (strOf n), .string ⟨#[]⟩, .slice none 0 0, .slice none 0 0] rfl [(w.heap.size + 1, (.cells #[.string (strOf n), .string ⟨#[]⟩, .slice none 0 0, .slice none 0 0] 42)), (w.heap.size, (.cells #[.string ⟨#[]⟩, .string ⟨#[]⟩, .slice none 0 0, .slice none 0 0] 42))] rfl)
    clear S4
    refine (accept_true hT ⟨#[101, 120, 116, 101, 110, 100, 115]⟩ (by decide) T6y.out S8.out.env).mono ?_
    rintro e w9 ⟨rfl, hg, hEv⟩
    have hs9 := hg.size
    have hjl9 := hEv.lt
    have S9 := Lib.hid (S8.out.call hg hEv)
    clear hg hEv S8 T6y
    clear c7_0 c7_1 c7_2 c7_3 z7 l7
    replace hs9 : w4.heap.size ≤ w9.heap.size := by simp at hs9; omega
    go_wp2_with fail
    refine (par_name hT S9.out.env).mono ?_
    intro e w10 ho
    obtain ⟨ch, rfl, hp⟩ | ⟨sp, j10, v, rfl, rfl, hS, hr, hs10, hq10⟩ := S9.out.rule ho R6y.out
    · exact ⟨rfl, hp⟩
    have hjl10 := hS.env.lt
    have hadv10 := nameP_adv hq10
    clear hq10
    have S10 := Lib.hid hS
    have R10 := Lib.hid hr
    clear hS hr ho R6y S9
    obtain ⟨⟨c11_0, c11_1, c11_2, c11_3⟩, z11⟩ := S10.out.cells4 0 rfl
    have l11 := (S10.out.blk 0 rfl).2.1
    go_wp2_with fail
    have S12 := Lib.hid (S10.out.setTo 0 rfl 1 (.string (strOf sp)) #[.string (strOf n), .string (strOf sp), .slice none 0 0, .slice none 0 0] rfl [(w.heap.size + 1, (.cells #[.string (strOf n), .string (strOf sp), .slice none 0 0, .slice none 0 0] 42)), (w.heap.size, (.cells #[.string ⟨#[]⟩, .string ⟨#[]⟩, .slice none 0 0, .slice none 0 0] 42))] rfl)
    clear S10
    refine (par_expect hT _ (by decide) S12.out.env).mono ?_
    intro e w13 ho
    obtain ⟨ch, rfl, hp⟩ | ⟨_, j13, v, rfl, rfl, hS, hr, hs13, hq13⟩ := S12.out.rule ho R10.out
    · exact ⟨rfl, hp⟩
    have hjl13 := hS.env.lt
    have hadv13 := expectP_adv hq13
    clear hq13
    clear c11_0 c11_1 c11_2 c11_3 z11 l11
    have S13 := Lib.hid hS
    have R13 := Lib.hid hr
    clear hS hr ho R10 S12
    replace hs13 : w10.heap.size ≤ w13.heap.size := by simp at hs13; omega
    go_wp2_with fail
    go_loopw [] (fun wr => FieldsRel pb g cap ts i w R n sp (w.heap.size + 1) wr) (fun wr => ts.length - nextOf pb wr)
    case atStart => exact ⟨j13, _, [], [], none, 0, 0, (S13.out.row0 rfl 62 2).imp fun A _ => Flat.nil, by omega, by omega, by simp, R13.out⟩
    case round =>
      clear S13 R13
      obtain ⟨j, q, acc, xs, va, vn, vc, hS, hq, hij, hal, hr⟩ := hrel
      have hnx := Lib.hid hS.env.next_eq
      have hjl := hS.env.lt
      have SS := Lib.hid hS
      obtain ⟨q, rfl⟩ : ∃ q', q = q' + 1 := ⟨q - 1, by omega⟩
      unfold fieldsLoop at hr
      have RL := Lib.hid hr
      clear hr hS
      obtain ⟨t, ht⟩ : ∃ t, isT ts (j) [118, 97, 114] = t := ⟨_, rfl⟩
      have hr := RL.out
      rw [ht] at hr
      cases t
      rotate_left
      · rw [if_pos rfl] at hr
        have R14y := Lib.hid hr
        have T14y := Lib.hid ht
        clear hr ht RL
        have hr := R14y.out
        rw [bindP_assoc] at hr
        have R15 := Lib.hid hr
        clear hr R14y
        go_wp2_with fail
        refine (is_true ⟨#[118, 97, 114]⟩ T14y.out SS.out.env).mono ?_
        rintro e w16 ⟨rfl, hg⟩
        have hs16 := hg.size
        have S16 := Lib.hid (SS.out.below hg)
        clear hg SS T14y
        obtain ⟨⟨c17_0, c17_1, c17_2, c17_3⟩, z17⟩ := S16.out.cells4 0 rfl
        have l17 := (S16.out.blk 0 rfl).2.1
        have S18 := Lib.hid (S16.out.drew)
        clear S16
        have hlen := hT.len
        obtain ⟨i0, hi0, hz0, hz1, hz2⟩ := info_parts Tryd.infoFld
        have HI := Lib.hid hi0
        have HZ0 := Lib.hid hz0
        have HZ1 := Lib.hid hz1
        have HZ2 := Lib.hid hz2
        clear hi0 hz0 hz1 hz2
        go_wp2_with fail
        go_region_law (first
          | (have tok := SE
             clear tok
             refine step_append_lies _ (by rfl) (.tmp 19) (.tmp 22) 39 (by rfl) w.heap.size 62 i0 _ 2 32 Tryd.underlying39 HI.out HZ0.out HZ1.out HZ2.out rfl (by decide) _ _ _ (by rfl) SE.out.wk.row ⟨w19.heap.size, 0, none⟩ 1 1 [.string (strOf x.name), .string (strOf x.typ)] (by rfl) (by rfl) (World.news_of_block (alloc_last _ _ _ rfl)) (one2 _ _) (by decide) (by show acc.length + 1 ≤ maxLen; unfold maxLen; omega) (by show (acc.length + 1) * 32 ≤ 140737488355328; omega) SE.out.lo_le _ rfl ?_
             intro g' cp' w7 hown hgrow hat hlt
             have S7 := Lib.hid ((SE.out.append hown hgrow (hat.imp id fun h => h.trans (by simp))).imp (G := fFlatFld (acc ++ [x]) (xs ++ [.string (strOf x.name), .string (strOf x.typ)])) fun A hF => fFlatFld.snoc hF)
             obtain ⟨⟨g0, g1, g2, g3⟩, gf⟩ := S7.out.cells4 0 rfl
             have gl := (S7.out.blk 0 rfl).2.1
             clear hown hgrow hat hlt SE q0 q1 q2 q3 qf ql)
          | (go_simp
             go_at_call 55
             refine (par_field hT S18.out.env).mono ?_
             intro e w19 ho
             obtain ⟨ch, rfl, hp⟩ | ⟨x, j19, v, rfl, rfl, hS, hr, hs19, hq19⟩ := S18.out.rule ho R15.out
             · exact ⟨rfl, hp⟩
             have hadv19 := fieldP_adv hq19
             have hjl19 := hS.env.lt
             have SE := Lib.hid (hS.alloc0 (.cells #[.string (strOf x.name), .string (strOf x.typ)] 62))
             have R19 := Lib.hid hr
             replace hs19 : w16.heap.size ≤ w19.heap.size := by simp at hs19; omega
             obtain ⟨⟨q0, q1, q2, q3⟩, qf⟩ := hS.cells4 0 rfl
             have ql := (hS.blk 0 rfl).2.1
             clear hr ho hq19 hS))
        all_goals
          clear g0 g1 g2 g3 gf gl
          go_wp2_with fail
          have S20 := Lib.hid (S7.out.setTo 0 rfl 2 (.slice (some ⟨g', 0, none⟩) (acc.length + 1) cp') #[.string (strOf n), .string (strOf sp), .slice (some ⟨g', 0, none⟩) (acc.length + 1) cp', .slice none 0 0] rfl [(w.heap.size + 1, (.cells #[.string (strOf n), .string (strOf sp), .slice (some ⟨g', 0, none⟩) (acc.length + 1) cp', .slice none 0 0] 42)), (w.heap.size, (.cells #[.string ⟨#[]⟩, .string ⟨#[]⟩, .slice none 0 0, .slice none 0 0] 42))] rfl)
          clear S7
          have H7 := Lib.hid S20.out.env.next_eq
          go_roundw
          case rel => exact ⟨j19, q, acc ++ [x], _, some ⟨g', 0, none⟩, acc.length + 1, cp', by simpa using S20.out, by omega, by omega, by simp; omega, R19.out⟩
          case measure => rw [H7.out, hnx.out]; omega
      rw [if_neg (by decide)] at hr
      have R14n := Lib.hid hr
      have T14n := Lib.hid ht
      clear hr ht RL
      have hr := R14n.out
      rw [bindP_ok] at hr
      have R21 := Lib.hid hr
      clear hr R14n
      go_wp2_with fail
      refine (is_false ⟨#[118, 97, 114]⟩ T14n.out SS.out.env).mono ?_
      rintro e w22 ⟨rfl, hg⟩
      have hs22 := hg.size
      have S22 := Lib.hid (SS.out.below hg)
      clear hg SS T14n
      have S23 := Lib.hid (S22.out.whole (G := fFlds acc (.slice va vn vc)) fun A hF hA => fFlds.of_row S22.out.wk.row hF hA)
      clear S22
      go_wp2_with fail
      clear hnx
      go_loopw [] (fun wr => MethodsRel pb g cap ts i w R n sp acc va vn vc (w.heap.size + 1) wr) (fun wr => ts.length - nextOf pb wr)
      case atStart => exact ⟨j, _, [], [], none, 0, 0, (S23.out.row0 rfl 66 5).imp fun A hF => ⟨hF, 0, Flat.nil⟩, by omega, by omega, by simp, R21.out⟩
      case round =>
        clear S23 R21
        obtain ⟨j, q, acc2, xs2, ua, un, uc, hS, hq, hij, hal, hr⟩ := hrel
        have hnx := Lib.hid hS.env.next_eq
        have hjl := hS.env.lt
        have SS := Lib.hid hS
        obtain ⟨q, rfl⟩ : ∃ q', q = q' + 1 := ⟨q - 1, by omega⟩
        unfold methodsLoop at hr
        have RL := Lib.hid hr
        clear hr hS
        obtain ⟨t1, ht1⟩ : ∃ t1, isT ts j [115, 116, 97, 116, 105, 99] = t1 := ⟨_, rfl⟩
        have hr := RL.out
        rw [ht1] at hr
        cases t1
        rotate_left
        · rw [Bool.true_or, if_pos rfl] at hr
          have RY := Lib.hid hr
          have TY := Lib.hid ht1
          clear hr ht1 RL
          go_wp2_with fail
          refine (is_true ⟨#[115, 116, 97, 116, 105, 99]⟩ TY.out SS.out.env).mono ?_
          rintro e w24 ⟨rfl, hg⟩
          have hs24 := hg.size
          have S24 := Lib.hid (SS.out.below hg)
          clear hg SS TY
          have hr := RY.out
          rw [bindP_assoc] at hr
          have R25 := Lib.hid hr
          clear hr RY
          obtain ⟨⟨c26_0, c26_1, c26_2, c26_3⟩, z26⟩ := S24.out.cells4 0 rfl
          have l26 := (S24.out.blk 0 rfl).2.1
          have S27 := Lib.hid (S24.out.drew)
          clear S24
          have hlen := hT.len
          obtain ⟨i0, hi0, hz0, hz1, hz2⟩ := info_parts Tryd.infoMe
          have HI := Lib.hid hi0
          have HZ0 := Lib.hid hz0
          have HZ1 := Lib.hid hz1
          have HZ2 := Lib.hid hz2
          clear hi0 hz0 hz1 hz2
          go_wp2_with fail
          go_region_law (first
            | (have tok := SE
               clear tok
               refine step_append_lies _ (by rfl) (.tmp 32) (.tmp 35) 40 (by rfl) w.heap.size 66 i0 _ 5 88 Tryd.underlying40 HI.out HZ0.out HZ1.out HZ2.out rfl (by decide) _ _ _ (by rfl) SE.out.wk.row ⟨w28.heap.size, 0, none⟩ 1 1 [.string mnm, .bool msb, .slice b1 d1 e1, .string mrs, .slice b2 d2 e2] (by rfl) (by rfl) (World.news_of_block (alloc_last _ _ _ rfl)) (oneM _ _ _ _ _ _ _ _ _) (by decide) (by show acc2.length + 1 ≤ maxLen; unfold maxLen; omega) (by show (acc2.length + 1) * 88 ≤ 140737488355328; omega) SE.out.lo_le _ rfl ?_
               intro g' cp' w7 hown hgrow hat hlt
               have S7 := Lib.hid ((SE.out.append hown hgrow (hat.imp id fun h => h.trans (by simp))).imp (G := (fFlds acc (.slice va vn vc)).and (fFlatMe (acc2 ++ [x]) (xs2 ++ [.string mnm, .bool msb, .slice b1 d1 e1, .string mrs, .slice b2 d2 e2]))) fun A hF => ⟨hF.1.1, fFlatMe.snoc hF.1.2 hF.2 rfl⟩)
               obtain ⟨⟨g0, g1, g2, g3⟩, gf⟩ := S7.out.cells4 0 rfl
               have gl := (S7.out.blk 0 rfl).2.1
               clear hown hgrow hat hlt SE q0 q1 q2 q3 qf ql)
            | (go_simp
               go_at_call 56
               refine (par_method hT S27.out.env).mono ?_
               intro e w28 ho
               obtain ⟨ch, rfl, hp⟩ | ⟨x, j28, v, rfl, ⟨mnm, msb, b1, d1, e1, mrs, b2, d2, e2, rfl, hx⟩, hS, hr, hs28, hq28⟩ := S27.out.rule ho R25.out
               · exact ⟨rfl, hp⟩
               have hadv28 := methodP_adv _ _ _ hq28
               have hjl28 := hS.env.lt
               have SE := Lib.hid ((hS.add S27.out (fMe x [.string mnm, .bool msb, .slice b1 d1 e1, .string mrs, .slice b2 d2 e2]) hx).alloc0 (.cells #[.string mnm, .bool msb, .slice b1 d1 e1, .string mrs, .slice b2 d2 e2] 66))
               have R28 := Lib.hid hr
               replace hs28 : w24.heap.size ≤ w28.heap.size := by simp at hs28; omega
               obtain ⟨⟨q0, q1, q2, q3⟩, qf⟩ := hS.cells4 0 rfl
               have ql := (hS.blk 0 rfl).2.1
               clear hr ho hq28 hS hx))
          all_goals
            clear g0 g1 g2 g3 gf gl
            go_wp2_with fail
            have S29 := Lib.hid (S7.out.setTo 0 rfl 3 (.slice (some ⟨g', 0, none⟩) (acc2.length + 1) cp') #[.string (strOf n), .string (strOf sp), .slice va vn vc, .slice (some ⟨g', 0, none⟩) (acc2.length + 1) cp'] rfl [(w.heap.size + 1, (.cells #[.string (strOf n), .string (strOf sp), .slice va vn vc, .slice (some ⟨g', 0, none⟩) (acc2.length + 1) cp'] 42)), (w.heap.size, (.cells #[.string ⟨#[]⟩, .string ⟨#[]⟩, .slice none 0 0, .slice none 0 0] 42))] rfl)
            clear S7
            have H7 := Lib.hid S29.out.env.next_eq
            go_roundw
            case rel => exact ⟨j28, q, acc2 ++ [x], _, some ⟨g', 0, none⟩, acc2.length + 1, cp', by simpa using S29.out, by omega, by omega, by simp; omega, R28.out⟩
            case measure => rw [H7.out, hnx.out]; omega
        rw [Bool.false_or] at hr
        have RM := Lib.hid hr
        have TN := Lib.hid ht1
        clear hr ht1 RL
        obtain ⟨t, ht⟩ : ∃ t, isT ts (j) [100, 101, 102] = t := ⟨_, rfl⟩
        have hr := RM.out
        rw [ht] at hr
        cases t
        rotate_left
        · rw [if_pos rfl] at hr
          have R30y := Lib.hid hr
          have T30y := Lib.hid ht
          clear hr ht RM
          go_wp2_with fail
          refine (is_false ⟨#[115, 116, 97, 116, 105, 99]⟩ TN.out SS.out.env).mono ?_
          rintro e w31 ⟨rfl, hg⟩
          have hs31 := hg.size
          have S31 := Lib.hid (SS.out.below hg)
          clear hg SS TN
          go_wp2_with fail
          refine (is_true ⟨#[100, 101, 102]⟩ T30y.out S31.out.env).mono ?_
          rintro e w32 ⟨rfl, hg⟩
          have hs32 := hg.size
          have S32 := Lib.hid (S31.out.below hg)
          clear hg S31 T30y
          have hr := R30y.out
          rw [bindP_assoc] at hr
          have R33 := Lib.hid hr
          clear hr R30y
          obtain ⟨⟨c34_0, c34_1, c34_2, c34_3⟩, z34⟩ := S32.out.cells4 0 rfl
          have l34 := (S32.out.blk 0 rfl).2.1
          have S35 := Lib.hid (S32.out.drew)
          clear S32
          have hlen := hT.len
          obtain ⟨i0, hi0, hz0, hz1, hz2⟩ := info_parts Tryd.infoMe
          have HI := Lib.hid hi0
          have HZ0 := Lib.hid hz0
          have HZ1 := Lib.hid hz1
          have HZ2 := Lib.hid hz2
          clear hi0 hz0 hz1 hz2
          go_wp2_with fail
          go_region_law (first
            | (have tok := SE
               clear tok
               refine step_append_lies _ (by rfl) (.tmp 32) (.tmp 35) 40 (by rfl) w.heap.size 66 i0 _ 5 88 Tryd.underlying40 HI.out HZ0.out HZ1.out HZ2.out rfl (by decide) _ _ _ (by rfl) SE.out.wk.row ⟨w36.heap.size, 0, none⟩ 1 1 [.string mnm, .bool msb, .slice b1 d1 e1, .string mrs, .slice b2 d2 e2] (by rfl) (by rfl) (World.news_of_block (alloc_last _ _ _ rfl)) (oneM _ _ _ _ _ _ _ _ _) (by decide) (by show acc2.length + 1 ≤ maxLen; unfold maxLen; omega) (by show (acc2.length + 1) * 88 ≤ 140737488355328; omega) SE.out.lo_le _ rfl ?_
               intro g' cp' w7 hown hgrow hat hlt
               have S7 := Lib.hid ((SE.out.append hown hgrow (hat.imp id fun h => h.trans (by simp))).imp (G := (fFlds acc (.slice va vn vc)).and (fFlatMe (acc2 ++ [x]) (xs2 ++ [.string mnm, .bool msb, .slice b1 d1 e1, .string mrs, .slice b2 d2 e2]))) fun A hF => ⟨hF.1.1, fFlatMe.snoc hF.1.2 hF.2 rfl⟩)
               obtain ⟨⟨g0, g1, g2, g3⟩, gf⟩ := S7.out.cells4 0 rfl
               have gl := (S7.out.blk 0 rfl).2.1
               clear hown hgrow hat hlt SE q0 q1 q2 q3 qf ql)
            | (go_simp
               go_at_call 56
               refine (par_method hT S35.out.env).mono ?_
               intro e w36 ho
               obtain ⟨ch, rfl, hp⟩ | ⟨x, j36, v, rfl, ⟨mnm, msb, b1, d1, e1, mrs, b2, d2, e2, rfl, hx⟩, hS, hr, hs36, hq36⟩ := S35.out.rule ho R33.out
               · exact ⟨rfl, hp⟩
               have hadv36 := methodP_adv _ _ _ hq36
               have hjl36 := hS.env.lt
               have SE := Lib.hid ((hS.add S35.out (fMe x [.string mnm, .bool msb, .slice b1 d1 e1, .string mrs, .slice b2 d2 e2]) hx).alloc0 (.cells #[.string mnm, .bool msb, .slice b1 d1 e1, .string mrs, .slice b2 d2 e2] 66))
               have R36 := Lib.hid hr
               replace hs36 : w32.heap.size ≤ w36.heap.size := by simp at hs36; omega
               obtain ⟨⟨q0, q1, q2, q3⟩, qf⟩ := hS.cells4 0 rfl
               have ql := (hS.blk 0 rfl).2.1
               clear hr ho hq36 hS hx))
          all_goals
            clear g0 g1 g2 g3 gf gl
            go_wp2_with fail
            have S37 := Lib.hid (S7.out.setTo 0 rfl 3 (.slice (some ⟨g', 0, none⟩) (acc2.length + 1) cp') #[.string (strOf n), .string (strOf sp), .slice va vn vc, .slice (some ⟨g', 0, none⟩) (acc2.length + 1) cp'] rfl [(w.heap.size + 1, (.cells #[.string (strOf n), .string (strOf sp), .slice va vn vc, .slice (some ⟨g', 0, none⟩) (acc2.length + 1) cp'] 42)), (w.heap.size, (.cells #[.string ⟨#[]⟩, .string ⟨#[]⟩, .slice none 0 0, .slice none 0 0] 42))] rfl)
            clear S7
            have H7 := Lib.hid S37.out.env.next_eq
            go_roundw
            case rel => exact ⟨j36, q, acc2 ++ [x], _, some ⟨g', 0, none⟩, acc2.length + 1, cp', by simpa using S37.out, by omega, by omega, by simp; omega, R36.out⟩
            case measure => rw [H7.out, hnx.out]; omega
        rw [if_neg (by decide)] at hr
        have R30n := Lib.hid hr
        have T30n := Lib.hid ht
        clear hr ht RM
        have hr := R30n.out
        rw [bindP_ok] at hr
        have R38 := Lib.hid hr
        clear hr R30n
        go_wp2_with fail
        refine (is_false ⟨#[115, 116, 97, 116, 105, 99]⟩ TN.out SS.out.env).mono ?_
        rintro e w39 ⟨rfl, hg⟩
        have hs39 := hg.size
        have S39 := Lib.hid (SS.out.below hg)
        clear hg SS TN
        go_wp2_with fail
        refine (is_false ⟨#[100, 101, 102]⟩ T30n.out S39.out.env).mono ?_
        rintro e w40 ⟨rfl, hg⟩
        have hs40 := hg.size
        have S40 := Lib.hid (S39.out.below hg)
        clear hg S39 T30n
        go_wp2_with fail
        refine (par_expect hT _ (by decide) S40.out.env).mono ?_
        intro e w41 ho
        obtain ⟨ch, rfl, hp⟩ | ⟨_, j41, v, rfl, rfl, hS, hr, hs41, hq41⟩ := S40.out.rule ho R38.out
        · exact ⟨rfl, hp⟩
        have hjl41 := hS.env.lt
        clear hq41
        have S41 := Lib.hid hS
        have R41 := Lib.hid hr
        clear hS hr ho R38 S40
        have S42 := Lib.hid (S41.out.whole (G := (fFlds acc (.slice va vn vc)).and (fMes acc2 (.slice ua un uc))) fun A hF hA => ⟨hF.1, fMes.of_row S41.out.wk.row hF.2 hA⟩)
        clear S41
        obtain ⟨⟨c43_0, c43_1, c43_2, c43_3⟩, z43⟩ := S42.out.cells4 0 rfl
        have l43 := (S42.out.blk 0 rfl).2.1
        obtain ⟨⟨c44_0, c44_1, c44_2, c44_3⟩, z44⟩ := S42.out.cells4 1 rfl
        have l44 := (S42.out.blk 1 rfl).2.1
        go_wp2_with fail
        have S45 := Lib.hid (S42.out.set4 1 rfl (.string (strOf n)) (.string (strOf sp)) (.slice va vn vc) (.slice ua un uc) [(w.heap.size + 1, (.cells #[.string (strOf n), .string (strOf sp), .slice va vn vc, .slice ua un uc] 42)), (w.heap.size, (.cells #[.string (strOf n), .string (strOf sp), .slice va vn vc, .slice ua un uc] 42))] rfl)
        clear S42
        refine bodyPost_ret (v := .agg #[.string (strOf n), .string (strOf sp), .slice va vn vc, .slice ua un uc]) ?_ rfl (S45.out.ret R41.out ⟨_, _, _, _, _, _, _, _, rfl, fCl.mk S45.out.wk.fin.1 S45.out.wk.fin.2⟩)
        simp [results, Tryd.results37, go_sem, c44_0, c44_1, c44_2, c44_3]
  rw [if_neg (by decide)] at hr
  have R6n := Lib.hid hr
  have T6n := Lib.hid ht
  clear hr ht R5
  have hr := R6n.out
  rw [bindP_ok] at hr
  have R46 := Lib.hid hr
  clear hr R6n
  obtain ⟨⟨c47_0, c47_1, c47_2, c47_3⟩, z47⟩ := S4.out.cells4 0 rfl
  have l47 := (S4.out.blk 0 rfl).2.1
  go_wp2_with fail
  have S48 := Lib.hid (S4.out.setTo 0 rfl 0 (.string (strOf n)) #[.string (strOf n), .string ⟨#[]⟩, .slice none 0 0, .slice none 0 0] rfl [(w.heap.size + 1, (.cells #[.string (strOf n), .string ⟨#[]⟩, .slice none 0 0, .slice none 0 0] 42)), (w.heap.size, (.cells #[.string ⟨#[]⟩, .string ⟨#[]⟩, .slice none 0 0, .slice none 0 0] 42))] rfl)
  clear S4
  refine (accept_false hT ⟨#[101, 120, 116, 101, 110, 100, 115]⟩ (by decide) T6n.out S48.out.env).mono ?_
  rintro e w49 ⟨rfl, hg, hEv⟩
  have hs49 := hg.size
  have hjl49 := hEv.lt
  have S49 := Lib.hid (S48.out.call hg hEv)
  clear hg hEv S48 T6n
  clear c47_0 c47_1 c47_2 c47_3 z47 l47
  replace hs49 : w4.heap.size ≤ w49.heap.size := by simp at hs49; omega
  go_wp2_with fail
  refine (par_expect hT _ (by decide) S49.out.env).mono ?_
  intro e w50 ho
  obtain ⟨ch, rfl, hp⟩ | ⟨_, j50, v, rfl, rfl, hS, hr, hs50, hq50⟩ := S49.out.rule ho R46.out
  · exact ⟨rfl, hp⟩
  have hjl50 := hS.env.lt
  have hadv50 := expectP_adv hq50
  clear hq50
  have S50 := Lib.hid hS
  have R50 := Lib.hid hr
  clear hS hr ho R46 S49
  go_wp2_with fail
  go_loopw [] (fun wr => FieldsRel pb g cap ts i w R n [] (w.heap.size + 1) wr) (fun wr => ts.length - nextOf pb wr)
  case atStart => exact ⟨j50, _, [], [], none, 0, 0, (S50.out.row0 rfl 62 2).imp fun A _ => Flat.nil, by omega, by omega, by simp, R50.out⟩
  case round =>
    clear S50 R50
    obtain ⟨j, q, acc, xs, va, vn, vc, hS, hq, hij, hal, hr⟩ := hrel
    have hnx := Lib.hid hS.env.next_eq
    have hjl := hS.env.lt
    have SS := Lib.hid hS
    obtain ⟨q, rfl⟩ : ∃ q', q = q' + 1 := ⟨q - 1, by omega⟩
    unfold fieldsLoop at hr
    have RL := Lib.hid hr
    clear hr hS
    obtain ⟨t, ht⟩ : ∃ t, isT ts (j) [118, 97, 114] = t := ⟨_, rfl⟩
    have hr := RL.out
    rw [ht] at hr
    cases t
    rotate_left
    · rw [if_pos rfl] at hr
      have R51y := Lib.hid hr
      have T51y := Lib.hid ht
      clear hr ht RL
      have hr := R51y.out
      rw [bindP_assoc] at hr
      have R52 := Lib.hid hr
      clear hr R51y
      go_wp2_with fail
      refine (is_true ⟨#[118, 97, 114]⟩ T51y.out SS.out.env).mono ?_
      rintro e w53 ⟨rfl, hg⟩
      have hs53 := hg.size
      have S53 := Lib.hid (SS.out.below hg)
      clear hg SS T51y
      obtain ⟨⟨c54_0, c54_1, c54_2, c54_3⟩, z54⟩ := S53.out.cells4 0 rfl
      have l54 := (S53.out.blk 0 rfl).2.1
      have S55 := Lib.hid (S53.out.drew)
      clear S53
      have hlen := hT.len
      obtain ⟨i0, hi0, hz0, hz1, hz2⟩ := info_parts Tryd.infoFld
      have HI := Lib.hid hi0
      have HZ0 := Lib.hid hz0
      have HZ1 := Lib.hid hz1
      have HZ2 := Lib.hid hz2
      clear hi0 hz0 hz1 hz2
      go_wp2_with fail
      go_region_law (first
        | (have tok := SE
           clear tok
           refine step_append_lies _ (by rfl) (.tmp 19) (.tmp 22) 39 (by rfl) w.heap.size 62 i0 _ 2 32 Tryd.underlying39 HI.out HZ0.out HZ1.out HZ2.out rfl (by decide) _ _ _ (by rfl) SE.out.wk.row ⟨w56.heap.size, 0, none⟩ 1 1 [.string (strOf x.name), .string (strOf x.typ)] (by rfl) (by rfl) (World.news_of_block (alloc_last _ _ _ rfl)) (one2 _ _) (by decide) (by show acc.length + 1 ≤ maxLen; unfold maxLen; omega) (by show (acc.length + 1) * 32 ≤ 140737488355328; omega) SE.out.lo_le _ rfl ?_
           intro g' cp' w7 hown hgrow hat hlt
           have S7 := Lib.hid ((SE.out.append hown hgrow (hat.imp id fun h => h.trans (by simp))).imp (G := fFlatFld (acc ++ [x]) (xs ++ [.string (strOf x.name), .string (strOf x.typ)])) fun A hF => fFlatFld.snoc hF)
           obtain ⟨⟨g0, g1, g2, g3⟩, gf⟩ := S7.out.cells4 0 rfl
           have gl := (S7.out.blk 0 rfl).2.1
           clear hown hgrow hat hlt SE q0 q1 q2 q3 qf ql)
        | (go_simp
           go_at_call 55
           refine (par_field hT S55.out.env).mono ?_
           intro e w56 ho
           obtain ⟨ch, rfl, hp⟩ | ⟨x, j56, v, rfl, rfl, hS, hr, hs56, hq56⟩ := S55.out.rule ho R52.out
           · exact ⟨rfl, hp⟩
           have hadv56 := fieldP_adv hq56
           have hjl56 := hS.env.lt
           have SE := Lib.hid (hS.alloc0 (.cells #[.string (strOf x.name), .string (strOf x.typ)] 62))
           have R56 := Lib.hid hr
           replace hs56 : w53.heap.size ≤ w56.heap.size := by simp at hs56; omega
           obtain ⟨⟨q0, q1, q2, q3⟩, qf⟩ := hS.cells4 0 rfl
           have ql := (hS.blk 0 rfl).2.1
           clear hr ho hq56 hS))
      all_goals
        clear g0 g1 g2 g3 gf gl
        go_wp2_with fail
        have S57 := Lib.hid (S7.out.setTo 0 rfl 2 (.slice (some ⟨g', 0, none⟩) (acc.length + 1) cp') #[.string (strOf n), .string (strOf []), .slice (some ⟨g', 0, none⟩) (acc.length + 1) cp', .slice none 0 0] rfl [(w.heap.size + 1, (.cells #[.string (strOf n), .string (strOf []), .slice (some ⟨g', 0, none⟩) (acc.length + 1) cp', .slice none 0 0] 42)), (w.heap.size, (.cells #[.string ⟨#[]⟩, .string ⟨#[]⟩, .slice none 0 0, .slice none 0 0] 42))] rfl)
        clear S7
        have H7 := Lib.hid S57.out.env.next_eq
        go_roundw
        case rel => exact ⟨j56, q, acc ++ [x], _, some ⟨g', 0, none⟩, acc.length + 1, cp', by simpa using S57.out, by omega, by omega, by simp; omega, R56.out⟩
        case measure => rw [H7.out, hnx.out]; omega
    rw [if_neg (by decide)] at hr
    have R51n := Lib.hid hr
    have T51n := Lib.hid ht
    clear hr ht RL
    have hr := R51n.out
    rw [bindP_ok] at hr
    have R58 := Lib.hid hr
    clear hr R51n
    go_wp2_with fail
    refine (is_false ⟨#[118, 97, 114]⟩ T51n.out SS.out.env).mono ?_
    rintro e w59 ⟨rfl, hg⟩
    have hs59 := hg.size
    have S59 := Lib.hid (SS.out.below hg)
    clear hg SS T51n
    have S60 := Lib.hid (S59.out.whole (G := fFlds acc (.slice va vn vc)) fun A hF hA => fFlds.of_row S59.out.wk.row hF hA)
    clear S59
    go_wp2_with fail
    clear hnx
    go_loopw [] (fun wr => MethodsRel pb g cap ts i w R n [] acc va vn vc (w.heap.size + 1) wr) (fun wr => ts.length - nextOf pb wr)
    case atStart => exact ⟨j, _, [], [], none, 0, 0, (S60.out.row0 rfl 66 5).imp fun A hF => ⟨hF, 0, Flat.nil⟩, by omega, by omega, by simp, R58.out⟩
    case round =>
      clear S60 R58
      obtain ⟨j, q, acc2, xs2, ua, un, uc, hS, hq, hij, hal, hr⟩ := hrel
      have hnx := Lib.hid hS.env.next_eq
      have hjl := hS.env.lt
      have SS := Lib.hid hS
      obtain ⟨q, rfl⟩ : ∃ q', q = q' + 1 := ⟨q - 1, by omega⟩
      unfold methodsLoop at hr
      have RL := Lib.hid hr
      clear hr hS
      obtain ⟨t1, ht1⟩ : ∃ t1, isT ts j [115, 116, 97, 116, 105, 99] = t1 := ⟨_, rfl⟩
      have hr := RL.out
      rw [ht1] at hr
      cases t1
      rotate_left
      · rw [Bool.true_or, if_pos rfl] at hr
        have RY := Lib.hid hr
        have TY := Lib.hid ht1
        clear hr ht1 RL
        go_wp2_with fail
        refine (is_true ⟨#[115, 116, 97, 116, 105, 99]⟩ TY.out SS.out.env).mono ?_
        rintro e w61 ⟨rfl, hg⟩
        have hs61 := hg.size
        have S61 := Lib.hid (SS.out.below hg)
        clear hg SS TY
        have hr := RY.out
        rw [bindP_assoc] at hr
        have R62 := Lib.hid hr
        clear hr RY
        obtain ⟨⟨c63_0, c63_1, c63_2, c63_3⟩, z63⟩ := S61.out.cells4 0 rfl
        have l63 := (S61.out.blk 0 rfl).2.1
        have S64 := Lib.hid (S61.out.drew)
        clear S61
        have hlen := hT.len
        obtain ⟨i0, hi0, hz0, hz1, hz2⟩ := info_parts Tryd.infoMe
        have HI := Lib.hid hi0
        have HZ0 := Lib.hid hz0
        have HZ1 := Lib.hid hz1
        have HZ2 := Lib.hid hz2
        clear hi0 hz0 hz1 hz2
        go_wp2_with fail
        go_region_law (first
          | (have tok := SE
             clear tok
             refine step_append_lies _ (by rfl) (.tmp 32) (.tmp 35) 40 (by rfl) w.heap.size 66 i0 _ 5 88 Tryd.underlying40 HI.out HZ0.out HZ1.out HZ2.out rfl (by decide) _ _ _ (by rfl) SE.out.wk.row ⟨w65.heap.size, 0, none⟩ 1 1 [.string mnm, .bool msb, .slice b1 d1 e1, .string mrs, .slice b2 d2 e2] (by rfl) (by rfl) (World.news_of_block (alloc_last _ _ _ rfl)) (oneM _ _ _ _ _ _ _ _ _) (by decide) (by show acc2.length + 1 ≤ maxLen; unfold maxLen; omega) (by show (acc2.length + 1) * 88 ≤ 140737488355328; omega) SE.out.lo_le _ rfl ?_
             intro g' cp' w7 hown hgrow hat hlt
             have S7 := Lib.hid ((SE.out.append hown hgrow (hat.imp id fun h => h.trans (by simp))).imp (G := (fFlds acc (.slice va vn vc)).and (fFlatMe (acc2 ++ [x]) (xs2 ++ [.string mnm, .bool msb, .slice b1 d1 e1, .string mrs, .slice b2 d2 e2]))) fun A hF => ⟨hF.1.1, fFlatMe.snoc hF.1.2 hF.2 rfl⟩)
             obtain ⟨⟨g0, g1, g2, g3⟩, gf⟩ := S7.out.cells4 0 rfl
             have gl := (S7.out.blk 0 rfl).2.1
             clear hown hgrow hat hlt SE q0 q1 q2 q3 qf ql)
          | (go_simp
             go_at_call 56
             refine (par_method hT S64.out.env).mono ?_
             intro e w65 ho
             obtain ⟨ch, rfl, hp⟩ | ⟨x, j65, v, rfl, ⟨mnm, msb, b1, d1, e1, mrs, b2, d2, e2, rfl, hx⟩, hS, hr, hs65, hq65⟩ := S64.out.rule ho R62.out
             · exact ⟨rfl, hp⟩
             have hadv65 := methodP_adv _ _ _ hq65
             have hjl65 := hS.env.lt
             have SE := Lib.hid ((hS.add S64.out (fMe x [.string mnm, .bool msb, .slice b1 d1 e1, .string mrs, .slice b2 d2 e2]) hx).alloc0 (.cells #[.string mnm, .bool msb, .slice b1 d1 e1, .string mrs, .slice b2 d2 e2] 66))
             have R65 := Lib.hid hr
             replace hs65 : w61.heap.size ≤ w65.heap.size := by simp at hs65; omega
             obtain ⟨⟨q0, q1, q2, q3⟩, qf⟩ := hS.cells4 0 rfl
             have ql := (hS.blk 0 rfl).2.1
             clear hr ho hq65 hS hx))
        all_goals
          clear g0 g1 g2 g3 gf gl
          go_wp2_with fail
          have S66 := Lib.hid (S7.out.setTo 0 rfl 3 (.slice (some ⟨g', 0, none⟩) (acc2.length + 1) cp') #[.string (strOf n), .string (strOf []), .slice va vn vc, .slice (some ⟨g', 0, none⟩) (acc2.length + 1) cp'] rfl [(w.heap.size + 1, (.cells #[.string (strOf n), .string (strOf []), .slice va vn vc, .slice (some ⟨g', 0, none⟩) (acc2.length + 1) cp'] 42)), (w.heap.size, (.cells #[.string ⟨#[]⟩, .string ⟨#[]⟩, .slice none 0 0, .slice none 0 0] 42))] rfl)
          clear S7
          have H7 := Lib.hid S66.out.env.next_eq
          go_roundw
          case rel => exact ⟨j65, q, acc2 ++ [x], _, some ⟨g', 0, none⟩, acc2.length + 1, cp', by simpa using S66.out, by omega, by omega, by simp; omega, R65.out⟩
          case measure => rw [H7.out, hnx.out]; omega
      rw [Bool.false_or] at hr
      have RM := Lib.hid hr
      have TN := Lib.hid ht1
      clear hr ht1 RL
      obtain ⟨t, ht⟩ : ∃ t, isT ts (j) [100, 101, 102] = t := ⟨_, rfl⟩
      have hr := RM.out
      rw [ht] at hr
      cases t
      rotate_left
      · rw [if_pos rfl] at hr
        have R67y := Lib.hid hr
        have T67y := Lib.hid ht
        clear hr ht RM
        go_wp2_with fail
        refine (is_false ⟨#[115, 116, 97, 116, 105, 99]⟩ TN.out SS.out.env).mono ?_
        rintro e w68 ⟨rfl, hg⟩
        have hs68 := hg.size
        have S68 := Lib.hid (SS.out.below hg)
        clear hg SS TN
        go_wp2_with fail
        refine (is_true ⟨#[100, 101, 102]⟩ T67y.out S68.out.env).mono ?_
        rintro e w69 ⟨rfl, hg⟩
        have hs69 := hg.size
        have S69 := Lib.hid (S68.out.below hg)
        clear hg S68 T67y
        have hr := R67y.out
        rw [bindP_assoc] at hr
        have R70 := Lib.hid hr
        clear hr R67y
        obtain ⟨⟨c71_0, c71_1, c71_2, c71_3⟩, z71⟩ := S69.out.cells4 0 rfl
        have l71 := (S69.out.blk 0 rfl).2.1
        have S72 := Lib.hid (S69.out.drew)
        clear S69
        have hlen := hT.len
        obtain ⟨i0, hi0, hz0, hz1, hz2⟩ := info_parts Tryd.infoMe
        have HI := Lib.hid hi0
        have HZ0 := Lib.hid hz0
        have HZ1 := Lib.hid hz1
        have HZ2 := Lib.hid hz2
        clear hi0 hz0 hz1 hz2
        go_wp2_with fail
        go_region_law (first
          | (have tok := SE
             clear tok
             refine step_append_lies _ (by rfl) (.tmp 32) (.tmp 35) 40 (by rfl) w.heap.size 66 i0 _ 5 88 Tryd.underlying40 HI.out HZ0.out HZ1.out HZ2.out rfl (by decide) _ _ _ (by rfl) SE.out.wk.row ⟨w73.heap.size, 0, none⟩ 1 1 [.string mnm, .bool msb, .slice b1 d1 e1, .string mrs, .slice b2 d2 e2] (by rfl) (by rfl) (World.news_of_block (alloc_last _ _ _ rfl)) (oneM _ _ _ _ _ _ _ _ _) (by decide) (by show acc2.length + 1 ≤ maxLen; unfold maxLen; omega) (by show (acc2.length + 1) * 88 ≤ 140737488355328; omega) SE.out.lo_le _ rfl ?_
             intro g' cp' w7 hown hgrow hat hlt
             have S7 := Lib.hid ((SE.out.append hown hgrow (hat.imp id fun h => h.trans (by simp))).imp (G := (fFlds acc (.slice va vn vc)).and (fFlatMe (acc2 ++ [x]) (xs2 ++ [.string mnm, .bool msb, .slice b1 d1 e1, .string mrs, .slice b2 d2 e2]))) fun A hF => ⟨hF.1.1, fFlatMe.snoc hF.1.2 hF.2 rfl⟩)
             obtain ⟨⟨g0, g1, g2, g3⟩, gf⟩ := S7.out.cells4 0 rfl
             have gl := (S7.out.blk 0 rfl).2.1
             clear hown hgrow hat hlt SE q0 q1 q2 q3 qf ql)
          | (go_simp
             go_at_call 56
             refine (par_method hT S72.out.env).mono ?_
             intro e w73 ho
             obtain ⟨ch, rfl, hp⟩ | ⟨x, j73, v, rfl, ⟨mnm, msb, b1, d1, e1, mrs, b2, d2, e2, rfl, hx⟩, hS, hr, hs73, hq73⟩ := S72.out.rule ho R70.out
             · exact ⟨rfl, hp⟩
             have hadv73 := methodP_adv _ _ _ hq73
             have hjl73 := hS.env.lt
             have SE := Lib.hid ((hS.add S72.out (fMe x [.string mnm, .bool msb, .slice b1 d1 e1, .string mrs, .slice b2 d2 e2]) hx).alloc0 (.cells #[.string mnm, .bool msb, .slice b1 d1 e1, .string mrs, .slice b2 d2 e2] 66))
             have R73 := Lib.hid hr
             replace hs73 : w69.heap.size ≤ w73.heap.size := by simp at hs73; omega
             obtain ⟨⟨q0, q1, q2, q3⟩, qf⟩ := hS.cells4 0 rfl
             have ql := (hS.blk 0 rfl).2.1
             clear hr ho hq73 hS hx))
        all_goals
          clear g0 g1 g2 g3 gf gl
          go_wp2_with fail
          have S74 := Lib.hid (S7.out.setTo 0 rfl 3 (.slice (some ⟨g', 0, none⟩) (acc2.length + 1) cp') #[.string (strOf n), .string (strOf []), .slice va vn vc, .slice (some ⟨g', 0, none⟩) (acc2.length + 1) cp'] rfl [(w.heap.size + 1, (.cells #[.string (strOf n), .string (strOf []), .slice va vn vc, .slice (some ⟨g', 0, none⟩) (acc2.length + 1) cp'] 42)), (w.heap.size, (.cells #[.string ⟨#[]⟩, .string ⟨#[]⟩, .slice none 0 0, .slice none 0 0] 42))] rfl)
          clear S7
          have H7 := Lib.hid S74.out.env.next_eq
          go_roundw
          case rel => exact ⟨j73, q, acc2 ++ [x], _, some ⟨g', 0, none⟩, acc2.length + 1, cp', by simpa using S74.out, by omega, by omega, by simp; omega, R73.out⟩
          case measure => rw [H7.out, hnx.out]; omega
      rw [if_neg (by decide)] at hr
      have R67n := Lib.hid hr
      have T67n := Lib.hid ht
      clear hr ht RM
      have hr := R67n.out
      rw [bindP_ok] at hr
      have R75 := Lib.hid hr
      clear hr R67n
      go_wp2_with fail
      refine (is_false ⟨#[115, 116, 97, 116, 105, 99]⟩ TN.out SS.out.env).mono ?_
      rintro e w76 ⟨rfl, hg⟩
      have hs76 := hg.size
      have S76 := Lib.hid (SS.out.below hg)
      clear hg SS TN
      go_wp2_with fail
      refine (is_false ⟨#[100, 101, 102]⟩ T67n.out S76.out.env).mono ?_
      rintro e w77 ⟨rfl, hg⟩
      have hs77 := hg.size
      have S77 := Lib.hid (S76.out.below hg)
      clear hg S76 T67n
      go_wp2_with fail
      refine (par_expect hT _ (by decide) S77.out.env).mono ?_
      intro e w78 ho
      obtain ⟨ch, rfl, hp⟩ | ⟨_, j78, v, rfl, rfl, hS, hr, hs78, hq78⟩ := S77.out.rule ho R75.out
      · exact ⟨rfl, hp⟩
      have hjl78 := hS.env.lt
      clear hq78
      have S78 := Lib.hid hS
      have R78 := Lib.hid hr
      clear hS hr ho R75 S77
      have S79 := Lib.hid (S78.out.whole (G := (fFlds acc (.slice va vn vc)).and (fMes acc2 (.slice ua un uc))) fun A hF hA => ⟨hF.1, fMes.of_row S78.out.wk.row hF.2 hA⟩)
      clear S78
      obtain ⟨⟨c80_0, c80_1, c80_2, c80_3⟩, z80⟩ := S79.out.cells4 0 rfl
      have l80 := (S79.out.blk 0 rfl).2.1
      obtain ⟨⟨c81_0, c81_1, c81_2, c81_3⟩, z81⟩ := S79.out.cells4 1 rfl
      have l81 := (S79.out.blk 1 rfl).2.1
      go_wp2_with fail
      have S82 := Lib.hid (S79.out.set4 1 rfl (.string (strOf n)) (.string (strOf [])) (.slice va vn vc) (.slice ua un uc) [(w.heap.size + 1, (.cells #[.string (strOf n), .string (strOf []), .slice va vn vc, .slice ua un uc] 42)), (w.heap.size, (.cells #[.string (strOf n), .string (strOf []), .slice va vn vc, .slice ua un uc] 42))] rfl)
      clear S79
      refine bodyPost_ret (v := .agg #[.string (strOf n), .string (strOf []), .slice va vn vc, .slice ua un uc]) ?_ rfl (S82.out.ret R78.out ⟨_, _, _, _, _, _, _, _, rfl, fCl.mk S82.out.wk.fin.1 S82.out.wk.fin.2⟩)
      simp [results, Tryd.results37, go_sem, c81_0, c81_1, c81_2, c81_3]
set_option maxHeartbeats 1000000 in
theorem par_program (hT : TWF ts) 
    (h : PEnv pb g cap ts i w) : Calls Tryd.prog 20 #[.pointer (some ⟨pb, 0, none⟩)] w (POut pb g cap ts w (QSo w.heap.size) (programP ts i)) := by
  obtain ⟨R, hr⟩ : ∃ R, R = programP ts i := ⟨_, rfl⟩
  rw [← hr]
  unfold programP at hr
  have R0 := Lib.hid hr
  have hpb := h.pb_lt
  have hil := h.lt
  have S0 := Lib.hid h.ps
  clear hr h
  have S1 := Lib.hid (S0.out.alloc (w.heap.size) (by simp) (.cells #[.slice none 0 0] 24))
  clear S0
  have S2 := Lib.hid (S1.out.alloc (w.heap.size + 1) (by simp) (.cells #[.slice none 0 0] 24))
  clear S1
  go_enter Tryd.func20, Tryd.ntmps20
  go_wp2_with fail
  go_loopw [] (fun wr => ClassesRel pb g cap ts w R (w.heap.size + 1) wr) (fun wr => ts.length - nextOf pb wr)
  case atStart => exact ⟨i, _, [], [], none, 0, 0, (S2.out.row0 rfl 42 4).imp fun A _ => ⟨0, Flat.nil⟩, by omega, by simp, R0.out⟩
  case round =>
    clear S2 R0
    obtain ⟨j, q, acc, xs, va, vn, vc, hS, hq, hal, hr⟩ := hrel
    have hnx := Lib.hid hS.env.next_eq
    have hjl := hS.env.lt
    have SS := Lib.hid hS
    obtain ⟨q, rfl⟩ : ∃ q', q = q' + 1 := ⟨q - 1, by omega⟩
    unfold classesLoop at hr
    have RL := Lib.hid hr
    clear hr hS
    obtain ⟨t, ht⟩ : ∃ t, isT ts (j) [99, 108, 97, 115, 115] = t := ⟨_, rfl⟩
    have hr := RL.out
    rw [ht] at hr
    cases t
    rotate_left
    · rw [if_pos rfl] at hr
      have R3y := Lib.hid hr
      have T3y := Lib.hid ht
      clear hr ht RL
      go_wp2_with fail
      refine (is_true ⟨#[99, 108, 97, 115, 115]⟩ T3y.out SS.out.env).mono ?_
      rintro e w4 ⟨rfl, hg⟩
      have hs4 := hg.size
      have S4 := Lib.hid (SS.out.below hg)
      clear hg SS T3y
      obtain ⟨c5_0, z5⟩ := S4.out.cells1 0 rfl
      have l5 := (S4.out.blk 0 rfl).2.1
      have S6 := Lib.hid (S4.out.drew)
      clear S4
      have hlen := hT.len
      obtain ⟨i0, hi0, hz0, hz1, hz2⟩ := info_parts Tryd.infoCl
      have HI := Lib.hid hi0
      have HZ0 := Lib.hid hz0
      have HZ1 := Lib.hid hz1
      have HZ2 := Lib.hid hz2
      clear hi0 hz0 hz1 hz2
      go_wp2_with fail
      go_region_law (first
        | (have tok := SE
           clear tok
           refine step_append_lies _ (by rfl) (.tmp 7) (.tmp 10) 22 (by rfl) w.heap.size 42 i0 _ 4 80 Tryd.underlying22 HI.out HZ0.out HZ1.out HZ2.out rfl (by decide) _ _ _ (by rfl) SE.out.wk.row ⟨w7.heap.size, 0, none⟩ 1 1 [.string cnm, .string csp, .slice b1 d1 e1, .slice b2 d2 e2] (by rfl) (by rfl) (World.news_of_block (alloc_last _ _ _ rfl)) (oneC _ _ _ _ _ _ _ _) (by decide) (by show acc.length + 1 ≤ maxLen; unfold maxLen; omega) (by show (acc.length + 1) * 80 ≤ 140737488355328; omega) SE.out.lo_le _ rfl ?_
           intro g' cp' w7 hown hgrow hat hlt
           have S7 := Lib.hid ((SE.out.append hown hgrow (hat.imp id fun h => h.trans (by simp))).imp (G := fFlatCl (acc ++ [x]) (xs ++ [.string cnm, .string csp, .slice b1 d1 e1, .slice b2 d2 e2])) fun A hF => fFlatCl.snoc hF.1 hF.2 rfl)
           obtain ⟨g0, gf⟩ := S7.out.cells1 0 rfl
           have gl := (S7.out.blk 0 rfl).2.1
           clear hown hgrow hat hlt SE q0 qf ql)
        | (go_simp
           go_at_call 37
           refine (par_class hT S6.out.env).mono ?_
           intro e w7 ho
           obtain ⟨ch, rfl, hp⟩ | ⟨x, j7, v, rfl, ⟨cnm, csp, b1, d1, e1, b2, d2, e2, rfl, hx⟩, hS, hr, hs7, hq7⟩ := S6.out.rule ho R3y.out
           · exact ⟨rfl, hp⟩
           have hadv7 := classP_adv _ _ _ hq7
           have hjl7 := hS.env.lt
           have SE := Lib.hid ((hS.add S6.out (fCl x [.string cnm, .string csp, .slice b1 d1 e1, .slice b2 d2 e2]) hx).alloc0 (.cells #[.string cnm, .string csp, .slice b1 d1 e1, .slice b2 d2 e2] 42))
           have R7 := Lib.hid hr
           replace hs7 : w4.heap.size ≤ w7.heap.size := by simp at hs7; omega
           obtain ⟨q0, qf⟩ := hS.cells1 0 rfl
           have ql := (hS.blk 0 rfl).2.1
           clear hr ho hq7 hS hx))
      all_goals
        clear g0 gf gl
        go_wp2_with fail
        have S8 := Lib.hid (S7.out.setTo 0 rfl 0 (.slice (some ⟨g', 0, none⟩) (acc.length + 1) cp') #[.slice (some ⟨g', 0, none⟩) (acc.length + 1) cp'] rfl [(w.heap.size + 1, (.cells #[.slice (some ⟨g', 0, none⟩) (acc.length + 1) cp'] 24)), (w.heap.size, (.cells #[.slice none 0 0] 24))] rfl)
        clear S7
        have H7 := Lib.hid S8.out.env.next_eq
        go_roundw
        case rel => exact ⟨j7, q, acc ++ [x], _, some ⟨g', 0, none⟩, acc.length + 1, cp', by simpa using S8.out, by omega, by simp; omega, R7.out⟩
        case measure => rw [H7.out, hnx.out]; omega
    rw [if_neg (by decide)] at hr
    have R3n := Lib.hid hr
    have T3n := Lib.hid ht
    clear hr ht RL
    go_wp2_with fail
    refine (is_false ⟨#[99, 108, 97, 115, 115]⟩ T3n.out SS.out.env).mono ?_
    rintro e w9 ⟨rfl, hg⟩
    have hs9 := hg.size
    have S9 := Lib.hid (SS.out.below hg)
    clear hg SS T3n
    have S10 := Lib.hid (S9.out.whole (G := fCls acc (.slice va vn vc)) fun A hF hA => fCls.of_row S9.out.wk.row hF hA)
    clear S9
    obtain ⟨c11_0, z11⟩ := S10.out.cells1 0 rfl
    have l11 := (S10.out.blk 0 rfl).2.1
    obtain ⟨c12_0, z12⟩ := S10.out.cells1 1 rfl
    have l12 := (S10.out.blk 1 rfl).2.1
    go_wp2_with fail
    have S13 := Lib.hid (S10.out.setTo 1 rfl 0 (.slice va vn vc) #[.slice va vn vc] rfl [(w.heap.size + 1, (.cells #[.slice va vn vc] 24)), (w.heap.size, (.cells #[.slice va vn vc] 24))] rfl)
    clear S10
    refine bodyPost_ret (v := .agg #[.slice va vn vc]) ?_ rfl (S13.out.ret R3n.out ⟨_, _, _, rfl, S13.out.wk.fin⟩)
    simp [results, Tryd.results20, go_sem, c12_0]
end
end Go.Proofs.YthjonkommphkkaaDoor
