/-
  Contexts: their check, their last elements, places of new objects; walked.
-/
import Derived.Test.YtdjllogimomgmaaGreatDoorJkD
import Derived.Test.YtdjllogimomgmaaGreatDoorJkJ
set_option linter.unusedSimpArgs false
set_option linter.unusedVariables false
namespace Go.Proofs.YtdjllogimomgmaaGreatDoor
open Ax Tx Go.RowKit
attribute [local simp] stepS Ax.stepT Dl.on qstep astep estep rd putE over argE ofV ofS loadA pickCells isAggD faddA fieldA partA iaddA idxA bnd binA intA strA unA convA bltA lenA mapOf lookA findK keyD scalD storeA mupA appA srcA srcD upd drp Dl.hp Dl.nx CV.cs CV.one buildA placesA fillA zrep tasA ifaceD eqA eqFs eqIs range2 copyA nbeq nble nblt decEq beqI bneI beqS bneS isED Int.ofNat_inj List.getElem?_map List.getElem?_eq_getElem Option.map_some ti_int ti_bool ti_str ti_i64 ti_Strs ti_Hi ti_Cds ti_Cd ti_Flds ti_Fld ti_Sgs ti_Sg ti_Ins ti_Inss ti_Ints ti_Fu ti_Fus ti_Un ti_Se ti_Hs gd gdB callA resA op1
def sensE (s : Se) : Int := if s.kind < 0 ∨ 3 < s.kind then 12 else if s.k < 0 ∨ 2 < s.k then 4 else if s.kind = 0 ∧ s.k ≠ 0 then 1 else 0
set_option maxRecDepth 10000 in
theorem scheck_ok (s : Se) : FCall Tryz.prog cxG 19 [.agg (cvSe s)] fun r => r = .ret (.int .i64 (sensE s)) := by
  obtain ⟨w, hw⟩ : ∃ w, w = sensE s := ⟨_, rfl⟩
  rw [← hw]
  unfold sensE at hw
  refine FCall.ofBody Tryz.func19 rfl rfl fun nx => ?_
  by_cases h1 : s.kind < 0
  · simp only [h1, true_or, if_true] at hw
    repeat (first | (first | (apply AOpl.step; rfl) | apply ASl.step); focus simp [cvSe, *, -Option.some.injEq]; rfl | (first | (apply AOpl.stepG; rfl) | apply ASl.stepG); (focus simp [cvSe, *]; done); focus simp [cvSe, *, -Option.some.injEq]; rfl | (first | (apply AOpl.pass; rfl) | apply ASl.pass); (focus simp [cvSe, *]; done) | (first | refine AOpl.nil ?_ | refine AWp.skip ?_ | refine AWp.exit ?_ | refine AWp.ret ?_ | refine ASl.nil ?_); try simp only [Then, InBlock, reduceIte, Nat.reduceEqDiff] | refine AWp.seq ?_ | refine AWp.reg rfl ?_ | refine AWp.block ?_ | apply AWp.condT; focus simp [cvSe, *]; done | apply AWp.condF; focus simp [cvSe, *]; done | refine AWp.regT (by kernel_rfl) (by kernel_rfl) rfl rfl ?_)
    (refine ⟨_, (by simp [*]; rfl), ?_⟩; (try simp only [packA]))
    all_goals (rw [hw] <;> rfl)
  by_cases h2 : 3 < s.kind
  · simp only [h2, or_true, if_true] at hw
    repeat (first | (first | (apply AOpl.step; rfl) | apply ASl.step); focus simp [cvSe, *, -Option.some.injEq]; rfl | (first | (apply AOpl.stepG; rfl) | apply ASl.stepG); (focus simp [cvSe, *]; done); focus simp [cvSe, *, -Option.some.injEq]; rfl | (first | (apply AOpl.pass; rfl) | apply ASl.pass); (focus simp [cvSe, *]; done) | (first | refine AOpl.nil ?_ | refine AWp.skip ?_ | refine AWp.exit ?_ | refine AWp.ret ?_ | refine ASl.nil ?_); try simp only [Then, InBlock, reduceIte, Nat.reduceEqDiff] | refine AWp.seq ?_ | refine AWp.reg rfl ?_ | refine AWp.block ?_ | apply AWp.condT; focus simp [cvSe, *]; done | apply AWp.condF; focus simp [cvSe, *]; done | refine AWp.regT (by kernel_rfl) (by kernel_rfl) rfl rfl ?_)
    (refine ⟨_, (by simp [*]; rfl), ?_⟩; (try simp only [packA]))
    all_goals (rw [hw] <;> rfl)
  simp only [h1, h2, or_self, if_false] at hw
  by_cases h3 : s.k < 0
  · simp only [h3, true_or, if_true] at hw
    repeat (first | (first | (apply AOpl.step; rfl) | apply ASl.step); focus simp [cvSe, *, -Option.some.injEq]; rfl | (first | (apply AOpl.stepG; rfl) | apply ASl.stepG); (focus simp [cvSe, *]; done); focus simp [cvSe, *, -Option.some.injEq]; rfl | (first | (apply AOpl.pass; rfl) | apply ASl.pass); (focus simp [cvSe, *]; done) | (first | refine AOpl.nil ?_ | refine AWp.skip ?_ | refine AWp.exit ?_ | refine AWp.ret ?_ | refine ASl.nil ?_); try simp only [Then, InBlock, reduceIte, Nat.reduceEqDiff] | refine AWp.seq ?_ | refine AWp.reg rfl ?_ | refine AWp.block ?_ | apply AWp.condT; focus simp [cvSe, *]; done | apply AWp.condF; focus simp [cvSe, *]; done | refine AWp.regT (by kernel_rfl) (by kernel_rfl) rfl rfl ?_)
    (refine ⟨_, (by simp [*]; rfl), ?_⟩; (try simp only [packA]))
    all_goals (rw [hw] <;> rfl)
  by_cases h4 : 2 < s.k
  · simp only [h4, or_true, if_true] at hw
    repeat (first | (first | (apply AOpl.step; rfl) | apply ASl.step); focus simp [cvSe, *, -Option.some.injEq]; rfl | (first | (apply AOpl.stepG; rfl) | apply ASl.stepG); (focus simp [cvSe, *]; done); focus simp [cvSe, *, -Option.some.injEq]; rfl | (first | (apply AOpl.pass; rfl) | apply ASl.pass); (focus simp [cvSe, *]; done) | (first | refine AOpl.nil ?_ | refine AWp.skip ?_ | refine AWp.exit ?_ | refine AWp.ret ?_ | refine ASl.nil ?_); try simp only [Then, InBlock, reduceIte, Nat.reduceEqDiff] | refine AWp.seq ?_ | refine AWp.reg rfl ?_ | refine AWp.block ?_ | apply AWp.condT; focus simp [cvSe, *]; done | apply AWp.condF; focus simp [cvSe, *]; done | refine AWp.regT (by kernel_rfl) (by kernel_rfl) rfl rfl ?_)
    (refine ⟨_, (by simp [*]; rfl), ?_⟩; (try simp only [packA]))
    all_goals (rw [hw] <;> rfl)
  simp only [h3, h4, or_self, if_false] at hw
  by_cases h5 : s.kind = 0
  · by_cases h6 : s.k = 0
    · simp only [h5, h6, ne_eq, not_true, and_false, if_false] at hw
      repeat (first | (first | (apply AOpl.step; rfl) | apply ASl.step); focus simp [cvSe, *, -Option.some.injEq]; rfl | (first | (apply AOpl.stepG; rfl) | apply ASl.stepG); (focus simp [cvSe, *]; done); focus simp [cvSe, *, -Option.some.injEq]; rfl | (first | (apply AOpl.pass; rfl) | apply ASl.pass); (focus simp [cvSe, *]; done) | (first | refine AOpl.nil ?_ | refine AWp.skip ?_ | refine AWp.exit ?_ | refine AWp.ret ?_ | refine ASl.nil ?_); try simp only [Then, InBlock, reduceIte, Nat.reduceEqDiff] | refine AWp.seq ?_ | refine AWp.reg rfl ?_ | refine AWp.block ?_ | apply AWp.condT; focus simp [cvSe, *]; done | apply AWp.condF; focus simp [cvSe, *]; done | refine AWp.regT (by kernel_rfl) (by kernel_rfl) rfl rfl ?_)
      (refine ⟨_, (by simp [*]; rfl), ?_⟩; (try simp only [packA]))
      all_goals (rw [hw] <;> rfl)
    · simp only [h5, h6, ne_eq, not_false_eq_true, and_self, if_true] at hw
      repeat (first | (first | (apply AOpl.step; rfl) | apply ASl.step); focus simp [cvSe, *, -Option.some.injEq]; rfl | (first | (apply AOpl.stepG; rfl) | apply ASl.stepG); (focus simp [cvSe, *]; done); focus simp [cvSe, *, -Option.some.injEq]; rfl | (first | (apply AOpl.pass; rfl) | apply ASl.pass); (focus simp [cvSe, *]; done) | (first | refine AOpl.nil ?_ | refine AWp.skip ?_ | refine AWp.exit ?_ | refine AWp.ret ?_ | refine ASl.nil ?_); try simp only [Then, InBlock, reduceIte, Nat.reduceEqDiff] | refine AWp.seq ?_ | refine AWp.reg rfl ?_ | refine AWp.block ?_ | apply AWp.condT; focus simp [cvSe, *]; done | apply AWp.condF; focus simp [cvSe, *]; done | refine AWp.regT (by kernel_rfl) (by kernel_rfl) rfl rfl ?_)
      (refine ⟨_, (by simp [*]; rfl), ?_⟩; (try simp only [packA]))
      all_goals (rw [hw] <;> rfl)
  · simp only [h5, false_and, if_false] at hw
    repeat (first | (first | (apply AOpl.step; rfl) | apply ASl.step); focus simp [cvSe, *, -Option.some.injEq]; rfl | (first | (apply AOpl.stepG; rfl) | apply ASl.stepG); (focus simp [cvSe, *]; done); focus simp [cvSe, *, -Option.some.injEq]; rfl | (first | (apply AOpl.pass; rfl) | apply ASl.pass); (focus simp [cvSe, *]; done) | (first | refine AOpl.nil ?_ | refine AWp.skip ?_ | refine AWp.exit ?_ | refine AWp.ret ?_ | refine ASl.nil ?_); try simp only [Then, InBlock, reduceIte, Nat.reduceEqDiff] | refine AWp.seq ?_ | refine AWp.reg rfl ?_ | refine AWp.block ?_ | apply AWp.condT; focus simp [cvSe, *]; done | apply AWp.condF; focus simp [cvSe, *]; done | refine AWp.regT (by kernel_rfl) (by kernel_rfl) rfl rfl ?_)
    (refine ⟨_, (by simp [*]; rfl), ?_⟩; (try simp only [packA]))
    all_goals (rw [hw] <;> rfl)
def lastL (l : List Int) (k : Nat) : List Int := l.drop (l.length - k)
theorem sliI_lo {H : Heap} (l : List Int) (m : Nat) (hm : m ≤ l.length) : sliA Tryz.prog H 49 (.lst (l.map cvI)) (some (.int .i64 (m : Int))) none = some (.lst ((l.drop m).map cvI)) := by
  have h := sliA_lo (P := Tryz.prog) (H := H) (kk := .i64) (rows := l.map cvI) (m := m) ti_Ints ti_int (fun r hr => by obtain ⟨a, _, rfl⟩ := List.mem_map.mp hr; rfl) (by rw [List.length_map]; exact hm)
  rw [h, List.map_drop]
set_option maxRecDepth 10000 in
set_option maxHeartbeats 4000000 in
theorem rlast_ok (l : List Int) (k : Nat) (hl : l.length ≤ 1000) (hk : k ≤ 1000) : FCall Tryz.prog cxG 46 [.lst (l.map cvI), .int .i64 k] fun r => r = .ret (.lst ((lastL l k).map cvI)) := by
  refine FCall.ofBody Tryz.func46 rfl rfl fun nx => ?_
  by_cases h : l.length ≤ k
  · have hL : lastL l k = l := by unfold lastL; rw [show l.length - k = 0 by omega]; rfl
    rw [hL]
    repeat (first | (first | (apply AOpl.step; rfl) | apply ASl.step); focus simp [*, -Option.some.injEq]; rfl | (first | (apply AOpl.stepG; rfl) | apply ASl.stepG); (focus simp [*]; done); focus simp [*, -Option.some.injEq]; rfl | (first | (apply AOpl.pass; rfl) | apply ASl.pass); (focus simp [*]; done) | (first | refine AOpl.nil ?_ | refine AWp.skip ?_ | refine AWp.exit ?_ | refine AWp.ret ?_ | refine ASl.nil ?_); try simp only [Then, InBlock, reduceIte, Nat.reduceEqDiff] | refine AWp.seq ?_ | refine AWp.reg rfl ?_ | refine AWp.block ?_ | apply AWp.condT; focus simp [*]; done | apply AWp.condF; focus simp [*]; done | refine AWp.regT (by kernel_rfl) (by kernel_rfl) rfl rfl ?_)
    (refine ⟨_, (by simp [*]; rfl), ?_⟩; (try simp only [packA]))
    all_goals rfl
  · have hs : IntKind.i64.wrap ((l.length : Int) - k) = ((l.length - k : Nat) : Int) := by rw [IntKind.wrap_i64]; omega
    repeat (first | (first | (apply AOpl.step; rfl) | apply ASl.step); focus simp [*, -Option.some.injEq]; rfl | (first | (apply AOpl.stepG; rfl) | apply ASl.stepG); (focus simp [*]; done); focus simp [*, -Option.some.injEq]; rfl | (first | (apply AOpl.pass; rfl) | apply ASl.pass); (focus simp [*]; done) | (first | refine AOpl.nil ?_ | refine AWp.skip ?_ | refine AWp.exit ?_ | refine AWp.ret ?_ | refine ASl.nil ?_); try simp only [Then, InBlock, reduceIte, Nat.reduceEqDiff] | refine AWp.seq ?_ | refine AWp.reg rfl ?_ | refine AWp.block ?_ | apply AWp.condT; focus simp [*]; done | apply AWp.condF; focus simp [*]; done | refine AWp.regT (by kernel_rfl) (by kernel_rfl) rfl rfl ?_)
    ((apply AOpl.step); (focus rfl); (focus (simp [sliI_lo l (l.length - k) (by omega), hs, -Option.some.injEq]; rfl)))
    repeat (first | (first | (apply AOpl.step; rfl) | apply ASl.step); focus simp [*, -Option.some.injEq]; rfl | (first | (apply AOpl.stepG; rfl) | apply ASl.stepG); (focus simp [*]; done); focus simp [*, -Option.some.injEq]; rfl | (first | (apply AOpl.pass; rfl) | apply ASl.pass); (focus simp [*]; done) | (first | refine AOpl.nil ?_ | refine AWp.skip ?_ | refine AWp.exit ?_ | refine AWp.ret ?_ | refine ASl.nil ?_); try simp only [Then, InBlock, reduceIte, Nat.reduceEqDiff] | refine AWp.seq ?_ | refine AWp.reg rfl ?_ | refine AWp.block ?_ | apply AWp.condT; focus simp [*]; done | apply AWp.condF; focus simp [*]; done | refine AWp.regT (by kernel_rfl) (by kernel_rfl) rfl rfl ?_)
    (refine ⟨_, (by simp [*]; rfl), ?_⟩; (try simp only [packA]))
    all_goals simp [lastL]
set_option maxRecDepth 10000 in
set_option maxHeartbeats 4000000 in
theorem with_ok (l : List Int) (x : Int) (hl : l.length ≤ 1000) : FCall Tryz.prog cxG 47 [.lst (l.map cvI), .int .i64 x] fun r => r = .ret (.lst ((l ++ [x]).map cvI)) := by
  refine FCall.ofBodyL cvI_len Tryz.func47 rfl rfl fun nx => ?_
  repeat (first | (first | (apply AOpl.step; rfl) | apply ASl.step); focus simp [*, -Option.some.injEq]; rfl | (first | (apply AOpl.stepG; rfl) | apply ASl.stepG); (focus simp [*]; done); focus simp [*, -Option.some.injEq]; rfl | (first | (apply AOpl.pass; rfl) | apply ASl.pass); (focus simp [*]; done) | (first | refine AOpl.nil ?_ | refine AWp.skip ?_ | refine AWp.exit ?_ | refine AWp.ret ?_ | refine ASl.nil ?_); try simp only [Then, InBlock, reduceIte, Nat.reduceEqDiff] | refine AWp.seq ?_ | refine AWp.reg rfl ?_ | refine AWp.block ?_ | apply AWp.condT; focus simp [*]; done | apply AWp.condF; focus simp [*]; done | refine AWp.regT (by kernel_rfl) (by kernel_rfl) rfl rfl ?_)
  refine AOpl.appLst (k := 1) (cv := cvI) (l := []) (l2 := l) ti_Ints ti_int rfl rfl (by omega) (by simp) cvI_len cvI_one rfl rfl (by first | (simp [rd, putE]; done) | (simp [rd, putE]; rfl)) (by first | (simp [rd, putE, argE]; done) | (simp [rd, putE, argE]; rfl)) (Or.inl ⟨rfl, rfl⟩) (by simp; omega) ?_
  intro c1 H1 nx1 ho1 hn1 hfr1
  repeat (first | (first | (apply AOpl.step; rfl) | apply ASl.step); focus simp [*, -Option.some.injEq]; rfl | (first | (apply AOpl.stepG; rfl) | apply ASl.stepG); (focus simp [*]; done); focus simp [*, -Option.some.injEq]; rfl | (first | (apply AOpl.pass; rfl) | apply ASl.pass); (focus simp [*]; done) | (first | refine AOpl.nil ?_ | refine AWp.skip ?_ | refine AWp.exit ?_ | refine AWp.ret ?_ | refine ASl.nil ?_); try simp only [Then, InBlock, reduceIte, Nat.reduceEqDiff] | refine AWp.seq ?_ | refine AWp.reg rfl ?_ | refine AWp.block ?_ | apply AWp.condT; focus simp [*]; done | apply AWp.condF; focus simp [*]; done | refine AWp.regT (by kernel_rfl) (by kernel_rfl) rfl rfl ?_)
  refine AOpl.appRow (k := 1) (u := x) (l := [] ++ l) ti_Ints ti_int rfl rfl (by omega) (by simp) cvI_len cvI_one rfl rfl (by first | (simp [rd, putE]; done) | (simp [rd, putE]; rfl)) (by first | (simp [rd, putE]; done) | (simp [rd, putE]; rfl)) ((ho1.upd (Nat.le_refl _)).up (Nat.le_succ _)) (by simp [upd, cvI]) (by simp; omega) ?_
  intro c2 H2 nx2 ho2 hn2 hfr2
  repeat (first | (first | (apply AOpl.step; rfl) | apply ASl.step); focus simp [*, -Option.some.injEq]; rfl | (first | (apply AOpl.stepG; rfl) | apply ASl.stepG); (focus simp [*]; done); focus simp [*, -Option.some.injEq]; rfl | (first | (apply AOpl.pass; rfl) | apply ASl.pass); (focus simp [*]; done) | (first | refine AOpl.nil ?_ | refine AWp.skip ?_ | refine AWp.exit ?_ | refine AWp.ret ?_ | refine ASl.nil ?_); try simp only [Then, InBlock, reduceIte, Nat.reduceEqDiff] | refine AWp.seq ?_ | refine AWp.reg rfl ?_ | refine AWp.block ?_ | apply AWp.condT; focus simp [*]; done | apply AWp.condF; focus simp [*]; done | refine AWp.regT (by kernel_rfl) (by kernel_rfl) rfl rfl ?_)
  (refine ⟨_, (by simp [*]; rfl), ?_⟩; (try simp only [packA]))
  exact ⟨_, rfl, ho2⟩
theorem sliI_zero {H : Heap} (l : List Int) : sliA Tryz.prog H 49 (.lst (l.map cvI)) (some (.int .i64 0)) none = some (.lst (l.map cvI)) := by
  have := sliI_lo (H := H) l 0 (Nat.zero_le _)
  simpa using this
theorem lastL_app (a b : List Int) (k : Nat) (h : b.length < k) : lastL (a ++ b) k = lastL a (k - b.length) ++ b := by
  unfold lastL
  rw [List.length_append, List.drop_append]
  have e1 : a.length + b.length - k = a.length - (k - b.length) := by omega
  have e2 : a.length - (k - b.length) - a.length = 0 := by omega
  rw [e1, e2]; rfl
theorem lastL_app2 (a b : List Int) (k : Nat) (h : k ≤ b.length) : lastL (a ++ b) k = lastL b k := by
  unfold lastL
  rw [List.length_append, List.drop_append]
  have e1 : a.length + b.length - k - a.length = b.length - k := by omega
  have e2 : a.drop (a.length + b.length - k) = [] := List.drop_eq_nil_of_le (by omega)
  rw [e1, e2]; rfl
theorem lastL_all (b : List Int) (k : Nat) (h : b.length ≤ k) : lastL b k = b := by
  unfold lastL; rw [show b.length - k = 0 by omega]; rfl
set_option maxRecDepth 10000 in
set_option maxHeartbeats 4000000 in
theorem clast_ok (k : Nat) (l m : List Int) (hl : l.length ≤ 1000) (hm : m.length ≤ 1000) (hk : k ≤ 1000) : FCall Tryz.prog cxG 42 [.int .i64 k, .lst (l.map cvI), .lst (m.map cvI)] fun r => r = .ret (.lst ((lastL (l ++ m) k).map cvI)) := by
  obtain ⟨L, hL⟩ : ∃ L, L = lastL (l ++ m) k := ⟨_, rfl⟩
  rw [← hL]
  refine FCall.ofBodyL cvI_len Tryz.func42 rfl rfl fun nx => ?_
  by_cases h : m.length < k
  · obtain ⟨r, hr⟩ : ∃ r, k - m.length = r := ⟨_, rfl⟩
    rw [lastL_app l m k h, hr] at hL
    have w1 : IntKind.i64.wrap ((k : Int) - m.length) = (r : Int) := by rw [IntKind.wrap_i64]; omega
    have w2 : (0 : Int) < r := by omega
    have w3 : 0 < r := by omega
    obtain ⟨z, hz, hz0⟩ : ∃ z, IntKind.i64.wrap ((m.length : Int) - k) = z ∧ ¬ 0 < z := ⟨_, rfl, by rw [IntKind.wrap_i64]; omega⟩
    have fin : ∀ (c : CV) (H1 : Heap) (nx1 : Nat), OwnL cvI 1 H1 nx1 c (lastL l r ++ m) → ∃ c', Res.ret c = .ret c' ∧ OwnL cvI 1 H1 nx1 c' L := fun c H1 nx1 ho => ⟨c, rfl, by rw [hL]; exact ho⟩
    have lr : (lastL l r).length ≤ 1000 := by unfold lastL; rw [List.length_drop]; omega
    by_cases h2 : l.length ≤ r
    · obtain ⟨y, hy, hy0⟩ : ∃ y, IntKind.i64.wrap ((l.length : Int) - r) = y ∧ ¬ 0 < y := ⟨_, rfl, by rw [IntKind.wrap_i64]; omega⟩
      rw [lastL_all l r h2] at fin
      repeat (first | (first | (apply AOpl.step; rfl) | apply ASl.step); focus simp [*, -Option.some.injEq]; rfl | (first | (apply AOpl.stepG; rfl) | apply ASl.stepG); (focus simp [*]; done); focus simp [*, -Option.some.injEq]; rfl | (first | (apply AOpl.pass; rfl) | apply ASl.pass); (focus simp [*]; done) | (first | refine AOpl.nil ?_ | refine AWp.skip ?_ | refine AWp.exit ?_ | refine AWp.ret ?_ | refine ASl.nil ?_); try simp only [Then, InBlock, reduceIte, Nat.reduceEqDiff] | refine AWp.seq ?_ | refine AWp.reg rfl ?_ | refine AWp.block ?_ | apply AWp.condT; focus simp [*]; done | apply AWp.condF; focus simp [*]; done | refine AWp.regT (by kernel_rfl) (by kernel_rfl) rfl rfl ?_)
      ((apply AOpl.step); (focus rfl); (focus (simp [sliI_zero l, -Option.some.injEq]; rfl)))
      refine AOpl.appLst (k := 1) (cv := cvI) (l := []) (l2 := l) ti_Ints ti_int rfl rfl (by omega) (by simp) cvI_len cvI_one rfl rfl (by first | (simp [rd, putE]; done) | (simp [rd, putE]; rfl)) (by first | (simp [rd, putE, argE]; done) | (simp [rd, putE, argE]; rfl)) (Or.inl ⟨rfl, rfl⟩) (by simp; omega) ?_
      intro c1 H1 nx1 ho1 hn1 hfr1
      repeat (first | (first | (apply AOpl.step; rfl) | apply ASl.step); focus simp [*, -Option.some.injEq]; rfl | (first | (apply AOpl.stepG; rfl) | apply ASl.stepG); (focus simp [*]; done); focus simp [*, -Option.some.injEq]; rfl | (first | (apply AOpl.pass; rfl) | apply ASl.pass); (focus simp [*]; done) | (first | refine AOpl.nil ?_ | refine AWp.skip ?_ | refine AWp.exit ?_ | refine AWp.ret ?_ | refine ASl.nil ?_); try simp only [Then, InBlock, reduceIte, Nat.reduceEqDiff] | refine AWp.seq ?_ | refine AWp.reg rfl ?_ | refine AWp.block ?_ | apply AWp.condT; focus simp [*]; done | apply AWp.condF; focus simp [*]; done | refine AWp.regT (by kernel_rfl) (by kernel_rfl) rfl rfl ?_)
      ((apply AOpl.step); (focus rfl); (focus (simp [sliI_zero m, -Option.some.injEq]; rfl)))
      repeat (first | (first | (apply AOpl.step; rfl) | apply ASl.step); focus simp [*, -Option.some.injEq]; rfl | (first | (apply AOpl.stepG; rfl) | apply ASl.stepG); (focus simp [*]; done); focus simp [*, -Option.some.injEq]; rfl | (first | (apply AOpl.pass; rfl) | apply ASl.pass); (focus simp [*]; done) | (first | refine AOpl.nil ?_ | refine AWp.skip ?_ | refine AWp.exit ?_ | refine AWp.ret ?_ | refine ASl.nil ?_); try simp only [Then, InBlock, reduceIte, Nat.reduceEqDiff] | refine AWp.seq ?_ | refine AWp.reg rfl ?_ | refine AWp.block ?_ | apply AWp.condT; focus simp [*]; done | apply AWp.condF; focus simp [*]; done | refine AWp.regT (by kernel_rfl) (by kernel_rfl) rfl rfl ?_)
      refine AOpl.appLst (k := 1) (cv := cvI) (l := [] ++ l) (l2 := m) ti_Ints ti_int rfl rfl (by omega) (by simp) cvI_len cvI_one rfl rfl (by first | (simp [rd, putE]; done) | (simp [rd, putE]; rfl)) (by first | (simp [rd, putE, argE]; done) | (simp [rd, putE, argE]; rfl)) ho1 (by simp; omega) ?_
      intro c2 H2 nx2 ho2 hn2 hfr2
      repeat (first | (first | (apply AOpl.step; rfl) | apply ASl.step); focus simp [*, -Option.some.injEq]; rfl | (first | (apply AOpl.stepG; rfl) | apply ASl.stepG); (focus simp [*]; done); focus simp [*, -Option.some.injEq]; rfl | (first | (apply AOpl.pass; rfl) | apply ASl.pass); (focus simp [*]; done) | (first | refine AOpl.nil ?_ | refine AWp.skip ?_ | refine AWp.exit ?_ | refine AWp.ret ?_ | refine ASl.nil ?_); try simp only [Then, InBlock, reduceIte, Nat.reduceEqDiff] | refine AWp.seq ?_ | refine AWp.reg rfl ?_ | refine AWp.block ?_ | apply AWp.condT; focus simp [*]; done | apply AWp.condF; focus simp [*]; done | refine AWp.regT (by kernel_rfl) (by kernel_rfl) rfl rfl ?_)
      (refine ⟨_, (by simp [*]; rfl), ?_⟩; (try simp only [packA]))
      exact fin _ _ _ ho2
    · have hy : IntKind.i64.wrap ((l.length : Int) - r) = ((l.length - r : Nat) : Int) := by rw [IntKind.wrap_i64]; omega
      have hy0 : (0 : Int) < ((l.length - r : Nat) : Int) := by omega
      have hy1 : 0 < l.length - r := by omega
      have e : l.drop (l.length - r) = lastL l r := rfl
      repeat (first | (first | (apply AOpl.step; rfl) | apply ASl.step); focus simp [*, -Option.some.injEq]; rfl | (first | (apply AOpl.stepG; rfl) | apply ASl.stepG); (focus simp [*]; done); focus simp [*, -Option.some.injEq]; rfl | (first | (apply AOpl.pass; rfl) | apply ASl.pass); (focus simp [*]; done) | (first | refine AOpl.nil ?_ | refine AWp.skip ?_ | refine AWp.exit ?_ | refine AWp.ret ?_ | refine ASl.nil ?_); try simp only [Then, InBlock, reduceIte, Nat.reduceEqDiff] | refine AWp.seq ?_ | refine AWp.reg rfl ?_ | refine AWp.block ?_ | apply AWp.condT; focus simp [*]; done | apply AWp.condF; focus simp [*]; done | refine AWp.regT (by kernel_rfl) (by kernel_rfl) rfl rfl ?_)
      ((apply AOpl.step); (focus rfl); (focus (simp [sliI_lo l (l.length - r) (by omega), e, -Option.some.injEq]; rfl)))
      refine AOpl.appLst (k := 1) (cv := cvI) (l := []) (l2 := (lastL l r)) ti_Ints ti_int rfl rfl (by omega) (by simp) cvI_len cvI_one rfl rfl (by first | (simp [rd, putE]; done) | (simp [rd, putE]; rfl)) (by first | (simp [rd, putE, argE]; done) | (simp [rd, putE, argE]; rfl)) (Or.inl ⟨rfl, rfl⟩) (by simp; omega) ?_
      intro c1 H1 nx1 ho1 hn1 hfr1
      repeat (first | (first | (apply AOpl.step; rfl) | apply ASl.step); focus simp [*, -Option.some.injEq]; rfl | (first | (apply AOpl.stepG; rfl) | apply ASl.stepG); (focus simp [*]; done); focus simp [*, -Option.some.injEq]; rfl | (first | (apply AOpl.pass; rfl) | apply ASl.pass); (focus simp [*]; done) | (first | refine AOpl.nil ?_ | refine AWp.skip ?_ | refine AWp.exit ?_ | refine AWp.ret ?_ | refine ASl.nil ?_); try simp only [Then, InBlock, reduceIte, Nat.reduceEqDiff] | refine AWp.seq ?_ | refine AWp.reg rfl ?_ | refine AWp.block ?_ | apply AWp.condT; focus simp [*]; done | apply AWp.condF; focus simp [*]; done | refine AWp.regT (by kernel_rfl) (by kernel_rfl) rfl rfl ?_)
      ((apply AOpl.step); (focus rfl); (focus (simp [sliI_zero m, -Option.some.injEq]; rfl)))
      repeat (first | (first | (apply AOpl.step; rfl) | apply ASl.step); focus simp [*, -Option.some.injEq]; rfl | (first | (apply AOpl.stepG; rfl) | apply ASl.stepG); (focus simp [*]; done); focus simp [*, -Option.some.injEq]; rfl | (first | (apply AOpl.pass; rfl) | apply ASl.pass); (focus simp [*]; done) | (first | refine AOpl.nil ?_ | refine AWp.skip ?_ | refine AWp.exit ?_ | refine AWp.ret ?_ | refine ASl.nil ?_); try simp only [Then, InBlock, reduceIte, Nat.reduceEqDiff] | refine AWp.seq ?_ | refine AWp.reg rfl ?_ | refine AWp.block ?_ | apply AWp.condT; focus simp [*]; done | apply AWp.condF; focus simp [*]; done | refine AWp.regT (by kernel_rfl) (by kernel_rfl) rfl rfl ?_)
      refine AOpl.appLst (k := 1) (cv := cvI) (l := [] ++ (lastL l r)) (l2 := m) ti_Ints ti_int rfl rfl (by omega) (by simp) cvI_len cvI_one rfl rfl (by first | (simp [rd, putE]; done) | (simp [rd, putE]; rfl)) (by first | (simp [rd, putE, argE]; done) | (simp [rd, putE, argE]; rfl)) ho1 (by simp; omega) ?_
      intro c2 H2 nx2 ho2 hn2 hfr2
      repeat (first | (first | (apply AOpl.step; rfl) | apply ASl.step); focus simp [*, -Option.some.injEq]; rfl | (first | (apply AOpl.stepG; rfl) | apply ASl.stepG); (focus simp [*]; done); focus simp [*, -Option.some.injEq]; rfl | (first | (apply AOpl.pass; rfl) | apply ASl.pass); (focus simp [*]; done) | (first | refine AOpl.nil ?_ | refine AWp.skip ?_ | refine AWp.exit ?_ | refine AWp.ret ?_ | refine ASl.nil ?_); try simp only [Then, InBlock, reduceIte, Nat.reduceEqDiff] | refine AWp.seq ?_ | refine AWp.reg rfl ?_ | refine AWp.block ?_ | apply AWp.condT; focus simp [*]; done | apply AWp.condF; focus simp [*]; done | refine AWp.regT (by kernel_rfl) (by kernel_rfl) rfl rfl ?_)
      (refine ⟨_, (by simp [*]; rfl), ?_⟩; (try simp only [packA]))
      exact fin _ _ _ ho2
  · have hkm : k ≤ m.length := by omega
    rw [lastL_app2 l m k hkm] at hL
    have lr : (lastL m k).length ≤ 1000 := by unfold lastL; rw [List.length_drop]; omega
    obtain ⟨z, hz, hz0⟩ : ∃ z, IntKind.i64.wrap ((k : Int) - m.length) = z ∧ ¬ 0 < z := ⟨_, rfl, by rw [IntKind.wrap_i64]; omega⟩
    have fin : ∀ (c : CV) (H1 : Heap) (nx1 : Nat), OwnL cvI 1 H1 nx1 c (lastL m k) → ∃ c', Res.ret c = .ret c' ∧ OwnL cvI 1 H1 nx1 c' L := fun c H1 nx1 ho => ⟨c, rfl, by rw [hL]; exact ho⟩
    by_cases h2 : m.length = k
    · have hy : IntKind.i64.wrap ((m.length : Int) - k) = 0 := by rw [IntKind.wrap_i64]; omega
      rw [lastL_all m k (by omega)] at fin
      clear h2
      repeat (first | (first | (apply AOpl.step; rfl) | apply ASl.step); focus simp [*, -Option.some.injEq]; rfl | (first | (apply AOpl.stepG; rfl) | apply ASl.stepG); (focus simp [*]; done); focus simp [*, -Option.some.injEq]; rfl | (first | (apply AOpl.pass; rfl) | apply ASl.pass); (focus simp [*]; done) | (first | refine AOpl.nil ?_ | refine AWp.skip ?_ | refine AWp.exit ?_ | refine AWp.ret ?_ | refine ASl.nil ?_); try simp only [Then, InBlock, reduceIte, Nat.reduceEqDiff] | refine AWp.seq ?_ | refine AWp.reg rfl ?_ | refine AWp.block ?_ | apply AWp.condT; focus simp [*]; done | apply AWp.condF; focus simp [*]; done | refine AWp.regT (by kernel_rfl) (by kernel_rfl) rfl rfl ?_)
      ((apply AOpl.step); (focus rfl); (focus (simp [sliI_zero m, -Option.some.injEq]; rfl)))
      refine AOpl.appLst (k := 1) (cv := cvI) (l := []) (l2 := m) ti_Ints ti_int rfl rfl (by omega) (by simp) cvI_len cvI_one rfl rfl (by first | (simp [rd, putE]; done) | (simp [rd, putE]; rfl)) (by first | (simp [rd, putE, argE]; done) | (simp [rd, putE, argE]; rfl)) (Or.inl ⟨rfl, rfl⟩) (by simp; omega) ?_
      intro c2 H2 nx2 ho2 hn2 hfr2
      repeat (first | (first | (apply AOpl.step; rfl) | apply ASl.step); focus simp [*, -Option.some.injEq]; rfl | (first | (apply AOpl.stepG; rfl) | apply ASl.stepG); (focus simp [*]; done); focus simp [*, -Option.some.injEq]; rfl | (first | (apply AOpl.pass; rfl) | apply ASl.pass); (focus simp [*]; done) | (first | refine AOpl.nil ?_ | refine AWp.skip ?_ | refine AWp.exit ?_ | refine AWp.ret ?_ | refine ASl.nil ?_); try simp only [Then, InBlock, reduceIte, Nat.reduceEqDiff] | refine AWp.seq ?_ | refine AWp.reg rfl ?_ | refine AWp.block ?_ | apply AWp.condT; focus simp [*]; done | apply AWp.condF; focus simp [*]; done | refine AWp.regT (by kernel_rfl) (by kernel_rfl) rfl rfl ?_)
      (refine ⟨_, (by simp [*]; rfl), ?_⟩; (try simp only [packA]))
      exact fin _ _ _ ho2
    · have hy : IntKind.i64.wrap ((m.length : Int) - k) = ((m.length - k : Nat) : Int) := by rw [IntKind.wrap_i64]; omega
      have hy0 : (0 : Int) < ((m.length - k : Nat) : Int) := by omega
      have hy1 : 0 < m.length - k := by omega
      have e : m.drop (m.length - k) = lastL m k := rfl
      repeat (first | (first | (apply AOpl.step; rfl) | apply ASl.step); focus simp [*, -Option.some.injEq]; rfl | (first | (apply AOpl.stepG; rfl) | apply ASl.stepG); (focus simp [*]; done); focus simp [*, -Option.some.injEq]; rfl | (first | (apply AOpl.pass; rfl) | apply ASl.pass); (focus simp [*]; done) | (first | refine AOpl.nil ?_ | refine AWp.skip ?_ | refine AWp.exit ?_ | refine AWp.ret ?_ | refine ASl.nil ?_); try simp only [Then, InBlock, reduceIte, Nat.reduceEqDiff] | refine AWp.seq ?_ | refine AWp.reg rfl ?_ | refine AWp.block ?_ | apply AWp.condT; focus simp [*]; done | apply AWp.condF; focus simp [*]; done | refine AWp.regT (by kernel_rfl) (by kernel_rfl) rfl rfl ?_)
      ((apply AOpl.step); (focus rfl); (focus (simp [sliI_lo m (m.length - k) (by omega), e, -Option.some.injEq]; rfl)))
      refine AOpl.appLst (k := 1) (cv := cvI) (l := []) (l2 := (lastL m k)) ti_Ints ti_int rfl rfl (by omega) (by simp) cvI_len cvI_one rfl rfl (by first | (simp [rd, putE]; done) | (simp [rd, putE]; rfl)) (by first | (simp [rd, putE, argE]; done) | (simp [rd, putE, argE]; rfl)) (Or.inl ⟨rfl, rfl⟩) (by simp; omega) ?_
      intro c2 H2 nx2 ho2 hn2 hfr2
      repeat (first | (first | (apply AOpl.step; rfl) | apply ASl.step); focus simp [*, -Option.some.injEq]; rfl | (first | (apply AOpl.stepG; rfl) | apply ASl.stepG); (focus simp [*]; done); focus simp [*, -Option.some.injEq]; rfl | (first | (apply AOpl.pass; rfl) | apply ASl.pass); (focus simp [*]; done) | (first | refine AOpl.nil ?_ | refine AWp.skip ?_ | refine AWp.exit ?_ | refine AWp.ret ?_ | refine ASl.nil ?_); try simp only [Then, InBlock, reduceIte, Nat.reduceEqDiff] | refine AWp.seq ?_ | refine AWp.reg rfl ?_ | refine AWp.block ?_ | apply AWp.condT; focus simp [*]; done | apply AWp.condF; focus simp [*]; done | refine AWp.regT (by kernel_rfl) (by kernel_rfl) rfl rfl ?_)
      (refine ⟨_, (by simp [*]; rfl), ?_⟩; (try simp only [packA]))
      exact fin _ _ _ ho2
end Go.Proofs.YtdjllogimomgmaaGreatDoor
namespace Go.Proofs.YtdjllogimomgmaaGreatDoor
open Ax Tx
theorem ti_Sits : ti Tryz.prog 102 = some ⟨.slice 105, 1, .slice none 0 0, 24⟩ := by kernel_rfl
theorem ti_Sit : ti Tryz.prog 105 = some ⟨.struct #[⟨ "Func", 3, 0, false, "", "", 0⟩, ⟨ "Instr", 3, 1, false, "", "", 8⟩, ⟨ "Class", 9, 2, false, "", "", 16⟩], 3, .agg #[.int .i64 0, .int .i64 0, .string ⟨#[]⟩], 32⟩ := by kernel_rfl
end Go.Proofs.YtdjllogimomgmaaGreatDoor
namespace Go.Proofs.YtdjllogimomgmaaGreatDoor
open Ax Tx Go.RowKit
attribute [local simp] stepS Ax.stepT Dl.on qstep astep estep rd putE over argE ofV ofS loadA pickCells isAggD faddA fieldA partA iaddA idxA sliA bnd binA intA strA unA convA bltA lenA mapOf lookA findK keyD scalD storeA mupA appA srcA srcD upd drp Dl.hp Dl.nx CV.cs CV.one buildA placesA fillA zrep tasA ifaceD eqA eqFs eqIs range2 copyA nbeq nble nblt decEq beqI bneI beqS bneS isED Int.ofNat_inj List.getElem?_map List.getElem?_eq_getElem Option.map_some ti_int ti_bool ti_str ti_i64 ti_Strs ti_Hi ti_Cds ti_Cd ti_Flds ti_Fld ti_Sgs ti_Sg ti_Ins ti_Inss ti_Ints ti_Fu ti_Fus ti_Un ti_Se ti_Hs ti_Sits ti_Sit gd gdB callA resA op1
structure S3 where
  fn : Nat
  at_ : Nat
  cls : Bs
def cvS3 (s : S3) : List CV := [.int .i64 s.fn, .int .i64 s.at_, .str s.cls]
theorem cvS3_len (a : S3) : (cvS3 a).length = 3 := rfl
theorem cvS3_one (a : S3) : (cvS3 a).all CV.one = true := rfl
def sitesC (f : Nat) : Nat → List Ins → List S3
  | _, [] => []
  | i, x :: l => if x.op = 6 then ⟨f, i, x.cls⟩ :: sitesC f (i + 1) l else sitesC f (i + 1) l
def sitesU : Nat → List Fu → List S3
  | _, [] => []
  | f, fu :: l => sitesC f 0 fu.code ++ sitesU (f + 1) l
theorem own3_sep {H : Heap} {nx b : Nat} {x : CV} {acc : List S3} {L : List (List CV)} {rest : List CV} (ho : OwnL cvS3 3 H nx x acc) (hb : H b = some (.cells (.lst L :: rest))) : ∀ b', x = .sl b' 0 acc.length 3 → b ≠ b' := by
  rintro b' rfl rfl
  rcases ho with ⟨_, h⟩ | ⟨b2, h1, h2, _⟩
  · cases h
  · cases h1
    rw [hb] at h2
    cases acc with
    | nil => simp at h2
    | cons a l => simp [cvS3] at h2
set_option maxRecDepth 10000 in
set_option maxHeartbeats 16000000 in
theorem sites_ok (u : Un) (hu : UnB1 u) : FCall Tryz.prog cxG 48 [.agg (cvUn u)] fun r => r = .ret (.lst ((sitesU 0 u.funcs).map cvS3)) := by
  have hfl := hu.fl
  obtain ⟨L, hL⟩ : ∃ L, L = sitesU 0 u.funcs := ⟨_, rfl⟩
  rw [← hL]
  refine FCall.ofBodyL cvS3_len Tryz.func48 rfl rfl fun nx => ?_
  repeat (first | (first | (apply AOpl.step; rfl) | apply ASl.step); focus simp [*, -Option.some.injEq]; rfl | (first | (apply AOpl.stepG; rfl) | apply ASl.stepG); (focus simp [*]; done); focus simp [*, -Option.some.injEq]; rfl | (first | (apply AOpl.pass; rfl) | apply ASl.pass); (focus simp [*]; done) | (first | refine AOpl.nil ?_ | refine AWp.skip ?_ | refine AWp.exit ?_ | refine AWp.ret ?_ | refine ASl.nil ?_); try simp only [Then, InBlock, reduceIte, Nat.reduceEqDiff] | refine AWp.seq ?_ | refine AWp.reg rfl ?_ | refine AWp.block ?_ | apply AWp.condT; focus simp [*]; done | apply AWp.condF; focus simp [*]; done | refine AWp.regT (by kernel_rfl) (by kernel_rfl) rfl rfl ?_)
  refine AWp.countO u.funcs.length [3, 4, 5] 6 (fun i e H nx1 => ∃ acc, e 4 = .int .i64 i ∧ OwnL cvS3 3 H nx1 (e 3) acc ∧ acc.length ≤ 1000 * i ∧ H nx = some (.cells (cvUn u)) ∧ L = acc ++ sitesU i (u.funcs.drop i)) ⟨[], (by first | (simp (disch := omega) [putE, over, ofV, ofS, *]; done) | (simp (disch := omega) [putE, over, ofV, ofS, *]; rfl)), .inl ⟨rfl, (by first | (simp (disch := omega) [putE, over, ofV, ofS, *]; done) | (simp (disch := omega) [putE, over, ofV, ofS, *]; rfl))⟩, by simp, by simp [upd], by rw [hL]; rfl⟩ ?_
  clear hL
  rintro i v H nx1 hi hn1 ⟨acc, h4, ho, hal, hU, hL⟩
  simp only [cvUn] at hU
  have q1 : ∀ k, ¬ nx = nx1 + k := fun k => by omega
  obtain ⟨x, hx⟩ : ∃ x, v 3 = x := ⟨_, rfl⟩
  rw [hx] at ho
  repeat (first | (first | (apply AOpl.step; rfl) | apply ASl.step); focus simp [*, -Option.some.injEq]; rfl | (first | (apply AOpl.stepG; rfl) | apply ASl.stepG); (focus simp [*]; done); focus simp [*, -Option.some.injEq]; rfl | (first | (apply AOpl.pass; rfl) | apply ASl.pass); (focus simp [*]; done) | (first | refine AOpl.nil ?_ | refine AWp.skip ?_ | refine AWp.exit ?_ | refine AWp.ret ?_ | refine ASl.nil ?_); try simp only [Then, InBlock, reduceIte, Nat.reduceEqDiff] | refine AWp.seq ?_ | refine AWp.reg rfl ?_ | refine AWp.block ?_ | apply AWp.condT; focus simp [*]; done | apply AWp.condF; focus simp [*]; done | refine AWp.regT (by kernel_rfl) (by kernel_rfl) rfl rfl ?_)
  (((apply AWp.cond'); (focus (simp [*, -Ax.CV.bool.injEq]; rfl))) <;> (intro hb) <;> (try simp only [decide_eq_true_eq, decide_eq_false_iff_not, Bool.not_eq_true', Bool.not_eq_false', Bool.not_eq_true, Bool.not_eq_false] at hb))
  · have hlt : i < u.funcs.length := hb
    have hwi := wrap_up hlt (show u.funcs.length ≤ maxLen by simp only [maxLen]; omega)
    have hcl := (hu.fb _ (List.getElem_mem hlt)).cl
    rw [dropAt hlt, sitesU] at hL
    clear hb
    repeat (first | (first | (apply AOpl.step; rfl) | apply ASl.step); focus simp [*, -Option.some.injEq]; rfl | (first | (apply AOpl.stepG; rfl) | apply ASl.stepG); (focus simp [*]; done); focus simp [*, -Option.some.injEq]; rfl | (first | (apply AOpl.pass; rfl) | apply ASl.pass); (focus simp [*]; done) | (first | refine AOpl.nil ?_ | refine AWp.skip ?_ | refine AWp.exit ?_ | refine AWp.ret ?_ | refine ASl.nil ?_); try simp only [Then, InBlock, reduceIte, Nat.reduceEqDiff] | refine AWp.seq ?_ | refine AWp.reg rfl ?_ | refine AWp.block ?_ | apply AWp.condT; focus simp [*]; done | apply AWp.condF; focus simp [*]; done | refine AWp.regT (by kernel_rfl) (by kernel_rfl) rfl rfl ?_)
    refine AWp.countO u.funcs[i].code.length [3, 5] 6 (fun j e H nx2 => ∃ acc2, e 5 = .int .i64 j ∧ OwnL cvS3 3 H nx2 (e 3) acc2 ∧ acc2.length ≤ 1000 * i + j ∧ H nx = some (.cells (cvUn u)) ∧ L = acc2 ++ (sitesC i j (u.funcs[i].code.drop j) ++ sitesU (i + 1) (u.funcs.drop (i + 1)))) ⟨acc, (by first | (simp (disch := omega) [putE, over, ofV, ofS, *]; done) | (simp (disch := omega) [putE, over, ofV, ofS, *]; rfl)), by simpa [putE, over, hx] using ho, by omega, by simp [hU, cvUn], hL⟩ ?_
    clear hL ho hU hx hal
    rintro j v2 H2 nx2 hj hn2 ⟨acc2, h5, ho, hal, hU, hL⟩
    simp only [cvUn] at hU
    have q2 : ∀ k, ¬ nx = nx2 + k := fun k => by omega
    have q20 : ¬ nx = nx2 := by omega
    obtain ⟨x2, hx⟩ : ∃ x, v2 3 = x := ⟨_, rfl⟩
    rw [hx] at ho
    repeat (first | (first | (apply AOpl.step; rfl) | apply ASl.step); focus simp [cvFu, *, -Option.some.injEq]; rfl | (first | (apply AOpl.stepG; rfl) | apply ASl.stepG); (focus simp [cvFu, *]; done); focus simp [cvFu, *, -Option.some.injEq]; rfl | (first | (apply AOpl.pass; rfl) | apply ASl.pass); (focus simp [cvFu, *]; done) | (first | refine AOpl.nil ?_ | refine AWp.skip ?_ | refine AWp.exit ?_ | refine AWp.ret ?_ | refine ASl.nil ?_); try simp only [Then, InBlock, reduceIte, Nat.reduceEqDiff] | refine AWp.seq ?_ | refine AWp.reg rfl ?_ | refine AWp.block ?_ | apply AWp.condT; focus simp [cvFu, *]; done | apply AWp.condF; focus simp [cvFu, *]; done | refine AWp.regT (by kernel_rfl) (by kernel_rfl) rfl rfl ?_)
    (((apply AWp.cond'); (focus (simp [*, -Ax.CV.bool.injEq]; rfl))) <;> (intro hb) <;> (try simp only [decide_eq_true_eq, decide_eq_false_iff_not, Bool.not_eq_true', Bool.not_eq_false', Bool.not_eq_true, Bool.not_eq_false] at hb))
    · have hlj : j < u.funcs[i].code.length := hb
      have hwj := wrap_up hlj (show u.funcs[i].code.length ≤ maxLen by simp only [maxLen]; omega)
      rw [dropAt hlj, sitesC] at hL
      clear hb
      by_cases h6 : u.funcs[i].code[j].op = 6
      · rw [if_pos h6] at hL
        repeat (first | (first | (apply AOpl.step; rfl) | apply ASl.step); focus simp [cvFu, cvIns, *, -Option.some.injEq]; rfl | (first | (apply AOpl.stepG; rfl) | apply ASl.stepG); (focus simp [cvFu, cvIns, *]; done); focus simp [cvFu, cvIns, *, -Option.some.injEq]; rfl | (first | (apply AOpl.pass; rfl) | apply ASl.pass); (focus simp [cvFu, cvIns, *]; done) | (first | refine AOpl.nil ?_ | refine AWp.skip ?_ | refine AWp.exit ?_ | refine AWp.ret ?_ | refine ASl.nil ?_); try simp only [Then, InBlock, reduceIte, Nat.reduceEqDiff] | refine AWp.seq ?_ | refine AWp.reg rfl ?_ | refine AWp.block ?_ | apply AWp.condT; focus simp [cvFu, cvIns, *]; done | apply AWp.condF; focus simp [cvFu, cvIns, *]; done | refine AWp.regT (by kernel_rfl) (by kernel_rfl) rfl rfl ?_)
        refine AOpl.appRow (k := 3) (cv := cvS3) (l := acc2) (u := ⟨i, j, u.funcs[i].code[j].cls⟩) ti_Sits ti_Sit rfl rfl (by omega) (by simp) cvS3_len cvS3_one rfl rfl (by first | (simp [rd, putE, over, hx]; done) | (simp [rd, putE, over, hx]; rfl)) (by first | (simp [rd, putE]; done) | (simp [rd, putE]; rfl)) ((ho.upd (Nat.le_refl _)).up (Nat.le_succ _)) (by simp [upd, cvS3]) (by omega) ?_
        intro c' H3 nx3 ho' hnn hfr
        have hH3 : H3 nx = some (.cells (cvUn u)) := by
          rw [hfr nx (by omega) (own3_sep ho hU), upd_miss _ _ _ _ (by omega)]; simpa [cvUn] using hU
        repeat (first | (first | (apply AOpl.step; rfl) | apply ASl.step); focus simp [*, -Option.some.injEq]; rfl | (first | (apply AOpl.stepG; rfl) | apply ASl.stepG); (focus simp [*]; done); focus simp [*, -Option.some.injEq]; rfl | (first | (apply AOpl.pass; rfl) | apply ASl.pass); (focus simp [*]; done) | (first | refine AOpl.nil ?_ | refine AWp.skip ?_ | refine AWp.exit ?_ | refine AWp.ret ?_ | refine ASl.nil ?_); try simp only [Then, InBlock, reduceIte, Nat.reduceEqDiff] | refine AWp.seq ?_ | refine AWp.reg rfl ?_ | refine AWp.block ?_ | apply AWp.condT; focus simp [*]; done | apply AWp.condF; focus simp [*]; done | refine AWp.regT (by kernel_rfl) (by kernel_rfl) rfl rfl ?_)
        exact ⟨by ((repeat (first | exact Keeps.base _ _ _ _ | (with_reducible exact Keeps.refl _ _ _) | (refine Keeps.put rfl ?_) | (refine Keeps.over' rfl rfl ?_)))), hlj, acc2 ++ [⟨i, j, u.funcs[i].code[j].cls⟩], (by first | (simp (disch := omega) [putE, over, ofV, ofS, *]; done) | (simp (disch := omega) [putE, over, ofV, ofS, *]; rfl)), by simpa [putE, over] using ho', by simp; omega, hH3, by rw [hL]; simp⟩
      · rw [if_neg h6] at hL
        repeat (first | (first | (apply AOpl.step; rfl) | apply ASl.step); focus simp [cvFu, cvIns, *, -Option.some.injEq]; rfl | (first | (apply AOpl.stepG; rfl) | apply ASl.stepG); (focus simp [cvFu, cvIns, *]; done); focus simp [cvFu, cvIns, *, -Option.some.injEq]; rfl | (first | (apply AOpl.pass; rfl) | apply ASl.pass); (focus simp [cvFu, cvIns, *]; done) | (first | refine AOpl.nil ?_ | refine AWp.skip ?_ | refine AWp.exit ?_ | refine AWp.ret ?_ | refine ASl.nil ?_); try simp only [Then, InBlock, reduceIte, Nat.reduceEqDiff] | refine AWp.seq ?_ | refine AWp.reg rfl ?_ | refine AWp.block ?_ | apply AWp.condT; focus simp [cvFu, cvIns, *]; done | apply AWp.condF; focus simp [cvFu, cvIns, *]; done | refine AWp.regT (by kernel_rfl) (by kernel_rfl) rfl rfl ?_)
        exact ⟨by ((repeat (first | exact Keeps.base _ _ _ _ | (with_reducible exact Keeps.refl _ _ _) | (refine Keeps.put rfl ?_) | (refine Keeps.over' rfl rfl ?_)))), hlj, acc2, (by first | (simp (disch := omega) [putE, over, ofV, ofS, *]; done) | (simp (disch := omega) [putE, over, ofV, ofS, *]; rfl)), by simpa [putE, over, hx] using ho, by omega, by simp [hU, cvUn], hL⟩
    · have hj' : j = u.funcs[i].code.length := by omega
      rw [dropEnd hj hb, sitesC, List.nil_append] at hL
      clear hb
      repeat (first | (first | (apply AOpl.step; rfl) | apply ASl.step); focus simp [*, -Option.some.injEq]; rfl | (first | (apply AOpl.stepG; rfl) | apply ASl.stepG); (focus simp [*]; done); focus simp [*, -Option.some.injEq]; rfl | (first | (apply AOpl.pass; rfl) | apply ASl.pass); (focus simp [*]; done) | (first | refine AOpl.nil ?_ | refine AWp.skip ?_ | refine AWp.exit ?_ | refine AWp.ret ?_ | refine ASl.nil ?_); try simp only [Then, InBlock, reduceIte, Nat.reduceEqDiff] | refine AWp.seq ?_ | refine AWp.reg rfl ?_ | refine AWp.block ?_ | apply AWp.condT; focus simp [*]; done | apply AWp.condF; focus simp [*]; done | refine AWp.regT (by kernel_rfl) (by kernel_rfl) rfl rfl ?_)
      exact ⟨by ((repeat (first | exact Keeps.base _ _ _ _ | (with_reducible exact Keeps.refl _ _ _) | (refine Keeps.put rfl ?_) | (refine Keeps.over' rfl rfl ?_)))), hlt, acc2, (by first | (simp (disch := omega) [putE, over, ofV, ofS, *]; done) | (simp (disch := omega) [putE, over, ofV, ofS, *]; rfl)), by simpa [putE, over, hx] using ho, by omega, by simp [hU, cvUn], hL⟩
  · rw [dropEnd hi hb, sitesU, List.append_nil] at hL
    clear hb
    repeat (first | (first | (apply AOpl.step; rfl) | apply ASl.step); focus simp [*, -Option.some.injEq]; rfl | (first | (apply AOpl.stepG; rfl) | apply ASl.stepG); (focus simp [*]; done); focus simp [*, -Option.some.injEq]; rfl | (first | (apply AOpl.pass; rfl) | apply ASl.pass); (focus simp [*]; done) | (first | refine AOpl.nil ?_ | refine AWp.skip ?_ | refine AWp.exit ?_ | refine AWp.ret ?_ | refine ASl.nil ?_); try simp only [Then, InBlock, reduceIte, Nat.reduceEqDiff] | refine AWp.seq ?_ | refine AWp.reg rfl ?_ | refine AWp.block ?_ | apply AWp.condT; focus simp [*]; done | apply AWp.condF; focus simp [*]; done | refine AWp.regT (by kernel_rfl) (by kernel_rfl) rfl rfl ?_)
    (refine ⟨_, (by simp [*]; rfl), ?_⟩; (try simp only [packA]))
    exact ⟨_, rfl, by rw [hL]; exact ho⟩
end Go.Proofs.YtdjllogimomgmaaGreatDoor
namespace Go.Proofs.YtdjllogimomgmaaGreatDoor
open Ax Tx Go.RowKit
attribute [local simp] stepS Ax.stepT Dl.on qstep astep estep rd putE over argE ofV ofS loadA pickCells isAggD faddA fieldA partA iaddA idxA sliA bnd binA intA strA unA convA bltA lenA mapOf lookA findK keyD scalD storeA mupA appA srcA srcD upd drp Dl.hp Dl.nx CV.cs CV.one buildA placesA fillA zrep tasA ifaceD eqA eqFs eqIs range2 copyA nbeq nble nblt decEq beqI bneI beqS bneS isED Int.ofNat_inj List.getElem?_map List.getElem?_eq_getElem Option.map_some ti_int ti_bool ti_str ti_i64 ti_Strs ti_Hi ti_Cds ti_Cd ti_Flds ti_Fld ti_Sgs ti_Sg ti_Ins ti_Inss ti_Ints ti_Fu ti_Fus ti_Un ti_Se ti_Hs ti_Sits ti_Sit gd gdB callA resA op1
def siteAt (u : Un) (site : Int) : Option S3 := if site < 0 then none else (sitesU 0 u.funcs)[site.toNat]?
def ownI (o : Option S3) : Int := match o with
  | some p => p.fn
  | none => -1
set_option maxRecDepth 10000 in
set_option maxHeartbeats 16000000 in
theorem owner_ok (u : Un) (hu : UnB1 u) (site : Int) (hs : site ≤ maxLen) : FCall Tryz.prog cxG 43 [.agg (cvUn u), .int .i64 site] fun r => r = .ret (.int .i64 (ownI (siteAt u site))) := by
  have hfl := hu.fl
  obtain ⟨w, hw⟩ : ∃ w, w = ownI (siteAt u site) := ⟨_, rfl⟩
  rw [← hw]
  unfold siteAt at hw
  refine FCall.ofBody Tryz.func43 rfl rfl fun nx => ?_
  by_cases h0 : site < 0
  · rw [if_pos h0] at hw
    repeat (first | (first | (apply AOpl.step; rfl) | apply ASl.step); focus simp [cvUn, *, -Option.some.injEq]; rfl | (first | (apply AOpl.stepG; rfl) | apply ASl.stepG); (focus simp [cvUn, *]; done); focus simp [cvUn, *, -Option.some.injEq]; rfl | (first | (apply AOpl.pass; rfl) | apply ASl.pass); (focus simp [cvUn, *]; done) | (first | refine AOpl.nil ?_ | refine AWp.skip ?_ | refine AWp.exit ?_ | refine AWp.ret ?_ | refine ASl.nil ?_); try simp only [Then, InBlock, reduceIte, Nat.reduceEqDiff] | refine AWp.seq ?_ | refine AWp.reg rfl ?_ | refine AWp.block ?_ | apply AWp.condT; focus simp [cvUn, *]; done | apply AWp.condF; focus simp [cvUn, *]; done | refine AWp.regT (by kernel_rfl) (by kernel_rfl) rfl rfl ?_)
    (refine ⟨_, (by simp [*]; rfl), ?_⟩; (try simp only [packA]))
    all_goals (rw [hw] <;> rfl)
  rw [if_neg h0] at hw
  obtain ⟨k0, hk0⟩ : ∃ k0 : Nat, site = k0 := ⟨site.toNat, by omega⟩
  subst hk0
  simp only [Int.toNat_natCast] at hw
  have hkb : k0 ≤ maxLen := by omega
  repeat (first | (first | (apply AOpl.step; rfl) | apply ASl.step); focus simp [cvUn, *, -Option.some.injEq]; rfl | (first | (apply AOpl.stepG; rfl) | apply ASl.stepG); (focus simp [cvUn, *]; done); focus simp [cvUn, *, -Option.some.injEq]; rfl | (first | (apply AOpl.pass; rfl) | apply ASl.pass); (focus simp [cvUn, *]; done) | (first | refine AOpl.nil ?_ | refine AWp.skip ?_ | refine AWp.exit ?_ | refine AWp.ret ?_ | refine ASl.nil ?_); try simp only [Then, InBlock, reduceIte, Nat.reduceEqDiff] | refine AWp.seq ?_ | refine AWp.reg rfl ?_ | refine AWp.block ?_ | apply AWp.condT; focus simp [cvUn, *]; done | apply AWp.condF; focus simp [cvUn, *]; done | refine AWp.regT (by kernel_rfl) (by kernel_rfl) rfl rfl ?_)
  refine AWp.countO u.funcs.length [1, 4, 5, 6, 7, 13] 14 (fun i e H _ => ∃ k : Nat, e 1 = .int .i64 k ∧ e 13 = .int .i64 i ∧ k ≤ maxLen ∧ w = ownI ((sitesU i (u.funcs.drop i))[k]?)) ⟨k0, (by first | (simp (disch := omega) [putE, over, ofV, ofS, *]; done) | (simp (disch := omega) [putE, over, ofV, ofS, *]; rfl)), (by first | (simp (disch := omega) [putE, over, ofV, ofS, *]; done) | (simp (disch := omega) [putE, over, ofV, ofS, *]; rfl)), hkb, hw⟩ ?_
  clear hw h0 hs
  rintro i v H nx1 hi hn1 ⟨k, h1, h13, hk, hw⟩
  repeat (first | (first | (apply AOpl.step; rfl) | apply ASl.step); focus simp [*, -Option.some.injEq]; rfl | (first | (apply AOpl.stepG; rfl) | apply ASl.stepG); (focus simp [*]; done); focus simp [*, -Option.some.injEq]; rfl | (first | (apply AOpl.pass; rfl) | apply ASl.pass); (focus simp [*]; done) | (first | refine AOpl.nil ?_ | refine AWp.skip ?_ | refine AWp.exit ?_ | refine AWp.ret ?_ | refine ASl.nil ?_); try simp only [Then, InBlock, reduceIte, Nat.reduceEqDiff] | refine AWp.seq ?_ | refine AWp.reg rfl ?_ | refine AWp.block ?_ | apply AWp.condT; focus simp [*]; done | apply AWp.condF; focus simp [*]; done | refine AWp.regT (by kernel_rfl) (by kernel_rfl) rfl rfl ?_)
  (((apply AWp.cond'); (focus (simp [*, -Ax.CV.bool.injEq]; rfl))) <;> (intro hb) <;> (try simp only [decide_eq_true_eq, decide_eq_false_iff_not, Bool.not_eq_true', Bool.not_eq_false', Bool.not_eq_true, Bool.not_eq_false] at hb))
  · have hlt : i < u.funcs.length := hb
    have hwi := wrap_up hlt (show u.funcs.length ≤ maxLen by simp only [maxLen]; omega)
    have hcl := (hu.fb _ (List.getElem_mem hlt)).cl
    rw [dropAt hlt, sitesU] at hw
    clear hb
    generalize hf : u.funcs[i] = f at *
    repeat (first | (first | (apply AOpl.step; rfl) | apply ASl.step); focus simp [cvFu, *, -Option.some.injEq]; rfl | (first | (apply AOpl.stepG; rfl) | apply ASl.stepG); (focus simp [cvFu, *]; done); focus simp [cvFu, *, -Option.some.injEq]; rfl | (first | (apply AOpl.pass; rfl) | apply ASl.pass); (focus simp [cvFu, *]; done) | (first | refine AOpl.nil ?_ | refine AWp.skip ?_ | refine AWp.exit ?_ | refine AWp.ret ?_ | refine ASl.nil ?_); try simp only [Then, InBlock, reduceIte, Nat.reduceEqDiff] | refine AWp.seq ?_ | refine AWp.reg rfl ?_ | refine AWp.block ?_ | apply AWp.condT; focus simp [cvFu, *]; done | apply AWp.condF; focus simp [cvFu, *]; done | refine AWp.regT (by kernel_rfl) (by kernel_rfl) rfl rfl ?_)
    refine AWp.countO f.code.length [1, 4, 7, 21] 22 (fun j e H _ => ∃ k : Nat, e 1 = .int .i64 k ∧ e 21 = .int .i64 j ∧ k ≤ maxLen ∧ H nx1 = some (.cells (cvFu f)) ∧ w = ownI ((sitesC i j (f.code.drop j) ++ sitesU (i + 1) (u.funcs.drop (i + 1)))[k]?)) ⟨k, (by first | (simp (disch := omega) [putE, over, ofV, ofS, *]; done) | (simp (disch := omega) [putE, over, ofV, ofS, *]; rfl)), (by first | (simp (disch := omega) [putE, over, ofV, ofS, *]; done) | (simp (disch := omega) [putE, over, ofV, ofS, *]; rfl)), hk, by simp [upd, cvFu], hw⟩ ?_
    clear hw h1 hk k
    rintro j v2 H2 nx2 hj hn2 ⟨k, h1, h21, hk, hF, hw⟩
    simp only [cvFu] at hF
    repeat (first | (first | (apply AOpl.step; rfl) | apply ASl.step); focus simp [*, -Option.some.injEq]; rfl | (first | (apply AOpl.stepG; rfl) | apply ASl.stepG); (focus simp [*]; done); focus simp [*, -Option.some.injEq]; rfl | (first | (apply AOpl.pass; rfl) | apply ASl.pass); (focus simp [*]; done) | (first | refine AOpl.nil ?_ | refine AWp.skip ?_ | refine AWp.exit ?_ | refine AWp.ret ?_ | refine ASl.nil ?_); try simp only [Then, InBlock, reduceIte, Nat.reduceEqDiff] | refine AWp.seq ?_ | refine AWp.reg rfl ?_ | refine AWp.block ?_ | apply AWp.condT; focus simp [*]; done | apply AWp.condF; focus simp [*]; done | refine AWp.regT (by kernel_rfl) (by kernel_rfl) rfl rfl ?_)
    (((apply AWp.cond'); (focus (simp [*, -Ax.CV.bool.injEq]; rfl))) <;> (intro hb) <;> (try simp only [decide_eq_true_eq, decide_eq_false_iff_not, Bool.not_eq_true', Bool.not_eq_false', Bool.not_eq_true, Bool.not_eq_false] at hb))
    · have hlj : j < f.code.length := hb
      have hwj := wrap_up hlj (show f.code.length ≤ maxLen by simp only [maxLen]; omega)
      rw [dropAt hlj, sitesC] at hw
      clear hb
      by_cases h6 : f.code[j].op = 6
      · rw [if_pos h6] at hw
        by_cases hz : k = 0
        · subst hz
          have hw' : w = (i : Int) := by rw [hw]; rfl
          clear hw
          repeat (first | (first | (apply AOpl.step; rfl) | apply ASl.step); focus simp [cvIns, *, -Option.some.injEq]; rfl | (first | (apply AOpl.stepG; rfl) | apply ASl.stepG); (focus simp [cvIns, *]; done); focus simp [cvIns, *, -Option.some.injEq]; rfl | (first | (apply AOpl.pass; rfl) | apply ASl.pass); (focus simp [cvIns, *]; done) | (first | refine AOpl.nil ?_ | refine AWp.skip ?_ | refine AWp.exit ?_ | refine AWp.ret ?_ | refine ASl.nil ?_); try simp only [Then, InBlock, reduceIte, Nat.reduceEqDiff] | refine AWp.seq ?_ | refine AWp.reg rfl ?_ | refine AWp.block ?_ | apply AWp.condT; focus simp [cvIns, *]; done | apply AWp.condF; focus simp [cvIns, *]; done | refine AWp.regT (by kernel_rfl) (by kernel_rfl) rfl rfl ?_)
          (refine ⟨_, (by simp [*]; rfl), ?_⟩; (try simp only [packA]))
          all_goals (rw [hw'] <;> rfl)
        · obtain ⟨k', rfl⟩ : ∃ k', k = k' + 1 := ⟨k - 1, by omega⟩
          have hne : ¬ (((k' + 1 : Nat) : Int)) = 0 := by omega
          have hne2 : ¬ (k' : Int) + 1 = 0 := by omega
          have hws : IntKind.i64.wrap (((k' + 1 : Nat) : Int) - 1) = (k' : Int) := by rw [IntKind.wrap_i64]; simp only [maxLen] at hk; omega
          have hws2 : IntKind.i64.wrap ((k' : Int) + 1 - 1) = (k' : Int) := by rw [IntKind.wrap_i64]; simp only [maxLen] at hk; omega
          have hws3 : IntKind.i64.wrap (k' : Int) = (k' : Int) := by rw [IntKind.wrap_i64]; simp only [maxLen] at hk; omega
          rw [List.cons_append, List.getElem?_cons_succ] at hw
          repeat (first | (first | (apply AOpl.step; rfl) | apply ASl.step); focus simp [cvIns, *, -Option.some.injEq]; rfl | (first | (apply AOpl.stepG; rfl) | apply ASl.stepG); (focus simp [cvIns, *]; done); focus simp [cvIns, *, -Option.some.injEq]; rfl | (first | (apply AOpl.pass; rfl) | apply ASl.pass); (focus simp [cvIns, *]; done) | (first | refine AOpl.nil ?_ | refine AWp.skip ?_ | refine AWp.exit ?_ | refine AWp.ret ?_ | refine ASl.nil ?_); try simp only [Then, InBlock, reduceIte, Nat.reduceEqDiff] | refine AWp.seq ?_ | refine AWp.reg rfl ?_ | refine AWp.block ?_ | apply AWp.condT; focus simp [cvIns, *]; done | apply AWp.condF; focus simp [cvIns, *]; done | refine AWp.regT (by kernel_rfl) (by kernel_rfl) rfl rfl ?_)
          exact ⟨by ((repeat (first | exact Keeps.base _ _ _ _ | (with_reducible exact Keeps.refl _ _ _) | (refine Keeps.put rfl ?_) | (refine Keeps.over' rfl rfl ?_)))), hlj, k', (by first | (simp (disch := omega) [putE, over, ofV, ofS, *]; done) | (simp (disch := omega) [putE, over, ofV, ofS, *]; rfl)), (by first | (simp (disch := omega) [putE, over, ofV, ofS, *]; done) | (simp (disch := omega) [putE, over, ofV, ofS, *]; rfl)), by omega, by simp [hF, cvFu], hw⟩
      · rw [if_neg h6] at hw
        repeat (first | (first | (apply AOpl.step; rfl) | apply ASl.step); focus simp [cvIns, *, -Option.some.injEq]; rfl | (first | (apply AOpl.stepG; rfl) | apply ASl.stepG); (focus simp [cvIns, *]; done); focus simp [cvIns, *, -Option.some.injEq]; rfl | (first | (apply AOpl.pass; rfl) | apply ASl.pass); (focus simp [cvIns, *]; done) | (first | refine AOpl.nil ?_ | refine AWp.skip ?_ | refine AWp.exit ?_ | refine AWp.ret ?_ | refine ASl.nil ?_); try simp only [Then, InBlock, reduceIte, Nat.reduceEqDiff] | refine AWp.seq ?_ | refine AWp.reg rfl ?_ | refine AWp.block ?_ | apply AWp.condT; focus simp [cvIns, *]; done | apply AWp.condF; focus simp [cvIns, *]; done | refine AWp.regT (by kernel_rfl) (by kernel_rfl) rfl rfl ?_)
        exact ⟨by ((repeat (first | exact Keeps.base _ _ _ _ | (with_reducible exact Keeps.refl _ _ _) | (refine Keeps.put rfl ?_) | (refine Keeps.over' rfl rfl ?_)))), hlj, k, (by first | (simp (disch := omega) [putE, over, ofV, ofS, *]; done) | (simp (disch := omega) [putE, over, ofV, ofS, *]; rfl)), (by first | (simp (disch := omega) [putE, over, ofV, ofS, *]; done) | (simp (disch := omega) [putE, over, ofV, ofS, *]; rfl)), hk, by simp [hF, cvFu], hw⟩
    · rw [dropEnd hj hb, sitesC, List.nil_append] at hw
      clear hb
      repeat (first | (first | (apply AOpl.step; rfl) | apply ASl.step); focus simp [*, -Option.some.injEq]; rfl | (first | (apply AOpl.stepG; rfl) | apply ASl.stepG); (focus simp [*]; done); focus simp [*, -Option.some.injEq]; rfl | (first | (apply AOpl.pass; rfl) | apply ASl.pass); (focus simp [*]; done) | (first | refine AOpl.nil ?_ | refine AWp.skip ?_ | refine AWp.exit ?_ | refine AWp.ret ?_ | refine ASl.nil ?_); try simp only [Then, InBlock, reduceIte, Nat.reduceEqDiff] | refine AWp.seq ?_ | refine AWp.reg rfl ?_ | refine AWp.block ?_ | apply AWp.condT; focus simp [*]; done | apply AWp.condF; focus simp [*]; done | refine AWp.regT (by kernel_rfl) (by kernel_rfl) rfl rfl ?_)
      exact ⟨by ((repeat (first | exact Keeps.base _ _ _ _ | (with_reducible exact Keeps.refl _ _ _) | (refine Keeps.put rfl ?_) | (refine Keeps.over' rfl rfl ?_)))), hlt, k, (by first | (simp (disch := omega) [putE, over, ofV, ofS, *]; done) | (simp (disch := omega) [putE, over, ofV, ofS, *]; rfl)), (by first | (simp (disch := omega) [putE, over, ofV, ofS, *]; done) | (simp (disch := omega) [putE, over, ofV, ofS, *]; rfl)), hk, hw⟩
  · rw [dropEnd hi hb, sitesU] at hw
    clear hb
    repeat (first | (first | (apply AOpl.step; rfl) | apply ASl.step); focus simp [*, -Option.some.injEq]; rfl | (first | (apply AOpl.stepG; rfl) | apply ASl.stepG); (focus simp [*]; done); focus simp [*, -Option.some.injEq]; rfl | (first | (apply AOpl.pass; rfl) | apply ASl.pass); (focus simp [*]; done) | (first | refine AOpl.nil ?_ | refine AWp.skip ?_ | refine AWp.exit ?_ | refine AWp.ret ?_ | refine ASl.nil ?_); try simp only [Then, InBlock, reduceIte, Nat.reduceEqDiff] | refine AWp.seq ?_ | refine AWp.reg rfl ?_ | refine AWp.block ?_ | apply AWp.condT; focus simp [*]; done | apply AWp.condF; focus simp [*]; done | refine AWp.regT (by kernel_rfl) (by kernel_rfl) rfl rfl ?_)
    (refine ⟨_, (by simp [*]; rfl), ?_⟩; (try simp only [packA]))
    all_goals (rw [hw] <;> rfl)
theorem ACall.fresh {P : Program} {G : Nat → CV} {f : FuncId} {args : List CV} {H : Heap} {nx : Nat} {Q : Res → Heap → Nat → Prop} (h : (∀ b, nx ≤ b → H b = none) → ACall P G f args H nx Q) : ACall P G f args H nx Q := fun M w vs g r v =>
  h (fun b hb => by
    cases hH : H b with
    | none => rfl
    | some k => obtain ⟨gg, m, h1, _⟩ := r.blk b k hH; rw [r.fresh b hb] at h1; cases h1) M w vs g r v
theorem ACall.back {P : Program} {G : Nat → CV} {f : FuncId} {args : List CV} {H : Heap} {nx : Nat} {Q : Res → Prop} (h : ACall P G f args H nx fun r H' _ => Sub H H' ∧ Q r) : ACall P G f args H nx fun r H' _ => H' = H ∧ Q r := fun M w vs g r v =>
  (h M w vs g r v).mono fun _ _ ⟨M', x, H', n', a1, a2, a3, hs, hq⟩ => ⟨M', x, H, n', a1, a2.weak hs, a3.trans (Fr.weak hs), rfl, hq⟩
theorem Sub.up {H : Heap} {b : Nat} {k : CB} (h : H b = none) : Sub H (upd H b k) := fun x y hx => by
  by_cases e : x = b
  · subst e; rw [h] at hx; cases hx
  · rw [upd_miss _ _ _ _ e]; exact hx
set_option maxRecDepth 10000 in
set_option maxHeartbeats 4000000 in
theorem pushFn_ok (u : Un) (c : Cd) (f b5 b11 : Nat) (hf : f < u.funcs.length) (H : Heap) (nx : Nat) (h5 : H b5 = some (.cells (cvUn u))) (h11 : H b11 = some (.cells [.int .i64 f])) :
    ACall Tryz.prog cxG 45 [.agg (cvCd c), .ptr b5 0, .ptr b11 0] H nx fun r H' _ => H' = H ∧ r = .ret (.bool (decide (c.name = u.funcs[f].cls))) := by
  refine ACall.fresh fun hfr => ACall.back ?_
  refine ACall.ofBody' Tryz.func45 rfl rfl ?_
  have n5 : ¬ b5 = nx := fun e => by rw [e, hfr nx (Nat.le_refl _)] at h5; cases h5
  have n11 : ¬ b11 = nx := fun e => by rw [e, hfr nx (Nat.le_refl _)] at h11; cases h11
  have h0 := hfr nx (Nat.le_refl _)
  simp only [cvUn] at h5
  clear hfr
  repeat (first | (first | (apply AOpl.step; rfl) | apply ASl.step); focus simp [cvCd, cvFu, *, -Option.some.injEq]; rfl | (first | (apply AOpl.stepG; rfl) | apply ASl.stepG); (focus simp [cvCd, cvFu, *]; done); focus simp [cvCd, cvFu, *, -Option.some.injEq]; rfl | (first | (apply AOpl.pass; rfl) | apply ASl.pass); (focus simp [cvCd, cvFu, *]; done) | (first | refine AOpl.nil ?_ | refine AWp.skip ?_ | refine AWp.exit ?_ | refine AWp.ret ?_ | refine ASl.nil ?_); try simp only [Then, InBlock, reduceIte, Nat.reduceEqDiff] | refine AWp.seq ?_ | refine AWp.reg rfl ?_ | refine AWp.block ?_ | apply AWp.condT; focus simp [cvCd, cvFu, *]; done | apply AWp.condF; focus simp [cvCd, cvFu, *]; done | refine AWp.regT (by kernel_rfl) (by kernel_rfl) rfl rfl ?_)
  (refine ⟨_, (by simp [*]; rfl), ?_⟩; (try simp only [packA]))
  exact ⟨Sub.up h0, by trivial⟩
end Go.Proofs.YtdjllogimomgmaaGreatDoor
