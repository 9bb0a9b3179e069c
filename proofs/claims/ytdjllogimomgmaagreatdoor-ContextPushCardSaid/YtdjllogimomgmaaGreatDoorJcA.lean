/-
  The order of contexts and what remains of them: context and the reference, walked.
-/
import Derived.Test.YtdjllogimomgmaaGreatDoorCxAwake2
import Derived.Test.YtdjllogimomgmaaGreatDoorJaE
import Derived.Test.YtdjllogimomgmaaGreatDoorJuA
set_option linter.unusedSimpArgs false
set_option linter.unusedVariables false
namespace Go.Proofs.YtdjllogimomgmaaGreatDoor
open Ax Tx
theorem ti_int : ti Tryz.prog 3 = some ⟨.int .i64, 1, .int .i64 0, 8⟩ := by kernel_rfl
theorem ti_Ints : ti Tryz.prog 49 = some ⟨.slice 3, 1, .slice none 0 0, 24⟩ := by kernel_rfl
theorem ti_fixed : ti Tryz.prog 110 = some ⟨.array 2 3, 2, .agg #[.int .i64 0, .int .i64 0], 16⟩ := by kernel_rfl
end Go.Proofs.YtdjllogimomgmaaGreatDoor
namespace Go.Proofs.YtdjllogimomgmaaGreatDoor
open Ax Tx Go.RowKit
attribute [local simp] stepS Ax.stepT Dl.on qstep astep estep rd putE argE ofV ofS loadA pickCells isAggD faddA fieldA partA iaddA idxA sliA bnd binA intA strA unA convA bltA lenA mapOf lookA findK keyD scalD storeA mupA appA srcA srcD upd drp Dl.hp Dl.nx CV.cs CV.one buildA placesA fillA zrep tasA ifaceD eqA eqFs eqIs range2 copyA nbeq nble nblt decEq ti_int ti_Ints ti_fixed gd gdB callA resA op1
theorem wrap_up {i N : Nat} (h : i < N) (hn : N ≤ maxLen) : IntKind.i64.wrap ((i : Int) + 1) = ((i + 1 : Nat) : Int) := by
  rw [IntKind.wrap_i64]; simp only [maxLen] at hn; omega
theorem ints_at {l : List Int} {i : Nat} (h : i < l.length) : (l.map cvI)[i]? = some [.int .i64 l[i]] := by
  rw [List.getElem?_map, List.getElem?_eq_getElem h]; rfl
end Go.Proofs.YtdjllogimomgmaaGreatDoor
namespace Go.Proofs.YtdjllogimomgmaaGreatDoor
open Ax Tx Go.RowKit
attribute [local simp] stepS Ax.stepT Dl.on qstep astep estep rd putE argE ofV ofS loadA pickCells isAggD faddA fieldA partA iaddA idxA sliA bnd binA intA strA unA convA bltA lenA mapOf lookA findK keyD scalD storeA mupA appA srcA srcD upd drp Dl.hp Dl.nx CV.cs CV.one buildA placesA fillA zrep tasA ifaceD eqA eqFs eqIs range2 copyA nbeq nble nblt decEq ti_int ti_Ints ti_fixed gd gdB callA resA op1
set_option maxRecDepth 10000 in
theorem sEqual_ok (a b : List Int) (ha : a.length ≤ maxLen) : FCall Tryz.prog cxG 50 [.lst (a.map cvI), .lst (b.map cvI)] (fun r => r = .ret (.bool (decide (a = b)))) := by
  refine FCall.ofBody Tryz.func50 rfl rfl fun nx => ?_
  repeat (first | (first | (apply AOpl.step; rfl) | apply AQl.step | apply ASl.step); focus simp [-Option.some.injEq]; rfl | (first | (apply AOpl.stepG; rfl) | apply AQl.stepG | apply ASl.stepG); (focus simp; done); focus simp [-Option.some.injEq]; rfl | (first | (apply AOpl.pass; rfl) | apply AQl.pass | apply ASl.pass); (focus simp; done) | (first | refine AOpl.nil ?_ | refine AWp.skip ?_ | refine AWp.exit ?_ | refine AWp.ret ?_ | refine AQl.nil ?_ | refine ASl.nil ?_); try simp only [Then, InBlock, reduceIte, Nat.reduceEqDiff] | refine AWp.seq ?_ | refine AWp.reg rfl ?_ | refine AWp.block ?_ | apply AWp.condT; (focus simp; done) | apply AWp.condF; (focus simp; done) | refine AWp.regD (by kernel_rfl) (by kernel_rfl) rfl ?_; intro _ | refine AWp.regT (by kernel_rfl) (by kernel_rfl) rfl rfl ?_)
  by_cases hl : a.length = b.length
  · repeat (first | (first | (apply AOpl.step; rfl) | apply AQl.step | apply ASl.step); focus simp [hl, -Option.some.injEq]; rfl | (first | (apply AOpl.stepG; rfl) | apply AQl.stepG | apply ASl.stepG); (focus simp [hl]; done); focus simp [hl, -Option.some.injEq]; rfl | (first | (apply AOpl.pass; rfl) | apply AQl.pass | apply ASl.pass); (focus simp [hl]; done) | (first | refine AOpl.nil ?_ | refine AWp.skip ?_ | refine AWp.exit ?_ | refine AWp.ret ?_ | refine AQl.nil ?_ | refine ASl.nil ?_); try simp only [Then, InBlock, reduceIte, Nat.reduceEqDiff] | refine AWp.seq ?_ | refine AWp.reg rfl ?_ | refine AWp.block ?_ | apply AWp.condT; (focus simp [hl]; done) | apply AWp.condF; (focus simp [hl]; done) | refine AWp.regD (by kernel_rfl) (by kernel_rfl) rfl ?_; intro _ | refine AWp.regT (by kernel_rfl) (by kernel_rfl) rfl rfl ?_)
    refine AWp.count a.length (fun i e H nx => e 0 = .lst (a.map cvI) ∧ e 1 = .lst (b.map cvI) ∧ e 12 = .int .i64 a.length ∧ e 13 = .int .i64 i ∧ a.take i = b.take i) ?_ ?_
    · simp [putE, argE, ofV, ofS, hl]
    · rintro i e H nx hi ⟨h0, h1, h12, h13, hc⟩
      by_cases hla : i < a.length
      · have hlb : i < b.length := by omega
        have e1 : a.take (i + 1) = a.take i ++ [a[i]] := by rw [List.take_add_one, List.getElem?_eq_getElem hla]; rfl
        have e2 : b.take (i + 1) = b.take i ++ [b[i]] := by rw [List.take_add_one, List.getElem?_eq_getElem hlb]; rfl
        repeat (first | (first | (apply AOpl.step; rfl) | apply AQl.step | apply ASl.step); focus simp [h0, h1, h12, h13, hla, hlb, ints_at hla, ints_at hlb, -Option.some.injEq]; rfl | (first | (apply AOpl.stepG; rfl) | apply AQl.stepG | apply ASl.stepG); (focus simp [h0, h1, h12, h13, hla, hlb, ints_at hla, ints_at hlb]; done); focus simp [h0, h1, h12, h13, hla, hlb, ints_at hla, ints_at hlb, -Option.some.injEq]; rfl | (first | (apply AOpl.pass; rfl) | apply AQl.pass | apply ASl.pass); (focus simp [h0, h1, h12, h13, hla, hlb, ints_at hla, ints_at hlb]; done) | (first | refine AOpl.nil ?_ | refine AWp.skip ?_ | refine AWp.exit ?_ | refine AWp.ret ?_ | refine AQl.nil ?_ | refine ASl.nil ?_); try simp only [Then, InBlock, reduceIte, Nat.reduceEqDiff] | refine AWp.seq ?_ | refine AWp.reg rfl ?_ | refine AWp.block ?_ | apply AWp.condT; (focus simp [h0, h1, h12, h13, hla, hlb, ints_at hla, ints_at hlb]; done) | apply AWp.condF; (focus simp [h0, h1, h12, h13, hla, hlb, ints_at hla, ints_at hlb]; done) | refine AWp.regD (by kernel_rfl) (by kernel_rfl) rfl ?_; intro _ | refine AWp.regT (by kernel_rfl) (by kernel_rfl) rfl rfl ?_)
        ((apply AWp.cond'); (focus (simp [-Option.some.injEq]; rfl)))
        · intro hne
          have hne' : ¬ a[i] = b[i] := by simpa using hne
          repeat (first | (first | (apply AOpl.step; rfl) | apply AQl.step | apply ASl.step); focus simp [-Option.some.injEq]; rfl | (first | (apply AOpl.stepG; rfl) | apply AQl.stepG | apply ASl.stepG); (focus simp; done); focus simp [-Option.some.injEq]; rfl | (first | (apply AOpl.pass; rfl) | apply AQl.pass | apply ASl.pass); (focus simp; done) | (first | refine AOpl.nil ?_ | refine AWp.skip ?_ | refine AWp.exit ?_ | refine AWp.ret ?_ | refine AQl.nil ?_ | refine ASl.nil ?_); try simp only [Then, InBlock, reduceIte, Nat.reduceEqDiff] | refine AWp.seq ?_ | refine AWp.reg rfl ?_ | refine AWp.block ?_ | apply AWp.condT; (focus simp; done) | apply AWp.condF; (focus simp; done) | refine AWp.regD (by kernel_rfl) (by kernel_rfl) rfl ?_; intro _ | refine AWp.regT (by kernel_rfl) (by kernel_rfl) rfl rfl ?_)
          refine ⟨[.bool false], by simp [Tryz.results50, resA, putE, ofV, ofS], ?_⟩
          have : ¬ a = b := fun e => by subst e; exact hne' rfl
          simp [packA, this]
        · intro hne
          have hne' : a[i] = b[i] := by simpa using hne
          repeat (first | (first | (apply AOpl.step; rfl) | apply AQl.step | apply ASl.step); focus simp [h13, wrap_up hla ha, -Option.some.injEq]; rfl | (first | (apply AOpl.stepG; rfl) | apply AQl.stepG | apply ASl.stepG); (focus simp [h13, wrap_up hla ha]; done); focus simp [h13, wrap_up hla ha, -Option.some.injEq]; rfl | (first | (apply AOpl.pass; rfl) | apply AQl.pass | apply ASl.pass); (focus simp [h13, wrap_up hla ha]; done) | (first | refine AOpl.nil ?_ | refine AWp.skip ?_ | refine AWp.exit ?_ | refine AWp.ret ?_ | refine AQl.nil ?_ | refine ASl.nil ?_); try simp only [Then, InBlock, reduceIte, Nat.reduceEqDiff] | refine AWp.seq ?_ | refine AWp.reg rfl ?_ | refine AWp.block ?_ | apply AWp.condT; (focus simp [h13, wrap_up hla ha]; done) | apply AWp.condF; (focus simp [h13, wrap_up hla ha]; done) | refine AWp.regD (by kernel_rfl) (by kernel_rfl) rfl ?_; intro _ | refine AWp.regT (by kernel_rfl) (by kernel_rfl) rfl rfl ?_)
          exact ⟨hla, by simp [putE, h0], by simp [putE, h1], by simp [putE, h12], by simp [putE], by rw [e1, e2, hc, hne']⟩
      · have hi' : i = a.length := by omega
        repeat (first | (first | (apply AOpl.step; rfl) | apply AQl.step | apply ASl.step); focus simp [h12, h13, hla, -Option.some.injEq]; rfl | (first | (apply AOpl.stepG; rfl) | apply AQl.stepG | apply ASl.stepG); (focus simp [h12, h13, hla]; done); focus simp [h12, h13, hla, -Option.some.injEq]; rfl | (first | (apply AOpl.pass; rfl) | apply AQl.pass | apply ASl.pass); (focus simp [h12, h13, hla]; done) | (first | refine AOpl.nil ?_ | refine AWp.skip ?_ | refine AWp.exit ?_ | refine AWp.ret ?_ | refine AQl.nil ?_ | refine ASl.nil ?_); try simp only [Then, InBlock, reduceIte, Nat.reduceEqDiff] | refine AWp.seq ?_ | refine AWp.reg rfl ?_ | refine AWp.block ?_ | apply AWp.condT; (focus simp [h12, h13, hla]; done) | apply AWp.condF; (focus simp [h12, h13, hla]; done) | refine AWp.regD (by kernel_rfl) (by kernel_rfl) rfl ?_; intro _ | refine AWp.regT (by kernel_rfl) (by kernel_rfl) rfl rfl ?_)
        refine ⟨[.bool true], by simp [Tryz.results50, resA, putE, ofV, ofS], ?_⟩
        rw [hi', List.take_length, hl, List.take_length] at hc
        simp [packA, hc]
  · have hb : ((a.length : Int) != (b.length : Int)) = true := by simp; omega
    repeat (first | (first | (apply AOpl.step; rfl) | apply AQl.step | apply ASl.step); focus simp [hb, -Option.some.injEq]; rfl | (first | (apply AOpl.stepG; rfl) | apply AQl.stepG | apply ASl.stepG); (focus simp [hb]; done); focus simp [hb, -Option.some.injEq]; rfl | (first | (apply AOpl.pass; rfl) | apply AQl.pass | apply ASl.pass); (focus simp [hb]; done) | (first | refine AOpl.nil ?_ | refine AWp.skip ?_ | refine AWp.exit ?_ | refine AWp.ret ?_ | refine AQl.nil ?_ | refine ASl.nil ?_); try simp only [Then, InBlock, reduceIte, Nat.reduceEqDiff] | refine AWp.seq ?_ | refine AWp.reg rfl ?_ | refine AWp.block ?_ | apply AWp.condT; (focus simp [hb]; done) | apply AWp.condF; (focus simp [hb]; done) | refine AWp.regD (by kernel_rfl) (by kernel_rfl) rfl ?_; intro _ | refine AWp.regT (by kernel_rfl) (by kernel_rfl) rfl rfl ?_)
    refine ⟨[.bool false], by simp [Tryz.results50, resA, putE, ofV, ofS], ?_⟩
    have : ¬ a = b := fun e => hl (by rw [e])
    simp [packA, this]
set_option maxRecDepth 10000 in
theorem sameInts_ok (a b : List Int) (ha : a.length ≤ maxLen) : FCall Tryz.prog cxG 21 [.lst (a.map cvI), .lst (b.map cvI)] (fun r => r = .ret (.bool (decide (a = b)))) := by
  refine FCall.ofBody Tryz.func21 rfl rfl fun nx => ?_
  repeat (first | (first | (apply AOpl.step; rfl) | apply AQl.step | apply ASl.step); focus simp [-Option.some.injEq]; rfl | (first | (apply AOpl.stepG; rfl) | apply AQl.stepG | apply ASl.stepG); (focus simp; done); focus simp [-Option.some.injEq]; rfl | (first | (apply AOpl.pass; rfl) | apply AQl.pass | apply ASl.pass); (focus simp; done) | (first | refine AOpl.nil ?_ | refine AWp.skip ?_ | refine AWp.exit ?_ | refine AWp.ret ?_ | refine AQl.nil ?_ | refine ASl.nil ?_); try simp only [Then, InBlock, reduceIte, Nat.reduceEqDiff] | refine AWp.seq ?_ | refine AWp.reg rfl ?_ | refine AWp.block ?_ | apply AWp.condT; (focus simp; done) | apply AWp.condF; (focus simp; done) | refine AWp.regD (by kernel_rfl) (by kernel_rfl) rfl ?_; intro _ | refine AWp.regT (by kernel_rfl) (by kernel_rfl) rfl rfl ?_)
  by_cases hl : a.length = b.length
  · repeat (first | (first | (apply AOpl.step; rfl) | apply AQl.step | apply ASl.step); focus simp [hl, -Option.some.injEq]; rfl | (first | (apply AOpl.stepG; rfl) | apply AQl.stepG | apply ASl.stepG); (focus simp [hl]; done); focus simp [hl, -Option.some.injEq]; rfl | (first | (apply AOpl.pass; rfl) | apply AQl.pass | apply ASl.pass); (focus simp [hl]; done) | (first | refine AOpl.nil ?_ | refine AWp.skip ?_ | refine AWp.exit ?_ | refine AWp.ret ?_ | refine AQl.nil ?_ | refine ASl.nil ?_); try simp only [Then, InBlock, reduceIte, Nat.reduceEqDiff] | refine AWp.seq ?_ | refine AWp.reg rfl ?_ | refine AWp.block ?_ | apply AWp.condT; (focus simp [hl]; done) | apply AWp.condF; (focus simp [hl]; done) | refine AWp.regD (by kernel_rfl) (by kernel_rfl) rfl ?_; intro _ | refine AWp.regT (by kernel_rfl) (by kernel_rfl) rfl rfl ?_)
    refine AWp.count a.length (fun i e H nx => e 0 = .lst (a.map cvI) ∧ e 1 = .lst (b.map cvI) ∧ e 12 = .int .i64 a.length ∧ e 13 = .int .i64 i ∧ a.take i = b.take i) ?_ ?_
    · simp [putE, argE, ofV, ofS, hl]
    · rintro i e H nx hi ⟨h0, h1, h12, h13, hc⟩
      by_cases hla : i < a.length
      · have hlb : i < b.length := by omega
        have e1 : a.take (i + 1) = a.take i ++ [a[i]] := by rw [List.take_add_one, List.getElem?_eq_getElem hla]; rfl
        have e2 : b.take (i + 1) = b.take i ++ [b[i]] := by rw [List.take_add_one, List.getElem?_eq_getElem hlb]; rfl
        repeat (first | (first | (apply AOpl.step; rfl) | apply AQl.step | apply ASl.step); focus simp [h0, h1, h12, h13, hla, hlb, ints_at hla, ints_at hlb, -Option.some.injEq]; rfl | (first | (apply AOpl.stepG; rfl) | apply AQl.stepG | apply ASl.stepG); (focus simp [h0, h1, h12, h13, hla, hlb, ints_at hla, ints_at hlb]; done); focus simp [h0, h1, h12, h13, hla, hlb, ints_at hla, ints_at hlb, -Option.some.injEq]; rfl | (first | (apply AOpl.pass; rfl) | apply AQl.pass | apply ASl.pass); (focus simp [h0, h1, h12, h13, hla, hlb, ints_at hla, ints_at hlb]; done) | (first | refine AOpl.nil ?_ | refine AWp.skip ?_ | refine AWp.exit ?_ | refine AWp.ret ?_ | refine AQl.nil ?_ | refine ASl.nil ?_); try simp only [Then, InBlock, reduceIte, Nat.reduceEqDiff] | refine AWp.seq ?_ | refine AWp.reg rfl ?_ | refine AWp.block ?_ | apply AWp.condT; (focus simp [h0, h1, h12, h13, hla, hlb, ints_at hla, ints_at hlb]; done) | apply AWp.condF; (focus simp [h0, h1, h12, h13, hla, hlb, ints_at hla, ints_at hlb]; done) | refine AWp.regD (by kernel_rfl) (by kernel_rfl) rfl ?_; intro _ | refine AWp.regT (by kernel_rfl) (by kernel_rfl) rfl rfl ?_)
        ((apply AWp.cond'); (focus (simp [-Option.some.injEq]; rfl)))
        · intro hne
          have hne' : ¬ a[i] = b[i] := by simpa using hne
          repeat (first | (first | (apply AOpl.step; rfl) | apply AQl.step | apply ASl.step); focus simp [-Option.some.injEq]; rfl | (first | (apply AOpl.stepG; rfl) | apply AQl.stepG | apply ASl.stepG); (focus simp; done); focus simp [-Option.some.injEq]; rfl | (first | (apply AOpl.pass; rfl) | apply AQl.pass | apply ASl.pass); (focus simp; done) | (first | refine AOpl.nil ?_ | refine AWp.skip ?_ | refine AWp.exit ?_ | refine AWp.ret ?_ | refine AQl.nil ?_ | refine ASl.nil ?_); try simp only [Then, InBlock, reduceIte, Nat.reduceEqDiff] | refine AWp.seq ?_ | refine AWp.reg rfl ?_ | refine AWp.block ?_ | apply AWp.condT; (focus simp; done) | apply AWp.condF; (focus simp; done) | refine AWp.regD (by kernel_rfl) (by kernel_rfl) rfl ?_; intro _ | refine AWp.regT (by kernel_rfl) (by kernel_rfl) rfl rfl ?_)
          refine ⟨[.bool false], by simp [Tryz.results21, resA, putE, ofV, ofS], ?_⟩
          have : ¬ a = b := fun e => by subst e; exact hne' rfl
          simp [packA, this]
        · intro hne
          have hne' : a[i] = b[i] := by simpa using hne
          repeat (first | (first | (apply AOpl.step; rfl) | apply AQl.step | apply ASl.step); focus simp [h13, wrap_up hla ha, -Option.some.injEq]; rfl | (first | (apply AOpl.stepG; rfl) | apply AQl.stepG | apply ASl.stepG); (focus simp [h13, wrap_up hla ha]; done); focus simp [h13, wrap_up hla ha, -Option.some.injEq]; rfl | (first | (apply AOpl.pass; rfl) | apply AQl.pass | apply ASl.pass); (focus simp [h13, wrap_up hla ha]; done) | (first | refine AOpl.nil ?_ | refine AWp.skip ?_ | refine AWp.exit ?_ | refine AWp.ret ?_ | refine AQl.nil ?_ | refine ASl.nil ?_); try simp only [Then, InBlock, reduceIte, Nat.reduceEqDiff] | refine AWp.seq ?_ | refine AWp.reg rfl ?_ | refine AWp.block ?_ | apply AWp.condT; (focus simp [h13, wrap_up hla ha]; done) | apply AWp.condF; (focus simp [h13, wrap_up hla ha]; done) | refine AWp.regD (by kernel_rfl) (by kernel_rfl) rfl ?_; intro _ | refine AWp.regT (by kernel_rfl) (by kernel_rfl) rfl rfl ?_)
          exact ⟨hla, by simp [putE, h0], by simp [putE, h1], by simp [putE, h12], by simp [putE], by rw [e1, e2, hc, hne']⟩
      · have hi' : i = a.length := by omega
        repeat (first | (first | (apply AOpl.step; rfl) | apply AQl.step | apply ASl.step); focus simp [h12, h13, hla, -Option.some.injEq]; rfl | (first | (apply AOpl.stepG; rfl) | apply AQl.stepG | apply ASl.stepG); (focus simp [h12, h13, hla]; done); focus simp [h12, h13, hla, -Option.some.injEq]; rfl | (first | (apply AOpl.pass; rfl) | apply AQl.pass | apply ASl.pass); (focus simp [h12, h13, hla]; done) | (first | refine AOpl.nil ?_ | refine AWp.skip ?_ | refine AWp.exit ?_ | refine AWp.ret ?_ | refine AQl.nil ?_ | refine ASl.nil ?_); try simp only [Then, InBlock, reduceIte, Nat.reduceEqDiff] | refine AWp.seq ?_ | refine AWp.reg rfl ?_ | refine AWp.block ?_ | apply AWp.condT; (focus simp [h12, h13, hla]; done) | apply AWp.condF; (focus simp [h12, h13, hla]; done) | refine AWp.regD (by kernel_rfl) (by kernel_rfl) rfl ?_; intro _ | refine AWp.regT (by kernel_rfl) (by kernel_rfl) rfl rfl ?_)
        refine ⟨[.bool true], by simp [Tryz.results21, resA, putE, ofV, ofS], ?_⟩
        rw [hi', List.take_length, hl, List.take_length] at hc
        simp [packA, hc]
  · have hb : ((a.length : Int) != (b.length : Int)) = true := by simp; omega
    repeat (first | (first | (apply AOpl.step; rfl) | apply AQl.step | apply ASl.step); focus simp [hb, -Option.some.injEq]; rfl | (first | (apply AOpl.stepG; rfl) | apply AQl.stepG | apply ASl.stepG); (focus simp [hb]; done); focus simp [hb, -Option.some.injEq]; rfl | (first | (apply AOpl.pass; rfl) | apply AQl.pass | apply ASl.pass); (focus simp [hb]; done) | (first | refine AOpl.nil ?_ | refine AWp.skip ?_ | refine AWp.exit ?_ | refine AWp.ret ?_ | refine AQl.nil ?_ | refine ASl.nil ?_); try simp only [Then, InBlock, reduceIte, Nat.reduceEqDiff] | refine AWp.seq ?_ | refine AWp.reg rfl ?_ | refine AWp.block ?_ | apply AWp.condT; (focus simp [hb]; done) | apply AWp.condF; (focus simp [hb]; done) | refine AWp.regD (by kernel_rfl) (by kernel_rfl) rfl ?_; intro _ | refine AWp.regT (by kernel_rfl) (by kernel_rfl) rfl rfl ?_)
    refine ⟨[.bool false], by simp [Tryz.results21, resA, putE, ofV, ofS], ?_⟩
    have : ¬ a = b := fun e => hl (by rw [e])
    simp [packA, this]
theorem ti_bool : ti Tryz.prog 4 = some ⟨.bool, 1, .bool false, 1⟩ := by kernel_rfl
end Go.Proofs.YtdjllogimomgmaaGreatDoor
