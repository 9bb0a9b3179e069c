/-
  The order of contexts and what remains of them: context and the reference, walked.
-/
import Derived.Test.YtdjllogimomgmaaGreatDoorCxAwake2
import Derived.Test.YtdjllogimomgmaaGreatDoorJaE
import Derived.Test.YtdjllogimomgmaaGreatDoorJuA
set_option linter.unusedSimpArgs false
set_option linter.unusedVariables false
namespace Go.Proofs.YtdjllogimomgmaaGreatDoor
open Ax Tx
theorem ti_int : ti Tryz.prog 3 = some ⟨.int .i64, 1, .int .i64 0, 8⟩ := by kernel_rfl
theorem ti_Ints : ti Tryz.prog 49 = some ⟨.slice 3, 1, .slice none 0 0, 24⟩ := by kernel_rfl
theorem ti_fixed : ti Tryz.prog 110 = some ⟨.array 2 3, 2, .agg #[.int .i64 0, .int .i64 0], 16⟩ := by kernel_rfl
end Go.Proofs.YtdjllogimomgmaaGreatDoor
namespace Go.Proofs.YtdjllogimomgmaaGreatDoor
open Ax Tx Go.RowKit
attribute [local simp] stepS Ax.stepT Dl.on qstep astep estep rd putE argE ofV ofS loadA pickCells isAggD faddA fieldA partA iaddA idxA sliA bnd binA intA strA unA convA bltA lenA mapOf lookA findK keyD scalD storeA mupA appA srcA srcD upd drp Dl.hp Dl.nx CV.cs CV.one buildA placesA fillA zrep tasA ifaceD eqA eqFs eqIs range2 copyA nbeq nble nblt decEq ti_int ti_Ints ti_fixed gd gdB callA resA op1
theorem wrap_up {i N : Nat} (h : i < N) (hn : N ≤ maxLen) : IntKind.i64.wrap ((i : Int) + 1) = ((i + 1 : Nat) : Int) := by
  rw [IntKind.wrap_i64]; simp only [maxLen] at hn; omega
theorem ints_at {l : List Int} {i : Nat} (h : i < l.length) : (l.map cvI)[i]? = some [.int .i64 l[i]] := by
  rw [List.getElem?_map, List.getElem?_eq_getElem h]; rfl
end Go.Proofs.YtdjllogimomgmaaGreatDoor
namespace Go.Proofs.YtdjllogimomgmaaGreatDoor
open Ax Tx Go.RowKit
attribute [local simp] stepS Ax.stepT Dl.on qstep astep estep rd putE argE ofV ofS loadA pickCells isAggD faddA fieldA partA iaddA idxA sliA bnd binA intA strA unA convA bltA lenA mapOf lookA findK keyD scalD storeA mupA appA srcA srcD upd drp Dl.hp Dl.nx CV.cs CV.one buildA placesA fillA zrep tasA ifaceD eqA eqFs eqIs range2 copyA nbeq nble nblt decEq ti_int ti_Ints ti_fixed gd gdB callA resA op1
set_option maxRecDepth 10000 in
theorem sEqual_ok (a b : List Int) (ha : a.length ≤ maxLen) : FCall Tryz.prog cxG 50 [.lst (a.map cvI), .lst (b.map cvI)] (fun r => r = .ret (.bool (decide (a = b)))) := by
  refine FCall.ofBody Tryz.func50 rfl rfl fun nx => ?_
  repeat (first | (first | (apply AOpl.step; rfl) | apply AQl.step | apply ASl.step); focus simp [-Option.some.injEq]; rfl | (first | (apply AOpl.stepG; rfl) | apply AQl.stepG | apply ASl.stepG); (focus simp; done); focus simp [-Option.some.injEq]; rfl | (first | (apply AOpl.pass; rfl) | apply AQl.pass | apply ASl.pass); (focus simp; done) | (first | refine AOpl.nil ?_ | refine AWp.skip ?_ | refine AWp.exit ?_ | refine AWp.ret ?_ | refine AQl.nil ?_ | refine ASl.nil ?_); try simp only [Then, InBlock, reduceIte, Nat.reduceEqDiff] | refine AWp.seq ?_ | refine AWp.reg rfl ?_ | refine AWp.block ?_ | apply AWp.condT; (focus simp; done) | apply AWp.condF; (focus simp; done) | refine AWp.regD (by kernel_rfl) (by kernel_rfl) rfl ?_; intro _ | refine AWp.regT (by kernel_rfl) (by kernel_rfl) rfl rfl ?_)
  by_cases hl : a.length = b.length
  · repeat (first | (first | (apply AOpl.step; rfl) | apply AQl.step | apply ASl.step); focus simp [hl, -Option.some.injEq]; rfl | (first | (apply AOpl.stepG; rfl) | apply AQl.stepG | apply ASl.stepG); (focus simp [hl]; done); focus simp [hl, -Option.some.injEq]; rfl | (first | (apply AOpl.pass; rfl) | apply AQl.pass | apply ASl.pass); (focus simp [hl]; done) | (first | refine AOpl.nil ?_ | refine AWp.skip ?_ | refine AWp.exit ?_ | refine AWp.ret ?_ | refine AQl.nil ?_ | refine ASl.nil ?_); try simp only [Then, InBlock, reduceIte, Nat.reduceEqDiff] | refine AWp.seq ?_ | refine AWp.reg rfl ?_ | refine AWp.block ?_ | apply AWp.condT; (focus simp [hl]; done) | apply AWp.condF; (focus simp [hl]; done) | refine AWp.regD (by kernel_rfl) (by kernel_rfl) rfl ?_; intro _ | refine AWp.regT (by kernel_rfl) (by kernel_rfl) rfl rfl ?_)
    refine AWp.count a.length (fun i e H nx => e 0 = .lst (a.map cvI) ∧ e 1 = .lst (b.map cvI) ∧ e 12 = .int .i64 a.length ∧ e 13 = .int .i64 i ∧ a.take i = b.take i) ?_ ?_
    · simp [putE, argE, ofV, ofS, hl]
    · rintro i e H nx hi ⟨h0, h1, h12, h13, hc⟩
      by_cases hla : i < a.length
      · have hlb : i < b.length := by omega
        have e1 : a.take (i + 1) = a.take i ++ [a[i]] := by rw [List.take_add_one, List.getElem?_eq_getElem hla]; rfl
        have e2 : b.take (i + 1) = b.take i ++ [b[i]] := by rw [List.take_add_one, List.getElem?_eq_getElem hlb]; rfl
        repeat (first | (first | (apply AOpl.step; rfl) | apply AQl.step | apply ASl.step); focus simp [h0, h1, h12, h13, hla, hlb, ints_at hla, ints_at hlb, -Option.some.injEq]; rfl | (first | (apply AOpl.stepG; rfl) | apply AQl.stepG | apply ASl.stepG); (focus simp [h0, h1, h12, h13, hla, hlb, ints_at hla, ints_at hlb]; done); focus simp [h0, h1, h12, h13, hla, hlb, ints_at hla, ints_at hlb, -Option.some.injEq]; rfl | (first | (apply AOpl.pass; rfl) | apply AQl.pass | apply ASl.pass); (focus simp [h0, h1, h12, h13, hla, hlb, ints_at hla, ints_at hlb]; done) | (first | refine AOpl.nil ?_ | refine AWp.skip ?_ | refine AWp.exit ?_ | refine AWp.ret ?_ | refine AQl.nil ?_ | refine ASl.nil ?_); try simp only [Then, InBlock, reduceIte, Nat.reduceEqDiff] | refine AWp.seq ?_ | refine AWp.reg rfl ?_ | refine AWp.block ?_ | apply AWp.condT; (focus simp [h0, h1, h12, h13, hla, hlb, ints_at hla, ints_at hlb]; done) | apply AWp.condF; (focus simp [h0, h1, h12, h13, hla, hlb, ints_at hla, ints_at hlb]; done) | refine AWp.regD (by kernel_rfl) (by kernel_rfl) rfl ?_; intro _ | refine AWp.regT (by kernel_rfl) (by kernel_rfl) rfl rfl ?_)
        ((apply AWp.cond'); (focus (simp [-Option.some.injEq]; rfl)))
        · intro hne
          have hne' : ¬ a[i] = b[i] := by simpa using hne
          repeat (first | (first | (apply AOpl.step; rfl) | apply AQl.step | apply ASl.step); focus simp [-Option.some.injEq]; rfl | (first | (apply AOpl.stepG; rfl) | apply AQl.stepG | apply ASl.stepG); (focus simp; done); focus simp [-Option.some.injEq]; rfl | (first | (apply AOpl.pass; rfl) | apply AQl.pass | apply ASl.pass); (focus simp; done) | (first | refine AOpl.nil ?_ | refine AWp.skip ?_ | refine AWp.exit ?_ | refine AWp.ret ?_ | refine AQl.nil ?_ | refine ASl.nil ?_); try simp only [Then, InBlock, reduceIte, Nat.reduceEqDiff] | refine AWp.seq ?_ | refine AWp.reg rfl ?_ | refine AWp.block ?_ | apply AWp.condT; (focus simp; done) | apply AWp.condF; (focus simp; done) | refine AWp.regD (by kernel_rfl) (by kernel_rfl) rfl ?_; intro _ | refine AWp.regT (by kernel_rfl) (by kernel_rfl) rfl rfl ?_)
          refine ⟨[.bool false], by simp [Tryz.results50, resA, putE, ofV, ofS], ?_⟩
          have : ¬ a = b := fun e => by subst e; exact hne' rfl
          simp [packA, this]
        · intro hne
          have hne' : a[i] = b[i] := by simpa using hne
          repeat (first | (first | (apply AOpl.step; rfl) | apply AQl.step | apply ASl.step); focus simp [h13, wrap_up hla ha, -Option.some.injEq]; rfl | (first | (apply AOpl.stepG; rfl) | apply AQl.stepG | apply ASl.stepG); (focus simp [h13, wrap_up hla ha]; done); focus simp [h13, wrap_up hla ha, -Option.some.injEq]; rfl | (first | (apply AOpl.pass; rfl) | apply AQl.pass | apply ASl.pass); (focus simp [h13, wrap_up hla ha]; done) | (first | refine AOpl.nil ?_ | refine AWp.skip ?_ | refine AWp.exit ?_ | refine AWp.ret ?_ | refine AQl.nil ?_ | refine ASl.nil ?_); try simp only [Then, InBlock, reduceIte, Nat.reduceEqDiff] | refine AWp.seq ?_ | refine AWp.reg rfl ?_ | refine AWp.block ?_ | apply AWp.condT; (focus simp [h13, wrap_up hla ha]; done) | apply AWp.condF; (focus simp [h13, wrap_up hla ha]; done) | refine AWp.regD (by kernel_rfl) (by kernel_rfl) rfl ?_; intro _ | refine AWp.regT (by kernel_rfl) (by kernel_rfl) rfl rfl ?_)
          exact ⟨hla, by simp [putE, h0], by simp [putE, h1], by simp [putE, h12], by simp [putE], by rw [e1, e2, hc, hne']⟩
      · have hi' : i = a.length := by omega
        repeat (first | (first | (apply AOpl.step; rfl) | apply AQl.step | apply ASl.step); focus simp [h12, h13, hla, -Option.some.injEq]; rfl | (first | (apply AOpl.stepG; rfl) | apply AQl.stepG | apply ASl.stepG); (focus simp [h12, h13, hla]; done); focus simp [h12, h13, hla, -Option.some.injEq]; rfl | (first | (apply AOpl.pass; rfl) | apply AQl.pass | apply ASl.pass); (focus simp [h12, h13, hla]; done) | (first | refine AOpl.nil ?_ | refine AWp.skip ?_ | refine AWp.exit ?_ | refine AWp.ret ?_ | refine AQl.nil ?_ | refine ASl.nil ?_); try simp only [Then, InBlock, reduceIte, Nat.reduceEqDiff] | refine AWp.seq ?_ | refine AWp.reg rfl ?_ | refine AWp.block ?_ | apply AWp.condT; (focus simp [h12, h13, hla]; done) | apply AWp.condF; (focus simp [h12, h13, hla]; done) | refine AWp.regD (by kernel_rfl) (by kernel_rfl) rfl ?_; intro _ | refine AWp.regT (by kernel_rfl) (by kernel_rfl) rfl rfl ?_)
        refine ⟨[.bool true], by simp [Tryz.results50, resA, putE, ofV, ofS], ?_⟩
        rw [hi', List.take_length, hl, List.take_length] at hc
        simp [packA, hc]
  · have hb : ((a.length : Int) != (b.length : Int)) = true := by simp; omega
    repeat (first | (first | (apply AOpl.step; rfl) | apply AQl.step | apply ASl.step); focus simp [hb, -Option.some.injEq]; rfl | (first | (apply AOpl.stepG; rfl) | apply AQl.stepG | apply ASl.stepG); (focus simp [hb]; done); focus simp [hb, -Option.some.injEq]; rfl | (first | (apply AOpl.pass; rfl) | apply AQl.pass | apply ASl.pass); (focus simp [hb]; done) | (first | refine AOpl.nil ?_ | refine AWp.skip ?_ | refine AWp.exit ?_ | refine AWp.ret ?_ | refine AQl.nil ?_ | refine ASl.nil ?_); try simp only [Then, InBlock, reduceIte, Nat.reduceEqDiff] | refine AWp.seq ?_ | refine AWp.reg rfl ?_ | refine AWp.block ?_ | apply AWp.condT; (focus simp [hb]; done) | apply AWp.condF; (focus simp [hb]; done) | refine AWp.regD (by kernel_rfl) (by kernel_rfl) rfl ?_; intro _ | refine AWp.regT (by kernel_rfl) (by kernel_rfl) rfl rfl ?_)
    refine ⟨[.bool false], by simp [Tryz.results50, resA, putE, ofV, ofS], ?_⟩
    have : ¬ a = b := fun e => hl (by rw [e])
    simp [packA, this]
set_option maxRecDepth 10000 in
theorem sameInts_ok (a b : List Int) (ha : a.length ≤ maxLen) : FCall Tryz.prog cxG 21 [.lst (a.map cvI), .lst (b.map cvI)] (fun r => r = .ret (.bool (decide (a = b)))) := by
  refine FCall.ofBody Tryz.func21 rfl rfl fun nx => ?_
  repeat (first | (first | (apply AOpl.step; rfl) | apply AQl.step | apply ASl.step); focus simp [-Option.some.injEq]; rfl | (first | (apply AOpl.stepG; rfl) | apply AQl.stepG | apply ASl.stepG); (focus simp; done); focus simp [-Option.some.injEq]; rfl | (first | (apply AOpl.pass; rfl) | apply AQl.pass | apply ASl.pass); (focus simp; done) | (first | refine AOpl.nil ?_ | refine AWp.skip ?_ | refine AWp.exit ?_ | refine AWp.ret ?_ | refine AQl.nil ?_ | refine ASl.nil ?_); try simp only [Then, InBlock, reduceIte, Nat.reduceEqDiff] | refine AWp.seq ?_ | refine AWp.reg rfl ?_ | refine AWp.block ?_ | apply AWp.condT; (focus simp; done) | apply AWp.condF; (focus simp; done) | refine AWp.regD (by kernel_rfl) (by kernel_rfl) rfl ?_; intro _ | refine AWp.regT (by kernel_rfl) (by kernel_rfl) rfl rfl ?_)
  by_cases hl : a.length = b.length
  · repeat (first | (first | (apply AOpl.step; rfl) | apply AQl.step | apply ASl.step); focus simp [hl, -Option.some.injEq]; rfl | (first | (apply AOpl.stepG; rfl) | apply AQl.stepG | apply ASl.stepG); (focus simp [hl]; done); focus simp [hl, -Option.some.injEq]; rfl | (first | (apply AOpl.pass; rfl) | apply AQl.pass | apply ASl.pass); (focus simp [hl]; done) | (first | refine AOpl.nil ?_ | refine AWp.skip ?_ | refine AWp.exit ?_ | refine AWp.ret ?_ | refine AQl.nil ?_ | refine ASl.nil ?_); try simp only [Then, InBlock, reduceIte, Nat.reduceEqDiff] | refine AWp.seq ?_ | refine AWp.reg rfl ?_ | refine AWp.block ?_ | apply AWp.condT; (focus simp [hl]; done) | apply AWp.condF; (focus simp [hl]; done) | refine AWp.regD (by kernel_rfl) (by kernel_rfl) rfl ?_; intro _ | refine AWp.regT (by kernel_rfl) (by kernel_rfl) rfl rfl ?_)
    refine AWp.count a.length (fun i e H nx => e 0 = .lst (a.map cvI) ∧ e 1 = .lst (b.map cvI) ∧ e 12 = .int .i64 a.length ∧ e 13 = .int .i64 i ∧ a.take i = b.take i) ?_ ?_
    · simp [putE, argE, ofV, ofS, hl]
    · rintro i e H nx hi ⟨h0, h1, h12, h13, hc⟩
      by_cases hla : i < a.length
      · have hlb : i < b.length := by omega
        have e1 : a.take (i + 1) = a.take i ++ [a[i]] := by rw [List.take_add_one, List.getElem?_eq_getElem hla]; rfl
        have e2 : b.take (i + 1) = b.take i ++ [b[i]] := by rw [List.take_add_one, List.getElem?_eq_getElem hlb]; rfl
        repeat (first | (first | (apply AOpl.step; rfl) | apply AQl.step | apply ASl.step); focus simp [h0, h1, h12, h13, hla, hlb, ints_at hla, ints_at hlb, -Option.some.injEq]; rfl | (first | (apply AOpl.stepG; rfl) | apply AQl.stepG | apply ASl.stepG); (focus simp [h0, h1, h12, h13, hla, hlb, ints_at hla, ints_at hlb]; done); focus simp [h0, h1, h12, h13, hla, hlb, ints_at hla, ints_at hlb, -Option.some.injEq]; rfl | (first | (apply AOpl.pass; rfl) | apply AQl.pass | apply ASl.pass); (focus simp [h0, h1, h12, h13, hla, hlb, ints_at hla, ints_at hlb]; done) | (first | refine AOpl.nil ?_ | refine AWp.skip ?_ | refine AWp.exit ?_ | refine AWp.ret ?_ | refine AQl.nil ?_ | refine ASl.nil ?_); try simp only [Then, InBlock, reduceIte, Nat.reduceEqDiff] | refine AWp.seq ?_ | refine AWp.reg rfl ?_ | refine AWp.block ?_ | apply AWp.condT; (focus simp [h0, h1, h12, h13, hla, hlb, ints_at hla, ints_at hlb]; done) | apply AWp.condF; (focus simp [h0, h1, h12, h13, hla, hlb, ints_at hla, ints_at hlb]; done) | refine AWp.regD (by kernel_rfl) (by kernel_rfl) rfl ?_; intro _ | refine AWp.regT (by kernel_rfl) (by kernel_rfl) rfl rfl ?_)
        ((apply AWp.cond'); (focus (simp [-Option.some.injEq]; rfl)))
        · intro hne
          have hne' : ¬ a[i] = b[i] := by simpa using hne
          repeat (first | (first | (apply AOpl.step; rfl) | apply AQl.step | apply ASl.step); focus simp [-Option.some.injEq]; rfl | (first | (apply AOpl.stepG; rfl) | apply AQl.stepG | apply ASl.stepG); (focus simp; done); focus simp [-Option.some.injEq]; rfl | (first | (apply AOpl.pass; rfl) | apply AQl.pass | apply ASl.pass); (focus simp; done) | (first | refine AOpl.nil ?_ | refine AWp.skip ?_ | refine AWp.exit ?_ | refine AWp.ret ?_ | refine AQl.nil ?_ | refine ASl.nil ?_); try simp only [Then, InBlock, reduceIte, Nat.reduceEqDiff] | refine AWp.seq ?_ | refine AWp.reg rfl ?_ | refine AWp.block ?_ | apply AWp.condT; (focus simp; done) | apply AWp.condF; (focus simp; done) | refine AWp.regD (by kernel_rfl) (by kernel_rfl) rfl ?_; intro _ | refine AWp.regT (by kernel_rfl) (by kernel_rfl) rfl rfl ?_)
          refine ⟨[.bool false], by simp [Tryz.results21, resA, putE, ofV, ofS], ?_⟩
          have : ¬ a = b := fun e => by subst e; exact hne' rfl
          simp [packA, this]
        · intro hne
          have hne' : a[i] = b[i] := by simpa using hne
          repeat (first | (first | (apply AOpl.step; rfl) | apply AQl.step | apply ASl.step); focus simp [h13, wrap_up hla ha, -Option.some.injEq]; rfl | (first | (apply AOpl.stepG; rfl) | apply AQl.stepG | apply ASl.stepG); (focus simp [h13, wrap_up hla ha]; done); focus simp [h13, wrap_up hla ha, -Option.some.injEq]; rfl | (first | (apply AOpl.pass; rfl) | apply AQl.pass | apply ASl.pass); (focus simp [h13, wrap_up hla ha]; done) | (first | refine AOpl.nil ?_ | refine AWp.skip ?_ | refine AWp.exit ?_ | refine AWp.ret ?_ | refine AQl.nil ?_ | refine ASl.nil ?_); try simp only [Then, InBlock, reduceIte, Nat.reduceEqDiff] | refine AWp.seq ?_ | refine AWp.reg rfl ?_ | refine AWp.block ?_ | apply AWp.condT; (focus simp [h13, wrap_up hla ha]; done) | apply AWp.condF; (focus simp [h13, wrap_up hla ha]; done) | refine AWp.regD (by kernel_rfl) (by kernel_rfl) rfl ?_; intro _ | refine AWp.regT (by kernel_rfl) (by kernel_rfl) rfl rfl ?_)
          exact ⟨hla, by simp [putE, h0], by simp [putE, h1], by simp [putE, h12], by simp [putE], by rw [e1, e2, hc, hne']⟩
      · have hi' : i = a.length := by omega
        repeat (first | (first | (apply AOpl.step; rfl) | apply AQl.step | apply ASl.step); focus simp [h12, h13, hla, -Option.some.injEq]; rfl | (first | (apply AOpl.stepG; rfl) | apply AQl.stepG | apply ASl.stepG); (focus simp [h12, h13, hla]; done); focus simp [h12, h13, hla, -Option.some.injEq]; rfl | (first | (apply AOpl.pass; rfl) | apply AQl.pass | apply ASl.pass); (focus simp [h12, h13, hla]; done) | (first | refine AOpl.nil ?_ | refine AWp.skip ?_ | refine AWp.exit ?_ | refine AWp.ret ?_ | refine AQl.nil ?_ | refine ASl.nil ?_); try simp only [Then, InBlock, reduceIte, Nat.reduceEqDiff] | refine AWp.seq ?_ | refine AWp.reg rfl ?_ | refine AWp.block ?_ | apply AWp.condT; (focus simp [h12, h13, hla]; done) | apply AWp.condF; (focus simp [h12, h13, hla]; done) | refine AWp.regD (by kernel_rfl) (by kernel_rfl) rfl ?_; intro _ | refine AWp.regT (by kernel_rfl) (by kernel_rfl) rfl rfl ?_)
        refine ⟨[.bool true], by simp [Tryz.results21, resA, putE, ofV, ofS], ?_⟩
        rw [hi', List.take_length, hl, List.take_length] at hc
        simp [packA, hc]
  · have hb : ((a.length : Int) != (b.length : Int)) = true := by simp; omega
    repeat (first | (first | (apply AOpl.step; rfl) | apply AQl.step | apply ASl.step); focus simp [hb, -Option.some.injEq]; rfl | (first | (apply AOpl.stepG; rfl) | apply AQl.stepG | apply ASl.stepG); (focus simp [hb]; done); focus simp [hb, -Option.some.injEq]; rfl | (first | (apply AOpl.pass; rfl) | apply AQl.pass | apply ASl.pass); (focus simp [hb]; done) | (first | refine AOpl.nil ?_ | refine AWp.skip ?_ | refine AWp.exit ?_ | refine AWp.ret ?_ | refine AQl.nil ?_ | refine ASl.nil ?_); try simp only [Then, InBlock, reduceIte, Nat.reduceEqDiff] | refine AWp.seq ?_ | refine AWp.reg rfl ?_ | refine AWp.block ?_ | apply AWp.condT; (focus simp [hb]; done) | apply AWp.condF; (focus simp [hb]; done) | refine AWp.regD (by kernel_rfl) (by kernel_rfl) rfl ?_; intro _ | refine AWp.regT (by kernel_rfl) (by kernel_rfl) rfl rfl ?_)
    refine ⟨[.bool false], by simp [Tryz.results21, resA, putE, ofV, ofS], ?_⟩
    have : ¬ a = b := fun e => hl (by rw [e])
    simp [packA, this]
/-- A list of at most two numbers as an array. -/
def fixV : List Int → CV
  | [] => .agg [.int .i64 0, .int .i64 0]
  | [x] => .agg [.int .i64 x, .int .i64 0]
  | x :: y :: _ => .agg [.int .i64 x, .int .i64 y]
set_option maxRecDepth 10000 in
theorem fix_ok (a : List Int) (ha : a.length ≤ 2) : FCall Tryz.prog cxG 49 [.lst (a.map cvI)] (fun r => r = .ret (fixV a)) := by
  refine FCall.ofBody Tryz.func49 rfl rfl fun nx => ?_
  match a, ha with
  | [], _ =>
    repeat (first | (first | (apply AOpl.step; rfl) | apply AQl.step | apply ASl.step); focus simp [cvI, Nat.blt, -Option.some.injEq]; rfl | (first | (apply AOpl.stepG; rfl) | apply AQl.stepG | apply ASl.stepG); (focus simp [cvI, Nat.blt]; done); focus simp [cvI, Nat.blt, -Option.some.injEq]; rfl | (first | (apply AOpl.pass; rfl) | apply AQl.pass | apply ASl.pass); (focus simp [cvI, Nat.blt]; done) | (first | refine AOpl.nil ?_ | refine AWp.skip ?_ | refine AWp.exit ?_ | refine AWp.ret ?_ | refine AQl.nil ?_ | refine ASl.nil ?_); try simp only [Then, InBlock, reduceIte, Nat.reduceEqDiff] | refine AWp.seq ?_ | refine AWp.reg rfl ?_ | refine AWp.block ?_ | apply AWp.condT; (focus simp [cvI, Nat.blt]; done) | apply AWp.condF; (focus simp [cvI, Nat.blt]; done) | refine AWp.regD (by kernel_rfl) (by kernel_rfl) rfl ?_; intro _ | refine AWp.regT (by kernel_rfl) (by kernel_rfl) rfl rfl ?_)
    refine ⟨[fixV []], ?_, rfl⟩
    simp [Tryz.results49, resA, putE, ofV, ofS, loadA, ti_fixed, pickCells, isAggD, upd, Dl.hp, Dl.nx, fixV, nble]
  | [x], _ =>
    repeat (first | (first | (apply AOpl.step; rfl) | apply AQl.step | apply ASl.step); focus simp [cvI, Nat.blt, -Option.some.injEq]; rfl | (first | (apply AOpl.stepG; rfl) | apply AQl.stepG | apply ASl.stepG); (focus simp [cvI, Nat.blt]; done); focus simp [cvI, Nat.blt, -Option.some.injEq]; rfl | (first | (apply AOpl.pass; rfl) | apply AQl.pass | apply ASl.pass); (focus simp [cvI, Nat.blt]; done) | (first | refine AOpl.nil ?_ | refine AWp.skip ?_ | refine AWp.exit ?_ | refine AWp.ret ?_ | refine AQl.nil ?_ | refine ASl.nil ?_); try simp only [Then, InBlock, reduceIte, Nat.reduceEqDiff] | refine AWp.seq ?_ | refine AWp.reg rfl ?_ | refine AWp.block ?_ | apply AWp.condT; (focus simp [cvI, Nat.blt]; done) | apply AWp.condF; (focus simp [cvI, Nat.blt]; done) | refine AWp.regD (by kernel_rfl) (by kernel_rfl) rfl ?_; intro _ | refine AWp.regT (by kernel_rfl) (by kernel_rfl) rfl rfl ?_)
    refine ⟨[fixV [x]], ?_, rfl⟩
    simp [Tryz.results49, resA, putE, ofV, ofS, loadA, ti_fixed, pickCells, isAggD, upd, Dl.hp, Dl.nx, fixV, nble]
  | [x, y], _ =>
    repeat (first | (first | (apply AOpl.step; rfl) | apply AQl.step | apply ASl.step); focus simp [cvI, Nat.blt, -Option.some.injEq]; rfl | (first | (apply AOpl.stepG; rfl) | apply AQl.stepG | apply ASl.stepG); (focus simp [cvI, Nat.blt]; done); focus simp [cvI, Nat.blt, -Option.some.injEq]; rfl | (first | (apply AOpl.pass; rfl) | apply AQl.pass | apply ASl.pass); (focus simp [cvI, Nat.blt]; done) | (first | refine AOpl.nil ?_ | refine AWp.skip ?_ | refine AWp.exit ?_ | refine AWp.ret ?_ | refine AQl.nil ?_ | refine ASl.nil ?_); try simp only [Then, InBlock, reduceIte, Nat.reduceEqDiff] | refine AWp.seq ?_ | refine AWp.reg rfl ?_ | refine AWp.block ?_ | apply AWp.condT; (focus simp [cvI, Nat.blt]; done) | apply AWp.condF; (focus simp [cvI, Nat.blt]; done) | refine AWp.regD (by kernel_rfl) (by kernel_rfl) rfl ?_; intro _ | refine AWp.regT (by kernel_rfl) (by kernel_rfl) rfl rfl ?_)
    refine ⟨[fixV [x, y]], ?_, rfl⟩
    simp [Tryz.results49, resA, putE, ofV, ofS, loadA, ti_fixed, pickCells, isAggD, upd, Dl.hp, Dl.nx, fixV, nble]
theorem ti_bool : ti Tryz.prog 4 = some ⟨.bool, 1, .bool false, 1⟩ := by kernel_rfl
/-- What remains of b. -/
def preL (a b : List Int) : Bool := decide (a.length ≤ b.length ∧ a = b.drop (b.length - a.length))
theorem wrap_sub {a b : Nat} (h : a ≤ b) (hb : b ≤ maxLen) : IntKind.i64.wrap ((b : Int) - a) = ((b - a : Nat) : Int) := by
  rw [IntKind.wrap_i64]; simp only [maxLen] at hb; omega
theorem sli_ints {H : Heap} (b : List Int) {m : Nat} (hm : m ≤ b.length) : sliA Tryz.prog H 49 (.lst (b.map cvI)) (some (.int .i64 (m : Int))) none = some (.lst ((b.drop m).map cvI)) := by
  rw [sliA_lo ti_Ints ti_int (fun r hr => by obtain ⟨x, _, rfl⟩ := List.mem_map.mp hr; rfl) (by simpa using hm), List.map_drop]
theorem beq_dec (x y : Int) : (x == y) = decide (x = y) := by rw [Bool.eq_iff_iff]; simp
theorem fixV_eq (a b : List Int) (ha : a.length ≤ 2) (hl : a.length = b.length) : ∃ xs ys, fixV a = .agg xs ∧ fixV b = .agg ys ∧ eqIs ⟨.int .i64, 1, .int .i64 0, 8⟩ [0, 1] xs ys = some (decide (a = b)) := by
  match a, b, ha, hl with
  | [], [], _, _ => exact ⟨_, _, rfl, rfl, by simp [eqIs, scalD, decEq, instDecidableEqIntKind, beq_dec]⟩
  | [x], [y], _, _ => exact ⟨_, _, rfl, rfl, by simp [eqIs, scalD, decEq, instDecidableEqIntKind, beq_dec]⟩
  | [x, x'], [y, y'], _, _ => exact ⟨_, _, rfl, rfl, by simp [eqIs, scalD, decEq, instDecidableEqIntKind, beq_dec]⟩
set_option maxRecDepth 10000 in
theorem cPrefix_ok (a b : List Int) (hb : b.length ≤ maxLen) : FCall Tryz.prog cxG 29 [.lst (a.map cvI), .lst (b.map cvI)] (fun r => r = .ret (.bool (preL a b))) := by
  refine FCall.ofBody Tryz.func29 rfl rfl fun nx => ?_
  by_cases hl : a.length ≤ b.length
  · have h1 : ¬ ((b.length : Int) < a.length) := by omega
    have hp : preL a b = decide (a = b.drop (b.length - a.length)) := by simp [preL, hl]
    have hlen : a.length = (b.drop (b.length - a.length)).length := by simp; omega
    repeat (first | (first | (apply AOpl.step; rfl) | apply AQl.step | apply ASl.step); focus simp [h1, wrap_sub hl hb, -Option.some.injEq]; rfl | (first | (apply AOpl.stepG; rfl) | apply AQl.stepG | apply ASl.stepG); (focus simp [h1, wrap_sub hl hb]; done); focus simp [h1, wrap_sub hl hb, -Option.some.injEq]; rfl | (first | (apply AOpl.pass; rfl) | apply AQl.pass | apply ASl.pass); (focus simp [h1, wrap_sub hl hb]; done) | (first | refine AOpl.nil ?_ | refine AWp.skip ?_ | refine AWp.exit ?_ | refine AWp.ret ?_ | refine AQl.nil ?_ | refine ASl.nil ?_); try simp only [Then, InBlock, reduceIte, Nat.reduceEqDiff] | refine AWp.seq ?_ | refine AWp.reg rfl ?_ | refine AWp.block ?_ | apply AWp.condT; (focus simp [h1, wrap_sub hl hb]; done) | apply AWp.condF; (focus simp [h1, wrap_sub hl hb]; done) | refine AWp.regD (by kernel_rfl) (by kernel_rfl) rfl ?_; intro _ | refine AWp.regT (by kernel_rfl) (by kernel_rfl) rfl rfl ?_)
    ((apply AOpl.step); (focus rfl); (focus (simp [-sliA, sli_ints b (Nat.sub_le _ _), -Option.some.injEq]; rfl)))
    by_cases h2 : a.length ≤ 2
    · have h2' : (a.length : Int) ≤ 2 := by omega
      obtain ⟨xs, ys, e1, e2, e3⟩ := fixV_eq a _ h2 hlen
      repeat (first | (first | (apply AOpl.step; rfl) | apply AQl.step | apply ASl.step); focus simp [h2', -Option.some.injEq]; rfl | (first | (apply AOpl.stepG; rfl) | apply AQl.stepG | apply ASl.stepG); (focus simp [h2']; done); focus simp [h2', -Option.some.injEq]; rfl | (first | (apply AOpl.pass; rfl) | apply AQl.pass | apply ASl.pass); (focus simp [h2']; done) | (first | refine AOpl.nil ?_ | refine AWp.skip ?_ | refine AWp.exit ?_ | refine AWp.ret ?_ | refine AQl.nil ?_ | refine ASl.nil ?_); try simp only [Then, InBlock, reduceIte, Nat.reduceEqDiff] | refine AWp.seq ?_ | refine AWp.reg rfl ?_ | refine AWp.block ?_ | apply AWp.condT; (focus simp [h2']; done) | apply AWp.condF; (focus simp [h2']; done) | refine AWp.regD (by kernel_rfl) (by kernel_rfl) rfl ?_; intro _ | refine AWp.regT (by kernel_rfl) (by kernel_rfl) rfl rfl ?_)
      ((apply AOpl.callF); (focus rfl); (focus (simp [-Option.some.injEq]; rfl)); (focus (kernel_rfl)))
      exact fix_ok a h2
      intro nx1
      repeat (first | (first | (apply AOpl.step; rfl) | apply AQl.step | apply ASl.step); focus simp [-Option.some.injEq]; rfl | (first | (apply AOpl.stepG; rfl) | apply AQl.stepG | apply ASl.stepG); (focus simp; done); focus simp [-Option.some.injEq]; rfl | (first | (apply AOpl.pass; rfl) | apply AQl.pass | apply ASl.pass); (focus simp; done) | (first | refine AOpl.nil ?_ | refine AWp.skip ?_ | refine AWp.exit ?_ | refine AWp.ret ?_ | refine AQl.nil ?_ | refine ASl.nil ?_); try simp only [Then, InBlock, reduceIte, Nat.reduceEqDiff] | refine AWp.seq ?_ | refine AWp.reg rfl ?_ | refine AWp.block ?_ | apply AWp.condT; (focus simp; done) | apply AWp.condF; (focus simp; done) | refine AWp.regD (by kernel_rfl) (by kernel_rfl) rfl ?_; intro _ | refine AWp.regT (by kernel_rfl) (by kernel_rfl) rfl rfl ?_)
      ((apply AOpl.callF); (focus rfl); (focus (simp [-Option.some.injEq]; rfl)); (focus (kernel_rfl)))
      rw [← List.map_drop]
      exact fix_ok _ (by rw [← hlen]; exact h2)
      intro nx2
      rw [e1, e2]
      have hq : eqA Tryz.prog 110 (.agg xs) (.agg ys) = some (decide (a = b.drop (b.length - a.length))) := by
        simp only [eqA, ti_fixed, ti_int]
        rw [show Tryz.prog.eqGuardType Tryz.prog.depth 110 = false by kernel_rfl]
        exact e3
      ((apply AOpl.step); (focus rfl); (focus (simp [-sliA, hq, -eqA, -Option.some.injEq]; rfl)))
      repeat (first | (first | (apply AOpl.step; rfl) | apply AQl.step | apply ASl.step); focus simp [-Option.some.injEq]; rfl | (first | (apply AOpl.stepG; rfl) | apply AQl.stepG | apply ASl.stepG); (focus simp; done); focus simp [-Option.some.injEq]; rfl | (first | (apply AOpl.pass; rfl) | apply AQl.pass | apply ASl.pass); (focus simp; done) | (first | refine AOpl.nil ?_ | refine AWp.skip ?_ | refine AWp.exit ?_ | refine AWp.ret ?_ | refine AQl.nil ?_ | refine ASl.nil ?_); try simp only [Then, InBlock, reduceIte, Nat.reduceEqDiff] | refine AWp.seq ?_ | refine AWp.reg rfl ?_ | refine AWp.block ?_ | apply AWp.condT; (focus simp; done) | apply AWp.condF; (focus simp; done) | refine AWp.regD (by kernel_rfl) (by kernel_rfl) rfl ?_; intro _ | refine AWp.regT (by kernel_rfl) (by kernel_rfl) rfl rfl ?_)
      refine ⟨[.bool (decide (a = b.drop (b.length - a.length)))], by simp [Tryz.results29, resA, putE, ofV, ofS], ?_⟩
      rw [hp]; rfl
    · have h2' : ¬ (a.length : Int) ≤ 2 := by omega
      repeat (first | (first | (apply AOpl.step; rfl) | apply AQl.step | apply ASl.step); focus simp [h2', -Option.some.injEq]; rfl | (first | (apply AOpl.stepG; rfl) | apply AQl.stepG | apply ASl.stepG); (focus simp [h2']; done); focus simp [h2', -Option.some.injEq]; rfl | (first | (apply AOpl.pass; rfl) | apply AQl.pass | apply ASl.pass); (focus simp [h2']; done) | (first | refine AOpl.nil ?_ | refine AWp.skip ?_ | refine AWp.exit ?_ | refine AWp.ret ?_ | refine AQl.nil ?_ | refine ASl.nil ?_); try simp only [Then, InBlock, reduceIte, Nat.reduceEqDiff] | refine AWp.seq ?_ | refine AWp.reg rfl ?_ | refine AWp.block ?_ | apply AWp.condT; (focus simp [h2']; done) | apply AWp.condF; (focus simp [h2']; done) | refine AWp.regD (by kernel_rfl) (by kernel_rfl) rfl ?_; intro _ | refine AWp.regT (by kernel_rfl) (by kernel_rfl) rfl rfl ?_)
      ((apply AOpl.callF); (focus rfl); (focus (simp [-Option.some.injEq]; rfl)); (focus (kernel_rfl)))
      rw [← List.map_drop]
      exact sEqual_ok a _ (by omega)
      intro nx1
      repeat (first | (first | (apply AOpl.step; rfl) | apply AQl.step | apply ASl.step); focus simp [-Option.some.injEq]; rfl | (first | (apply AOpl.stepG; rfl) | apply AQl.stepG | apply ASl.stepG); (focus simp; done); focus simp [-Option.some.injEq]; rfl | (first | (apply AOpl.pass; rfl) | apply AQl.pass | apply ASl.pass); (focus simp; done) | (first | refine AOpl.nil ?_ | refine AWp.skip ?_ | refine AWp.exit ?_ | refine AWp.ret ?_ | refine AQl.nil ?_ | refine ASl.nil ?_); try simp only [Then, InBlock, reduceIte, Nat.reduceEqDiff] | refine AWp.seq ?_ | refine AWp.reg rfl ?_ | refine AWp.block ?_ | apply AWp.condT; (focus simp; done) | apply AWp.condF; (focus simp; done) | refine AWp.regD (by kernel_rfl) (by kernel_rfl) rfl ?_; intro _ | refine AWp.regT (by kernel_rfl) (by kernel_rfl) rfl rfl ?_)
      refine ⟨[.bool (decide (a = b.drop (b.length - a.length)))], by simp [Tryz.results29, resA, putE, ofV, ofS], ?_⟩
      rw [hp]; rfl
  · have h1 : (b.length : Int) < a.length := by omega
    repeat (first | (first | (apply AOpl.step; rfl) | apply AQl.step | apply ASl.step); focus simp [h1, -Option.some.injEq]; rfl | (first | (apply AOpl.stepG; rfl) | apply AQl.stepG | apply ASl.stepG); (focus simp [h1]; done); focus simp [h1, -Option.some.injEq]; rfl | (first | (apply AOpl.pass; rfl) | apply AQl.pass | apply ASl.pass); (focus simp [h1]; done) | (first | refine AOpl.nil ?_ | refine AWp.skip ?_ | refine AWp.exit ?_ | refine AWp.ret ?_ | refine AQl.nil ?_ | refine ASl.nil ?_); try simp only [Then, InBlock, reduceIte, Nat.reduceEqDiff] | refine AWp.seq ?_ | refine AWp.reg rfl ?_ | refine AWp.block ?_ | apply AWp.condT; (focus simp [h1]; done) | apply AWp.condF; (focus simp [h1]; done) | refine AWp.regD (by kernel_rfl) (by kernel_rfl) rfl ?_; intro _ | refine AWp.regT (by kernel_rfl) (by kernel_rfl) rfl rfl ?_)
    refine ⟨[.bool false], by simp [Tryz.results29, resA, putE, ofV, ofS], ?_⟩
    simp [packA, preL, hl]
end Go.Proofs.YtdjllogimomgmaaGreatDoor
