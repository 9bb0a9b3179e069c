/-
  Arguments that are structs.
-/
import Derived.Test.YtdjllogimomgmaaGreatDoorJuA
set_option linter.unusedSimpArgs false
set_option linter.unusedVariables false
namespace Go.Proofs.YtdjllogimomgmaaGreatDoor
open Go.RowKit
open Tx Ax
theorem agg_of {P : Program} {w : World} {r : Reach} {b : Nat} {t : TypeId} {fs : Array Field} {v : Value} (ht : P.underlying t = some (.struct fs)) (hval : Value.okWide P w r b t v) : ∃ cs, v = .agg cs := by
  cases v <;> first
    | exact ⟨_, rfl⟩
    | (exfalso; simp [Value.okWide, Cell.okWide, Cell.ok, ht] at hval)
theorem agg_rv {M : Mp} {cs : List CV} {arr : Array Value} (h : RVs M cs (Value.agg arr).cells.toList) : RV M (.agg cs) (.agg arr) := by
  have h' : RVs M cs arr.toList := h
  have := RV.agg (M := M) cs arr.toList h'.1 h'.2
  simpa using this
theorem len2' {α : Type} {cs : List α} (h : cs.length = 2) : ∃ c0 c1, cs = [c0, c1] := by
  match cs, h with
  | [c0, c1], _ => exact ⟨c0, c1, rfl⟩
theorem len4' {α : Type} {cs : List α} (h : cs.length = 4) : ∃ c0 c1 c2 c3, cs = [c0, c1, c2, c3] := by
  match cs, h with
  | [c0, c1, c2, c3], _ => exact ⟨c0, c1, c2, c3, rfl⟩
section
variable {H : Type} {enc : TypeId × Value → H} {w : World} {spare : Nat → Bool} {held : Bool}
theorem cells_se : Tryz.prog.cellsOf 55 = 2 := by kernel_rfl
theorem cells_hs : Tryz.prog.cellsOf 57 = 2 := by kernel_rfl
theorem cells_ca : Tryz.prog.cellsOf 59 = 4 := by kernel_rfl
theorem flds_se : fldsOf 55 = [(3, 0, 1), (3, 1, 1)] := by kernel_rfl
theorem flds_hs : fldsOf 57 = [(3, 0, 1), (49, 1, 1)] := by kernel_rfl
theorem flds_ca : fldsOf 59 = [(49, 0, 1), (3, 1, 1), (57, 2, 2)] := by kernel_rfl
theorem trod_se {fuel : Nat} {cs : List Value} {x : DataW H × List MemPlace} (h : DataW.trod enc Tryz.prog w 0 spare held fuel 55 cs = some x) : ∃ u, RVs (snap w) (cvSe u) cs ∧ SeB u := by
  obtain ⟨n, rfl, hl, hf⟩ := trod_at flds_se (by simp) h
  rw [cells_se] at hl
  obtain ⟨c0, c1, rfl⟩ := len2' hl
  obtain ⟨_, f0⟩ := hf 0 _ _ _ rfl
  obtain ⟨_, f1⟩ := hf 1 _ _ _ rfl
  simp only [List.drop_zero, List.take_succ_cons, List.take_zero, List.drop_succ_cons] at f0 f1
  obtain ⟨v0, e0, x0, r0, b0⟩ := trod_num Tryz.underlying3 f0
  obtain ⟨v1, e1, x1, r1, b1⟩ := trod_num Tryz.underlying3 f1
  cases e0; cases e1
  exact ⟨⟨x0, x1⟩, .cons r0 (.one r1), b0, b1⟩
theorem trod_hs {fuel : Nat} {cs : List Value} {x : DataW H × List MemPlace} (h : DataW.trod enc Tryz.prog w 0 spare held fuel 57 cs = some x) : ∃ u, RVs (snap w) (cvHs u) cs ∧ In64 u.site ∧ IsB u.ctx := by
  obtain ⟨n, rfl, hl, hf⟩ := trod_at flds_hs (by simp) h
  rw [cells_hs] at hl
  obtain ⟨c0, c1, rfl⟩ := len2' hl
  obtain ⟨_, f0⟩ := hf 0 _ _ _ rfl
  obtain ⟨_, f1⟩ := hf 1 _ _ _ rfl
  simp only [List.drop_zero, List.take_succ_cons, List.take_zero, List.drop_succ_cons] at f0 f1
  obtain ⟨v0, e0, x0, r0, b0⟩ := trod_num Tryz.underlying3 f0
  obtain ⟨v1, e1, x1, r1, b1⟩ := trod_ints f1
  cases e0; cases e1
  exact ⟨⟨x0, x1⟩, .cons r0 (.one r1), b0, b1⟩
theorem trod_ca {fuel : Nat} {cs : List Value} {x : DataW H × List MemPlace} (h : DataW.trod enc Tryz.prog w 0 spare held fuel 59 cs = some x) : ∃ u, RVs (snap w) (cvCa u) cs ∧ CaB u := by
  obtain ⟨n, rfl, hl, hf⟩ := trod_at flds_ca (by simp) h
  rw [cells_ca] at hl
  obtain ⟨c0, c1, c2, c3, rfl⟩ := len4' hl
  obtain ⟨_, f0⟩ := hf 0 _ _ _ rfl
  obtain ⟨_, f1⟩ := hf 1 _ _ _ rfl
  obtain ⟨_, f2⟩ := hf 2 _ _ _ rfl
  simp only [List.drop_zero, List.take_succ_cons, List.take_zero, List.drop_succ_cons] at f0 f1 f2
  obtain ⟨v0, e0, x0, r0, b0⟩ := trod_ints f0
  obtain ⟨v1, e1, x1, r1, b1⟩ := trod_num Tryz.underlying3 f1
  obtain ⟨x2, r2, b2, b3⟩ := trod_hs f2
  cases e0; cases e1
  exact ⟨⟨x0, x1, x2⟩, .cons r0 (.cons r1 r2), b0, b1, b2, b3⟩
end
end Go.Proofs.YtdjllogimomgmaaGreatDoor
