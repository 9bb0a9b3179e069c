/-
  Arguments that are structs.
-/
import Derived.Test.YtdjllogimomgmaaGreatDoorUnit
set_option linter.unusedSimpArgs false
set_option linter.unusedVariables false
namespace Go.Proofs.YtdjllogimomgmaaGreatDoor
open Go.RowKit
open Tx Ax
theorem agg_of {P : Program} {w : World} {r : Reach} {b : Nat} {t : TypeId} {fs : Array Field} {v : Value} (ht : P.underlying t = some (.struct fs)) (hval : Value.okWide P w r b t v) : ∃ cs, v = .agg cs := by
  cases v <;> first
    | exact ⟨_, rfl⟩
    | (exfalso; simp [Value.okWide, Cell.okWide, Cell.ok, ht] at hval)
theorem agg_rv {M : Mp} {cs : List CV} {arr : Array Value} (h : RVs M cs (Value.agg arr).cells.toList) : RV M (.agg cs) (.agg arr) := by
  have h' : RVs M cs arr.toList := h
  have := RV.agg (M := M) cs arr.toList h'.1 h'.2
  simpa using this
end Go.Proofs.YtdjllogimomgmaaGreatDoor
