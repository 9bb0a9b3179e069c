/-
  AX: drawn regions that look, step by step; loops that count; a test against nil.
-/
import Derived.Test.YtdjllogimomgmaaGreatDoorAx20
set_option linter.unusedSimpArgs false
set_option linter.unusedVariables false
namespace Go.Proofs.YtdjllogimomgmaaGreatDoor
namespace Ax
/-- The operations of a drawn region that are left. -/
def AQl (P : Program) (G : Nat → CV) (H : Heap) (ops : Array Oper) (os : List Oper) (e : Env) (K : Env → Prop) : Prop := ∃ l e', QRun P G H ops os e l e' ∧ K e'
section
variable {P : Program} {G : Nat → CV} {n : Nat} {e : Env} {H : Heap} {nx : Nat} {Q : AExit → Env → Heap → Nat → Prop} {ops : Array Oper} {os : List Oper} {K : Env → Prop}
theorem AQl.nil (h : K e) : AQl P G H ops [] e K := ⟨[], e, .nil e, h⟩
variable {d : Option Nat} {op : Op} {ty : TypeId} {pos : String} {af : Array Edge} {g : Option (Nat × Bool)}
theorem AQl.stepG (hg : gd ops e ⟨d, op, ty, pos, af, g⟩ = some true) {c : CV} (hq : qstep P H (rd G e) op = some c) (h : AQl P G H ops os (putE e d c) K) : AQl P G H ops (⟨d, op, ty, pos, af, g⟩ :: os) e K := by
  obtain ⟨l, e', h1, h2⟩ := h
  exact ⟨_, e', .look (o := ⟨d, op, ty, pos, af, g⟩) c hg hq h1, h2⟩
theorem AQl.step {c : CV} (hq : qstep P H (rd G e) op = some c) (h : AQl P G H ops os (putE e d c) K) : AQl P G H ops (⟨d, op, ty, pos, af, none⟩ :: os) e K := AQl.stepG rfl hq h
theorem AQl.pass (hg : gd ops e ⟨d, op, ty, pos, af, g⟩ = some false) (h : AQl P G H ops os (putE e d (.tup [])) K) : AQl P G H ops (⟨d, op, ty, pos, af, g⟩ :: os) e K := by
  obtain ⟨l, e', h1, h2⟩ := h
  exact ⟨_, e', .skip (o := ⟨d, op, ty, pos, af, g⟩) hg h1, h2⟩
theorem AWp.regD {id : Nat} (hm : P.follows .mixedOrders = true) (hst : stat n ops = true) (hl : ops.toList = os) (h : ∀ nx, AQl P G H ops os e fun e' => Q .normal e' H nx) : AWp P G n (.region id ops true) e H nx Q := by
  obtain ⟨l, e', h1, h2⟩ := h (nx + ops.size)
  subst hl
  exact AWp.regQ hm hst h1 h2
theorem range2 : List.range 2 = [0, 1] := rfl
/-- Arguments of which less is asked. -/
theorem FCall.imp {f : FuncId} {args args' : List CV} {R : Res → Prop} (h : ∀ M vs, RVs M args vs → RVs M args' vs) (hf : FCall P G f args' R) : FCall P G f args R := fun H nx M w vs g r v => hf H nx M w vs g r (h M vs v)
theorem RV.nil_lst {M : Mp} {v : Value} (h : RV M .nils v) : RV M (.lst []) v := by cases h; exact .lst0 _ _
/-- A loop that counts up to N. -/
theorem AWp.count {c : Code} (N : Nat) (S : Nat → Env → Heap → Nat → Prop) (h0 : S 0 e H nx)
    (round : ∀ i e H nx, i ≤ N → S i e H nx → AWp P G n c e H nx (Then (fun e' H' nx' => i < N ∧ S (i + 1) e' H' nx') Q)) : AWp P G n (.loop c) e H nx Q := by
  refine AWp.loop (α := Nat) (fun k e H nx => k ≤ N ∧ S (N - k) e H nx) id N ⟨Nat.le_refl _, by simpa using h0⟩ ?_
  rintro k e H nx ⟨hk, hs⟩
  refine (round (N - k) e H nx (by omega) hs).mono ?_
  intro x e H nx hx
  cases x with
  | normal =>
    obtain ⟨h1, h2⟩ := hx
    exact ⟨k - 1, by simp only [id]; omega, by omega, by rwa [show N - (k - 1) = N - k + 1 by omega]⟩
  | exit i => exact hx
  | ret => exact hx
  | pan v => exact hx
end
end Ax
end Go.Proofs.YtdjllogimomgmaaGreatDoor
