/-
  AX: drawn regions that look, step by step; loops that count; a test against nil.
-/
import Derived.Test.YtdjllogimomgmaaGreatDoorAx20
set_option linter.unusedSimpArgs false
set_option linter.unusedVariables false
namespace Go.Proofs.YtdjllogimomgmaaGreatDoor
namespace Ax
/-- The operations of a drawn region that are left. -/
def AQl (P : Program) (G : Nat → CV) (H : Heap) (ops : Array Oper) (os : List Oper) (e : Env) (K : Env → Prop) : Prop := ∀ j, ∃ l e' m, QRun P G H ops j os e l e' m ∧ K e'
section
variable {P : Program} {G : Nat → CV} {n : Nat} {e : Env} {H : Heap} {nx : Nat} {Q : AExit → Env → Heap → Nat → Prop} {ops : Array Oper} {os : List Oper} {K : Env → Prop}
theorem AQl.nil (h : K e) : AQl P G H ops [] e K := fun j => ⟨[], e, j, .nil j e, h⟩
variable {d : Option Nat} {op : Op} {ty : TypeId} {pos : String} {af : Array Edge} {g : Option (Nat × Bool)}
theorem AQl.stepG (hg : gd ops e ⟨d, op, ty, pos, af, g⟩ = some true) {c : CV} (hq : qstep P H (rd G e) op = some c) (h : AQl P G H ops os (putE e d c) K) : AQl P G H ops (⟨d, op, ty, pos, af, g⟩ :: os) e K := fun j => by
  obtain ⟨l, e', m, h1, h2⟩ := h j
  exact ⟨_, e', m, .look (o := ⟨d, op, ty, pos, af, g⟩) c hg hq h1, h2⟩
theorem AQl.step {c : CV} (hq : qstep P H (rd G e) op = some c) (h : AQl P G H ops os (putE e d c) K) : AQl P G H ops (⟨d, op, ty, pos, af, none⟩ :: os) e K := AQl.stepG rfl hq h
theorem AQl.pass (hg : gd ops e ⟨d, op, ty, pos, af, g⟩ = some false) (h : AQl P G H ops os (putE e d (.tup [])) K) : AQl P G H ops (⟨d, op, ty, pos, af, g⟩ :: os) e K := fun j => by
  obtain ⟨l, e', m, h1, h2⟩ := h j
  exact ⟨_, e', m, .skip (o := ⟨d, op, ty, pos, af, g⟩) hg h1, h2⟩
/-- A call that leaves the memory and the numbers alone. -/
theorem AQl.callG (hg : gd ops e ⟨d, op, ty, pos, af, g⟩ = some true) {f : FuncId} {args : List CV} (hq : callA (rd G e) op = some (f, args)) (he : enters P f = true) {v : CV} (hf : ∀ nx, ACall P G f args H nx fun r H' nx' => r = .ret v ∧ H' = H ∧ nx' = nx)
    (h : AQl P G H ops os (putE e d v) K) : AQl P G H ops (⟨d, op, ty, pos, af, g⟩ :: os) e K := fun j => by
  obtain ⟨l, e', m, h1, h2⟩ := h (j + 1)
  exact ⟨_, e', m, .call (o := ⟨d, op, ty, pos, af, g⟩) v hg hq he hf h1, h2⟩
theorem AQl.call {f : FuncId} {args : List CV} (hq : callA (rd G e) op = some (f, args)) (he : enters P f = true) {v : CV} (hf : FCall1 P G f args v) (h : AQl P G H ops os (putE e d v) K) : AQl P G H ops (⟨d, op, ty, pos, af, none⟩ :: os) e K := AQl.callG rfl hq he (hf H) h
theorem AQl.callg (hg : gd ops e ⟨d, op, ty, pos, af, g⟩ = some true) {f : FuncId} {args : List CV} (hq : callA (rd G e) op = some (f, args)) (he : enters P f = true) {v : CV} (hf : FCall1 P G f args v) (h : AQl P G H ops os (putE e d v) K) : AQl P G H ops (⟨d, op, ty, pos, af, g⟩ :: os) e K := AQl.callG hg hq he (hf H) h
/-- A contract without memory whose values are pure leaves the numbers alone, too. -/
theorem FCall.one {f : FuncId} {args : List CV} {v : CV} (hG : ∀ g, puV (G g) = true) (ha : puL args = true) (hv : puV v = true) (h : FCall P G f args fun r => r = .ret v) : FCall1 P G f args v := by
  intro H nx M w vs g r rv
  have h0 := h Heap.no 0
  have r0 : Rep ⟨M.fz, fun _ => none⟩ Heap.no 0 w := ⟨fun _ _ h => (by cases h), fun _ _ _ _ _ _ _ h => (by cases h), fun _ _ => rfl, r.fz, fun _ _ _ _ _ _ h => (by cases h)⟩
  refine (h0 ⟨M.fz, fun _ => none⟩ w vs (fun x => RV.swap (M := M) (M' := ⟨M.fz, fun _ => none⟩) (fun _ _ h => h) (g x) (hG x)) r0 (RVs.swap (M := M) (M' := ⟨M.fz, fun _ => none⟩) (fun _ _ h => h) rv ha)).mono ?_
  rintro e w' ⟨M1, x, H1, nx1, a1, a2, a3, a4, rfl⟩
  subst a4
  have ni : ∀ b k g m, H b = some k → M.bk b = some (g, m) → g < w.heap.size ∧ w'.heap[g]? = w.heap[g]? ∧ ∀ o, M1.fz g ≠ some o := by
    intro b k g m hb hm
    have hlt := r.lt hb hm
    refine ⟨hlt, a3.kept g hlt (fun ⟨_, _, _, h, _⟩ => by cases h), fun o ho => ?_⟩
    rcases a3.fzn g o ho with h1 | ⟨_, _, _, h1, _⟩ | h1
    · exact r.sep g o b k m h1 hb hm
    · cases h1
    · omega
  have he : Ext M ⟨M1.fz, M.bk⟩ := ⟨fun x y h => a3.ext.fz x y h, fun _ _ h => h⟩
  refine ⟨⟨M1.fz, M.bk⟩, .ret v, H, nx, EndR.swap (M := M1) (M' := ⟨M1.fz, M.bk⟩) (fun _ _ h => h) a1 hv, ⟨fun b k hb => ?_, r.inj, r.fresh, a2.fz, fun g o b k m hz hb hm => (ni b k g m hb hm).2.2 o hz⟩, ⟨he, a3.os, a3.tape, a3.output, a3.grown, fun g hg _ => a3.kept g hg (fun ⟨_, _, _, h, _⟩ => by cases h), fun _ h => .inl h, fun _ _ => rfl, Nat.le_refl _, fun g o h => ?_⟩, rfl, rfl, rfl⟩
  · obtain ⟨g, m, h1, h2⟩ := r.blk b k hb
    exact ⟨g, m, h1, h2.ext he (ni b k g m hb h1).2.1⟩
  · rcases a3.fzn g o h with h1 | ⟨_, _, _, h1, _⟩ | h1
    · exact .inl h1
    · cases h1
    · exact .inr (.inr h1)
theorem AWp.regD {id : Nat} (hm : P.follows .mixedOrders = true) (hst : stat n ops = true) (hl : ops.toList = os) (h : ∀ nx, AQl P G H ops os e fun e' => Q .normal e' H nx) : AWp P G n (.region id ops true) e H nx Q := by
  obtain ⟨l, e', m, h1, h2⟩ := h (nx + ops.size) 0
  subst hl
  exact AWp.regQ hm hst h1 h2
theorem range2 : List.range 2 = [0, 1] := rfl
/-- Arguments of which less is asked. -/
theorem FCall.imp {f : FuncId} {args args' : List CV} {R : Res → Prop} (h : ∀ M vs, RVs M args vs → RVs M args' vs) (hf : FCall P G f args' R) : FCall P G f args R := fun H nx M w vs g r v => hf H nx M w vs g r (h M vs v)
theorem RV.nil_lst {M : Mp} {v : Value} (h : RV M .nils v) : RV M (.lst []) v := by cases h; exact .lst0 _ _
/-- A loop that counts up to N. -/
theorem AWp.count {c : Code} (N : Nat) (S : Nat → Env → Heap → Nat → Prop) (h0 : S 0 e H nx)
    (round : ∀ i e H nx, i ≤ N → S i e H nx → AWp P G n c e H nx (Then (fun e' H' nx' => i < N ∧ S (i + 1) e' H' nx') Q)) : AWp P G n (.loop c) e H nx Q := by
  refine AWp.loop (α := Nat) (fun k e H nx => k ≤ N ∧ S (N - k) e H nx) id N ⟨Nat.le_refl _, by simpa using h0⟩ ?_
  rintro k e H nx ⟨hk, hs⟩
  refine (round (N - k) e H nx (by omega) hs).mono ?_
  intro x e H nx hx
  cases x with
  | normal =>
    obtain ⟨h1, h2⟩ := hx
    exact ⟨k - 1, by simp only [id]; omega, by omega, by rwa [show N - (k - 1) = N - k + 1 by omega]⟩
  | exit i => exact hx
  | ret => exact hx
  | pan v => exact hx
end
end Ax
end Go.Proofs.YtdjllogimomgmaaGreatDoor
