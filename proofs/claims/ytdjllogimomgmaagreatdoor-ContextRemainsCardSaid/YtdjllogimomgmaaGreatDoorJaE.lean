/-
  AX: drawn regions that look, step by step; loops that count; a test against nil.
-/
import Derived.Test.YtdjllogimomgmaaGreatDoorJaD
set_option linter.unusedSimpArgs false
set_option linter.unusedVariables false
namespace Go.Proofs.YtdjllogimomgmaaGreatDoor
namespace Ax
/-- The operations of a drawn region that are left. -/
def AQl (P : Program) (G : Nat → CV) (H : Heap) (ops : Array Oper) (os : List Oper) (e : Env) (K : Env → Prop) : Prop := ∀ j, ∃ l e' m, QRun P G H ops j os e l e' m ∧ K e'
section
variable {P : Program} {G : Nat → CV} {n : Nat} {e : Env} {H : Heap} {nx : Nat} {Q : AExit → Env → Heap → Nat → Prop} {ops : Array Oper} {os : List Oper} {K : Env → Prop}
theorem AQl.nil (h : K e) : AQl P G H ops [] e K := fun j => ⟨[], e, j, .nil j e, h⟩
variable {d : Option Nat} {op : Op} {ty : TypeId} {pos : String} {af : Array Edge} {g : Option (Nat × Bool)}
theorem AQl.stepG (hg : gd ops e ⟨d, op, ty, pos, af, g⟩ = some true) {c : CV} (hq : qstep P H (rd G e) op = some c) (h : AQl P G H ops os (putE e d c) K) : AQl P G H ops (⟨d, op, ty, pos, af, g⟩ :: os) e K := fun j => by
  obtain ⟨l, e', m, h1, h2⟩ := h j
  exact ⟨_, e', m, .look (o := ⟨d, op, ty, pos, af, g⟩) c hg hq h1, h2⟩
theorem AQl.step {c : CV} (hq : qstep P H (rd G e) op = some c) (h : AQl P G H ops os (putE e d c) K) : AQl P G H ops (⟨d, op, ty, pos, af, none⟩ :: os) e K := AQl.stepG rfl hq h
theorem AQl.pass (hg : gd ops e ⟨d, op, ty, pos, af, g⟩ = some false) (h : AQl P G H ops os (putE e d (.tup [])) K) : AQl P G H ops (⟨d, op, ty, pos, af, g⟩ :: os) e K := fun j => by
  obtain ⟨l, e', m, h1, h2⟩ := h j
  exact ⟨_, e', m, .skip (o := ⟨d, op, ty, pos, af, g⟩) hg h1, h2⟩
/-- A call that leaves the memory and the numbers alone. -/
theorem AQl.callG (hg : gd ops e ⟨d, op, ty, pos, af, g⟩ = some true) {f : FuncId} {args : List CV} (hq : callA (rd G e) op = some (f, args)) (he : enters P f = true) {v : CV} (hf : ∀ nx, ACall P G f args H nx fun r H' nx' => r = .ret v ∧ H' = H ∧ nx' = nx)
    (h : AQl P G H ops os (putE e d v) K) : AQl P G H ops (⟨d, op, ty, pos, af, g⟩ :: os) e K := fun j => by
  obtain ⟨l, e', m, h1, h2⟩ := h (j + 1)
  exact ⟨_, e', m, .call (o := ⟨d, op, ty, pos, af, g⟩) v hg hq he hf h1, h2⟩
theorem AQl.call {f : FuncId} {args : List CV} (hq : callA (rd G e) op = some (f, args)) (he : enters P f = true) {v : CV} (hf : FCall1 P G f args v) (h : AQl P G H ops os (putE e d v) K) : AQl P G H ops (⟨d, op, ty, pos, af, none⟩ :: os) e K := AQl.callG rfl hq he (hf H) h
theorem AQl.callg (hg : gd ops e ⟨d, op, ty, pos, af, g⟩ = some true) {f : FuncId} {args : List CV} (hq : callA (rd G e) op = some (f, args)) (he : enters P f = true) {v : CV} (hf : FCall1 P G f args v) (h : AQl P G H ops os (putE e d v) K) : AQl P G H ops (⟨d, op, ty, pos, af, g⟩ :: os) e K := AQl.callG hg hq he (hf H) h
/-- A contract without memory whose values are pure leaves the numbers alone, too. -/
theorem FCall.one {f : FuncId} {args : List CV} {v : CV} (hG : ∀ g, puV (G g) = true) (ha : puL args = true) (hv : puV v = true) (h : FCall P G f args fun r => r = .ret v) : FCall1 P G f args v := by
  intro H nx M w vs g r rv
  have h0 := h Heap.no 0
  have r0 : Rep ⟨M.fz, fun _ => none⟩ Heap.no 0 w := ⟨fun _ _ h => (by cases h), fun _ _ _ _ _ _ _ h => (by cases h), fun _ _ => rfl, r.fz, fun _ _ _ _ _ _ h => (by cases h)⟩
  refine (h0 ⟨M.fz, fun _ => none⟩ w vs (fun x => RV.swap (M := M) (M' := ⟨M.fz, fun _ => none⟩) (fun _ _ h => h) (g x) (hG x)) r0 (RVs.swap (M := M) (M' := ⟨M.fz, fun _ => none⟩) (fun _ _ h => h) rv ha)).mono ?_
  rintro e w' ⟨M1, x, H1, nx1, a1, a2, a3, a4, rfl⟩
  subst a4
  have ni : ∀ b k g m, H b = some k → M.bk b = some (g, m) → g < w.heap.size ∧ w'.heap[g]? = w.heap[g]? ∧ ∀ o, M1.fz g ≠ some o := by
    intro b k g m hb hm
    have hlt := r.lt hb hm
    refine ⟨hlt, a3.kept g hlt (fun ⟨_, _, _, h, _⟩ => by cases h), fun o ho => ?_⟩
    rcases a3.fzn g o ho with h1 | ⟨_, _, _, h1, _⟩ | h1
    · exact r.sep g o b k m h1 hb hm
    · cases h1
    · omega
  have he : Ext M ⟨M1.fz, M.bk⟩ := ⟨fun x y h => a3.ext.fz x y h, fun _ _ h => h⟩
  refine ⟨⟨M1.fz, M.bk⟩, .ret v, H, nx, EndR.swap (M := M1) (M' := ⟨M1.fz, M.bk⟩) (fun _ _ h => h) a1 hv, ⟨fun b k hb => ?_, r.inj, r.fresh, a2.fz, fun g o b k m hz hb hm => (ni b k g m hb hm).2.2 o hz⟩, ⟨he, a3.os, a3.tape, a3.output, a3.grown, fun g hg _ => a3.kept g hg (fun ⟨_, _, _, h, _⟩ => by cases h), fun _ h => .inl h, fun _ _ => rfl, Nat.le_refl _, fun g o h => ?_⟩, rfl, rfl, rfl⟩
  · obtain ⟨g, m, h1, h2⟩ := r.blk b k hb
    exact ⟨g, m, h1, h2.ext he (ni b k g m hb h1).2.1⟩
  · rcases a3.fzn g o h with h1 | ⟨_, _, _, h1, _⟩ | h1
    · exact .inl h1
    · cases h1
    · exact .inr (.inr h1)
theorem AWp.regD {id : Nat} (hm : P.follows .mixedOrders = true) (hst : stat n ops = true) (hl : ops.toList = os) (h : ∀ nx, AQl P G H ops os e fun e' => Q .normal e' H nx) : AWp P G n (.region id ops true) e H nx Q := by
  obtain ⟨l, e', m, h1, h2⟩ := h (nx + ops.size) 0
  subst hl
  exact AWp.regQ hm hst h1 h2
theorem range2 : List.range 2 = [0, 1] := rfl
/-- Arguments of which less is asked. -/
theorem FCall.imp {f : FuncId} {args args' : List CV} {R : Res → Prop} (h : ∀ M vs, RVs M args vs → RVs M args' vs) (hf : FCall P G f args' R) : FCall P G f args R := fun H nx M w vs g r v => hf H nx M w vs g r (h M vs v)
theorem RV.nil_lst {M : Mp} {v : Value} (h : RV M .nils v) : RV M (.lst []) v := by cases h; exact .lst0 _ _
/-- A loop that counts up to N. -/
theorem AWp.count {c : Code} (N : Nat) (S : Nat → Env → Heap → Nat → Prop) (h0 : S 0 e H nx)
    (round : ∀ i e H nx, i ≤ N → S i e H nx → AWp P G n c e H nx (Then (fun e' H' nx' => i < N ∧ S (i + 1) e' H' nx') Q)) : AWp P G n (.loop c) e H nx Q := by
  refine AWp.loop (α := Nat) (fun k e H nx => k ≤ N ∧ S (N - k) e H nx) id N ⟨Nat.le_refl _, by simpa using h0⟩ ?_
  rintro k e H nx ⟨hk, hs⟩
  refine (round (N - k) e H nx (by omega) hs).mono ?_
  intro x e H nx hx
  cases x with
  | normal =>
    obtain ⟨h1, h2⟩ := hx
    exact ⟨k - 1, by simp only [id]; omega, by omega, by rwa [show N - (k - 1) = N - k + 1 by omega]⟩
  | exit i => exact hx
  | ret => exact hx
  | pan v => exact hx
end
end Ax
end Go.Proofs.YtdjllogimomgmaaGreatDoor
namespace Go.Proofs.YtdjllogimomgmaaGreatDoor
namespace Ax
section
variable {P : Program} {H : Heap} {nx : Nat} {t el : TypeId} {s b1 : Nat} {z : Value} {i : TI}
theorem app_row {b x n k : Nat} {cs row : List CV} (ht : ti P t = some ⟨.slice el, s, z, b1⟩) (hi : ti P el = some i) (hk : i.size = k) (hz : i.zero.cells.size = k) (hk0 : 0 < k) (hb : H b = some (.cells cs)) (hcs : cs.length = n * k)
    (hx : H x = some (.cells row)) (hrow : row.length = k) (hone : row.all CV.one = true) (hn : n < 1000000000) (hby : i.bytes ≤ 1000) : appA P H nx t t (.sl b 0 n k) (.sl x 0 1 k) = some (.sl nx 0 (n + 1) k, .mv b (.cells (cs ++ row))) := by
  have h1 : Nat.ble (0 + 1 * k) row.length = true := Nat.ble_eq_true_of_le (by omega)
  have h2 : Nat.ble (n * k) cs.length = true := Nat.ble_eq_true_of_le (by omega)
  have h3 : Nat.ble (n + 1) 9223372036854775807 = true := Nat.ble_eq_true_of_le (by omega)
  have h4 : (n + 1) * i.bytes ≤ 1000000000 * 1000 := Nat.mul_le_mul (by omega) hby
  have h5 : Nat.ble ((n + 1) * i.bytes) 140737488355328 = true := Nat.ble_eq_true_of_le (by omega)
  have h6 : Nat.blt 0 i.size = true := lt_blt (by omega)
  have h7 : Nat.beq i.zero.cells.size i.size = true := by rw [hz, hk]; exact Nat.beq_refl _
  have h8 : Nat.beq k i.size = true := by rw [hk]; exact Nat.beq_refl _
  have e1 : row.take (1 * k) = row := List.take_of_length_le (by omega)
  have e2 : cs.take (n * k) = cs := List.take_of_length_le (by omega)
  unfold appA
  simp only [ht, hi, srcD, h6, h7, Bool.and_self, srcA, hx, h8, h1, Bool.true_and, List.drop_zero, e1, hone, hb, Nat.beq_refl, h2, h3, h5, e2]
theorem app_row0 {x k : Nat} {row : List CV} (ht : ti P t = some ⟨.slice el, s, z, b1⟩) (hi : ti P el = some i) (hk : i.size = k) (hz : i.zero.cells.size = k) (hk0 : 0 < k)
    (hx : H x = some (.cells row)) (hrow : row.length = k) (hone : row.all CV.one = true) (hby : i.bytes ≤ 1000) : appA P H nx t t .nils (.sl x 0 1 k) = some (.sl nx 0 1 k, .nw (.cells row)) := by
  subst hk
  have h1 : Nat.ble (0 + 1 * i.size) row.length = true := Nat.ble_eq_true_of_le (by omega)
  have h3 : Nat.ble 1 9223372036854775807 = true := rfl
  have h5 : Nat.ble (1 * i.bytes) 140737488355328 = true := Nat.ble_eq_true_of_le (by omega)
  have h6 : Nat.blt 0 i.size = true := lt_blt (by omega)
  have h7 : Nat.beq i.zero.cells.size i.size = true := by rw [hz]; exact Nat.beq_refl _
  have e1 : row.take (1 * i.size) = row := List.take_of_length_le (by omega)
  have e0 : Nat.beq 1 0 = false := rfl
  unfold appA
  simp only [ht, hi, srcD, h6, h7, Bool.and_self, srcA, hx, Nat.beq_refl, h1, Bool.true_and, List.drop_zero, e1, hone, e0, h3, h5]
end
/-- An own list: nil, or a block of rows. -/
def OwnL {α : Type} (cv : α → List CV) (k : Nat) (H : Heap) (nx : Nat) (c : CV) (l : List α) : Prop := (l = [] ∧ c = .nils) ∨ ∃ b, c = .sl b 0 l.length k ∧ H b = some (.cells (l.flatMap cv)) ∧ b < nx
theorem OwnL.frozen {α : Type} {cv : α → List CV} {k : Nat} (hk : ∀ a, (cv a).length = k) {l : List α} : rowsOf (l.flatMap cv) 0 k l.length = l.map cv := by
  have := rowsOf_flat0 (k := k) (rows := l.map cv) (fun r hr => by obtain ⟨a, _, rfl⟩ := List.mem_map.mp hr; exact hk a)
  rw [List.length_map] at this
  rw [List.flatMap_def]; exact this
theorem flatMap_len {α : Type} {cv : α → List CV} {k : Nat} (hk : ∀ a, (cv a).length = k) (l : List α) : (l.flatMap cv).length = l.length * k := by
  induction l with
  | nil => simp
  | cons a l ih => simp only [List.flatMap_cons, List.length_append, hk, ih, List.length_cons, Nat.add_mul]; omega
/-- What an own list becomes at the end. -/
theorem OwnL.fz {α : Type} {cv : α → List CV} {k : Nat} (hk : ∀ a, (cv a).length = k) {H : Heap} {nx : Nat} {c : CV} {l : List α} (h : OwnL cv k H nx c l) {P : Program} {G : Nat → CV} {f : FuncId} {args : List CV} :
    ∀ {M : Mp} {nx' : Nat} {w : World} {e : Ending}, Rep M H nx' w → EndR M (.ret c) e → ∃ M', EndR M' (.ret (.lst (l.map cv))) e ∧ Rep M' Heap.no nx' w ∧ Fr H M nx' w Heap.no M' nx' w := by
  intro M nx' w e hr he
  rcases h with ⟨rfl, rfl⟩ | ⟨b, rfl, hb, _⟩
  · cases e <;> simp only [EndR] at he
    exact ⟨M, RV.nil_lst he, hr.weak (Sub.no _), Fr.weak (Sub.no _)⟩
  · refine Fz.sound (.step (r1 := .ret (.lst (l.map cv))) b _ hb (.ret ?_) (.done _ _ _ (Sub.no _))) hr he
    have := FV.sl (b := b) (cs := l.flatMap cv) 0 l.length k (by rw [flatMap_len hk]; omega)
    rw [OwnL.frozen hk] at this
    exact this
/-- A function that gives back an own list. -/
theorem FCall.ofBodyL {P : Program} {G : Nat → CV} {f : FuncId} {fn : Func} {c : Code} {args : List CV} {n : Nat} {α : Type} {cv : α → List CV} {k : Nat} {l : List α} (hk : ∀ a, (cv a).length = k) (hf : P.funcs[f]? = some fn) (hb : fn.body = some c) (hn : max args.length fn.ntmps = n)
    (h : ∀ nx, AWp P G n c (argE args) Heap.no nx (BodyQ P fn fun r H' nx' => ∃ c, r = .ret c ∧ OwnL cv k H' nx' c l)) : FCall P G f args fun r => r = .ret (.lst (l.map cv)) := by
  refine FCall.of fun nx => ?_
  intro M w vs g r v
  refine (ACall.of_body hf hb (hn ▸ h nx) M w vs g r v).mono ?_
  rintro e w' ⟨M1, x, H1, n1, a1, a2, a3, c, rfl, ho⟩
  obtain ⟨M2, b1, b2, b3⟩ := ho.fz hk (P := P) (G := G) (f := f) (args := args) a2 a1
  exact ⟨M2, _, Heap.no, n1, b1, b2, a3.trans b3, rfl⟩
theorem OwnL.up {α : Type} {cv : α → List CV} {k : Nat} {H : Heap} {nx nx' : Nat} {c : CV} {l : List α} (h : OwnL cv k H nx c l) (hn : nx ≤ nx') : OwnL cv k H nx' c l := by
  rcases h with h | ⟨b, h1, h2, h3⟩
  · exact .inl h
  · exact .inr ⟨b, h1, h2, by omega⟩
theorem OwnL.upd {α : Type} {cv : α → List CV} {k : Nat} {H : Heap} {nx x : Nat} {c : CV} {l : List α} {kk : CB} (h : OwnL cv k H nx c l) (hx : nx ≤ x) : OwnL cv k (Ax.upd H x kk) nx c l := by
  rcases h with h | ⟨b, h1, h2, h3⟩
  · exact .inl h
  · exact .inr ⟨b, h1, by rw [upd_miss _ _ _ _ (by omega)]; exact h2, h3⟩
section
variable {P : Program} {G : Nat → CV} {n : Nat} {e : Env} {H : Heap} {nx : Nat} {Q : AExit → Env → Heap → Nat → Prop} {ops : Array Oper} {os : List Oper} {d : Option Nat} {ty : TypeId} {pos : String} {af : Array Edge} {g : Option (Nat × Bool)}
/-- One more row for an own list. -/
theorem AOpl.appRow {α : Type} {cv : α → List CV} {k : Nat} {t el : TypeId} {s b1 : Nat} {z : Value} {i : TI} (ht : ti P t = some ⟨.slice el, s, z, b1⟩) (hi : ti P el = some i) (hk : i.size = k) (hz : i.zero.cells.size = k) (hk0 : 0 < k) (hby : i.bytes ≤ 1000)
    (hcv : ∀ a, (cv a).length = k) (hone : ∀ a, (cv a).all CV.one = true) {so xo : Operand} {c : CV} {l : List α} {x : Nat} {u : α} (hd : okD n d = true) (hg : gd ops e ⟨d, .call ⟨.builtin .append, #[so, xo], #[t, t]⟩, ty, pos, af, g⟩ = some true)
    (hs : rd G e so = c) (hx : rd G e xo = .sl x 0 1 k) (ho : OwnL cv k H nx c l) (hxb : H x = some (.cells (cv u))) (hn : l.length < 1000000000)
    (h : ∀ c' H' nx', OwnL cv k H' nx' c' (l ++ [u]) → nx ≤ nx' → (∀ b, b < nx → (∀ b', c = .sl b' 0 l.length k → b ≠ b') → H' b = H b) → AOpl P G n ops os (putE e d c') H' nx' Q) :
    AOpl P G n ops (⟨d, .call ⟨.builtin .append, #[so, xo], #[t, t]⟩, ty, pos, af, g⟩ :: os) e H nx Q := by
  have key : ∃ c' d', appA P H nx t t c (.sl x 0 1 k) = some (c', d') ∧ OwnL cv k (d'.hp H nx) (d'.nx nx) c' (l ++ [u]) ∧ nx ≤ d'.nx nx ∧ ∀ b, b < nx → (∀ b', c = .sl b' 0 l.length k → b ≠ b') → (d'.hp H nx) b = H b := by
    rcases ho with ⟨rfl, rfl⟩ | ⟨b, rfl, hb, hlt⟩
    · refine ⟨_, _, app_row0 ht hi hk hz hk0 hxb (hcv u) (hone u) hby, .inr ⟨nx, rfl, ?_, ?_⟩, by simp [Dl.nx], fun b hb _ => ?_⟩
      · simp [Dl.hp, Ax.upd]
      · simp [Dl.nx]
      · simp only [Dl.hp]; exact upd_miss _ _ _ _ (by omega)
    · refine ⟨_, _, app_row ht hi hk hz hk0 hb (flatMap_len hcv l) hxb (hcv u) (hone u) (by omega) hby, .inr ⟨nx, by simp, ?_, ?_⟩, by simp [Dl.nx], fun b' hb' hne => ?_⟩
      · simp [Dl.hp, Ax.upd, List.flatMap_append]
      · simp [Dl.nx]
      · simp only [Dl.hp]
        rw [upd_miss _ _ _ _ (by omega), drp_miss _ _ _ (hne b rfl)]
  obtain ⟨c', d', h1, h2, h3, h4⟩ := key
  refine AOpl.stepG hd hg (c := c') (H' := d'.hp H nx) (nx' := d'.nx nx) ?_ (h c' _ _ h2 h3 h4)
  simp [stepS, qstep, bltA, astep, estep, hs, hx, h1]
end
end Ax
end Go.Proofs.YtdjllogimomgmaaGreatDoor
namespace Go.Proofs.YtdjllogimomgmaaGreatDoor
namespace Ax
/-- A value on a condition, where the condition holds. -/
def op1 : CV → CV
  | .opt true c => c
  | .opt false _ => .any
  | c => c
theorem RV.op1 {M : Mp} {c : CV} {v : Value} (h : RV M c v) : RV M (Ax.op1 c) v := by
  unfold Ax.op1
  split
  · cases h with
    | opt _ _ _ h1 _ => exact h1 rfl
  · exact .any v
  · exact h
theorem RV.undefAny {M : Mp} (c : CV) : RV M (.opt false c) Go.undef := .opt false c Go.undef (fun h => by cases h) (fun _ => rfl)
theorem RV.optT {M : Mp} {c : CV} {v : Value} (h : RV M c v) : RV M (.opt true c) v := .opt true c v (fun _ => h) (fun h => by cases h)
/-- Whether an operation is wanted, as a condition. -/
def gdB (ops : Array Oper) (e : Env) (o : Oper) : Option Bool := match o.guard with
  | none => none
  | some (j, want) => match ops[j]? with
    | some oj => match oj.dst with
      | some t => match e t with
        | .bool b => some (b == want)
        | .opt g (.bool b) => some (g && (b == want))
        | _ => none
      | none => none
    | none => none
section
variable {P : Program} {G : Nat → CV} {n : Nat} {e : Env} {H : Heap} {nx : Nat} {Q : AExit → Env → Heap → Nat → Prop} {ops : Array Oper} {os : List Oper} {i : Nat} {l : List Nat} {o : Oper}
theorem gdB_sound {M : Mp} {a : Act} {b : Bool} (h : gdB ops e o = some b) (v : EnvR M n e a) : Region.wanted o (yielded ops a.tmps) = b := by
  unfold gdB at h
  split at h
  · cases h
  · rename_i j want hg
    split at h
    case h_2 => cases h
    rename_i oj hoj
    split at h
    case h_2 => cases h
    rename_i t ht
    have hv := v.2.2 t
    have some_ : ∀ {b' : Bool}, RV M (.bool b') (a.tmps.getD t undef) → yielded ops a.tmps j = some b' := by
      intro b' this
      unfold yielded
      simp only [hoj, ht, Option.bind_some]
      generalize hx : a.tmps.getD t undef = x at this
      cases this
      rw [Array.getD_eq_getD_getElem?] at hx
      cases hz : a.tmps[t]? with
      | none => rw [hz] at hx; simp [undef] at hx
      | some z => rw [hz] at hx; simp at hx; subst hx; rfl
    have none_ : a.tmps.getD t undef = undef → yielded ops a.tmps j = none := by
      intro hx
      unfold yielded
      simp only [hoj, ht, Option.bind_some]
      rw [Array.getD_eq_getD_getElem?] at hx
      cases hz : a.tmps[t]? with
      | none => rfl
      | some z => rw [hz] at hx; simp at hx; subst hx; rfl
    unfold Region.wanted
    rw [hg]
    split at h
    · rename_i b' hb
      cases h
      rw [hb] at hv
      simp only [some_ hv]
      cases b' <;> cases want <;> rfl
    · rename_i g b' hb
      cases h
      rw [hb] at hv
      cases hv with
      | opt _ _ _ h1 h0 =>
        cases g with
        | true => simp only [some_ (h1 rfl)]; cases b' <;> cases want <;> rfl
        | false => simp only [none_ (h0 rfl)]; cases want <;> rfl
    · cases h
/-- An operation that looks, under a condition. -/
theorem AOps.lookC {b : Bool} {c : CV} (ho : ops[i]? = some o) (hd : ∀ j, o.dst = some j → j < n) (hg : gdB ops e o = some b) (hq : b = true → qstep P H (fun x => op1 (rd G e x)) o.op = some c) (h : AOps P G n ops l (putE e o.dst (.opt b c)) H nx Q) : AOps P G n ops (i :: l) e H nx Q := fun M a w g r v => by
  unfold wpOps
  simp only [ho, gdB_sound hg v]
  cases b with
  | false =>
    simp only [Bool.false_eq_true, if_false]
    exact h M _ w g r (v.put (RV.undefAny c) hd)
  | true =>
    simp only [if_true]
    obtain ⟨z, h1, h2⟩ := qstep_sound (hq rfl) r (fun x _ => (v.rd g x).op1)
    left
    unfold Oper.wp
    rw [h1]
    exact h M _ w g r (v.put h2.optT hd)
/-- A look that may read values on a condition. -/
theorem AOps.lookO {c : CV} (ho : ops[i]? = some o) (hd : ∀ j, o.dst = some j → j < n) (hg : gd ops e o = some true) (hq : qstep P H (fun x => op1 (rd G e x)) o.op = some c) (h : AOps P G n ops l (putE e o.dst c) H nx Q) : AOps P G n ops (i :: l) e H nx Q := fun M a w g r v => by
  unfold wpOps
  simp only [ho, gd_sound hg v, if_true]
  obtain ⟨z, h1, h2⟩ := qstep_sound hq r (fun x _ => (v.rd g x).op1)
  left
  unfold Oper.wp
  rw [h1]
  exact h M _ w g r (v.put h2 hd)
/-- A call under a condition that leaves the memory alone. -/
theorem AOps.callC {b : Bool} {f : FuncId} {args : List CV} {c : CV} (ho : ops[i]? = some o) (hd : ∀ j, o.dst = some j → j < n) (hg : gdB ops e o = some b) (hq : b = true → callA (fun x => op1 (rd G e x)) o.op = some (f, args)) (he : enters P f = true)
    (hf : b = true → FCall P G f args fun r => r = .ret c) (h : ∀ nx', nx ≤ nx' → AOps P G n ops l (putE e o.dst (.opt b c)) H nx' Q) : AOps P G n ops (i :: l) e H nx Q := fun M a w g r v => by
  unfold wpOps
  simp only [ho, gdB_sound hg v]
  cases b with
  | false =>
    simp only [Bool.false_eq_true, if_false]
    exact h nx (Nat.le_refl _) M _ w g r (v.put (RV.undefAny c) hd)
  | true =>
    simp only [if_true]
    obtain ⟨vs, h1, h2⟩ := callA_sound (w := w) (hq rfl) he (fun x _ => (v.rd g x).op1)
    left
    unfold Oper.wp
    rw [h1, Oper.upon_enter]
    refine (hf rfl H nx M w vs g r h2).mono ?_
    rintro en w' ⟨M', x, H', nx', a1, a2, a3, a4, rfl⟩
    subst a4
    cases en <;> simp only [EndR] at a1
    exact wpOps_mono (fun _ _ _ hp => hp.trans a3) l (h nx' a3.nxle _ _ w' (g.ext a3.ext) a2 ((v.ext a3.ext).put a1.optT hd))
theorem pick_q {ρ : Operand → CV} {c a b : Operand} {c0 x y : Bool} (hc : ρ c = .bool c0) (ha : c0 = true → ρ a = .bool x) (hb : c0 = false → ρ b = .bool y) : qstep P H ρ (.pick c a b) = some (.bool (c0 && x || !c0 && y)) := by
  cases c0
  · simp [qstep, hc, hb rfl]
  · simp [qstep, hc, ha rfl]
variable {d : Option Nat} {op : Op} {ty : TypeId} {pos : String} {af : Array Edge} {g : Option (Nat × Bool)}
theorem AOpl.lookC (hd : okD n d = true) {b : Bool} {c : CV} (hg : gdB ops e ⟨d, op, ty, pos, af, g⟩ = some b) (hq : b = true → qstep P H (fun x => op1 (rd G e x)) op = some c) (h : AOpl P G n ops os (putE e d (.opt b c)) H nx Q) : AOpl P G n ops (⟨d, op, ty, pos, af, g⟩ :: os) e H nx Q :=
  AOpl.lift (fun k ho h' => AOps.lookC (o := ⟨d, op, ty, pos, af, g⟩) ho (okD_spec hd) hg hq h') h
theorem AOpl.callC (hd : okD n d = true) {b : Bool} {f : FuncId} {args : List CV} {c : CV} (hg : gdB ops e ⟨d, op, ty, pos, af, g⟩ = some b) (hq : b = true → callA (fun x => op1 (rd G e x)) op = some (f, args)) (he : enters P f = true)
    (hf : b = true → FCall P G f args fun r => r = .ret c) (h : ∀ nx', nx ≤ nx' → AOpl P G n ops os (putE e d (.opt b c)) H nx' Q) : AOpl P G n ops (⟨d, op, ty, pos, af, g⟩ :: os) e H nx Q := by
  intro k hk
  have ho : ops[k]? = some ⟨d, op, ty, pos, af, g⟩ := by
    have := congrArg List.head? hk
    simpa [List.head?_drop] using this
  have hk' : ops.toList.drop (k + 1) = os := by
    have := congrArg List.tail hk
    simpa [List.tail_drop] using this
  simp only [List.length_cons, List.range'_succ]
  exact AOps.callC (o := ⟨d, op, ty, pos, af, g⟩) ho (okD_spec hd) hg hq he hf fun nx' hn => h nx' hn (k + 1) hk'
/-- The two arms of && and || come together. -/
theorem AOpl.pickU (hd : okD n d = true) {c a b : Operand} {c0 x y : Bool} (hc : op1 (rd G e c) = .bool c0) (ha : c0 = true → op1 (rd G e a) = .bool x) (hb : c0 = false → op1 (rd G e b) = .bool y) (h : AOpl P G n ops os (putE e d (.bool (c0 && x || !c0 && y))) H nx Q) :
    AOpl P G n ops (⟨d, .pick c a b, ty, pos, af, none⟩ :: os) e H nx Q :=
  AOpl.lift (fun k ho h' => AOps.lookO (o := ⟨d, .pick c a b, ty, pos, af, none⟩) ho (okD_spec hd) rfl (pick_q hc ha hb) h') h
theorem AOpl.pickC (hd : okD n d = true) {bg : Bool} {c a b : Operand} {c0 x y : Bool} (hg : gdB ops e ⟨d, .pick c a b, ty, pos, af, g⟩ = some bg) (hc : bg = true → op1 (rd G e c) = .bool c0) (ha : bg = true → c0 = true → op1 (rd G e a) = .bool x) (hb : bg = true → c0 = false → op1 (rd G e b) = .bool y) (h : AOpl P G n ops os (putE e d (.opt bg (.bool (c0 && x || !c0 && y)))) H nx Q) :
    AOpl P G n ops (⟨d, .pick c a b, ty, pos, af, g⟩ :: os) e H nx Q :=
  AOpl.lookC hd hg (fun h1 => pick_q (hc h1) (ha h1) (hb h1)) h
end
end Ax
end Go.Proofs.YtdjllogimomgmaaGreatDoor
namespace Go.Proofs.YtdjllogimomgmaaGreatDoor
namespace Ax
def isAl : Op → Bool
  | .alloc _ => true
  | .box _ _ => true
  | .buildSlice _ _ _ => true
  | .makeMap _ _ => true
  | .makeSlice _ _ _ => true
  | .range _ _ => true
  | _ => false
def isEf : Op → Bool
  | .store _ _ _ => true
  | .mapUpdate _ _ _ _ => true
  | .insert _ _ _ _ => true
  | .next _ _ => true
  | .call c => match c.callee with
    | .value _ => true
    | .builtin .append => true
    | .builtin .copy => true
    | _ => false
  | _ => false
/-- An operation that turns the memory, but for calls. -/
def isSt : Op → Bool
  | .store _ _ _ => true
  | .mapUpdate _ _ _ _ => true
  | .insert _ _ _ _ => true
  | .next _ _ => true
  | .call c => match c.callee with
    | .builtin .append => true
    | .builtin .copy => true
    | _ => false
  | _ => false
/-- Whether an operation looks at the memory or turns it. -/
def memO (op : Op) : Bool := isEf op || match op with
  | .load _ _ => true
  | .convert _ _ _ => true
  | .slice _ _ _ _ _ => true
  | .lookup _ _ _ _ => true
  | .call _ => true
  | _ => false
theorem qstep_mem {P : Program} {H H' : Heap} {ρ : Operand → CV} {op : Op} (h : memO op = false) : qstep P H ρ op = qstep P H' ρ op := by
  cases op <;> first | rfl | (simp [memO, isEf] at h)
theorem astep_isAl {P : Program} {ρ : Operand → CV} {b : Nat} {op : Op} {x : CV × CB} (h : astep P ρ b op = some x) : isAl op = true := by
  cases op <;> first | rfl | (simp [astep] at h)
theorem astep_congr {P : Program} {ρ ρ' : Operand → CV} {b : Nat} {op : Op} (h : ∀ x ∈ op.operands, ρ x = ρ' x) : astep P ρ b op = astep P ρ' b op := by
  cases op
  case box t x => simp only [astep, h x (by simp [Op.operands])]
  case buildSlice t len ps =>
    have h1 : (ps.toList.map fun p => (p.1, ρ p.2)) = ps.toList.map fun p => (p.1, ρ' p.2) := List.map_congr_left fun x hx => by
      rw [h x.2 (by simp [Op.operands]; exact ⟨x.1, by simpa using hx⟩)]
    simp only [astep, h1]
  case makeMap t r =>
    cases r with
    | none => rfl
    | some x => simp only [astep, h x (by simp [Op.operands])]
  case makeSlice t x y => simp only [astep, h x (by simp [Op.operands]), h y (by simp [Op.operands])]
  case range t x => simp only [astep, h x (by simp [Op.operands])]
  all_goals rfl
theorem EffOk.congr {P : Program} {G : Nat → CV} {o : Oper} {ρ ρ' : Operand → CV} {H H' : Heap} {nx nx' : Nat} {c : CV} (h : ∀ x ∈ o.op.operands, ρ x = ρ' x) (hE : EffOk P G o ρ' H nx c H' nx') : EffOk P G o ρ H nx c H' nx' :=
  fun M a w next Q g r hx k => hE M a w next Q g r (fun x hm => by rw [← h x hm]; exact hx x hm) k
def atO (ops : Array Oper) (p : Op → Bool) (i : Nat) : Bool := match ops[i]? with
  | some o => p o.op
  | none => false
/-- Blocks that the region leaves alone, looks at these alone, what lies there. -/
structure Qc where
  B : Nat → Prop
  R : List Nat
  H0 : Heap
def Qc.no : Qc := ⟨fun _ => False, [], Heap.no⟩
/-- An effect, or a look whose result may hang on the effects. -/
def memR (ops : Array Oper) (R : List Nat) (i : Nat) : Bool := atO ops isEf i || (atO ops memO i && !R.contains i)
/-- What conflicts stands in one order. Calls leave the memory alone: looks need no order against them, if no new block stands between. -/
def statP (R : List Nat) (ops : Array Oper) : Bool := (List.range ops.size).all fun i => (List.range i).all fun j =>
  anc (ancs ops) i j || (!((atO ops isAl j && memR ops R i) || (atO ops isSt i && memR ops R j) || (atO ops isSt j && memR ops R i) || (atO ops isEf i && atO ops isEf j)) &&
    (!(memR ops R j && atO ops isEf i) || (List.range i).all fun k => !(Nat.blt j k && atO ops isAl k)))
def statR (n : Nat) (R : List Nat) (ops : Array Oper) : Bool := statL n ops 0 ops.toList && statP R ops
def statS (n : Nat) (ops : Array Oper) : Bool := statR n [] ops
theorem statP_spec {R : List Nat} {ops : Array Oper} (h : statP R ops = true) {i j : Nat} (hi : i < ops.size) (hl : j < i)
    (hc : (atO ops isAl j = true ∧ memR ops R i = true) ∨ (atO ops isSt i = true ∧ memR ops R j = true) ∨ (atO ops isSt j = true ∧ memR ops R i = true) ∨ (atO ops isEf i = true ∧ atO ops isEf j = true)) : anc (ancs ops) i j = true := by
  have h1 := List.all_eq_true.mp h i (List.mem_range.mpr hi)
  have h2 := List.all_eq_true.mp h1 j (List.mem_range.mpr hl)
  rcases hc with ⟨a, b⟩ | ⟨a, b⟩ | ⟨a, b⟩ | ⟨a, b⟩ <;> simpa [a, b] using h2
theorem statP_gap {R : List Nat} {ops : Array Oper} (h : statP R ops = true) {i j k : Nat} (hi : i < ops.size) (hj : j < k) (hk : k < i) (h1 : memR ops R j = true) (h2 : atO ops isEf i = true) (hn : anc (ancs ops) i j = false) : atO ops isAl k = false := by
  have h3 := List.all_eq_true.mp h i (List.mem_range.mpr hi)
  have h4 := List.all_eq_true.mp h3 j (List.mem_range.mpr (by omega))
  simp only [hn, h1, h2, Bool.false_or, Bool.and_self, Bool.not_true, Bool.and_eq_true, Bool.false_or] at h4
  have h5 := List.all_eq_true.mp h4.2 k (List.mem_range.mpr hk)
  simpa [lt_blt hj] using h5
theorem memO_ef {op : Op} (h : isEf op = true) : memO op = true := by unfold memO; rw [h]; rfl
theorem atO_ef {ops : Array Oper} {i : Nat} (h : atO ops isEf i = true) : atO ops memO i = true := by
  unfold atO at *
  split at h
  · rename_i o ho; exact memO_ef h
  · cases h
theorem memR_ef {R : List Nat} {ops : Array Oper} {i : Nat} (h : atO ops isEf i = true) : memR ops R i = true := by unfold memR; rw [h]; rfl
theorem memR_mem {R : List Nat} {ops : Array Oper} {i : Nat} (h : memR ops R i = true) : atO ops memO i = true := by
  unfold memR at h
  rw [Bool.or_eq_true] at h
  rcases h with h | h
  · exact atO_ef h
  · rw [Bool.and_eq_true] at h; exact h.1
/-- One operation after the other: where it stands, how many effects, the state; what was done, the heaps behind the effects. -/
inductive SRun (P : Program) (G : Nat → CV) (κ : Qc) (ops : Array Oper) (nx0 : Nat) : Nat → Nat → List Oper → Env → Heap → Nat → List Act1 → List (Heap × Nat) → Env → Heap → Nat → Prop
  | nil (k j : Nat) (e : Env) (H : Heap) (ne : Nat) : SRun P G κ ops nx0 k j [] e H ne [] [] e H ne
  | look {k j ne ne' : Nat} {o : Oper} {os : List Oper} {e e' : Env} {H H' : Heap} {l : List Act1} {E : List (Heap × Nat)} (c : CV) (hg : gd ops e o = some true) (hq : qstep P H (rd G e) o.op = some c) (hR : κ.R.contains k = true → ∀ H', (∀ b, κ.B b → H' b = κ.H0 b) → qstep P H' (rd G e) o.op = some c) (h : SRun P G κ ops nx0 (k + 1) j os (putE e o.dst c) H ne l E e' H' ne') : SRun P G κ ops nx0 k j (o :: os) e H ne (.quiet c :: l) E e' H' ne'
  | skip {k j ne ne' : Nat} {o : Oper} {os : List Oper} {e e' : Env} {H H' : Heap} {l : List Act1} {E : List (Heap × Nat)} (hg : gd ops e o = some false) (h : SRun P G κ ops nx0 (k + 1) j os (putE e o.dst (.tup [])) H ne l E e' H' ne') : SRun P G κ ops nx0 k j (o :: os) e H ne (.skip :: l) E e' H' ne'
  | alloc {k j ne ne' : Nat} {o : Oper} {os : List Oper} {e e' : Env} {H H' : Heap} {l : List Act1} {E : List (Heap × Nat)} (c : CV) (kk : CB) (hg : gd ops e o = some true) (hq : astep P (rd G e) (nx0 + k) o.op = some (c, kk)) (h : SRun P G κ ops nx0 (k + 1) j os (putE e o.dst c) (upd H (nx0 + k) kk) ne l E e' H' ne') : SRun P G κ ops nx0 k j (o :: os) e H ne (.alloc c kk :: l) E e' H' ne'
  | eff {k j ne n1 ne' : Nat} {o : Oper} {os : List Oper} {e e' : Env} {H H1 H' : Heap} {l : List Act1} {E : List (Heap × Nat)} (c : CV) (hg : gd ops e o = some true) (hi : isEf o.op = true) (hn : ne ≤ n1) (hfr : ∀ b, nx0 ≤ b → b < nx0 + ops.size → H b = none → H1 b = none) (hcl : isSt o.op = false → H1 = H) (hBk : ∀ b, κ.B b → H1 b = H b)
      (hE : EffOk P G o (rd G e) H ne c H1 n1) (h : SRun P G κ ops nx0 (k + 1) (j + 1) os (putE e o.dst c) H1 n1 l E e' H' ne') : SRun P G κ ops nx0 k j (o :: os) e H ne (.eff j c :: l) ((H1, n1) :: E) e' H' ne'
section
variable {P : Program} {G : Nat → CV} {κ : Qc} {n : Nat} {ops : Array Oper} {nx0 : Nat} {Q : AExit → Env → Heap → Nat → Prop}
theorem SRun.len {k j ne ne' : Nat} {os : List Oper} {e e' : Env} {H H' : Heap} {l : List Act1} {E : List (Heap × Nat)} (h : SRun P G κ ops nx0 k j os e H ne l E e' H' ne') : l.length = os.length := by
  induction h with
  | nil => rfl
  | look _ _ _ _ _ ih => simp [ih]
  | skip _ _ ih => simp [ih]
  | alloc _ _ _ _ _ ih => simp [ih]
  | eff _ _ _ _ _ _ _ _ _ ih => simp [ih]
/-- The block that operation a of the list makes. -/
def alAt (l : List Act1) (a : Nat) : Option CB := match l[a]? with
  | some (.alloc _ kk) => some kk
  | _ => none
/-- The effects behind: heap and number behind J of them. -/
def hsAt (H : Heap) (E : List (Heap × Nat)) : Nat → Heap
  | 0 => H
  | J + 1 => match E[J]? with
    | some x => x.1
    | none => Heap.no
def nsAt (ne : Nat) (E : List (Heap × Nat)) : Nat → Nat
  | 0 => ne
  | J + 1 => match E[J]? with
    | some x => x.2
    | none => 0
/-- How many effects stand among the first k. -/
def cnt (l : List Act1) : Nat → Nat
  | 0 => 0
  | k + 1 => cnt l k + match l[k]? with
    | some (.eff _ _) => 1
    | _ => 0
/-- Where the effects behind which position k stands end. -/
def lastE (l : List Act1) : Nat → Nat
  | 0 => 0
  | k + 1 => match l[k]? with
    | some (.eff _ _) => k + 1
    | _ => lastE l k
theorem cnt_s (l : List Act1) (k : Nat) : cnt l (k + 1) = cnt l k + match l[k]? with
    | some (.eff _ _) => 1
    | _ => 0 := rfl
theorem lastE_s (l : List Act1) (k : Nat) : lastE l (k + 1) = match l[k]? with
    | some (.eff _ _) => k + 1
    | _ => lastE l k := rfl
theorem lastE_le (l : List Act1) : ∀ k, lastE l k ≤ k
  | 0 => Nat.le_refl _
  | k + 1 => by
    rw [lastE_s]
    split
    · exact Nat.le_refl _
    · have := lastE_le l k; omega
/-- The heap at position k. -/
def heapAt (nx0 : Nat) (H : Heap) (l : List Act1) (E : List (Heap × Nat)) (k : Nat) : Heap := fun b =>
  match (if nx0 ≤ b ∧ lastE l k ≤ b - nx0 ∧ b - nx0 < k then alAt l (b - nx0) else none) with
  | some kk => some kk
  | none => hsAt H E (cnt l k) b
theorem heapAt_zero {H : Heap} {l : List Act1} {E : List (Heap × Nat)} : heapAt nx0 H l E 0 = H := by
  funext b; simp [heapAt, cnt, hsAt]
theorem heapAt_same {H : Heap} {l : List Act1} {E : List (Heap × Nat)} {k : Nat} (h : l[k]? ≠ none) (h1 : ∀ j c, l[k]? ≠ some (.eff j c)) (h2 : ∀ c kk, l[k]? ≠ some (.alloc c kk)) : heapAt nx0 H l E (k + 1) = heapAt nx0 H l E k := by
  have e1 : cnt l (k + 1) = cnt l k := by
    rw [cnt_s]
    split
    · rename_i j c hl; exact absurd hl (h1 j c)
    · rfl
  have e2 : lastE l (k + 1) = lastE l k := by
    rw [lastE_s]
    split
    · rename_i j c hl; exact absurd hl (h1 j c)
    · rfl
  have e3 : alAt l k = none := by
    unfold alAt
    split
    · rename_i c kk hl; exact absurd hl (h2 c kk)
    · rfl
  funext b
  unfold heapAt
  rw [e1, e2]
  by_cases hb : b - nx0 = k
  · rw [hb, e3]; simp
  · have : (nx0 ≤ b ∧ lastE l k ≤ b - nx0 ∧ b - nx0 < k + 1) ↔ (nx0 ≤ b ∧ lastE l k ≤ b - nx0 ∧ b - nx0 < k) := by omega
    simp only [this]
theorem heapAt_alloc {H : Heap} {l : List Act1} {E : List (Heap × Nat)} {k : Nat} {c : CV} {kk : CB} (h : l[k]? = some (.alloc c kk)) : heapAt nx0 H l E (k + 1) = upd (heapAt nx0 H l E k) (nx0 + k) kk := by
  have e1 : cnt l (k + 1) = cnt l k := by simp [cnt_s, h]
  have e2 : lastE l (k + 1) = lastE l k := by simp [lastE_s, h]
  have e3 : alAt l k = some kk := by unfold alAt; rw [h]
  funext b
  by_cases hb : b = nx0 + k
  · subst hb
    rw [upd_hit]
    unfold heapAt
    rw [e2, Nat.add_sub_cancel_left, e3, if_pos ⟨by omega, lastE_le l k, by omega⟩]
  · rw [upd_miss _ _ _ _ hb]
    unfold heapAt
    rw [e1, e2]
    have : (nx0 ≤ b ∧ lastE l k ≤ b - nx0 ∧ b - nx0 < k + 1) ↔ (nx0 ≤ b ∧ lastE l k ≤ b - nx0 ∧ b - nx0 < k) := by omega
    simp only [this]
theorem heapAt_eff {H : Heap} {l : List Act1} {E : List (Heap × Nat)} {k j : Nat} {c : CV} {x : Heap × Nat} (h : l[k]? = some (.eff j c)) (hx : E[cnt l k]? = some x) : heapAt nx0 H l E (k + 1) = x.1 := by
  have e1 : cnt l (k + 1) = cnt l k + 1 := by simp [cnt_s, h]
  have e2 : lastE l (k + 1) = k + 1 := by simp [lastE_s, h]
  funext b
  unfold heapAt
  rw [e1, e2, if_neg (by omega)]
  simp only [hsAt, hx]
theorem cnt_congr {l l' : List Act1} : ∀ {k : Nat}, (∀ i, i < k → l[i]? = l'[i]?) → cnt l k = cnt l' k
  | 0, _ => rfl
  | k + 1, h => by
    have ih := cnt_congr (k := k) fun i hi => h i (by omega)
    rw [cnt_s, cnt_s, ih, h k (by omega)]
theorem lastE_congr {l l' : List Act1} : ∀ {k : Nat}, (∀ i, i < k → l[i]? = l'[i]?) → lastE l k = lastE l' k
  | 0, _ => rfl
  | k + 1, h => by
    have ih := lastE_congr (k := k) fun i hi => h i (by omega)
    rw [lastE_s, lastE_s, ih, h k (by omega)]
theorem hsAt_congr {H : Heap} {E E' : List (Heap × Nat)} : ∀ {J : Nat}, (∀ i, i < J → E[i]? = E'[i]?) → hsAt H E J = hsAt H E' J
  | 0, _ => rfl
  | J + 1, h => by simp only [hsAt]; rw [h J (by omega)]
theorem nsAt_congr {ne : Nat} {E E' : List (Heap × Nat)} : ∀ {J : Nat}, (∀ i, i < J → E[i]? = E'[i]?) → nsAt ne E J = nsAt ne E' J
  | 0, _ => rfl
  | J + 1, h => by simp only [nsAt]; rw [h J (by omega)]
theorem heapAt_congr {H : Heap} {l l' : List Act1} {E E' : List (Heap × Nat)} {k : Nat} (h : ∀ i, i < k → l[i]? = l'[i]?) (hE : ∀ i, i < cnt l k → E[i]? = E'[i]?) : heapAt nx0 H l E k = heapAt nx0 H l' E' k := by
  funext b
  unfold heapAt
  rw [lastE_congr h, ← cnt_congr h, hsAt_congr hE]
  by_cases hb : nx0 ≤ b ∧ lastE l' k ≤ b - nx0 ∧ b - nx0 < k
  · rw [if_pos hb, if_pos hb]
    have : alAt l (b - nx0) = alAt l' (b - nx0) := by unfold alAt; rw [h _ hb.2.2]
    rw [this]
  · rw [if_neg hb, if_neg hb]
theorem pre_get {α : Type} {pre : List α} {i : Nat} (h : i < pre.length) (x : List α) : (pre ++ x)[i]? = pre[i]? := List.getElem?_append_left h
theorem pre_at {α : Type} {pre : List α} {a : α} {x : List α} {k : Nat} (h : pre.length = k) : (pre ++ a :: x)[k]? = some a := by
  rw [List.getElem?_append_right (by omega), h, Nat.sub_self]; rfl
/-- What stands at place i of a run. -/
def PlaceOk (P : Program) (G : Nat → CV) (κ : Qc) (ops : Array Oper) (nx0 nn : Nat) (He : Heap) (e0 : Env) (l : List Act1) (E : List (Heap × Nat)) (i : Nat) (o : Oper) : Prop :=
  ∃ ei : Env, (∀ t, ei t = match wr ops t with
      | some j => if j < i then ((l[j]?).getD .skip).val else e0 t
      | none => e0 t) ∧ ((∃ c, l[i]? = some (.quiet c) ∧ gd ops ei o = some true ∧ qstep P (heapAt nx0 He l E i) (rd G ei) o.op = some c ∧ (κ.R.contains i = true → ∀ H', (∀ b, κ.B b → H' b = κ.H0 b) → qstep P H' (rd G ei) o.op = some c)) ∨ (l[i]? = some .skip ∧ gd ops ei o = some false) ∨
        (∃ c kk, l[i]? = some (.alloc c kk) ∧ gd ops ei o = some true ∧ astep P (rd G ei) (nx0 + i) o.op = some (c, kk)) ∨
        ∃ c x, l[i]? = some (.eff (cnt l i) c) ∧ gd ops ei o = some true ∧ isEf o.op = true ∧ E[cnt l i]? = some x ∧ nsAt nn E (cnt l i) ≤ x.2 ∧
          (∀ b, nx0 ≤ b → b < nx0 + ops.size → heapAt nx0 He l E i b = none → x.1 b = none) ∧ (isSt o.op = false → x.1 = heapAt nx0 He l E i) ∧ (∀ b, κ.B b → x.1 b = heapAt nx0 He l E i b) ∧ EffOk P G o (rd G ei) (heapAt nx0 He l E i) (nsAt nn E (cnt l i)) c x.1 x.2)
theorem ops_cons {ops : Array Oper} {k : Nat} {o : Oper} {os : List Oper} (hk : ops.toList.drop k = o :: os) : ops[k]? = some o ∧ ops.toList.drop (k + 1) = os ∧ k + 1 ≤ ops.size := by
  refine ⟨?_, ?_, ?_⟩
  · have := congrArg List.head? hk
    simpa [List.head?_drop] using this
  · have := congrArg List.tail hk
    simpa [List.tail_drop] using this
  · have := congrArg List.length hk
    simp at this; omega
theorem env_step {n : Nat} {k : Nat} {o : Oper} {e e0 : Env} {pre : List Act1} {a : Act1} {c : CV} (ho : ops[k]? = some o) (hpre : pre.length = k) (hst : statL n ops 0 ops.toList = true) (hav : a.val = c)
    (he : ∀ t, e t = match wr ops t with
      | some j => if j < k then ((pre[j]?).getD .skip).val else e0 t
      | none => e0 t) : ∀ t, putE e o.dst c t = match wr ops t with
        | some j => if j < k + 1 then (((pre ++ [a])[j]?).getD .skip).val else e0 t
        | none => e0 t := by
  intro t
  have hso := statL_spec (k := 0) hst k o (by simpa using ho)
  rw [Nat.zero_add] at hso
  have hput : (o.dst = some t ∧ putE e o.dst c t = c) ∨ (o.dst ≠ some t ∧ putE e o.dst c t = e t) := by
    cases hd : o.dst with
    | none => right; exact ⟨by simp, rfl⟩
    | some d =>
      by_cases hdt : t = d
      · left; subst hdt; exact ⟨rfl, by simp [putE]⟩
      · right; exact ⟨fun h => hdt (by cases h; rfl), by simp [putE, hdt]⟩
  rcases hput with ⟨h1, h2⟩ | ⟨h1, h2⟩
  · rw [h2, (statO_dst hso t h1).2]
    simp only [Nat.lt_succ_self, if_true]
    rw [List.getElem?_append_right (by omega), hpre, Nat.sub_self]
    simp [hav]
  · rw [h2, he t]
    cases hw : wr ops t with
    | none => rfl
    | some j =>
      simp only
      obtain ⟨oj, hoj, hdj⟩ := wr_some hw
      have hjk : j ≠ k := fun e => by subst e; rw [ho] at hoj; cases hoj; exact h1 hdj
      by_cases hlt : j < k
      · rw [if_pos hlt, if_pos (by omega), List.getElem?_append_left (by omega)]
      · rw [if_neg hlt, if_neg (by omega)]
theorem env_here {k : Nat} {e e0 : Env} {pre x : List Act1} (hpre : pre.length = k) (he : ∀ t, e t = match wr ops t with
      | some j => if j < k then ((pre[j]?).getD .skip).val else e0 t
      | none => e0 t) : ∀ t, e t = match wr ops t with
        | some j => if j < k then (((pre ++ x)[j]?).getD .skip).val else e0 t
        | none => e0 t := by
  intro t
  rw [he t]
  cases hw : wr ops t with
  | none => rfl
  | some j =>
    simp only
    by_cases hlt : j < k
    · rw [if_pos hlt, if_pos hlt, List.getElem?_append_left (by omega)]
    · rw [if_neg hlt, if_neg hlt]
/-- What a run says of each place. -/
theorem SRun.facts {n k0 j0 ne ne' : Nat} {os : List Oper} {e e' : Env} {H H' : Heap} {l : List Act1} {E : List (Heap × Nat)} (h : SRun P G κ ops nx0 k0 j0 os e H ne l E e' H' ne') :
    ∀ (He : Heap) (nn : Nat) (e0 : Env) (pre : List Act1) (Epre : List (Heap × Nat)), ops.toList.drop k0 = os → k0 ≤ ops.size → pre.length = k0 → Epre.length = j0 → statL n ops 0 ops.toList = true → cnt pre k0 = j0 →
      (∀ t, e t = match wr ops t with
        | some j => if j < k0 then ((pre[j]?).getD .skip).val else e0 t
        | none => e0 t) → H = heapAt nx0 He pre Epre k0 → ne = nsAt nn Epre j0 →
    (∀ t, e' t = match wr ops t with
      | some j => if j < ops.size then (((pre ++ l)[j]?).getD .skip).val else e0 t
      | none => e0 t) ∧ H' = heapAt nx0 He (pre ++ l) (Epre ++ E) ops.size ∧ ne' = nsAt nn (Epre ++ E) (cnt (pre ++ l) ops.size) ∧ cnt (pre ++ l) ops.size = (Epre ++ E).length ∧
    ∀ i o, k0 ≤ i → ops[i]? = some o → PlaceOk P G κ ops nx0 nn He e0 (pre ++ l) (Epre ++ E) i o := by
  have hcong : ∀ {pre x : List Act1} {Epre Ex : List (Heap × Nat)} {k j : Nat} {He : Heap}, pre.length = k → Epre.length = j → cnt pre k = j → cnt (pre ++ x) k = j ∧ heapAt nx0 He (pre ++ x) (Epre ++ Ex) k = heapAt nx0 He pre Epre k ∧ ∀ nn, nsAt nn (Epre ++ Ex) j = nsAt nn Epre j := by
    intro pre x Epre Ex k j He h1 h2 h3
    have c1 : ∀ i, i < k → (pre ++ x)[i]? = pre[i]? := fun i hi => pre_get (by omega) x
    have c2 : cnt (pre ++ x) k = j := by rw [cnt_congr c1, h3]
    exact ⟨c2, heapAt_congr c1 (fun i hi => pre_get (by omega) Ex), fun nn => nsAt_congr fun i hi => pre_get (by omega) Ex⟩
  induction h with
  | nil k j e H ne =>
    intro He nn e0 pre Epre hk hks hpre hEp hst hc he hH hne
    have hsz : k = ops.size := by
      have := congrArg List.length hk
      simp at this; omega
    subst hsz
    simp only [List.append_nil]
    exact ⟨he, hH, by rw [hc]; exact hne, by rw [hc, hEp], fun i o hi ho => by have := (Array.getElem?_eq_some_iff.mp ho).1; omega⟩
  | @look k j ne ne' o os e e' H H' l E c hg hq hR _ ih =>
    intro He nn e0 pre Epre hk hks hpre hEp hst hc he hH hne
    obtain ⟨ho, hk', hks'⟩ := ops_cons hk
    have hat : (pre ++ [Act1.quiet c])[k]? = some (.quiet c) := pre_at hpre
    have g := hcong (x := [Act1.quiet c]) (Epre := Epre) (Ex := []) (He := He) hpre hEp hc
    simp only [List.append_nil] at g
    obtain ⟨i1, i2, i3, i4, i5⟩ := ih He nn e0 (pre ++ [.quiet c]) Epre hk' hks' (by simp [hpre]) hEp hst (by simp [cnt_s, hat, g.1]) (env_step (n := n) (a := .quiet c) (c := c) ho hpre hst rfl he)
      (by rw [heapAt_same (by rw [hat]; simp) (by rw [hat]; simp) (by rw [hat]; simp), g.2.1]; exact hH) hne
    simp only [List.append_assoc, List.cons_append, List.nil_append] at i1 i2 i3 i4 i5
    refine ⟨i1, i2, i3, i4, fun i oi hi hoi => ?_⟩
    rcases Nat.lt_or_eq_of_le hi with h1 | h1
    · exact i5 i oi h1 hoi
    · subst h1
      rw [ho] at hoi; cases hoi
      have g' := hcong (x := Act1.quiet c :: l) (Epre := Epre) (Ex := E) (He := He) hpre hEp hc
      exact ⟨e, env_here hpre he, .inl ⟨c, pre_at hpre, hg, by rw [g'.2.1, ← hH]; exact hq, hR⟩⟩
  | @skip k j ne ne' o os e e' H H' l E hg _ ih =>
    intro He nn e0 pre Epre hk hks hpre hEp hst hc he hH hne
    obtain ⟨ho, hk', hks'⟩ := ops_cons hk
    have hat : (pre ++ [Act1.skip])[k]? = some .skip := pre_at hpre
    have g := hcong (x := [Act1.skip]) (Epre := Epre) (Ex := []) (He := He) hpre hEp hc
    simp only [List.append_nil] at g
    obtain ⟨i1, i2, i3, i4, i5⟩ := ih He nn e0 (pre ++ [.skip]) Epre hk' hks' (by simp [hpre]) hEp hst (by simp [cnt_s, hat, g.1]) (env_step (n := n) (a := .skip) (c := .tup []) ho hpre hst rfl he)
      (by rw [heapAt_same (by rw [hat]; simp) (by rw [hat]; simp) (by rw [hat]; simp), g.2.1]; exact hH) hne
    simp only [List.append_assoc, List.cons_append, List.nil_append] at i1 i2 i3 i4 i5
    refine ⟨i1, i2, i3, i4, fun i oi hi hoi => ?_⟩
    rcases Nat.lt_or_eq_of_le hi with h1 | h1
    · exact i5 i oi h1 hoi
    · subst h1
      rw [ho] at hoi; cases hoi
      exact ⟨e, env_here hpre he, .inr (.inl ⟨pre_at hpre, hg⟩)⟩
  | @alloc k j ne ne' o os e e' H H' l E c kk hg hq _ ih =>
    intro He nn e0 pre Epre hk hks hpre hEp hst hc he hH hne
    obtain ⟨ho, hk', hks'⟩ := ops_cons hk
    have hat : (pre ++ [Act1.alloc c kk])[k]? = some (.alloc c kk) := pre_at hpre
    have g := hcong (x := [Act1.alloc c kk]) (Epre := Epre) (Ex := []) (He := He) hpre hEp hc
    simp only [List.append_nil] at g
    obtain ⟨i1, i2, i3, i4, i5⟩ := ih He nn e0 (pre ++ [.alloc c kk]) Epre hk' hks' (by simp [hpre]) hEp hst (by simp [cnt_s, hat, g.1]) (env_step (n := n) (a := .alloc c kk) (c := c) ho hpre hst rfl he)
      (by rw [heapAt_alloc hat, g.2.1, ← hH]) hne
    simp only [List.append_assoc, List.cons_append, List.nil_append] at i1 i2 i3 i4 i5
    refine ⟨i1, i2, i3, i4, fun i oi hi hoi => ?_⟩
    rcases Nat.lt_or_eq_of_le hi with h1 | h1
    · exact i5 i oi h1 hoi
    · subst h1
      rw [ho] at hoi; cases hoi
      exact ⟨e, env_here hpre he, .inr (.inr (.inl ⟨c, kk, pre_at hpre, hg, hq⟩))⟩
  | @eff k j ne n1 ne' o os e e' H H1 H' l E c hg hi' hn hfr hcl hBk hE _ ih =>
    intro He nn e0 pre Epre hk hks hpre hEp hst hc he hH hne
    obtain ⟨ho, hk', hks'⟩ := ops_cons hk
    have hat : (pre ++ [Act1.eff j c])[k]? = some (.eff j c) := pre_at hpre
    have g := hcong (x := [Act1.eff j c]) (Epre := Epre) (Ex := [(H1, n1)]) (He := He) hpre hEp hc
    have hEat : (Epre ++ [(H1, n1)])[j]? = some (H1, n1) := pre_at hEp
    obtain ⟨i1, i2, i3, i4, i5⟩ := ih He nn e0 (pre ++ [.eff j c]) (Epre ++ [(H1, n1)]) hk' hks' (by simp [hpre]) (by simp [hEp]) hst (by simp [cnt_s, hat, g.1]) (env_step (n := n) (a := .eff j c) (c := c) ho hpre hst rfl he)
      (by rw [heapAt_eff hat (x := (H1, n1)) (by rw [g.1]; exact hEat)]) (by simp only [nsAt, hEat])
    simp only [List.append_assoc, List.cons_append, List.nil_append] at i1 i2 i3 i4 i5
    refine ⟨i1, i2, i3, i4, fun i oi hi hoi => ?_⟩
    rcases Nat.lt_or_eq_of_le hi with h1 | h1
    · exact i5 i oi h1 hoi
    · subst h1
      rw [ho] at hoi; cases hoi
      have g' := hcong (x := Act1.eff j c :: l) (Epre := Epre) (Ex := (H1, n1) :: E) (He := He) hpre hEp hc
      refine ⟨e, env_here hpre he, .inr (.inr (.inr ⟨c, (H1, n1), by rw [g'.1]; exact pre_at hpre, hg, hi', by rw [g'.1]; exact pre_at hEp, ?_, ?_, ?_, ?_, ?_⟩))⟩
      · rw [g'.1, g'.2.2, ← hne]; exact hn
      · intro b hb1 hb2 hb3
        rw [g'.2.1, ← hH] at hb3
        exact hfr b hb1 hb2 hb3
      · intro hs; rw [g'.2.1, ← hH]; exact hcl hs
      · intro b hb; rw [g'.2.1, ← hH]; exact hBk b hb
      · rw [g'.1, g'.2.2, g'.2.1, ← hH, ← hne]; exact hE
/-! numbers of the effects -/
def isE (a : Option Act1) : Bool := match a with
  | some (.eff _ _) => true
  | _ => false
theorem cnt_succ (l : List Act1) (k : Nat) : cnt l (k + 1) = cnt l k + if isE l[k]? = true then 1 else 0 := by
  rw [cnt_s]
  unfold isE
  split <;> simp_all
theorem cnt_mono {l : List Act1} {i k : Nat} (h : i ≤ k) : cnt l i ≤ cnt l k := by
  induction k with
  | zero => have : i = 0 := by omega
            subst this; exact Nat.le_refl _
  | succ k ih =>
    rcases Nat.lt_or_eq_of_le h with h1 | h1
    · have := ih (by omega); rw [cnt_succ]; omega
    · subst h1; exact Nat.le_refl _
theorem cnt_lt {l : List Act1} {i k : Nat} (h : i < k) (he : isE l[i]? = true) : cnt l i < cnt l k := by
  have h1 := cnt_mono (l := l) (show i + 1 ≤ k from h)
  rw [cnt_succ, if_pos he] at h1; omega
theorem cnt_ex {l : List Act1} : ∀ {k J : Nat}, J < cnt l k → ∃ i, i < k ∧ isE l[i]? = true ∧ cnt l i = J
  | 0, J, h => by simp [cnt] at h
  | k + 1, J, h => by
    rw [cnt_succ] at h
    by_cases hJ : J < cnt l k
    · obtain ⟨i, h1, h2, h3⟩ := cnt_ex hJ; exact ⟨i, by omega, h2, h3⟩
    · by_cases he : isE l[k]? = true
      · rw [if_pos he] at h; exact ⟨k, by omega, he, by omega⟩
      · rw [if_neg he] at h; omega
theorem lastE_succ (l : List Act1) (k : Nat) : lastE l (k + 1) = if isE l[k]? = true then k + 1 else lastE l k := by
  rw [lastE_s]
  unfold isE
  split <;> simp_all
theorem lastE_gt {l : List Act1} {p : Nat} : ∀ {i : Nat}, p < i → isE l[p]? = true → p < lastE l i
  | 0, h, _ => by omega
  | i + 1, h, he => by
    rw [lastE_succ]
    by_cases hi : isE l[i]? = true
    · rw [if_pos hi]; omega
    · rw [if_neg hi]
      have : p ≠ i := fun e => hi (e ▸ he)
      exact lastE_gt (by omega) he
theorem lastE_cases {l : List Act1} : ∀ (i : Nat), lastE l i = 0 ∨ ∃ p, p < i ∧ isE l[p]? = true ∧ lastE l i = p + 1
  | 0 => .inl rfl
  | i + 1 => by
    rw [lastE_succ]
    by_cases hi : isE l[i]? = true
    · rw [if_pos hi]; exact .inr ⟨i, by omega, hi, rfl⟩
    · rw [if_neg hi]
      rcases lastE_cases (l := l) i with h | ⟨p, h1, h2, h3⟩
      · exact .inl h
      · exact .inr ⟨p, by omega, h2, h3⟩
end
end Ax
end Go.Proofs.YtdjllogimomgmaaGreatDoor
namespace Go.Proofs.YtdjllogimomgmaaGreatDoor
namespace Ax
/-- Where effect j stands. -/
def effPos (l : List Act1) (N j : Nat) : Nat := ((List.range N).find? fun (k : Nat) => isE l[k]? && Nat.beq (cnt l k) j).getD N
theorem effPos_at {l : List Act1} {N i : Nat} (h : isE l[i]? = true) (hi : i < N) : effPos l N (cnt l i) = i := by
  unfold effPos
  cases hf : (List.range N).find? fun (k : Nat) => isE l[k]? && Nat.beq (cnt l k) (cnt l i) with
  | none =>
    have := List.find?_eq_none.mp hf i (List.mem_range.mpr hi)
    simp [h] at this
  | some k =>
    have hk := List.find?_some (p := fun (k : Nat) => isE l[k]? && Nat.beq (cnt l k) (cnt l i)) hf
    simp only [Bool.and_eq_true] at hk
    have h2 := beq_eq hk.2
    simp only [Option.getD_some]
    rcases Nat.lt_trichotomy k i with hlt | heq | hlt
    · have := cnt_lt hlt hk.1; omega
    · exact heq
    · have := cnt_lt hlt h; omega
theorem effPos_end {l : List Act1} {N : Nat} : effPos l N (cnt l N) = N := by
  unfold effPos
  cases hf : (List.range N).find? fun (k : Nat) => isE l[k]? && Nat.beq (cnt l k) (cnt l N) with
  | none => rfl
  | some k =>
    have hk := List.find?_some (p := fun (k : Nat) => isE l[k]? && Nat.beq (cnt l k) (cnt l N)) hf
    simp only [Bool.and_eq_true] at hk
    have h2 := beq_eq hk.2
    have h3 := List.mem_range.mp (List.mem_of_find?_eq_some hf)
    have := cnt_lt h3 hk.1
    omega
def planS (ops : Array Oper) (H : Heap) (nx : Nat) (l : List Act1) (E : List (Heap × Nat)) : Plan := ⟨fun i => (l[i]?).getD .skip, hsAt H E, nsAt (nx + ops.size) E, cnt l ops.size, effPos l ops.size⟩
section
variable {P : Program} {G : Nat → CV} {κ : Qc} {n : Nat} {ops : Array Oper} {nx : Nat} {Q : AExit → Env → Heap → Nat → Prop}
/-- A drawn region, run in the order of the text. -/
theorem AWp.regS {id : Nat} {e e' : Env} {H H' : Heap} {ne' : Nat} {l : List Act1} {E : List (Heap × Nat)} (hm : P.follows .mixedOrders = true) (hst : statR n κ.R ops = true) (hBn : ∀ b, κ.B b → b < nx) (hB0 : ∀ b, κ.B b → H b = κ.H0 b) (hr : SRun P G κ ops nx 0 0 ops.toList e H (nx + ops.size) l E e' H' ne') (h : Q .normal e' H' ne') : AWp P G n (.region id ops true) e H nx Q := by
  intro M a w g r v
  have hfree : ∀ b, nx ≤ b → H b = none := fun b hb => by
    cases hH : H b with
    | none => rfl
    | some k => obtain ⟨gg, m, h1, _⟩ := r.blk b k hH; rw [r.fresh b hb] at h1; cases h1
  simp only [statR, Bool.and_eq_true] at hst
  obtain ⟨f1, f2, f3, f4, f5⟩ := hr.facts (n := n) H (nx + ops.size) e [] [] (by simp) (Nat.zero_le _) rfl rfl hst.1 rfl (fun t => by cases wr ops t <;> simp) heapAt_zero.symm rfl
  simp only [List.nil_append] at f1 f2 f3 f4 f5
  have hlen : l.length = ops.size := by have := hr.len; simpa using this
  have hin : ∀ {i : Nat} {x : Act1}, l[i]? = some x → i < ops.size := fun hx => by have := (List.getElem?_eq_some_iff.mp hx).1; omega
  have place : ∀ i, i < ops.size → ∃ o, ops[i]? = some o ∧ PlaceOk P G κ ops nx (nx + ops.size) H e l E i o := fun i hi => ⟨ops[i], by simp [hi], f5 i _ (Nat.zero_le _) (by simp [hi])⟩
  have efK : ∀ {i : Nat}, isE l[i]? = true → i < ops.size ∧ atO ops isEf i = true ∧ ∃ c, l[i]? = some (.eff (cnt l i) c) := by
    intro i hi
    cases hl : l[i]? with
    | none => rw [hl] at hi; cases hi
    | some x =>
      have hlt := hin hl
      obtain ⟨o, ho, ei, _, hp⟩ := place i hlt
      rcases hp with ⟨c, h1, _⟩ | ⟨h1, _⟩ | ⟨c, kk, h1, _⟩ | ⟨c, x', h1, _, h2, _⟩
      · rw [h1] at hi; cases hi
      · rw [h1] at hi; cases hi
      · rw [h1] at hi; cases hi
      · refine ⟨hlt, ?_, c, by rw [← hl]; exact h1⟩
        unfold atO; rw [ho]; exact h2
  have alK : ∀ {i : Nat} {c : CV} {kk : CB}, l[i]? = some (.alloc c kk) → atO ops isAl i = true := by
    intro i c kk hl
    obtain ⟨o, ho, ei, _, hp⟩ := place i (hin hl)
    rcases hp with ⟨c', h1, _⟩ | ⟨h1, _⟩ | ⟨c', kk', h1, _, h2⟩ | ⟨c', x', h1, _⟩
    · rw [h1] at hl; cases hl
    · rw [h1] at hl; cases hl
    · unfold atO; rw [ho]; exact astep_isAl h2
    · rw [h1] at hl; cases hl
  have hed : ∀ i o, ops[i]? = some o → ∀ e ∈ o.after.toList, Region.binds .any e = true → e.on < i := by
    intro i o ho
    have := statL_spec (k := 0) hst.1 i o (by simpa using ho)
    rw [Nat.zero_add] at this
    exact statO_edges this
  have notE : ∀ {i : Nat} {c : CV} {kk : CB}, l[i]? = some (.alloc c kk) → isE l[i]? = false := fun h => by rw [h]; rfl
  -- effects number the positions
  have posE : ∀ {J i : Nat}, J < cnt l i → i ≤ ops.size → ∃ p, p < i ∧ isE l[p]? = true ∧ cnt l p = J ∧ effPos l ops.size J = p := by
    intro J i hJ hi
    obtain ⟨p, h1, h2, h3⟩ := cnt_ex hJ
    exact ⟨p, h1, h2, h3, by rw [← h3]; exact effPos_at h2 (by omega)⟩
  -- the heap that place i sees
  have sees : ∀ i, i ≤ ops.size → ∀ (L : Nat → Bool), (∀ a, (∃ c kk, l[a]? = some (.alloc c kk)) → L a = true → a < i) → (∀ a, (∃ c kk, l[a]? = some (.alloc c kk)) → lastE l i ≤ a → a < i → L a = true) →
      heapL ops (planS ops H nx l E) nx (cnt l i) L = heapAt nx H l E i := by
    intro i hi L hL1 hL2
    funext b
    unfold heapL heapAt
    have key : newL ops (planS ops H nx l E) nx (cnt l i) L b = (if nx ≤ b ∧ lastE l i ≤ b - nx ∧ b - nx < i then alAt l (b - nx) else none) := by
      cases hal : alAt l (b - nx) with
      | none =>
        simp only [ite_self]
        cases hn : newL ops (planS ops H nx l E) nx (cnt l i) L b with
        | none => rfl
        | some kk =>
          obtain ⟨_, _, ⟨c, h3⟩, _⟩ := newL_some hn
          exfalso
          have h3' : (l[b - nx]?).getD .skip = .alloc c kk := h3
          unfold alAt at hal
          cases hl : l[b - nx]? with
          | none => rw [hl] at h3'; cases h3'
          | some x => rw [hl] at h3' hal; simp only [Option.getD_some] at h3'; subst h3'; cases hal
      | some kk =>
        obtain ⟨c, hl⟩ : ∃ c, l[b - nx]? = some (.alloc c kk) := by
          unfold alAt at hal
          split at hal
          · rename_i c k' hl; cases hal; exact ⟨c, hl⟩
          · cases hal
        by_cases hc : nx ≤ b ∧ lastE l i ≤ b - nx ∧ b - nx < i
        · rw [if_pos hc]
          refine newL_of (c := c) hc.1 (hL2 _ ⟨c, kk, hl⟩ hc.2.1 hc.2.2) (by show (l[b - nx]?).getD .skip = _; rw [hl]; rfl) (fun j hj => ?_)
          obtain ⟨p, p1, p2, p3, p4⟩ := posE hj hi
          show anc (ancs ops) (effPos l ops.size j) (b - nx) = false
          rw [p4]
          have := lastE_gt p1 p2
          cases hx : anc (ancs ops) p (b - nx) with
          | false => rfl
          | true => have := anc_lt hed hx; omega
        · rw [if_neg hc]
          cases hn : newL ops (planS ops H nx l E) nx (cnt l i) L b with
          | none => rfl
          | some k2 =>
            obtain ⟨n1, n2, _, n4⟩ := newL_some hn
            exfalso
            have hlt := hL1 _ ⟨c, kk, hl⟩ n2
            have hge : b - nx < lastE l i := by omega
            rcases lastE_cases (l := l) i with h0 | ⟨p, p1, p2, p3⟩
            · omega
            · have hne : p ≠ b - nx := fun e1 => by rw [e1, notE hl] at p2; cases p2
              have hal' := alK hl
              obtain ⟨q1, q2, _⟩ := efK p2
              have hanc := statP_spec hst.2 q1 (show b - nx < p by omega) (.inl ⟨hal', memR_ef q2⟩)
              have := n4 (cnt l p) (cnt_lt p1 p2)
              have e2 : (planS ops H nx l E).eix (cnt l p) = p := effPos_at p2 q1
              rw [e2, hanc] at this; cases this
    rw [key]
    rfl
  have seesI : ∀ i, i < ops.size → memR ops κ.R i = true → heapL ops (planS ops H nx l E) nx (cnt l i) (before ops i) = heapAt nx H l E i := by
    intro i hi hmem
    refine sees i (by omega) _ (fun a _ ha => anc_lt hed ha) (fun a ⟨c, kk, hl⟩ _ ha => ?_)
    exact statP_spec hst.2 hi ha (.inl ⟨alK hl, hmem⟩)
  have flat : ∀ u v, u ≤ v → v ≤ ops.size → (∀ p, u ≤ p → p < v → isE l[p]? = true → atO ops isSt p = false) → ∀ b, heapAt nx H l E v b = match (if nx ≤ b ∧ u ≤ b - nx ∧ b - nx < v then alAt l (b - nx) else none) with
      | some kk => some kk
      | none => heapAt nx H l E u b := by
    intro u v huv
    induction v with
    | zero =>
      intro _ _ b
      have : u = 0 := by omega
      subst this; rw [if_neg (by omega)]
    | succ v ih =>
      intro hv hc b
      rcases Nat.eq_or_lt_of_le huv with h0 | h0
      · subst h0; rw [if_neg (by omega)]
      · have ihb := ih (by omega) (by omega) (fun p a c d => hc p a (by omega) d) b
        obtain ⟨o, ho, ei, _, hp⟩ := place v (by omega)
        have noal : alAt l v = none → (if nx ≤ b ∧ u ≤ b - nx ∧ b - nx < v + 1 then alAt l (b - nx) else none) = (if nx ≤ b ∧ u ≤ b - nx ∧ b - nx < v then alAt l (b - nx) else none) := by
          intro hn
          by_cases hb : b - nx = v
          · rw [hb, hn]; simp
          · have : (nx ≤ b ∧ u ≤ b - nx ∧ b - nx < v + 1) ↔ (nx ≤ b ∧ u ≤ b - nx ∧ b - nx < v) := by omega
            simp only [this]
        rcases hp with ⟨c, q1, _⟩ | ⟨q1, _⟩ | ⟨c, kk, q1, _⟩ | ⟨c, x, q1, _, q2, q3, _, _, q4, _, _⟩
        · rw [heapAt_same (by rw [q1]; simp) (by rw [q1]; simp) (by rw [q1]; simp), noal (by unfold alAt; rw [q1])]; exact ihb
        · rw [heapAt_same (by rw [q1]; simp) (by rw [q1]; simp) (by rw [q1]; simp), noal (by unfold alAt; rw [q1])]; exact ihb
        · rw [heapAt_alloc q1]
          by_cases hb : b = nx + v
          · subst hb
            rw [upd_hit, if_pos (by omega), Nat.add_sub_cancel_left]
            unfold alAt; rw [q1]
          · rw [upd_miss _ _ _ _ hb, ihb]
            have : (nx ≤ b ∧ u ≤ b - nx ∧ b - nx < v + 1) ↔ (nx ≤ b ∧ u ≤ b - nx ∧ b - nx < v) := by omega
            simp only [this]
        · have hs : isSt o.op = false := by
            have := hc v (by omega) (by omega) (by rw [q1]; rfl)
            unfold atO at this; rw [ho] at this; exact this
          rw [heapAt_eff q1 q3, noal (by unfold alAt; rw [q1]), q4 hs]; exact ihb
  -- behind effect J
  have hsPos : ∀ {J p : Nat}, p < ops.size → isE l[p]? = true → cnt l p = J → hsAt H E (J + 1) = heapAt nx H l E (p + 1) := by
    intro J p hp he hc
    obtain ⟨o, ho, ei, _, hp'⟩ := place p hp
    rcases hp' with ⟨c, q1, _⟩ | ⟨q1, _⟩ | ⟨c, kk, q1, _⟩ | ⟨c, x, q1, _, q2, q3, _⟩
    · rw [q1] at he; cases he
    · rw [q1] at he; cases he
    · rw [q1] at he; cases he
    · rw [heapAt_eff q1 q3]; rw [hc] at q3; simp only [hsAt, q3]
  have seesJ : ∀ i J, i < ops.size → memR ops κ.R i = true → isE l[i]? = false → J ≤ cnt l ops.size → (∀ j, j ≤ cnt l ops.size → anc (ancs ops) i (effPos l ops.size j) = true → j < J) → (∀ j, j ≤ cnt l ops.size → anc (ancs ops) (effPos l ops.size j) i = true → J ≤ j) →
      heapL ops (planS ops H nx l E) nx J (before ops i) = heapAt nx H l E i := by
    intro i J hi hmem hni hJ h1 h2
    rcases Nat.lt_or_ge (cnt l i) J with hc | hc
    · -- calls behind place i stand already
      obtain ⟨p, p1, p2, p3, p4⟩ := posE (show J - 1 < cnt l ops.size by omega) (Nat.le_refl _)
      have hip : i < p := by
        rcases Nat.lt_trichotomy p i with hlt | heq | hlt
        · have := cnt_lt hlt p2; omega
        · subst heq; rw [hni] at p2; cases p2
        · exact hlt
      obtain ⟨q1, q2, _⟩ := efK p2
      have hna : anc (ancs ops) p i = false := by
        cases hx : anc (ancs ops) p i with
        | false => rfl
        | true => have := h2 (J - 1) (by omega) (by rw [p4]; exact hx); omega
      have nost : ∀ p', i ≤ p' → p' < p + 1 → isE l[p']? = true → atO ops isSt p' = false := by
        intro p' ha hb he
        cases hs : atO ops isSt p' with
        | false => rfl
        | true =>
          have hne : p' ≠ i := fun e => by subst e; rw [hni] at he; cases he
          obtain ⟨r1, r2, _⟩ := efK he
          have hanc := statP_spec hst.2 r1 (show i < p' by omega) (.inr (.inl ⟨hs, hmem⟩))
          have hle := cnt_mono (l := l) (show p' ≤ p by omega)
          have := h2 (cnt l p') (by omega) (by rw [effPos_at he r1]; exact hanc)
          omega
      have e1 : hsAt H E J = heapAt nx H l E (p + 1) := by
        have := hsPos q1 p2 p3
        rwa [show J - 1 + 1 = J by omega] at this
      funext b
      have hnew : newL ops (planS ops H nx l E) nx J (before ops i) b = none := by
        cases hn : newL ops (planS ops H nx l E) nx J (before ops i) b with
        | none => rfl
        | some k2 =>
          obtain ⟨n1, n2, ⟨c, n3⟩, n4⟩ := newL_some hn
          exfalso
          have hl : l[b - nx]? = some (.alloc c k2) := by
            have n3' : (l[b - nx]?).getD .skip = .alloc c k2 := n3
            cases hx : l[b - nx]? with
            | none => rw [hx] at n3'; cases n3'
            | some y => rw [hx] at n3'; simp only [Option.getD_some] at n3'; rw [n3']
          have hlt := anc_lt hed n2
          have hanc := statP_spec hst.2 q1 (show b - nx < p by omega) (.inl ⟨alK hl, memR_ef q2⟩)
          have := n4 (J - 1) (by omega)
          have e2 : (planS ops H nx l E).eix (J - 1) = p := p4
          rw [e2, hanc] at this; cases this
      unfold heapL
      rw [hnew]
      show hsAt H E J b = _
      rw [e1, flat i (p + 1) (by omega) (by omega) nost b]
      by_cases hb : nx ≤ b ∧ i ≤ b - nx ∧ b - nx < p + 1
      · rw [if_pos hb]
        have : alAt l (b - nx) = none := by
          unfold alAt
          split
          · rename_i c kk hl
            exfalso
            have hal := alK hl
            have hne : b - nx ≠ p := fun e => by rw [e] at hl; rw [hl] at p2; cases p2
            rcases Nat.eq_or_lt_of_le hb.2.1 with h0 | h0
            · obtain ⟨o, ho, _⟩ := place i hi
              rw [← h0] at hal
              have hmem := memR_mem hmem
              unfold atO at hal hmem
              rw [ho] at hal hmem
              simp only at hal hmem
              revert hal hmem
              cases o.op <;> simp [isAl, memO, isEf]
            · have := statP_gap hst.2 q1 h0 (by omega) hmem q2 hna
              rw [hal] at this; cases this
          · rfl
        rw [this]
      · rw [if_neg hb]
    · -- calls ahead of place i are still to come
      have e0 : ∃ q, q ≤ i ∧ hsAt H E J = heapAt nx H l E q ∧ cnt l q = J ∧ (J = 0 → q = 0) ∧ (∀ p, p + 1 = q → 0 < J → isE l[p]? = true ∧ cnt l p + 1 = J ∧ p < ops.size ∧ effPos l ops.size (J - 1) = p) ∧ (0 < J → 0 < q) := by
        rcases Nat.eq_zero_or_pos J with h0 | h0
        · subst h0
          exact ⟨0, by omega, by rw [heapAt_zero]; rfl, rfl, fun _ => rfl, fun p hp => by omega, fun h => by omega⟩
        · obtain ⟨p, p1, p2, p3, p4⟩ := posE (show J - 1 < cnt l i by omega) (by omega)
          have := hsPos (show p < ops.size by omega) p2 p3
          rw [show J - 1 + 1 = J by omega] at this
          exact ⟨p + 1, by omega, this, by rw [cnt_succ, if_pos p2]; omega, fun h => by omega, fun p' hp' _ => by
            have : p' = p := by omega
            subst this; exact ⟨p2, by omega, by omega, p4⟩, fun _ => by omega⟩
      obtain ⟨q, g1, g2, g3, g4, g5, g6⟩ := e0
      have nost : ∀ p', q ≤ p' → p' < i → isE l[p']? = true → atO ops isSt p' = false := by
        intro p' ha hb he
        cases hs : atO ops isSt p' with
        | false => rfl
        | true =>
          have hanc := statP_spec hst.2 hi hb (.inr (.inr (.inl ⟨hs, hmem⟩)))
          have hle := cnt_mono (l := l) ha
          have := h1 (cnt l p') (by have := cnt_mono (l := l) (show p' ≤ ops.size by omega); omega) (by rw [effPos_at he (by omega)]; exact hanc)
          omega
      funext b
      rw [flat q i g1 (by omega) nost b]
      unfold heapL
      have hnew : newL ops (planS ops H nx l E) nx J (before ops i) b = (if nx ≤ b ∧ q ≤ b - nx ∧ b - nx < i then alAt l (b - nx) else none) := by
        cases hal : alAt l (b - nx) with
        | none =>
          simp only [ite_self]
          cases hn : newL ops (planS ops H nx l E) nx J (before ops i) b with
          | none => rfl
          | some kk =>
            obtain ⟨_, _, ⟨c, h3⟩, _⟩ := newL_some hn
            exfalso
            have h3' : (l[b - nx]?).getD .skip = .alloc c kk := h3
            unfold alAt at hal
            cases hl : l[b - nx]? with
            | none => rw [hl] at h3'; cases h3'
            | some x => rw [hl] at h3' hal; simp only [Option.getD_some] at h3'; subst h3'; cases hal
        | some kk =>
          obtain ⟨c, hl⟩ : ∃ c, l[b - nx]? = some (.alloc c kk) := by
            unfold alAt at hal
            split at hal
            · rename_i c k' hl; cases hal; exact ⟨c, hl⟩
            · cases hal
          by_cases hb : nx ≤ b ∧ q ≤ b - nx ∧ b - nx < i
          · rw [if_pos hb]
            refine newL_of (c := c) hb.1 (statP_spec hst.2 hi hb.2.2 (.inl ⟨alK hl, hmem⟩)) (by show (l[b - nx]?).getD .skip = _; rw [hl]; rfl) (fun j hj => ?_)
            obtain ⟨p, p1, p2, p3, p4⟩ := posE (show j < cnt l q by omega) (by omega)
            show anc (ancs ops) (effPos l ops.size j) (b - nx) = false
            rw [p4]
            cases hx : anc (ancs ops) p (b - nx) with
            | false => rfl
            | true => have := anc_lt hed hx; omega
          · rw [if_neg hb]
            cases hn : newL ops (planS ops H nx l E) nx J (before ops i) b with
            | none => rfl
            | some k2 =>
              obtain ⟨n1, n2, _, n4⟩ := newL_some hn
              exfalso
              have hlt := anc_lt hed n2
              have hJ0 : 0 < J := by
                rcases Nat.eq_zero_or_pos J with h0 | h0
                · have := g4 h0; omega
                · exact h0
              have hq0 := g6 hJ0
              obtain ⟨r1, r2, r3, r4⟩ := g5 (q - 1) (by omega) hJ0
              obtain ⟨_, s2, _⟩ := efK r1
              have hne : b - nx ≠ q - 1 := fun e => by rw [← e] at r1; rw [notE hl] at r1; cases r1
              have hanc := statP_spec hst.2 r3 (show b - nx < q - 1 by omega) (.inl ⟨alK hl, memR_ef s2⟩)
              have := n4 (J - 1) (by omega)
              have e2 : (planS ops H nx l E).eix (J - 1) = q - 1 := r4
              rw [e2, hanc] at this; cases this
      rw [hnew]
      show _ = match _ with
        | some kk => some kk
        | none => heapAt nx H l E q b
      rw [← g2]
      rfl
  have hall : envL ops (planS ops H nx l E) e (allL ops) = e' := by
    funext t
    rw [f1 t]
    unfold envL
    cases hw : wr ops t with
    | none => rfl
    | some j =>
      obtain ⟨oj, hoj, _⟩ := wr_some hw
      have hlt := (Array.getElem?_eq_some_iff.mp hoj).1
      simp only [allL, lt_blt hlt, hlt, if_true]
      rfl
  have hend : heapL ops (planS ops H nx l E) nx (cnt l ops.size) (allL ops) = H' := by
    rw [f2]
    exact sees ops.size (Nat.le_refl _) _ (fun a _ ha => blt_lt ha) (fun a _ _ ha => lt_blt ha)
  have nmono : ∀ J, J ≤ cnt l ops.size → nx + ops.size ≤ nsAt (nx + ops.size) E J := by
    intro J
    induction J with
    | zero => intro _; exact Nat.le_refl _
    | succ J ih =>
      intro hJ
      have h1 := ih (by omega)
      obtain ⟨p, p1, p2, p3, _⟩ := posE (show J < cnt l ops.size by omega) (Nat.le_refl _)
      obtain ⟨o, ho, ei, _, hp⟩ := place p p1
      rcases hp with ⟨c, q1, _⟩ | ⟨q1, _⟩ | ⟨c, kk, q1, _⟩ | ⟨c, x, q1, _, _, q4, q5, _⟩
      · rw [q1] at p2; cases p2
      · rw [q1] at p2; cases p2
      · rw [q1] at p2; cases p2
      · rw [p3] at q4 q5
        simp only [nsAt, q4]; omega
  have newB : ∀ {J : Nat} {L : Nat → Bool} {b : Nat}, b < nx → newL ops (planS ops H nx l E) nx J L b = none := by
    intro J L b hb
    cases hn : newL ops (planS ops H nx l E) nx J L b with
    | none => rfl
    | some k2 => obtain ⟨n1, _⟩ := newL_some hn; omega
  have hsB : ∀ J, J ≤ cnt l ops.size → ∀ b, κ.B b → hsAt H E J b = H b := by
    intro J
    induction J using Nat.strongRecOn with
    | ind J ih =>
      intro hJ b hb
      rcases Nat.eq_zero_or_pos J with h0 | h0
      · subst h0; rfl
      · obtain ⟨p, p1, p2, p3, _⟩ := posE (show J - 1 < cnt l ops.size by omega) (Nat.le_refl _)
        obtain ⟨o, ho, ei, _, hp⟩ := place p p1
        rcases hp with ⟨c, q1, _⟩ | ⟨q1, _⟩ | ⟨c, kk, q1, _⟩ | ⟨c, x, q1, _, _, q3, _, _, _, q4, _⟩
        · rw [q1] at p2; cases p2
        · rw [q1] at p2; cases p2
        · rw [q1] at p2; cases p2
        · rw [p3] at q3
          have e1 : hsAt H E J b = x.1 b := by
            obtain ⟨J', rfl⟩ : ∃ J', J = J' + 1 := ⟨J - 1, by omega⟩
            simp only [Nat.add_sub_cancel] at q3
            simp only [hsAt, q3]
          rw [e1, q4 b hb]
          have hbn := hBn b hb
          unfold heapAt
          rw [if_neg (by omega), p3]
          exact ih (J - 1) (by omega) (by omega) b hb
  have ok : Plan.Ok P G n ops (planS ops H nx l E) e H nx := by
    refine ⟨fun i o ho => ?_, Sub.refl _, rfl, nmono, ?_, ?_, .inr ?_⟩
    · have hi : i < ops.size := (Array.getElem?_eq_some_iff.mp ho).1
      have hso := statL_spec (k := 0) hst.1 i o (by simpa using ho)
      rw [Nat.zero_add] at hso
      obtain ⟨ei, he, hac⟩ := f5 i o (Nat.zero_le _) ho
      have hagree : ∀ t ∈ o.looksAt ops, envL ops (planS ops H nx l E) e (before ops i) t = ei t := by
        intro t ht
        rw [he t]
        unfold envL
        cases hw : wr ops t with
        | none => rfl
        | some j =>
          simp only
          rcases statO_looks hso t ht j hw with ha | ha
          · have hlt := anc_lt hed ha
            simp only [before, ha, if_pos hlt]
            rfl
          · have hlt := anc_lt hed ha
            have hn : anc (ancs ops) i j = false := by
              cases hx : anc (ancs ops) i j with
              | false => rfl
              | true => have := anc_lt hed hx; omega
            simp only [before, hn]
            rw [if_neg (by omega)]
      refine ⟨statO_dst hso, statO_looks hso, statO_edges hso, ?_⟩
      have hgd := gd_congr (o := o) hagree
      have hrd := rd_congr (G := G) (o := o) hagree
      have memI : memO o.op = true → atO ops memO i = true := fun h => by unfold atO; rw [ho]; exact h
      rcases hac with ⟨c, hl, hg, hq, hR⟩ | ⟨hl, hg⟩ | ⟨c, kk, hl, hg, hq⟩ | ⟨c, x, hl, hg, hi2, hx, hnn, hfr, hcl, hBk, hE⟩
      · have : (planS ops H nx l E).act i = .quiet c := by show (l[i]?).getD .skip = _; rw [hl]; rfl
        simp only [this]
        refine ⟨by rw [hgd]; exact hg, fun J hJ h1 h2 => ?_⟩
        rw [qstep_congr hrd]
        cases hmem : memO o.op with
        | false => rw [qstep_mem (H' := heapAt nx H l E i) hmem]; exact hq
        | true =>
          cases hRi : κ.R.contains i with
          | true =>
            refine hR hRi _ fun b hb => ?_
            unfold heapL
            rw [newB (hBn b hb)]
            show hsAt H E J b = _
            rw [hsB J hJ b hb]; exact hB0 b hb
          | false =>
            have hmi : memR ops κ.R i = true := by unfold memR; rw [memI hmem, hRi]; simp
            rw [seesJ i J hi hmi (by rw [hl]; rfl) hJ h1 h2]; exact hq
      · have : (planS ops H nx l E).act i = .skip := by show (l[i]?).getD .skip = _; rw [hl]; rfl
        simp only [this]
        rw [hgd]; exact hg
      · have : (planS ops H nx l E).act i = .alloc c kk := by show (l[i]?).getD .skip = _; rw [hl]; rfl
        simp only [this]
        refine ⟨by rw [hgd]; exact hg, ?_⟩
        rw [astep_congr hrd]; exact hq
      · have : (planS ops H nx l E).act i = .eff (cnt l i) c := by show (l[i]?).getD .skip = _; rw [hl]; rfl
        simp only [this]
        have hmi : memR ops κ.R i = true := memR_ef (by unfold atO; rw [ho]; exact hi2)
        have hEi : isE l[i]? = true := by rw [hl]; rfl
        refine ⟨by rw [hgd]; exact hg, effPos_at hEi hi, cnt_lt hi hEi, fun j' hj' => ?_, ?_⟩
        · obtain ⟨p, p1, p2, p3, p4⟩ := posE hj' (by omega)
          obtain ⟨q1, q2, _⟩ := efK p2
          show anc (ancs ops) i (effPos l ops.size j') = true
          rw [p4]
          exact statP_spec hst.2 hi p1 (.inr (.inr (.inr ⟨by unfold atO; rw [ho]; exact hi2, q2⟩)))
        · rw [seesI i hi hmi]
          have e1 : (planS ops H nx l E).hs (cnt l i + 1) = x.1 := by show hsAt H E (cnt l i + 1) = _; simp only [hsAt, hx]
          have e2 : (planS ops H nx l E).nxs (cnt l i + 1) = x.2 := by show nsAt (nx + ops.size) E (cnt l i + 1) = _; simp only [nsAt, hx]
          rw [e1, e2]
          exact EffOk.congr hrd hE
    · intro J i c kk hJ ha hi hno
      have hl : l[i]? = some (.alloc c kk) := by
        have ha' : (l[i]?).getD .skip = .alloc c kk := ha
        cases hx : l[i]? with
        | none => rw [hx] at ha'; cases ha'
        | some y => rw [hx] at ha'; simp only [Option.getD_some] at ha'; rw [ha']
      show hsAt H E J (nx + i) = none
      have hJ' : J ≤ cnt l ops.size := hJ
      clear hJ ha
      induction J with
      | zero => exact hfree _ (by omega)
      | succ J ih =>
        have ihJ := ih (fun j hj => hno j (by omega)) (by omega)
        obtain ⟨p, p1, p2, p3, p4⟩ := posE (show J < cnt l ops.size by omega) (Nat.le_refl _)
        obtain ⟨q1, q2, _⟩ := efK p2
        have hpi : p < i := by
          rcases Nat.lt_trichotomy p i with hlt | heq | hlt
          · exact hlt
          · subst heq; rw [hl] at p2; cases p2
          · have hanc := statP_spec hst.2 q1 hlt (.inl ⟨alK hl, memR_ef q2⟩)
            have := hno J (Nat.lt_succ_self J)
            have e2 : (planS ops H nx l E).eix J = p := p4
            rw [e2, hanc] at this; cases this
        obtain ⟨o, ho, ei, _, hp⟩ := place p p1
        rcases hp with ⟨c', r1, _⟩ | ⟨r1, _⟩ | ⟨c', kk', r1, _⟩ | ⟨c', x, r1, _, _, r4, _, r6, _⟩
        · rw [r1] at p2; cases p2
        · rw [r1] at p2; cases p2
        · rw [r1] at p2; cases p2
        · rw [p3] at r4
          simp only [hsAt, r4]
          refine r6 (nx + i) (by omega) (by omega) ?_
          unfold heapAt
          rw [if_neg (by omega), p3]
          exact ihJ
    · intro j hj
      obtain ⟨p, p1, p2, p3, p4⟩ := posE hj (Nat.le_refl _)
      obtain ⟨_, _, c, hc⟩ := efK p2
      refine ⟨by show effPos l ops.size j < _; omega, c, ?_⟩
      show (l[effPos l ops.size j]?).getD .skip = _
      rw [p4, hc, p3]; rfl
    · show ops.size ≤ effPos l ops.size (cnt l ops.size)
      rw [effPos_end]; exact Nat.le_refl _
  have hmm : (planS ops H nx l E).eix (planS ops H nx l E).m = ops.size := effPos_end
  refine AWp.drawn (Q := Q) hm ok (fun j v hv => ?_) (fun _ => ?_) M a w g r v
  · exfalso
    rw [hmm] at hv
    have : (l[ops.size]?).getD .skip = .pan j v := hv
    rw [List.getElem?_eq_none (by omega)] at this; cases this
  · rw [hall]
    have e1 : (planS ops H nx l E).m = cnt l ops.size := rfl
    rw [e1, hend]
    have e2 : (planS ops H nx l E).nxs (cnt l ops.size) = ne' := f3.symm
    rw [e2]; exact h
end
end Ax
end Go.Proofs.YtdjllogimomgmaaGreatDoor
namespace Go.Proofs.YtdjllogimomgmaaGreatDoor
namespace Ax
/-- What a change touches was there before, or is new. -/
def Dl.on (H : Heap) : Dl → Bool
  | .set b _ => (H b).isSome
  | _ => true
def stepT (P : Program) (G : Nat → CV) (e : Env) (H : Heap) (b ne : Nat) (op : Op) : Option (CV × Heap × Nat) := match qstep P H (rd G e) op with
  | some c => some (c, H, ne)
  | none => match astep P (rd G e) b op with
    | some (c, k) => some (c, upd H b k, ne)
    | none => match estep P H ne (rd G e) op with
      | some (c, d) => match d.on H with
        | true => some (c, d.hp H ne, d.nx ne)
        | false => none
      | none => none
theorem estep_isEf {P : Program} {H : Heap} {nx : Nat} {ρ : Operand → CV} {op : Op} {x : CV × Dl} (h : estep P H nx ρ op = some x) : isEf op = true := by
  unfold estep at h
  split at h
  · rfl
  · rfl
  · rfl
  · rfl
  · unfold isEf
    split at h
    · rename_i hc; simp only [hc]
    · rename_i hc; simp only [hc]
    · cases h
  · cases h
theorem EffOk.estepH {P : Program} {G : Nat → CV} {o : Oper} {ρ : Operand → CV} {H : Heap} {nx : Nat} {c : CV} {d : Dl} (he : Ax.estep P H nx ρ o.op = some (c, d)) : EffOk P G o ρ H nx c (d.hp H nx) (d.nx nx) := by
  intro M a w next Q g r hx k
  obtain ⟨M', w', h1, r', f'⟩ := estep_sound he r hx
  unfold Oper.wp
  rcases h1 with ⟨z, h1, h2⟩ | ⟨h1, h2⟩
  · rw [h1]; exact k M' z w' h2 r' f'
  · rw [h1]; subst h2; exact k M' undef w' (.any _) r' f'
theorem Dl.nx_le (nx : Nat) (d : Dl) : nx ≤ d.nx nx := by cases d <;> simp [Dl.nx]
theorem Dl.keeps {H : Heap} {ne : Nat} {d : Dl} (h : d.on H = true) {b : Nat} (hb : b < ne) (hn : H b = none) : d.hp H ne b = none := by
  cases d with
  | no => exact hn
  | set b' k =>
    have : b ≠ b' := fun e => by subst e; simp [Dl.on, hn] at h
    show upd H b' k b = none
    rw [upd_miss _ _ _ _ this]; exact hn
  | mv b' k =>
    show upd (drp H b') ne k b = none
    rw [upd_miss _ _ _ _ (by omega)]
    simp [drp, hn]
  | nw k =>
    show upd H ne k b = none
    rw [upd_miss _ _ _ _ (by omega)]; exact hn
theorem estep_isSt {P : Program} {H : Heap} {nx : Nat} {ρ : Operand → CV} {op : Op} {x : CV × Dl} (h : estep P H nx ρ op = some x) : isSt op = true := by
  unfold estep at h
  split at h
  · rfl
  · rfl
  · rfl
  · rfl
  · unfold isSt
    split at h
    · rename_i hc; simp only [hc]
    · rename_i hc; simp only [hc]
    · cases h
  · cases h
def ASlK (P : Program) (G : Nat → CV) (κ : Qc) (nx0 k : Nat) (ops : Array Oper) (os : List Oper) (e : Env) (H : Heap) (ne : Nat) (K : Env → Heap → Nat → Prop) : Prop :=
  nx0 + ops.size ≤ ne → ∀ j, ∃ l E e' H' ne', SRun P G κ ops nx0 k j os e H ne l E e' H' ne' ∧ K e' H' ne'
abbrev ASl (P : Program) (G : Nat → CV) (nx0 k : Nat) (ops : Array Oper) (os : List Oper) (e : Env) (H : Heap) (ne : Nat) (K : Env → Heap → Nat → Prop) : Prop := ASlK P G Qc.no nx0 k ops os e H ne K
theorem callA_isEf {ρ : Operand → CV} {op : Op} {x : FuncId × List CV} (h : callA ρ op = some x) : isEf op = true := by
  unfold callA at h
  split at h
  · rename_i c
    unfold isEf
    split at h
    · rename_i hc; simp only [hc]
    · cases h
  · cases h
section
variable {P : Program} {G : Nat → CV} {κ : Qc} {n : Nat} {e : Env} {H : Heap} {nx nx0 k ne : Nat} {Q : AExit → Env → Heap → Nat → Prop} {ops : Array Oper} {os : List Oper} {K : Env → Heap → Nat → Prop}
theorem ASlK.nil (h : K e H ne) : ASlK P G κ nx0 k ops [] e H ne K := fun _ j => ⟨[], [], e, H, ne, .nil k j e H ne, h⟩
variable {d : Option Nat} {op : Op} {ty : TypeId} {pos : String} {af : Array Edge} {g : Option (Nat × Bool)}
theorem ASlK.stepG (hg : gd ops e ⟨d, op, ty, pos, af, g⟩ = some true) {c : CV} {H' : Heap} {ne' : Nat} (hs : stepT P G e H (nx0 + k) ne op = some (c, H', ne'))
    (hR : κ.R.contains k = true → ∀ H', (∀ b, κ.B b → H' b = κ.H0 b) → qstep P H' (rd G e) op = some c) (hBk : ∀ b, κ.B b → H' b = H b)
    (h : ASlK P G κ nx0 (k + 1) ops os (putE e d c) H' ne' K) : ASlK P G κ nx0 k ops (⟨d, op, ty, pos, af, g⟩ :: os) e H ne K := fun hne j => by
  unfold stepT at hs
  split at hs
  · rename_i c' hq
    cases hs
    obtain ⟨l, E, e', H', ne', h1, h2⟩ := h hne j
    exact ⟨_, E, e', H', ne', .look (o := ⟨d, op, ty, pos, af, g⟩) _ hg hq hR h1, h2⟩
  · split at hs
    · rename_i c' kk hq
      cases hs
      obtain ⟨l, E, e', H', ne', h1, h2⟩ := h hne j
      exact ⟨_, E, e', H', ne', .alloc (o := ⟨d, op, ty, pos, af, g⟩) _ kk hg hq h1, h2⟩
    · split at hs
      · rename_i c' dl hq
        split at hs
        · rename_i hon
          cases hs
          have hle := Dl.nx_le ne dl
          obtain ⟨l, E, e', H', ne', h1, h2⟩ := h (by omega) (j + 1)
          exact ⟨_, _, e', H', ne', .eff (o := ⟨d, op, ty, pos, af, g⟩) _ hg (estep_isEf hq) hle (fun b _ hb hn => Dl.keeps hon (by omega) hn) (fun hs => by rw [show isSt op = true from estep_isSt hq] at hs; cases hs) hBk (EffOk.estepH (o := ⟨d, op, ty, pos, af, g⟩) hq) h1, h2⟩
        · cases hs
      · cases hs
theorem ASlK.pass (hg : gd ops e ⟨d, op, ty, pos, af, g⟩ = some false) (h : ASlK P G κ nx0 (k + 1) ops os (putE e d (.tup [])) H ne K) : ASlK P G κ nx0 k ops (⟨d, op, ty, pos, af, g⟩ :: os) e H ne K := fun hne j => by
  obtain ⟨l, E, e', H', ne', h1, h2⟩ := h hne j
  exact ⟨_, E, e', H', ne', .skip (o := ⟨d, op, ty, pos, af, g⟩) hg h1, h2⟩
theorem ASlK.callg (hg : gd ops e ⟨d, op, ty, pos, af, g⟩ = some true) {f : FuncId} {args : List CV} (hq : callA (rd G e) op = some (f, args)) (he : enters P f = true) {v : CV} (hf : FCall1 P G f args v)
    (h : ASlK P G κ nx0 (k + 1) ops os (putE e d v) H ne K) : ASlK P G κ nx0 k ops (⟨d, op, ty, pos, af, g⟩ :: os) e H ne K := fun hne j => by
  obtain ⟨l, E, e', H', ne', h1, h2⟩ := h hne (j + 1)
  exact ⟨_, _, e', H', ne', .eff (o := ⟨d, op, ty, pos, af, g⟩) v hg (callA_isEf hq) (Nat.le_refl _) (fun b _ _ hn => hn) (fun _ => rfl) (fun _ _ => rfl) (EffOk.call (o := ⟨d, op, ty, pos, af, g⟩) hq he (hf H ne)) h1, h2⟩
theorem ASlK.call {f : FuncId} {args : List CV} (hq : callA (rd G e) op = some (f, args)) (he : enters P f = true) {v : CV} (hf : FCall1 P G f args v)
    (h : ASlK P G κ nx0 (k + 1) ops os (putE e d v) H ne K) : ASlK P G κ nx0 k ops (⟨d, op, ty, pos, af, none⟩ :: os) e H ne K := ASlK.callg rfl hq he hf h
/-- Steps where nothing is left alone for sure. -/
theorem ASl.nil (h : K e H ne) : ASl P G nx0 k ops [] e H ne K := ASlK.nil h
theorem ASl.stepG (hg : gd ops e ⟨d, op, ty, pos, af, g⟩ = some true) {c : CV} {H' : Heap} {ne' : Nat} (hs : stepT P G e H (nx0 + k) ne op = some (c, H', ne')) (h : ASl P G nx0 (k + 1) ops os (putE e d c) H' ne' K) : ASl P G nx0 k ops (⟨d, op, ty, pos, af, g⟩ :: os) e H ne K :=
  ASlK.stepG hg hs (fun h => by cases h) (fun _ h => h.elim) h
theorem ASl.step {c : CV} {H' : Heap} {ne' : Nat} (hs : stepT P G e H (nx0 + k) ne op = some (c, H', ne')) (h : ASl P G nx0 (k + 1) ops os (putE e d c) H' ne' K) : ASl P G nx0 k ops (⟨d, op, ty, pos, af, none⟩ :: os) e H ne K := ASl.stepG rfl hs h
theorem ASl.pass (hg : gd ops e ⟨d, op, ty, pos, af, g⟩ = some false) (h : ASl P G nx0 (k + 1) ops os (putE e d (.tup [])) H ne K) : ASl P G nx0 k ops (⟨d, op, ty, pos, af, g⟩ :: os) e H ne K := ASlK.pass hg h
theorem ASl.callg (hg : gd ops e ⟨d, op, ty, pos, af, g⟩ = some true) {f : FuncId} {args : List CV} (hq : callA (rd G e) op = some (f, args)) (he : enters P f = true) {v : CV} (hf : FCall1 P G f args v)
    (h : ASl P G nx0 (k + 1) ops os (putE e d v) H ne K) : ASl P G nx0 k ops (⟨d, op, ty, pos, af, g⟩ :: os) e H ne K := ASlK.callg hg hq he hf h
theorem ASl.call {f : FuncId} {args : List CV} (hq : callA (rd G e) op = some (f, args)) (he : enters P f = true) {v : CV} (hf : FCall1 P G f args v)
    (h : ASl P G nx0 (k + 1) ops os (putE e d v) H ne K) : ASl P G nx0 k ops (⟨d, op, ty, pos, af, none⟩ :: os) e H ne K := ASlK.callg rfl hq he hf h
theorem AWp.regT {id m : Nat} (hm : P.follows .mixedOrders = true) (hst : statS n ops = true) (hl : ops.toList = os) (hz : ops.size = m) (h : ASl P G nx 0 ops os e H (nx + m) fun e' H' ne' => Q .normal e' H' ne') : AWp P G n (.region id ops true) e H nx Q := by
  subst hz
  obtain ⟨l, E, e', H', ne', h1, h2⟩ := h (Nat.le_refl _) 0
  subst hl
  exact AWp.regS (κ := Qc.no) hm hst (fun _ h => h.elim) (fun _ h => h.elim) h1 h2
/-- The same, where the looks R see blocks B alone, which no operation touches. -/
theorem AWp.regTB {id m : Nat} (R : List Nat) (B : Nat → Prop) (hm : P.follows .mixedOrders = true) (hst : statR n R ops = true) (hl : ops.toList = os) (hz : ops.size = m) (hBn : ∀ b, B b → b < nx) (h : ASlK P G ⟨B, R, H⟩ nx 0 ops os e H (nx + m) fun e' H' ne' => Q .normal e' H' ne') : AWp P G n (.region id ops true) e H nx Q := by
  subst hz
  obtain ⟨l, E, e', H', ne', h1, h2⟩ := h (Nat.le_refl _) 0
  subst hl
  exact AWp.regS (κ := ⟨B, R, H⟩) hm hst hBn (fun _ _ => rfl) h1 h2
end
end Ax
end Go.Proofs.YtdjllogimomgmaaGreatDoor
namespace Go.Proofs.YtdjllogimomgmaaGreatDoor
namespace Ax
theorem beqI (a b : Int) : (a == b) = decide (a = b) := by by_cases h : a = b <;> simp [h]
theorem bneI (a b : Int) : (a != b) = !decide (a = b) := by by_cases h : a = b <;> simp [bne, h]
theorem isED (l : List UInt8) : l.isEmpty = decide (l = []) := by cases l <;> simp
theorem beqS (a b : List UInt8) : (a == b) = decide (a = b) := by by_cases h : a = b <;> simp [h]
theorem bneS (a b : List UInt8) : (a != b) = !decide (a = b) := by by_cases h : a = b <;> simp [bne, h]
/-- e0 but for the places in ms and those from lo on. -/
def over (e0 : Env) (ms : List Nat) (lo : Nat) (v : Env) : Env := fun t => if lo ≤ t then v t else if t ∈ ms then v t else e0 t
def Keeps (e0 : Env) (ms : List Nat) (lo : Nat) (e : Env) : Prop := ∀ t, t < lo → t ∉ ms → e t = e0 t
theorem Keeps.eq {e0 e : Env} {ms : List Nat} {lo : Nat} (h : Keeps e0 ms lo e) : over e0 ms lo e = e := by
  funext t
  unfold over
  split
  · rfl
  · split
    · rfl
    · exact (h t (by omega) (by assumption)).symm
theorem Keeps.base (e0 : Env) (ms : List Nat) (lo : Nat) (v : Env) : Keeps e0 ms lo (over e0 ms lo v) := fun t h1 h2 => by
  unfold over
  rw [if_neg (by omega), if_neg h2]
theorem Keeps.refl (e0 : Env) (ms : List Nat) (lo : Nat) : Keeps e0 ms lo e0 := fun _ _ _ => rfl
def okK (ms : List Nat) (lo : Nat) (d : Option Nat) : Bool := match d with
  | some t => Nat.ble lo t || ms.contains t
  | none => true
theorem Keeps.put {e0 e : Env} {ms : List Nat} {lo : Nat} {d : Option Nat} {c : CV} (hd : okK ms lo d = true) (h : Keeps e0 ms lo e) : Keeps e0 ms lo (putE e d c) := by
  cases d with
  | none => exact h
  | some d =>
    intro t h1 h2
    have hne : t ≠ d := by
      rintro rfl
      simp only [okK, Bool.or_eq_true] at hd
      rcases hd with hd | hd
      · have := Nat.le_of_ble_eq_true hd; omega
      · exact h2 (by simpa using hd)
    simp only [putE, hne, if_false]
    exact h t h1 h2
theorem Keeps.over' {e0 e : Env} {ms ms' : List Nat} {lo lo' : Nat} {v : Env} (hm : (ms'.all fun t => okK ms lo (some t)) = true) (hl : Nat.ble lo lo' = true) (h : Keeps e0 ms lo e) : Keeps e0 ms lo (over e ms' lo' v) := by
  intro t h1 h2
  have h3 := Nat.le_of_ble_eq_true hl
  unfold over
  rw [if_neg (by omega), if_neg]
  · exact h t h1 h2
  · intro hc
    have := List.all_eq_true.mp hm t hc
    simp only [okK, Bool.or_eq_true] at this
    rcases this with hd | hd
    · have := Nat.le_of_ble_eq_true hd; omega
    · exact h2 (by simpa using hd)
section
variable {P : Program} {G : Nat → CV} {n : Nat} {e : Env} {H : Heap} {nx : Nat} {Q : AExit → Env → Heap → Nat → Prop}
theorem AWp.le {c : Code} (h : AWp P G n c e H nx Q) : AWp P G n c e H nx fun x e' H' nx' => nx ≤ nx' ∧ Q x e' H' nx' := fun M a w g r v =>
  wp_mono (h M a w g r v) fun _ _ _ ⟨M', x, e', H', nx', h1, h2, h3, h4, h5⟩ => ⟨M', x, e', H', nx', h1, h2, h3, h4, h3.nxle, h5⟩
/-- A loop that counts up to N; the places outside ms and below lo keep their values. -/
theorem AWp.countO {c : Code} (N : Nat) (ms : List Nat) (lo : Nat) (S : Nat → Env → Heap → Nat → Prop) (h0 : S 0 e H nx)
    (round : ∀ i v H' nx', i ≤ N → nx ≤ nx' → S i v H' nx' → AWp P G n c (over e ms lo v) H' nx' (Then (fun e' H'' nx'' => Keeps e ms lo e' ∧ i < N ∧ S (i + 1) e' H'' nx'') Q)) : AWp P G n (.loop c) e H nx Q := by
  refine AWp.count N (fun i e' H' nx' => Keeps e ms lo e' ∧ nx ≤ nx' ∧ S i e' H' nx') ⟨Keeps.refl _ _ _, Nat.le_refl _, h0⟩ ?_
  rintro i e' H' nx' hi ⟨hk, hle, hs⟩
  rw [← hk.eq]
  refine (AWp.le (round i e' H' nx' hi hle hs)).mono ?_
  intro x e1 H1 nx1 ⟨hl, hx⟩
  cases x with
  | normal =>
    obtain ⟨h1, h2, h3⟩ := hx
    exact ⟨h2, h1, by omega, h3⟩
  | exit i => exact hx
  | ret => exact hx
  | pan v => exact hx
/-- What holds behind code, said once for all its ways. -/
theorem AWp.cutO {c : Code} (ms : List Nat) (lo : Nat) (S : Env → Heap → Nat → Prop) {N : Env → Heap → Nat → Prop} (h1 : AWp P G n c e H nx (Then (fun e' H' nx' => Keeps e ms lo e' ∧ S e' H' nx') Q)) (h2 : ∀ v H' nx', nx ≤ nx' → S v H' nx' → N (over e ms lo v) H' nx') : AWp P G n c e H nx (Then N Q) := by
  refine (AWp.le h1).mono ?_
  intro x e' H' nx' ⟨hl, hx⟩
  cases x with
  | normal =>
    obtain ⟨hk, hs⟩ := hx
    have := h2 e' H' nx' hl hs
    rw [hk.eq] at this
    exact this
  | exit i => exact hx
  | ret => exact hx
  | pan v => exact hx
section
variable {ops : Array Oper} {os : List Oper} {nx0 k ne : Nat} {K : Env → Heap → Nat → Prop} {o : Oper}
end
end
section
variable {P : Program} {G : Nat → CV} {n : Nat} {e : Env} {H : Heap} {nx : Nat} {Q : AExit → Env → Heap → Nat → Prop} {ops : Array Oper} {os : List Oper} {d : Option Nat} {ty : TypeId} {pos : String} {af : Array Edge} {g : Option (Nat × Bool)}
theorem orB (h y : Bool) : (h && true || !h && y) = (h || y) := by cases h <;> rfl
theorem andB (h y : Bool) : (h && y || !h && false) = (h && y) := by cases h <;> simp
/-- The arms of || come together. -/
theorem AOpl.pickOr (hd : okD n d = true) {c b : Operand} {c0 y : Bool} (hc : op1 (rd G e c) = .bool c0) (hb : c0 = false → op1 (rd G e b) = .bool y) (h : AOpl P G n ops os (putE e d (.bool (c0 || y))) H nx Q) :
    AOpl P G n ops (⟨d, .pick c (.const (.bool true)) b, ty, pos, af, none⟩ :: os) e H nx Q :=
  AOpl.pickU hd (x := true) (y := y) hc (fun _ => rfl) hb (by rw [orB]; exact h)
theorem AOpl.pickOrC (hd : okD n d = true) {bg : Bool} {c b : Operand} {c0 y : Bool} (hg : gdB ops e ⟨d, .pick c (.const (.bool true)) b, ty, pos, af, g⟩ = some bg) (hc : bg = true → op1 (rd G e c) = .bool c0) (hb : bg = true → c0 = false → op1 (rd G e b) = .bool y) (h : AOpl P G n ops os (putE e d (.opt bg (.bool (c0 || y)))) H nx Q) :
    AOpl P G n ops (⟨d, .pick c (.const (.bool true)) b, ty, pos, af, g⟩ :: os) e H nx Q :=
  AOpl.pickC hd (x := true) (y := y) hg hc (fun _ _ => rfl) hb (by rw [orB]; exact h)
/-- The arms of && come together. -/
theorem AOpl.pickAnd (hd : okD n d = true) {c a : Operand} {c0 x : Bool} (hc : op1 (rd G e c) = .bool c0) (ha : c0 = true → op1 (rd G e a) = .bool x) (h : AOpl P G n ops os (putE e d (.bool (c0 && x))) H nx Q) :
    AOpl P G n ops (⟨d, .pick c a (.const (.bool false)), ty, pos, af, none⟩ :: os) e H nx Q :=
  AOpl.pickU hd (x := x) (y := false) hc ha (fun _ => rfl) (by rw [andB]; exact h)
theorem AOpl.pickAndC (hd : okD n d = true) {bg : Bool} {c a : Operand} {c0 x : Bool} (hg : gdB ops e ⟨d, .pick c a (.const (.bool false)), ty, pos, af, g⟩ = some bg) (hc : bg = true → op1 (rd G e c) = .bool c0) (ha : bg = true → c0 = true → op1 (rd G e a) = .bool x) (h : AOpl P G n ops os (putE e d (.opt bg (.bool (c0 && x)))) H nx Q) :
    AOpl P G n ops (⟨d, .pick c a (.const (.bool false)), ty, pos, af, g⟩ :: os) e H nx Q :=
  AOpl.pickC hd (x := x) (y := false) hg hc ha (fun _ _ => rfl) (by rw [andB]; exact h)
end
section
variable {P : Program} {G : Nat → CV} {n : Nat} {e : Env} {H : Heap} {nx : Nat} {Q : AExit → Env → Heap → Nat → Prop} {ops : Array Oper} {os : List Oper} {d : Option Nat} {ty : TypeId} {pos : String} {af : Array Edge} {g : Option (Nat × Bool)}
theorem AOpl.passC (hd : okD n d = true) {op : Op} (hg : gdB ops e ⟨d, op, ty, pos, af, g⟩ = some false) (h : AOpl P G n ops os (putE e d (.opt false .any)) H nx Q) : AOpl P G n ops (⟨d, op, ty, pos, af, g⟩ :: os) e H nx Q :=
  AOpl.lookC hd (c := .any) hg (fun h => by cases h) h
/-! the same with a name for what comes out -/
theorem AOpl.pickOrZ (hd : okD n d = true) {c b : Operand} {c0 y : Bool} (hc : op1 (rd G e c) = .bool c0) (hb : c0 = false → op1 (rd G e b) = .bool y) (h : ∀ z, (c0 || y) = z → AOpl P G n ops os (putE e d (.bool z)) H nx Q) :
    AOpl P G n ops (⟨d, .pick c (.const (.bool true)) b, ty, pos, af, none⟩ :: os) e H nx Q := AOpl.pickOr hd hc hb (h _ rfl)
theorem AOpl.pickOrCZ (hd : okD n d = true) {bg : Bool} {c b : Operand} {c0 y : Bool} (hg : gdB ops e ⟨d, .pick c (.const (.bool true)) b, ty, pos, af, g⟩ = some bg) (hc : bg = true → op1 (rd G e c) = .bool c0) (hb : bg = true → c0 = false → op1 (rd G e b) = .bool y) (h : ∀ z, (c0 || y) = z → AOpl P G n ops os (putE e d (.opt bg (.bool z))) H nx Q) :
    AOpl P G n ops (⟨d, .pick c (.const (.bool true)) b, ty, pos, af, g⟩ :: os) e H nx Q := AOpl.pickOrC hd hg hc hb (h _ rfl)
theorem AOpl.pickAndZ (hd : okD n d = true) {c a : Operand} {c0 x : Bool} (hc : op1 (rd G e c) = .bool c0) (ha : c0 = true → op1 (rd G e a) = .bool x) (h : ∀ z, (c0 && x) = z → AOpl P G n ops os (putE e d (.bool z)) H nx Q) :
    AOpl P G n ops (⟨d, .pick c a (.const (.bool false)), ty, pos, af, none⟩ :: os) e H nx Q := AOpl.pickAnd hd hc ha (h _ rfl)
theorem AOpl.pickAndCZ (hd : okD n d = true) {bg : Bool} {c a : Operand} {c0 x : Bool} (hg : gdB ops e ⟨d, .pick c a (.const (.bool false)), ty, pos, af, g⟩ = some bg) (hc : bg = true → op1 (rd G e c) = .bool c0) (ha : bg = true → c0 = true → op1 (rd G e a) = .bool x) (h : ∀ z, (c0 && x) = z → AOpl P G n ops os (putE e d (.opt bg (.bool z))) H nx Q) :
    AOpl P G n ops (⟨d, .pick c a (.const (.bool false)), ty, pos, af, g⟩ :: os) e H nx Q := AOpl.pickAndC hd hg hc ha (h _ rfl)
end
section
variable {P : Program} {G : Nat → CV} {n : Nat} {e : Env} {H : Heap} {nx : Nat} {Q : AExit → Env → Heap → Nat → Prop} {ops : Array Oper} {os : List Oper} {d : Option Nat} {ty : TypeId} {pos : String} {af : Array Edge} {g : Option (Nat × Bool)}
theorem AOpl.pickUG (hd : okD n d = true) {c a b : Operand} {c0 x y : Bool} (hg : gd ops e ⟨d, .pick c a b, ty, pos, af, g⟩ = some true) (hc : op1 (rd G e c) = .bool c0) (ha : c0 = true → op1 (rd G e a) = .bool x) (hb : c0 = false → op1 (rd G e b) = .bool y) (h : AOpl P G n ops os (putE e d (.bool (c0 && x || !c0 && y))) H nx Q) :
    AOpl P G n ops (⟨d, .pick c a b, ty, pos, af, g⟩ :: os) e H nx Q :=
  AOpl.lift (fun k ho h' => AOps.lookO (o := ⟨d, .pick c a b, ty, pos, af, g⟩) ho (okD_spec hd) hg (pick_q hc ha hb) h') h
theorem AOpl.pickOrGZ (hd : okD n d = true) {c b : Operand} {c0 y : Bool} (hg : gd ops e ⟨d, .pick c (.const (.bool true)) b, ty, pos, af, g⟩ = some true) (hc : op1 (rd G e c) = .bool c0) (hb : c0 = false → op1 (rd G e b) = .bool y) (h : ∀ z, (c0 || y) = z → AOpl P G n ops os (putE e d (.bool z)) H nx Q) :
    AOpl P G n ops (⟨d, .pick c (.const (.bool true)) b, ty, pos, af, g⟩ :: os) e H nx Q := AOpl.pickUG hd hg (x := true) (y := y) hc (fun _ => rfl) hb (by rw [orB]; exact h _ rfl)
theorem AOpl.pickAndGZ (hd : okD n d = true) {c a : Operand} {c0 x : Bool} (hg : gd ops e ⟨d, .pick c a (.const (.bool false)), ty, pos, af, g⟩ = some true) (hc : op1 (rd G e c) = .bool c0) (ha : c0 = true → op1 (rd G e a) = .bool x) (h : ∀ z, (c0 && x) = z → AOpl P G n ops os (putE e d (.bool z)) H nx Q) :
    AOpl P G n ops (⟨d, .pick c a (.const (.bool false)), ty, pos, af, g⟩ :: os) e H nx Q := AOpl.pickUG hd hg (x := x) (y := false) hc ha (fun _ => rfl) (by rw [andB]; exact h _ rfl)
end
/-! more rows for an own list -/
section
variable {P : Program} {H : Heap} {nx : Nat} {t el : TypeId} {s b1 : Nat} {z : Value} {i : TI}
theorem app_lst {b n k : Nat} {cs : List CV} {rows : List (List CV)} (ht : ti P t = some ⟨.slice el, s, z, b1⟩) (hi : ti P el = some i) (hk : i.size = k) (hz : i.zero.cells.size = k) (hk0 : 0 < k) (hb : H b = some (.cells cs)) (hcs : cs.length = n * k)
    (hrow : ∀ r ∈ rows, r.length = k) (hone : ∀ r ∈ rows, r.all CV.one = true) (hn : n + rows.length < 1000000000) (hby : i.bytes ≤ 1000) : appA P H nx t t (.sl b 0 n k) (.lst rows) = some (.sl nx 0 (n + rows.length) k, .mv b (.cells (cs ++ rows.flatten))) := by
  subst hk
  have h1 : rows.all (fun r => Nat.beq r.length i.size) = true := by
    rw [List.all_eq_true]; intro r hr; rw [hrow r hr]; exact Nat.beq_refl _
  have h2 : Nat.ble (n * i.size) cs.length = true := Nat.ble_eq_true_of_le (by omega)
  have h3 : Nat.ble (n + rows.length) 9223372036854775807 = true := Nat.ble_eq_true_of_le (by omega)
  have h4 : (n + rows.length) * i.bytes ≤ 1000000000 * 1000 := Nat.mul_le_mul (by omega) hby
  have h5 : Nat.ble ((n + rows.length) * i.bytes) 140737488355328 = true := Nat.ble_eq_true_of_le (by omega)
  have h6 : Nat.blt 0 i.size = true := lt_blt (by omega)
  have h7 : Nat.beq i.zero.cells.size i.size = true := by rw [hz]; exact Nat.beq_refl _
  have h9 : rows.flatten.all CV.one = true := by
    rw [List.all_eq_true]
    intro c hc
    obtain ⟨r, hr, hc⟩ := List.mem_flatten.mp hc
    exact List.all_eq_true.mp (hone r hr) c hc
  have e2 : cs.take (n * i.size) = cs := List.take_of_length_le (by omega)
  unfold appA
  simp only [ht, hi, srcD, h6, h7, Bool.and_self, srcA, h1, h9, hb, Nat.beq_refl, h2, h3, h5, e2]
theorem app_lst0 {k : Nat} {rows : List (List CV)} (ht : ti P t = some ⟨.slice el, s, z, b1⟩) (hi : ti P el = some i) (hk : i.size = k) (hz : i.zero.cells.size = k) (hk0 : 0 < k)
    (hrow : ∀ r ∈ rows, r.length = k) (hone : ∀ r ∈ rows, r.all CV.one = true) (hn : rows.length < 1000000000) (hby : i.bytes ≤ 1000) : appA P H nx t t .nils (.lst rows) = if rows.length = 0 then some (.nils, .no) else some (.sl nx 0 rows.length k, .nw (.cells rows.flatten)) := by
  subst hk
  have h1 : rows.all (fun r => Nat.beq r.length i.size) = true := by
    rw [List.all_eq_true]; intro r hr; rw [hrow r hr]; exact Nat.beq_refl _
  have h3 : Nat.ble rows.length 9223372036854775807 = true := Nat.ble_eq_true_of_le (by omega)
  have h4 : rows.length * i.bytes ≤ 1000000000 * 1000 := Nat.mul_le_mul (by omega) hby
  have h5 : Nat.ble (rows.length * i.bytes) 140737488355328 = true := Nat.ble_eq_true_of_le (by omega)
  have h6 : Nat.blt 0 i.size = true := lt_blt (by omega)
  have h7 : Nat.beq i.zero.cells.size i.size = true := by rw [hz]; exact Nat.beq_refl _
  have h9 : rows.flatten.all CV.one = true := by
    rw [List.all_eq_true]
    intro c hc
    obtain ⟨r, hr, hc⟩ := List.mem_flatten.mp hc
    exact List.all_eq_true.mp (hone r hr) c hc
  unfold appA
  simp only [ht, hi, srcD, h6, h7, Bool.and_self, srcA, h1, h9, Nat.beq_refl, h3, h5]
  by_cases h0 : rows.length = 0
  · rw [h0]; rfl
  · rw [if_neg h0]
    have : Nat.beq rows.length 0 = false := by cases hx : rows.length with
      | zero => exact absurd hx h0
      | succ k => rfl
    rw [this]
end
section
variable {P : Program} {G : Nat → CV} {n : Nat} {e : Env} {H : Heap} {nx : Nat} {Q : AExit → Env → Heap → Nat → Prop} {ops : Array Oper} {os : List Oper} {d : Option Nat} {ty : TypeId} {pos : String} {af : Array Edge} {g : Option (Nat × Bool)}
theorem flat_map {α : Type} {cv : α → List CV} (l : List α) : (l.map cv).flatten = l.flatMap cv := by rw [List.flatMap_def]
/-- A frozen list behind an own list. -/
theorem AOpl.appLst {α : Type} {cv : α → List CV} {k : Nat} {t el : TypeId} {s b1 : Nat} {z : Value} {i : TI} (ht : ti P t = some ⟨.slice el, s, z, b1⟩) (hi : ti P el = some i) (hk : i.size = k) (hz : i.zero.cells.size = k) (hk0 : 0 < k) (hby : i.bytes ≤ 1000)
    (hcv : ∀ a, (cv a).length = k) (hone : ∀ a, (cv a).all CV.one = true) {so xo : Operand} {c : CV} {l l2 : List α} (hd : okD n d = true) (hg : gd ops e ⟨d, .call ⟨.builtin .append, #[so, xo], #[t, t]⟩, ty, pos, af, g⟩ = some true)
    (hs : rd G e so = c) (hx : rd G e xo = .lst (l2.map cv)) (ho : OwnL cv k H nx c l) (hn : l.length + l2.length < 1000000000)
    (h : ∀ c' H' nx', OwnL cv k H' nx' c' (l ++ l2) → nx ≤ nx' → (∀ b, b < nx → (∀ b', c = .sl b' 0 l.length k → b ≠ b') → H' b = H b) → AOpl P G n ops os (putE e d c') H' nx' Q) :
    AOpl P G n ops (⟨d, .call ⟨.builtin .append, #[so, xo], #[t, t]⟩, ty, pos, af, g⟩ :: os) e H nx Q := by
  have hr : ∀ r ∈ l2.map cv, r.length = k := fun r hr => by obtain ⟨a, _, rfl⟩ := List.mem_map.mp hr; exact hcv a
  have hro : ∀ r ∈ l2.map cv, r.all CV.one = true := fun r hr => by obtain ⟨a, _, rfl⟩ := List.mem_map.mp hr; exact hone a
  have key : ∃ c' d', appA P H nx t t c (.lst (l2.map cv)) = some (c', d') ∧ OwnL cv k (d'.hp H nx) (d'.nx nx) c' (l ++ l2) ∧ nx ≤ d'.nx nx ∧ ∀ b, b < nx → (∀ b', c = .sl b' 0 l.length k → b ≠ b') → (d'.hp H nx) b = H b := by
    rcases ho with ⟨rfl, rfl⟩ | ⟨b, rfl, hb, hlt⟩
    · have h0 := app_lst0 (H := H) (nx := nx) ht hi hk hz hk0 hr hro (by rw [List.length_map]; omega) hby
      by_cases hl : (l2.map cv).length = 0
      · rw [if_pos hl] at h0
        have hl2 : l2 = [] := by rw [List.length_map] at hl; exact List.length_eq_zero_iff.mp hl
        exact ⟨_, _, h0, .inl ⟨by simp [hl2], rfl⟩, Nat.le_refl _, fun _ _ _ => rfl⟩
      · rw [if_neg hl] at h0
        refine ⟨_, _, h0, .inr ⟨nx, by simp, ?_, by simp [Dl.nx]⟩, by simp [Dl.nx], fun b hb _ => ?_⟩
        · simp [Dl.hp, Ax.upd, flat_map]
        · simp only [Dl.hp]; exact upd_miss _ _ _ _ (by omega)
    · refine ⟨_, _, app_lst ht hi hk hz hk0 hb (flatMap_len hcv l) hr hro (by rw [List.length_map]; omega) hby, .inr ⟨nx, by simp, ?_, by simp [Dl.nx]⟩, by simp [Dl.nx], fun b' hb' hne => ?_⟩
      · simp [Dl.hp, Ax.upd, List.flatMap_append, flat_map]
      · simp only [Dl.hp]
        rw [upd_miss _ _ _ _ (by omega), drp_miss _ _ _ (hne b rfl)]
  obtain ⟨c', d', h1, h2, h3, h4⟩ := key
  refine AOpl.stepG hd hg (c := c') (H' := d'.hp H nx) (nx' := d'.nx nx) ?_ (h c' _ _ h2 h3 h4)
  simp [stepS, qstep, bltA, astep, estep, hs, hx, h1]
end
end Ax
end Go.Proofs.YtdjllogimomgmaaGreatDoor
