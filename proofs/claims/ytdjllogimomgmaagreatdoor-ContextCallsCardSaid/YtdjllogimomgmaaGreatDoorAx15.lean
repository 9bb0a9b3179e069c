/-
  AX: steps for proofs: one operation after the other.
-/
import Derived.Test.YtdjllogimomgmaaGreatDoorAx14
set_option linter.unusedSimpArgs false
set_option linter.unusedVariables false
namespace Go.Proofs.YtdjllogimomgmaaGreatDoor
namespace Ax
/-- One operation that is no call. -/
def stepS (P : Program) (G : Nat → CV) (e : Env) (H : Heap) (nx : Nat) (op : Op) : Option (CV × Heap × Nat) := match qstep P H (rd G e) op with
  | some c => some (c, H, nx)
  | none => match astep P (rd G e) nx op with
    | some (c, k) => some (c, upd H nx k, nx + 1)
    | none => match estep P H nx (rd G e) op with
      | some (c, d) => some (c, d.hp H nx, d.nx nx)
      | none => none
section
variable {P : Program} {G : Nat → CV} {n : Nat} {e : Env} {H : Heap} {nx : Nat} {Q : AExit → Env → Heap → Nat → Prop} {ops : Array Oper} {i : Nat} {l : List Nat} {o : Oper}
theorem AWp.region' {id : Nat} {l : List Nat} (hl : List.range ops.size = l) (h : AOps P G n ops l e H nx Q) : AWp P G n (.region id ops false) e H nx Q := AWp.region (hl ▸ h)
theorem AOps.step (ho : ops[i]? = some o) (hd : okD n o.dst = true) (hg : gd ops e o = some true) {c : CV} {H' : Heap} {nx' : Nat} (hs : stepS P G e H nx o.op = some (c, H', nx')) (h : AOps P G n ops l (putE e o.dst c) H' nx' Q) : AOps P G n ops (i :: l) e H nx Q := by
  unfold stepS at hs
  split at hs
  · rename_i c' hq; cases hs; exact AOps.quiet ho hg (okD_spec hd) hq h
  · split at hs
    · rename_i c' k hq; cases hs; exact AOps.new ho hg (okD_spec hd) hq h
    · split at hs
      · rename_i c' d hq; cases hs; exact AOps.write ho hg (okD_spec hd) hq h
      · cases hs
theorem AOps.pass (ho : ops[i]? = some o) (hd : okD n o.dst = true) (hg : gd ops e o = some false) (h : AOps P G n ops l (putE e o.dst (.tup [])) H nx Q) : AOps P G n ops (i :: l) e H nx Q := AOps.unwanted ho hg (okD_spec hd) h
theorem AOps.call' (ho : ops[i]? = some o) (hd : okD n o.dst = true) (hg : gd ops e o = some true) {f : FuncId} {args : List CV} (hq : callA (rd G e) o.op = some (f, args)) (he : enters P f = true)
    (h : ACall P G f args H nx fun r H' nx' => match r with
      | .ret v => AOps P G n ops l (putE e o.dst v) H' nx' Q
      | .pan v => Q (.pan v) e H' nx') : AOps P G n ops (i :: l) e H nx Q := AOps.call ho hg (okD_spec hd) hq he h
end
/-- The operations that are left, by themselves. -/
def AOpl (P : Program) (G : Nat → CV) (n : Nat) (ops : Array Oper) (os : List Oper) (e : Env) (H : Heap) (nx : Nat) (Q : AExit → Env → Heap → Nat → Prop) : Prop := ∀ k, ops.toList.drop k = os → AOps P G n ops (List.range' k os.length) e H nx Q
section
variable {P : Program} {G : Nat → CV} {n : Nat} {e : Env} {H : Heap} {nx : Nat} {Q : AExit → Env → Heap → Nat → Prop} {ops : Array Oper} {os : List Oper}
theorem AWp.reg {id : Nat} (hl : ops.toList = os) (h : AOpl P G n ops os e H nx Q) : AWp P G n (.region id ops false) e H nx Q := by
  refine AWp.region ?_
  have := h 0 (by simpa using hl)
  rw [List.range_eq_range']
  have hs : os.length = ops.size := by rw [← hl]; simp
  rw [hs] at this
  exact this
theorem AOpl.nil (h : Q .normal e H nx) : AOpl P G n ops [] e H nx Q := fun _ _ => AOps.nil h
theorem AOpl.lift {o : Oper} {e' : Env} {H' : Heap} {nx' : Nat} (f : ∀ k, ops[k]? = some o → AOps P G n ops (List.range' (k + 1) os.length) e' H' nx' Q → AOps P G n ops (k :: List.range' (k + 1) os.length) e H nx Q) (h : AOpl P G n ops os e' H' nx' Q) : AOpl P G n ops (o :: os) e H nx Q := by
  intro k hk
  have ho : ops[k]? = some o := by
    have := congrArg List.head? hk
    simpa [List.head?_drop] using this
  have hk' : ops.toList.drop (k + 1) = os := by
    have := congrArg List.tail hk
    simpa [List.tail_drop] using this
  simp only [List.length_cons, List.range'_succ]
  exact f k ho (h (k + 1) hk')
variable {d : Option Nat} {op : Op} {ty : TypeId} {pos : String} {af : Array Edge} {g : Option (Nat × Bool)}
theorem AOpl.step (hd : okD n d = true) {c : CV} {H' : Heap} {nx' : Nat} (hs : stepS P G e H nx op = some (c, H', nx')) (h : AOpl P G n ops os (putE e d c) H' nx' Q) : AOpl P G n ops (⟨d, op, ty, pos, af, none⟩ :: os) e H nx Q :=
  AOpl.lift (fun k ho h' => AOps.step (o := ⟨d, op, ty, pos, af, none⟩) ho hd rfl hs h') h
theorem AOpl.stepG (hd : okD n d = true) (hg : gd ops e ⟨d, op, ty, pos, af, g⟩ = some true) {c : CV} {H' : Heap} {nx' : Nat} (hs : stepS P G e H nx op = some (c, H', nx')) (h : AOpl P G n ops os (putE e d c) H' nx' Q) : AOpl P G n ops (⟨d, op, ty, pos, af, g⟩ :: os) e H nx Q :=
  AOpl.lift (fun k ho h' => AOps.step (o := ⟨d, op, ty, pos, af, g⟩) ho hd hg hs h') h
theorem AOpl.pass (hd : okD n d = true) (hg : gd ops e ⟨d, op, ty, pos, af, g⟩ = some false) (h : AOpl P G n ops os (putE e d (.tup [])) H nx Q) : AOpl P G n ops (⟨d, op, ty, pos, af, g⟩ :: os) e H nx Q :=
  AOpl.lift (fun k ho h' => AOps.pass (o := ⟨d, op, ty, pos, af, g⟩) ho hd hg h') h
theorem AOpl.callG (hd : okD n d = true) (hg : gd ops e ⟨d, op, ty, pos, af, g⟩ = some true) {f : FuncId} {args : List CV} (hq : callA (rd G e) op = some (f, args)) (he : enters P f = true)
    (h : ACall P G f args H nx fun r H' nx' => match r with
      | .ret v => AOpl P G n ops os (putE e d v) H' nx' Q
      | .pan v => Q (.pan v) e H' nx') : AOpl P G n ops (⟨d, op, ty, pos, af, g⟩ :: os) e H nx Q := by
  intro k hk
  have ho : ops[k]? = some ⟨d, op, ty, pos, af, g⟩ := by
    have := congrArg List.head? hk
    simpa [List.head?_drop] using this
  have hk' : ops.toList.drop (k + 1) = os := by
    have := congrArg List.tail hk
    simpa [List.tail_drop] using this
  simp only [List.length_cons, List.range'_succ]
  refine AOps.call' (o := ⟨d, op, ty, pos, af, g⟩) ho hd hg hq he (h.mono fun r H' nx' hr => ?_)
  cases r with
  | ret v => exact hr (k + 1) hk'
  | pan v => exact hr
theorem AOpl.call (hd : okD n d = true) {f : FuncId} {args : List CV} (hq : callA (rd G e) op = some (f, args)) (he : enters P f = true)
    (h : ACall P G f args H nx fun r H' nx' => match r with
      | .ret v => AOpl P G n ops os (putE e d v) H' nx' Q
      | .pan v => Q (.pan v) e H' nx') : AOpl P G n ops (⟨d, op, ty, pos, af, none⟩ :: os) e H nx Q := AOpl.callG hd rfl hq he h
end
theorem sliA_hi {P : Program} {H : Heap} {t e : TypeId} {s1 b1 : Nat} {z1 : Value} {i : TI} {rows : List (List CV)} {m : Nat} {kk : IntKind} (ht : ti P t = some ⟨.slice e, s1, z1, b1⟩) (he : ti P e = some i) (hall : ∀ r ∈ rows, r.length = i.size) (hm : m ≤ rows.length) :
    sliA P H t (.lst rows) none (some (.int kk (m : Int))) = some (.lst (rows.take m)) := by
  have h1 : rows.all (fun r => Nat.beq r.length i.size) = true := by
    rw [List.all_eq_true]; intro r hr; rw [hall r hr]; exact Nat.beq_refl _
  unfold sliA
  simp only [ht, he, bnd, natOf_cast]
  rw [Nat.ble_eq_true_of_le hm, h1, Nat.ble_eq_true_of_le (Nat.zero_le m)]
  simp
theorem sliA_lo {P : Program} {H : Heap} {t e : TypeId} {s1 b1 : Nat} {z1 : Value} {i : TI} {rows : List (List CV)} {m : Nat} {kk : IntKind} (ht : ti P t = some ⟨.slice e, s1, z1, b1⟩) (he : ti P e = some i) (hall : ∀ r ∈ rows, r.length = i.size) (hm : m ≤ rows.length) :
    sliA P H t (.lst rows) (some (.int kk (m : Int))) none = some (.lst (rows.drop m)) := by
  have h1 : rows.all (fun r => Nat.beq r.length i.size) = true := by
    rw [List.all_eq_true]; intro r hr; rw [hall r hr]; exact Nat.beq_refl _
  unfold sliA
  simp only [ht, he, bnd, natOf_cast]
  rw [Nat.ble_eq_true_of_le hm, h1, Nat.ble_eq_true_of_le (Nat.le_refl _)]
  simp only [Bool.and_self]
  rw [List.take_of_length_le (by simp)]
theorem nbeq (a b : Nat) : Nat.beq a b = decide (a = b) := by
  by_cases h : a = b
  · subst h; simp
  · rw [beqF h]; simp [h]
theorem nble (a b : Nat) : Nat.ble a b = decide (a ≤ b) := by
  by_cases h : a ≤ b
  · rw [Nat.ble_eq_true_of_le h]; simp [h]
  · cases hb : Nat.ble a b with
    | true => exact absurd (Nat.le_of_ble_eq_true hb) h
    | false => simp [h]
theorem nblt (a b : Nat) : Nat.blt a b = decide (a < b) := nble (a + 1) b
/-- A contract without memory: frozen arguments, the heap is left alone. -/
def FCall (P : Program) (G : Nat → CV) (f : FuncId) (args : List CV) (Q : Res → Prop) : Prop := ∀ H nx, ACall P G f args H nx fun r H' nx' => H' = H ∧ Q r
theorem FCall.of {P : Program} {G : Nat → CV} {f : FuncId} {args : List CV} {Q : Res → Prop} (h : ∀ nx, ACall P G f args Heap.no nx fun r _ _ => Q r) : FCall P G f args Q := by
  intro H nx M w vs g r v
  refine (h nx M w vs g (r.weak (Sub.no H)) v).mono ?_
  rintro e w' ⟨M', x, H', nx', h1, h2, h3, h4⟩
  have hno : Rep M' Heap.no nx' w' := h2.weak (Sub.no _)
  have fno : Fr Heap.no M nx w Heap.no M' nx' w' := h3.trans (.weak (Sub.no _))
  obtain ⟨r1, f1⟩ := Rep.frame H r (Sub.no H) (Sub.refl H) (fun b k hb => rfl) hno fno
  have e1 : cup Heap.no H = H := by funext b; unfold cup; cases hb : H b <;> simp [Heap.no, hb]
  rw [e1] at r1 f1
  exact ⟨M', x, H, nx', h1, r1, f1, rfl, h4⟩
theorem FCall.mono {P : Program} {G : Nat → CV} {f : FuncId} {args : List CV} {Q Q' : Res → Prop} (h : FCall P G f args Q) (hq : ∀ r, Q r → Q' r) : FCall P G f args Q' := fun H nx => (h H nx).mono fun _ _ _ ⟨a, b⟩ => ⟨a, hq _ b⟩
theorem FCall.ofBody {P : Program} {G : Nat → CV} {f : FuncId} {fn : Func} {c : Code} {args : List CV} {Q : Res → Prop} {n : Nat} (hf : P.funcs[f]? = some fn) (hb : fn.body = some c) (hn : max args.length fn.ntmps = n)
    (h : ∀ nx, AWp P G n c (argE args) Heap.no nx (BodyQ P fn fun r _ _ => Q r)) : FCall P G f args Q := FCall.of fun nx => ACall.of_body hf hb (hn ▸ h nx)
section
variable {P : Program} {G : Nat → CV} {n : Nat} {e : Env} {H : Heap} {nx : Nat} {Q : AExit → Env → Heap → Nat → Prop} {ops : Array Oper} {os : List Oper}
theorem AWp.condT {c : Operand} {x y : Code} (hc : rd G e c = .bool true) (h : AWp P G n x e H nx Q) : AWp P G n (.cond c x y) e H nx Q := AWp.cond hc h
theorem AWp.condF {c : Operand} {x y : Code} (hc : rd G e c = .bool false) (h : AWp P G n y e H nx Q) : AWp P G n (.cond c x y) e H nx Q := AWp.cond hc h
variable {d : Option Nat} {op : Op} {ty : TypeId} {pos : String} {af : Array Edge} {g : Option (Nat × Bool)}
/-- A call without memory that returns. -/
theorem AOpl.callF (hd : okD n d = true) {f : FuncId} {args : List CV} (hq : callA (rd G e) op = some (f, args)) (he : enters P f = true) {v : CV} (hf : FCall P G f args fun r => r = .ret v)
    (h : ∀ nx', AOpl P G n ops os (putE e d v) H nx' Q) : AOpl P G n ops (⟨d, op, ty, pos, af, none⟩ :: os) e H nx Q :=
  AOpl.call hd hq he ((hf H nx).mono fun r H' nx' ⟨h1, h2⟩ => by subst h1; subst h2; exact h nx')
theorem AOpl.callFG (hd : okD n d = true) (hg : gd ops e ⟨d, op, ty, pos, af, g⟩ = some true) {f : FuncId} {args : List CV} (hq : callA (rd G e) op = some (f, args)) (he : enters P f = true) {v : CV} (hf : FCall P G f args fun r => r = .ret v)
    (h : ∀ nx', AOpl P G n ops os (putE e d v) H nx' Q) : AOpl P G n ops (⟨d, op, ty, pos, af, g⟩ :: os) e H nx Q :=
  AOpl.callG hd hg hq he ((hf H nx).mono fun r H' nx' ⟨h1, h2⟩ => by subst h1; subst h2; exact h nx')
end
end Ax
end Go.Proofs.YtdjllogimomgmaaGreatDoor
