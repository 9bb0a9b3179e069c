/-
  AX: the closed executor: code and functions.
-/
import Derived.Test.YthjonkommphkkaaDoorJpAg
set_option linter.unusedSectionVars false
set_option linter.unusedSimpArgs false
set_option linter.unnecessarySimpa false
set_option linter.unusedVariables false
set_option linter.unusedSimpArgs false
set_option linter.unusedVariables false
namespace Go.Proofs.YthjonkommphkkaaDoor
namespace Ax
end Ax
end Go.Proofs.YthjonkommphkkaaDoor
namespace Go.Proofs.YthjonkommphkkaaDoor
namespace Ax
/-- One operation that is no call. -/
def stepS (P : Program) (G : Nat → CV) (e : Env) (H : Heap) (nx : Nat) (op : Op) : Option (CV × Heap × Nat) := match qstep P H (rd G e) op with
  | some c => some (c, H, nx)
  | none => match astep P (rd G e) nx op with
    | some (c, k) => some (c, upd H nx k, nx + 1)
    | none => match estep P H nx (rd G e) op with
      | some (c, d) => some (c, d.hp H nx, d.nx nx)
      | none => none
section
variable {P : Program} {G : Nat → CV} {n : Nat} {e : Env} {H : Heap} {nx : Nat} {Q : AExit → Env → Heap → Nat → Prop} {ops : Array Oper} {i : Nat} {l : List Nat} {o : Oper}
theorem AOps.step (ho : ops[i]? = some o) (hd : okD n o.dst = true) (hg : gd ops e o = some true) {c : CV} {H' : Heap} {nx' : Nat} (hs : stepS P G e H nx o.op = some (c, H', nx')) (h : AOps P G n ops l (putE e o.dst c) H' nx' Q) : AOps P G n ops (i :: l) e H nx Q := by
  unfold stepS at hs
  split at hs
  · rename_i c' hq; cases hs; exact AOps.quiet ho hg (okD_spec hd) hq h
  · split at hs
    · rename_i c' k hq; cases hs; exact AOps.new ho hg (okD_spec hd) hq h
    · split at hs
      · rename_i c' d hq; cases hs; exact AOps.write ho hg (okD_spec hd) hq h
      · cases hs
theorem AOps.call' (ho : ops[i]? = some o) (hd : okD n o.dst = true) (hg : gd ops e o = some true) {f : FuncId} {args : List CV} (hq : callA (rd G e) o.op = some (f, args)) (he : enters P f = true)
    (h : ACall P G f args H nx fun r H' nx' => match r with
      | .ret v => AOps P G n ops l (putE e o.dst v) H' nx' Q
      | .pan v => Q (.pan v) e H' nx') : AOps P G n ops (i :: l) e H nx Q := AOps.call ho hg (okD_spec hd) hq he h
end
/-- The operations that are left, by themselves. -/
def AOpl (P : Program) (G : Nat → CV) (n : Nat) (ops : Array Oper) (os : List Oper) (e : Env) (H : Heap) (nx : Nat) (Q : AExit → Env → Heap → Nat → Prop) : Prop := ∀ k, ops.toList.drop k = os → AOps P G n ops (List.range' k os.length) e H nx Q
section
variable {P : Program} {G : Nat → CV} {n : Nat} {e : Env} {H : Heap} {nx : Nat} {Q : AExit → Env → Heap → Nat → Prop} {ops : Array Oper} {os : List Oper}
theorem AWp.reg {id : Nat} (hl : ops.toList = os) (h : AOpl P G n ops os e H nx Q) : AWp P G n (.region id ops false) e H nx Q := by
  refine AWp.region ?_
  have := h 0 (by simpa using hl)
  rw [List.range_eq_range']
  have hs : os.length = ops.size := by rw [← hl]; simp
  rw [hs] at this
  exact this
theorem AOpl.nil (h : Q .normal e H nx) : AOpl P G n ops [] e H nx Q := fun _ _ => AOps.nil h
theorem AOpl.lift {o : Oper} {e' : Env} {H' : Heap} {nx' : Nat} (f : ∀ k, ops[k]? = some o → AOps P G n ops (List.range' (k + 1) os.length) e' H' nx' Q → AOps P G n ops (k :: List.range' (k + 1) os.length) e H nx Q) (h : AOpl P G n ops os e' H' nx' Q) : AOpl P G n ops (o :: os) e H nx Q := by
  intro k hk
  have ho : ops[k]? = some o := by
    have := congrArg List.head? hk
    simpa [List.head?_drop] using this
  have hk' : ops.toList.drop (k + 1) = os := by
    have := congrArg List.tail hk
    simpa [List.tail_drop] using this
  simp only [List.length_cons, List.range'_succ]
  exact f k ho (h (k + 1) hk')
variable {d : Option Nat} {op : Op} {ty : TypeId} {pos : String} {af : Array Edge} {g : Option (Nat × Bool)}
theorem AOpl.step (hd : okD n d = true) {c : CV} {H' : Heap} {nx' : Nat} (hs : stepS P G e H nx op = some (c, H', nx')) (h : AOpl P G n ops os (putE e d c) H' nx' Q) : AOpl P G n ops (⟨d, op, ty, pos, af, none⟩ :: os) e H nx Q :=
  AOpl.lift (fun k ho h' => AOps.step (o := ⟨d, op, ty, pos, af, none⟩) ho hd rfl hs h') h
theorem AOpl.stepG (hd : okD n d = true) (hg : gd ops e ⟨d, op, ty, pos, af, g⟩ = some true) {c : CV} {H' : Heap} {nx' : Nat} (hs : stepS P G e H nx op = some (c, H', nx')) (h : AOpl P G n ops os (putE e d c) H' nx' Q) : AOpl P G n ops (⟨d, op, ty, pos, af, g⟩ :: os) e H nx Q :=
  AOpl.lift (fun k ho h' => AOps.step (o := ⟨d, op, ty, pos, af, g⟩) ho hd hg hs h') h
theorem AOpl.callG (hd : okD n d = true) (hg : gd ops e ⟨d, op, ty, pos, af, g⟩ = some true) {f : FuncId} {args : List CV} (hq : callA (rd G e) op = some (f, args)) (he : enters P f = true)
    (h : ACall P G f args H nx fun r H' nx' => match r with
      | .ret v => AOpl P G n ops os (putE e d v) H' nx' Q
      | .pan v => Q (.pan v) e H' nx') : AOpl P G n ops (⟨d, op, ty, pos, af, g⟩ :: os) e H nx Q := by
  intro k hk
  have ho : ops[k]? = some ⟨d, op, ty, pos, af, g⟩ := by
    have := congrArg List.head? hk
    simpa [List.head?_drop] using this
  have hk' : ops.toList.drop (k + 1) = os := by
    have := congrArg List.tail hk
    simpa [List.tail_drop] using this
  simp only [List.length_cons, List.range'_succ]
  refine AOps.call' (o := ⟨d, op, ty, pos, af, g⟩) ho hd hg hq he (h.mono fun r H' nx' hr => ?_)
  cases r with
  | ret v => exact hr (k + 1) hk'
  | pan v => exact hr
theorem AOpl.call (hd : okD n d = true) {f : FuncId} {args : List CV} (hq : callA (rd G e) op = some (f, args)) (he : enters P f = true)
    (h : ACall P G f args H nx fun r H' nx' => match r with
      | .ret v => AOpl P G n ops os (putE e d v) H' nx' Q
      | .pan v => Q (.pan v) e H' nx') : AOpl P G n ops (⟨d, op, ty, pos, af, none⟩ :: os) e H nx Q := AOpl.callG hd rfl hq he h
end
theorem sliA_lo {P : Program} {H : Heap} {t e : TypeId} {s1 b1 : Nat} {z1 : Value} {i : TI} {rows : List (List CV)} {m : Nat} {kk : IntKind} (ht : ti P t = some ⟨.slice e, s1, z1, b1⟩) (he : ti P e = some i) (hall : ∀ r ∈ rows, r.length = i.size) (hm : m ≤ rows.length) :
    sliA P H t (.lst rows) (some (.int kk (m : Int))) none = some (.lst (rows.drop m)) := by
  have h1 : rows.all (fun r => Nat.beq r.length i.size) = true := by
    rw [List.all_eq_true]; intro r hr; rw [hall r hr]; exact Nat.beq_refl _
  unfold sliA
  simp only [ht, he, bnd, natOf_cast]
  rw [Nat.ble_eq_true_of_le hm, h1, Nat.ble_eq_true_of_le (Nat.le_refl _)]
  simp only [Bool.and_self]
  rw [List.take_of_length_le (by simp)]
theorem nbeq (a b : Nat) : Nat.beq a b = decide (a = b) := by
  by_cases h : a = b
  · subst h; simp
  · rw [beqF h]; simp [h]
theorem nble (a b : Nat) : Nat.ble a b = decide (a ≤ b) := by
  by_cases h : a ≤ b
  · rw [Nat.ble_eq_true_of_le h]; simp [h]
  · cases hb : Nat.ble a b with
    | true => exact absurd (Nat.le_of_ble_eq_true hb) h
    | false => simp [h]
theorem nblt (a b : Nat) : Nat.blt a b = decide (a < b) := nble (a + 1) b
/-- A contract without memory: frozen arguments, the heap is left alone. -/
def FCall (P : Program) (G : Nat → CV) (f : FuncId) (args : List CV) (Q : Res → Prop) : Prop := ∀ H nx, ACall P G f args H nx fun r H' nx' => H' = H ∧ Q r
theorem FCall.of {P : Program} {G : Nat → CV} {f : FuncId} {args : List CV} {Q : Res → Prop} (h : ∀ nx, ACall P G f args Heap.no nx fun r _ _ => Q r) : FCall P G f args Q := by
  intro H nx M w vs g r v
  refine (h nx M w vs g (r.weak (Sub.no H)) v).mono ?_
  rintro e w' ⟨M', x, H', nx', h1, h2, h3, h4⟩
  have hno : Rep M' Heap.no nx' w' := h2.weak (Sub.no _)
  have fno : Fr Heap.no M nx w Heap.no M' nx' w' := h3.trans (.weak (Sub.no _))
  obtain ⟨r1, f1⟩ := Rep.frame H r (Sub.no H) (Sub.refl H) (fun b k hb => rfl) hno fno
  have e1 : cup Heap.no H = H := by funext b; unfold cup; cases hb : H b <;> simp [Heap.no, hb]
  rw [e1] at r1 f1
  exact ⟨M', x, H, nx', h1, r1, f1, rfl, h4⟩
theorem FCall.mono {P : Program} {G : Nat → CV} {f : FuncId} {args : List CV} {Q Q' : Res → Prop} (h : FCall P G f args Q) (hq : ∀ r, Q r → Q' r) : FCall P G f args Q' := fun H nx => (h H nx).mono fun _ _ _ ⟨a, b⟩ => ⟨a, hq _ b⟩
theorem FCall.ofBody {P : Program} {G : Nat → CV} {f : FuncId} {fn : Func} {c : Code} {args : List CV} {Q : Res → Prop} {n : Nat} (hf : P.funcs[f]? = some fn) (hb : fn.body = some c) (hn : max args.length fn.ntmps = n)
    (h : ∀ nx, AWp P G n c (argE args) Heap.no nx (BodyQ P fn fun r _ _ => Q r)) : FCall P G f args Q := FCall.of fun nx => ACall.of_body hf hb (hn ▸ h nx)
section
variable {P : Program} {G : Nat → CV} {n : Nat} {e : Env} {H : Heap} {nx : Nat} {Q : AExit → Env → Heap → Nat → Prop} {ops : Array Oper} {os : List Oper}
theorem AWp.condT {c : Operand} {x y : Code} (hc : rd G e c = .bool true) (h : AWp P G n x e H nx Q) : AWp P G n (.cond c x y) e H nx Q := AWp.cond hc h
theorem AWp.condF {c : Operand} {x y : Code} (hc : rd G e c = .bool false) (h : AWp P G n y e H nx Q) : AWp P G n (.cond c x y) e H nx Q := AWp.cond hc h
variable {d : Option Nat} {op : Op} {ty : TypeId} {pos : String} {af : Array Edge} {g : Option (Nat × Bool)}
end
end Ax
end Go.Proofs.YthjonkommphkkaaDoor
namespace Go.Proofs.YthjonkommphkkaaDoor
namespace Ax
mutual
def puV : CV → Bool
  | .ptr _ _ => false
  | .sl _ _ _ _ => false
  | .mp _ => false
  | .rop cs => puL cs
  | .lst rows => puR rows
  | .fmp a b => puL a && puL b
  | .fn _ a b => puL a && puL b
  | .iface _ v => puV v
  | .agg cs => puL cs
  | .tup cs => puL cs
  | .opt _ c => puV c
  | _ => true
def puL : List CV → Bool
  | [] => true
  | c :: cs => puV c && puL cs
def puR : List (List CV) → Bool
  | [] => true
  | r :: rs => puL r && puR rs
end
theorem puL_get : ∀ {cs : List CV}, puL cs = true → ∀ j (h : j < cs.length), puV cs[j] = true
  | [], _, j, h => by simp at h
  | c :: cs, hp, j, h => by
    simp only [puL, Bool.and_eq_true] at hp
    cases j with
    | zero => exact hp.1
    | succ j => exact puL_get hp.2 j (by simpa using h)
theorem puR_get : ∀ {rs : List (List CV)}, puR rs = true → ∀ j (h : j < rs.length), puL rs[j] = true
  | [], _, j, h => by simp at h
  | c :: cs, hp, j, h => by
    simp only [puR, Bool.and_eq_true] at hp
    cases j with
    | zero => exact hp.1
    | succ j => exact puR_get hp.2 j (by simpa using h)
theorem RV.swap {M M' : Mp} (hz : ∀ g x, M.fz g = some x → M'.fz g = some x) {c : CV} {v : Value} (h : RV M c v) (hp : puV c = true) : RV M' c v := by
  induction h with
  | any v => exact .any v
  | bool b => exact .bool b
  | int k n => exact .int k n
  | str l s h => exact .str l s h
  | nilp => exact .nilp
  | ptr b o g m h => cases hp
  | rop cs g o arr T fr h hl _ ih => exact .rop cs g o arr T fr (hz _ _ h) hl (fun j a b => ih j a b (puL_get hp j a))
  | nils => exact .nils
  | sl b o n k g m c h hn hm => cases hp
  | lst0 a c => exact .lst0 a c
  | lst rows g o n k c arr T fr h hn hc hk hl _ ih => exact .lst rows g o n k c arr T fr (hz _ _ h) hn hc hk hl (fun i a j b d => ih i a j b d (puL_get (puR_get hp i a) j b))
  | nilm => exact .nilm
  | mp b g m h => cases hp
  | fmp ks vs g en clock h h1 h2 _ _ i1 i2 =>
    simp only [puV, Bool.and_eq_true] at hp
    exact .fmp ks vs g en clock (hz _ _ h) h1 h2 (fun j a b => i1 j a b (puL_get hp.1 j a)) (fun j a b => i2 j a b (puL_get hp.2 j a))
  | nilf => exact .nilf
  | fn f fs cs fs' cs' l1 l2 _ _ i1 i2 =>
    simp only [puV, Bool.and_eq_true] at hp
    exact .fn f fs cs fs' cs' l1 l2 (fun j a b => i1 j a b (puL_get hp.1 j a)) (fun j a b => i2 j a b (puL_get hp.2 j a))
  | nili => exact .nili
  | iface t x v _ ih => exact .iface t x v (ih hp)
  | agg cs vs hl _ ih => exact .agg cs vs hl (fun j a b => ih j a b (puL_get hp j a))
  | tup cs vs hl _ ih => exact .tup cs vs hl (fun j a b => ih j a b (puL_get hp j a))
  | opt g c v _ h0 ih => exact .opt g c v (fun hg => ih hg hp) h0
theorem RVs.swap {M M' : Mp} (hz : ∀ g x, M.fz g = some x → M'.fz g = some x) {cs : List CV} {vs : List Value} (h : RVs M cs vs) (hp : puL cs = true) : RVs M' cs vs :=
  ⟨h.1, fun j a b => (h.2 j a b).swap hz (puL_get hp j a)⟩
def Res.pu : Res → Bool
  | .ret v => puV v
  | .pan v => puV v
theorem EndR.swap {M M' : Mp} (hz : ∀ g x, M.fz g = some x → M'.fz g = some x) {r : Res} {e : Ending} (h : EndR M r e) (hp : r.pu = true) : EndR M' r e := by
  cases r with
  | ret v => cases e <;> simp only [EndR] at h ⊢; exact h.swap hz hp
  | pan v => cases e <;> simp only [EndR] at h ⊢; obtain ⟨z, h1, h2⟩ := h; exact ⟨z, h1, h2.swap hz hp⟩
/-- What holds with no block of one's own holds beside all blocks. -/
theorem FCall.of0 {P : Program} {G : Nat → CV} {f : FuncId} {args : List CV} {Q : Res → Prop} (hG : ∀ g, puV (G g) = true) (ha : puL args = true) (hr : ∀ r, Q r → r.pu = true) (h : ACall P G f args Heap.no 0 fun r _ _ => Q r) : FCall P G f args Q := by
  refine FCall.of fun nx => ?_
  intro M w vs g r v
  have r0 : Rep ⟨M.fz, fun _ => none⟩ Heap.no 0 w := ⟨fun _ _ h => (by cases h), fun _ _ _ _ _ _ _ h => (by cases h), fun _ _ => rfl, r.fz, fun _ _ _ _ _ _ h => (by cases h)⟩
  refine (h ⟨M.fz, fun _ => none⟩ w vs (fun x => RV.swap (M := M) (M' := ⟨M.fz, fun _ => none⟩) (fun _ _ h => h) (g x) (hG x)) r0 (RVs.swap (M := M) (M' := ⟨M.fz, fun _ => none⟩) (fun _ _ h => h) v ha)).mono ?_
  rintro e w' ⟨M1, x, H1, nx1, a1, a2, a3, a4⟩
  refine ⟨⟨M1.fz, M.bk⟩, x, Heap.no, nx, EndR.swap (M := M1) (M' := ⟨M1.fz, M.bk⟩) (fun _ _ h => h) a1 (hr x a4), ⟨fun _ _ h => (by cases h), fun _ _ _ _ _ _ _ h => (by cases h), r.fresh, a2.fz, fun _ _ _ _ _ _ h => (by cases h)⟩, ?_, a4⟩
  refine ⟨⟨fun x y h => a3.ext.fz x y h, fun _ _ h => h⟩, a3.os, a3.tape, a3.output, a3.grown, fun x hx _ => a3.kept x hx (fun ⟨_, _, _, h, _⟩ => by cases h), fun x ⟨_, _, _, h, _⟩ => (by cases h), fun _ _ => rfl, Nat.le_refl _, fun x y h => ?_⟩
  rcases a3.fzn x y h with h1 | ⟨_, _, _, h1, _⟩ | h1
  · exact .inl h1
  · cases h1
  · exact .inr (.inr h1)
def yes : Option (Res × Tr CB × Nat) → Bool
  | some (.ret (.bool b), _, _) => b
  | _ => false
/-- A closed run that returns true. -/
theorem FCall.closed {P : Program} {G : Nat → CV} {call : Call1} (hc : CallOk P G call) (hG : ∀ g, puV (G g) = true) {f : FuncId} (h : yes (call f [] .lf 0) = true) : FCall P G f [] fun r => r = .ret (.bool true) := by
  refine FCall.of0 hG rfl (fun r hr => by subst hr; rfl) ?_
  cases hx : call f [] .lf 0 with
  | none => rw [hx] at h; cases h
  | some x =>
    obtain ⟨r, h', nx'⟩ := x
    rw [hx] at h
    cases r with
    | pan v => cases h
    | ret v => cases v with
      | bool b =>
        have hb : b = true := h
        subst hb
        exact (hc _ _ _ _ _ _ _ hx).mono fun _ _ _ ⟨a, _, _⟩ => a
      | _ => cases h
end Ax
end Go.Proofs.YthjonkommphkkaaDoor
