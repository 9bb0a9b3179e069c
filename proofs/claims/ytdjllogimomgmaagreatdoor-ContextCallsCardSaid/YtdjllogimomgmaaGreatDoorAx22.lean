/-
  AX: own slices that grow by rows; results weakened.
-/
import Derived.Test.YtdjllogimomgmaaGreatDoorAx21
set_option linter.unusedSimpArgs false
set_option linter.unusedVariables false
namespace Go.Proofs.YtdjllogimomgmaaGreatDoor
namespace Ax
section
variable {P : Program} {H : Heap} {nx : Nat} {t el : TypeId} {s b1 : Nat} {z : Value} {i : TI}
theorem app_row {b x n k : Nat} {cs row : List CV} (ht : ti P t = some ⟨.slice el, s, z, b1⟩) (hi : ti P el = some i) (hk : i.size = k) (hz : i.zero.cells.size = k) (hk0 : 0 < k) (hb : H b = some (.cells cs)) (hcs : cs.length = n * k)
    (hx : H x = some (.cells row)) (hrow : row.length = k) (hone : row.all CV.one = true) (hn : n < 1000000000) (hby : i.bytes ≤ 1000) : appA P H nx t t (.sl b 0 n k) (.sl x 0 1 k) = some (.sl nx 0 (n + 1) k, .mv b (.cells (cs ++ row))) := by
  have h1 : Nat.ble (0 + 1 * k) row.length = true := Nat.ble_eq_true_of_le (by omega)
  have h2 : Nat.ble (n * k) cs.length = true := Nat.ble_eq_true_of_le (by omega)
  have h3 : Nat.ble (n + 1) 9223372036854775807 = true := Nat.ble_eq_true_of_le (by omega)
  have h4 : (n + 1) * i.bytes ≤ 1000000000 * 1000 := Nat.mul_le_mul (by omega) hby
  have h5 : Nat.ble ((n + 1) * i.bytes) 140737488355328 = true := Nat.ble_eq_true_of_le (by omega)
  have h6 : Nat.blt 0 i.size = true := lt_blt (by omega)
  have h7 : Nat.beq i.zero.cells.size i.size = true := by rw [hz, hk]; exact Nat.beq_refl _
  have h8 : Nat.beq k i.size = true := by rw [hk]; exact Nat.beq_refl _
  have e1 : row.take (1 * k) = row := List.take_of_length_le (by omega)
  have e2 : cs.take (n * k) = cs := List.take_of_length_le (by omega)
  unfold appA
  simp only [ht, hi, srcD, h6, h7, Bool.and_self, srcA, hx, h8, h1, Bool.true_and, List.drop_zero, e1, hone, hb, Nat.beq_refl, h2, h3, h5, e2]
theorem app_row0 {x k : Nat} {row : List CV} (ht : ti P t = some ⟨.slice el, s, z, b1⟩) (hi : ti P el = some i) (hk : i.size = k) (hz : i.zero.cells.size = k) (hk0 : 0 < k)
    (hx : H x = some (.cells row)) (hrow : row.length = k) (hone : row.all CV.one = true) (hby : i.bytes ≤ 1000) : appA P H nx t t .nils (.sl x 0 1 k) = some (.sl nx 0 1 k, .nw (.cells row)) := by
  subst hk
  have h1 : Nat.ble (0 + 1 * i.size) row.length = true := Nat.ble_eq_true_of_le (by omega)
  have h3 : Nat.ble 1 9223372036854775807 = true := rfl
  have h5 : Nat.ble (1 * i.bytes) 140737488355328 = true := Nat.ble_eq_true_of_le (by omega)
  have h6 : Nat.blt 0 i.size = true := lt_blt (by omega)
  have h7 : Nat.beq i.zero.cells.size i.size = true := by rw [hz]; exact Nat.beq_refl _
  have e1 : row.take (1 * i.size) = row := List.take_of_length_le (by omega)
  have e0 : Nat.beq 1 0 = false := rfl
  unfold appA
  simp only [ht, hi, srcD, h6, h7, Bool.and_self, srcA, hx, Nat.beq_refl, h1, Bool.true_and, List.drop_zero, e1, hone, e0, h3, h5]
end
/-- An own list: nil, or a block of rows. -/
def OwnL {α : Type} (cv : α → List CV) (k : Nat) (H : Heap) (nx : Nat) (c : CV) (l : List α) : Prop := (l = [] ∧ c = .nils) ∨ ∃ b, c = .sl b 0 l.length k ∧ H b = some (.cells (l.flatMap cv)) ∧ b < nx
theorem OwnL.frozen {α : Type} {cv : α → List CV} {k : Nat} (hk : ∀ a, (cv a).length = k) {l : List α} : rowsOf (l.flatMap cv) 0 k l.length = l.map cv := by
  have := rowsOf_flat0 (k := k) (rows := l.map cv) (fun r hr => by obtain ⟨a, _, rfl⟩ := List.mem_map.mp hr; exact hk a)
  rw [List.length_map] at this
  rw [List.flatMap_def]; exact this
theorem flatMap_len {α : Type} {cv : α → List CV} {k : Nat} (hk : ∀ a, (cv a).length = k) (l : List α) : (l.flatMap cv).length = l.length * k := by
  induction l with
  | nil => simp
  | cons a l ih => simp only [List.flatMap_cons, List.length_append, hk, ih, List.length_cons, Nat.add_mul]; omega
/-- What an own list becomes at the end. -/
theorem OwnL.fz {α : Type} {cv : α → List CV} {k : Nat} (hk : ∀ a, (cv a).length = k) {H : Heap} {nx : Nat} {c : CV} {l : List α} (h : OwnL cv k H nx c l) {P : Program} {G : Nat → CV} {f : FuncId} {args : List CV} :
    ∀ {M : Mp} {nx' : Nat} {w : World} {e : Ending}, Rep M H nx' w → EndR M (.ret c) e → ∃ M', EndR M' (.ret (.lst (l.map cv))) e ∧ Rep M' Heap.no nx' w ∧ Fr H M nx' w Heap.no M' nx' w := by
  intro M nx' w e hr he
  rcases h with ⟨rfl, rfl⟩ | ⟨b, rfl, hb, _⟩
  · cases e <;> simp only [EndR] at he
    exact ⟨M, RV.nil_lst he, hr.weak (Sub.no _), Fr.weak (Sub.no _)⟩
  · refine Fz.sound (.step (r1 := .ret (.lst (l.map cv))) b _ hb (.ret ?_) (.done _ _ _ (Sub.no _))) hr he
    have := FV.sl (b := b) (cs := l.flatMap cv) 0 l.length k (by rw [flatMap_len hk]; omega)
    rw [OwnL.frozen hk] at this
    exact this
/-- A function that gives back an own list. -/
theorem FCall.ofBodyL {P : Program} {G : Nat → CV} {f : FuncId} {fn : Func} {c : Code} {args : List CV} {n : Nat} {α : Type} {cv : α → List CV} {k : Nat} {l : List α} (hk : ∀ a, (cv a).length = k) (hf : P.funcs[f]? = some fn) (hb : fn.body = some c) (hn : max args.length fn.ntmps = n)
    (h : ∀ nx, AWp P G n c (argE args) Heap.no nx (BodyQ P fn fun r H' nx' => ∃ c, r = .ret c ∧ OwnL cv k H' nx' c l)) : FCall P G f args fun r => r = .ret (.lst (l.map cv)) := by
  refine FCall.of fun nx => ?_
  intro M w vs g r v
  refine (ACall.of_body hf hb (hn ▸ h nx) M w vs g r v).mono ?_
  rintro e w' ⟨M1, x, H1, n1, a1, a2, a3, c, rfl, ho⟩
  obtain ⟨M2, b1, b2, b3⟩ := ho.fz hk (P := P) (G := G) (f := f) (args := args) a2 a1
  exact ⟨M2, _, Heap.no, n1, b1, b2, a3.trans b3, rfl⟩
theorem OwnL.up {α : Type} {cv : α → List CV} {k : Nat} {H : Heap} {nx nx' : Nat} {c : CV} {l : List α} (h : OwnL cv k H nx c l) (hn : nx ≤ nx') : OwnL cv k H nx' c l := by
  rcases h with h | ⟨b, h1, h2, h3⟩
  · exact .inl h
  · exact .inr ⟨b, h1, h2, by omega⟩
theorem OwnL.upd {α : Type} {cv : α → List CV} {k : Nat} {H : Heap} {nx x : Nat} {c : CV} {l : List α} {kk : CB} (h : OwnL cv k H nx c l) (hx : nx ≤ x) : OwnL cv k (Ax.upd H x kk) nx c l := by
  rcases h with h | ⟨b, h1, h2, h3⟩
  · exact .inl h
  · exact .inr ⟨b, h1, by rw [upd_miss _ _ _ _ (by omega)]; exact h2, h3⟩
section
variable {P : Program} {G : Nat → CV} {n : Nat} {e : Env} {H : Heap} {nx : Nat} {Q : AExit → Env → Heap → Nat → Prop} {ops : Array Oper} {os : List Oper} {d : Option Nat} {ty : TypeId} {pos : String} {af : Array Edge} {g : Option (Nat × Bool)}
/-- One more row for an own list. -/
theorem AOpl.appRow {α : Type} {cv : α → List CV} {k : Nat} {t el : TypeId} {s b1 : Nat} {z : Value} {i : TI} (ht : ti P t = some ⟨.slice el, s, z, b1⟩) (hi : ti P el = some i) (hk : i.size = k) (hz : i.zero.cells.size = k) (hk0 : 0 < k) (hby : i.bytes ≤ 1000)
    (hcv : ∀ a, (cv a).length = k) (hone : ∀ a, (cv a).all CV.one = true) {so xo : Operand} {c : CV} {l : List α} {x : Nat} {u : α} (hd : okD n d = true) (hg : gd ops e ⟨d, .call ⟨.builtin .append, #[so, xo], #[t, t]⟩, ty, pos, af, g⟩ = some true)
    (hs : rd G e so = c) (hx : rd G e xo = .sl x 0 1 k) (ho : OwnL cv k H nx c l) (hxb : H x = some (.cells (cv u))) (hn : l.length < 1000000000)
    (h : ∀ c' H' nx', OwnL cv k H' nx' c' (l ++ [u]) → nx ≤ nx' → (∀ b, b < nx → (∀ b', c = .sl b' 0 l.length k → b ≠ b') → H' b = H b) → AOpl P G n ops os (putE e d c') H' nx' Q) :
    AOpl P G n ops (⟨d, .call ⟨.builtin .append, #[so, xo], #[t, t]⟩, ty, pos, af, g⟩ :: os) e H nx Q := by
  have key : ∃ c' d', appA P H nx t t c (.sl x 0 1 k) = some (c', d') ∧ OwnL cv k (d'.hp H nx) (d'.nx nx) c' (l ++ [u]) ∧ nx ≤ d'.nx nx ∧ ∀ b, b < nx → (∀ b', c = .sl b' 0 l.length k → b ≠ b') → (d'.hp H nx) b = H b := by
    rcases ho with ⟨rfl, rfl⟩ | ⟨b, rfl, hb, hlt⟩
    · refine ⟨_, _, app_row0 ht hi hk hz hk0 hxb (hcv u) (hone u) hby, .inr ⟨nx, rfl, ?_, ?_⟩, by simp [Dl.nx], fun b hb _ => ?_⟩
      · simp [Dl.hp, Ax.upd]
      · simp [Dl.nx]
      · simp only [Dl.hp]; exact upd_miss _ _ _ _ (by omega)
    · refine ⟨_, _, app_row ht hi hk hz hk0 hb (flatMap_len hcv l) hxb (hcv u) (hone u) (by omega) hby, .inr ⟨nx, by simp, ?_, ?_⟩, by simp [Dl.nx], fun b' hb' hne => ?_⟩
      · simp [Dl.hp, Ax.upd, List.flatMap_append]
      · simp [Dl.nx]
      · simp only [Dl.hp]
        rw [upd_miss _ _ _ _ (by omega), drp_miss _ _ _ (hne b rfl)]
  obtain ⟨c', d', h1, h2, h3, h4⟩ := key
  refine AOpl.stepG hd hg (c := c') (H' := d'.hp H nx) (nx' := d'.nx nx) ?_ (h c' _ _ h2 h3 h4)
  simp [stepS, qstep, bltA, astep, estep, hs, hx, h1]
end
end Ax
end Go.Proofs.YtdjllogimomgmaaGreatDoor
