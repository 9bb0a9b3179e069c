/-
  AX: operations that make memory, and those that write.
-/
import Derived.Test.YtdjllogimomgmaaGreatDoorJaA
import Derived.Laws.MakeOwn
import Derived.Laws.RangeString
set_option linter.unusedSimpArgs false
set_option linter.unusedVariables false
namespace Go.Proofs.YtdjllogimomgmaaGreatDoor
namespace Ax
/-! new blocks -/
def zrep (zs : List CV) (n : Nat) : List CV := (List.range n).map fun j => (zs[j % zs.length]?).getD .any
theorem zrep_sound {M : Mp} {zs : List CV} {z : Array Value} (h : RVs M zs z.toList) (n : Nat) : RVs M (zrep zs n) ((Array.range n).map (z[· % z.size]!)).toList := by
  refine ⟨by simp [zrep], fun j a b => ?_⟩
  have hl : z.size = zs.length := by have := h.1; simpa using this
  simp only [zrep, List.getElem_map, List.getElem_range, Array.toList_map, Array.toList_range]
  cases hz : zs[j % zs.length]? with
  | none => exact .any _
  | some c =>
    obtain ⟨v, hv, hr⟩ := h.at' hz
    simp only [Option.getD_some]
    have : z[j % z.size]! = v := by
      rw [hl]
      have hv' : z[j % zs.length]? = some v := by rw [← Array.getElem?_toList]; exact hv
      simp [getElem!_def, hv']
    rw [this]; exact hr
def astep (P : Program) (ρ : Operand → CV) (b : Nat) (op : Op) : Option (CV × CB) := match op with
  | .alloc t => match ti P t with
    | some i => match (ofV i.zero).cs with
      | some zs => some (.ptr b 0, .cells zs)
      | none => none
    | none => none
  | .box t x => match (ρ x).cs with
    | some l => some (.ptr b 0, .cells l)
    | none => none
  | .buildSlice t len parts => match ti P t with
    | some ⟨.slice e, _, _, _⟩ => match ti P e with
      | some i => match Nat.ble (len * i.size) 16777216 with
        | true => match (ofV i.zero).cs with
          | some zs => match fillA (fun j => some (j * i.size, i.size)) (zrep zs (len * i.size)) (parts.toList.map fun p => (p.1, ρ p.2)) with
            | some l => some (.sl b 0 len i.size, .cells l)
            | none => none
          | none => none
        | false => none
      | none => none
    | _ => none
  | .makeMap t r => match r with
    | none => some (.mp b, .map [] [])
    | some x => match ti P t with
      | some ⟨.map _ _, _, _, _⟩ => match ρ x with
        | .int _ _ => some (.mp b, .map [] [])
        | _ => none
      | _ => none
  | .makeSlice t l c => match ti P t with
    | some ⟨.slice e, _, _, _⟩ => match ti P e with
      | some i => match ρ l, ρ c with
        | .int .i64 n, .int .i64 n' => match natOf n, natOf n' with
          | some k, some k' => match Nat.beq k k' && Nat.ble (k * i.bytes) 140737488355328 && Nat.ble k 9223372036854775807 with
            | true => match (ofV i.zero).cs with
              | some zs => some (.sl b 0 k i.size, .cells (zrep zs (k * i.size)))
              | none => none
            | false => none
          | _, _ => none
        | _, _ => none
      | none => none
    | _ => none
  | .range t x => match ti P t with
    | some ⟨.string, _, _, _⟩ => match ρ x with
      | .str l => some (.ptr b 0, .iter l 0)
      | _ => none
    | _ => none
  | _ => none
theorem fill_size {place : Nat → Option (Nat × Nat)} : ∀ {qs : List (Nat × Value)} {arr arr' : Array Value}, Instr.fill place arr qs = some arr' → arr'.size = arr.size
  | [], arr, arr', h => by cases h; rfl
  | (i, v) :: qs, arr, arr', h => by
    unfold Instr.fill at h
    split at h
    · cases h
    · split at h
      · cases h
      · rw [fill_size h]
        have : ∀ (l : List (Value × Nat)) (off : Nat) (a : Array Value), (l.foldl (fun cs (x : Value × Nat) => cs.setIfInBounds (off + x.2) x.1) a).size = a.size := by
          intro l off
          induction l with
          | nil => intro a; rfl
          | cons x l ih => intro a; rw [List.foldl_cons, ih]; simp
        rw [← Array.foldl_toList]
        exact this _ _ _
theorem astep_sound {P : Program} {ρ : Operand → CV} {o : Oper} {b : Nat} {c : CV} {k : CB} {M : Mp} {w : World} {σ : Operand → Value} (h : astep P ρ b o.op = some (c, k)) (hb : M.bk b = none) (hρ : ∀ x ∈ o.op.operands, RV M (ρ x) (σ x)) :
    ∃ z obj m w', (execOp σ o).run P w = .ok (.value z) w' ∧ w'.heap = w.heap.push obj ∧ w'.os = w.os ∧ w'.tape = w.tape ∧ w'.output = w.output ∧
      RB (updM M b (w.heap.size, m)) w' w.heap.size m k ∧ RV (updM M b (w.heap.size, m)) c z := by
  have he : ∀ m, Ext M (updM M b (w.heap.size, m)) := fun m => Ext.updM hb
  have new : ∀ (arr : Array Value) (T : TypeId) (l : List CV), RVs M l arr.toList → RB (updM M b (w.heap.size, arr.size)) { w with heap := w.heap.push (.cells arr T) } w.heap.size arr.size (.cells l) := by
    intro arr T l hl
    refine ⟨arr, T, by simp, rfl, ?_⟩
    have : l.length = arr.toList.length := hl.1.symm
    rw [this, List.take_length]; exact hl.ext (he _)
  unfold astep at h
  split at h
  · rename_i t hop
    split at h
    case h_2 => cases h
    rename_i i hti
    split at h
    case h_2 => cases h
    rename_i zs hzs
    cases h
    refine ⟨.pointer (some ⟨w.heap.size, 0, none⟩), .cells i.zero.cells t, i.zero.cells.size, { w with heap := w.heap.push (.cells i.zero.cells t) }, ?_, rfl, rfl, rfl, rfl, new _ _ _ ((RV.ofV M i.zero).cs hzs), .ptr _ _ _ _ (updM_hit _ _ _)⟩
    simp [execOp, hop, Instr.alloc, ti_zero hti, newVar, newRow]
  · rename_i t x hop
    split at h
    case h_2 => cases h
    rename_i l hl
    cases h
    have hx := hρ x (by simp [hop, Op.operands])
    refine ⟨.pointer (some ⟨w.heap.size, 0, none⟩), .cells (σ x).cells t, (σ x).cells.size, { w with heap := w.heap.push (.cells (σ x).cells t) }, ?_, rfl, rfl, rfl, rfl, new _ _ _ (hx.cs hl), .ptr _ _ _ _ (updM_hit _ _ _)⟩
    simp [execOp, hop, Instr.box, newVar, newRow]
  · rename_i t len parts hop
    split at h
    case h_2 => cases h
    rename_i e _ _ _ ht
    split at h
    case h_2 => cases h
    rename_i i hti
    split at h
    case h_2 => cases h
    rename_i hle
    have hle' := Nat.le_of_ble_eq_true hle
    split at h
    case h_2 => cases h
    rename_i zs hzs
    split at h
    case h_2 => cases h
    rename_i l hl
    cases h
    have hp : RParts M (parts.toList.map fun p => (p.1, ρ p.2)) (parts.map fun p => (p.1, σ p.2)).toList := by
      refine ⟨by simp [Function.comp_def], ?_⟩
      simp only [Array.toList_map, List.map_map, Function.comp_def]
      have := RVs.map (M := M) (ρ := ρ) (σ := σ) (l := parts.toList.map (·.2)) (fun x hx => hρ x (by simpa [hop, Op.operands] using hx))
      simpa [List.map_map, Function.comp_def] using this
    have hz0 := (RV.ofV M i.zero).cs hzs
    by_cases hz : len * i.size = 0
    · obtain ⟨arr', e1, e2⟩ := fillA_sound (arr := ((Array.range (len * i.size)).map ((#[] : Array Value)[· % (#[] : Array Value).size]!))) hl hp (by
        rw [hz]; exact ⟨by simp [zrep], fun j a => by simp [zrep] at a⟩)
      have hsz := fill_size e1
      refine ⟨.slice (some ⟨w.heap.size, 0, none⟩) len len, .cells arr' e, arr'.size, { w with heap := w.heap.push (.cells arr' e) }, ?_, rfl, rfl, rfl, rfl, new _ _ _ e2, .sl _ _ _ _ _ _ len (updM_hit _ _ _) (Nat.le_refl _) (by simp at hsz; omega)⟩
      simp only [execOp, hop, Sem.run_bind, Instr.buildSlice, ti_und ht, Result.andThen_ok, ti_size hti]
      have hn : ¬ (len * i.size > 2 ^ 24) := by omega
      rw [if_neg hn, if_pos hz]
      simp only [Sem.run_bind, Sem.run_pure, Result.andThen_ok, e1, newRow, run_newObj]
    · obtain ⟨arr', e1, e2⟩ := fillA_sound (arr := ((Array.range (len * i.size)).map (i.zero.cells[· % i.zero.cells.size]!))) hl hp (zrep_sound hz0 _)
      have hsz := fill_size e1
      refine ⟨.slice (some ⟨w.heap.size, 0, none⟩) len len, .cells arr' e, arr'.size, { w with heap := w.heap.push (.cells arr' e) }, ?_, rfl, rfl, rfl, rfl, new _ _ _ e2, .sl _ _ _ _ _ _ len (updM_hit _ _ _) (Nat.le_refl _) (by simp at hsz; omega)⟩
      simp only [execOp, hop, Sem.run_bind, Instr.buildSlice, ti_und ht, Result.andThen_ok, ti_size hti]
      have hn : ¬ (len * i.size > 2 ^ 24) := by omega
      rw [if_neg hn, if_neg hz]
      simp only [Sem.run_bind, ti_zero hti, Sem.run_pure, Result.andThen_ok, e1, newRow, run_newObj]
  · rename_i t r hop
    have fin : RB (updM M b (w.heap.size, 0)) { w with heap := w.heap.push (.map #[] 0) } w.heap.size 0 (.map [] []) := ⟨#[], 0, by simp, .nil, .nil⟩
    split at h
    · cases h
      refine ⟨.map (some w.heap.size), .map #[] 0, 0, { w with heap := w.heap.push (.map #[] 0) }, ?_, rfl, rfl, rfl, rfl, fin, .mp _ _ _ (updM_hit _ _ _)⟩
      simp [execOp, hop, Instr.makeMap]
    · rename_i x
      split at h
      case h_2 => cases h
      rename_i ht
      split at h
      case h_2 => cases h
      rename_i hx
      cases h
      have hx' := hρ x (by simp [hop, Op.operands])
      rw [hx] at hx'
      generalize hv : σ x = v at hx'
      cases hx'
      refine ⟨.map (some w.heap.size), .map #[] 0, 0, { w with heap := w.heap.push (.map #[] 0) }, ?_, rfl, rfl, rfl, rfl, fin, .mp _ _ _ (updM_hit _ _ _)⟩
      simp [execOp, hop, Instr.makeMap, ti_und ht, hv, asInt, asIntOf]
  · rename_i t l cc hop
    split at h
    case h_2 => cases h
    rename_i e _ _ _ ht
    split at h
    case h_2 => cases h
    rename_i i hti
    split at h
    case h_2 => cases h
    rename_i n n' hl hc
    split at h
    case h_2 => cases h
    rename_i q q' hq hq'
    split at h
    case h_2 => cases h
    rename_i hbb
    split at h
    case h_2 => cases h
    rename_i zs hzs
    cases h
    simp only [Bool.and_eq_true] at hbb
    have h1 := beq_eq hbb.1.1
    have h2 := Nat.le_of_ble_eq_true hbb.1.2
    have h3 := Nat.le_of_ble_eq_true hbb.2
    subst h1
    have e1 := natOf_spec hq
    have e2 := natOf_spec hq'
    subst e1; subst e2
    have hl' := hρ l (by simp [hop, Op.operands])
    have hc' := hρ cc (by simp [hop, Op.operands])
    rw [hl] at hl'; rw [hc] at hc'
    generalize hv : σ l = v at hl'
    generalize hu : σ cc = u at hc'
    cases hl'; cases hc'
    obtain ⟨_, f, hf, hs, hz, hby⟩ := ti_spec hti
    have hz0 := (RV.ofV M i.zero).cs hzs
    have t1 : (f.bytes : Int) * (q : Int) ≤ 281474976710656 := by
      rw [hby, Int.mul_comm, ← Int.natCast_mul]
      generalize q * i.bytes = X at h2
      omega
    have hrun := run_make (P := P) w t e f i.zero (ti_spec ht).1 hf hz .i64 .i64 q q (by omega) (Int.le_refl _) t1 (by omega)
    simp only [Int.toNat_natCast, hs] at hrun
    have hsz : (madeCells i.zero.cells (q * i.size)).size = q * i.size := size_madeCells _ _
    refine ⟨.slice (some ⟨w.heap.size, 0, none⟩) q q, .cells (madeCells i.zero.cells (q * i.size)) e, (madeCells i.zero.cells (q * i.size)).size, { w with heap := w.heap.push (.cells (madeCells i.zero.cells (q * i.size)) e) }, ?_, rfl, rfl, rfl, rfl, new _ e _ (zrep_sound hz0 _), .sl _ _ _ _ _ _ q (updM_hit _ _ _) (Nat.le_refl _) (by rw [hsz]; omega)⟩
    simp only [execOp, hop, Sem.run_bind, hv, hu, hrun, Result.andThen_ok, Sem.run_pure]
    rfl
  · rename_i t x hop
    split at h
    case h_2 => cases h
    rename_i ht
    split at h
    case h_2 => cases h
    rename_i l hx
    cases h
    have hx' := hρ x (by simp [hop, Op.operands])
    rw [hx] at hx'
    generalize hv : σ x = v at hx'
    cases hx' with
    | str _ s hs =>
    refine ⟨.pointer (some ⟨w.heap.size, 0, none⟩), .stringIter s 0, 0, w.iter s 0, ?_, rfl, rfl, rfl, rfl, ⟨s, by simp [World.iter_heap], hs⟩, .ptr _ _ _ _ (updM_hit _ _ _)⟩
    simp only [execOp, hop, Sem.run_bind, hv, run_range_string w t s (ti_spec ht).1, Result.andThen_ok, Sem.run_pure]
  · cases h
end Ax
end Go.Proofs.YtdjllogimomgmaaGreatDoor
namespace Go.Proofs.YtdjllogimomgmaaGreatDoor
namespace Ax
theorem oneV_oneCell {v : Value} (h : oneV v = true) : v.oneCell' = true := by cases v <;> first | rfl | (simp [oneV] at h)
/-- What became of the heap. -/
inductive Dl where
  | no
  | set (b : Nat) (k : CB)
  | mv (b : Nat) (k : CB)
  | nw (k : CB)
def Dl.hp (H : Heap) (nx : Nat) : Dl → Heap
  | .no => H
  | .set b k => upd H b k
  | .mv b k => upd (drp H b) nx k
  | .nw k => upd H nx k
def Dl.nx (nx : Nat) : Dl → Nat
  | .no => nx
  | .set _ _ => nx
  | .mv _ _ => nx + 1
  | .nw _ => nx + 1
/-- A step that writes went well. -/
def EOk (P : Program) (H : Heap) (M : Mp) (nx : Nat) (w : World) (s : Sem Next) (c : CV) (d : Dl) : Prop :=
  ∃ M' w', ((∃ z, s.run P w = .ok (.value z) w' ∧ RV M' c z) ∨ (s.run P w = .ok .skip w' ∧ c = .any)) ∧ Rep M' (d.hp H nx) (d.nx nx) w' ∧ Fr H M nx w (d.hp H nx) M' (d.nx nx) w'
/-! stores -/
theorem seg_take {α : Type} (A vs : List α) (o q n : Nat) (hA : n ≤ A.length) (hq : vs.length = q) (hn : o + q ≤ n) :
    (A.take o ++ vs ++ A.drop (o + q)).take n = (A.take n).take o ++ vs ++ (A.take n).drop (o + q) := by
  have hl : (A.take o ++ vs).length = o + q := by simp; omega
  rw [List.take_append, hl, List.take_of_length_le (by omega), List.drop_take, List.take_take, Nat.min_eq_left (by omega)]
theorem cells_write {M : Mp} {H : Heap} {nx : Nat} {w : World} (r : Rep M H nx w) {b g m o : Nat} {cs l : List CV} {arr : Array Value} {T : TypeId} {vs : List Value} (hb : H b = some (.cells cs)) (hm : M.bk b = some (g, m)) (ha : w.heap[g]? = some (.cells arr T (0, 0)))
    (hs : arr.size = m) (hr : RVs M cs (arr.toList.take cs.length)) (hv : RVs M l vs) (hle : o + l.length ≤ cs.length) :
    Rep M (upd H b (.cells (cs.take o ++ l ++ cs.drop (o + l.length)))) nx (w.setRow g (arr.toList.take o ++ vs ++ arr.toList.drop (o + vs.length)).toArray) ∧
    Fr H M nx w (upd H b (.cells (cs.take o ++ l ++ cs.drop (o + l.length)))) M nx (w.setRow g (arr.toList.take o ++ vs ++ arr.toList.drop (o + vs.length)).toArray) := by
  have hvl : vs.length = l.length := hv.1
  have hcl : cs.length ≤ arr.size := by have := hr.1; simp at this; omega
  refine r.write b _ _ g m hb hm (setRow_size _ _ _) (fun x hx => setRow_other w g x _ hx) rfl rfl rfl ⟨_, T, setRow_heap w g arr _ T _ ha, ?_, ?_⟩
  · simp; omega
  · have hlen : (cs.take o ++ l ++ cs.drop (o + l.length)).length = cs.length := by simp; omega
    rw [hlen, hvl]
    rw [seg_take arr.toList vs o l.length cs.length (by simp; omega) hvl hle]
    exact ((hr.take o).append hv).append (hr.drop _)
def storeA (P : Program) (H : Heap) (t : TypeId) (a x : CV) : Option (CV × Dl) := match a with
  | .ptr b o => match H b with
    | some (.cells cs) => match ti P t with
      | some i => match x.cs with
        | some l => match Nat.beq l.length i.size && l.all CV.one && Nat.ble (o + l.length) cs.length with
          | true => some (.any, .set b (.cells (cs.take o ++ l ++ cs.drop (o + l.length))))
          | false => none
        | none => none
      | none => none
    | _ => none
  | _ => none
theorem storeA_sound {P : Program} {H : Heap} {M : Mp} {nx : Nat} {w : World} {t : TypeId} {a x c : CV} {d : Dl} {av xv : Value} (h : storeA P H t a x = some (c, d)) (r : Rep M H nx w) (ha : RV M a av) (hx : RV M x xv) :
    EOk P H M nx w (do Instr.storeAt t av xv; pure .skip) c d := by
  unfold storeA at h
  split at h
  case h_2 => cases h
  rename_i b o
  split at h
  case h_2 => cases h
  rename_i cs hb
  split at h
  case h_2 => cases h
  rename_i i hti
  split at h
  case h_2 => cases h
  rename_i l hl
  split at h
  case h_2 => cases h
  rename_i hc
  cases h
  simp only [Bool.and_eq_true] at hc
  have h1 := beq_eq hc.1.1
  have h2 := hc.1.2
  have h3 := Nat.le_of_ble_eq_true hc.2
  cases ha with
  | ptr _ _ g m hm =>
    obtain ⟨g', m', hm', arr, T, hw, hs, hr⟩ := r.blk b _ hb
    rw [hm] at hm'; cases hm'
    have hv := hx.cs hl
    have hcl : cs.length ≤ arr.size := by have := hr.1; simp at this; omega
    have hvl : xv.cells.toList.length = l.length := hv.1
    have hst := run_storeCells_at P g o T xv.cells.toList 0 arr w hw (by omega) (fun v hv' => oneV_oneCell (hv.oneV h2 v hv'))
    obtain ⟨r', f'⟩ := cells_write r hb hm hw hs hr hv h3
    refine ⟨M, _, .inr ⟨?_, rfl⟩, r', f'⟩
    have hsz : xv.cells.size = i.size := by simp at hvl; omega
    simp only [Instr.storeAt, Instr.sureAddr, storeVar, Sem.run_bind, Sem.run_pure, Result.andThen_ok, ti_size hti, hsz, ne_eq, not_true_eq_false, if_false]
    rw [hst]
    simp
/-! sources of append and copy -/
def srcA (H : Heap) (size : Nat) (x : CV) : Option (Nat × List CV) := match x with
  | .nils => some (0, [])
  | .lst rows => match rows.all (fun r => Nat.beq r.length size) with
    | true => some (rows.length, rows.flatten)
    | false => none
  | .sl b o n k => match H b with
    | some (.cells cs) => match Nat.beq k size && Nat.ble (o + n * k) cs.length with
      | true => some (n, (cs.drop o).take (n * k))
      | false => none
    | _ => none
  | .str l => match Nat.beq size 1 with
    | true => some (l.length, l.map fun b => .int .u8 b.toNat)
    | false => none
  | _ => none
theorem flat_rvs {M : Mp} {arr : Array Value} {k : Nat} : ∀ {rows : List (List CV)} {o : Nat}, (∀ r ∈ rows, r.length = k) → o + rows.length * k ≤ arr.size →
    (∀ i (a : i < rows.length) j (b : j < rows[i].length) (d : o + i * k + j < arr.size), RV M rows[i][j] arr[o + i * k + j]) → RVs M rows.flatten ((arr.toList.drop o).take (rows.length * k))
  | [], o, _, _, _ => by simpa using RVs.nil
  | r :: rows, o, hk, hl, hr => by
    have hrk : r.length = k := hk r (by simp)
    have hmul : (rows.length + 1) * k = k + rows.length * k := by rw [Nat.add_mul]; omega
    simp only [List.length_cons] at hl ⊢
    rw [hmul] at hl ⊢
    rw [List.take_add, List.flatten_cons]
    refine RVs.append ⟨by simp; omega, fun j a b => ?_⟩ ?_
    · have := hr 0 (by simp) j (by simpa using a) (by simp; omega)
      simpa using this
    · rw [List.drop_drop]
      refine flat_rvs (fun r' hm => hk r' (by simp [hm])) (by omega) (fun i a j b d => ?_)
      have h2 : o + (i + 1) * k + j = o + k + i * k + j := by rw [Nat.add_mul]; omega
      have := hr (i + 1) (by simpa using a) j (by simpa using b) (by omega)
      simpa [h2] using this
theorem run_fc {P : Program} {w : World} {g o n k c : Nat} {arr : Array Value} {T : TypeId} {fr : Nat × Nat} (h : w.heap[g]? = some (.cells arr T fr)) (hl : o + n * k ≤ arr.size) :
    (Builtin.firstCells k n (.slice (some ⟨g, o, none⟩) n c)).run P w = .ok ((arr.toList.drop o).take (n * k)).toArray w :=
  run_firstCells_some w k n ⟨g, o, none⟩ n c _ (by simp; omega) (fun j v hj => by
    rw [cell_at h]
    rw [List.getElem?_take] at hj
    split at hj
    · simpa using hj
    · cases hj)
theorem srcA_sound {P : Program} {H : Heap} {M : Mp} {nx : Nat} {w : World} {size : Nat} {x : CV} {v : Value} {m : Nat} {cs : List CV} (h : srcA H size x = some (m, cs)) (r : Rep M H nx w) (hx : RV M x v) :
    ∃ news : List Value, news.length = m * size ∧ RVs M cs news ∧ ∀ w', w'.heap = w.heap → (Builtin.lenOf v).run P w' = .ok m w' ∧ (Builtin.firstCells size m v).run P w' = .ok news.toArray w' := by
  unfold srcA at h
  split at h
  · cases h; cases hx; exact ⟨[], by simp, .nil, fun w' _ => ⟨by simp [Builtin.lenOf], by simp [Builtin.firstCells]⟩⟩
  · rename_i rows
    split at h
    case h_2 => cases h
    rename_i hall
    cases h
    cases hx with
    | lst0 a c => exact ⟨[], by simp, .nil, fun w' _ => ⟨by simp [Builtin.lenOf], by cases a <;> simp [Builtin.firstCells, loadCells, loadCellsFrom]⟩⟩
    | lst _ g o n k c arr T fr hg hn hc hk hl hr =>
      subst hn
      by_cases he : rows = []
      · subst he
        exact ⟨[], by simp, .nil, fun w' _ => ⟨by simp [Builtin.lenOf], by simp [Builtin.firstCells, loadCells, loadCellsFrom]⟩⟩
      · have hks : k = size := by
          obtain ⟨r0, hr0⟩ := List.exists_mem_of_ne_nil _ he
          rw [← beq_eq (List.all_eq_true.mp hall r0 hr0)]; exact (hk r0 hr0).symm
        subst hks
        refine ⟨_, by simp; omega, flat_rvs hk hl hr, fun w' hw => ⟨by simp [Builtin.lenOf], run_fc (by rw [hw]; exact r.fz g _ hg) hl⟩⟩
  · rename_i b o n k
    split at h
    case h_2 => cases h
    rename_i ds hb
    split at h
    case h_2 => cases h
    rename_i hc
    cases h
    simp only [Bool.and_eq_true] at hc
    have h1 := beq_eq hc.1
    have h2 := Nat.le_of_ble_eq_true hc.2
    subst h1
    cases hx with
    | sl _ _ _ _ g m' c hm hn hm' =>
      obtain ⟨g', m'', hm'', arr, T, ha, hs, hr⟩ := r.blk b _ hb
      rw [hm] at hm''; cases hm''
      have hlen : ds.length ≤ arr.size := by have := hr.1; simp at this; omega
      refine ⟨(arr.toList.drop o).take (m * k), by simp; omega, ?_, fun w' hw => ⟨by simp [Builtin.lenOf], run_fc (by rw [hw]; exact ha) (by omega)⟩⟩
      have := (hr.drop o).take (m * k)
      rw [List.drop_take, List.take_take, Nat.min_eq_left (by omega)] at this
      exact this
  · rename_i l
    split at h
    case h_2 => cases h
    rename_i hc
    have h1 := beq_eq hc
    subst h1
    cases h
    cases hx with
    | str _ s hs =>
      subst hs
      refine ⟨s.data.toList.map fun b => .int .u8 b.toNat, by simp, ⟨by simp, fun j a b => ?_⟩, fun w' _ => ⟨by simp [Builtin.lenOf, data_len], ?_⟩⟩
      · simp only [List.getElem_map]; exact .int _ _
      · simp only [Builtin.firstCells, Sem.run_pure]
        congr 1
        apply Array.ext'
        rw [Array.toList_map, Lib.extract_data]
        simp only [List.drop_zero, Nat.sub_zero, List.take_length]
  · cases h
def srcD : TypeDesc → Bool
  | .slice _ => true
  | .string => true
  | _ => false
theorem srcD_cases {d : TypeDesc} (h : srcD d = true) : (∃ e, d = .slice e) ∨ d = .string := by
  cases d <;> first | exact .inl ⟨_, rfl⟩ | exact .inr rfl | (simp [srcD] at h)
theorem run_app_room {P : Program} {w : World} {t t' ty e : TypeId} {i : TI} {d' : TypeDesc} {g n cap m : Nat} {cur : Array Value} {T : TypeId} {x : Value} {news : List Value} (ht : P.underlying t = some (.slice e)) (ht' : P.underlying t' = some d') (hd : srcD d' = true)
    (hi : ti P e = some i) (hl : (Builtin.lenOf x).run P w = .ok m w) (hf : (Builtin.firstCells i.size m x).run P w = .ok news.toArray w) (hg : w.heap[g]? = some (.cells cur T (0, 0))) (h1 : ∀ u ∈ news, u.oneCell' = true)
    (hroom : n + m ≤ cap) (hfit : n * i.size + news.length ≤ cur.size) :
    (Builtin.append_ #[t, t'] ty #[.slice (some ⟨g, 0, none⟩) n cap, x]).run P w =
      .ok (.slice (some ⟨g, 0, none⟩) (n + m) cap) (w.setRow g (cur.toList.take (n * i.size) ++ news ++ cur.toList.drop (n * i.size + news.length)).toArray) := by
  have hst := run_storeCells_at P g (n * i.size) T news 0 cur w hg (by simpa using hfit) h1
  simp only [Nat.add_zero] at hst
  rcases srcD_cases hd with ⟨e', rfl⟩ | rfl
  · simp [Builtin.append_, run_underlying ht, run_underlying ht', ti_size hi, hl, hroom, hf, addr_add, hst]
  · simp [Builtin.append_, run_underlying ht, run_underlying ht', ti_size hi, hl, hroom, hf, addr_add, hst]
theorem run_app_grow {P : Program} {w : World} {t t' ty e : TypeId} {i : TI} {d' : TypeDesc} {n cap m : Nat} {x : Value} {base : Option Addr} {olds news : List Value} (ht : P.underlying t = some (.slice e)) (ht' : P.underlying t' = some d') (hd : srcD d' = true)
    (hi : ti P e = some i) (hl : (Builtin.lenOf x).run P w = .ok m w) (hf : (Builtin.firstCells i.size m x).run P w.drew = .ok news.toArray w.drew) (ho : (Builtin.firstCells i.size n (.slice base n cap)).run P w.drew = .ok olds.toArray w.drew)
    (hg : cap < n + m) (h63 : n + m ≤ 9223372036854775807) (hfit : (n + m) * i.bytes ≤ 140737488355328) :
    (Builtin.append_ #[t, t'] ty #[.slice base n cap, x]).run P w =
      .ok (.slice (some ⟨w.heap.size, 0, none⟩) (n + m) (grownCap w (n + m) cap e)) (w.drew.alloc (.cells (olds.toArray ++ news.toArray ++ Builtin.zeroCells i.zero.cells (grownCap w (n + m) cap e - (n + m))) e)) := by
  have hn : ¬ (n + m ≤ cap) := by omega
  have h63' : ¬ (9223372036854775807 < ((n : Int) + (m : Int))) := by omega
  have h48 := growslice_fits hg hfit
  have h48' : ¬ (281474976710656 < Builtin.nextslicecap (n + m) cap * i.bytes) := by omega
  obtain ⟨_, f, hf', _, hz, hby⟩ := ti_spec hi
  rcases srcD_cases hd with ⟨e', rfl⟩ | rfl
  · simp [Builtin.append_, run_underlying ht, run_underlying ht', ti_size hi, hl, hn, h63', h48', typeInfo, hf', hby, Question.forced, hf, ho, newRow, grownCap, ti_zero hi]
    congr 2
    apply Array.ext'
    simp [List.append_assoc]
  · simp [Builtin.append_, run_underlying ht, run_underlying ht', ti_size hi, hl, hn, h63', h48', typeInfo, hf', hby, Question.forced, hf, ho, newRow, grownCap, ti_zero hi]
    congr 2
    apply Array.ext'
    simp [List.append_assoc]
theorem grow_ok {M : Mp} {H H1 : Heap} {nx : Nat} {w : World} (r : Rep M H nx w) (s : Sub H1 H) (vs : List Value) (rest : Array Value) (T : TypeId) (l : List CV) (hl : RVs M l vs) :
    Rep (updM M nx (w.heap.size, (vs.toArray ++ rest).size)) (upd H1 nx (.cells l)) (nx + 1) (w.drew.alloc (.cells (vs.toArray ++ rest) T)) ∧
    Fr H M nx w (upd H1 nx (.cells l)) (updM M nx (w.heap.size, (vs.toArray ++ rest).size)) (nx + 1) (w.drew.alloc (.cells (vs.toArray ++ rest) T)) := by
  have hfree : M.bk nx = none := r.fresh nx (Nat.le_refl _)
  have hobj : (vs.toArray ++ rest).toList.take l.length = vs := by
    have : l.length = vs.length := hl.1.symm
    rw [this]; simp
  have hRB : RB (updM M nx (w.heap.size, (vs.toArray ++ rest).size)) (w.drew.alloc (.cells (vs.toArray ++ rest) T)) w.heap.size (vs.toArray ++ rest).size (.cells l) :=
    ⟨_, T, by show (w.heap.push _)[w.heap.size]? = _; simp, rfl, by rw [hobj]; exact hl.ext (Ext.updM hfree)⟩
  exact ⟨(r.weak s).new nx (.cells l) _ (.cells (vs.toArray ++ rest) T) hfree (Nat.le_succ nx) (Nat.lt_succ_self nx) rfl hRB, Fr.new nx (.cells l) _ (.cells (vs.toArray ++ rest) T) hfree (Nat.le_refl _) (Nat.le_succ nx) s rfl rfl rfl rfl⟩
def appA (P : Program) (H : Heap) (nx : Nat) (t t' : TypeId) (s x : CV) : Option (CV × Dl) := match ti P t with
  | some ⟨.slice e, _, _, _⟩ => match ti P e with
    | some i => match ti P t' with
      | some j => match srcD j.und && Nat.blt 0 i.size && Nat.beq i.zero.cells.size i.size with
        | false => none
        | true => match srcA H i.size x with
          | some (m, l) => match l.all CV.one with
            | true => match s with
              | .nils => match Nat.beq m 0 with
                | true => some (.nils, .no)
                | false => match Nat.ble m 9223372036854775807 && Nat.ble (m * i.bytes) 140737488355328 with
                  | true => some (.sl nx 0 m i.size, .nw (.cells l))
                  | false => none
              | .sl b o n k => match H b with
                | some (.cells cs) => match Nat.beq o 0 && Nat.beq k i.size && Nat.ble (n * k) cs.length && Nat.ble (n + m) 9223372036854775807 && Nat.ble ((n + m) * i.bytes) 140737488355328 with
                  | true => some (.sl nx 0 (n + m) k, .mv b (.cells (cs.take (n * k) ++ l)))
                  | false => none
                | _ => none
              | _ => none
            | false => none
          | none => none
      | none => none
    | none => none
  | _ => none
theorem appA_sound {P : Program} {H : Heap} {M : Mp} {nx : Nat} {w : World} {t t' ty : TypeId} {s x c : CV} {d : Dl} {sv xv : Value} (h : appA P H nx t t' s x = some (c, d)) (r : Rep M H nx w) (hs : RV M s sv) (hx : RV M x xv) :
    EOk P H M nx w (do pure (.value (← Builtin.append_ #[t, t'] ty #[sv, xv]))) c d := by
  unfold appA at h
  split at h
  case h_2 => cases h
  rename_i e _ _ _ ht
  split at h
  case h_2 => cases h
  rename_i i hi
  split at h
  case h_2 => cases h
  rename_i j hj
  split at h
  · cases h
  rename_i hij
  simp only [Bool.and_eq_true] at hij
  have hsz : 0 < i.size := blt_lt hij.1.2
  have hzs := beq_eq hij.2
  split at h
  case h_2 => cases h
  rename_i m l hsrc
  split at h
  case h_2 => cases h
  rename_i hone
  obtain ⟨news, hnl, hnr, hrun⟩ := srcA_sound (P := P) hsrc r hx
  have h1 : ∀ u ∈ news, u.oneCell' = true := fun u hu => oneV_oneCell (hnr.oneV hone u hu)
  obtain ⟨hu, f, hf, hfs, hfz, hfb⟩ := ti_spec hi
  have hzl : ∀ q, (Builtin.zeroCells i.zero.cells q).size = q * i.zero.cells.size := fun q => by simp [Builtin.zeroCells]
  have hll : l.length = m * i.size := by rw [← hnl]; exact hnr.1.symm
  have hfree : M.bk nx = none := r.fresh nx (Nat.le_refl _)
  split at h
  · split at h
    · rename_i hm
      have hm' := beq_eq hm
      subst hm'
      cases h
      cases hs
      have : news = [] := List.eq_nil_of_length_eq_zero (by simpa using hnl)
      subst this
      refine ⟨M, w, .inl ⟨.slice none 0 0, ?_, .nils⟩, r, .refl _ _ _ _⟩
      have e1 := (hrun w rfl).1
      have e2 := (hrun w rfl).2
      have hu' := (ti_spec hj).1
      rcases srcD_cases hij.1.1 with ⟨e', hju⟩ | hju
      · rw [hju] at hu'; simp [Builtin.append_, run_underlying (ti_spec ht).1, run_underlying hu', ti_size hi, e1, e2]
      · rw [hju] at hu'; simp [Builtin.append_, run_underlying (ti_spec ht).1, run_underlying hu', ti_size hi, e1, e2]
    · rename_i hm
      split at h
      case h_2 => cases h
      rename_i hb
      cases h
      simp only [Bool.and_eq_true] at hb
      have hb1 := Nat.le_of_ble_eq_true hb.1
      have hb2 := Nat.le_of_ble_eq_true hb.2
      have hm0 : m ≠ 0 := fun e => by rw [e] at hm; simp at hm
      cases hs
      have hr := run_app_grow (P := P) (w := w) (ty := ty) (n := 0) (cap := 0) (base := none) (olds := []) (ti_spec ht).1 (ti_spec hj).1 hij.1.1 hi (hrun w rfl).1 (hrun w.drew rfl).2 (by simp [Builtin.firstCells]) (by omega) (by omega) (by simpa using hb2)
      simp only [Nat.zero_add, List.append_toArray, List.nil_append] at hr
      have hge := grownCap_ge w m 0 e
      obtain ⟨hrep, hfr⟩ := grow_ok r (Sub.refl H) news (Builtin.zeroCells i.zero.cells (grownCap w m 0 e - m)) e l hnr
      refine ⟨_, _, .inl ⟨_, by rw [Sem.run_bind, hr]; rfl, ?_⟩, hrep, hfr⟩
      refine .sl _ _ _ _ _ _ _ (updM_hit _ _ _) hge ?_
      simp only [Array.size_append, List.size_toArray, hzl, hzs, hnl, ← Nat.add_mul]
      rw [Nat.zero_add]; exact Nat.mul_le_mul_right _ (by omega)
  · rename_i b o n k
    split at h
    case h_2 => cases h
    rename_i cs hb
    split at h
    case h_2 => cases h
    rename_i hc
    cases h
    simp only [Bool.and_eq_true] at hc
    have c1 := beq_eq hc.1.1.1.1
    have c2 := beq_eq hc.1.1.1.2
    have c3 := Nat.le_of_ble_eq_true hc.1.1.2
    have c4 := Nat.le_of_ble_eq_true hc.1.2
    have c5 := Nat.le_of_ble_eq_true hc.2
    subst c1; subst c2
    cases hs with
    | sl _ _ _ _ g q cap hm hn hm' =>
      obtain ⟨g', q', hm'', arr, T, ha, hsq, hr⟩ := r.blk b _ hb
      rw [hm] at hm''; cases hm''
      have hlen : cs.length ≤ arr.size := by have := hr.1; simp at this; omega
      have holds : RVs M (cs.take (n * i.size)) (arr.toList.take (n * i.size)) := by
        have := hr.take (n * i.size)
        rw [List.take_take, Nat.min_eq_left c3] at this
        exact this
      by_cases hroom : n + m ≤ cap
      · have hcap : (n + m) * i.size ≤ cap * i.size := Nat.mul_le_mul_right _ hroom
        rw [Nat.add_mul] at hcap
        have hrn := run_app_room (P := P) (w := w) (ty := ty) (ti_spec ht).1 (ti_spec hj).1 hij.1.1 hi (hrun w rfl).1 (hrun w rfl).2 ha h1 hroom (by omega)
        obtain ⟨r1, f1⟩ := r.move b _ g q hb hm
        have he := f1.ext
        obtain ⟨r2, f2⟩ := r1.write nx _ (.cells (cs.take (n * i.size) ++ l)) g q (upd_hit _ _ _) (updM_hit _ _ _) (w' := w.setRow g (arr.toList.take (n * i.size) ++ news ++ arr.toList.drop (n * i.size + news.length)).toArray) (setRow_size _ _ _) (fun x hx => setRow_other w g x _ hx) rfl rfl rfl
          ⟨_, T, setRow_heap w g arr _ T _ ha, by simp; omega, by
            have e2 : (cs.take (n * i.size) ++ l).length = n * i.size + news.length := by simp; omega
            rw [e2]
            have e3 : (arr.toList.take (n * i.size) ++ news ++ arr.toList.drop (n * i.size + news.length)).take (n * i.size + news.length) = arr.toList.take (n * i.size) ++ news := by
              have : (arr.toList.take (n * i.size) ++ news).length = n * i.size + news.length := by simp; omega
              rw [← this]; exact List.take_left
            simp only [e3]
            exact (holds.append hnr).ext he⟩
        have hupd : upd (upd (drp H b) nx (.cells cs)) nx (.cells (cs.take (n * i.size) ++ l)) = upd (drp H b) nx (.cells (cs.take (n * i.size) ++ l)) := by
          funext y; unfold upd; split <;> rfl
        rw [hupd] at r2 f2
        refine ⟨_, _, .inl ⟨_, by rw [Sem.run_bind, hrn]; rfl, ?_⟩, r2, f1.trans f2⟩
        exact .sl _ _ _ _ _ _ _ (updM_hit _ _ _) hroom hm'
      · have hro : (Builtin.firstCells i.size n (.slice (some ⟨g, 0, none⟩) n cap)).run P w.drew = .ok (arr.toList.take (n * i.size)).toArray w.drew := by
          have := run_fc (P := P) (w := w.drew) (g := g) (o := 0) (n := n) (k := i.size) (c := cap) (show w.drew.heap[g]? = some (.cells arr T (0, 0)) from ha) (by omega)
          simpa using this
        have hrn := run_app_grow (P := P) (w := w) (ty := ty) (ti_spec ht).1 (ti_spec hj).1 hij.1.1 hi (hrun w rfl).1 (hrun w.drew rfl).2 hro (by omega) c4 c5
        have hge := grownCap_ge w (n + m) cap e
        obtain ⟨hrep, hfr⟩ := grow_ok r (Sub.drp H b) (arr.toList.take (n * i.size) ++ news) (Builtin.zeroCells i.zero.cells (grownCap w (n + m) cap e - (n + m))) e _ (holds.append hnr)
        simp only [List.append_toArray] at hrn
        refine ⟨_, _, .inl ⟨_, by rw [Sem.run_bind, hrn]; rfl, ?_⟩, hrep, hfr⟩
        refine .sl _ _ _ _ _ _ _ (updM_hit _ _ _) hge ?_
        have e4 : (arr.toList.take (n * i.size)).length = n * i.size := by simp; omega
        simp only [Array.size_append, List.size_toArray, List.length_append, e4, hzl, hzs, hnl, ← Nat.add_mul]
        rw [Nat.zero_add]; exact Nat.mul_le_mul_right _ (by omega)
  · cases h
end Ax
end Go.Proofs.YtdjllogimomgmaaGreatDoor
namespace Go.Proofs.YtdjllogimomgmaaGreatDoor
namespace Ax
def mupA (P : Program) (H : Heap) (t : TypeId) (m k v : CV) : Option (CV × Dl) := match ti P t with
  | some ⟨.map kt _, _, _, _⟩ => match ti P kt with
    | some ik => match m with
      | .mp b => match H b with
        | some (.map ks vs) => match keyD ik.und k with
          | true => match findK ik.und k ks 0 with
            | some (some q) => some (.any, .set b (.map (ks.set q k) (vs.set q v)))
            | some none => some (.any, .set b (.map (ks ++ [k]) (vs ++ [v])))
            | none => none
          | false => none
        | _ => none
      | _ => none
    | none => none
  | _ => none
theorem sameNow_bits {d : TypeDesc} {a b : Value} (h : Instr.sameNow d a b = some true) : Instr.sameBits 10000 b a = true := by
  unfold Instr.sameNow at h
  split at h
  · split at h
    · rename_i e
      subst e
      have : ∀ x y : Int, (some (x == y) = some true) → x = y := by intro x y h; simpa using h
      have e := this _ _ h
      subst e; simp [Instr.sameBits]
    · cases h
  · have e : ∀ x y : ByteArray, (some (x == y) = some true) → (y == x) = true := by
      intro x y h
      have h1 : (x == y) = true := by simpa using h
      rw [bytes_beq_data] at h1 ⊢
      simp at h1 ⊢; exact h1.symm
    simpa [Instr.sameBits] using e _ _ h
  · have : ∀ x y : Bool, (some (x == y) = some true) → x = y := by intro x y h; simpa using h
    have e := this _ _ h
    subst e; simp [Instr.sameBits]
  · cases h
theorem mupA_sound {P : Program} {H : Heap} {M : Mp} {nx : Nat} {w : World} {t : TypeId} {m k v c : CV} {d : Dl} {mv kv vv : Value} (h : mupA P H t m k v = some (c, d)) (r : Rep M H nx w) (hm : RV M m mv) (hk : RV M k kv) (hv : RV M v vv) :
    EOk P H M nx w (do Instr.mapUpdate t mv kv vv; pure .skip) c d := by
  unfold mupA at h
  split at h
  case h_2 => cases h
  rename_i kt et _ _ _ ht
  split at h
  case h_2 => cases h
  rename_i ik hik
  split at h
  case h_2 => cases h
  rename_i b
  split at h
  case h_2 => cases h
  rename_i ks vs hb
  split at h
  case h_2 => cases h
  rename_i hkd
  cases hm with
  | mp _ g q hg =>
    obtain ⟨g', q', hg', en, clock, ha, hks, hvs⟩ := r.blk b _ hb
    rw [hg] at hg'; cases hg'
    have hck := keyD_check (w := w) hik hkd hk false 9999
    have hlt : g < w.heap.size := (Array.getElem?_eq_some_iff.1 ha).1
    have wr : ∀ (en' : Array MapEntry) (clock' : Nat) (ks' vs' : List CV), RVs M ks' (en'.toList.map (·.key)) → RVs M vs' (en'.toList.map (·.val)) →
        Rep M (upd H b (.map ks' vs')) nx { w with heap := w.heap.setIfInBounds g (.map en' clock') } ∧ Fr H M nx w (upd H b (.map ks' vs')) M nx { w with heap := w.heap.setIfInBounds g (.map en' clock') } := by
      intro en' clock' ks' vs' h1 h2
      exact r.write b _ _ g q hb hg (by simp) (fun x hx => by simp [Ne.symm hx]) rfl rfl rfl ⟨en', clock', by simp [hlt], h1, h2⟩
    split at h
    · rename_i j hj
      cases h
      obtain ⟨_, e, he, hf, hsn⟩ := findK_sound hk hj hks
      simp only [Nat.sub_zero] at he
      have hea : en[j]? = some e := by rw [← Array.getElem?_toList]; exact he
      have hst : (Instr.keyThatStays e.key kv).run P w = .ok kv w := by simp [Instr.keyThatStays, sameNow_bits hsn]
      have hmod : (en.modify j fun x => { x with key := kv, val := vv }).toList = en.toList.set j { e with key := kv, val := vv } := by
        rw [Array.toList_modify]
        obtain ⟨hjl, hje⟩ := List.getElem?_eq_some_iff.mp he
        apply List.ext_getElem?
        intro i
        rw [List.getElem?_modify, List.getElem?_set]
        by_cases hij : j = i
        · subst hij; simp [hjl, hje, he]; simpa using hjl
        · simp [hij]
      obtain ⟨r', f'⟩ := wr (en.modify j fun x => { x with key := kv, val := vv }) clock (ks.set j k) (vs.set j v)
        (by rw [hmod, List.map_set]; exact hks.set j hk) (by rw [hmod, List.map_set]; exact hvs.set j hv)
      refine ⟨M, _, .inr ⟨?_, rfl⟩, r', f'⟩
      simp [Instr.mapUpdate, ti_und ht, MapKept.run_getObj_map ha, hck, Instr.findKey, ti_und hik, hf, hea, hst, MapKept.run_setObj_map _ ha]
    · rename_i hj
      cases h
      have hf := findK_sound hk hj hks
      simp only at hf
      obtain ⟨r', f'⟩ := wr (en.push { key := kv, val := vv, born := clock }) (clock + 1) (ks ++ [k]) (vs ++ [v])
        (by simp only [Array.toList_push, List.map_append, List.map_cons, List.map_nil]; exact hks.append (.one hk)) (by simp only [Array.toList_push, List.map_append, List.map_cons, List.map_nil]; exact hvs.append (.one hv))
      refine ⟨M, _, .inr ⟨?_, rfl⟩, r', f'⟩
      simp [Instr.mapUpdate, ti_und ht, MapKept.run_getObj_map ha, hck, Instr.findKey, ti_und hik, hf, MapKept.run_setObj_map _ ha]
    · cases h
/-! the next letter of a string that is ranged over -/
def nextA (H : Heap) (x : CV) (str : Bool) : Option (CV × Dl) := match str with
  | false => none
  | true => match x with
    | .ptr b 0 => match H b with
      | some (.iter l p) => match l[p]? with
        | none => some (.tup [.bool false], .no)
        | some c => match Nat.ble c.toNat 127 with
          | true => some (.tup [.bool true, .int .i64 p, .int .i32 c.toNat], .set b (.iter l (p + 1)))
          | false => none
      | _ => none
    | _ => none
theorem nextA_sound {P : Program} {H : Heap} {x : CV} {str : Bool} {c : CV} {d : Dl} {M : Mp} {nx : Nat} {w : World} {v : Value} {ty : TypeId} (h : nextA H x str = some (c, d)) (r : Rep M H nx w) (hx : RV M x v) :
    EOk P H M nx w (do pure (.value (← Instr.next v str ty))) c d := by
  unfold nextA at h
  split at h
  · cases h
  split at h
  case h_2 => cases h
  rename_i b
  split at h
  case h_2 => cases h
  rename_i l p hb
  cases hx with
  | ptr _ _ g m hg =>
  obtain ⟨g', m', hg', s, ha, hs⟩ := r.blk b _ hb
  rw [hg] at hg'; cases hg'
  have hlt : g < w.heap.size := (Array.getElem?_eq_some_iff.1 ha).1
  have hsz : s.size = l.length := by rw [← hs, Array.length_toList]; rfl
  split at h
  · rename_i hp
    cases h
    have hp' : ¬ p < s.size := by rw [hsz]; simpa using hp
    refine ⟨M, w, .inl ⟨.tuple #[.bool false], ?_, .tup _ [.bool false] rfl (fun j a e => ?_)⟩, r, .refl _ _ _ _⟩
    · simp [Instr.next, getObj, Sem.run, ha, hp']
    · have : j = 0 := by simpa using a
      subst this; exact .bool _
  · rename_i ch hp
    split at h
    case h_2 => cases h
    rename_i hle
    cases h
    obtain ⟨hpl, hpe⟩ := List.getElem?_eq_some_iff.mp hp
    have hp' : p < s.size := by omega
    have hce : s[p]'hp' = ch := by
      rw [← hpe]; subst hs; simp; rfl
    have hd : Utf8.decode s p = (ch.toNat, 1) := by
      rw [← hce]; exact decode_ascii s p hp' (by rw [hce]; have := Nat.le_of_ble_eq_true hle; omega)
    obtain ⟨r', f'⟩ := r.write (w' := { w with heap := w.heap.setIfInBounds g (.stringIter s (p + 1)) }) b _ (.iter l (p + 1)) g m hb hg (by simp) (fun x hx => by simp [Ne.symm hx]) rfl rfl rfl ⟨s, by simp [hlt], hs⟩
    refine ⟨M, _, .inl ⟨.tuple #[.bool true, .int .i64 p, .int .i32 ch.toNat], ?_, .tup _ [.bool true, .int .i64 p, .int .i32 ch.toNat] rfl (fun j a e => ?_)⟩, r', f'⟩
    · simp [Instr.next, getObj, setObj, Sem.run, ha, hp', hd, goInt]
    · have : j = 0 ∨ j = 1 ∨ j = 2 := by simp at a; omega
      rcases this with rfl | rfl | rfl
      · exact .bool _
      · exact .int _ _
      · exact .int _ _
/-! copy (of no more rows than there is room for) -/
def copyA (P : Program) (H : Heap) (t : TypeId) (a x : CV) : Option (CV × Dl) := match ti P t with
  | some ⟨.slice e, _, _, _⟩ => match ti P e with
    | some i => match srcA H i.size x with
      | some (m, l) => match l.all CV.one with
        | true => match a with
          | .sl b o n k => match H b with
            | some (.cells cs) => match Nat.ble m n && Nat.ble (o + l.length) cs.length with
              | true => some (.int .i64 m, .set b (.cells (cs.take o ++ l ++ cs.drop (o + l.length))))
              | false => none
            | _ => none
          | _ => none
        | false => none
      | none => none
    | none => none
  | _ => none
theorem copyA_sound {P : Program} {H : Heap} {M : Mp} {nx : Nat} {w : World} {t t' ty : TypeId} {a x c : CV} {d : Dl} {av xv : Value} (h : copyA P H t a x = some (c, d)) (r : Rep M H nx w) (ha : RV M a av) (hx : RV M x xv) :
    EOk P H M nx w (do pure (.value (← Builtin.copy_ #[t, t'] ty #[av, xv]))) c d := by
  unfold copyA at h
  split at h
  case h_2 => cases h
  rename_i e _ _ _ ht
  split at h
  case h_2 => cases h
  rename_i i hti
  split at h
  case h_2 => cases h
  rename_i q l hsrc
  split at h
  case h_2 => cases h
  rename_i hone
  split at h
  case h_2 => cases h
  rename_i b o n k
  split at h
  case h_2 => cases h
  rename_i cs hb
  split at h
  case h_2 => cases h
  rename_i hc
  cases h
  simp only [Bool.and_eq_true] at hc
  have h1 := Nat.le_of_ble_eq_true hc.1
  have h3 := Nat.le_of_ble_eq_true hc.2
  obtain ⟨news, hnl, hv, hrun⟩ := srcA_sound (P := P) hsrc r hx
  cases ha with
  | sl _ _ _ _ g m cc hm hn hmm =>
    obtain ⟨g', m', hm', arr, T, hw, hs, hr⟩ := r.blk b _ hb
    rw [hm] at hm'; cases hm'
    have hcl : cs.length ≤ arr.size := by have := hr.1; simp at this; omega
    have hvl : news.length = l.length := hv.1
    have hst := run_storeCells_at P g o T news 0 arr w hw (by omega) (fun v hv' => oneV_oneCell (hv.oneV hone v hv'))
    obtain ⟨r', f'⟩ := cells_write r hb hm hw hs hr hv h3
    refine ⟨M, _, .inl ⟨.int .i64 q, ?_, .int _ _⟩, r', f'⟩
    obtain ⟨e1, e2⟩ := hrun w rfl
    simp only [Builtin.copy_, List.getElem?_toArray, List.getElem?_cons_zero, List.getElem?_cons_succ, Sem.run_bind, ti_und ht, Result.andThen_ok, e1, Nat.min_def, if_pos h1, ti_size hti, e2]
    rw [hst]
    simp [goInt]
/-! one step that writes -/
def estep (P : Program) (H : Heap) (nx : Nat) (ρ : Operand → CV) (op : Op) : Option (CV × Dl) := match op with
  | .store t a x => storeA P H t (ρ a) (ρ x)
  | .mapUpdate t m k v => mupA P H t (ρ m) (ρ k) (ρ v)
  | .insert t m k v => mupA P H t (ρ m) (ρ k) (ρ v)
  | .next x str => nextA H (ρ x) str
  | .call c => match c.callee with
    | .builtin .append => match c.argTypes.toList, c.args.toList with
      | [t, t'], [s, x] => appA P H nx t t' (ρ s) (ρ x)
      | _, _ => none
    | .builtin .copy => match c.argTypes.toList, c.args.toList with
      | [t, t'], [s, x] => copyA P H t (ρ s) (ρ x)
      | _, _ => none
    | _ => none
  | _ => none
theorem estep_sound {P : Program} {H : Heap} {ρ : Operand → CV} {o : Oper} {c : CV} {d : Dl} {M : Mp} {nx : Nat} {w : World} {σ : Operand → Value} (h : estep P H nx ρ o.op = some (c, d)) (r : Rep M H nx w) (hρ : ∀ x ∈ o.op.operands, RV M (ρ x) (σ x)) :
    EOk P H M nx w (execOp σ o) c d := by
  unfold estep at h
  split at h
  · rename_i t a x hop
    have := storeA_sound h r (hρ a (by simp [hop, Op.operands])) (hρ x (by simp [hop, Op.operands]))
    unfold execOp; rw [hop]; exact this
  · rename_i t m k v hop
    have := mupA_sound h r (hρ m (by simp [hop, Op.operands])) (hρ k (by simp [hop, Op.operands])) (hρ v (by simp [hop, Op.operands]))
    unfold execOp; rw [hop]; exact this
  · rename_i t m k v hop
    have := mupA_sound h r (hρ m (by simp [hop, Op.operands])) (hρ k (by simp [hop, Op.operands])) (hρ v (by simp [hop, Op.operands]))
    unfold execOp; rw [hop]; exact this
  · rename_i x str hop
    have := nextA_sound (P := P) (ty := o.type) h r (hρ x (by simp [hop, Op.operands]))
    unfold execOp; rw [hop]; exact this
  · rename_i cl hop
    split at h
    · rename_i hb
      split at h
      · rename_i t t' s x hts hxs
        have ets : cl.argTypes = #[t, t'] := by apply Array.ext'; simpa using hts
        have exs : cl.args = #[s, x] := by apply Array.ext'; simpa using hxs
        have := appA_sound (ty := o.type) h r (hρ s (by simp [hop, Op.operands, Call.operands, hb, exs])) (hρ x (by simp [hop, Op.operands, Call.operands, hb, exs]))
        have e : (execOp σ o).run P w = (do pure (.value (← Builtin.append_ #[t, t'] o.type #[σ s, σ x])) : Sem Next).run P w := by
          unfold execOp; rw [hop]
          simp only [resolve, hb, Sem.run_bind, Sem.run_pure, Result.andThen_ok, invoke, builtin, ets, exs, List.map_toArray, List.map_cons, List.map_nil]
        unfold EOk at this ⊢
        rw [e]
        exact this
      · cases h
    · rename_i hb
      split at h
      · rename_i t t' s x hts hxs
        have ets : cl.argTypes = #[t, t'] := by apply Array.ext'; simpa using hts
        have exs : cl.args = #[s, x] := by apply Array.ext'; simpa using hxs
        have := copyA_sound (P := P) (t' := t') (ty := o.type) h r (hρ s (by simp [hop, Op.operands, Call.operands, hb, exs])) (hρ x (by simp [hop, Op.operands, Call.operands, hb, exs]))
        have e : (execOp σ o).run P w = (do pure (.value (← Builtin.copy_ #[t, t'] o.type #[σ s, σ x])) : Sem Next).run P w := by
          unfold execOp; rw [hop]
          simp only [resolve, hb, Sem.run_bind, Sem.run_pure, Result.andThen_ok, invoke, builtin, ets, exs, List.map_toArray, List.map_cons, List.map_nil]
        unfold EOk at this ⊢
        rw [e]
        exact this
      · cases h
    · cases h
  · cases h
end Ax
end Go.Proofs.YtdjllogimomgmaaGreatDoor
namespace Go.Proofs.YtdjllogimomgmaaGreatDoor
namespace Ax
/-- How a call ends. -/
inductive Res where
  | ret (v : CV)
  | pan (v : CV)
def EndR (M : Mp) : Res → Ending → Prop
  | .ret c, .returned v => RV M c v
  | .pan c, .panicked ch => ∃ v, ch = [{ v, recovered := false }] ∧ RV M c v
  | _, _ => False
/-- The package-level variables. -/
def RG (G : Nat → CV) (M : Mp) : Prop := ∀ g, RV M (G g) (.pointer (some ⟨g, 0, none⟩))
theorem RG.ext {G : Nat → CV} {M M' : Mp} (he : Ext M M') (h : RG G M) : RG G M' := fun g => (h g).ext he
/-- A contract. -/
def ACall (P : Program) (G : Nat → CV) (f : FuncId) (args : List CV) (H : Heap) (nx : Nat) (Q : Res → Heap → Nat → Prop) : Prop :=
  ∀ M w vs, RG G M → Rep M H nx w → RVs M args vs → Calls P f vs.toArray w fun e w' => ∃ M' r H' nx', EndR M' r e ∧ Rep M' H' nx' w' ∧ Fr H M nx w H' M' nx' w' ∧ Q r H' nx'
theorem ACall.mono {P : Program} {G : Nat → CV} {f : FuncId} {args : List CV} {H : Heap} {nx : Nat} {Q Q' : Res → Heap → Nat → Prop} (h : ACall P G f args H nx Q) (hq : ∀ r H' nx', Q r H' nx' → Q' r H' nx') : ACall P G f args H nx Q' :=
  fun M w vs g r a => (h M w vs g r a).mono fun _ _ ⟨M', x, H', n', a1, a2, a3, a4⟩ => ⟨M', x, H', n', a1, a2, a3, hq _ _ _ a4⟩
/-- How code ends. -/
inductive AExit where
  | normal
  | exit (id : Nat)
  | ret
  | pan (v : CV)
def ExR (M : Mp) : AExit → Exit → Prop
  | .normal, .normal => True
  | .exit i, .exit j => i = j
  | .ret, .ret => True
  | .pan c, .panic ch => ∃ v, ch = [{ v, recovered := false }] ∧ RV M c v
  | _, _ => False
abbrev Env := Nat → CV
def EnvR (M : Mp) (n : Nat) (e : Env) (a : Act) : Prop := a.tmps.size = n ∧ a.defers = [] ∧ ∀ t, RV M (e t) (a.tmps.getD t undef)
theorem EnvR.ext {M M' : Mp} {n : Nat} {e : Env} {a : Act} (he : Ext M M') (h : EnvR M n e a) : EnvR M' n e a := ⟨h.1, h.2.1, fun t => (h.2.2 t).ext he⟩
def putE (e : Env) (d : Option Nat) (c : CV) : Env := match d with
  | some i => fun t => if t = i then c else e t
  | none => e
theorem EnvR.put {M : Mp} {n : Nat} {e : Env} {a : Act} {d : Option Nat} {c : CV} {v : Value} (h : EnvR M n e a) (hv : RV M c v) (hd : ∀ i, d = some i → i < n) : EnvR M n (putE e d c) (a.put d v) := by
  cases d with
  | none => exact h
  | some i =>
    refine ⟨by simp [Act.put, h.1], h.2.1, fun t => ?_⟩
    have hi : i < a.tmps.size := by rw [h.1]; exact hd i rfl
    simp only [Act.put, putE, Array.getD_eq_getD_getElem?]
    by_cases e1 : t = i
    · subst e1; simp only [if_true, Array.getElem?_setIfInBounds_self_of_lt hi, Option.getD_some]; exact hv
    · simp only [e1, if_false, Array.getElem?_setIfInBounds_ne (Ne.symm e1)]
      have := h.2.2 t
      simpa [Array.getD_eq_getD_getElem?] using this
/-- What is known less. -/
theorem EnvR.weak {M : Mp} {n : Nat} {e e' : Env} {a : Act} (h : EnvR M n e a) (hw : ∀ t, e' t = e t ∨ e' t = .any) : EnvR M n e' a :=
  ⟨h.1, h.2.1, fun t => by rcases hw t with e1 | e1 <;> rw [e1]; exact h.2.2 t; exact .any _⟩
def rd (G : Nat → CV) (e : Env) : Operand → CV
  | .tmp t => e t
  | .const v => ofV v
  | .global g => G g
  | .func f => .fn (.func f) [] []
theorem EnvR.rd {M : Mp} {G : Nat → CV} {n : Nat} {e : Env} {a : Act} (h : EnvR M n e a) (hg : RG G M) (x : Operand) : RV M (rd G e x) (a.eval x) := by
  cases x with
  | tmp t => exact h.2.2 t
  | const v => exact RV.ofV M v
  | global g => exact hg g
  | func f => exact .fn (.func f) [] [] [] [] rfl rfl (fun j a => by simp at a) (fun j a => by simp at a)
/-- The concrete post of an abstract one. -/
def Post (n : Nat) (H : Heap) (M : Mp) (nx : Nat) (w : World) (Q : AExit → Env → Heap → Nat → Prop) (ex : Exit) (a' : Act) (w' : World) : Prop :=
  ∃ M' x e' H' nx', ExR M' x ex ∧ Rep M' H' nx' w' ∧ Fr H M nx w H' M' nx' w' ∧ EnvR M' n e' a' ∧ Q x e' H' nx'
/-- Code, abstractly. -/
def AWp (P : Program) (G : Nat → CV) (n : Nat) (c : Code) (e : Env) (H : Heap) (nx : Nat) (Q : AExit → Env → Heap → Nat → Prop) : Prop :=
  ∀ M a w, RG G M → Rep M H nx w → EnvR M n e a → c.wp P (Post n H M nx w Q) a w
theorem Post.trans {n : Nat} {H H1 : Heap} {M M1 : Mp} {nx nx1 : Nat} {w w1 : World} {Q : AExit → Env → Heap → Nat → Prop} (f : Fr H M nx w H1 M1 nx1 w1) {ex : Exit} {a' : Act} {w' : World} (h : Post n H1 M1 nx1 w1 Q ex a' w') : Post n H M nx w Q ex a' w' := by
  obtain ⟨M', x, e', H', nx', h1, h2, h3, h4, h5⟩ := h
  exact ⟨M', x, e', H', nx', h1, h2, f.trans h3, h4, h5⟩
theorem least {K : Nat → Prop} (h : ∃ k, K k) : ∃ k, K k ∧ ∀ j, K j → k ≤ j := by
  obtain ⟨k, hk⟩ := h
  induction k using Nat.strongRecOn with
  | _ k ih =>
    by_cases hx : ∃ j, j < k ∧ K j
    · obtain ⟨j, hj, hkj⟩ := hx; exact ih j hj hkj
    · exact ⟨k, hk, fun j hj => Nat.le_of_not_lt fun hl => hx ⟨j, hl, hj⟩⟩
section rules
variable {P : Program} {G : Nat → CV} {n : Nat} {e : Env} {H : Heap} {nx : Nat} {Q : AExit → Env → Heap → Nat → Prop}
theorem AWp.mono {c : Code} {Q' : AExit → Env → Heap → Nat → Prop} (h : AWp P G n c e H nx Q) (hq : ∀ x e H nx, Q x e H nx → Q' x e H nx) : AWp P G n c e H nx Q' :=
  fun M a w g r v => wp_mono (h M a w g r v) fun _ _ _ ⟨M', x, e', H', nx', h1, h2, h3, h4, h5⟩ => ⟨M', x, e', H', nx', h1, h2, h3, h4, hq _ _ _ _ h5⟩
theorem AWp.skip (h : Q .normal e H nx) : AWp P G n .skip e H nx Q := fun M a w g r v => wp_skip ⟨M, .normal, e, H, nx, trivial, r, .refl _ _ _ _, v, h⟩
theorem AWp.exit {id : Nat} (h : Q (.exit id) e H nx) : AWp P G n (.exit id) e H nx Q := fun M a w g r v => wp_exit ⟨M, .exit id, e, H, nx, rfl, r, .refl _ _ _ _, v, h⟩
theorem AWp.ret (h : Q .ret e H nx) : AWp P G n .ret e H nx Q := fun M a w g r v => wp_ret ⟨M, .ret, e, H, nx, trivial, r, .refl _ _ _ _, v, h⟩
def Then (next : Env → Heap → Nat → Prop) (Q : AExit → Env → Heap → Nat → Prop) : AExit → Env → Heap → Nat → Prop
  | .normal, e, H, nx => next e H nx
  | x, e, H, nx => Q x e H nx
theorem AWp.seq {x y : Code} (h : AWp P G n x e H nx (Then (fun e H nx => AWp P G n y e H nx Q) Q)) : AWp P G n (.seq x y) e H nx Q := fun M a w g r v => wp_seq (wp_mono (h M a w g r v) (by
  rintro ex a' w' ⟨M', x', e', H', nx', h1, h2, h3, h4, h5⟩
  cases x' with
  | normal =>
    cases ex <;> simp only [ExR] at h1
    exact wp_mono (h5 M' a' w' (g.ext h3.ext) h2 h4) fun _ _ _ hp => hp.trans h3
  | exit id => cases ex <;> simp only [ExR] at h1; subst h1; exact ⟨M', .exit _, e', H', nx', rfl, h2, h3, h4, h5⟩
  | ret => cases ex <;> simp only [ExR] at h1; exact ⟨M', .ret, e', H', nx', trivial, h2, h3, h4, h5⟩
  | pan c => cases ex <;> simp only [ExR] at h1; exact ⟨M', .pan c, e', H', nx', h1, h2, h3, h4, h5⟩))
theorem AWp.cond {c : Operand} {x y : Code} {b : Bool} (hc : rd G e c = .bool b) (h : AWp P G n (if b then x else y) e H nx Q) : AWp P G n (.cond c x y) e H nx Q := fun M a w g r v => by
  have := v.rd g c
  rw [hc] at this
  generalize hv : a.eval c = u at this
  cases this
  exact wp_cond hv (h M a w g r v)
theorem AWp.cond' {c : Operand} {x y : Code} {b : Bool} (hc : rd G e c = .bool b) (h1 : b = true → AWp P G n x e H nx Q) (h2 : b = false → AWp P G n y e H nx Q) : AWp P G n (.cond c x y) e H nx Q := by
  refine AWp.cond hc ?_
  cases b
  · exact h2 rfl
  · exact h1 rfl
def InBlock (id : Nat) (Q : AExit → Env → Heap → Nat → Prop) : AExit → Env → Heap → Nat → Prop
  | .exit i, e, H, nx => if i = id then Q .normal e H nx else Q (.exit i) e H nx
  | x, e, H, nx => Q x e H nx
theorem AWp.block {id : Nat} {c : Code} (h : AWp P G n c e H nx (InBlock id Q)) : AWp P G n (.block id c) e H nx Q := fun M a w g r v => wp_block (wp_mono (h M a w g r v) (by
  rintro ex a' w' ⟨M', x', e', H', nx', h1, h2, h3, h4, h5⟩
  cases x' with
  | normal => cases ex <;> simp only [ExR] at h1; exact ⟨M', .normal, e', H', nx', trivial, h2, h3, h4, h5⟩
  | exit i =>
    cases ex <;> simp only [ExR] at h1
    subst h1
    simp only [InBlock] at h5
    simp only [Exit.inBlock]
    split
    · rename_i hi; rw [if_pos hi] at h5; exact ⟨M', .normal, e', H', nx', trivial, h2, h3, h4, h5⟩
    · rename_i hi; rw [if_neg hi] at h5; exact ⟨M', .exit _, e', H', nx', rfl, h2, h3, h4, h5⟩
  | ret => cases ex <;> simp only [ExR] at h1; exact ⟨M', .ret, e', H', nx', trivial, h2, h3, h4, h5⟩
  | pan c => cases ex <;> simp only [ExR] at h1; exact ⟨M', .pan c, e', H', nx', h1, h2, h3, h4, h5⟩))
/-- Loops: a family of states, a measure. -/
theorem AWp.loop {c : Code} {α : Type} (S : α → Env → Heap → Nat → Prop) (μ : α → Nat) (x0 : α) (h0 : S x0 e H nx)
    (round : ∀ x e H nx, S x e H nx → AWp P G n c e H nx (Then (fun e' H' nx' => ∃ y, μ y < μ x ∧ S y e' H' nx') Q)) : AWp P G n (.loop c) e H nx Q := fun M a w g r v => by
  let R : α → Act → World → Prop := fun x a' w' => ∃ M' e' H' nx', S x e' H' nx' ∧ Rep M' H' nx' w' ∧ EnvR M' n e' a' ∧ Fr H M nx w H' M' nx' w'
  let K : Act → World → Nat → Prop := fun a' w' k => ∃ x, R x a' w' ∧ μ x = k
  have hK : ∀ a' w', (∃ x, R x a' w') → ∃ k, K a' w' k := fun a' w' ⟨x, hx⟩ => ⟨μ x, x, hx, rfl⟩
  classical
  let m : Act → World → Nat := fun a' w' => if h : ∃ k, K a' w' k then (least h).choose else 0
  refine wp_loop (I := fun a' w' => ∃ x, R x a' w') m ⟨x0, M, e, H, nx, h0, r, v, .refl _ _ _ _⟩ ?_
  intro a1 w1 hI
  have hk := hK a1 w1 hI
  obtain ⟨x, ⟨M1, e1, H1, nx1, hs, r1, v1, f1⟩, hx⟩ := (least hk).choose_spec.1
  have hm : m a1 w1 = μ x := by simp only [m, hk, dif_pos]; exact hx.symm
  refine wp_mono (round x e1 H1 nx1 hs M1 a1 w1 (g.ext f1.ext) r1 v1) ?_
  rintro ex a' w' ⟨M', x', e', H', nx', h1, h2, h3, h4, h5⟩
  cases x' with
  | normal =>
    cases ex <;> simp only [ExR] at h1
    obtain ⟨y, hy, hsy⟩ := h5
    have hRy : R y a' w' := ⟨M', e', H', nx', hsy, h2, h4, f1.trans h3⟩
    refine ⟨⟨y, hRy⟩, ?_⟩
    have hk' : ∃ k, K a' w' k := ⟨μ y, y, hRy, rfl⟩
    have : m a' w' ≤ μ y := by simp only [m, hk', dif_pos]; exact (least hk').choose_spec.2 _ ⟨y, hRy, rfl⟩
    omega
  | exit id => cases ex <;> simp only [ExR] at h1; subst h1; exact ⟨M', .exit _, e', H', nx', rfl, h2, f1.trans h3, h4, h5⟩
  | ret => cases ex <;> simp only [ExR] at h1; exact ⟨M', .ret, e', H', nx', trivial, h2, f1.trans h3, h4, h5⟩
  | pan c => cases ex <;> simp only [ExR] at h1; exact ⟨M', .pan c, e', H', nx', h1, h2, f1.trans h3, h4, h5⟩
end rules
/-! regions in their order -/
def AOps (P : Program) (G : Nat → CV) (n : Nat) (ops : Array Oper) (l : List Nat) (e : Env) (H : Heap) (nx : Nat) (Q : AExit → Env → Heap → Nat → Prop) : Prop :=
  ∀ M a w, RG G M → Rep M H nx w → EnvR M n e a → wpOps P ops (Post n H M nx w Q) l a w
theorem wpOps_mono {P : Program} {ops : Array Oper} {Q Q' : Exit → Act → World → Prop} (hq : ∀ x a w, Q x a w → Q' x a w) : ∀ (l : List Nat) {a : Act} {w : World}, wpOps P ops Q l a w → wpOps P ops Q' l a w
  | [], a, w, h => hq _ _ _ h
  | i :: l, a, w, h => by
    have key : ∀ {o : Oper} {a : Act} {w : World}, o.wp P a w (wpOps P ops Q l) Q → o.wp P a w (wpOps P ops Q' l) Q' := by
      intro o a w hh
      unfold Oper.wp at *
      generalize (execOp a.eval o).run P w = r at *
      cases r with
      | ok nn w' =>
        cases nn <;> simp only [Oper.upon] at hh ⊢ <;> first
          | exact wpOps_mono hq l hh
          | (refine Calls.mono hh (fun e w'' he => ?_)
             cases e with
             | returned v => exact wpOps_mono hq l he
             | panicked ch => exact hq _ _ _ he
             | outgrown => exact he.imp fun _ hh => hh.imp fun _ hh => hq _ _ _ hh)
          | exact Rows.mono hh (fun _ _ he => wpOps_mono hq l he)
      | halt x w' => cases x <;> simp only [Oper.upon] at hh ⊢ <;> exact hq _ _ _ hh
    unfold wpOps at h ⊢
    split
    · rename_i ho; simp only [ho] at h; exact wpOps_mono hq l h
    · rename_i o ho
      simp only [ho] at h
      split
      · rename_i hw
        simp only [hw, if_true] at h
        rcases h with h | ⟨h1, h2⟩
        · exact .inl (key h)
        · exact .inr ⟨h1, h2.imp fun _ hh => hh.imp fun _ hh => hq _ _ _ hh⟩
      · rename_i hw; simp only [hw] at h; exact wpOps_mono hq l h
section ops
variable {P : Program} {G : Nat → CV} {n : Nat} {e : Env} {H : Heap} {nx : Nat} {Q : AExit → Env → Heap → Nat → Prop} {ops : Array Oper} {i : Nat} {l : List Nat} {o : Oper}
theorem AWp.region {id : Nat} (h : AOps P G n ops (List.range ops.size) e H nx Q) : AWp P G n (.region id ops false) e H nx Q := fun M a w g r v => wp_region (h M a w g r v)
theorem AOps.nil (h : Q .normal e H nx) : AOps P G n ops [] e H nx Q := fun M a w g r v => ⟨M, .normal, e, H, nx, trivial, r, .refl _ _ _ _, v, h⟩
/-- Whether an operation is wanted. -/
def gd (ops : Array Oper) (e : Env) (o : Oper) : Option Bool := match o.guard with
  | none => some true
  | some (j, want) => match ops[j]? with
    | some oj => match oj.dst with
      | some t => match e t with
        | .bool b => some (b == want)
        | .tup [] => some false
        | _ => none
      | none => none
    | none => none
theorem RV.undef (M : Mp) : RV M (.tup []) undef := .tup [] [] rfl (fun j a => by simp at a)
theorem gd_sound {M : Mp} {a : Act} {b : Bool} (h : gd ops e o = some b) (v : EnvR M n e a) : Region.wanted o (yielded ops a.tmps) = b := by
  unfold gd at h
  unfold Region.wanted
  split at h
  · rename_i hg; cases h; rw [hg]
  · rename_i j want hg
    rw [hg]
    split at h
    · rename_i oj hoj
      split at h
      · rename_i t ht
        split at h
        · rename_i b' hb
          cases h
          have := v.2.2 t
          rw [hb] at this
          have hy : yielded ops a.tmps j = some b' := by
            unfold yielded
            simp only [hoj, ht, Option.bind_some]
            generalize hx : a.tmps.getD t undef = x at this
            cases this
            rw [Array.getD_eq_getD_getElem?] at hx
            cases hz : a.tmps[t]? with
            | none => rw [hz] at hx; simp [undef] at hx
            | some z => rw [hz] at hx; simp at hx; subst hx; rfl
          simp only [hy]
          cases b' <;> cases want <;> rfl
        · rename_i hb
          cases h
          have := v.2.2 t
          rw [hb] at this
          have hy : yielded ops a.tmps j = none := by
            unfold yielded
            simp only [hoj, ht, Option.bind_some]
            generalize hx : a.tmps.getD t undef = x at this
            cases this
            rw [Array.getD_eq_getD_getElem?] at hx
            cases hz : a.tmps[t]? with
            | none => rfl
            | some z => rw [hz] at hx; simp at hx; subst hx; rfl
          simp only [hy]
          cases want <;> rfl
        · cases h
      · cases h
    · cases h
theorem AOps.unwanted (ho : ops[i]? = some o) (hg : gd ops e o = some false) (hd : ∀ j, o.dst = some j → j < n) (h : AOps P G n ops l (putE e o.dst (.tup [])) H nx Q) : AOps P G n ops (i :: l) e H nx Q := fun M a w g r v => by
  unfold wpOps
  simp only [ho, gd_sound hg v, Bool.false_eq_true, if_false]
  exact h M _ w g r (v.put (RV.undef M) hd)
theorem AOps.quiet (ho : ops[i]? = some o) (hg : gd ops e o = some true) (hd : ∀ j, o.dst = some j → j < n) {c : CV} (hq : qstep P H (rd G e) o.op = some c) (h : AOps P G n ops l (putE e o.dst c) H nx Q) : AOps P G n ops (i :: l) e H nx Q := fun M a w g r v => by
  unfold wpOps
  simp only [ho, gd_sound hg v, if_true]
  obtain ⟨z, h1, h2⟩ := qstep_sound hq r (fun x _ => v.rd g x)
  left
  unfold Oper.wp
  rw [h1]
  exact h M _ w g r (v.put h2 hd)
theorem AOps.new (ho : ops[i]? = some o) (hg : gd ops e o = some true) (hd : ∀ j, o.dst = some j → j < n) {c : CV} {k : CB} (hq : astep P (rd G e) nx o.op = some (c, k)) (h : AOps P G n ops l (putE e o.dst c) (upd H nx k) (nx + 1) Q) : AOps P G n ops (i :: l) e H nx Q := fun M a w g r v => by
  unfold wpOps
  simp only [ho, gd_sound hg v, if_true]
  have hf := r.fresh nx (Nat.le_refl _)
  obtain ⟨z, obj, m, w', h1, h2, h3, h4, h5, h6, h7⟩ := astep_sound (w := w) hq hf (fun x _ => v.rd g x)
  have r' := r.new nx k m obj hf (Nat.le_succ nx) (Nat.lt_succ_self nx) h2 h6
  have f' : Fr H M nx w (upd H nx k) (updM M nx (w.heap.size, m)) (nx + 1) w' := Fr.new nx k m obj hf (Nat.le_refl _) (Nat.le_succ nx) (Sub.refl _) h2 h3 h4 h5
  left
  unfold Oper.wp
  rw [h1]
  exact wpOps_mono (fun _ _ _ hp => hp.trans f') l (h _ _ w' (g.ext f'.ext) r' ((v.ext f'.ext).put h7 hd))
theorem AOps.write (ho : ops[i]? = some o) (hg : gd ops e o = some true) (hd : ∀ j, o.dst = some j → j < n) {c : CV} {d : Dl} (hq : estep P H nx (rd G e) o.op = some (c, d)) (h : AOps P G n ops l (putE e o.dst c) (d.hp H nx) (d.nx nx) Q) : AOps P G n ops (i :: l) e H nx Q := fun M a w g r v => by
  unfold wpOps
  simp only [ho, gd_sound hg v, if_true]
  obtain ⟨M', w', h1, r', f'⟩ := estep_sound hq r (fun x _ => v.rd g x)
  left
  unfold Oper.wp
  rcases h1 with ⟨z, h1, h2⟩ | ⟨h1, h2⟩
  · rw [h1]
    exact wpOps_mono (fun _ _ _ hp => hp.trans f') l (h _ _ w' (g.ext f'.ext) r' ((v.ext f'.ext).put h2 hd))
  · rw [h1]
    subst h2
    exact wpOps_mono (fun _ _ _ hp => hp.trans f') l (h _ _ w' (g.ext f'.ext) r' ((v.ext f'.ext).put (.any _) hd))
/-- Which function a call enters, with which arguments. -/
def callA (ρ : Operand → CV) (op : Op) : Option (FuncId × List CV) := match op with
  | .call c => match c.callee with
    | .value x => match ρ x with
      | .fn (.func f) first captured => some (f, first ++ c.args.toList.map ρ ++ captured)
      | _ => none
    | _ => none
  | _ => none
def enters (P : Program) (f : FuncId) : Bool := match P.funcs[f]? with
  | some fn => fn.name != "runtime.NumGoroutine" && fn.body.isSome
  | none => false
theorem callA_sound {M : Mp} {ρ : Operand → CV} {σ : Operand → Value} {f : FuncId} {args : List CV} {w : World} (h : callA ρ o.op = some (f, args)) (he : enters P f = true) (hρ : ∀ x ∈ o.op.operands, RV M (ρ x) (σ x)) :
    ∃ vs : List Value, (execOp σ o).run P w = .ok (.enter f vs.toArray) w ∧ RVs M args vs := by
  unfold callA at h
  split at h
  case h_2 => cases h
  rename_i c hop
  split at h
  case h_2 => cases h
  rename_i x hx
  split at h
  case h_2 => cases h
  rename_i f' first captured hf
  cases h
  have hxr := hρ x (by simp [hop, Op.operands, Call.operands, hx])
  rw [hf] at hxr
  generalize hv : σ x = v at hxr
  have hargs : RVs M (c.args.toList.map ρ) (c.args.toList.map σ) := RVs.map fun y hy => hρ y (by simp [hop, Op.operands, Call.operands, hx]; right; simpa using hy)
  cases hxr with
  | fn _ _ _ fs cs l1 l2 h1 h2 =>
    refine ⟨fs ++ c.args.toList.map σ ++ cs, ?_, (RVs.append (RVs.append ⟨l1, h1⟩ hargs) ⟨l2, h2⟩)⟩
    unfold enters at he
    cases hfn : P.funcs[f]? with
    | none => rw [hfn] at he; cases he
    | some fn =>
      rw [hfn] at he
      simp only [Bool.and_eq_true] at he
      have hn : (fn.name == "runtime.NumGoroutine") = false := by have := he.1; simpa [bne] using this
      have hb : fn.body.isNone = false := by cases hbb : fn.body <;> simp_all
      have ea : (fs.toArray ++ c.args.map σ ++ cs.toArray) = (fs ++ c.args.toList.map σ ++ cs).toArray := by apply Array.ext'; simp
      unfold execOp
      rw [hop]
      simp only [resolve, hx, hv, Deferred.ofValue, Sem.run_bind, Sem.run_pure, Result.andThen_ok, invoke, callFunc, run_program, hfn, hn, hb, Bool.false_eq_true, if_false, ea]
theorem AOps.call (ho : ops[i]? = some o) (hg : gd ops e o = some true) (hd : ∀ j, o.dst = some j → j < n) {f : FuncId} {args : List CV} (hq : callA (rd G e) o.op = some (f, args)) (he : enters P f = true)
    (h : ACall P G f args H nx fun r H' nx' => match r with
      | .ret v => AOps P G n ops l (putE e o.dst v) H' nx' Q
      | .pan v => Q (.pan v) e H' nx') : AOps P G n ops (i :: l) e H nx Q := fun M a w g r v => by
  unfold wpOps
  simp only [ho, gd_sound hg v, if_true]
  obtain ⟨vs, h1, h2⟩ := callA_sound (w := w) hq he (fun x _ => v.rd g x)
  left
  unfold Oper.wp
  rw [h1, Oper.upon_enter]
  refine (h M w vs g r h2).mono ?_
  rintro en w' ⟨M', x, H', nx', a1, a2, a3, a4⟩
  cases x with
  | ret c =>
    cases en <;> simp only [EndR] at a1
    exact wpOps_mono (fun _ _ _ hp => hp.trans a3) l (a4 _ _ w' (g.ext a3.ext) a2 ((v.ext a3.ext).put a1 hd))
  | pan c =>
    cases en <;> simp only [EndR] at a1
    exact ⟨M', .pan c, e, H', nx', a1, a2, a3, v.ext a3.ext, a4⟩
theorem AOps.panic (ho : ops[i]? = some o) (hg : gd ops e o = some true) {x : Operand} {t : TypeId} {c : CV} (hop : o.op = .panic x) (hx : rd G e x = .iface t c) (h : Q (.pan (.iface t c)) e H nx) : AOps P G n ops (i :: l) e H nx Q := fun M a w g r v => by
  unfold wpOps
  simp only [ho, gd_sound hg v, if_true]
  have hr := v.rd g x
  rw [hx] at hr
  generalize hv : a.eval x = u at hr
  have hr0 := hr
  cases hr with
  | iface _ _ u hu =>
    left
    unfold Oper.wp
    have : (execOp a.eval o).run P w = .halt (.panic (.iface t u)) w := by
      unfold execOp; rw [hop]; simp only [Sem.run_bind, hv, Instr.panic, run_goPanic, Result.andThen_halt]
    rw [this, Oper.upon_panic]
    exact ⟨M, .pan _, e, H, nx, ⟨_, rfl, hr0⟩, r, .refl _ _ _ _, v, h⟩
end ops
/-! bodies -/
def resA (P : Program) (H : Heap) (e : Env) : List ResultVar → Option (List CV)
  | [] => some []
  | .tmp t :: rs => match resA P H e rs with
    | some l => some (e t :: l)
    | none => none
  | .cell a t :: rs => match loadA P H t (e a) with
    | some c => match resA P H e rs with
      | some l => some (c :: l)
      | none => none
    | none => none
def resOne (tmps : Array Value) : ResultVar → Sem Value
  | .tmp t => pure (tmps.getD t undef)
  | .cell b t => do loadVar t (← asAddr (tmps.getD b undef))
theorem results_eq (fn : Func) (tmps : Array Value) : results fn tmps = (do let vs ← fn.results.mapM (resOne tmps); pure (if h : vs.size = 1 then vs[0] else .tuple vs)) := by
  unfold results
  congr 2
def packA : List CV → CV
  | [c] => c
  | l => .tup l
theorem resA_sound {P : Program} {H : Heap} {M : Mp} {nx n : Nat} {w : World} {e : Env} {a : Act} (r : Rep M H nx w) (v : EnvR M n e a) : ∀ {rs : List ResultVar} {l : List CV}, resA P H e rs = some l →
    ∃ vs : List Value, (rs.mapM (resOne a.tmps)).run P w = .ok vs w ∧ RVs M l vs
  | [], l, h => by cases h; exact ⟨[], by simp, .nil⟩
  | .tmp t :: rs, l, h => by
    unfold resA at h
    split at h
    · rename_i l' hl'
      cases h
      obtain ⟨vs, h1, h2⟩ := resA_sound r v hl'
      exact ⟨a.tmps.getD t undef :: vs, by simp only [List.mapM_cons, resOne, Sem.run_bind, Sem.run_pure, Result.andThen_ok, h1], .cons (v.2.2 t) h2⟩
    · cases h
  | .cell b t :: rs, l, h => by
    unfold resA at h
    split at h
    · rename_i c hc
      split at h
      · rename_i l' hl'
        cases h
        obtain ⟨vs, h1, h2⟩ := resA_sound r v hl'
        obtain ⟨u, h3, h4⟩ := loadA_sound hc r (v.2.2 b)
        refine ⟨u :: vs, ?_, .cons h4 h2⟩
        have h5 : (do loadVar t (← asAddr (a.tmps.getD b undef)) : Sem Value).run P w = .ok u w := by
          have hp := v.2.2 b
          unfold loadA at hc
          split at hc
          · cases hc
          · split at hc
            · rename_i hb
              rw [hb] at hp
              generalize hq : a.tmps.getD b undef = q at hp h3
              cases hp
              simp only [Instr.loadAt, Instr.sureAddr, Sem.run_bind, Sem.run_pure, Result.andThen_ok] at h3
              simp only [asAddr, Sem.run_bind, Sem.run_pure, Result.andThen_ok, h3]
            · rename_i hb
              rw [hb] at hp
              generalize hq : a.tmps.getD b undef = q at hp h3
              cases hp
              simp only [Instr.loadAt, Instr.sureAddr, Sem.run_bind, Sem.run_pure, Result.andThen_ok] at h3
              simp only [asAddr, Sem.run_bind, Sem.run_pure, Result.andThen_ok, h3]
            · cases hc
        have h6 : (resOne a.tmps (.cell b t)).run P w = .ok u w := h5
        simp only [List.mapM_cons, Sem.run_bind, h6, h1, Result.andThen_ok, Sem.run_pure]
      · cases h
    · cases h
theorem RVs.pack {M : Mp} {l : List CV} {vs : List Value} (h : RVs M l vs) : RV M (packA l) (if h : vs.toArray.size = 1 then vs.toArray[0] else .tuple vs.toArray) := by
  have hl := h.1
  match l, vs, hl with
  | [], [], _ => exact .tup _ _ h.1 h.2
  | [c], [v], _ => exact h.head
  | c :: c' :: l, v :: v' :: vs, _ =>
    have : ¬ (v :: v' :: vs).toArray.size = 1 := by simp
    rw [dif_neg this]
    exact .tup _ _ h.1 h.2
/-- What the body must come to. -/
def BodyQ (P : Program) (fn : Func) (Q : Res → Heap → Nat → Prop) : AExit → Env → Heap → Nat → Prop
  | .normal, e, H, nx | .ret, e, H, nx => ∃ l, resA P H e fn.results.toList = some l ∧ Q (.ret (packA l)) H nx
  | .pan v, _, H, nx => Q (.pan v) H nx
  | .exit _, _, _, _ => False
def argE (args : List CV) : Env := fun t => (args[t]?).getD .any
theorem ACall.of_body {P : Program} {G : Nat → CV} {f : FuncId} {fn : Func} {c : Code} {args : List CV} {H : Heap} {nx : Nat} {Q : Res → Heap → Nat → Prop} (hf : P.funcs[f]? = some fn) (hb : fn.body = some c)
    (h : AWp P G (max args.length fn.ntmps) c (argE args) H nx (BodyQ P fn Q)) : ACall P G f args H nx Q := by
  intro M w vs g r hv
  refine calls_of_wp hf hb (wp_mono (h M _ w g r ?_) ?_)
  · refine ⟨by simp [hv.1]; omega, rfl, fun t => ?_⟩
    simp only [argE, Array.getD_eq_getD_getElem?]
    cases ha : args[t]? with
    | none => exact .any _
    | some c =>
      obtain ⟨u, hu, hr⟩ := hv.at' ha
      have hlt := (List.getElem?_eq_some_iff.mp hu).1
      rw [Array.getElem?_append_left (by simpa using hlt)]
      simp only [List.getElem?_toArray, hu, Option.getD_some]
      exact hr
  · rintro ex a' w' ⟨M', x', e', H', nx', h1, h2, h3, h4, h5⟩
    have fin : (∃ l, resA P H' e' fn.results.toList = some l ∧ Q (.ret (packA l)) H' nx') → a'.defers = [] ∧ ∃ v, (results fn a'.tmps).run P w' = .ok v w' ∧ ∃ M'' r H'' nx'', EndR M'' r (.returned v) ∧ Rep M'' H'' nx'' w' ∧ Fr H M nx w H'' M'' nx'' w' ∧ Q r H'' nx'' := by
      rintro ⟨l, hl, hq⟩
      obtain ⟨us, h6, h7⟩ := resA_sound h2 h4 hl
      refine ⟨h4.2.1, _, ?_, M', .ret (packA l), H', nx', h7.pack, h2, h3, hq⟩
      rw [results_eq, Sem.run_bind, Array.mapM_eq_mapM_toList]
      simp only [Sem.run_map, h6, Result.andThen_ok, Sem.run_pure]
    cases x' with
    | normal => cases ex <;> simp only [ExR] at h1; exact fin h5
    | exit id => exact h5.elim
    | ret => cases ex <;> simp only [ExR] at h1; exact fin h5
    | pan c =>
      cases ex <;> simp only [ExR] at h1
      exact ⟨h4.2.1, M', .pan c, H', nx', h1, h2, h3, h5⟩
end Ax
end Go.Proofs.YtdjllogimomgmaaGreatDoor
namespace Go.Proofs.YtdjllogimomgmaaGreatDoor
namespace Ax
/-! which operations come before which -/
def maskOf (acc : List Nat) (es : List Edge) : Nat := match es with
  | [] => 0
  | e :: es => match Region.binds .any e with
    | true => (2 ^ e.on ||| (acc[e.on]?).getD 0) ||| maskOf acc es
    | false => maskOf acc es
def masks : List Nat → List Oper → List Nat
  | acc, [] => acc
  | acc, o :: os => masks (acc ++ [maskOf acc o.after.toList]) os
def ancs (ops : Array Oper) : List Nat := masks [] ops.toList
def anc (A : List Nat) (i j : Nat) : Bool := ((A[i]?).getD 0).testBit j
theorem maskOf_spec {acc : List Nat} {j : Nat} : ∀ {es : List Edge}, (maskOf acc es).testBit j = true → ∃ e ∈ es, Region.binds .any e = true ∧ (e.on = j ∨ ((acc[e.on]?).getD 0).testBit j = true)
  | [], h => by simp [maskOf] at h
  | e :: es, h => by
    unfold maskOf at h
    split at h
    · rename_i hb
      rw [Nat.testBit_or, Nat.testBit_or, Bool.or_eq_true, Bool.or_eq_true] at h
      rcases h with (h | h) | h
      · rw [Nat.testBit_two_pow] at h
        exact ⟨e, by simp, hb, .inl (by simpa using h)⟩
      · exact ⟨e, by simp, hb, .inr h⟩
      · obtain ⟨e', h1, h2⟩ := maskOf_spec h
        exact ⟨e', by simp [h1], h2⟩
    · obtain ⟨e', h1, h2⟩ := maskOf_spec h
      exact ⟨e', by simp [h1], h2⟩
theorem masks_spec : ∀ {os : List Oper} {acc : List Nat} {i : Nat}, acc.length ≤ i → i < acc.length + os.length → ∃ o pre, os[i - acc.length]? = some o ∧ (masks acc os)[i]? = some (maskOf pre o.after.toList) ∧ pre.length = i ∧ (∀ k, k < i → (masks acc os)[k]? = pre[k]?)
  | [], acc, i, h1, h2 => by simp at h2; omega
  | o :: os, acc, i, h1, h2 => by
    unfold masks
    have mono : ∀ {os : List Oper} {acc : List Nat} {k : Nat}, k < acc.length → (masks acc os)[k]? = acc[k]? := by
      intro os
      induction os with
      | nil => intro acc k hk; rfl
      | cons o os ih => intro acc k hk; unfold masks; rw [ih (by simp; omega)]; rw [List.getElem?_append_left hk]
    by_cases he : i = acc.length
    · subst he
      refine ⟨o, acc, by simp, ?_, rfl, fun k hk => ?_⟩
      · rw [mono (by simp)]; simp
      · rw [mono (by simp; omega), List.getElem?_append_left hk]
    · obtain ⟨o', pre, e1, e2, e3, e4⟩ := masks_spec (os := os) (acc := acc ++ [maskOf acc o.after.toList]) (i := i) (by simp; omega) (by simp at h2 ⊢; omega)
      refine ⟨o', pre, ?_, e2, e3, e4⟩
      rw [show i - acc.length = (i - (acc ++ [maskOf acc o.after.toList]).length) + 1 by simp; omega]
      simpa using e1
theorem anc_spec {ops : Array Oper} {i j : Nat} (h : anc (ancs ops) i j = true) : ∃ o, ops[i]? = some o ∧ ∃ e ∈ o.after.toList, Region.binds .any e = true ∧ (e.on = j ∨ (e.on < i ∧ anc (ancs ops) e.on j = true)) := by
  have hlen : ∀ {os : List Oper} {acc : List Nat}, (masks acc os).length = acc.length + os.length := by
    intro os
    induction os with
    | nil => intro acc; rfl
    | cons o os ih => intro acc; unfold masks; rw [ih]; simp; omega
  have hi : i < ops.size := by
    refine Nat.lt_of_not_le fun hn => ?_
    unfold anc ancs at h
    rw [List.getElem?_eq_none (by rw [hlen]; simpa using hn)] at h
    simp at h
  obtain ⟨o, pre, e1, e2, e3, e4⟩ := masks_spec (os := ops.toList) (acc := []) (i := i) (by simp) (by simpa using hi)
  unfold anc ancs at h
  rw [e2] at h
  obtain ⟨e, h1, h2, h3⟩ := maskOf_spec (by simpa using h)
  refine ⟨o, by simpa using e1, e, h1, h2, ?_⟩
  rcases h3 with h3 | h3
  · exact .inl h3
  · by_cases hlt : e.on < i
    · refine .inr ⟨hlt, ?_⟩
      unfold anc ancs
      rw [e4 _ hlt]; exact h3
    · rw [List.getElem?_eq_none (by omega)] at h3
      simp at h3
/-- What stands is closed: with an operation stand those before it. -/
def Clo (ops : Array Oper) (L : Nat → Bool) : Prop := ∀ i o, ops[i]? = some o → L i = true → ∀ e ∈ o.after.toList, Region.binds .any e = true → L e.on = true
theorem Clo.anc {ops : Array Oper} {L : Nat → Bool} (h : Clo ops L) : ∀ {i j : Nat}, Ax.anc (ancs ops) i j = true → L i = true → L j = true := by
  intro i
  induction i using Nat.strongRecOn with
  | _ i ih =>
    intro j ha hi
    obtain ⟨o, ho, e, he, hb, hj⟩ := anc_spec ha
    have h1 := h i o ho hi e he hb
    rcases hj with hj | ⟨hlt, hj⟩
    · rw [← hj]; exact h1
    · exact ih e.on hlt hj h1
theorem Clo.ready {ops : Array Oper} {L : Nat → Bool} (h : Clo ops L) {i j : Nat} {o : Oper} (ho : ops[i]? = some o) (hr : ∀ e ∈ o.after.toList, Region.binds .any e = true → L e.on = true) (ha : Ax.anc (ancs ops) i j = true) : L j = true := by
  obtain ⟨o', ho', e, he, hb, hj⟩ := anc_spec ha
  rw [ho] at ho'; cases ho'
  have h1 := hr e he hb
  rcases hj with hj | ⟨hlt, hj⟩
  · rw [← hj]; exact h1
  · exact h.anc hj h1
/-! the plan of a region -/
inductive Act1 where
  | skip
  | quiet (c : CV)
  | alloc (c : CV) (k : CB)
  | eff (j : Nat) (c : CV)
  | pan (j : Nat) (v : CV)
  | dead
structure Plan where
  act : Nat → Act1
  hs : Nat → Heap
  nxs : Nat → Nat
  m : Nat
  eix : Nat → Nat
def Act1.val : Act1 → CV
  | .quiet c => c
  | .alloc c _ => c
  | .eff _ c => c
  | .skip => .tup []
  | _ => .any
def wr (ops : Array Oper) (t : Nat) : Option Nat := (List.range ops.size).find? fun i => match ops[i]? with
  | some o => o.dst == some t
  | none => false
def envL (ops : Array Oper) (pl : Plan) (e0 : Env) (L : Nat → Bool) : Env := fun t => match wr ops t with
  | some i => match L i with
    | true => (pl.act i).val
    | false => e0 t
  | none => e0 t
/-- The new blocks that stand, but for those that an effect has had. -/
def newL (ops : Array Oper) (pl : Plan) (nx0 J : Nat) (L : Nat → Bool) (b : Nat) : Option CB := match Nat.ble nx0 b && L (b - nx0) with
  | true => match pl.act (b - nx0) with
    | .alloc _ k => match (List.range J).any (fun j => anc (ancs ops) (pl.eix j) (b - nx0)) with
      | true => none
      | false => some k
    | _ => none
  | false => none
def heapL (ops : Array Oper) (pl : Plan) (nx0 J : Nat) (L : Nat → Bool) : Heap := fun b => match newL ops pl nx0 J L b with
  | some k => some k
  | none => pl.hs J b
def before (ops : Array Oper) (i : Nat) : Nat → Bool := fun j => anc (ancs ops) i j
/-- An operation that writes, or a call. -/
def EffOk (P : Program) (G : Nat → CV) (o : Oper) (ρ : Operand → CV) (H : Heap) (nx : Nat) (c : CV) (H' : Heap) (nx' : Nat) : Prop :=
  ∀ M a w next Q, RG G M → Rep M H nx w → (∀ x ∈ o.op.operands, RV M (ρ x) (a.eval x)) →
    (∀ M' z w', RV M' c z → Rep M' H' nx' w' → Fr H M nx w H' M' nx' w' → next (a.put o.dst z) w') → o.wp P a w next Q
def PanOk (P : Program) (G : Nat → CV) (o : Oper) (ρ : Operand → CV) (H : Heap) (nx : Nat) (c : CV) (H' : Heap) (nx' : Nat) : Prop :=
  ∀ M a w next Q, RG G M → Rep M H nx w → (∀ x ∈ o.op.operands, RV M (ρ x) (a.eval x)) →
    (∀ M' z w', RV M' c z → Rep M' H' nx' w' → Fr H M nx w H' M' nx' w' → Q (.panic [{ v := z, recovered := false }]) a w') → o.wp P a w next Q
structure OpOk (P : Program) (G : Nat → CV) (n : Nat) (ops : Array Oper) (pl : Plan) (e0 : Env) (nx0 i : Nat) (o : Oper) : Prop where
  dst : ∀ t, o.dst = some t → t < n ∧ wr ops t = some i
  looks : ∀ t ∈ o.looksAt ops, ∀ j, wr ops t = some j → anc (ancs ops) i j = true ∨ anc (ancs ops) j i = true
  edges : ∀ e ∈ o.after.toList, Region.binds .any e = true → e.on < i
  act : match pl.act i with
    | .skip => gd ops (envL ops pl e0 (before ops i)) o = some false
    | .quiet c => gd ops (envL ops pl e0 (before ops i)) o = some true ∧ ∀ J, J ≤ pl.m → (∀ j, j ≤ pl.m → anc (ancs ops) i (pl.eix j) = true → j < J) → (∀ j, j ≤ pl.m → anc (ancs ops) (pl.eix j) i = true → J ≤ j) → qstep P (heapL ops pl nx0 J (before ops i)) (rd G (envL ops pl e0 (before ops i))) o.op = some c
    | .alloc c k => gd ops (envL ops pl e0 (before ops i)) o = some true ∧ astep P (rd G (envL ops pl e0 (before ops i))) (nx0 + i) o.op = some (c, k)
    | .eff j c => gd ops (envL ops pl e0 (before ops i)) o = some true ∧ pl.eix j = i ∧ j < pl.m ∧ (∀ j', j' < j → anc (ancs ops) i (pl.eix j') = true) ∧ EffOk P G o (rd G (envL ops pl e0 (before ops i))) (heapL ops pl nx0 j (before ops i)) (pl.nxs j) c (pl.hs (j + 1)) (pl.nxs (j + 1))
    | .pan j v => gd ops (envL ops pl e0 (before ops i)) o = some true ∧ pl.eix j = i ∧ j = pl.m ∧ (∀ j', j' < j → anc (ancs ops) i (pl.eix j') = true) ∧ PanOk P G o (rd G (envL ops pl e0 (before ops i))) (heapL ops pl nx0 j (before ops i)) (pl.nxs j) v (pl.hs (j + 1)) (pl.nxs (j + 1))
    | .dead => ∃ j' v, pl.act (pl.eix pl.m) = .pan j' v ∧ anc (ancs ops) i (pl.eix pl.m) = true
structure Plan.Ok (P : Program) (G : Nat → CV) (n : Nat) (ops : Array Oper) (pl : Plan) (e0 : Env) (H0 : Heap) (nx0 : Nat) : Prop where
  op : ∀ i o, ops[i]? = some o → OpOk P G n ops pl e0 nx0 i o
  h0 : Sub (pl.hs 0) H0
  n0 : pl.nxs 0 = nx0 + ops.size
  nmono : ∀ j, j ≤ pl.m → nx0 + ops.size ≤ pl.nxs j
  apart : ∀ J i c k, J ≤ pl.m → pl.act i = .alloc c k → i < ops.size → (∀ j, j < J → anc (ancs ops) (pl.eix j) i = false) → pl.hs J (nx0 + i) = none
  eixlt : ∀ j, j < pl.m → pl.eix j < ops.size ∧ ∃ c, pl.act (pl.eix j) = .eff j c
  eixm : (∃ j v, pl.act (pl.eix pl.m) = .pan j v ∧ pl.eix pl.m < ops.size) ∨ ops.size ≤ pl.eix pl.m
/-- The state of a drawn region in which L stands. -/
structure Inv (P : Program) (G : Nat → CV) (n : Nat) (ops : Array Oper) (pl : Plan) (e0 : Env) (H0 : Heap) (nx0 : Nat) (M0 : Mp) (w0 : World) (L : Nat → Bool) (a : Act) (w : World) : Prop where
  clo : Clo ops L
  lt : ∀ i, L i = true → i < ops.size
  ex : ∃ J M Hc, J ≤ pl.m ∧ (∀ j, j < pl.m → (L (pl.eix j) = true ↔ j < J)) ∧ L (pl.eix pl.m) = false ∧
    RG G M ∧ Rep M Hc (pl.nxs J) w ∧ Sub (heapL ops pl nx0 J L) Hc ∧ EnvR M n (envL ops pl e0 L) a ∧ Fr H0 M0 nx0 w0 Hc M (pl.nxs J) w ∧
    (∀ i c k, pl.act i = .alloc c k → i < ops.size → L i = false → M.bk (nx0 + i) = none)
def setL (L : Nat → Bool) (i : Nat) : Nat → Bool := fun j => if j = i then true else L j
theorem wr_some {ops : Array Oper} {t i : Nat} (h : wr ops t = some i) : ∃ o, ops[i]? = some o ∧ o.dst = some t := by
  have := List.find?_some h
  cases ho : ops[i]? with
  | none => simp [ho] at this
  | some o => simp [ho] at this; exact ⟨o, rfl, this⟩
theorem envL_set {P : Program} {G : Nat → CV} {n : Nat} {ops : Array Oper} {pl : Plan} {e0 : Env} {nx0 i : Nat} {o : Oper} {L : Nat → Bool} (ho : ops[i]? = some o) (hk : OpOk P G n ops pl e0 nx0 i o) :
    envL ops pl e0 (setL L i) = putE (envL ops pl e0 L) o.dst (pl.act i).val := by
  funext t
  by_cases hd : o.dst = some t
  · have := (hk.dst t hd).2
    rw [hd]
    simp [envL, this, setL, putE]
  · have e1 : putE (envL ops pl e0 L) o.dst (pl.act i).val t = envL ops pl e0 L t := by
      cases hdd : o.dst with
      | none => rfl
      | some d => simp only [putE]; rw [if_neg (fun e => hd (by rw [hdd, e]))]
    rw [e1]
    unfold envL
    cases hw : wr ops t with
    | none => rfl
    | some j =>
      have hne : j ≠ i := fun e => by
        obtain ⟨o', h1, h2⟩ := wr_some hw
        rw [e, ho] at h1; cases h1
        exact hd h2
      simp [setL, hne]
theorem agree {P : Program} {G : Nat → CV} {n : Nat} {ops : Array Oper} {pl : Plan} {e0 : Env} {nx0 i : Nat} {o : Oper} {L : Nat → Bool} (ho : ops[i]? = some o) (hk : OpOk P G n ops pl e0 nx0 i o) (hc : Clo ops L) (hi : L i = false)
    (hr : ∀ e ∈ o.after.toList, Region.binds .any e = true → L e.on = true) : ∀ t ∈ o.looksAt ops, envL ops pl e0 L t = envL ops pl e0 (before ops i) t := by
  intro t ht
  unfold envL
  cases hw : wr ops t with
  | none => rfl
  | some j =>
    simp only [before]
    cases ha : anc (ancs ops) i j with
    | true => rw [hc.ready ho hr ha]
    | false =>
      have hj : L j = false := by
        rcases hk.looks t ht j hw with h | h
        · rw [ha] at h; cases h
        · cases hl : L j with
          | false => rfl
          | true => have := hc.anc h hl; rw [hi] at this; cases this
      rw [hj]
theorem gd_congr {ops : Array Oper} {e e' : Env} {o : Oper} (h : ∀ t ∈ o.looksAt ops, e t = e' t) : gd ops e o = gd ops e' o := by
  unfold gd
  cases hg : o.guard with
  | none => rfl
  | some p =>
    obtain ⟨j, want⟩ := p
    simp only
    cases hj : ops[j]? with
    | none => rfl
    | some oj =>
      simp only
      cases hd : oj.dst with
      | none => rfl
      | some t =>
        have := h t (by simp [Oper.looksAt, hg, hj, hd])
        simp only [this]
theorem rd_congr {G : Nat → CV} {ops : Array Oper} {e e' : Env} {o : Oper} (h : ∀ t ∈ o.looksAt ops, e t = e' t) : ∀ x ∈ o.op.operands, rd G e x = rd G e' x := by
  intro x hx
  cases x with
  | tmp t =>
    refine h t ?_
    simp only [Oper.looksAt, List.mem_append, List.mem_filterMap]
    exact .inl ⟨.tmp t, by simpa using hx, rfl⟩
  | const v => rfl
  | global g => rfl
  | func f => rfl
theorem heapL_sub {ops : Array Oper} {pl : Plan} {nx0 J : Nat} {L L' : Nat → Bool} (hap : ∀ i c k, pl.act i = .alloc c k → L i = true → (∀ j, j < J → anc (ancs ops) (pl.eix j) i = false) → pl.hs J (nx0 + i) = none) (h : ∀ j, L' j = true → L j = true) : Sub (heapL ops pl nx0 J L') (heapL ops pl nx0 J L) := by
  intro b k hb
  unfold heapL at hb ⊢
  cases h1 : newL ops pl nx0 J L b with
  | some k1 =>
    cases h2 : newL ops pl nx0 J L' b with
    | some k2 =>
      rw [h2] at hb
      simp only at hb ⊢
      rw [← hb]
      unfold newL at h1 h2
      split at h1
      · split at h1
        · rename_i c' kk hk
          split at h1
          · cases h1
          · cases h1
            split at h2
            · rw [hk] at h2
              simp only at h2
              split at h2
              · cases h2
              · cases h2; rfl
            · cases h2
        · cases h1
      · cases h1
    | none =>
      rw [h2] at hb
      simp only at hb
      unfold newL at h1
      split at h1
      · rename_i hc
        simp only [Bool.and_eq_true] at hc
        have hle := Nat.le_of_ble_eq_true hc.1
        split at h1
        · rename_i c' kk hk
          split at h1
          · cases h1
          · rename_i hany
            have := hap (b - nx0) c' kk hk hc.2 (fun j hj => by
              have := List.any_eq_false.mp hany j (List.mem_range.mpr hj)
              simpa using this)
            rw [show nx0 + (b - nx0) = b by omega] at this
            rw [this] at hb; cases hb
        · cases h1
      · cases h1
  | none =>
    cases h2 : newL ops pl nx0 J L' b with
    | none => rw [h2] at hb; exact hb
    | some k2 =>
      unfold newL at h1 h2
      split at h2
      · rename_i hc
        simp only [Bool.and_eq_true] at hc
        rw [hc.1, h _ hc.2] at h1
        simp only [Bool.and_self] at h1
        split at h2
        · rename_i c' kk hk
          rw [hk] at h1
          simp only at h1
          split at h2
          · cases h2
          · rename_i hany; rw [hany] at h1; cases h1
        · cases h2
      · cases h2
end Ax
end Go.Proofs.YtdjllogimomgmaaGreatDoor
namespace Go.Proofs.YtdjllogimomgmaaGreatDoor
namespace Ax
theorem Fr.src {H H1 H' : Heap} {M M' : Mp} {nx nx' : Nat} {w w' : World} (f : Fr H1 M nx w H' M' nx' w') (s : Sub H1 H) : Fr H M nx w H' M' nx' w' :=
  ⟨f.ext, f.os, f.tape, f.output, f.grown, fun g hg hn => f.kept g hg (fun h => hn (s.im h)), fun g h => (f.mono g h).imp s.im id, f.low, f.nxle, fun g o h => (f.fzn g o h).imp id (Or.imp s.im id)⟩
theorem Fr.newAt {H0 Hc : Heap} {M0 M : Mp} {nx0 nx : Nat} {w0 w w' : World} (f : Fr H0 M0 nx0 w0 Hc M nx w) (b : Nat) (k : CB) (m : Nat) (o : Obj) (hb : M.bk b = none) (hbn : nx0 ≤ b)
    (hw : w'.heap = w.heap.push o) (ho : w'.os = w.os) (ht : w'.tape = w.tape) (hp : w'.output = w.output) :
    Fr H0 M0 nx0 w0 (upd Hc b k) (updM M b (w.heap.size, m)) nx w' := by
  have g := f.grown
  refine ⟨f.ext.trans (Ext.updM hb), by rw [ho, f.os], by rw [ht, f.tape], by rw [hp, f.output], by rw [hw]; simp; omega, fun x hx hn => ?_, ?_, ?_, f.nxle, f.fzn⟩
  · rw [hw, Array.getElem?_push, if_neg (by omega)]; exact f.kept x hx hn
  · intro x ⟨b', k', m', h1, h2⟩
    by_cases e : b' = b
    · subst e; rw [updM_hit] at h2; cases h2; exact .inr g
    · rw [upd_miss _ _ _ _ e] at h1
      rw [updM_miss _ _ _ _ e] at h2
      exact f.mono x ⟨b', k', m', h1, h2⟩
  · intro x hx; rw [updM_miss _ _ _ _ (by omega)]; exact f.low x hx
theorem newL_not {ops : Array Oper} {pl : Plan} {nx0 J i : Nat} {L : Nat → Bool} (h : ∀ c k, pl.act i ≠ .alloc c k) (b : Nat) : newL ops pl nx0 J (setL L i) b = newL ops pl nx0 J L b := by
  by_cases e : b - nx0 = i
  · have key : ∀ L', newL ops pl nx0 J L' b = none := by
      intro L'
      unfold newL
      split
      · split
        · rename_i c k hk; rw [e] at hk; exact absurd hk (h c k)
        · rfl
      · rfl
    rw [key, key]
  · unfold newL
    simp only [setL, e, if_false]
theorem heapL_not {ops : Array Oper} {pl : Plan} {nx0 J i : Nat} {L : Nat → Bool} (h : ∀ c k, pl.act i ≠ .alloc c k) : heapL ops pl nx0 J (setL L i) = heapL ops pl nx0 J L := by
  funext b; unfold heapL; rw [newL_not h]
theorem newL_some {ops : Array Oper} {pl : Plan} {nx0 J b : Nat} {L : Nat → Bool} {k : CB} (h : newL ops pl nx0 J L b = some k) : nx0 ≤ b ∧ L (b - nx0) = true ∧ (∃ c, pl.act (b - nx0) = .alloc c k) ∧ ∀ j, j < J → anc (ancs ops) (pl.eix j) (b - nx0) = false := by
  unfold newL at h
  split at h
  · rename_i hc
    simp only [Bool.and_eq_true] at hc
    split at h
    · rename_i c kk hk
      split at h
      · cases h
      · rename_i hany
        cases h
        refine ⟨Nat.le_of_ble_eq_true hc.1, hc.2, ⟨c, hk⟩, fun j hj => ?_⟩
        have := List.any_eq_false.mp hany j (List.mem_range.mpr hj)
        simpa using this
    · cases h
  · cases h
theorem newL_of {ops : Array Oper} {pl : Plan} {nx0 J b : Nat} {L : Nat → Bool} {c : CV} {k : CB} (h1 : nx0 ≤ b) (h2 : L (b - nx0) = true) (h3 : pl.act (b - nx0) = .alloc c k) (h4 : ∀ j, j < J → anc (ancs ops) (pl.eix j) (b - nx0) = false) : newL ops pl nx0 J L b = some k := by
  unfold newL
  rw [Nat.ble_eq_true_of_le h1, h2, h3]
  simp only [Bool.and_self]
  have : (List.range J).any (fun j => anc (ancs ops) (pl.eix j) (b - nx0)) = false := by
    rw [List.any_eq_false]
    intro j hj
    rw [h4 j (List.mem_range.mp hj)]; simp
  rw [this]
section drawn
variable {P : Program} {G : Nat → CV} {n : Nat} {ops : Array Oper} {pl : Plan} {e0 : Env} {H0 : Heap} {nx0 : Nat} {M0 : Mp} {w0 : World} {Q : AExit → Env → Heap → Nat → Prop}
theorem Clo.set {L : Nat → Bool} {i : Nat} {o : Oper} (hc : Clo ops L) (ho : ops[i]? = some o) (hr : ∀ e ∈ o.after.toList, Region.binds .any e = true → L e.on = true) : Clo ops (setL L i) := by
  intro j oj hoj hj e he hb
  unfold setL at hj ⊢
  by_cases e1 : e.on = i
  · simp [e1]
  · simp only [e1, if_false]
    by_cases e2 : j = i
    · subst e2; rw [ho] at hoj; cases hoj; exact hr e he hb
    · simp only [e2, if_false] at hj; exact hc j oj hoj hj e he hb
theorem step_ok (ok : Plan.Ok P G n ops pl e0 H0 nx0) (hpan : ∀ j v, pl.act (pl.eix pl.m) = .pan j v → ∀ e', Q (.pan v) e' (pl.hs (pl.m + 1)) (pl.nxs (pl.m + 1))) {L : Nat → Bool} {a : Act} {w : World} (I : Inv P G n ops pl e0 H0 nx0 M0 w0 L a w)
    {i : Nat} {o : Oper} (ho : ops[i]? = some o) (hi : L i = false) (hr : ∀ e ∈ o.after.toList, Region.binds .any e = true → L e.on = true) :
    wpOp P ops (Post n H0 M0 nx0 w0 Q) i (Inv P G n ops pl e0 H0 nx0 M0 w0 (setL L i)) a w := by
  obtain ⟨J, M, Hc, hJ, hJl, hpn, g, r, sub, v, f, hal⟩ := I.ex
  have hk := ok.op i o ho
  have hlt : i < ops.size := (Array.getElem?_eq_some_iff.mp ho).1
  have hag := agree ho hk I.clo hi hr
  have hgd := gd_congr hag
  have hrd := rd_congr (G := G) hag
  have hclo := I.clo.set ho hr
  have hlt' : ∀ j, setL L i j = true → j < ops.size := fun j hj => by
    unfold setL at hj
    by_cases e : j = i
    · subst e; exact hlt
    · simp only [e, if_false] at hj; exact I.lt j hj
  have hop : ∀ x ∈ o.op.operands, RV M (rd G (envL ops pl e0 (before ops i)) x) (a.eval x) := fun x hx => by rw [← hrd x hx]; exact v.rd g x
  have hbs : ∀ J', J' = J → Sub (heapL ops pl nx0 J' (before ops i)) Hc := fun J' e => by
    subst e
    intro b k hb
    refine sub b k (heapL_sub (fun i' c k h1 h2 h3 => ok.apart J' i' c k hJ h1 (I.lt i' h2) h3) (fun j hj => I.clo.ready ho hr hj) b k hb)
  have hd : ∀ t, o.dst = some t → t < n := fun t ht => (hk.dst t ht).1
  have hset := envL_set (L := L) ho hk
  have same : ∀ (hna : ∀ c k, pl.act i ≠ .alloc c k) (hne : ∀ j c, pl.act i ≠ .eff j c) (hnp : i ≠ pl.eix pl.m) (z : Value), RV M (pl.act i).val z → Inv P G n ops pl e0 H0 nx0 M0 w0 (setL L i) (a.put o.dst z) w := by
    intro hna hne hnp z hz
    refine ⟨hclo, hlt', J, M, Hc, hJ, ?_, ?_, g, r, by rw [heapL_not hna]; exact sub, by rw [hset]; exact v.put hz hd, f, ?_⟩
    · intro j hj
      obtain ⟨_, c, hc⟩ := ok.eixlt j hj
      have : pl.eix j ≠ i := fun e => by rw [e] at hc; exact hne j c hc
      simp only [setL, this, if_false]; exact hJl j hj
    · simp only [setL, Ne.symm hnp, if_false]; exact hpn
    · intro i' c k h1 h2 h3
      refine hal i' c k h1 h2 ?_
      unfold setL at h3
      by_cases e : i' = i
      · simp [e] at h3
      · simpa [e] using h3
  have hnpan : ∀ x, pl.act i = x → (∀ j v, x ≠ .pan j v) → i ≠ pl.eix pl.m := by
    intro x hx hnx e
    rcases ok.eixm with ⟨j, v, h1, h2⟩ | h1
    · rw [← e, hx] at h1; exact hnx j v h1
    · omega
  unfold wpOp
  simp only [ho]
  have hact := hk.act
  cases hA : pl.act i with
  | skip =>
    rw [hA] at hact
    simp only at hact
    rw [← hgd] at hact
    simp only [gd_sound hact v, Bool.false_eq_true, if_false]
    exact same (fun c k => by rw [hA]; simp) (fun j c => by rw [hA]; simp) (hnpan _ hA (by simp)) _ (by rw [hA]; exact RV.undef M)
  | quiet c =>
    rw [hA] at hact
    simp only at hact
    obtain ⟨h1, h2⟩ := hact
    rw [← hgd] at h1
    simp only [gd_sound h1 v, if_true]
    have hq := h2 J hJ (fun j hj ha => by
        have hl := I.clo.ready ho hr ha
        by_cases hjm : j = pl.m
        · subst hjm; rw [hpn] at hl; cases hl
        · exact (hJl j (by omega)).mp hl) (fun j hj ha => by
        by_cases hjm : j = pl.m
        · omega
        · refine Nat.le_of_not_lt fun hlt => ?_
          have := I.clo.anc ha ((hJl j (by omega)).mpr hlt)
          rw [hi] at this; cases this)
    obtain ⟨z, h3, h4⟩ := qstep_sound (M := M) (w := w) (σ := a.eval) hq (r.weak (hbs J rfl)) hop
    left
    unfold Oper.wp
    rw [h3]
    exact same (fun c k => by rw [hA]; simp) (fun j c => by rw [hA]; simp) (hnpan _ hA (by simp)) z (by rw [hA]; exact h4)
  | alloc c k =>
    rw [hA] at hact
    simp only at hact
    obtain ⟨h1, h2⟩ := hact
    rw [← hgd] at h1
    simp only [gd_sound h1 v, if_true]
    have hb := hal i c k hA hlt hi
    obtain ⟨z, obj, m, w', e1, e2, e3, e4, e5, e6, e7⟩ := astep_sound (w := w) (σ := a.eval) h2 hb hop
    left
    unfold Oper.wp
    rw [e1]
    have hbl : nx0 + i < pl.nxs J := by have := ok.nmono J hJ; omega
    have r' := r.new (nx0 + i) k m obj hb (Nat.le_refl _) hbl e2 e6
    have f' := f.newAt (nx0 + i) k m obj hb (by omega) e2 e3 e4 e5
    have he : Ext M (updM M (nx0 + i) (w.heap.size, m)) := Ext.updM hb
    have hnabs : ∀ j, j < J → anc (ancs ops) (pl.eix j) i = false := fun j hj => by
      cases ha : anc (ancs ops) (pl.eix j) i with
      | false => rfl
      | true => have := I.clo.anc ha ((hJl j (by omega)).mpr hj); rw [hi] at this; cases this
    refine ⟨hclo, hlt', J, _, _, hJ, ?_, ?_, g.ext he, r', ?_, by rw [hset, hA]; exact (v.ext he).put e7 hd, f', ?_⟩
    · intro j hj
      obtain ⟨_, c', hc⟩ := ok.eixlt j hj
      have : pl.eix j ≠ i := fun e => by rw [e, hA] at hc; cases hc
      simp only [setL, this, if_false]; exact hJl j hj
    · have hnp := hnpan _ hA (by simp)
      simp only [setL, Ne.symm hnp, if_false]; exact hpn
    · intro b k' hbk
      by_cases eb : b = nx0 + i
      · subst eb
        have hnew : newL ops pl nx0 J (setL L i) (nx0 + i) = some k := newL_of (c := c) (by omega) (by simp [setL]) (by simpa using hA) (by simpa using hnabs)
        unfold heapL at hbk
        rw [hnew] at hbk
        rw [upd_hit]; exact hbk
      · rw [upd_miss _ _ _ _ eb]
        refine sub b k' ?_
        unfold heapL at hbk ⊢
        have : newL ops pl nx0 J (setL L i) b = newL ops pl nx0 J L b := by
          unfold newL
          by_cases e' : b - nx0 = i
          · have hlt2 : ¬ nx0 ≤ b := fun h => eb (by omega)
            have : Nat.ble nx0 b = false := by
              cases hx : Nat.ble nx0 b with
              | false => rfl
              | true => exact absurd (Nat.le_of_ble_eq_true hx) hlt2
            rw [this]; rfl
          · simp only [setL, e', if_false]
        rw [this] at hbk; exact hbk
    · intro i' c' k' h1' h2' h3'
      unfold setL at h3'
      by_cases e' : i' = i
      · simp [e'] at h3'
      · simp only [e', if_false] at h3'
        rw [updM_miss _ _ _ _ (by omega)]
        exact hal i' c' k' h1' h2' h3'
  | eff j c =>
    rw [hA] at hact
    simp only at hact
    obtain ⟨h1, h2, h3, h4, h5⟩ := hact
    rw [← hgd] at h1
    simp only [gd_sound h1 v, if_true]
    have hJj : J = j := by
      have a1 : ¬ j < J := fun hlt => by have := (hJl j h3).mpr hlt; rw [h2, hi] at this; cases this
      have a2 : ¬ J < j := fun hlt => by
        have := I.clo.ready ho hr (h4 J hlt)
        have := (hJl J (by omega)).mp this
        omega
      omega
    subst hJj
    left
    refine h5 M a w _ _ g (r.weak (hbs J rfl)) hop ?_
    intro M' z w' hz r' f'
    let X : Heap := fun b => match newL ops pl nx0 (J + 1) L b with
      | some _ => Hc b
      | none => none
    have hX : ∀ b k, X b = some k → Hc b = some k ∧ ∃ k', newL ops pl nx0 (J + 1) L b = some k' := by
      intro b k hb
      simp only [X] at hb
      cases hn : newL ops pl nx0 (J + 1) L b with
      | none => rw [hn] at hb; cases hb
      | some k' => rw [hn] at hb; exact ⟨hb, k', rfl⟩
    have hnb : ∀ b k', newL ops pl nx0 (J + 1) L b = some k' → newL ops pl nx0 J L b = some k' ∧ pl.hs J b = none ∧ pl.hs (J + 1) b = none := by
      intro b k' hn
      obtain ⟨n1, n2, ⟨c', n3⟩, n4⟩ := newL_some hn
      have hbl := I.lt _ n2
      have q1 := ok.apart J (b - nx0) c' k' hJ n3 hbl (fun j hj => n4 j (by omega))
      have q2 := ok.apart (J + 1) (b - nx0) c' k' (by omega) n3 hbl n4
      rw [show nx0 + (b - nx0) = b by omega] at q1 q2
      exact ⟨newL_of n1 n2 n3 (fun j hj => n4 j (by omega)), q1, q2⟩
    obtain ⟨rr, ff⟩ := Rep.frame X r (hbs J rfl) (fun b k hb => (hX b k hb).1) (fun b k hb => by
      obtain ⟨_, k', hn⟩ := hX b k hb
      obtain ⟨n1, n2, ⟨c', n3⟩, n4⟩ := newL_some hn
      obtain ⟨_, q1, _⟩ := hnb b k' hn
      unfold heapL
      have : newL ops pl nx0 J (before ops i) b = none := by
        cases hx : newL ops pl nx0 J (before ops i) b with
        | none => rfl
        | some k'' =>
          obtain ⟨_, m2, _, _⟩ := newL_some hx
          have := n4 J (by omega)
          rw [h2] at this
          simp only [before] at m2
          rw [m2] at this; cases this
      rw [this]; exact q1) r' f'
    have hna : ∀ c k, pl.act i ≠ .alloc c k := fun c k => by rw [hA]; simp
    refine ⟨hclo, hlt', J + 1, M', _, by omega, ?_, ?_, g.ext ff.ext, rr, ?_, by rw [hset, hA]; exact (v.ext ff.ext).put hz hd, f.trans ff, ?_⟩
    · intro j' hj'
      by_cases e : j' = J
      · subst e; rw [h2]; simp [setL]
      · have : pl.eix j' ≠ i := fun e' => by
          obtain ⟨_, c', hc⟩ := ok.eixlt j' hj'
          rw [e', hA] at hc; cases hc; exact e rfl
        simp only [setL, this, if_false]
        rw [hJl j' hj']; omega
    · have hnp := hnpan _ hA (by simp)
      simp only [setL, Ne.symm hnp, if_false]; exact hpn
    · rw [heapL_not hna]
      intro b k hb
      unfold heapL at hb
      unfold cup
      cases hn : newL ops pl nx0 (J + 1) L b with
      | some k' =>
        rw [hn] at hb
        simp only [Option.some.injEq] at hb
        subst hb
        have : Hc b = some k' := sub b k' (by unfold heapL; rw [(hnb b k' hn).1])
        simp only [X, hn, this]
      | none =>
        rw [hn] at hb
        simp only [X, hn]; exact hb
    · intro i' c' k' h1' h2' h3'
      unfold setL at h3'
      by_cases e' : i' = i
      · simp [e'] at h3'
      · simp only [e', if_false] at h3'
        rw [f'.low _ (by have := ok.nmono J hJ; omega)]
        exact hal i' c' k' h1' h2' h3'
  | pan j c =>
    rw [hA] at hact
    simp only at hact
    obtain ⟨h1, h2, h3, h4, h5⟩ := hact
    rw [← hgd] at h1
    simp only [gd_sound h1 v, if_true]
    have hJj : J = j := by
      have a2 : ¬ J < j := fun hlt => by
        have := I.clo.ready ho hr (h4 J hlt)
        have := (hJl J (by omega)).mp this
        omega
      omega
    subst hJj
    left
    refine h5 M a w _ _ g (r.weak (hbs J rfl)) hop ?_
    intro M' z w' hz r' f'
    have hA' : pl.act (pl.eix pl.m) = .pan J c := by rw [← h3, h2]; exact hA
    have hq := hpan J c hA' (envL ops pl e0 L)
    rw [← h3] at hq
    have ff := f.trans (f'.src (hbs J rfl))
    exact ⟨M', .pan c, envL ops pl e0 L, _, _, ⟨z, rfl, hz⟩, r', ff, v.ext f'.ext, hq⟩
  | dead =>
    rw [hA] at hact
    simp only at hact
    obtain ⟨j', v', h1, h2⟩ := hact
    have := I.clo.ready ho hr h2
    rw [hpn] at this; cases this
theorem filter_lt {p q : Nat → Bool} : ∀ {l : List Nat}, (∀ x ∈ l, q x = true → p x = true) → (∃ x ∈ l, p x = true ∧ q x = false) → (l.filter q).length < (l.filter p).length
  | [], _, ⟨x, h, _⟩ => by cases h
  | y :: l, h1, ⟨x, hx, h2, h3⟩ => by
    have mono : ∀ {l : List Nat}, (∀ x ∈ l, q x = true → p x = true) → (l.filter q).length ≤ (l.filter p).length := by
      intro l
      induction l with
      | nil => intro _; simp
      | cons z l ih =>
        intro hh
        have i1 := ih (fun x hx => hh x (by simp [hx]))
        have i2 := hh z (by simp)
        simp only [List.filter_cons]
        cases hq : q z <;> cases hp : p z <;> simp_all <;> omega
    have m1 := mono (l := l) (fun x hx => h1 x (by simp [hx]))
    simp only [List.filter_cons]
    rcases List.mem_cons.mp hx with rfl | hx
    · rw [h2, h3]; simp; omega
    · have ih := filter_lt (l := l) (fun x hx => h1 x (by simp [hx])) ⟨x, hx, h2, h3⟩
      have i2 := h1 y (by simp)
      cases hq : q y <;> cases hp : p y <;> simp_all <;> omega
def allL (ops : Array Oper) : Nat → Bool := fun i => Nat.blt i ops.size
theorem any_ok (ok : Plan.Ok P G n ops pl e0 H0 nx0) (hpan : ∀ j v, pl.act (pl.eix pl.m) = .pan j v → ∀ e', Q (.pan v) e' (pl.hs (pl.m + 1)) (pl.nxs (pl.m + 1)))
    (hfin : ops.size ≤ pl.eix pl.m → Q .normal (envL ops pl e0 (allL ops)) (heapL ops pl nx0 pl.m (allL ops)) (pl.nxs pl.m)) :
    ∀ (fuel : Nat) (listed : Array Bool) (a : Act) (w : World), listed.size = ops.size → ((List.range ops.size).filter fun i => !listed.getD i false).length ≤ fuel → Inv P G n ops pl e0 H0 nx0 M0 w0 (fun i => listed.getD i false) a w →
      wpAny P .any ops (Post n H0 M0 nx0 w0 Q) fuel listed a w := by
  have done : ∀ (listed : Array Bool) (a : Act) (w : World), listed.size = ops.size → Inv P G n ops pl e0 H0 nx0 M0 w0 (fun i => listed.getD i false) a w → Region.ready .any ops listed = [] → Post n H0 M0 nx0 w0 Q .normal a w := by
    intro listed a w hs I hr
    have hall : ∀ i, i < ops.size → listed.getD i false = true := by
      intro i
      induction i using Nat.strongRecOn with
      | _ i ih =>
        intro hi
        cases hl : listed.getD i false with
        | true => rfl
        | false =>
          have ho : ops[i]? = some ops[i] := by simp [hi]
          have hk := ok.op i _ ho
          have : i ∈ Region.ready .any ops listed := mem_ready.mpr ⟨by
            have : listed.getD i true = listed.getD i false := by
              have hil : i < listed.size := by omega
              simp [Array.getD, hil]
            rw [this, hl], _, ho, fun e he hb => ih e.on (hk.edges e (by simpa using he) hb) (Nat.lt_trans (hk.edges e (by simpa using he) hb) hi)⟩
          rw [hr] at this; cases this
    obtain ⟨J, M, Hc, hJ, hJl, hpn, g, r, sub, v, f, hal⟩ := I.ex
    have hJm : J = pl.m := by
      refine Nat.le_antisymm hJ (Nat.le_of_not_lt fun hlt => ?_)
      have := (hJl J hlt).mp (hall _ (ok.eixlt J hlt).1)
      omega
    subst hJm
    have hnp : ops.size ≤ pl.eix pl.m := by
      rcases ok.eixm with ⟨j, v, h1, h2⟩ | h1
      · have := hall _ h2; rw [hpn] at this; cases this
      · exact h1
    have hL : (fun i => listed.getD i false) = allL ops := by
      funext i
      unfold allL
      by_cases hi : i < ops.size
      · rw [hall i hi, lt_blt hi]
      · have h1 : Nat.blt i ops.size = false := by
          cases hb : Nat.blt i ops.size with
          | false => rfl
          | true => exact absurd (blt_lt hb) hi
        have hil : ¬ i < listed.size := by omega
        rw [h1]; simp [Array.getD, hil]
    rw [hL] at sub v
    exact ⟨M, .normal, _, _, _, trivial, r.weak sub, f.trans (.weak sub), v, hfin hnp⟩
  intro fuel
  induction fuel with
  | zero =>
    intro listed a w hs hf I
    have hr : Region.ready .any ops listed = [] := by
      cases hrr : Region.ready .any ops listed with
      | nil => rfl
      | cons i rs =>
        have hi : i ∈ Region.ready .any ops listed := by rw [hrr]; simp
        obtain ⟨h1, o, ho, h2⟩ := mem_ready.mp hi
        have hlt : i < ops.size := (Array.getElem?_eq_some_iff.mp ho).1
        have : i ∈ (List.range ops.size).filter fun i => !listed.getD i false := by
          rw [List.mem_filter]
          refine ⟨List.mem_range.mpr hlt, ?_⟩
          have e : listed.getD i true = listed.getD i false := by
            have hil : i < listed.size := by omega
            simp [Array.getD, hil]
          rw [← e, h1]; rfl
        have hl := List.length_pos_of_mem this
        omega
    exact ⟨hr, done listed a w hs I hr⟩
  | succ fuel ih =>
    intro listed a w hs hf I
    refine ⟨fun hr => done listed a w hs I hr, fun i hi => ?_⟩
    obtain ⟨h1, o, ho, h2⟩ := mem_ready.mp hi
    have hlt : i < ops.size := (Array.getElem?_eq_some_iff.mp ho).1
    have hil : i < listed.size := by omega
    have e : listed.getD i true = listed.getD i false := by simp [Array.getD, hil]
    rw [e] at h1
    have hset : (fun j => (listed.setIfInBounds i true).getD j false) = setL (fun j => listed.getD j false) i := by
      funext j
      unfold setL
      by_cases ej : j = i
      · subst ej; simp [Array.getD, hil]
      · simp only [ej, if_false]; exact getD_set_ne false (Ne.symm ej)
    refine wpOp_mono (fun a' w' hI => ih (listed.setIfInBounds i true) a' w' (by simpa using hs) ?_ (by rw [hset]; exact hI)) (step_ok ok hpan I ho h1 (fun e he hb => h2 e (by simpa using he) hb))
    have := filter_lt (p := fun j => !listed.getD j false) (q := fun j => !(listed.setIfInBounds i true).getD j false) (l := List.range ops.size) (fun x hx hq => by
        have hx' : (listed.setIfInBounds i true).getD x false = setL (fun j => listed.getD j false) i x := congrFun hset x
        rw [hx'] at hq
        unfold setL at hq
        by_cases ex : x = i
        · simp [ex] at hq
        · simpa [ex] using hq) ⟨i, List.mem_range.mpr hlt, by simp only [h1]; rfl, by
        have hx' : (listed.setIfInBounds i true).getD i false = setL (fun j => listed.getD j false) i i := congrFun hset i
        rw [hx']; simp [setL]⟩
    omega
/-- A region that draws its order. -/
theorem AWp.drawn {id : Nat} (hm : P.follows .mixedOrders = true) (ok : Plan.Ok P G n ops pl e0 H0 nx0) (hpan : ∀ j v, pl.act (pl.eix pl.m) = .pan j v → ∀ e', Q (.pan v) e' (pl.hs (pl.m + 1)) (pl.nxs (pl.m + 1)))
    (hfin : ops.size ≤ pl.eix pl.m → Q .normal (envL ops pl e0 (allL ops)) (heapL ops pl nx0 pl.m (allL ops)) (pl.nxs pl.m)) : AWp P G n (.region id ops true) e0 H0 nx0 Q := by
  intro M a w g r v
  refine wp_region_any hm (any_ok (M0 := M) (w0 := w) ok hpan hfin ops.size _ a _ (by simp) ?_ ?_)
  · exact Nat.le_trans (List.length_filter_le _ _) (by simp)
  · have hL : (fun i => (Array.replicate ops.size false).getD i false) = fun _ => false := by
      funext i
      simp only [Array.getD]
      split <;> simp
    rw [hL]
    have r' : Rep M H0 nx0 { w with drawn := w.drawn + 1 } := r.same rfl
    have f' : Fr H0 M nx0 w H0 M nx0 { w with drawn := w.drawn + 1 } := Fr.drew rfl rfl rfl rfl
    refine ⟨fun i o _ hi => (by cases hi), fun i hi => (by cases hi), 0, M, H0, Nat.zero_le _, fun j _ => ⟨fun h => (by cases h), fun h => absurd h (Nat.not_lt_zero _)⟩, rfl, g, ?_, ?_, ?_, ?_, ?_⟩
    · rw [ok.n0]; exact r'.up (by omega)
    · intro b k hb
      unfold heapL at hb
      have : newL ops pl nx0 0 (fun _ => false) b = none := by
        cases hx : newL ops pl nx0 0 (fun _ => false) b with
        | none => rfl
        | some k' => have := (newL_some hx).2.1; cases this
      rw [this] at hb
      exact ok.h0 b k hb
    · have : envL ops pl e0 (fun _ => false) = e0 := by
        funext t; unfold envL; cases wr ops t <;> rfl
      rw [this]; exact v
    · rw [ok.n0]; exact f'.trans (Fr.up (by omega))
    · intro i c k _ hi _
      exact r.fresh _ (by omega)
end drawn
end Ax
end Go.Proofs.YtdjllogimomgmaaGreatDoor
