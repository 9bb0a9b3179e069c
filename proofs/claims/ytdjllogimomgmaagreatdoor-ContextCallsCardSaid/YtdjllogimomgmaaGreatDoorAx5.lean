/-
  AX: operations that make memory, and those that write.
-/
import Derived.Test.YtdjllogimomgmaaGreatDoorAx4
import Derived.Laws.MakeOwn
import Derived.Laws.RangeString
set_option linter.unusedSimpArgs false
set_option linter.unusedVariables false
namespace Go.Proofs.YtdjllogimomgmaaGreatDoor
namespace Ax
/-! new blocks -/
def zrep (zs : List CV) (n : Nat) : List CV := (List.range n).map fun j => (zs[j % zs.length]?).getD .any
theorem zrep_sound {M : Mp} {zs : List CV} {z : Array Value} (h : RVs M zs z.toList) (n : Nat) : RVs M (zrep zs n) ((Array.range n).map (z[· % z.size]!)).toList := by
  refine ⟨by simp [zrep], fun j a b => ?_⟩
  have hl : z.size = zs.length := by have := h.1; simpa using this
  simp only [zrep, List.getElem_map, List.getElem_range, Array.toList_map, Array.toList_range]
  cases hz : zs[j % zs.length]? with
  | none => exact .any _
  | some c =>
    obtain ⟨v, hv, hr⟩ := h.at' hz
    simp only [Option.getD_some]
    have : z[j % z.size]! = v := by
      rw [hl]
      have hv' : z[j % zs.length]? = some v := by rw [← Array.getElem?_toList]; exact hv
      simp [getElem!_def, hv']
    rw [this]; exact hr
def astep (P : Program) (ρ : Operand → CV) (b : Nat) (op : Op) : Option (CV × CB) := match op with
  | .alloc t => match ti P t with
    | some i => match (ofV i.zero).cs with
      | some zs => some (.ptr b 0, .cells zs)
      | none => none
    | none => none
  | .box t x => match (ρ x).cs with
    | some l => some (.ptr b 0, .cells l)
    | none => none
  | .buildSlice t len parts => match ti P t with
    | some ⟨.slice e, _, _, _⟩ => match ti P e with
      | some i => match Nat.ble (len * i.size) 16777216 with
        | true => match (ofV i.zero).cs with
          | some zs => match fillA (fun j => some (j * i.size, i.size)) (zrep zs (len * i.size)) (parts.toList.map fun p => (p.1, ρ p.2)) with
            | some l => some (.sl b 0 len i.size, .cells l)
            | none => none
          | none => none
        | false => none
      | none => none
    | _ => none
  | .makeMap t r => match r with
    | none => some (.mp b, .map [] [])
    | some x => match ti P t with
      | some ⟨.map _ _, _, _, _⟩ => match ρ x with
        | .int _ _ => some (.mp b, .map [] [])
        | _ => none
      | _ => none
  | .makeSlice t l c => match ti P t with
    | some ⟨.slice e, _, _, _⟩ => match ti P e with
      | some i => match ρ l, ρ c with
        | .int .i64 n, .int .i64 n' => match natOf n, natOf n' with
          | some k, some k' => match Nat.beq k k' && Nat.ble (k * i.bytes) 140737488355328 && Nat.ble k 9223372036854775807 with
            | true => match (ofV i.zero).cs with
              | some zs => some (.sl b 0 k i.size, .cells (zrep zs (k * i.size)))
              | none => none
            | false => none
          | _, _ => none
        | _, _ => none
      | none => none
    | _ => none
  | .range t x => match ti P t with
    | some ⟨.string, _, _, _⟩ => match ρ x with
      | .str l => some (.ptr b 0, .iter l 0)
      | _ => none
    | _ => none
  | _ => none
theorem fill_size {place : Nat → Option (Nat × Nat)} : ∀ {qs : List (Nat × Value)} {arr arr' : Array Value}, Instr.fill place arr qs = some arr' → arr'.size = arr.size
  | [], arr, arr', h => by cases h; rfl
  | (i, v) :: qs, arr, arr', h => by
    unfold Instr.fill at h
    split at h
    · cases h
    · split at h
      · cases h
      · rw [fill_size h]
        have : ∀ (l : List (Value × Nat)) (off : Nat) (a : Array Value), (l.foldl (fun cs (x : Value × Nat) => cs.setIfInBounds (off + x.2) x.1) a).size = a.size := by
          intro l off
          induction l with
          | nil => intro a; rfl
          | cons x l ih => intro a; rw [List.foldl_cons, ih]; simp
        rw [← Array.foldl_toList]
        exact this _ _ _
theorem astep_sound {P : Program} {ρ : Operand → CV} {o : Oper} {b : Nat} {c : CV} {k : CB} {M : Mp} {w : World} {σ : Operand → Value} (h : astep P ρ b o.op = some (c, k)) (hb : M.bk b = none) (hρ : ∀ x ∈ o.op.operands, RV M (ρ x) (σ x)) :
    ∃ z obj m w', (execOp σ o).run P w = .ok (.value z) w' ∧ w'.heap = w.heap.push obj ∧ w'.os = w.os ∧ w'.tape = w.tape ∧ w'.output = w.output ∧
      RB (updM M b (w.heap.size, m)) w' w.heap.size m k ∧ RV (updM M b (w.heap.size, m)) c z := by
  have he : ∀ m, Ext M (updM M b (w.heap.size, m)) := fun m => Ext.updM hb
  have new : ∀ (arr : Array Value) (T : TypeId) (l : List CV), RVs M l arr.toList → RB (updM M b (w.heap.size, arr.size)) { w with heap := w.heap.push (.cells arr T) } w.heap.size arr.size (.cells l) := by
    intro arr T l hl
    refine ⟨arr, T, by simp, rfl, ?_⟩
    have : l.length = arr.toList.length := hl.1.symm
    rw [this, List.take_length]; exact hl.ext (he _)
  unfold astep at h
  split at h
  · rename_i t hop
    split at h
    case h_2 => cases h
    rename_i i hti
    split at h
    case h_2 => cases h
    rename_i zs hzs
    cases h
    refine ⟨.pointer (some ⟨w.heap.size, 0, none⟩), .cells i.zero.cells t, i.zero.cells.size, { w with heap := w.heap.push (.cells i.zero.cells t) }, ?_, rfl, rfl, rfl, rfl, new _ _ _ ((RV.ofV M i.zero).cs hzs), .ptr _ _ _ _ (updM_hit _ _ _)⟩
    simp [execOp, hop, Instr.alloc, ti_zero hti, newVar, newRow]
  · rename_i t x hop
    split at h
    case h_2 => cases h
    rename_i l hl
    cases h
    have hx := hρ x (by simp [hop, Op.operands])
    refine ⟨.pointer (some ⟨w.heap.size, 0, none⟩), .cells (σ x).cells t, (σ x).cells.size, { w with heap := w.heap.push (.cells (σ x).cells t) }, ?_, rfl, rfl, rfl, rfl, new _ _ _ (hx.cs hl), .ptr _ _ _ _ (updM_hit _ _ _)⟩
    simp [execOp, hop, Instr.box, newVar, newRow]
  · rename_i t len parts hop
    split at h
    case h_2 => cases h
    rename_i e _ _ _ ht
    split at h
    case h_2 => cases h
    rename_i i hti
    split at h
    case h_2 => cases h
    rename_i hle
    have hle' := Nat.le_of_ble_eq_true hle
    split at h
    case h_2 => cases h
    rename_i zs hzs
    split at h
    case h_2 => cases h
    rename_i l hl
    cases h
    have hp : RParts M (parts.toList.map fun p => (p.1, ρ p.2)) (parts.map fun p => (p.1, σ p.2)).toList := by
      refine ⟨by simp [Function.comp_def], ?_⟩
      simp only [Array.toList_map, List.map_map, Function.comp_def]
      have := RVs.map (M := M) (ρ := ρ) (σ := σ) (l := parts.toList.map (·.2)) (fun x hx => hρ x (by simpa [hop, Op.operands] using hx))
      simpa [List.map_map, Function.comp_def] using this
    have hz0 := (RV.ofV M i.zero).cs hzs
    by_cases hz : len * i.size = 0
    · obtain ⟨arr', e1, e2⟩ := fillA_sound (arr := ((Array.range (len * i.size)).map ((#[] : Array Value)[· % (#[] : Array Value).size]!))) hl hp (by
        rw [hz]; exact ⟨by simp [zrep], fun j a => by simp [zrep] at a⟩)
      have hsz := fill_size e1
      refine ⟨.slice (some ⟨w.heap.size, 0, none⟩) len len, .cells arr' e, arr'.size, { w with heap := w.heap.push (.cells arr' e) }, ?_, rfl, rfl, rfl, rfl, new _ _ _ e2, .sl _ _ _ _ _ _ len (updM_hit _ _ _) (Nat.le_refl _) (by simp at hsz; omega)⟩
      simp only [execOp, hop, Sem.run_bind, Instr.buildSlice, ti_und ht, Result.andThen_ok, ti_size hti]
      have hn : ¬ (len * i.size > 2 ^ 24) := by omega
      rw [if_neg hn, if_pos hz]
      simp only [Sem.run_bind, Sem.run_pure, Result.andThen_ok, e1, newRow, run_newObj]
    · obtain ⟨arr', e1, e2⟩ := fillA_sound (arr := ((Array.range (len * i.size)).map (i.zero.cells[· % i.zero.cells.size]!))) hl hp (zrep_sound hz0 _)
      have hsz := fill_size e1
      refine ⟨.slice (some ⟨w.heap.size, 0, none⟩) len len, .cells arr' e, arr'.size, { w with heap := w.heap.push (.cells arr' e) }, ?_, rfl, rfl, rfl, rfl, new _ _ _ e2, .sl _ _ _ _ _ _ len (updM_hit _ _ _) (Nat.le_refl _) (by simp at hsz; omega)⟩
      simp only [execOp, hop, Sem.run_bind, Instr.buildSlice, ti_und ht, Result.andThen_ok, ti_size hti]
      have hn : ¬ (len * i.size > 2 ^ 24) := by omega
      rw [if_neg hn, if_neg hz]
      simp only [Sem.run_bind, ti_zero hti, Sem.run_pure, Result.andThen_ok, e1, newRow, run_newObj]
  · rename_i t r hop
    have fin : RB (updM M b (w.heap.size, 0)) { w with heap := w.heap.push (.map #[] 0) } w.heap.size 0 (.map [] []) := ⟨#[], 0, by simp, .nil, .nil⟩
    split at h
    · cases h
      refine ⟨.map (some w.heap.size), .map #[] 0, 0, { w with heap := w.heap.push (.map #[] 0) }, ?_, rfl, rfl, rfl, rfl, fin, .mp _ _ _ (updM_hit _ _ _)⟩
      simp [execOp, hop, Instr.makeMap]
    · rename_i x
      split at h
      case h_2 => cases h
      rename_i ht
      split at h
      case h_2 => cases h
      rename_i hx
      cases h
      have hx' := hρ x (by simp [hop, Op.operands])
      rw [hx] at hx'
      generalize hv : σ x = v at hx'
      cases hx'
      refine ⟨.map (some w.heap.size), .map #[] 0, 0, { w with heap := w.heap.push (.map #[] 0) }, ?_, rfl, rfl, rfl, rfl, fin, .mp _ _ _ (updM_hit _ _ _)⟩
      simp [execOp, hop, Instr.makeMap, ti_und ht, hv, asInt, asIntOf]
  · rename_i t l cc hop
    split at h
    case h_2 => cases h
    rename_i e _ _ _ ht
    split at h
    case h_2 => cases h
    rename_i i hti
    split at h
    case h_2 => cases h
    rename_i n n' hl hc
    split at h
    case h_2 => cases h
    rename_i q q' hq hq'
    split at h
    case h_2 => cases h
    rename_i hbb
    split at h
    case h_2 => cases h
    rename_i zs hzs
    cases h
    simp only [Bool.and_eq_true] at hbb
    have h1 := beq_eq hbb.1.1
    have h2 := Nat.le_of_ble_eq_true hbb.1.2
    have h3 := Nat.le_of_ble_eq_true hbb.2
    subst h1
    have e1 := natOf_spec hq
    have e2 := natOf_spec hq'
    subst e1; subst e2
    have hl' := hρ l (by simp [hop, Op.operands])
    have hc' := hρ cc (by simp [hop, Op.operands])
    rw [hl] at hl'; rw [hc] at hc'
    generalize hv : σ l = v at hl'
    generalize hu : σ cc = u at hc'
    cases hl'; cases hc'
    obtain ⟨_, f, hf, hs, hz, hby⟩ := ti_spec hti
    have hz0 := (RV.ofV M i.zero).cs hzs
    have t1 : (f.bytes : Int) * (q : Int) ≤ 281474976710656 := by
      rw [hby, Int.mul_comm, ← Int.natCast_mul]
      generalize q * i.bytes = X at h2
      omega
    have hrun := run_make (P := P) w t e f i.zero (ti_spec ht).1 hf hz .i64 .i64 q q (by omega) (Int.le_refl _) t1 (by omega)
    simp only [Int.toNat_natCast, hs] at hrun
    have hsz : (madeCells i.zero.cells (q * i.size)).size = q * i.size := size_madeCells _ _
    refine ⟨.slice (some ⟨w.heap.size, 0, none⟩) q q, .cells (madeCells i.zero.cells (q * i.size)) e, (madeCells i.zero.cells (q * i.size)).size, { w with heap := w.heap.push (.cells (madeCells i.zero.cells (q * i.size)) e) }, ?_, rfl, rfl, rfl, rfl, new _ e _ (zrep_sound hz0 _), .sl _ _ _ _ _ _ q (updM_hit _ _ _) (Nat.le_refl _) (by rw [hsz]; omega)⟩
    simp only [execOp, hop, Sem.run_bind, hv, hu, hrun, Result.andThen_ok, Sem.run_pure]
    rfl
  · rename_i t x hop
    split at h
    case h_2 => cases h
    rename_i ht
    split at h
    case h_2 => cases h
    rename_i l hx
    cases h
    have hx' := hρ x (by simp [hop, Op.operands])
    rw [hx] at hx'
    generalize hv : σ x = v at hx'
    cases hx' with
    | str _ s hs =>
    refine ⟨.pointer (some ⟨w.heap.size, 0, none⟩), .stringIter s 0, 0, w.iter s 0, ?_, rfl, rfl, rfl, rfl, ⟨s, by simp [World.iter_heap], hs⟩, .ptr _ _ _ _ (updM_hit _ _ _)⟩
    simp only [execOp, hop, Sem.run_bind, hv, run_range_string w t s (ti_spec ht).1, Result.andThen_ok, Sem.run_pure]
  · cases h
end Ax
end Go.Proofs.YtdjllogimomgmaaGreatDoor
