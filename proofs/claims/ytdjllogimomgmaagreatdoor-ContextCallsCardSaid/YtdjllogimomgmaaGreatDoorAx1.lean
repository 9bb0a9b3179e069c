/-
  AX: operations that only look.
-/
import Derived.Test.YtdjllogimomgmaaGreatDoorAx0
import Derived.Laws.CopyRow
import Derived.Laws.Append
import Derived.Laws.AppendOwn
import Derived.Laws.StructEq
import Derived.Laws.BytesString
import Derived.MapKept
import Derived.ChangeKeysEq
set_option linter.unusedSimpArgs false
set_option linter.unusedVariables false
namespace Go.Proofs.YtdjllogimomgmaaGreatDoor
namespace Ax
/-- What the operations ask of a type. -/
structure TI where
  und : TypeDesc
  size : Nat
  zero : Value
  bytes : Nat
def ti (P : Program) (t : TypeId) : Option TI := match P.info? t with
  | some i => match P.underlying t with
    | some d => match i.zero with
      | some z => some ⟨d, i.size, z, i.bytes⟩
      | none => none
    | none => none
  | none => none
theorem ti_spec {P : Program} {t : TypeId} {i : TI} (h : ti P t = some i) : P.underlying t = some i.und ∧ ∃ f, P.info? t = some f ∧ f.size = i.size ∧ f.zero = some i.zero ∧ f.bytes = i.bytes := by
  unfold ti at h
  split at h
  · rename_i f hf
    split at h
    · rename_i d hd
      split at h
      · rename_i z hz; cases h; exact ⟨hd, f, hf, rfl, hz, rfl⟩
      · cases h
    · cases h
  · cases h
section runs
variable {P : Program} {t : TypeId} {i : TI}
theorem ti_und (h : ti P t = some i) (w : World) : (underlying t).run P w = .ok i.und w := run_underlying (ti_spec h).1 w
theorem ti_size (h : ti P t = some i) (w : World) : (sizeOf t).run P w = .ok i.size w := by
  obtain ⟨_, f, hf, hs, _⟩ := ti_spec h
  simp [sizeOf, typeInfo, hf, hs]
theorem ti_zero (h : ti P t = some i) (w : World) : (zeroValue t).run P w = .ok i.zero w := by
  obtain ⟨_, f, hf, _, hz, _⟩ := ti_spec h
  simp [zeroValue, typeInfo, hf, hz]
def isAggD : TypeDesc → Bool
  | .struct _ | .array _ _ => true
  | _ => false
theorem ti_agg (h : ti P t = some i) (w : World) : (isAgg t).run P w = .ok (isAggD i.und) w := by
  simp only [isAgg, Sem.run_bind, ti_und h, Result.andThen_ok]
  cases i.und <;> simp [isAggD]
end runs
/-- Constants. -/
def ofS : Value → CV
  | .bool b => .bool b
  | .int k n => .int k n
  | .string s => .str s.data.toList
  | .pointer none => .nilp
  | .slice none 0 0 => .nils
  | .map none => .nilm
  | .nilFunc => .nilf
  | .nilIface => .nili
  | _ => .any
def ofV : Value → CV
  | .agg cs => .agg (cs.toList.map ofS)
  | v => ofS v
theorem RV.ofS (M : Mp) (v : Value) : RV M (ofS v) v := by
  unfold Ax.ofS
  split
  · exact .bool _
  · exact .int _ _
  · exact .str _ _ rfl
  · exact .nilp
  · exact .nils
  · exact .nilm
  · exact .nilf
  · exact .nili
  · exact .any _
theorem RVs.ofS (M : Mp) (vs : List Value) : RVs M (vs.map Ax.ofS) vs :=
  ⟨by simp, fun j _ _ => by rw [List.getElem_map]; exact RV.ofS M _⟩
theorem RV.ofV (M : Mp) (v : Value) : RV M (ofV v) v := by
  unfold Ax.ofV
  split
  · rename_i cs
    have h := RVs.ofS M cs.toList
    exact RV.agg _ cs.toList h.1 h.2
  · exact RV.ofS M v
/-- The cells of a value. -/
def CV.cs : CV → Option (List CV)
  | .agg cs => some cs
  | .any => none
  | .tup _ => none
  | c => some [c]
theorem RV.cs {M : Mp} {c : CV} {v : Value} {l : List CV} (h : RV M c v) (hc : c.cs = some l) : RVs M l v.cells.toList := by
  have h0 := h
  cases h with
  | any => cases hc
  | agg cs vs hl hr => cases hc; exact ⟨by simpa [Value.cells] using hl, by intro j a b; exact hr j a (by simpa [Value.cells] using b)⟩
  | tup => cases hc
  | _ => cases hc; exact RVs.one h0
/-! loads -/
theorem cell_at {w : World} {g o j : Nat} {arr : Array Value} {T : TypeId} {fr : Nat × Nat} (h : w.heap[g]? = some (.cells arr T fr)) : w.cell? ((⟨g, o, none⟩ : Addr).add j) = arr[o + j]? := by
  have hadd : (⟨g, o, none⟩ : Addr).add j = ⟨g, o + j, none⟩ := by unfold Addr.add; split <;> simp_all
  rw [hadd]; simp [World.cell?, h]
theorem run_loadAt_agg {P : Program} {t : TypeId} {i : TI} {w : World} {g o : Nat} {arr : Array Value} {T : TypeId} {fr : Nat × Nat} (ht : ti P t = some i) (ha : isAggD i.und = true)
    (h : w.heap[g]? = some (.cells arr T fr)) (hl : o + i.size ≤ arr.size) :
    (Instr.loadAt t (.pointer (some ⟨g, o, none⟩))).run P w = .ok (.agg ((arr.toList.drop o).take i.size).toArray) w := by
  have e := run_loadCells_list (P := P) w ⟨g, o, none⟩ ((arr.toList.drop o).take i.size) (fun j v hj => by
    rw [cell_at h]
    rw [List.getElem?_take] at hj
    split at hj
    · simpa using hj
    · cases hj)
  have hn : ((arr.toList.drop o).take i.size).length = i.size := by simp; omega
  rw [hn] at e
  simp [Instr.loadAt, Instr.sureAddr, loadVar, ti_agg ht, ha, ti_size ht, e]
theorem run_loadAt_one {P : Program} {t : TypeId} {i : TI} {w : World} {g o : Nat} {arr : Array Value} {T : TypeId} {fr : Nat × Nat} {v : Value} (ht : ti P t = some i) (ha : isAggD i.und = false)
    (h : w.heap[g]? = some (.cells arr T fr)) (hl : arr[o]? = some v) :
    (Instr.loadAt t (.pointer (some ⟨g, o, none⟩))).run P w = .ok v w := by
  have e := cell_at (o := o) (j := 0) h
  simp only [Addr.add, if_true, Nat.add_zero] at e
  rw [hl] at e
  simp [Instr.loadAt, Instr.sureAddr, loadVar, ti_agg ht, ha, e]
def pickCells (i : TI) (cs : List CV) (o : Nat) : Option CV := match isAggD i.und with
  | true => match Nat.ble (o + i.size) cs.length with
    | true => some (.agg ((cs.drop o).take i.size))
    | false => none
  | false => cs[o]?
theorem pick_load {P : Program} {M : Mp} {t : TypeId} {i : TI} {w : World} {g o o' : Nat} {arr : Array Value} {T : TypeId} {fr : Nat × Nat} {cs : List CV} {c : CV} (ht : ti P t = some i)
    (h : w.heap[g]? = some (.cells arr T fr)) (hl : o + cs.length ≤ arr.size) (hr : RVs M cs ((arr.toList.drop o).take cs.length)) (hp : pickCells i cs o' = some c) :
    ∃ v, (Instr.loadAt t (.pointer (some ⟨g, o + o', none⟩))).run P w = .ok v w ∧ RV M c v := by
  unfold pickCells at hp
  split at hp
  · rename_i ha
    split at hp
    · rename_i hb
      cases hp
      have hb' := Nat.le_of_ble_eq_true hb
      refine ⟨_, run_loadAt_agg ht ha h (by omega), ?_⟩
      have e : ((arr.toList.drop (o + o')).take i.size) = (((arr.toList.drop o).take cs.length).drop o').take i.size := by
        rw [List.drop_take, List.take_take, List.drop_drop, Nat.min_eq_left (by omega)]
      rw [e]
      have := (hr.drop o').take i.size
      exact .agg _ _ this.1 this.2
    · cases hp
  · rename_i ha
    obtain ⟨v, hv, hrv⟩ := hr.at' hp
    have hlt := (List.getElem?_eq_some_iff.mp hp).1
    rw [List.getElem?_take, if_pos hlt] at hv
    exact ⟨v, run_loadAt_one ht ha h (by simpa using hv), hrv⟩
def loadA (P : Program) (H : Heap) (t : TypeId) (x : CV) : Option CV := match ti P t with
  | none => none
  | some i => match x with
    | .ptr b o => match H b with
      | some (.cells cs) => pickCells i cs o
      | _ => none
    | .rop cs => pickCells i cs 0
    | _ => none
theorem loadA_sound {P : Program} {H : Heap} {t : TypeId} {x c : CV} {M : Mp} {nx : Nat} {w : World} {v : Value} (h : loadA P H t x = some c) (r : Rep M H nx w) (hx : RV M x v) :
    ∃ u, (Instr.loadAt t v).run P w = .ok u w ∧ RV M c u := by
  unfold loadA at h
  split at h
  · cases h
  · rename_i i ht
    split at h
    · rename_i b o
      split at h
      · rename_i cs hb
        cases hx with
        | ptr _ _ g m hm =>
          obtain ⟨g', m', hm', arr, T, ha, hs, hr⟩ := r.blk b _ hb
          rw [hm] at hm'; cases hm'
          have hlen : cs.length ≤ arr.size := by have := hr.1; simp at this; omega
          have := pick_load (o := 0) ht ha (by omega) (by simpa using hr) h
          simpa using this
      · cases h
    · rename_i cs
      cases hx with
      | rop _ g o arr T fr hg hl hr =>
        have hw := r.fz g _ hg
        have hrs : RVs M cs ((arr.toList.drop o).take cs.length) := ⟨by simp; omega, fun j a b => by
          have := hr j a (by omega)
          simpa using this⟩
        have := pick_load (o' := 0) ht hw hl hrs h
        simpa using this
    · cases h
/-! parts of values -/
def partA (i : TI) (cs : List CV) (off : Nat) : Option CV := match isAggD i.und with
  | true => match Nat.ble (off + i.size) cs.length with
    | true => some (.agg ((cs.drop off).take i.size))
    | false => none
  | false => cs[off]?
theorem partA_sound {P : Program} {M : Mp} {t : TypeId} {i : TI} {cs : List CV} {vs : List Value} {off : Nat} {c : CV} {w : World} (ht : ti P t = some i) (hr : RVs M cs vs) (h : partA i cs off = some c) :
    ∃ u, (part t vs.toArray off).run P w = .ok u w ∧ RV M c u := by
  unfold partA at h
  split at h
  · rename_i ha
    split at h
    · rename_i hb
      cases h
      have hb' := Nat.le_of_ble_eq_true hb
      refine ⟨.agg ((vs.drop off).take i.size).toArray, ?_, ?_⟩
      · simp [part, ti_agg ht, ha, ti_size ht]
      · have := (hr.drop off).take i.size
        exact .agg _ _ this.1 this.2
    · cases h
  · rename_i ha
    obtain ⟨v, hv, hrv⟩ := hr.at' h
    exact ⟨v, by simp [part, ti_agg ht, ha, hv], hrv⟩
def fieldA (P : Program) (t : TypeId) (x : CV) (f : Nat) : Option CV := match ti P t with
  | some ⟨.struct fs, _, _, _⟩ => match fs.toList[f]? with
    | some fd => match ti P fd.type with
      | some i => match x with
        | .agg cs => partA i cs fd.offset
        | _ => none
      | none => none
    | none => none
  | _ => none
theorem fieldA_sound {P : Program} {t : TypeId} {x c : CV} {f : Nat} {M : Mp} {w : World} {v : Value} (h : fieldA P t x f = some c) (hx : RV M x v) :
    ∃ u, (Instr.field t v f).run P w = .ok u w ∧ RV M c u := by
  unfold fieldA at h
  split at h
  · rename_i fs s z bt ht
    split at h
    · rename_i fd hf
      split at h
      · rename_i i hi
        split at h
        · rename_i cs
          cases hx with
          | agg _ vs hl hr =>
            obtain ⟨u, h1, h2⟩ := partA_sound (w := w) hi ⟨hl, hr⟩ h
            refine ⟨u, ?_, h2⟩
            have hf' : fs[f]? = some fd := by rw [← Array.getElem?_toList]; exact hf
            simp [Instr.field, ti_und ht, hf', asAgg, h1]
        · cases h
      · cases h
    · cases h
  · cases h
def faddA (P : Program) (t : TypeId) (x : CV) (f : Nat) : Option CV := match ti P t with
  | some ⟨.struct fs, _, _, _⟩ => match fs.toList[f]? with
    | some fd => match ti P fd.type with
      | some i => match Nat.beq i.size 0 with
        | true => none
        | false => match x with
          | .ptr b o => some (.ptr b (o + fd.offset))
          | .rop cs => match Nat.ble fd.offset cs.length with
            | true => some (.rop (cs.drop fd.offset))
            | false => none
          | _ => none
      | none => none
    | none => none
  | _ => none
theorem addr_add (g o j : Nat) : (⟨g, o, none⟩ : Addr).add j = ⟨g, o + j, none⟩ := by unfold Addr.add; split <;> simp_all
theorem RV.ropDrop {M : Mp} {cs : List CV} {g o : Nat} (n : Nat) (hn : n ≤ cs.length) (h : RV M (.rop cs) (.pointer (some ⟨g, o, none⟩))) : RV M (.rop (cs.drop n)) (.pointer (some ⟨g, o + n, none⟩)) := by
  cases h with
  | rop _ _ _ arr T fr hg hl hr =>
    refine .rop _ _ _ arr T fr hg (by simp; omega) (fun j a b => ?_)
    have := hr (n + j) (by simp at a; omega) (by omega)
    simpa [Nat.add_assoc] using this
theorem faddA_sound {P : Program} {t : TypeId} {x c : CV} {f : Nat} {M : Mp} {w : World} {v : Value} (h : faddA P t x f = some c) (hx : RV M x v) :
    ∃ u, (Instr.fieldAt t v f).run P w = .ok u w ∧ RV M c u := by
  unfold faddA at h
  split at h
  · rename_i fs s z bt ht
    split at h
    · rename_i fd hf
      have hf' : fs[f]? = some fd := by rw [← Array.getElem?_toList]; exact hf
      split at h
      · rename_i i hi
        split at h
        · cases h
        · rename_i hz
          have hz' : i.size ≠ 0 := fun e => by rw [e] at hz; simp at hz
          split at h
          · rename_i b o
            cases h
            cases hx with
            | ptr _ _ g m hm =>
              refine ⟨.pointer (some ⟨g, o + fd.offset, none⟩), ?_, .ptr _ _ g m hm⟩
              simp [Instr.fieldAt, ti_und ht, hf', Instr.sureAddr, fieldPlace, ti_size hi, hz', addr_add]
          · rename_i cs
            split at h
            · rename_i hb
              cases h
              have hx0 := hx
              cases hx with
              | rop _ g o arr T fr hg hl hr =>
                refine ⟨.pointer (some ⟨g, o + fd.offset, none⟩), ?_, hx0.ropDrop _ (Nat.le_of_ble_eq_true hb)⟩
                simp [Instr.fieldAt, ti_und ht, hf', Instr.sureAddr, fieldPlace, ti_size hi, hz', addr_add]
            · cases h
          · cases h
      · cases h
    · cases h
  · cases h
end Ax
end Go.Proofs.YtdjllogimomgmaaGreatDoor
