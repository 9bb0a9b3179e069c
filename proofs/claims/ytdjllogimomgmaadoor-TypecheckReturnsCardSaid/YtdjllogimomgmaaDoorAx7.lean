/-
  AX: maps and copy; all operations that write.
-/
import Derived.Test.YtdjllogimomgmaaDoorAx6
set_option linter.unusedSimpArgs false
set_option linter.unusedVariables false
namespace Go.Proofs.YtdjllogimomgmaaDoor
namespace Ax
def keyIs (d : TypeDesc) (k : CV) : Option Bool := scalD d k k
def mupA (P : Program) (H : Heap) (t : TypeId) (m k v : CV) : Option (CV × Dl) := match ti P t with
  | some ⟨.map kt _, _, _, _⟩ => match ti P kt with
    | some ik => match m with
      | .mp b => match H b with
        | some (.map ks vs) => match keyD ik.und k with
          | true => match findK ik.und k ks 0 with
            | some (some q) => some (.any, .set b (.map (ks.set q k) (vs.set q v)))
            | some none => some (.any, .set b (.map (ks ++ [k]) (vs ++ [v])))
            | none => none
          | false => none
        | _ => none
      | _ => none
    | none => none
  | _ => none
theorem sameNow_bits {d : TypeDesc} {a b : Value} (h : Instr.sameNow d a b = some true) : Instr.sameBits 10000 b a = true := by
  unfold Instr.sameNow at h
  split at h
  · split at h
    · rename_i e
      subst e
      have : ∀ x y : Int, (some (x == y) = some true) → x = y := by intro x y h; simpa using h
      have e := this _ _ h
      subst e; simp [Instr.sameBits]
    · cases h
  · have e : ∀ x y : ByteArray, (some (x == y) = some true) → (y == x) = true := by
      intro x y h
      have h1 : (x == y) = true := by simpa using h
      rw [bytes_beq_data] at h1 ⊢
      simp at h1 ⊢; exact h1.symm
    simpa [Instr.sameBits] using e _ _ h
  · have : ∀ x y : Bool, (some (x == y) = some true) → x = y := by intro x y h; simpa using h
    have e := this _ _ h
    subst e; simp [Instr.sameBits]
  · cases h
theorem mupA_sound {P : Program} {H : Heap} {M : Mp} {nx : Nat} {w : World} {t : TypeId} {m k v c : CV} {d : Dl} {mv kv vv : Value} (h : mupA P H t m k v = some (c, d)) (r : Rep M H nx w) (hm : RV M m mv) (hk : RV M k kv) (hv : RV M v vv) :
    EOk P H M nx w (do Instr.mapUpdate t mv kv vv; pure .skip) c d := by
  unfold mupA at h
  split at h
  case h_2 => cases h
  rename_i kt et _ _ _ ht
  split at h
  case h_2 => cases h
  rename_i ik hik
  split at h
  case h_2 => cases h
  rename_i b
  split at h
  case h_2 => cases h
  rename_i ks vs hb
  split at h
  case h_2 => cases h
  rename_i hkd
  cases hm with
  | mp _ g q hg =>
    obtain ⟨g', q', hg', en, clock, ha, hks, hvs⟩ := r.blk b _ hb
    rw [hg] at hg'; cases hg'
    have hck := keyD_check (w := w) hik hkd hk false 9999
    have hlt : g < w.heap.size := (Array.getElem?_eq_some_iff.1 ha).1
    have wr : ∀ (en' : Array MapEntry) (clock' : Nat) (ks' vs' : List CV), RVs M ks' (en'.toList.map (·.key)) → RVs M vs' (en'.toList.map (·.val)) →
        Rep M (upd H b (.map ks' vs')) nx { w with heap := w.heap.setIfInBounds g (.map en' clock') } ∧ Fr H M nx w (upd H b (.map ks' vs')) M nx { w with heap := w.heap.setIfInBounds g (.map en' clock') } := by
      intro en' clock' ks' vs' h1 h2
      exact r.write b _ _ g q hb hg (by simp) (fun x hx => by simp [Ne.symm hx]) rfl rfl rfl ⟨en', clock', by simp [hlt], h1, h2⟩
    split at h
    · rename_i j hj
      cases h
      obtain ⟨_, e, he, hf, hsn⟩ := findK_sound hk hj hks
      simp only [Nat.sub_zero] at he
      have hea : en[j]? = some e := by rw [← Array.getElem?_toList]; exact he
      have hst : (Instr.keyThatStays e.key kv).run P w = .ok kv w := by simp [Instr.keyThatStays, sameNow_bits hsn]
      have hmod : (en.modify j fun x => { x with key := kv, val := vv }).toList = en.toList.set j { e with key := kv, val := vv } := by
        rw [Array.toList_modify]
        obtain ⟨hjl, hje⟩ := List.getElem?_eq_some_iff.mp he
        apply List.ext_getElem?
        intro i
        rw [List.getElem?_modify, List.getElem?_set]
        by_cases hij : j = i
        · subst hij; simp [hjl, hje, he]; simpa using hjl
        · simp [hij]
      obtain ⟨r', f'⟩ := wr (en.modify j fun x => { x with key := kv, val := vv }) clock (ks.set j k) (vs.set j v)
        (by rw [hmod, List.map_set]; exact hks.set j hk) (by rw [hmod, List.map_set]; exact hvs.set j hv)
      refine ⟨M, _, .inr ⟨?_, rfl⟩, r', f'⟩
      simp [Instr.mapUpdate, ti_und ht, MapKept.run_getObj_map ha, hck, Instr.findKey, ti_und hik, hf, hea, hst, MapKept.run_setObj_map _ ha]
    · rename_i hj
      cases h
      have hf := findK_sound hk hj hks
      simp only at hf
      obtain ⟨r', f'⟩ := wr (en.push { key := kv, val := vv, born := clock }) (clock + 1) (ks ++ [k]) (vs ++ [v])
        (by simp only [Array.toList_push, List.map_append, List.map_cons, List.map_nil]; exact hks.append (.one hk)) (by simp only [Array.toList_push, List.map_append, List.map_cons, List.map_nil]; exact hvs.append (.one hv))
      refine ⟨M, _, .inr ⟨?_, rfl⟩, r', f'⟩
      simp [Instr.mapUpdate, ti_und ht, MapKept.run_getObj_map ha, hck, Instr.findKey, ti_und hik, hf, MapKept.run_setObj_map _ ha]
    · cases h
/-! one step that writes -/
def estep (P : Program) (H : Heap) (nx : Nat) (ρ : Operand → CV) (op : Op) : Option (CV × Dl) := match op with
  | .store t a x => storeA P H t (ρ a) (ρ x)
  | .mapUpdate t m k v => mupA P H t (ρ m) (ρ k) (ρ v)
  | .insert t m k v => mupA P H t (ρ m) (ρ k) (ρ v)
  | .call c => match c.callee with
    | .builtin .append => match c.argTypes.toList, c.args.toList with
      | [t, t'], [s, x] => appA P H nx t t' (ρ s) (ρ x)
      | _, _ => none
    | _ => none
  | _ => none
theorem estep_sound {P : Program} {H : Heap} {ρ : Operand → CV} {o : Oper} {c : CV} {d : Dl} {M : Mp} {nx : Nat} {w : World} {σ : Operand → Value} (h : estep P H nx ρ o.op = some (c, d)) (r : Rep M H nx w) (hρ : ∀ x ∈ o.op.operands, RV M (ρ x) (σ x)) :
    EOk P H M nx w (execOp σ o) c d := by
  unfold estep at h
  split at h
  · rename_i t a x hop
    have := storeA_sound h r (hρ a (by simp [hop, Op.operands])) (hρ x (by simp [hop, Op.operands]))
    unfold execOp; rw [hop]; exact this
  · rename_i t m k v hop
    have := mupA_sound h r (hρ m (by simp [hop, Op.operands])) (hρ k (by simp [hop, Op.operands])) (hρ v (by simp [hop, Op.operands]))
    unfold execOp; rw [hop]; exact this
  · rename_i t m k v hop
    have := mupA_sound h r (hρ m (by simp [hop, Op.operands])) (hρ k (by simp [hop, Op.operands])) (hρ v (by simp [hop, Op.operands]))
    unfold execOp; rw [hop]; exact this
  · rename_i cl hop
    split at h
    · rename_i hb
      split at h
      · rename_i t t' s x hts hxs
        have ets : cl.argTypes = #[t, t'] := by apply Array.ext'; simpa using hts
        have exs : cl.args = #[s, x] := by apply Array.ext'; simpa using hxs
        have := appA_sound (ty := o.type) h r (hρ s (by simp [hop, Op.operands, Call.operands, hb, exs])) (hρ x (by simp [hop, Op.operands, Call.operands, hb, exs]))
        have e : (execOp σ o).run P w = (do pure (.value (← Builtin.append_ #[t, t'] o.type #[σ s, σ x])) : Sem Next).run P w := by
          unfold execOp; rw [hop]
          simp only [resolve, hb, Sem.run_bind, Sem.run_pure, Result.andThen_ok, invoke, builtin, ets, exs, List.map_toArray, List.map_cons, List.map_nil]
        unfold EOk at this ⊢
        rw [e]
        exact this
      · cases h
    · cases h
  · cases h
end Ax
end Go.Proofs.YtdjllogimomgmaaDoor
