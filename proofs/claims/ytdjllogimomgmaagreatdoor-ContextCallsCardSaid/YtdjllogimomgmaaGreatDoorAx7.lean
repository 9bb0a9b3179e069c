/-
  AX: maps and copy; all operations that write.
-/
import Derived.Test.YtdjllogimomgmaaGreatDoorAx6
set_option linter.unusedSimpArgs false
set_option linter.unusedVariables false
namespace Go.Proofs.YtdjllogimomgmaaGreatDoor
namespace Ax
def keyIs (d : TypeDesc) (k : CV) : Option Bool := scalD d k k
def mupA (P : Program) (H : Heap) (t : TypeId) (m k v : CV) : Option (CV × Dl) := match ti P t with
  | some ⟨.map kt _, _, _, _⟩ => match ti P kt with
    | some ik => match m with
      | .mp b => match H b with
        | some (.map ks vs) => match keyD ik.und k with
          | true => match findK ik.und k ks 0 with
            | some (some q) => some (.any, .set b (.map (ks.set q k) (vs.set q v)))
            | some none => some (.any, .set b (.map (ks ++ [k]) (vs ++ [v])))
            | none => none
          | false => none
        | _ => none
      | _ => none
    | none => none
  | _ => none
theorem sameNow_bits {d : TypeDesc} {a b : Value} (h : Instr.sameNow d a b = some true) : Instr.sameBits 10000 b a = true := by
  unfold Instr.sameNow at h
  split at h
  · split at h
    · rename_i e
      subst e
      have : ∀ x y : Int, (some (x == y) = some true) → x = y := by intro x y h; simpa using h
      have e := this _ _ h
      subst e; simp [Instr.sameBits]
    · cases h
  · have e : ∀ x y : ByteArray, (some (x == y) = some true) → (y == x) = true := by
      intro x y h
      have h1 : (x == y) = true := by simpa using h
      rw [bytes_beq_data] at h1 ⊢
      simp at h1 ⊢; exact h1.symm
    simpa [Instr.sameBits] using e _ _ h
  · have : ∀ x y : Bool, (some (x == y) = some true) → x = y := by intro x y h; simpa using h
    have e := this _ _ h
    subst e; simp [Instr.sameBits]
  · cases h
theorem mupA_sound {P : Program} {H : Heap} {M : Mp} {nx : Nat} {w : World} {t : TypeId} {m k v c : CV} {d : Dl} {mv kv vv : Value} (h : mupA P H t m k v = some (c, d)) (r : Rep M H nx w) (hm : RV M m mv) (hk : RV M k kv) (hv : RV M v vv) :
    EOk P H M nx w (do Instr.mapUpdate t mv kv vv; pure .skip) c d := by
  unfold mupA at h
  split at h
  case h_2 => cases h
  rename_i kt et _ _ _ ht
  split at h
  case h_2 => cases h
  rename_i ik hik
  split at h
  case h_2 => cases h
  rename_i b
  split at h
  case h_2 => cases h
  rename_i ks vs hb
  split at h
  case h_2 => cases h
  rename_i hkd
  cases hm with
  | mp _ g q hg =>
    obtain ⟨g', q', hg', en, clock, ha, hks, hvs⟩ := r.blk b _ hb
    rw [hg] at hg'; cases hg'
    have hck := keyD_check (w := w) hik hkd hk false 9999
    have hlt : g < w.heap.size := (Array.getElem?_eq_some_iff.1 ha).1
    have wr : ∀ (en' : Array MapEntry) (clock' : Nat) (ks' vs' : List CV), RVs M ks' (en'.toList.map (·.key)) → RVs M vs' (en'.toList.map (·.val)) →
        Rep M (upd H b (.map ks' vs')) nx { w with heap := w.heap.setIfInBounds g (.map en' clock') } ∧ Fr H M nx w (upd H b (.map ks' vs')) M nx { w with heap := w.heap.setIfInBounds g (.map en' clock') } := by
      intro en' clock' ks' vs' h1 h2
      exact r.write b _ _ g q hb hg (by simp) (fun x hx => by simp [Ne.symm hx]) rfl rfl rfl ⟨en', clock', by simp [hlt], h1, h2⟩
    split at h
    · rename_i j hj
      cases h
      obtain ⟨_, e, he, hf, hsn⟩ := findK_sound hk hj hks
      simp only [Nat.sub_zero] at he
      have hea : en[j]? = some e := by rw [← Array.getElem?_toList]; exact he
      have hst : (Instr.keyThatStays e.key kv).run P w = .ok kv w := by simp [Instr.keyThatStays, sameNow_bits hsn]
      have hmod : (en.modify j fun x => { x with key := kv, val := vv }).toList = en.toList.set j { e with key := kv, val := vv } := by
        rw [Array.toList_modify]
        obtain ⟨hjl, hje⟩ := List.getElem?_eq_some_iff.mp he
        apply List.ext_getElem?
        intro i
        rw [List.getElem?_modify, List.getElem?_set]
        by_cases hij : j = i
        · subst hij; simp [hjl, hje, he]; simpa using hjl
        · simp [hij]
      obtain ⟨r', f'⟩ := wr (en.modify j fun x => { x with key := kv, val := vv }) clock (ks.set j k) (vs.set j v)
        (by rw [hmod, List.map_set]; exact hks.set j hk) (by rw [hmod, List.map_set]; exact hvs.set j hv)
      refine ⟨M, _, .inr ⟨?_, rfl⟩, r', f'⟩
      simp [Instr.mapUpdate, ti_und ht, MapKept.run_getObj_map ha, hck, Instr.findKey, ti_und hik, hf, hea, hst, MapKept.run_setObj_map _ ha]
    · rename_i hj
      cases h
      have hf := findK_sound hk hj hks
      simp only at hf
      obtain ⟨r', f'⟩ := wr (en.push { key := kv, val := vv, born := clock }) (clock + 1) (ks ++ [k]) (vs ++ [v])
        (by simp only [Array.toList_push, List.map_append, List.map_cons, List.map_nil]; exact hks.append (.one hk)) (by simp only [Array.toList_push, List.map_append, List.map_cons, List.map_nil]; exact hvs.append (.one hv))
      refine ⟨M, _, .inr ⟨?_, rfl⟩, r', f'⟩
      simp [Instr.mapUpdate, ti_und ht, MapKept.run_getObj_map ha, hck, Instr.findKey, ti_und hik, hf, MapKept.run_setObj_map _ ha]
    · cases h
/-! the next letter of a string that is ranged over -/
def nextA (H : Heap) (x : CV) (str : Bool) : Option (CV × Dl) := match str with
  | false => none
  | true => match x with
    | .ptr b 0 => match H b with
      | some (.iter l p) => match l[p]? with
        | none => some (.tup [.bool false], .no)
        | some c => match Nat.ble c.toNat 127 with
          | true => some (.tup [.bool true, .int .i64 p, .int .i32 c.toNat], .set b (.iter l (p + 1)))
          | false => none
      | _ => none
    | _ => none
theorem nextA_sound {P : Program} {H : Heap} {x : CV} {str : Bool} {c : CV} {d : Dl} {M : Mp} {nx : Nat} {w : World} {v : Value} {ty : TypeId} (h : nextA H x str = some (c, d)) (r : Rep M H nx w) (hx : RV M x v) :
    EOk P H M nx w (do pure (.value (← Instr.next v str ty))) c d := by
  unfold nextA at h
  split at h
  · cases h
  split at h
  case h_2 => cases h
  rename_i b
  split at h
  case h_2 => cases h
  rename_i l p hb
  cases hx with
  | ptr _ _ g m hg =>
  obtain ⟨g', m', hg', s, ha, hs⟩ := r.blk b _ hb
  rw [hg] at hg'; cases hg'
  have hlt : g < w.heap.size := (Array.getElem?_eq_some_iff.1 ha).1
  have hsz : s.size = l.length := by rw [← hs, Array.length_toList]; rfl
  split at h
  · rename_i hp
    cases h
    have hp' : ¬ p < s.size := by rw [hsz]; simpa using hp
    refine ⟨M, w, .inl ⟨.tuple #[.bool false], ?_, .tup _ [.bool false] rfl (fun j a e => ?_)⟩, r, .refl _ _ _ _⟩
    · simp [Instr.next, getObj, Sem.run, ha, hp']
    · have : j = 0 := by simpa using a
      subst this; exact .bool _
  · rename_i ch hp
    split at h
    case h_2 => cases h
    rename_i hle
    cases h
    obtain ⟨hpl, hpe⟩ := List.getElem?_eq_some_iff.mp hp
    have hp' : p < s.size := by omega
    have hce : s[p]'hp' = ch := by
      rw [← hpe]; subst hs; simp; rfl
    have hd : Utf8.decode s p = (ch.toNat, 1) := by
      rw [← hce]; exact decode_ascii s p hp' (by rw [hce]; have := Nat.le_of_ble_eq_true hle; omega)
    obtain ⟨r', f'⟩ := r.write (w' := { w with heap := w.heap.setIfInBounds g (.stringIter s (p + 1)) }) b _ (.iter l (p + 1)) g m hb hg (by simp) (fun x hx => by simp [Ne.symm hx]) rfl rfl rfl ⟨s, by simp [hlt], hs⟩
    refine ⟨M, _, .inl ⟨.tuple #[.bool true, .int .i64 p, .int .i32 ch.toNat], ?_, .tup _ [.bool true, .int .i64 p, .int .i32 ch.toNat] rfl (fun j a e => ?_)⟩, r', f'⟩
    · simp [Instr.next, getObj, setObj, Sem.run, ha, hp', hd, goInt]
    · have : j = 0 ∨ j = 1 ∨ j = 2 := by simp at a; omega
      rcases this with rfl | rfl | rfl
      · exact .bool _
      · exact .int _ _
      · exact .int _ _
/-! copy (of no more rows than there is room for) -/
def copyA (P : Program) (H : Heap) (t : TypeId) (a x : CV) : Option (CV × Dl) := match ti P t with
  | some ⟨.slice e, _, _, _⟩ => match ti P e with
    | some i => match srcA H i.size x with
      | some (m, l) => match l.all CV.one with
        | true => match a with
          | .sl b o n k => match H b with
            | some (.cells cs) => match Nat.ble m n && Nat.ble (o + l.length) cs.length with
              | true => some (.int .i64 m, .set b (.cells (cs.take o ++ l ++ cs.drop (o + l.length))))
              | false => none
            | _ => none
          | _ => none
        | false => none
      | none => none
    | none => none
  | _ => none
theorem copyA_sound {P : Program} {H : Heap} {M : Mp} {nx : Nat} {w : World} {t t' ty : TypeId} {a x c : CV} {d : Dl} {av xv : Value} (h : copyA P H t a x = some (c, d)) (r : Rep M H nx w) (ha : RV M a av) (hx : RV M x xv) :
    EOk P H M nx w (do pure (.value (← Builtin.copy_ #[t, t'] ty #[av, xv]))) c d := by
  unfold copyA at h
  split at h
  case h_2 => cases h
  rename_i e _ _ _ ht
  split at h
  case h_2 => cases h
  rename_i i hti
  split at h
  case h_2 => cases h
  rename_i q l hsrc
  split at h
  case h_2 => cases h
  rename_i hone
  split at h
  case h_2 => cases h
  rename_i b o n k
  split at h
  case h_2 => cases h
  rename_i cs hb
  split at h
  case h_2 => cases h
  rename_i hc
  cases h
  simp only [Bool.and_eq_true] at hc
  have h1 := Nat.le_of_ble_eq_true hc.1
  have h3 := Nat.le_of_ble_eq_true hc.2
  obtain ⟨news, hnl, hv, hrun⟩ := srcA_sound (P := P) hsrc r hx
  cases ha with
  | sl _ _ _ _ g m cc hm hn hmm =>
    obtain ⟨g', m', hm', arr, T, hw, hs, hr⟩ := r.blk b _ hb
    rw [hm] at hm'; cases hm'
    have hcl : cs.length ≤ arr.size := by have := hr.1; simp at this; omega
    have hvl : news.length = l.length := hv.1
    have hst := run_storeCells_at P g o T news 0 arr w hw (by omega) (fun v hv' => oneV_oneCell (hv.oneV hone v hv'))
    obtain ⟨r', f'⟩ := cells_write r hb hm hw hs hr hv h3
    refine ⟨M, _, .inl ⟨.int .i64 q, ?_, .int _ _⟩, r', f'⟩
    obtain ⟨e1, e2⟩ := hrun w rfl
    simp only [Builtin.copy_, List.getElem?_toArray, List.getElem?_cons_zero, List.getElem?_cons_succ, Sem.run_bind, ti_und ht, Result.andThen_ok, e1, Nat.min_def, if_pos h1, ti_size hti, e2]
    rw [hst]
    simp [goInt]
/-! one step that writes -/
def estep (P : Program) (H : Heap) (nx : Nat) (ρ : Operand → CV) (op : Op) : Option (CV × Dl) := match op with
  | .store t a x => storeA P H t (ρ a) (ρ x)
  | .mapUpdate t m k v => mupA P H t (ρ m) (ρ k) (ρ v)
  | .insert t m k v => mupA P H t (ρ m) (ρ k) (ρ v)
  | .next x str => nextA H (ρ x) str
  | .call c => match c.callee with
    | .builtin .append => match c.argTypes.toList, c.args.toList with
      | [t, t'], [s, x] => appA P H nx t t' (ρ s) (ρ x)
      | _, _ => none
    | .builtin .copy => match c.argTypes.toList, c.args.toList with
      | [t, t'], [s, x] => copyA P H t (ρ s) (ρ x)
      | _, _ => none
    | _ => none
  | _ => none
theorem estep_sound {P : Program} {H : Heap} {ρ : Operand → CV} {o : Oper} {c : CV} {d : Dl} {M : Mp} {nx : Nat} {w : World} {σ : Operand → Value} (h : estep P H nx ρ o.op = some (c, d)) (r : Rep M H nx w) (hρ : ∀ x ∈ o.op.operands, RV M (ρ x) (σ x)) :
    EOk P H M nx w (execOp σ o) c d := by
  unfold estep at h
  split at h
  · rename_i t a x hop
    have := storeA_sound h r (hρ a (by simp [hop, Op.operands])) (hρ x (by simp [hop, Op.operands]))
    unfold execOp; rw [hop]; exact this
  · rename_i t m k v hop
    have := mupA_sound h r (hρ m (by simp [hop, Op.operands])) (hρ k (by simp [hop, Op.operands])) (hρ v (by simp [hop, Op.operands]))
    unfold execOp; rw [hop]; exact this
  · rename_i t m k v hop
    have := mupA_sound h r (hρ m (by simp [hop, Op.operands])) (hρ k (by simp [hop, Op.operands])) (hρ v (by simp [hop, Op.operands]))
    unfold execOp; rw [hop]; exact this
  · rename_i x str hop
    have := nextA_sound (P := P) (ty := o.type) h r (hρ x (by simp [hop, Op.operands]))
    unfold execOp; rw [hop]; exact this
  · rename_i cl hop
    split at h
    · rename_i hb
      split at h
      · rename_i t t' s x hts hxs
        have ets : cl.argTypes = #[t, t'] := by apply Array.ext'; simpa using hts
        have exs : cl.args = #[s, x] := by apply Array.ext'; simpa using hxs
        have := appA_sound (ty := o.type) h r (hρ s (by simp [hop, Op.operands, Call.operands, hb, exs])) (hρ x (by simp [hop, Op.operands, Call.operands, hb, exs]))
        have e : (execOp σ o).run P w = (do pure (.value (← Builtin.append_ #[t, t'] o.type #[σ s, σ x])) : Sem Next).run P w := by
          unfold execOp; rw [hop]
          simp only [resolve, hb, Sem.run_bind, Sem.run_pure, Result.andThen_ok, invoke, builtin, ets, exs, List.map_toArray, List.map_cons, List.map_nil]
        unfold EOk at this ⊢
        rw [e]
        exact this
      · cases h
    · rename_i hb
      split at h
      · rename_i t t' s x hts hxs
        have ets : cl.argTypes = #[t, t'] := by apply Array.ext'; simpa using hts
        have exs : cl.args = #[s, x] := by apply Array.ext'; simpa using hxs
        have := copyA_sound (P := P) (t' := t') (ty := o.type) h r (hρ s (by simp [hop, Op.operands, Call.operands, hb, exs])) (hρ x (by simp [hop, Op.operands, Call.operands, hb, exs]))
        have e : (execOp σ o).run P w = (do pure (.value (← Builtin.copy_ #[t, t'] o.type #[σ s, σ x])) : Sem Next).run P w := by
          unfold execOp; rw [hop]
          simp only [resolve, hb, Sem.run_bind, Sem.run_pure, Result.andThen_ok, invoke, builtin, ets, exs, List.map_toArray, List.map_cons, List.map_nil]
        unfold EOk at this ⊢
        rw [e]
        exact this
      · cases h
    · cases h
  · cases h
end Ax
end Go.Proofs.YtdjllogimomgmaaGreatDoor
