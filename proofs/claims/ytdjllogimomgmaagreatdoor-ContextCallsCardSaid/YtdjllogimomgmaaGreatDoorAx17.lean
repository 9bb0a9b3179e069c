/-
  AX: blocks that nobody writes any more are frozen; a test against nil of an empty frozen slice.
-/
import Derived.Test.YtdjllogimomgmaaGreatDoorAx16
set_option linter.unusedSimpArgs false
set_option linter.unusedVariables false
namespace Go.Proofs.YtdjllogimomgmaaGreatDoor
namespace Ax
/-- Rows of k cells. -/
def rowsOf (cs : List CV) (o k n : Nat) : List (List CV) := (List.range n).map fun i => (cs.drop (o + i * k)).take k
theorem rowsOf_flat {k : Nat} : ∀ {rows : List (List CV)}, (∀ r ∈ rows, r.length = k) → ∀ (pre rest : List CV), rowsOf (pre ++ rows.flatten ++ rest) pre.length k rows.length = rows
  | [], _, pre, rest => rfl
  | r :: rows, h, pre, rest => by
    have hr : r.length = k := h r (by simp)
    have ih := rowsOf_flat (fun x hx => h x (List.mem_cons_of_mem _ hx)) (pre ++ r) rest
    unfold rowsOf at ih ⊢
    rw [List.length_cons, List.range_succ_eq_map, List.map_cons, List.map_map]
    have e0 : List.take k (List.drop (pre.length + 0 * k) (pre ++ (r :: rows).flatten ++ rest)) = r := by
      simp only [Nat.zero_mul, Nat.add_zero, List.flatten_cons, List.append_assoc]
      rw [List.drop_left, ← hr, List.take_left]
    rw [e0]
    have e1 : (pre ++ (r :: rows).flatten ++ rest) = (pre ++ r ++ rows.flatten ++ rest) := by simp
    rw [e1]
    refine congrArg (r :: ·) (Eq.trans ?_ ih)
    apply List.map_congr_left
    intro i hi
    have e : pre.length + (i + 1) * k = (pre ++ r).length + i * k := by rw [Nat.add_mul, List.length_append, hr]; omega
    simp only [Function.comp, e]
theorem rowsOf_flat0 {k : Nat} {rows : List (List CV)} (h : ∀ r ∈ rows, r.length = k) : rowsOf rows.flatten 0 k rows.length = rows := by
  have := rowsOf_flat h [] []
  simpa using this
/-- A value that speaks of a frozen block. -/
inductive FV (b : Nat) (cs : List CV) : CV → CV → Prop
  | same (c : CV) : FV b cs c c
  | any (c : CV) : FV b cs c .any
  | ptr (o : Nat) (h : o ≤ cs.length) : FV b cs (.ptr b o) (.rop (cs.drop o))
  | sl (o n k : Nat) (h : o + n * k ≤ cs.length) : FV b cs (.sl b o n k) (.lst (rowsOf cs o k n))
  | agg (l l' : List CV) (hl : l'.length = l.length) (h : ∀ j (a : j < l.length) (b' : j < l'.length), FV b cs l[j] l'[j]) : FV b cs (.agg l) (.agg l')
  | tup (l l' : List CV) (hl : l'.length = l.length) (h : ∀ j (a : j < l.length) (b' : j < l'.length), FV b cs l[j] l'[j]) : FV b cs (.tup l) (.tup l')
theorem FV.aggs {b : Nat} {cs l l' : List CV} (hl : l'.length = l.length) (h : ∀ j (a : j < l.length) (b' : j < l'.length), FV b cs l[j] l'[j]) : FV b cs (.agg l) (.agg l') := .agg l l' hl h
theorem mul_lt_row {i k j n : Nat} (hi : i < n) (hj : j < k) : i * k + j < n * k := by
  have : (i + 1) * k ≤ n * k := Nat.mul_le_mul_right _ hi
  rw [Nat.add_mul] at this
  omega
theorem RV.frz {M M' : Mp} {b g m : Nat} {cs : List CV} {arr : Array Value} {T : TypeId} {fr : Nat × Nat} (he : Ext M M') (hb : M.bk b = some (g, m)) (hz : M'.fz g = some (.cells arr T fr)) (hs : arr.size = m) (hr : RVs M cs (arr.toList.take cs.length)) {c c' : CV} (hf : FV b cs c c') : ∀ {v : Value}, RV M c v → RV M' c' v := by
  have hl : cs.length ≤ arr.size := by have := hr.1; simp at this; omega
  have cell : ∀ j (a : j < cs.length) (h : j < arr.size), RV M' cs[j] arr[j] := fun j a h => by
    have := (hr.2 j a (by simp; omega)).ext he
    simpa using this
  induction hf with
  | same c => intro v h; exact h.ext he
  | any c => intro v h; exact .any v
  | ptr o ho =>
    intro v h
    cases h with
    | ptr _ _ g' m' h' =>
      rw [hb] at h'; cases h'
      refine .rop _ g o arr T fr hz (by simp; omega) (fun j a d => ?_)
      have := cell (o + j) (by simp at a; omega) d
      simpa using this
  | sl o n k ho =>
    intro v h
    cases h with
    | sl _ _ _ _ g' m' c h' hn hm =>
      rw [hb] at h'; cases h'
      have hrow : ∀ i, i < n → ((cs.drop (o + i * k)).take k).length = k := fun i hi => by
        have : (i + 1) * k ≤ n * k := Nat.mul_le_mul_right _ hi
        rw [Nat.add_mul] at this
        simp; omega
      refine .lst _ g o n k c arr T fr hz (by simp [rowsOf]) hn (fun r hr' => ?_) (by omega) (fun i a j d dd => ?_)
      · obtain ⟨i, hi, rfl⟩ := List.mem_map.mp hr'
        exact hrow i (by simpa using hi)
      · have hi : i < n := by simpa [rowsOf] using a
        simp only [rowsOf, List.getElem_map, List.getElem_range] at d ⊢
        have hj : j < k := by rw [hrow i hi] at d; exact d
        have hlt := mul_lt_row (k := k) hi hj
        have := cell (o + i * k + j) (by omega) dd
        simpa [Nat.add_assoc] using this
  | agg l l' hl' _ ih =>
    intro v h
    cases h with
    | agg _ vs h1 h2 => exact .agg _ vs (by omega) (fun j a d => ih j (by omega) a (h2 j (by omega) d))
  | tup l l' hl' _ ih =>
    intro v h
    cases h with
    | tup _ vs h1 h2 => exact .tup _ vs (by omega) (fun j a d => ih j (by omega) a (h2 j (by omega) d))
/-- The state with a block frozen. -/
theorem Rep.freeze {M : Mp} {H : Heap} {nx : Nat} {w : World} (r : Rep M H nx w) {b : Nat} {cs : List CV} (hb : H b = some (.cells cs)) :
    ∃ M', Ext M M' ∧ Rep M' (drp H b) nx w ∧ Fr H M nx w (drp H b) M' nx w ∧ ∀ {c c' : CV} {v : Value}, FV b cs c c' → RV M c v → RV M' c' v := by
  obtain ⟨g, m, hm, arr, T, hw, hs, hr⟩ := r.blk b _ hb
  obtain ⟨r', f'⟩ := r.frz b g m (.cells cs) (.cells arr T (0, 0)) hb hm hw
  exact ⟨_, f'.ext, r', f', fun hf hv => hv.frz (T := T) (fr := (0, 0)) f'.ext hm (by simp) hs hr hf⟩
section
variable {P : Program} {G : Nat → CV} {n : Nat} {e e' : Env} {H : Heap} {nx : Nat} {Q : AExit → Env → Heap → Nat → Prop} {ops : Array Oper} {os : List Oper} {b : Nat} {cs : List CV}
theorem EnvR.frz {M M' : Mp} {a : Act} (v : EnvR M n e a) (he : ∀ t, FV b cs (e t) (e' t)) (h : ∀ {c c' : CV} {u : Value}, FV b cs c c' → RV M c u → RV M' c' u) : EnvR M' n e' a := ⟨v.1, v.2.1, fun t => h (he t) (v.2.2 t)⟩
theorem AWp.frz {c : Code} (hb : H b = some (.cells cs)) (he : ∀ t, FV b cs (e t) (e' t)) (h : AWp P G n c e' (drp H b) nx Q) : AWp P G n c e H nx Q := fun M a w g r v => by
  obtain ⟨M', hx, r', f', hv⟩ := r.freeze hb
  exact wp_mono (h M' a w (g.ext hx) r' (v.frz he hv)) fun _ _ _ hp => hp.trans f'
theorem AOps.frz {l : List Nat} (hb : H b = some (.cells cs)) (he : ∀ t, FV b cs (e t) (e' t)) (h : AOps P G n ops l e' (drp H b) nx Q) : AOps P G n ops l e H nx Q := fun M a w g r v => by
  obtain ⟨M', hx, r', f', hv⟩ := r.freeze hb
  exact wpOps_mono (fun _ _ _ hp => hp.trans f') l (h M' a w (g.ext hx) r' (v.frz he hv))
theorem AOpl.frz (hb : H b = some (.cells cs)) (he : ∀ t, FV b cs (e t) (e' t)) (h : AOpl P G n ops os e' (drp H b) nx Q) : AOpl P G n ops os e H nx Q := fun k hk => AOps.frz hb he (h k hk)
theorem frz_put {t0 : Nat} {c : CV} (h : FV b cs (e t0) c) : ∀ t, FV b cs (e t) (putE e (some t0) c t) := fun t => by
  by_cases ht : t = t0
  · subst ht; simp only [putE, if_true]; exact h
  · simp only [putE, ht, if_false]; exact .same _
/-- One temporary's slice becomes a frozen one. -/
theorem AOpl.frzT (t0 : Nat) {o m k : Nat} (h0 : e t0 = .sl b o m k) (hb : H b = some (.cells cs)) (hl : o + m * k ≤ cs.length) (h : AOpl P G n ops os (putE e (some t0) (.lst (rowsOf cs o k m))) (drp H b) nx Q) : AOpl P G n ops os e H nx Q :=
  AOpl.frz hb (frz_put (h0 ▸ .sl o m k hl)) h
theorem AWp.frzT {c : Code} (t0 : Nat) {o m k : Nat} (h0 : e t0 = .sl b o m k) (hb : H b = some (.cells cs)) (hl : o + m * k ≤ cs.length) (h : AWp P G n c (putE e (some t0) (.lst (rowsOf cs o k m))) (drp H b) nx Q) : AWp P G n c e H nx Q :=
  AWp.frz hb (frz_put (h0 ▸ .sl o m k hl)) h
end
/-! results -/
inductive FVr (b : Nat) (cs : List CV) : Res → Res → Prop
  | ret {c c' : CV} (h : FV b cs c c') : FVr b cs (.ret c) (.ret c')
  | pan {c c' : CV} (h : FV b cs c c') : FVr b cs (.pan c) (.pan c')
theorem EndR.frz {M M' : Mp} {b : Nat} {cs : List CV} (h : ∀ {c c' : CV} {v : Value}, FV b cs c c' → RV M c v → RV M' c' v) {r r' : Res} (hf : FVr b cs r r') {e : Ending} (he : EndR M r e) : EndR M' r' e := by
  cases hf with
  | ret hf => cases e <;> simp only [EndR] at he ⊢; exact h hf he
  | pan hf => cases e <;> simp only [EndR] at he ⊢; obtain ⟨z, h1, h2⟩ := he; exact ⟨z, h1, h hf h2⟩
/-- Blocks frozen one after the other. -/
inductive Fz : Heap → Res → Res → Heap → Prop
  | done (H H' : Heap) (r : Res) (s : Sub H' H) : Fz H r r H'
  | step {H H' : Heap} (b : Nat) (cs : List CV) {r r1 r2 : Res} (hb : H b = some (.cells cs)) (hf : FVr b cs r r1) (h : Fz (drp H b) r1 r2 H') : Fz H r r2 H'
theorem Fz.sound {H H' : Heap} {r r' : Res} (h : Fz H r r' H') : ∀ {M : Mp} {nx : Nat} {w : World} {e : Ending}, Rep M H nx w → EndR M r e → ∃ M', EndR M' r' e ∧ Rep M' H' nx w ∧ Fr H M nx w H' M' nx w := by
  induction h with
  | done H H' r s => intro M nx w e hr he; exact ⟨M, he, hr.weak s, Fr.weak s⟩
  | step b cs hb hf _ ih =>
    intro M nx w e hr he
    obtain ⟨M1, hx, r1, f1, hv⟩ := hr.freeze hb
    obtain ⟨M2, h1, h2, h3⟩ := ih r1 (he.frz hv hf)
    exact ⟨M2, h1, h2, f1.trans h3⟩
theorem ACall.frz {P : Program} {G : Nat → CV} {f : FuncId} {args : List CV} {H : Heap} {nx : Nat} {Q : Res → Heap → Nat → Prop} (h : ACall P G f args H nx fun r H' nx' => ∃ r' H'', Fz H' r r' H'' ∧ Q r' H'' nx') : ACall P G f args H nx Q :=
  fun M w vs g r v => (h M w vs g r v).mono fun e w' ⟨M1, x, H1, n1, a1, a2, a3, r', H'', hz, hq⟩ => by
    obtain ⟨M2, b1, b2, b3⟩ := hz.sound a2 a1
    exact ⟨M2, r', H'', n1, b1, b2, a3.trans b3, hq⟩
theorem FCall.frz {P : Program} {G : Nat → CV} {f : FuncId} {args : List CV} {Q : Res → Prop} (h : ∀ nx, ACall P G f args Heap.no nx fun r H' _ => ∃ r' H'', Fz H' r r' H'' ∧ Q r') : FCall P G f args Q :=
  FCall.of fun nx => ACall.frz ((h nx).mono fun r H' nx' ⟨r', H'', a, b⟩ => ⟨r', H'', a, b⟩)
theorem FCall.ofBodyF {P : Program} {G : Nat → CV} {f : FuncId} {fn : Func} {c : Code} {args : List CV} {Q : Res → Prop} {n : Nat} (hf : P.funcs[f]? = some fn) (hb : fn.body = some c) (hn : max args.length fn.ntmps = n)
    (h : ∀ nx, AWp P G n c (argE args) Heap.no nx (BodyQ P fn fun r H' _ => ∃ r' H'', Fz H' r r' H'' ∧ Q r')) : FCall P G f args Q := FCall.frz fun nx => ACall.of_body hf hb (hn ▸ h nx)
/-- Arguments of which a block is frozen for good. -/
theorem ACall.frzA {P : Program} {G : Nat → CV} {f : FuncId} {args args' : List CV} {H : Heap} {nx : Nat} {b : Nat} {cs : List CV} {Q : Res → Heap → Nat → Prop} (hb : H b = some (.cells cs)) (hl : args'.length = args.length) (ha : ∀ j (a : j < args.length) (b' : j < args'.length), FV b cs args[j] args'[j])
    (h : ACall P G f args' (drp H b) nx Q) : ACall P G f args H nx Q := fun M w vs g r v => by
  obtain ⟨M', hx, r', f', hv⟩ := r.freeze hb
  refine (h M' w vs (g.ext hx) r' ⟨by rw [hl]; exact v.1, fun j a d => hv (ha j (by omega) a) (v.2 j (by omega) d)⟩).mono ?_
  rintro e w' ⟨M1, x, H1, n1, a1, a2, a3, a4⟩
  exact ⟨M1, x, H1, n1, a1, a2, f'.trans a3, a4⟩
end Ax
end Go.Proofs.YtdjllogimomgmaaGreatDoor
