/-
  AX: regions that draw their order.
-/
import Derived.Test.YtdjllogimomgmaaGreatDoorAx8
set_option linter.unusedSimpArgs false
set_option linter.unusedVariables false
namespace Go.Proofs.YtdjllogimomgmaaGreatDoor
namespace Ax
/-! which operations come before which -/
def maskOf (acc : List Nat) (es : List Edge) : Nat := match es with
  | [] => 0
  | e :: es => match Region.binds .any e with
    | true => (2 ^ e.on ||| (acc[e.on]?).getD 0) ||| maskOf acc es
    | false => maskOf acc es
def masks : List Nat → List Oper → List Nat
  | acc, [] => acc
  | acc, o :: os => masks (acc ++ [maskOf acc o.after.toList]) os
def ancs (ops : Array Oper) : List Nat := masks [] ops.toList
def anc (A : List Nat) (i j : Nat) : Bool := ((A[i]?).getD 0).testBit j
theorem maskOf_spec {acc : List Nat} {j : Nat} : ∀ {es : List Edge}, (maskOf acc es).testBit j = true → ∃ e ∈ es, Region.binds .any e = true ∧ (e.on = j ∨ ((acc[e.on]?).getD 0).testBit j = true)
  | [], h => by simp [maskOf] at h
  | e :: es, h => by
    unfold maskOf at h
    split at h
    · rename_i hb
      rw [Nat.testBit_or, Nat.testBit_or, Bool.or_eq_true, Bool.or_eq_true] at h
      rcases h with (h | h) | h
      · rw [Nat.testBit_two_pow] at h
        exact ⟨e, by simp, hb, .inl (by simpa using h)⟩
      · exact ⟨e, by simp, hb, .inr h⟩
      · obtain ⟨e', h1, h2⟩ := maskOf_spec h
        exact ⟨e', by simp [h1], h2⟩
    · obtain ⟨e', h1, h2⟩ := maskOf_spec h
      exact ⟨e', by simp [h1], h2⟩
theorem masks_spec : ∀ {os : List Oper} {acc : List Nat} {i : Nat}, acc.length ≤ i → i < acc.length + os.length → ∃ o pre, os[i - acc.length]? = some o ∧ (masks acc os)[i]? = some (maskOf pre o.after.toList) ∧ pre.length = i ∧ (∀ k, k < i → (masks acc os)[k]? = pre[k]?)
  | [], acc, i, h1, h2 => by simp at h2; omega
  | o :: os, acc, i, h1, h2 => by
    unfold masks
    have mono : ∀ {os : List Oper} {acc : List Nat} {k : Nat}, k < acc.length → (masks acc os)[k]? = acc[k]? := by
      intro os
      induction os with
      | nil => intro acc k hk; rfl
      | cons o os ih => intro acc k hk; unfold masks; rw [ih (by simp; omega)]; rw [List.getElem?_append_left hk]
    by_cases he : i = acc.length
    · subst he
      refine ⟨o, acc, by simp, ?_, rfl, fun k hk => ?_⟩
      · rw [mono (by simp)]; simp
      · rw [mono (by simp; omega), List.getElem?_append_left hk]
    · obtain ⟨o', pre, e1, e2, e3, e4⟩ := masks_spec (os := os) (acc := acc ++ [maskOf acc o.after.toList]) (i := i) (by simp; omega) (by simp at h2 ⊢; omega)
      refine ⟨o', pre, ?_, e2, e3, e4⟩
      rw [show i - acc.length = (i - (acc ++ [maskOf acc o.after.toList]).length) + 1 by simp; omega]
      simpa using e1
theorem anc_spec {ops : Array Oper} {i j : Nat} (h : anc (ancs ops) i j = true) : ∃ o, ops[i]? = some o ∧ ∃ e ∈ o.after.toList, Region.binds .any e = true ∧ (e.on = j ∨ (e.on < i ∧ anc (ancs ops) e.on j = true)) := by
  have hlen : ∀ {os : List Oper} {acc : List Nat}, (masks acc os).length = acc.length + os.length := by
    intro os
    induction os with
    | nil => intro acc; rfl
    | cons o os ih => intro acc; unfold masks; rw [ih]; simp; omega
  have hi : i < ops.size := by
    refine Nat.lt_of_not_le fun hn => ?_
    unfold anc ancs at h
    rw [List.getElem?_eq_none (by rw [hlen]; simpa using hn)] at h
    simp at h
  obtain ⟨o, pre, e1, e2, e3, e4⟩ := masks_spec (os := ops.toList) (acc := []) (i := i) (by simp) (by simpa using hi)
  unfold anc ancs at h
  rw [e2] at h
  obtain ⟨e, h1, h2, h3⟩ := maskOf_spec (by simpa using h)
  refine ⟨o, by simpa using e1, e, h1, h2, ?_⟩
  rcases h3 with h3 | h3
  · exact .inl h3
  · by_cases hlt : e.on < i
    · refine .inr ⟨hlt, ?_⟩
      unfold anc ancs
      rw [e4 _ hlt]; exact h3
    · rw [List.getElem?_eq_none (by omega)] at h3
      simp at h3
/-- What stands is closed: with an operation stand those before it. -/
def Clo (ops : Array Oper) (L : Nat → Bool) : Prop := ∀ i o, ops[i]? = some o → L i = true → ∀ e ∈ o.after.toList, Region.binds .any e = true → L e.on = true
theorem Clo.anc {ops : Array Oper} {L : Nat → Bool} (h : Clo ops L) : ∀ {i j : Nat}, Ax.anc (ancs ops) i j = true → L i = true → L j = true := by
  intro i
  induction i using Nat.strongRecOn with
  | _ i ih =>
    intro j ha hi
    obtain ⟨o, ho, e, he, hb, hj⟩ := anc_spec ha
    have h1 := h i o ho hi e he hb
    rcases hj with hj | ⟨hlt, hj⟩
    · rw [← hj]; exact h1
    · exact ih e.on hlt hj h1
theorem Clo.ready {ops : Array Oper} {L : Nat → Bool} (h : Clo ops L) {i j : Nat} {o : Oper} (ho : ops[i]? = some o) (hr : ∀ e ∈ o.after.toList, Region.binds .any e = true → L e.on = true) (ha : Ax.anc (ancs ops) i j = true) : L j = true := by
  obtain ⟨o', ho', e, he, hb, hj⟩ := anc_spec ha
  rw [ho] at ho'; cases ho'
  have h1 := hr e he hb
  rcases hj with hj | ⟨hlt, hj⟩
  · rw [← hj]; exact h1
  · exact h.anc hj h1
/-! the plan of a region -/
inductive Act1 where
  | skip
  | quiet (c : CV)
  | alloc (c : CV) (k : CB)
  | eff (j : Nat) (c : CV)
  | pan (j : Nat) (v : CV)
  | dead
structure Plan where
  act : Nat → Act1
  hs : Nat → Heap
  nxs : Nat → Nat
  m : Nat
  eix : Nat → Nat
def Act1.val : Act1 → CV
  | .quiet c => c
  | .alloc c _ => c
  | .eff _ c => c
  | .skip => .tup []
  | _ => .any
def wr (ops : Array Oper) (t : Nat) : Option Nat := (List.range ops.size).find? fun i => match ops[i]? with
  | some o => o.dst == some t
  | none => false
def envL (ops : Array Oper) (pl : Plan) (e0 : Env) (L : Nat → Bool) : Env := fun t => match wr ops t with
  | some i => match L i with
    | true => (pl.act i).val
    | false => e0 t
  | none => e0 t
/-- The new blocks that stand, but for those that an effect has had. -/
def newL (ops : Array Oper) (pl : Plan) (nx0 J : Nat) (L : Nat → Bool) (b : Nat) : Option CB := match Nat.ble nx0 b && L (b - nx0) with
  | true => match pl.act (b - nx0) with
    | .alloc _ k => match (List.range J).any (fun j => anc (ancs ops) (pl.eix j) (b - nx0)) with
      | true => none
      | false => some k
    | _ => none
  | false => none
def heapL (ops : Array Oper) (pl : Plan) (nx0 J : Nat) (L : Nat → Bool) : Heap := fun b => match newL ops pl nx0 J L b with
  | some k => some k
  | none => pl.hs J b
def before (ops : Array Oper) (i : Nat) : Nat → Bool := fun j => anc (ancs ops) i j
/-- An operation that writes, or a call. -/
def EffOk (P : Program) (G : Nat → CV) (o : Oper) (ρ : Operand → CV) (H : Heap) (nx : Nat) (c : CV) (H' : Heap) (nx' : Nat) : Prop :=
  ∀ M a w next Q, RG G M → Rep M H nx w → (∀ x ∈ o.op.operands, RV M (ρ x) (a.eval x)) →
    (∀ M' z w', RV M' c z → Rep M' H' nx' w' → Fr H M nx w H' M' nx' w' → next (a.put o.dst z) w') → o.wp P a w next Q
def PanOk (P : Program) (G : Nat → CV) (o : Oper) (ρ : Operand → CV) (H : Heap) (nx : Nat) (c : CV) (H' : Heap) (nx' : Nat) : Prop :=
  ∀ M a w next Q, RG G M → Rep M H nx w → (∀ x ∈ o.op.operands, RV M (ρ x) (a.eval x)) →
    (∀ M' z w', RV M' c z → Rep M' H' nx' w' → Fr H M nx w H' M' nx' w' → Q (.panic [{ v := z, recovered := false }]) a w') → o.wp P a w next Q
structure OpOk (P : Program) (G : Nat → CV) (n : Nat) (ops : Array Oper) (pl : Plan) (e0 : Env) (nx0 i : Nat) (o : Oper) : Prop where
  dst : ∀ t, o.dst = some t → t < n ∧ wr ops t = some i
  looks : ∀ t ∈ o.looksAt ops, ∀ j, wr ops t = some j → anc (ancs ops) i j = true ∨ anc (ancs ops) j i = true
  edges : ∀ e ∈ o.after.toList, Region.binds .any e = true → e.on < i
  act : match pl.act i with
    | .skip => gd ops (envL ops pl e0 (before ops i)) o = some false
    | .quiet c => gd ops (envL ops pl e0 (before ops i)) o = some true ∧ ∀ J, J ≤ pl.m → (∀ j, j ≤ pl.m → anc (ancs ops) i (pl.eix j) = true → j < J) → (∀ j, j ≤ pl.m → anc (ancs ops) (pl.eix j) i = true → J ≤ j) → qstep P (heapL ops pl nx0 J (before ops i)) (rd G (envL ops pl e0 (before ops i))) o.op = some c
    | .alloc c k => gd ops (envL ops pl e0 (before ops i)) o = some true ∧ astep P (rd G (envL ops pl e0 (before ops i))) (nx0 + i) o.op = some (c, k)
    | .eff j c => gd ops (envL ops pl e0 (before ops i)) o = some true ∧ pl.eix j = i ∧ j < pl.m ∧ (∀ j', j' < j → anc (ancs ops) i (pl.eix j') = true) ∧ EffOk P G o (rd G (envL ops pl e0 (before ops i))) (heapL ops pl nx0 j (before ops i)) (pl.nxs j) c (pl.hs (j + 1)) (pl.nxs (j + 1))
    | .pan j v => gd ops (envL ops pl e0 (before ops i)) o = some true ∧ pl.eix j = i ∧ j = pl.m ∧ (∀ j', j' < j → anc (ancs ops) i (pl.eix j') = true) ∧ PanOk P G o (rd G (envL ops pl e0 (before ops i))) (heapL ops pl nx0 j (before ops i)) (pl.nxs j) v (pl.hs (j + 1)) (pl.nxs (j + 1))
    | .dead => ∃ j' v, pl.act (pl.eix pl.m) = .pan j' v ∧ anc (ancs ops) i (pl.eix pl.m) = true
structure Plan.Ok (P : Program) (G : Nat → CV) (n : Nat) (ops : Array Oper) (pl : Plan) (e0 : Env) (H0 : Heap) (nx0 : Nat) : Prop where
  op : ∀ i o, ops[i]? = some o → OpOk P G n ops pl e0 nx0 i o
  h0 : Sub (pl.hs 0) H0
  n0 : pl.nxs 0 = nx0 + ops.size
  nmono : ∀ j, j ≤ pl.m → nx0 + ops.size ≤ pl.nxs j
  apart : ∀ J i c k, J ≤ pl.m → pl.act i = .alloc c k → i < ops.size → (∀ j, j < J → anc (ancs ops) (pl.eix j) i = false) → pl.hs J (nx0 + i) = none
  eixlt : ∀ j, j < pl.m → pl.eix j < ops.size ∧ ∃ c, pl.act (pl.eix j) = .eff j c
  eixm : (∃ j v, pl.act (pl.eix pl.m) = .pan j v ∧ pl.eix pl.m < ops.size) ∨ ops.size ≤ pl.eix pl.m
/-- The state of a drawn region in which L stands. -/
structure Inv (P : Program) (G : Nat → CV) (n : Nat) (ops : Array Oper) (pl : Plan) (e0 : Env) (H0 : Heap) (nx0 : Nat) (M0 : Mp) (w0 : World) (L : Nat → Bool) (a : Act) (w : World) : Prop where
  clo : Clo ops L
  lt : ∀ i, L i = true → i < ops.size
  ex : ∃ J M Hc, J ≤ pl.m ∧ (∀ j, j < pl.m → (L (pl.eix j) = true ↔ j < J)) ∧ L (pl.eix pl.m) = false ∧
    RG G M ∧ Rep M Hc (pl.nxs J) w ∧ Sub (heapL ops pl nx0 J L) Hc ∧ EnvR M n (envL ops pl e0 L) a ∧ Fr H0 M0 nx0 w0 Hc M (pl.nxs J) w ∧
    (∀ i c k, pl.act i = .alloc c k → i < ops.size → L i = false → M.bk (nx0 + i) = none)
def setL (L : Nat → Bool) (i : Nat) : Nat → Bool := fun j => if j = i then true else L j
theorem wr_some {ops : Array Oper} {t i : Nat} (h : wr ops t = some i) : ∃ o, ops[i]? = some o ∧ o.dst = some t := by
  have := List.find?_some h
  cases ho : ops[i]? with
  | none => simp [ho] at this
  | some o => simp [ho] at this; exact ⟨o, rfl, this⟩
theorem envL_set {P : Program} {G : Nat → CV} {n : Nat} {ops : Array Oper} {pl : Plan} {e0 : Env} {nx0 i : Nat} {o : Oper} {L : Nat → Bool} (ho : ops[i]? = some o) (hk : OpOk P G n ops pl e0 nx0 i o) :
    envL ops pl e0 (setL L i) = putE (envL ops pl e0 L) o.dst (pl.act i).val := by
  funext t
  by_cases hd : o.dst = some t
  · have := (hk.dst t hd).2
    rw [hd]
    simp [envL, this, setL, putE]
  · have e1 : putE (envL ops pl e0 L) o.dst (pl.act i).val t = envL ops pl e0 L t := by
      cases hdd : o.dst with
      | none => rfl
      | some d => simp only [putE]; rw [if_neg (fun e => hd (by rw [hdd, e]))]
    rw [e1]
    unfold envL
    cases hw : wr ops t with
    | none => rfl
    | some j =>
      have hne : j ≠ i := fun e => by
        obtain ⟨o', h1, h2⟩ := wr_some hw
        rw [e, ho] at h1; cases h1
        exact hd h2
      simp [setL, hne]
theorem agree {P : Program} {G : Nat → CV} {n : Nat} {ops : Array Oper} {pl : Plan} {e0 : Env} {nx0 i : Nat} {o : Oper} {L : Nat → Bool} (ho : ops[i]? = some o) (hk : OpOk P G n ops pl e0 nx0 i o) (hc : Clo ops L) (hi : L i = false)
    (hr : ∀ e ∈ o.after.toList, Region.binds .any e = true → L e.on = true) : ∀ t ∈ o.looksAt ops, envL ops pl e0 L t = envL ops pl e0 (before ops i) t := by
  intro t ht
  unfold envL
  cases hw : wr ops t with
  | none => rfl
  | some j =>
    simp only [before]
    cases ha : anc (ancs ops) i j with
    | true => rw [hc.ready ho hr ha]
    | false =>
      have hj : L j = false := by
        rcases hk.looks t ht j hw with h | h
        · rw [ha] at h; cases h
        · cases hl : L j with
          | false => rfl
          | true => have := hc.anc h hl; rw [hi] at this; cases this
      rw [hj]
theorem gd_congr {ops : Array Oper} {e e' : Env} {o : Oper} (h : ∀ t ∈ o.looksAt ops, e t = e' t) : gd ops e o = gd ops e' o := by
  unfold gd
  cases hg : o.guard with
  | none => rfl
  | some p =>
    obtain ⟨j, want⟩ := p
    simp only
    cases hj : ops[j]? with
    | none => rfl
    | some oj =>
      simp only
      cases hd : oj.dst with
      | none => rfl
      | some t =>
        have := h t (by simp [Oper.looksAt, hg, hj, hd])
        simp only [this]
theorem rd_congr {G : Nat → CV} {ops : Array Oper} {e e' : Env} {o : Oper} (h : ∀ t ∈ o.looksAt ops, e t = e' t) : ∀ x ∈ o.op.operands, rd G e x = rd G e' x := by
  intro x hx
  cases x with
  | tmp t =>
    refine h t ?_
    simp only [Oper.looksAt, List.mem_append, List.mem_filterMap]
    exact .inl ⟨.tmp t, by simpa using hx, rfl⟩
  | const v => rfl
  | global g => rfl
  | func f => rfl
theorem heapL_sub {ops : Array Oper} {pl : Plan} {nx0 J : Nat} {L L' : Nat → Bool} (hap : ∀ i c k, pl.act i = .alloc c k → L i = true → (∀ j, j < J → anc (ancs ops) (pl.eix j) i = false) → pl.hs J (nx0 + i) = none) (h : ∀ j, L' j = true → L j = true) : Sub (heapL ops pl nx0 J L') (heapL ops pl nx0 J L) := by
  intro b k hb
  unfold heapL at hb ⊢
  cases h1 : newL ops pl nx0 J L b with
  | some k1 =>
    cases h2 : newL ops pl nx0 J L' b with
    | some k2 =>
      rw [h2] at hb
      simp only at hb ⊢
      rw [← hb]
      unfold newL at h1 h2
      split at h1
      · split at h1
        · rename_i c' kk hk
          split at h1
          · cases h1
          · cases h1
            split at h2
            · rw [hk] at h2
              simp only at h2
              split at h2
              · cases h2
              · cases h2; rfl
            · cases h2
        · cases h1
      · cases h1
    | none =>
      rw [h2] at hb
      simp only at hb
      unfold newL at h1
      split at h1
      · rename_i hc
        simp only [Bool.and_eq_true] at hc
        have hle := Nat.le_of_ble_eq_true hc.1
        split at h1
        · rename_i c' kk hk
          split at h1
          · cases h1
          · rename_i hany
            have := hap (b - nx0) c' kk hk hc.2 (fun j hj => by
              have := List.any_eq_false.mp hany j (List.mem_range.mpr hj)
              simpa using this)
            rw [show nx0 + (b - nx0) = b by omega] at this
            rw [this] at hb; cases hb
        · cases h1
      · cases h1
  | none =>
    cases h2 : newL ops pl nx0 J L' b with
    | none => rw [h2] at hb; exact hb
    | some k2 =>
      unfold newL at h1 h2
      split at h2
      · rename_i hc
        simp only [Bool.and_eq_true] at hc
        rw [hc.1, h _ hc.2] at h1
        simp only [Bool.and_self] at h1
        split at h2
        · rename_i c' kk hk
          rw [hk] at h1
          simp only at h1
          split at h2
          · cases h2
          · rename_i hany; rw [hany] at h1; cases h1
        · cases h2
      · cases h2
end Ax
end Go.Proofs.YtdjllogimomgmaaGreatDoor
