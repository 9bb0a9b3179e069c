/-
  AX: drawn regions of which every operation only looks run in the order of the text.
-/
import Derived.Test.YtdjllogimomgmaaGreatDoorAx17
set_option linter.unusedSimpArgs false
set_option linter.unusedVariables false
namespace Go.Proofs.YtdjllogimomgmaaGreatDoor
namespace Ax
/-- What can be seen of a drawn region from its text. -/
def statO (n : Nat) (ops : Array Oper) (i : Nat) (o : Oper) : Bool :=
  (match o.dst with
    | some t => Nat.blt t n && eqON (wr ops t) i
    | none => true) &&
  (o.looksAt ops).all (fun t => match wr ops t with
    | some j => anc (ancs ops) i j || anc (ancs ops) j i
    | none => true) &&
  o.after.toList.all (fun e => !Region.binds .any e || Nat.blt e.on i)
def statL (n : Nat) (ops : Array Oper) : Nat → List Oper → Bool
  | _, [] => true
  | i, o :: os => statO n ops i o && statL n ops (i + 1) os
def stat (n : Nat) (ops : Array Oper) : Bool := statL n ops 0 ops.toList
theorem statL_spec {n : Nat} {ops : Array Oper} : ∀ {os : List Oper} {k : Nat}, statL n ops k os = true → ∀ (i : Nat) o, os[i]? = some o → statO n ops (k + i) o = true
  | [], k, h, i, o, ho => by simp at ho
  | x :: os, k, h, i, o, ho => by
    simp only [statL, Bool.and_eq_true] at h
    cases i with
    | zero => simp at ho; subst ho; exact h.1
    | succ i => have := statL_spec h.2 i o (by simpa using ho); rwa [show k + 1 + i = k + (i + 1) by omega] at this
/-- Operations that look, one after the other. -/
inductive QRun (P : Program) (G : Nat → CV) (H : Heap) (ops : Array Oper) : List Oper → Env → List Act1 → Env → Prop
  | nil (e : Env) : QRun P G H ops [] e [] e
  | look {o : Oper} {os : List Oper} {e e' : Env} {l : List Act1} (c : CV) (hg : gd ops e o = some true) (hq : qstep P H (rd G e) o.op = some c) (h : QRun P G H ops os (putE e o.dst c) l e') : QRun P G H ops (o :: os) e (.quiet c :: l) e'
  | skip {o : Oper} {os : List Oper} {e e' : Env} {l : List Act1} (hg : gd ops e o = some false) (h : QRun P G H ops os (putE e o.dst (.tup [])) l e') : QRun P G H ops (o :: os) e (.skip :: l) e'
theorem qstep_congr {P : Program} {H : Heap} {ρ ρ' : Operand → CV} {op : Op} (h : ∀ x ∈ op.operands, ρ x = ρ' x) : qstep P H ρ op = qstep P H ρ' op := by
  unfold qstep
  cases op
  case makeFunc fn a b =>
    have h1 : a.toList.map ρ = a.toList.map ρ' := List.map_congr_left fun x hx => h x (by simp [Op.operands]; left; simpa using hx)
    have h2 : b.toList.map ρ = b.toList.map ρ' := List.map_congr_left fun x hx => h x (by simp [Op.operands]; right; simpa using hx)
    simp only [h1, h2]
  case slice t x lo hi mx =>
    have h0 : ρ x = ρ' x := h x (by simp [Op.operands])
    have h1 : lo.map ρ = lo.map ρ' := by cases lo with
      | none => rfl
      | some y => simp only [Option.map_some]; rw [h y (by simp [Op.operands])]
    have h2 : hi.map ρ = hi.map ρ' := by cases hi with
      | none => rfl
      | some y => simp only [Option.map_some]; rw [h y (by cases lo <;> simp [Op.operands])]
    simp only [h0, h1, h2]
  case call c =>
    have h1 : c.args.toList.map ρ = c.args.toList.map ρ' := List.map_congr_left fun x hx => h x (by cases hc : c.callee <;> simp [Op.operands, Call.operands, hc] <;> first | exact (Array.mem_def.mpr hx) | exact .inr (Array.mem_def.mpr hx))
    simp only [h1]
  case build t ps =>
    have h1 : (ps.toList.map fun p => (p.1, ρ p.2)) = ps.toList.map fun p => (p.1, ρ' p.2) := List.map_congr_left fun x hx => by
      rw [h x.2 (by simp [Op.operands]; exact ⟨x.1, by simpa using hx⟩)]
    simp only [h1]
  all_goals (try (simp [Op.operands] at h))
  all_goals first
    | rfl
    | (simp only [h]; done)
section
variable {P : Program} {G : Nat → CV} {n : Nat} {ops : Array Oper} {H : Heap} {nx : Nat} {Q : AExit → Env → Heap → Nat → Prop}
theorem QRun.len {os : List Oper} {e e' : Env} {l : List Act1} (h : QRun P G H ops os e l e') : l.length = os.length := by
  induction h with
  | nil => rfl
  | look _ _ _ _ ih => simp [ih]
  | skip _ _ ih => simp [ih]
/-- The plan of a run that looks. -/
def planQ (ops : Array Oper) (H : Heap) (nx : Nat) (l : List Act1) : Plan := ⟨fun i => (l[i]?).getD .skip, fun _ => H, fun _ => nx + ops.size, 0, fun _ => ops.size⟩
theorem statO_dst {i : Nat} {o : Oper} (h : statO n ops i o = true) : ∀ t, o.dst = some t → t < n ∧ wr ops t = some i := by
  intro t ht
  simp only [statO, Bool.and_eq_true, ht] at h
  refine ⟨blt_lt h.1.1.1, ?_⟩
  have h2 := h.1.1.2
  cases hw : wr ops t with
  | none => rw [hw] at h2; cases h2
  | some j => rw [hw] at h2; rw [beq_eq (a := j) (b := i) h2]
theorem statO_looks {i : Nat} {o : Oper} (h : statO n ops i o = true) : ∀ t ∈ o.looksAt ops, ∀ j, wr ops t = some j → anc (ancs ops) i j = true ∨ anc (ancs ops) j i = true := by
  intro t ht j hj
  simp only [statO, Bool.and_eq_true] at h
  have := List.all_eq_true.mp h.1.2 t ht
  rw [hj] at this
  simpa using this
theorem statO_edges {i : Nat} {o : Oper} (h : statO n ops i o = true) : ∀ e ∈ o.after.toList, Region.binds .any e = true → e.on < i := by
  intro e he hb
  simp only [statO, Bool.and_eq_true] at h
  have := List.all_eq_true.mp h.2 e he
  rw [hb] at this
  exact blt_lt (by simpa using this)
/-- What the run knows behind k operations. -/
theorem QRun.env {os : List Oper} {e e' : Env} {l : List Act1} (h : QRun P G H ops os e l e') : ∀ (k : Nat) (e0 : Env) (pre : List Act1), ops.toList.drop k = os → pre.length = k → stat n ops = true →
    (∀ t, e t = match wr ops t with
      | some j => if j < k then ((pre[j]?).getD .skip).val else e0 t
      | none => e0 t) →
    (∀ t, e' t = match wr ops t with
      | some j => if j < ops.size then (((pre ++ l)[j]?).getD .skip).val else e0 t
      | none => e0 t) ∧
    ∀ i o, k ≤ i → ops[i]? = some o → ∃ ei, (∀ t, ei t = match wr ops t with
      | some j => if j < i then (((pre ++ l)[j]?).getD .skip).val else e0 t
      | none => e0 t) ∧ ((∃ c, (pre ++ l)[i]? = some (.quiet c) ∧ gd ops ei o = some true ∧ qstep P H (rd G ei) o.op = some c) ∨ ((pre ++ l)[i]? = some .skip ∧ gd ops ei o = some false)) := by
  have step : ∀ {k : Nat} {o : Oper} {e e0 : Env} {pre : List Act1} {a : Act1} {c : CV}, ops[k]? = some o → pre.length = k → stat n ops = true → a.val = c →
      (∀ t, e t = match wr ops t with
        | some j => if j < k then ((pre[j]?).getD .skip).val else e0 t
        | none => e0 t) →
      ∀ t, putE e o.dst c t = match wr ops t with
        | some j => if j < k + 1 then (((pre ++ [a])[j]?).getD .skip).val else e0 t
        | none => e0 t := by
    intro k o e e0 pre a c ho hpre hst hav he t
    have hso := statL_spec (k := 0) hst k o (by simpa using ho)
    rw [Nat.zero_add] at hso
    have hput : (o.dst = some t ∧ putE e o.dst c t = c) ∨ (o.dst ≠ some t ∧ putE e o.dst c t = e t) := by
      cases hd : o.dst with
      | none => right; exact ⟨by simp, rfl⟩
      | some d =>
        by_cases hdt : t = d
        · left; subst hdt; exact ⟨rfl, by simp [putE]⟩
        · right; exact ⟨fun h => hdt (by cases h; rfl), by simp [putE, hdt]⟩
    rcases hput with ⟨h1, h2⟩ | ⟨h1, h2⟩
    · rw [h2, (statO_dst hso t h1).2]
      simp only [Nat.lt_succ_self, if_true]
      rw [List.getElem?_append_right (by omega), hpre, Nat.sub_self]
      simp [hav]
    · rw [h2, he t]
      cases hw : wr ops t with
      | none => rfl
      | some j =>
        simp only
        obtain ⟨oj, hoj, hdj⟩ := wr_some hw
        have hjk : j ≠ k := fun e => by subst e; rw [ho] at hoj; cases hoj; exact h1 hdj
        by_cases hlt : j < k
        · rw [if_pos hlt, if_pos (by omega), List.getElem?_append_left (by omega)]
        · rw [if_neg hlt, if_neg (by omega)]
  have drop_succ : ∀ {k : Nat} {o : Oper} {os : List Oper}, ops.toList.drop k = o :: os → ops[k]? = some o ∧ ops.toList.drop (k + 1) = os := by
    intro k o os hk
    constructor
    · have := congrArg List.head? hk
      simpa [List.head?_drop] using this
    · have := congrArg List.tail hk
      simpa [List.tail_drop] using this
  induction h with
  | nil e =>
    intro k e0 pre hk hpre hst he
    have hsz : ops.size ≤ k := by
      have := congrArg List.length hk
      simp at this; omega
    refine ⟨fun t => ?_, fun i o hi ho => ?_⟩
    · rw [he t]
      cases hw : wr ops t with
      | none => rfl
      | some j =>
        obtain ⟨oj, hoj, _⟩ := wr_some hw
        have hlt := (Array.getElem?_eq_some_iff.mp hoj).1
        simp only [hlt, if_true, List.append_nil]
        rw [if_pos (by omega)]
    · have := (Array.getElem?_eq_some_iff.mp ho).1; omega
  | @look o os e e' l c hg hq _ ih =>
    intro k e0 pre hk hpre hst he
    obtain ⟨ho, hk'⟩ := drop_succ hk
    obtain ⟨i1, i2⟩ := ih (k + 1) e0 (pre ++ [Act1.quiet c]) hk' (by simp [hpre]) hst (step (a := .quiet c) (c := c) ho hpre hst rfl he)
    simp only [List.append_assoc, List.cons_append, List.nil_append] at i1 i2
    refine ⟨i1, fun i oi hi hoi => ?_⟩
    rcases Nat.lt_or_eq_of_le hi with h1 | h1
    · exact i2 i oi h1 hoi
    · subst h1
      rw [ho] at hoi; cases hoi
      refine ⟨e, fun t => ?_, .inl ⟨c, ?_, hg, hq⟩⟩
      · rw [he t]
        cases hw : wr ops t with
        | none => rfl
        | some j =>
          simp only
          by_cases hlt : j < k
          · rw [if_pos hlt, if_pos hlt, List.getElem?_append_left (by omega)]
          · rw [if_neg hlt, if_neg hlt]
      · rw [List.getElem?_append_right (by omega), hpre, Nat.sub_self]; rfl
  | @skip o os e e' l hg _ ih =>
    intro k e0 pre hk hpre hst he
    obtain ⟨ho, hk'⟩ := drop_succ hk
    obtain ⟨i1, i2⟩ := ih (k + 1) e0 (pre ++ [Act1.skip]) hk' (by simp [hpre]) hst (step (a := .skip) (c := .tup []) ho hpre hst rfl he)
    simp only [List.append_assoc, List.cons_append, List.nil_append] at i1 i2
    refine ⟨i1, fun i oi hi hoi => ?_⟩
    rcases Nat.lt_or_eq_of_le hi with h1 | h1
    · exact i2 i oi h1 hoi
    · subst h1
      rw [ho] at hoi; cases hoi
      refine ⟨e, fun t => ?_, .inr ⟨?_, hg⟩⟩
      · rw [he t]
        cases hw : wr ops t with
        | none => rfl
        | some j =>
          simp only
          by_cases hlt : j < k
          · rw [if_pos hlt, if_pos hlt, List.getElem?_append_left (by omega)]
          · rw [if_neg hlt, if_neg hlt]
      · rw [List.getElem?_append_right (by omega), hpre, Nat.sub_self]; rfl
theorem ops_looks {o : Oper} {ops : Array Oper} {e e' : Env} (h : ∀ t ∈ o.looksAt ops, e t = e' t) : ∀ x ∈ o.op.operands, rd G e x = rd G e' x := rd_congr h
/-- A drawn region of which every operation only looks. -/
theorem AWp.regQ {id : Nat} {e e' : Env} {l : List Act1} (hm : P.follows .mixedOrders = true) (hst : stat n ops = true) (hr : QRun P G H ops ops.toList e l e') (h : Q .normal e' H (nx + ops.size)) : AWp P G n (.region id ops true) e H nx Q := by
  have hlen : l.length = ops.size := by have := hr.len; simpa using this
  obtain ⟨h1, h2⟩ := hr.env (n := n) 0 e [] (by simp) rfl hst (fun t => by cases wr ops t <;> simp)
  simp only [List.nil_append] at h1 h2
  have hnl : ∀ J L b, newL ops (planQ ops H nx l) nx J L b = none := by
    intro J L b
    unfold newL
    split
    · split
      · rename_i c k hact
        exfalso
        simp only [planQ] at hact
        cases hl : l[b - nx]? with
        | none => rw [hl] at hact; cases hact
        | some a =>
          have hlt := (List.getElem?_eq_some_iff.mp hl).1
          obtain ⟨_, _, h3⟩ := h2 (b - nx) ops[b - nx] (Nat.zero_le _) (by simp [show b - nx < ops.size by omega])
          rw [hl] at hact
          simp only [Option.getD_some] at hact
          subst hact
          rcases h3 with ⟨c', h3, _⟩ | ⟨h3, _⟩
          · rw [hl] at h3; cases h3
          · rw [hl] at h3; cases h3
      · rfl
    · rfl
  have hhl : ∀ J L, heapL ops (planQ ops H nx l) nx J L = H := by
    intro J L; funext b; unfold heapL; rw [hnl]; rfl
  have hskip : (planQ ops H nx l).act ops.size = .skip := by
    show (l[ops.size]?).getD .skip = .skip
    rw [List.getElem?_eq_none (by omega)]; rfl
  have hall : envL ops (planQ ops H nx l) e (allL ops) = e' := by
    funext t
    rw [h1 t]
    unfold envL
    cases hw : wr ops t with
    | none => rfl
    | some j =>
      obtain ⟨oj, hoj, _⟩ := wr_some hw
      have hlt := (Array.getElem?_eq_some_iff.mp hoj).1
      simp only [allL, lt_blt hlt, hlt, if_true]
      rfl
  have ok : Plan.Ok P G n ops (planQ ops H nx l) e H nx := by
    refine ⟨fun i o ho => ?_, Sub.refl _, rfl, fun j _ => Nat.le_refl _, fun J i c k _ ha hi _ => ?_, fun j hj => absurd hj (Nat.not_lt_zero _), .inr (Nat.le_refl _)⟩
    · have hso := statL_spec (k := 0) hst i o (by simpa using ho)
      rw [Nat.zero_add] at hso
      have hed : ∀ i o, ops[i]? = some o → ∀ e ∈ o.after.toList, Region.binds .any e = true → e.on < i := by
        intro i o ho
        have := statL_spec (k := 0) hst i o (by simpa using ho)
        rw [Nat.zero_add] at this
        exact statO_edges this
      obtain ⟨ei, he, hact⟩ := h2 i o (Nat.zero_le _) ho
      have hagree : ∀ t ∈ o.looksAt ops, envL ops (planQ ops H nx l) e (before ops i) t = ei t := by
        intro t ht
        rw [he t]
        unfold envL
        cases hw : wr ops t with
        | none => rfl
        | some j =>
          simp only
          rcases statO_looks hso t ht j hw with ha | ha
          · have hlt := anc_lt hed ha
            simp only [before, ha, if_pos hlt]
            rfl
          · have hlt := anc_lt hed ha
            have hn : anc (ancs ops) i j = false := by
              cases hx : anc (ancs ops) i j with
              | false => rfl
              | true => have := anc_lt hed hx; omega
            simp only [before, hn]
            rw [if_neg (by omega)]
      refine ⟨statO_dst hso, statO_looks hso, statO_edges hso, ?_⟩
      have hgd := gd_congr (o := o) hagree
      have hrd := rd_congr (G := G) (o := o) hagree
      rcases hact with ⟨c, hl, hg, hq⟩ | ⟨hl, hg⟩
      · have : (planQ ops H nx l).act i = .quiet c := by show (l[i]?).getD .skip = _; rw [hl]; rfl
        simp only [this]
        refine ⟨by rw [hgd]; exact hg, fun J _ _ _ => ?_⟩
        rw [hhl, qstep_congr hrd]; exact hq
      · have : (planQ ops H nx l).act i = .skip := by show (l[i]?).getD .skip = _; rw [hl]; rfl
        simp only [this]
        rw [hgd]; exact hg
    · obtain ⟨_, _, h3⟩ := h2 i ops[i] (Nat.zero_le _) (by simp [hi])
      simp only [planQ] at ha
      rcases h3 with ⟨c', h3, _⟩ | ⟨h3, _⟩
      · rw [h3] at ha; cases ha
      · rw [h3] at ha; cases ha
  refine AWp.drawn hm ok (fun j v hv => ?_) (fun _ => ?_)
  · exfalso
    have : (planQ ops H nx l).act ops.size = .pan j v := hv
    rw [hskip] at this; cases this
  · rw [hall, hhl]; exact h
end
end Ax
end Go.Proofs.YtdjllogimomgmaaGreatDoor
