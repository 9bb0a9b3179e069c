/-
  AX: the closed executor: regions that draw their order, code, functions.
-/
import Derived.Test.YtdjllogimomgmaaGreatDoorAx11
set_option linter.unusedSimpArgs false
set_option linter.unusedVariables false
namespace Go.Proofs.YtdjllogimomgmaaGreatDoor
namespace Ax
/-- A plan that grows. -/
structure PS where
  acts : List Act1
  hs : List (Tr CB)
  nxs : List Nat
  eix : List Nat
  pan : Bool
def PS.plan (ps : PS) (N : Nat) : Plan where
  act := fun i => (ps.acts[i]?).getD .skip
  hs := fun j => hv ((ps.hs[j]?).getD .lf)
  nxs := fun j => (ps.nxs[j]?).getD 0
  m := match ps.pan with
    | true => ps.eix.length - 1
    | false => ps.eix.length
  eix := fun j => (ps.eix[j]?).getD N
/-- The heap that an operation sees, as a trie. -/
def seeT (ops : Array Oper) (pl : Plan) (nx0 J i : Nat) (acts : List Act1) (h : Tr CB) : Nat → Tr CB
  | 0 => h
  | k + 1 => match (acts[k]?).getD .skip with
    | .alloc _ kk => match anc (ancs ops) i k && !(List.range J).any (fun j => anc (ancs ops) (pl.eix j) k) with
      | true => Tr.put 20 (seeT ops pl nx0 J i acts h k) (nx0 + k) (some kk)
      | false => seeT ops pl nx0 J i acts h k
    | _ => seeT ops pl nx0 J i acts h k
theorem seeT_get {ops : Array Oper} {ps : PS} {N nx0 J i : Nat} {h : Tr CB} : ∀ (k b : Nat) (kk : CB), (seeT ops (ps.plan N) nx0 J i ps.acts h k).get b = some kk → newL ops (ps.plan N) nx0 J (before ops i) b = some kk ∨ ((∀ i', i' < k → b = nx0 + i' → newL ops (ps.plan N) nx0 J (before ops i) b = none) ∧ h.get b = some kk)
  | 0, b, kk, hg => .inr ⟨fun i' hi => absurd hi (Nat.not_lt_zero _), hg⟩
  | k + 1, b, kk, hg => by
    have step : (seeT ops (ps.plan N) nx0 J i ps.acts h k).get b = some kk → (b = nx0 + k → newL ops (ps.plan N) nx0 J (before ops i) b = none) → newL ops (ps.plan N) nx0 J (before ops i) b = some kk ∨ ((∀ i', i' < k + 1 → b = nx0 + i' → newL ops (ps.plan N) nx0 J (before ops i) b = none) ∧ h.get b = some kk) := by
      intro h1 h2
      rcases seeT_get k b kk h1 with h3 | ⟨h3, h4⟩
      · exact .inl h3
      · refine .inr ⟨fun i' hi' hb => ?_, h4⟩
        by_cases e : i' = k
        · subst e; exact h2 hb
        · exact h3 i' (by omega) hb
    have nonew : (∀ c kk, (ps.plan N).act k ≠ .alloc c kk) ∨ (anc (ancs ops) i k && !(List.range J).any (fun j => anc (ancs ops) ((ps.plan N).eix j) k)) = false → b = nx0 + k → newL ops (ps.plan N) nx0 J (before ops i) b = none := by
      intro hor hb
      cases hn : newL ops (ps.plan N) nx0 J (before ops i) b with
      | none => rfl
      | some k2 =>
        obtain ⟨n1, n2, ⟨c, n3⟩, n4⟩ := newL_some hn
        have e : b - nx0 = k := by omega
        rw [e] at n2 n3 n4
        rcases hor with hor | hor
        · exact absurd n3 (hor _ _)
        · simp only [before] at n2
          rw [n2] at hor
          simp only [Bool.true_and, Bool.not_eq_false'] at hor
          obtain ⟨j, hj, ha⟩ := List.any_eq_true.mp hor
          rw [n4 j (List.mem_range.mp hj)] at ha; cases ha
    unfold seeT at hg
    split at hg
    · rename_i c k2 hact
      split at hg
      · rename_i hc
        simp only [Bool.and_eq_true, Bool.not_eq_true'] at hc
        rcases Tr.get_put _ _ _ _ _ _ hg with ⟨a, e⟩ | ⟨a, e⟩
        · cases e
          left
          refine newL_of (c := c) (by omega) (by subst a; simp only [before, Nat.add_sub_cancel_left]; exact hc.1) (by subst a; simp only [Nat.add_sub_cancel_left]; exact hact) (fun j hj => ?_)
          subst a
          simp only [Nat.add_sub_cancel_left]
          have := List.any_eq_false.mp hc.2 j (List.mem_range.mpr hj)
          simpa using this
        · exact step e (fun hb => absurd hb a)
      · rename_i hc
        exact step hg (nonew (.inr hc))
    · rename_i hna
      refine step hg (nonew (.inl fun c k2 hx => ?_))
      exact hna c k2 hx
/-- One operation of a drawn region. -/
def stepP (P : Program) (G : Nat → CV) (call : Call1) (ops : Array Oper) (e0 : Env) (nx0 : Nat) (ps : PS) (o : Oper) : Option PS :=
  match ps.pan && anc (ancs ops) ps.acts.length ((ps.eix[ps.eix.length - 1]?).getD ops.size) with
  | true => some { ps with acts := ps.acts ++ [.dead] }
  | false => match gd ops (envL ops (ps.plan ops.size) e0 (before ops ps.acts.length)) o with
    | some false => some { ps with acts := ps.acts ++ [.skip] }
    | some true => match astep P (rd G (envL ops (ps.plan ops.size) e0 (before ops ps.acts.length))) (nx0 + ps.acts.length) o.op with
      | some (c, k) => some { ps with acts := ps.acts ++ [.alloc c k] }
      | none => match qstep P (hv (seeT ops (ps.plan ops.size) nx0 (match ps.pan with | true => ps.eix.length - 1 | false => ps.eix.length) ps.acts.length ps.acts ((ps.hs[match ps.pan with | true => ps.eix.length - 1 | false => ps.eix.length]?).getD .lf) ps.acts.length)) (rd G (envL ops (ps.plan ops.size) e0 (before ops ps.acts.length))) o.op with
        | some c => some { ps with acts := ps.acts ++ [.quiet c] }
        | none => match ps.pan with
          | true => none
          | false => match estep P (hv (seeT ops (ps.plan ops.size) nx0 ps.eix.length ps.acts.length ps.acts ((ps.hs[ps.eix.length]?).getD .lf) ps.acts.length)) ((ps.nxs[ps.eix.length]?).getD 0) (rd G (envL ops (ps.plan ops.size) e0 (before ops ps.acts.length))) o.op with
            | some (c, d) => some { acts := ps.acts ++ [.eff ps.eix.length c], hs := ps.hs ++ [d.tr (seeT ops (ps.plan ops.size) nx0 ps.eix.length ps.acts.length ps.acts ((ps.hs[ps.eix.length]?).getD .lf) ps.acts.length) ((ps.nxs[ps.eix.length]?).getD 0)], nxs := ps.nxs ++ [d.nx ((ps.nxs[ps.eix.length]?).getD 0)], eix := ps.eix ++ [ps.acts.length], pan := false }
            | none => match callA (rd G (envL ops (ps.plan ops.size) e0 (before ops ps.acts.length))) o.op with
              | some (f, args) => match enters P f with
                | true => match call f args (seeT ops (ps.plan ops.size) nx0 ps.eix.length ps.acts.length ps.acts ((ps.hs[ps.eix.length]?).getD .lf) ps.acts.length) ((ps.nxs[ps.eix.length]?).getD 0) with
                  | some (.ret c, h', nx') => some { acts := ps.acts ++ [.eff ps.eix.length c], hs := ps.hs ++ [h'], nxs := ps.nxs ++ [nx'], eix := ps.eix ++ [ps.acts.length], pan := false }
                  | some (.pan v, h', nx') => some { acts := ps.acts ++ [.pan ps.eix.length v], hs := ps.hs ++ [h'], nxs := ps.nxs ++ [nx'], eix := ps.eix ++ [ps.acts.length], pan := true }
                  | none => none
                | false => none
              | none => none
    | none => none
def planL (P : Program) (G : Nat → CV) (call : Call1) (ops : Array Oper) (e0 : Env) (nx0 : Nat) : List Oper → PS → Option PS
  | [], ps => some ps
  | o :: os, ps => match stepP P G call ops e0 nx0 ps o with
    | some ps' => planL P G call ops e0 nx0 os ps'
    | none => none
/-- The beginning of a plan. -/
structure Pre (ps pf : PS) : Prop where
  acts : ∃ l, pf.acts = ps.acts ++ l
  hs : ∃ l, pf.hs = ps.hs ++ l
  nxs : ∃ l, pf.nxs = ps.nxs ++ l
  eix : ∃ l, pf.eix = ps.eix ++ l
  pan : ps.pan = true → pf.pan = true ∧ pf.eix = ps.eix
theorem Pre.refl (ps : PS) : Pre ps ps := ⟨⟨[], by simp⟩, ⟨[], by simp⟩, ⟨[], by simp⟩, ⟨[], by simp⟩, fun h => ⟨h, rfl⟩⟩
theorem Pre.trans {a b c : PS} (h : Pre a b) (h' : Pre b c) : Pre a c := by
  obtain ⟨⟨l1, e1⟩, ⟨l2, e2⟩, ⟨l3, e3⟩, ⟨l4, e4⟩, e5⟩ := h
  obtain ⟨⟨m1, f1⟩, ⟨m2, f2⟩, ⟨m3, f3⟩, ⟨m4, f4⟩, f5⟩ := h'
  exact ⟨⟨l1 ++ m1, by rw [f1, e1]; simp⟩, ⟨l2 ++ m2, by rw [f2, e2]; simp⟩, ⟨l3 ++ m3, by rw [f3, e3]; simp⟩, ⟨l4 ++ m4, by rw [f4, e4]; simp⟩, fun h => ⟨(f5 (e5 h).1).1, by rw [(f5 (e5 h).1).2, (e5 h).2]⟩⟩
theorem stepP_pre {P : Program} {G : Nat → CV} {call : Call1} {ops : Array Oper} {e0 : Env} {nx0 : Nat} {ps ps' : PS} {o : Oper} (h : stepP P G call ops e0 nx0 ps o = some ps') : Pre ps ps' ∧ ps'.acts.length = ps.acts.length + 1 ∧
    (ps.eix.length + 1 = ps.hs.length → ps.eix.length + 1 = ps.nxs.length → ps'.eix.length + 1 = ps'.hs.length ∧ ps'.eix.length + 1 = ps'.nxs.length) := by
  unfold stepP at h
  have simple : ∀ x : Act1, Pre ps { ps with acts := ps.acts ++ [x] } := fun x => ⟨⟨[x], rfl⟩, ⟨[], by simp⟩, ⟨[], by simp⟩, ⟨[], by simp⟩, fun hp => ⟨hp, rfl⟩⟩
  split at h
  · cases h; exact ⟨simple _, by simp, fun a b => ⟨a, b⟩⟩
  · split at h
    · cases h; exact ⟨simple _, by simp, fun a b => ⟨a, b⟩⟩
    · split at h
      · cases h; exact ⟨simple _, by simp, fun a b => ⟨a, b⟩⟩
      · split at h
        · cases h; exact ⟨simple _, by simp, fun a b => ⟨a, b⟩⟩
        · split at h
          · cases h
          · rename_i hp
            split at h
            · cases h; exact ⟨⟨⟨_, rfl⟩, ⟨_, rfl⟩, ⟨_, rfl⟩, ⟨_, rfl⟩, fun hh => (by rw [hp] at hh; cases hh)⟩, by simp, fun a b => by simp; omega⟩
            · split at h
              · split at h
                · split at h
                  · cases h; exact ⟨⟨⟨_, rfl⟩, ⟨_, rfl⟩, ⟨_, rfl⟩, ⟨_, rfl⟩, fun hh => (by rw [hp] at hh; cases hh)⟩, by simp, fun a b => by simp; omega⟩
                  · cases h; exact ⟨⟨⟨_, rfl⟩, ⟨_, rfl⟩, ⟨_, rfl⟩, ⟨_, rfl⟩, fun hh => (by rw [hp] at hh; cases hh)⟩, by simp, fun a b => by simp; omega⟩
                  · cases h
                · cases h
              · cases h
    · cases h
/-- Every step of the plan. -/
theorem planL_steps {P : Program} {G : Nat → CV} {call : Call1} {ops : Array Oper} {e0 : Env} {nx0 : Nat} : ∀ {os : List Oper} {ps pf : PS}, planL P G call ops e0 nx0 os ps = some pf → Pre ps pf ∧ pf.acts.length = ps.acts.length + os.length ∧
    (ps.eix.length + 1 = ps.hs.length → ps.eix.length + 1 = ps.nxs.length → pf.eix.length + 1 = pf.hs.length ∧ pf.eix.length + 1 = pf.nxs.length ∧
    ∀ (k : Nat) o, os[k]? = some o → ∃ a b, stepP P G call ops e0 nx0 a o = some b ∧ a.acts.length = ps.acts.length + k ∧ Pre a pf ∧ Pre b pf ∧ a.eix.length + 1 = a.hs.length ∧ a.eix.length + 1 = a.nxs.length)
  | [], ps, pf, h => by
    cases h
    exact ⟨.refl _, by simp, fun a b => ⟨a, b, fun k o hk => by simp at hk⟩⟩
  | o :: os, ps, pf, h => by
    unfold planL at h
    split at h
    · rename_i ps' hs
      obtain ⟨p1, l1, s1⟩ := stepP_pre hs
      obtain ⟨p2, l2, s2⟩ := planL_steps h
      refine ⟨p1.trans p2, by simp; omega, fun a b => ?_⟩
      obtain ⟨a', b'⟩ := s1 a b
      obtain ⟨c1, c2, c3⟩ := s2 a' b'
      refine ⟨c1, c2, fun k o' hk => ?_⟩
      cases k with
      | zero => cases hk; exact ⟨ps, ps', hs, by simp, p1.trans p2, p2, a, b⟩
      | succ k =>
        obtain ⟨x, y, h1, h2, h3, h4, h5, h6⟩ := c3 k o' (by simpa using hk)
        exact ⟨x, y, h1, by omega, h3, h4, h5, h6⟩
    · cases h
end Ax
end Go.Proofs.YtdjllogimomgmaaGreatDoor
