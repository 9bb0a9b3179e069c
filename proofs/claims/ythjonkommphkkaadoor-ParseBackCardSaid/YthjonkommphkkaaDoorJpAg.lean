/-
  AX: the closed executor: regions that draw their order, code, functions.
-/
import Derived.Test.YthjonkommphkkaaDoorJpAf
set_option linter.unusedSectionVars false
set_option linter.unusedSimpArgs false
set_option linter.unnecessarySimpa false
set_option linter.unusedVariables false
set_option linter.unusedSimpArgs false
set_option linter.unusedVariables false
namespace Go.Proofs.YthjonkommphkkaaDoor
namespace Ax
/-- A plan that grows. -/
structure PS where
  acts : List Act1
  hs : List (Tr CB)
  nxs : List Nat
  eix : List Nat
  pan : Bool
/-- The beginning of a plan. -/
structure Pre (ps pf : PS) : Prop where
  acts : ∃ l, pf.acts = ps.acts ++ l
  hs : ∃ l, pf.hs = ps.hs ++ l
  nxs : ∃ l, pf.nxs = ps.nxs ++ l
  eix : ∃ l, pf.eix = ps.eix ++ l
  pan : ps.pan = true → pf.pan = true ∧ pf.eix = ps.eix
theorem Pre.refl (ps : PS) : Pre ps ps := ⟨⟨[], by simp⟩, ⟨[], by simp⟩, ⟨[], by simp⟩, ⟨[], by simp⟩, fun h => ⟨h, rfl⟩⟩
theorem Pre.trans {a b c : PS} (h : Pre a b) (h' : Pre b c) : Pre a c := by
  obtain ⟨⟨l1, e1⟩, ⟨l2, e2⟩, ⟨l3, e3⟩, ⟨l4, e4⟩, e5⟩ := h
  obtain ⟨⟨m1, f1⟩, ⟨m2, f2⟩, ⟨m3, f3⟩, ⟨m4, f4⟩, f5⟩ := h'
  exact ⟨⟨l1 ++ m1, by rw [f1, e1]; simp⟩, ⟨l2 ++ m2, by rw [f2, e2]; simp⟩, ⟨l3 ++ m3, by rw [f3, e3]; simp⟩, ⟨l4 ++ m4, by rw [f4, e4]; simp⟩, fun h => ⟨(f5 (e5 h).1).1, by rw [(f5 (e5 h).1).2, (e5 h).2]⟩⟩
end Ax
end Go.Proofs.YthjonkommphkkaaDoor
namespace Go.Proofs.YthjonkommphkkaaDoor
namespace Ax
/-- Effects and their places. -/
structure EI (ps : PS) : Prop where
  at' : ∀ j i, ps.eix[j]? = some i → i < ps.acts.length ∧ ((∃ c, ps.acts[i]? = some (.eff j c)) ∨ (∃ v, ps.acts[i]? = some (.pan j v) ∧ ps.pan = true ∧ j + 1 = ps.eix.length))
  last : ps.pan = true → ∃ i v, ps.eix[ps.eix.length - 1]? = some i ∧ ps.eix.length ≠ 0 ∧ ps.acts[i]? = some (.pan (ps.eix.length - 1) v)
theorem EI.add {ps : PS} (h : EI ps) (x : Act1) : EI { ps with acts := ps.acts ++ [x] } := by
  refine ⟨fun j i hj => ?_, fun hp => ?_⟩
  · obtain ⟨h1, h2⟩ := h.at' j i hj
    refine ⟨by simp; omega, ?_⟩
    rw [show ({ ps with acts := ps.acts ++ [x] } : PS).acts = ps.acts ++ [x] from rfl, List.getElem?_append_left h1]
    exact h2
  · obtain ⟨i, v, h1, h2, h3⟩ := h.last hp
    have hl := (List.getElem?_eq_some_iff.mp h3).1
    exact ⟨i, v, h1, h2, by rw [show ({ ps with acts := ps.acts ++ [x] } : PS).acts = ps.acts ++ [x] from rfl, List.getElem?_append_left hl]; exact h3⟩
theorem EI.eff {ps : PS} (h : EI ps) (hp : ps.pan = false) (x : Act1) (h' : Tr CB) (n' : Nat) (q : Bool) (hx : (∃ c, x = .eff ps.eix.length c ∧ q = false) ∨ (∃ v, x = .pan ps.eix.length v ∧ q = true)) :
    EI ⟨ps.acts ++ [x], ps.hs ++ [h'], ps.nxs ++ [n'], ps.eix ++ [ps.acts.length], q⟩ := by
  refine ⟨fun j i hj => ?_, fun hq => ?_⟩
  · simp only at hj ⊢
    by_cases hlt : j < ps.eix.length
    · rw [List.getElem?_append_left hlt] at hj
      obtain ⟨h1, h2⟩ := h.at' j i hj
      refine ⟨by simp; omega, .inl ?_⟩
      rw [List.getElem?_append_left h1]
      rcases h2 with h2 | ⟨v, _, h3, _⟩
      · exact h2
      · rw [hp] at h3; cases h3
    · have hl := (List.getElem?_eq_some_iff.mp hj).1
      simp at hl
      have e : j = ps.eix.length := by omega
      subst e
      simp at hj
      subst hj
      refine ⟨by simp, ?_⟩
      rcases hx with ⟨c, e1, e2⟩ | ⟨v, e1, e2⟩
      · left; exact ⟨c, by simp [e1]⟩
      · right; exact ⟨v, by simp [e1], e2, by simp⟩
  · simp only at hq ⊢
    rcases hx with ⟨c, e1, e2⟩ | ⟨v, e1, e2⟩
    · rw [e2] at hq; cases hq
    · exact ⟨ps.acts.length, v, by simp, by simp, by simp [e1]⟩
/-! the last look -/
def isNone {α : Type} : Option α → Bool
  | none => true
  | some _ => false
def eqON : Option Nat → Nat → Bool
  | some a, b => Nat.beq a b
  | none, _ => false
theorem anc_lt {ops : Array Oper} (he : ∀ i o, ops[i]? = some o → ∀ e ∈ o.after.toList, Region.binds .any e = true → e.on < i) : ∀ {i j : Nat}, anc (ancs ops) i j = true → j < i := by
  intro i
  induction i using Nat.strongRecOn with
  | _ i ih =>
    intro j ha
    obtain ⟨o, ho, e, hm, hb, hj⟩ := anc_spec ha
    have h1 := he i o ho e hm hb
    rcases hj with hj | ⟨hlt, hj⟩
    · omega
    · have := ih e.on hlt hj; omega
section agree
variable {ops : Array Oper} {a pf : PS} {e0 : Env} {nx0 i : Nat}
end agree
theorem EffOk.weak {P : Program} {G : Nat → CV} {o : Oper} {ρ : Operand → CV} {H H1 H' : Heap} {nx nx' : Nat} {c : CV} (s : Sub H1 H) (h : EffOk P G o ρ H1 nx c H' nx') : EffOk P G o ρ H nx c H' nx' :=
  fun M a w next Q g r hx k => h M a w next Q g (r.weak s) hx fun M' z w' h1 h2 h3 => k M' z w' h1 h2 (h3.src s)
theorem PanOk.weak {P : Program} {G : Nat → CV} {o : Oper} {ρ : Operand → CV} {H H1 H' : Heap} {nx nx' : Nat} {c : CV} (s : Sub H1 H) (h : PanOk P G o ρ H1 nx c H' nx') : PanOk P G o ρ H nx c H' nx' :=
  fun M a w next Q g r hx k => h M a w next Q g (r.weak s) hx fun M' z w' h1 h2 h3 => k M' z w' h1 h2 (h3.src s)
theorem EffOk.estep {P : Program} {G : Nat → CV} {o : Oper} {ρ : Operand → CV} {h : Tr CB} {nx : Nat} {c : CV} {d : Dl} (he : estep P (hv h) nx ρ o.op = some (c, d)) : EffOk P G o ρ (hv h) nx c (hv (d.tr h nx)) (d.nx nx) := by
  intro M a w next Q g r hx k
  obtain ⟨M', w', h1, r', f'⟩ := estep_sound he r hx
  have s := Dl.tr_sub h nx d
  unfold Oper.wp
  rcases h1 with ⟨z, h1, h2⟩ | ⟨h1, h2⟩
  · rw [h1]; exact k M' z w' h2 (r'.weak s) (f'.trans (.weak s))
  · rw [h1]; subst h2; exact k M' undef w' (.any _) (r'.weak s) (f'.trans (.weak s))
theorem EffOk.call {P : Program} {G : Nat → CV} {o : Oper} {ρ : Operand → CV} {H H' : Heap} {nx nx' : Nat} {c : CV} {f : FuncId} {args : List CV} (hq : callA ρ o.op = some (f, args)) (he : enters P f = true)
    (h : ACall P G f args H nx fun r H1 n1 => r = .ret c ∧ H1 = H' ∧ n1 = nx') : EffOk P G o ρ H nx c H' nx' := by
  intro M a w next Q g r hx k
  obtain ⟨vs, h1, h2⟩ := callA_sound (w := w) hq he hx
  unfold Oper.wp
  rw [h1, Oper.upon_enter]
  refine (h M w vs g r h2).mono ?_
  rintro en w' ⟨M', x, H1, n1, a1, a2, a3, rfl, rfl, rfl⟩
  cases en <;> simp only [EndR] at a1
  exact k M' _ w' a1 a2 a3
theorem PanOk.call {P : Program} {G : Nat → CV} {o : Oper} {ρ : Operand → CV} {H H' : Heap} {nx nx' : Nat} {c : CV} {f : FuncId} {args : List CV} (hq : callA ρ o.op = some (f, args)) (he : enters P f = true)
    (h : ACall P G f args H nx fun r H1 n1 => r = .pan c ∧ H1 = H' ∧ n1 = nx') : PanOk P G o ρ H nx c H' nx' := by
  intro M a w next Q g r hx k
  obtain ⟨vs, h1, h2⟩ := callA_sound (w := w) hq he hx
  unfold Oper.wp
  rw [h1, Oper.upon_enter]
  refine (h M w vs g r h2).mono ?_
  rintro en w' ⟨M', x, H1, n1, a1, a2, a3, rfl, rfl, rfl⟩
  cases en <;> simp only [EndR] at a1
  obtain ⟨z, e, hz⟩ := a1
  subst e
  exact k M' z w' hz a2 a3
end Ax
end Go.Proofs.YthjonkommphkkaaDoor
