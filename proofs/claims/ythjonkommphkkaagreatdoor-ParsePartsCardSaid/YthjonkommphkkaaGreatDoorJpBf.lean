/-
  Plain Lean: the reference's parser as steps of a state (an index, and whether a token did not fit), over the rules of ParSpec.
-/
import Derived.Test.YthjonkommphkkaaGreatDoorJpAp
import Derived.Test.YthjonkommphkkaaGreatDoorJpBb
namespace Go.Proofs.YthjonkommphkkaaGreatDoor
namespace Lx
/-- The reference's parser: the index of the next token; whether one did not fit. -/
structure RS where
  i : Nat
  bad : Bool
/-- A rule takes the state σ to σ' with the value x (any value, if a token does not fit). -/
def Stp {α : Type} (spec : Nat → PR α) (σ : RS) (x : α) (σ' : RS) : Prop :=
  (σ.bad = true ∧ σ' = σ) ∨ (σ.bad = false ∧ match spec σ.i with
    | .ok (a, j) => x = a ∧ σ' = ⟨j, false⟩
    | .error q => σ' = ⟨q, true⟩)
section
variable {α β γ : Type} {σ σ1 σ2 : RS} {ts : List Tok}
theorem Stp.isBad {spec : Nat → PR α} {x : α} (h : σ.bad = true) (e : σ1 = σ) : Stp spec σ x σ1 := .inl ⟨h, e⟩
theorem Stp.ofBad {spec : Nat → PR α} {x : α} (h : Stp spec σ x σ1) (hb : σ.bad = true) : σ1 = σ := by
  rcases h with ⟨_, h⟩ | ⟨h, _⟩
  · exact h
  · rw [hb] at h; cases h
theorem Stp.pure (a : α) (σ : RS) : Stp (fun i => .ok (a, i)) σ a σ := by
  obtain ⟨i, b⟩ := σ
  cases b
  · exact .inr ⟨rfl, rfl, rfl⟩
  · exact .inl ⟨rfl, rfl⟩
theorem Stp.bind {s : Nat → PR α} {k : α → Nat → PR β} {x : α} {y : β} (h1 : Stp s σ x σ1) (h2 : Stp (k x) σ1 y σ2) : Stp (fun i => bindP (s i) k) σ y σ2 := by
  rcases h1 with ⟨hb, rfl⟩ | ⟨hb, h1⟩
  · rcases h2 with ⟨_, rfl⟩ | ⟨hb', _⟩
    · exact .inl ⟨hb, rfl⟩
    · rw [hb] at hb'; cases hb'
  · refine .inr ⟨hb, ?_⟩
    show match bindP (s σ.i) k with
      | .ok (a, j) => y = a ∧ σ2 = ⟨j, false⟩
      | .error q => σ2 = ⟨q, true⟩
    cases hs : s σ.i with
    | error q =>
      rw [hs] at h1
      subst h1
      rcases h2 with ⟨_, rfl⟩ | ⟨hb', _⟩
      · rfl
      · cases hb'
    | ok p =>
      obtain ⟨a, j⟩ := p
      rw [hs] at h1
      obtain ⟨rfl, rfl⟩ := h1
      rcases h2 with ⟨hb', _⟩ | ⟨_, h2⟩
      · cases hb'
      · exact h2
theorem Stp.map {s : Nat → PR α} {f : α → β} {x : α} (h : Stp s σ x σ1) : Stp (fun i => bindP (s i) fun a j => .ok (f a, j)) σ (f x) σ1 := h.bind (Stp.pure _ _)
theorem Stp.cond {s t : Nat → PR α} {x : α} (h : Stp s σ x σ1) (he : σ.bad = false → t σ.i = s σ.i) : Stp t σ x σ1 := by
  rcases h with h | ⟨hb, h⟩
  · exact .inl h
  · exact .inr ⟨hb, by rw [he hb]; exact h⟩
/-- Whether the next token has a text that is no identifier's and no number's. -/
def atB (ts : List Tok) (σ : RS) (x : Bytes) : Bool := !σ.bad && isT ts σ.i x
def skipS (ts : List Tok) (σ : RS) (x : Bytes) : RS := if atB ts σ x then ⟨σ.i + 1, false⟩ else σ
def mustS (ts : List Tok) (σ : RS) (x : Bytes) : RS := if atB ts σ x then ⟨σ.i + 1, false⟩ else ⟨σ.i, true⟩
theorem atB_bad {x : Bytes} (h : σ.bad = true) : atB ts σ x = false := by unfold atB; rw [h]; rfl
theorem atB_good {x : Bytes} (h : σ.bad = false) : atB ts σ x = isT ts σ.i x := by unfold atB; rw [h]; rfl
theorem atB_true {x : Bytes} (h : atB ts σ x = true) : σ.bad = false ∧ isT ts σ.i x = true := by
  unfold atB at h
  cases hb : σ.bad <;> simp [hb] at h ⊢; exact h
theorem skipS_true {x : Bytes} (h : atB ts σ x = true) : skipS ts σ x = ⟨σ.i + 1, false⟩ := by unfold skipS; rw [if_pos h]
theorem skipS_false {x : Bytes} (h : atB ts σ x = false) : skipS ts σ x = σ := by unfold skipS; rw [h]; rfl
theorem stp_must (ts : List Tok) (σ : RS) (x : Bytes) : Stp (expectP ts x) σ () (mustS ts σ x) := by
  cases hb : σ.bad
  · refine .inr ⟨hb, ?_⟩
    unfold expectP mustS
    rw [atB_good hb]
    cases isT ts σ.i x <;> simp
  · refine .inl ⟨hb, ?_⟩
    unfold mustS
    rw [atB_bad hb]
    obtain ⟨i, b⟩ := σ
    simp at hb
    simp [hb]
theorem Stp.skipT {A B : Nat → PR α} {x : Bytes} {y : α} (h : atB ts σ x = true) (h2 : Stp A ⟨σ.i + 1, false⟩ y σ2) : Stp (fun i => if isT ts i x then A (i + 1) else B i) σ y σ2 := by
  obtain ⟨h0, h1⟩ := atB_true h
  rcases h2 with ⟨hb, _⟩ | ⟨_, h2⟩
  · cases hb
  · refine .inr ⟨h0, ?_⟩
    simp only [h1, if_true]; exact h2
theorem Stp.skipF {A B : Nat → PR α} {x : Bytes} {y : α} (h : atB ts σ x = false) (h2 : Stp B σ y σ2) : Stp (fun i => if isT ts i x then A i else B i) σ y σ2 := by
  rcases h2 with h2 | ⟨hb, h2⟩
  · exact .inl h2
  · refine .inr ⟨hb, ?_⟩
    rw [atB_good hb] at h
    simp only [h]; exact h2
theorem Stp.good {s : Nat → PR α} {x : α} (h : Stp s σ x σ1) (hb : σ1.bad = false) : σ.bad = false ∧ s σ.i = .ok (x, σ1.i) := by
  rcases h with ⟨h0, rfl⟩ | ⟨h0, h⟩
  · rw [h0] at hb; cases hb
  · cases hs : s σ.i with
    | error q => rw [hs] at h; subst h; cases hb
    | ok p => obtain ⟨a, j⟩ := p; rw [hs] at h; obtain ⟨rfl, rfl⟩ := h; exact ⟨h0, rfl⟩
theorem Stp.failed {s : Nat → PR α} {x : α} (h : Stp s σ x σ1) (h0 : σ.bad = false) (hb : σ1.bad = true) : s σ.i = .error σ1.i := by
  rcases h with ⟨h1, _⟩ | ⟨_, h⟩
  · rw [h0] at h1; cases h1
  · cases hs : s σ.i with
    | error q => rw [hs] at h; subst h; rfl
    | ok p => obtain ⟨a, j⟩ := p; rw [hs] at h; obtain ⟨rfl, rfl⟩ := h; cases hb
/-- The first of two. -/
def fstP (r : PR (α × β)) : PR α := bindP r fun p j => .ok (p.1, j)
theorem fstP_ok (p : α × β) (j : Nat) : fstP (.ok (p, j) : PR (α × β)) = .ok (p.1, j) := rfl
theorem fstP_error (q : Nat) : fstP (.error q : PR (α × β)) = .error q := rfl
theorem fstP_bind (r : PR γ) (k : γ → Nat → PR (α × β)) : fstP (bindP r k) = bindP r fun a j => fstP (k a j) := by
  cases r with
  | error q => rfl
  | ok p => obtain ⟨a, j⟩ := p; rfl
theorem bindP_fst {δ : Type} (r : PR (α × β)) (k : α → Nat → PR δ) : bindP r (fun p j => k p.1 j) = bindP (fstP r) k := by
  cases r with
  | error q => rfl
  | ok p => obtain ⟨a, j⟩ := p; rfl
end
/-! parentheses that close -/
def opB (ts : List Tok) (i : Nat) : Bool := isT ts i [40]
def clB (ts : List Tok) (i : Nat) : Bool := isT ts i [41]
/-- Whether, n parentheses being open, the last of them closes at the last of m tokens from i on. -/
def closeF (ts : List Tok) : Nat → Nat → Nat → Bool
  | 0, _, _ => false
  | m + 1, n, i => if opB ts i then closeF ts m (n + 1) (i + 1) else if clB ts i then (if n ≤ 1 then m == 0 else closeF ts m (n - 1) (i + 1)) else closeF ts m n (i + 1)
def BalI (ts : List Tok) (i j : Nat) : Prop := i ≤ j ∧ ∀ n m, 0 < n → closeF ts (j - i + m) n i = closeF ts m n j
section
variable {ts : List Tok}
theorem BalI.refl (i : Nat) : BalI ts i i := ⟨Nat.le_refl _, fun n m _ => by rw [Nat.sub_self, Nat.zero_add]⟩
theorem BalI.trans {i j k : Nat} (h : BalI ts i j) (h' : BalI ts j k) : BalI ts i k := ⟨Nat.le_trans h.1 h'.1, fun n m hn => by
  have h1 := h.1
  have h2 := h'.1
  rw [show k - i + m = j - i + (k - j + m) by omega, h.2 _ _ hn, h'.2 _ _ hn]⟩
theorem BalI.one {i : Nat} (h1 : opB ts i = false) (h2 : clB ts i = false) : BalI ts i (i + 1) := ⟨by omega, fun n m hn => by
  rw [show i + 1 - i + m = m + 1 by omega, closeF, h1, h2]; rfl⟩
theorem BalI.step {i j : Nat} (h1 : opB ts i = false) (h2 : clB ts i = false) (h : BalI ts (i + 1) j) : BalI ts i j := (BalI.one h1 h2).trans h
theorem cl_op {i : Nat} (h : clB ts i = true) : opB ts i = false := by
  unfold clB isT at h
  unfold opB isT
  rw [eq_of_beq h]; rfl
theorem BalI.paren {i j : Nat} (h1 : opB ts i = true) (h : BalI ts (i + 1) j) (h2 : clB ts j = true) : BalI ts i (j + 1) := ⟨by have := h.1; omega, fun n m hn => by
  have h0 := h.1
  rw [show j + 1 - i + m = (j - (i + 1) + (m + 1)) + 1 by omega, closeF, h1, if_pos rfl, h.2 _ _ (by omega), closeF, cl_op h2, h2, if_neg (by simp), if_pos rfl, if_neg (by omega)]
  rfl⟩
/-- The first parenthesis closes at the last token. -/
theorem close_whole {i j : Nat} (h1 : opB ts i = true) (h : BalI ts (i + 1) j) (h2 : clB ts j = true) (k : Nat) (hk : j + 1 ≤ k) : closeF ts (k - i) 0 i = (k == j + 1) := by
  have h0 := h.1
  rw [show k - i = (j - (i + 1) + (k - (j + 1) + 1)) + 1 by omega, closeF, h1, if_pos rfl, h.2 _ _ (by omega), closeF, cl_op h2, h2, if_neg (by simp), if_pos rfl, if_pos (by omega)]
  by_cases e : k = j + 1
  · subst e; simp
  · rw [beq_eq_false_iff_ne.2 e, beq_eq_false_iff_ne.2 (by omega)]
theorem tok_none {i : Nat} {x : Bytes} (h : isT ts i x = true) (h1 : x ≠ [40]) (h2 : x ≠ [41]) : opB ts i = false ∧ clB ts i = false := by
  unfold isT at h
  unfold opB clB isT
  rw [eq_of_beq h]
  exact ⟨beq_eq_false_iff_ne.2 h1, beq_eq_false_iff_ne.2 h2⟩
/-- Words and numbers are no marks; keywords and marks have their kinds. -/
structure KT (ts : List Tok) : Prop where
  word : ∀ i, (tk ts i).kind = 1 ∨ (tk ts i).kind = 3 → opB ts i = false ∧ clB ts i = false
variable {E : Nat → PR Ex} (hK : KT ts) (hE : ∀ i r j, E i = .ok (r, j) → BalI ts i j)
include hE
theorem argsLoop_bal : ∀ n acc i r j, argsLoop ts E n acc i = .ok (r, j) → ∃ k, BalI ts i k ∧ clB ts k = true ∧ j = k + 1 := by
  intro n
  induction n with
  | zero => intro acc i r j h; cases h
  | succ n ih =>
    intro acc i r j h
    simp only [argsLoop] at h
    split at h
    · rename_i hc
      obtain ⟨e, k, h1, h2⟩ := bindP_inv h
      obtain ⟨k2, h3, h4, h5⟩ := ih _ _ _ _ h2
      obtain ⟨a, b⟩ := tok_none hc (by decide) (by decide)
      exact ⟨k2, (BalI.step a b (hE _ _ _ h1)).trans h3, h4, h5⟩
    · obtain ⟨_, k, h1, h2⟩ := bindP_inv h
      simp only [expectP] at h1
      split at h1
      · rename_i hc
        cases h1; cases h2
        exact ⟨i, BalI.refl _, hc, rfl⟩
      · cases h1
theorem argsP_bal {i j : Nat} {r : List Ex} (h : argsP ts E i = .ok (r, j)) : BalI ts i j := by
  unfold argsP at h
  obtain ⟨_, k, h1, h2⟩ := bindP_inv h
  simp only [expectP] at h1
  split at h1
  · rename_i ho
    cases h1
    split at h2
    · rename_i hc
      cases h2
      exact BalI.paren ho (BalI.refl _) hc
    · obtain ⟨e, k, h3, h4⟩ := bindP_inv h2
      obtain ⟨k2, h5, h6, rfl⟩ := argsLoop_bal hE _ _ _ _ _ h4
      exact BalI.paren ho ((hE _ _ _ h3).trans h5) h6
  · cases h1
omit hE in
theorem unitP_bal {i j : Nat} {e : Ex} {r : Ex × Nat} (h : unitP ts i e = .ok (r, j)) : BalI ts i j := by
  unfold unitP at h
  obtain ⟨_, k, h1, h2⟩ := bindP_inv h
  obtain ⟨_, k2, h3, h4⟩ := bindP_inv h2
  simp only [expectP] at h1 h3
  split at h1
  · rename_i ho
    cases h1
    split at h3
    · rename_i hc
      cases h3; cases h4
      exact BalI.paren ho (BalI.refl _) hc
    · cases h3
  · cases h1
omit hE in
include hK in
theorem nameP_bal {i j : Nat} {r : Bytes} (h : nameP ts i = .ok (r, j)) : BalI ts i j := by
  unfold nameP at h
  split at h
  · rename_i hk
    cases h
    obtain ⟨a, b⟩ := hK.word i (.inl hk)
    exact BalI.one a b
  · cases h
include hK
/-- How an atom begins and ends. -/
theorem atomP_bal {i j : Nat} {e : Ex} {sh : Nat} (h : atomP ts E i = .ok ((e, sh), j)) : BalI ts i j ∧
    ((opB ts i = true ∧ sh = 0 ∧ ∃ k, BalI ts (i + 1) k ∧ clB ts k = true ∧ j = k + 1) ∨
     (opB ts i = false ∧ ((sh = 0 ∧ e.kind ≠ 3 ∧ e.kind ≠ 8 ∧ e.kind ≠ 9 ∧ e.kind ≠ 10) ∨ (sh = 1 ∧ e.kind = 3) ∨ (sh = 3 ∧ e.kind = 10)))) := by
  unfold atomP at h
  split at h
  · rename_i hk
    obtain ⟨a, b⟩ := hK.word i (.inl hk)
    unfold namedP at h
    obtain ⟨n, k, h1, h2⟩ := bindP_inv h
    split at h2
    · rename_i hc
      obtain ⟨m, k2, h3, h4⟩ := bindP_inv h2
      obtain ⟨ks, k3, h5, h6⟩ := bindP_inv h4
      cases h6
      obtain ⟨a2, b2⟩ := tok_none hc (by decide) (by decide)
      exact ⟨(nameP_bal hK h1).trans ((BalI.step a2 b2 (nameP_bal hK h3)).trans (argsP_bal hE h5)), .inr ⟨a, .inr (.inr ⟨rfl, rfl⟩)⟩⟩
    · cases h2
      exact ⟨nameP_bal hK h1, .inr ⟨a, .inr (.inl ⟨rfl, rfl⟩)⟩⟩
  · rename_i hk1
    split at h
    · rename_i hk
      obtain ⟨a, b⟩ := hK.word i (.inr hk)
      cases h
      exact ⟨BalI.one a b, .inr ⟨a, .inl ⟨rfl, by simp [Ex.kind], by simp [Ex.kind], by simp [Ex.kind], by simp [Ex.kind]⟩⟩⟩
    · split at h
      · rename_i hc
        obtain ⟨a, b⟩ := tok_none hc (by decide) (by decide)
        unfold minusP at h
        split at h
        · rename_i hm
          cases h
          obtain ⟨a2, b2⟩ := hK.word (i + 1) (.inr hm.1)
          exact ⟨BalI.step a b (BalI.one a2 b2), .inr ⟨a, .inl ⟨rfl, by simp [Ex.kind], by simp [Ex.kind], by simp [Ex.kind], by simp [Ex.kind]⟩⟩⟩
        · cases h
      · split at h
        · rename_i hc
          obtain ⟨a, b⟩ := tok_none hc (by decide) (by decide)
          cases h
          exact ⟨BalI.one a b, .inr ⟨a, .inl ⟨rfl, by simp [Ex.kind], by simp [Ex.kind], by simp [Ex.kind], by simp [Ex.kind]⟩⟩⟩
        · split at h
          · rename_i hc
            obtain ⟨a, b⟩ := tok_none hc (by decide) (by decide)
            cases h
            exact ⟨BalI.one a b, .inr ⟨a, .inl ⟨rfl, by simp [Ex.kind], by simp [Ex.kind], by simp [Ex.kind], by simp [Ex.kind]⟩⟩⟩
          · split at h
            · rename_i hc
              obtain ⟨a, b⟩ := tok_none hc (by decide) (by decide)
              have hb := unitP_bal h
              unfold unitP at h
              obtain ⟨_, k, _, h2⟩ := bindP_inv h
              obtain ⟨_, k2, _, h4⟩ := bindP_inv h2
              cases h4
              exact ⟨BalI.step a b hb, .inr ⟨a, .inl ⟨rfl, by simp [Ex.kind], by simp [Ex.kind], by simp [Ex.kind], by simp [Ex.kind]⟩⟩⟩
            · split at h
              · rename_i hc
                obtain ⟨a, b⟩ := tok_none hc (by decide) (by decide)
                obtain ⟨n, k0, h0, h⟩ := bindP_inv h
                have hb := unitP_bal h
                unfold unitP at h
                obtain ⟨_, k, _, h2⟩ := bindP_inv h
                obtain ⟨_, k2, _, h4⟩ := bindP_inv h2
                cases h4
                exact ⟨BalI.step a b ((nameP_bal hK h0).trans hb), .inr ⟨a, .inl ⟨rfl, by simp [Ex.kind], by simp [Ex.kind], by simp [Ex.kind], by simp [Ex.kind]⟩⟩⟩
              · unfold parenP at h
                obtain ⟨_, k, h1, h2⟩ := bindP_inv h
                obtain ⟨e1, k2, h3, h4⟩ := bindP_inv h2
                obtain ⟨_, k3, h5, h6⟩ := bindP_inv h4
                cases h6
                simp only [expectP] at h1 h5
                split at h1
                · rename_i ho
                  cases h1
                  split at h5
                  · rename_i hc
                    cases h5
                    exact ⟨BalI.paren ho (hE _ _ _ h3) hc, .inl ⟨ho, rfl, k2, hE _ _ _ h3, hc, rfl⟩⟩
                  · cases h5
                · cases h1
theorem postLoop_bal : ∀ n e sh i e' sh' j, postLoop ts E n e sh i = .ok ((e', sh'), j) → BalI ts i j ∧ ((j = i ∧ e' = e ∧ sh' = sh) ∨ (i < j ∧ ((sh' = 2 ∧ e'.kind = 8) ∨ (sh' = 3 ∧ e'.kind = 9)))) := by
  intro n
  induction n with
  | zero => intro e sh i e' sh' j h; cases h
  | succ n ih =>
    intro e sh i e' sh' j h
    simp only [postLoop] at h
    split at h
    · rename_i hc
      obtain ⟨a, b⟩ := tok_none hc (by decide) (by decide)
      obtain ⟨m, k, h1, h2⟩ := bindP_inv h
      have b1 := BalI.step a b (nameP_bal hK h1)
      have l1 := nameP_adv h1
      split at h2
      · obtain ⟨ks, k2, h3, h4⟩ := bindP_inv h2
        have b2 := argsP_bal hE h3
        obtain ⟨b3, h5⟩ := ih _ _ _ _ _ _ h4
        have := b2.1
        refine ⟨b1.trans (b2.trans b3), .inr ?_⟩
        rcases h5 with ⟨rfl, rfl, rfl⟩ | ⟨hl, h5⟩
        · exact ⟨by omega, .inr ⟨rfl, rfl⟩⟩
        · exact ⟨by omega, h5⟩
      · obtain ⟨b3, h5⟩ := ih _ _ _ _ _ _ h2
        refine ⟨b1.trans b3, .inr ?_⟩
        rcases h5 with ⟨rfl, rfl, rfl⟩ | ⟨hl, h5⟩
        · exact ⟨by omega, .inl ⟨rfl, rfl⟩⟩
        · exact ⟨by omega, h5⟩
    · cases h
      exact ⟨BalI.refl _, .inl ⟨rfl, rfl, rfl⟩⟩
theorem postP_bal {i j : Nat} {e : Ex} {sh : Nat} (h : postP ts E i = .ok ((e, sh), j)) : BalI ts i j := by
  unfold postP at h
  obtain ⟨⟨e0, s0⟩, k, h1, h2⟩ := bindP_inv h
  exact (atomP_bal hK hE h1).1.trans (postLoop_bal hK hE _ _ _ _ _ _ _ h2).1
/-- What the reference asks of the shape of what stands ahead of a statement's mark. -/
theorem postP_shape {i j : Nat} {e : Ex} {sh : Nat} (h : postP ts E i = .ok ((e, sh), j)) :
    (sh = 1 ↔ e.kind = 3 ∧ opB ts i = false) ∧ (sh = 2 ↔ e.kind = 8 ∧ (opB ts i && closeF ts (j - i) 0 i) = false) ∧ (sh = 3 ↔ (e.kind = 9 ∨ e.kind = 10) ∧ (opB ts i && closeF ts (j - i) 0 i) = false) := by
  unfold postP at h
  obtain ⟨⟨e0, s0⟩, k, h1, h2⟩ := bindP_inv h
  obtain ⟨_, ha⟩ := atomP_bal hK hE h1
  obtain ⟨_, hp⟩ := postLoop_bal hK hE _ _ _ _ _ _ _ h2
  rcases ha with ⟨ho, hs, k0, hb, hc, rfl⟩ | ⟨ho, ha⟩
  · rw [close_whole ho hb hc j (by rcases hp with ⟨rfl, _⟩ | ⟨hl, _⟩ <;> omega), ho]
    simp only at hs hp
    rcases hp with ⟨rfl, rfl, rfl⟩ | ⟨hl, hp⟩
    · simp [hs]
    · have : (j == k0 + 1) = false := beq_eq_false_iff_ne.2 (by omega)
      rw [this]
      rcases hp with ⟨rfl, hk⟩ | ⟨rfl, hk⟩ <;> simp [hk]
  · rw [ho]
    simp only at hp
    rcases hp with ⟨rfl, rfl, rfl⟩ | ⟨hl, hp⟩
    · rcases ha with ⟨rfl, h3, h8, h9, h10⟩ | ⟨rfl, h3⟩ | ⟨rfl, h3⟩
      · simp [h3, h8, h9, h10]
      · simp [h3]
      · simp [h3]
    · rcases hp with ⟨rfl, hk⟩ | ⟨rfl, hk⟩ <;> simp [hk]
theorem prodLoop_bal : ∀ n e i r j, prodLoop ts E n e i = .ok (r, j) → BalI ts i j := by
  intro n
  induction n with
  | zero => intro e i r j h; cases h
  | succ n ih =>
    intro e i r j h
    simp only [prodLoop] at h
    split at h
    · rename_i hc
      obtain ⟨a, b⟩ := tok_none hc (by decide) (by decide)
      obtain ⟨⟨x, s⟩, k, h1, h2⟩ := bindP_inv h
      exact (BalI.step a b (postP_bal hK hE h1)).trans (ih _ _ _ _ h2)
    · cases h; exact BalI.refl _
theorem prodP_bal {i j : Nat} {r : Ex} (h : prodP ts E i = .ok (r, j)) : BalI ts i j := by
  unfold prodP at h
  obtain ⟨⟨x, s⟩, k, h1, h2⟩ := bindP_inv h
  exact (postP_bal hK hE h1).trans (prodLoop_bal hK hE _ _ _ _ _ h2)
theorem sumLoop_bal : ∀ n e i r j, sumLoop ts E n e i = .ok (r, j) → BalI ts i j := by
  intro n
  induction n with
  | zero => intro e i r j h; cases h
  | succ n ih =>
    intro e i r j h
    simp only [sumLoop] at h
    split at h
    · rename_i hc
      obtain ⟨a, b⟩ := tok_none hc (by decide) (by decide)
      obtain ⟨x, k, h1, h2⟩ := bindP_inv h
      exact (BalI.step a b (prodP_bal hK hE h1)).trans (ih _ _ _ _ h2)
    · split at h
      · rename_i hc
        obtain ⟨a, b⟩ := tok_none hc (by decide) (by decide)
        obtain ⟨x, k, h1, h2⟩ := bindP_inv h
        exact (BalI.step a b (prodP_bal hK hE h1)).trans (ih _ _ _ _ h2)
      · cases h; exact BalI.refl _
theorem sumP_bal {i j : Nat} {r : Ex} (h : sumP ts E i = .ok (r, j)) : BalI ts i j := by
  unfold sumP at h
  obtain ⟨x, k, h1, h2⟩ := bindP_inv h
  exact (prodP_bal hK hE h1).trans (sumLoop_bal hK hE _ _ _ _ _ h2)
theorem exprW_bal {i j : Nat} {r : Ex} (h : exprW ts E i = .ok (r, j)) : BalI ts i j := by
  unfold exprW at h
  obtain ⟨x, k, h1, h2⟩ := bindP_inv h
  have b1 := sumP_bal hK hE h1
  split at h2
  · rename_i hc
    obtain ⟨a, b⟩ := tok_none hc (by decide) (by decide)
    obtain ⟨y, k2, h3, h4⟩ := bindP_inv h2
    cases h4
    exact b1.trans (BalI.step a b (sumP_bal hK hE h3))
  · split at h2
    · rename_i hc
      obtain ⟨a, b⟩ := tok_none hc (by decide) (by decide)
      obtain ⟨y, k2, h3, h4⟩ := bindP_inv h2
      cases h4
      exact b1.trans (BalI.step a b (sumP_bal hK hE h3))
    · cases h2; exact b1
omit hE in
theorem exprP_bal : ∀ f i r j, exprP ts f i = .ok (r, j) → BalI ts i j := by
  intro f
  induction f with
  | zero => intro i r j h; cases h
  | succ f ih => intro i r j h; exact exprW_bal hK ih h
end
end Lx
end Go.Proofs.YthjonkommphkkaaGreatDoor
namespace Go.Proofs.YthjonkommphkkaaGreatDoor
open Lx
namespace Lx
/-- The texts that the reference asks for. -/
def kmList : List Bytes := kwList ++ markList
/-- Tokens, as far as the reference's parser leans on them. -/
structure TWR (ts : List Tok) : Prop where
  wf : TWF ts
  km : ∀ i x, x ∈ kmList → isT ts i x = true → (tk ts i).kind = 2 ∨ (tk ts i).kind = 4
  mks : ∀ i x, x ∈ markList → isT ts i x = true → (tk ts i).kind = 4
def TokG (t : Tok) : Prop := (t.kind = 1 ∧ isKeyword t.text = false ∧ ∃ c r, t.text = c :: r ∧ isLetter c = true) ∨ (t.kind = 2 ∧ isKeyword t.text = true) ∨ (t.kind = 3 ∧ ∃ c r, t.text = c :: r ∧ isDigit c = true) ∨ t.kind = 4 ∨ (t.kind = 5 ∧ t.text = [])
theorem take_cons {c : UInt8} {t : Bytes} {m : Nat} (h : 0 < m) : ∃ r, (c :: t).take m = c :: r := by
  cases m with
  | zero => omega
  | succ m => exact ⟨_, List.take_succ_cons⟩
theorem oneTok_g {c : UInt8} {t : Bytes} {k m n q : Nat} (h : oneTok (c :: t) = .ok k m n) : TokG ⟨k, q, (c :: t).take m, n⟩ := by
  obtain ⟨h0, _⟩ := oneTok_bounds h
  obtain ⟨r, hr⟩ := take_cons (c := c) (t := t) h0
  simp only [oneTok] at h
  split at h
  · rename_i hc
    simp only [wordTok] at h
    split at h
    · cases h
    · cases h
      cases hk : isKeyword ((c :: t).take (spanOf isPart (c :: t))) with
      | true => exact .inr (.inl ⟨rfl, hk⟩)
      | false => exact .inl ⟨rfl, hk, c, r, hr, hc⟩
  · split at h
    · rename_i hc
      simp only [numTok] at h
      split at h
      · cases h
      · split at h
        · cases h
        · cases h; exact .inr (.inr (.inl ⟨rfl, c, r, hr, hc⟩))
    · simp only [markTok] at h
      split at h
      · cases h; exact .inr (.inr (.inr (.inl rfl)))
      · cases h
theorem km_ne : ∀ x ∈ kmList, x ≠ [] ∧ (isLetter (x.headD 0) = true → isKeyword x = true) ∧ isDigit (x.headD 0) = false := by decide
theorem mk_kw : ∀ x ∈ markList, isKeyword x = false ∧ x ∈ kmList := by decide
theorem twr_of {l : Bytes} {ts : List Tok} (h : tokensOf l = .ok ts) : TWR ts := by
  have key : ∀ i, TokG (tk ts i) := by
    intro i
    by_cases hi : i < ts.length
    · rw [tk_get _ _ hi]
      obtain ⟨_, h⟩ := tokensOf_len h
      obtain ⟨us, q, rfl, h1, _⟩ := toks_all TokG (fun k m n q c t ho => oneTok_g ho) _ _ _ _ _ h
      rcases List.mem_append.1 (List.getElem_mem hi) with hm | hm
      · exact h1 _ hm
      · simp only [List.mem_singleton] at hm; rw [hm]; exact .inr (.inr (.inr (.inr ⟨rfl, rfl⟩)))
    · have : tk ts i = ⟨5, 0, [], 0⟩ := by simp [tk, List.getElem?_eq_none (by omega : ts.length ≤ i)]
      rw [this]; exact .inr (.inr (.inr (.inr ⟨rfl, rfl⟩)))
  have km : ∀ i x, x ∈ kmList → isT ts i x = true → ((tk ts i).kind = 2 ∧ isKeyword x = true) ∨ (tk ts i).kind = 4 := by
    intro i x hx ht
    obtain ⟨hn, hl, hd⟩ := km_ne x hx
    unfold isT at ht
    have ht := eq_of_beq ht
    rcases key i with ⟨_, h2, c, r, h3, h4⟩ | ⟨h, h'⟩ | ⟨_, c, r, h3, h4⟩ | h | ⟨_, h⟩
    · rw [ht] at h2 h3
      rw [h3] at hl h2
      rw [hl h4] at h2; cases h2
    · rw [ht] at h'; exact .inl ⟨h, h'⟩
    · rw [ht] at h3
      rw [h3] at hd
      have : isDigit c = false := hd
      rw [h4] at this; cases this
    · exact .inr h
    · rw [ht] at h; exact (hn h).elim
  refine ⟨twf_of h, fun i x hx ht => ?_, fun i x hx ht => ?_⟩
  · rcases km i x hx ht with h | h
    · exact .inl h.1
    · exact .inr h
  · obtain ⟨h1, h2⟩ := mk_kw x hx
    rcases km i x h2 ht with h | h
    · rw [h1] at h; cases h.2
    · exact h
theorem TWR.kt {ts : List Tok} (h : TWR ts) : KT ts := ⟨fun i hk => by
  constructor
  · cases ho : opB ts i with
    | false => rfl
    | true => have := h.km i [40] (by decide) ho; omega
  · cases ho : clB ts i with
    | false => rfl
    | true => have := h.km i [41] (by decide) ho; omega⟩
end Lx
end Go.Proofs.YthjonkommphkkaaGreatDoor
