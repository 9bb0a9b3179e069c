/-
  Plain Lean: the tokens before the one that does not fit are the beginning of a program.
-/
import Derived.Test.YthjonkommphkkaaGreatDoorParTopProg
import Derived.Test.YthjonkommphkkaaGreatDoorParRel
import Derived.Test.YthjonkommphkkaaGreatDoorLexSpansPlain
namespace Go.Proofs.YthjonkommphkkaaGreatDoor
namespace Lx
theorem toks_pos : ∀ f b p l ts, toks f b p l = .ok ts → ∀ t ∈ ts, p ≤ t.pos := by
  intro f
  induction f with
  | zero => intro b p l ts h; cases h
  | succ f ih =>
    intro b p l ts h
    simp only [toks] at h
    generalize skipB b l = r at h
    cases r with
    | nil => cases h; intro t ht; simp at ht; subst ht; simp only; omega
    | cons c t =>
      simp only at h
      cases ho : oneTok (c :: t) with
      | bad e => rw [ho] at h; cases h
      | ok k m n =>
        rw [ho] at h
        simp only at h
        generalize hq : toks f false (p + (l.length - (c :: t).length) + m) ((c :: t).drop m) = x at h
        cases x with
        | error y => cases h
        | ok us =>
          cases h
          intro y hy
          rcases List.mem_cons.1 hy with rfl | hy
          · simp only; omega
          · have := ih _ _ _ _ hq y hy; omega
/-- The tokens of a text that is cut behind its token number n - 1. -/
theorem toks_cut : ∀ f b p l ts, l.length < f → toks f b p l = .ok ts → ∀ n (hn : 0 < n) (hl : n < ts.length), ∃ e, ts[n - 1].pos + ts[n - 1].text.length = p + e ∧ e ≤ l.length ∧ toks f b p (l.take e) = .ok (ts.take n ++ [⟨5, p + e, [], 0⟩]) := by
  intro f
  induction f with
  | zero => intro b p l ts h; omega
  | succ f ih =>
    intro b p l ts hf h n hn hl
    simp only [toks] at h
    cases hr : skipB b l with
    | nil => rw [hr] at h; cases h; simp at hl; omega
    | cons c t =>
      rw [hr] at h
      simp only at h
      obtain ⟨g, hg, _⟩ := skip_split b l
      rw [hr] at hg
      have hlen : l.length = g.length + (t.length + 1) := by rw [hg]; simp
      have hho := (skip_head hr).2
      cases ho : oneTok (c :: t) with
      | bad e => rw [ho] at h; cases h
      | ok k m v =>
        rw [ho] at h
        simp only at h
        have hb := oneTok_bounds ho
        have hgl : l.length - (c :: t).length = g.length := by simp; omega
        rw [hgl] at h
        generalize hq : toks f false (p + g.length + m) ((c :: t).drop m) = x at h
        cases x with
        | error y => cases h
        | ok us =>
          simp only [after] at h
          cases h
          have step : ∀ e2, e2 ≤ t.length + 1 - m → toks (f + 1) b p (l.take (g.length + (m + e2))) = after [⟨k, p + g.length, (c :: t).take m, v⟩] (toks f false (p + g.length + m) (((c :: t).drop m).take e2)) := by
            intro e2 he2
            have htk : l.take (g.length + (m + e2)) = g ++ (c :: t).take (m + e2) := by rw [hg, List.take_length_add_append]
            obtain ⟨m', hm'⟩ : ∃ m', m + e2 = m' + 1 := ⟨m + e2 - 1, by omega⟩
            have hsk : skipB b (l.take (g.length + (m + e2))) = (c :: t).take (m + e2) := by
              rw [htk, hm', List.take_succ_cons]
              refine skip_ext b g c t (t.take m') ?_ (opens_take _ hho)
              rw [← hg]; exact hr
            have hone : oneTok ((c :: t).take (m + e2)) = .ok k m v := oneTok_take ho (by omega)
            simp only [toks, hsk]
            rw [hm', List.take_succ_cons]
            rw [hm', List.take_succ_cons] at hone
            simp only [hone]
            have e1 : (l.take (g.length + (m' + 1))).length - (c :: t.take m').length = g.length := by
              rw [← hm', htk, hm', List.take_succ_cons]; simp
            rw [e1]
            have e3 : (c :: t.take m').take m = (c :: t).take m := by rw [← List.take_succ_cons, List.take_take]; congr 1; omega
            have e4 : (c :: t.take m').drop m = ((c :: t).drop m).take e2 := by rw [← List.take_succ_cons, List.drop_take]; congr 1; omega
            rw [e3, e4]
          obtain ⟨n, rfl⟩ : ∃ n', n = n' + 1 := ⟨n - 1, by omega⟩
          simp only [List.length_append, List.length_cons, List.length_nil] at hl hb
          cases n with
          | zero =>
            refine ⟨g.length + m, ?_, by omega, ?_⟩
            · simp [List.length_take]; omega
            · have := step 0 (by omega)
              simp only [Nat.add_zero] at this
              rw [this, List.take_zero]
              have hf1 : 0 < f := by omega
              obtain ⟨f', rfl⟩ : ∃ f', f = f' + 1 := ⟨f - 1, by omega⟩
              simp [toks, skipB, after, Nat.add_assoc]
          | succ n =>
            have hlt : ((c :: t).drop m).length < f := by rw [List.length_drop]; simp; omega
            obtain ⟨e2, h1, h2, h3⟩ := ih _ _ _ _ hlt hq (n + 1) (by omega) (by omega)
            rw [List.length_drop] at h2
            simp only [List.length_cons] at h2
            refine ⟨g.length + (m + e2), ?_, by omega, ?_⟩
            · have : ([(⟨k, p + g.length, (c :: t).take m, v⟩ : Tok)] ++ us)[n + 1 + 1 - 1]'(by simp; omega) = us[n + 1 - 1] := by simp
              rw [this, h1]; omega
            · rw [step e2 (by omega), h3]
              simp [after, Nat.add_assoc]
theorem firstLim_vals {α : Type} {f : α → Nat} (hf : ∀ x, f x = 0 ∨ f x = 3 ∨ f x = 15) (l : List α) : firstLim f l = 0 ∨ firstLim f l = 3 ∨ firstLim f l = 15 := by
  induction l with
  | nil => exact .inl rfl
  | cons x l ih =>
    simp only [firstLim]
    split
    · exact hf x
    · exact ih
theorem methodLim_vals (m : Me) : methodLim m = 0 ∨ methodLim m = 3 ∨ methodLim m = 15 := by
  unfold methodLim
  split
  · exact .inr (.inl rfl)
  · split
    · exact .inr (.inr rfl)
    · exact .inl rfl
theorem classLim_vals (c : Cl) : classLim c = 0 ∨ classLim c = 3 ∨ classLim c = 15 := by
  unfold classLim
  split
  · exact .inr (.inl rfl)
  · exact firstLim_vals methodLim_vals _
theorem sourceLim_vals (l : List Cl) : sourceLim l = 0 ∨ sourceLim l = 3 ∨ sourceLim l = 15 := by
  unfold sourceLim
  split
  · exact .inr (.inl rfl)
  · exact firstLim_vals classLim_vals _
theorem cut_self {ts : List Tok} (hT : TWF ts) : Cut ts ts (ts.length - 1) := by
  have h1 := hT.kind
  have h2 := hT.text
  exact ⟨fun _ _ => rfl, by rw [h1]; decide, by rw [h1]; decide, .inl h2, by omega, by omega⟩
/-- A rule does not leave the tokens. -/
theorem idx_le {α : Type} {q : Nat} {r : PR α} (h : Rel q r r) : idx r ≤ q := by
  rcases h with ⟨_, h⟩ | ⟨_, h⟩
  · match r, h with
    | .ok (a, j), h => exact h
    | .error e, h => exact Nat.le_of_lt h
  · rcases h with rfl | ⟨a, rfl⟩
    · exact Nat.le_refl _
    · exact Nat.le_refl _
theorem programP_in {ts : List Tok} (hT : TWF ts) : idx (programP ts 0) < ts.length := by
  have h := (programP_rm (cut_self hT) hT.text).2 (by omega)
  have := idx_le h
  have := hT.pos
  omega
/-- Where a program's error stands. -/
theorem programR_at {l : Bytes} {ts : List Tok} {p : Nat} (ht : tokensOf l = .ok ts) (h : programR l = .error (p, 2)) : ∃ q, q < ts.length ∧ p = (tk ts q).pos ∧ ((programP ts 0 = .error q) ∨ ∃ a, programP ts 0 = .ok (a, q) ∧ (tk ts q).kind ≠ 5) := by
  have hin := programP_in (twf_of ht)
  unfold programR readR at h
  rw [ht] at h
  cases he : programP ts 0 with
  | error q =>
    rw [he] at hin
    simp only [he] at h
    cases h
    exact ⟨q, hin, rfl, .inl rfl⟩
  | ok x =>
    obtain ⟨a, j⟩ := x
    rw [he] at hin
    simp only [he] at h
    by_cases hk : (tk ts j).kind = 5
    · simp only [hk, if_true] at h
      split at h
      · rcases sourceLim_vals a with h1 | h1 | h1 <;> (rw [h1] at h; simp at h)
      · cases h
    · simp only [hk, if_false] at h
      cases h
      exact ⟨j, hin, rfl, .inr ⟨a, rfl, hk⟩⟩
/-- The end of the tokens before number q. -/
def endOf (ts : List Tok) (q : Nat) : Nat := if q = 0 then 0 else (tk ts (q - 1)).pos + (tk ts (q - 1)).text.length
theorem tokens_at {l : Bytes} {ts : List Tok} (h : tokensOf l = .ok ts) (q : Nat) (hq : q < ts.length) : endOf ts q ≤ l.length ∧ tokensOf (l.take (endOf ts q)) = .ok (ts.take q ++ [⟨5, endOf ts q, [], 0⟩]) := by
  obtain ⟨hl, h⟩ := tokensOf_len h
  by_cases h0 : q = 0
  · subst h0
    refine ⟨Nat.zero_le _, ?_⟩
    simp [endOf, tokensOf, lexAt_nil]
  · obtain ⟨e, h1, h2, h3⟩ := toks_cut _ _ _ _ _ (Nat.lt_succ_self _) h q (by omega) hq
    have he : endOf ts q = e := by
      unfold endOf
      rw [if_neg h0, tk_get _ _ (by omega), h1, Nat.zero_add]
    rw [he]
    refine ⟨h2, ?_⟩
    unfold tokensOf
    rw [if_neg (by rw [List.length_take]; omega)]
    have : lexAt false 0 (l.take e) = toks (l.length + 1) false 0 (l.take e) := toks_fuel _ _ _ _ _ (by omega) (by rw [List.length_take]; omega)
    rw [this, h3, Nat.zero_add]
theorem first_cut {ts : List Tok} {q : Nat} (hq : q < ts.length) (e : Nat) : Cut ts (ts.take q ++ [⟨5, e, [], 0⟩]) q := by
  have hl : (ts.take q).length = q := by rw [List.length_take]; omega
  have ht : tk (ts.take q ++ [(⟨5, e, [], 0⟩ : Tok)]) q = ⟨5, e, [], 0⟩ := by simp [tk, hl]
  refine ⟨fun i hi => ?_, by rw [ht]; simp, by rw [ht]; simp, by rw [ht]; exact .inl rfl, by omega, by simp; omega⟩
  simp only [tk, List.getD_eq_getElem?_getD]
  rw [List.getElem?_append_left (by omega), List.getElem?_take_of_lt hi]
theorem parse_first {l : Bytes} {ts : List Tok} {q to : Nat} (ht : tokensOf l = .ok ts) (hq : q < ts.length) (hr : (programP ts 0 = .error q) ∨ ∃ a, programP ts 0 = .ok (a, q) ∧ (tk ts q).kind ≠ 5) (h : programR (l.take (endOf ts q)) = .error (to, 2)) : to = endOf ts q := by
  obtain ⟨hle, hcut⟩ := tokens_at ht q hq
  have hc := first_cut hq (endOf ts q)
  have hl : (ts.take q).length = q := by rw [List.length_take]; omega
  have htq : tk (ts.take q ++ [(⟨5, endOf ts q, [], 0⟩ : Tok)]) q = ⟨5, endOf ts q, [], 0⟩ := by simp [tk, hl]
  have hrel := (programP_rm hc (by rw [htq])).2 (Nat.zero_le _)
  have hst : StuckR q (programP (ts.take q ++ [⟨5, endOf ts q, [], 0⟩]) 0) := by
    rcases hr with hr | ⟨a, hr, _⟩
    · rw [hr] at hrel; exact stuck_of (Nat.le_refl _) hrel
    · rw [hr] at hrel; exact stuck_of (Nat.le_refl _) hrel
  unfold programR readR at h
  rw [hcut] at h
  rcases hst with h1 | ⟨a, h1⟩
  · simp only [h1, htq] at h
    cases h; rfl
  · simp only [h1, htq, if_true] at h
    split at h
    · rcases sourceLim_vals a with h1 | h1 | h1 <;> (rw [h1] at h; simp at h)
    · cases h
end Lx
end Go.Proofs.YthjonkommphkkaaGreatDoor
