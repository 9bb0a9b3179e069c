/-
  Plain Lean: where tokens stand; what stands before an error.
-/
import Derived.Test.YthjonkommphkkaaGreatDoorLexCut
namespace Go.Proofs.YthjonkommphkkaaGreatDoor
namespace Lx
theorem skip_gap (b : Bool) (g y : Bytes) (h : skipB b (g ++ y) = y) : skipB b g = [] := by
  induction g generalizing b with
  | nil => cases b <;> simp [skipB]
  | cons c g ih =>
    cases b
    · by_cases h1 : isSep c = true
      · simp only [List.cons_append, skipB, h1, if_true] at h
        simp only [skipB, h1, if_true]; exact ih _ h
      · by_cases h2 : opens c (g ++ y) = true
        · simp only [List.cons_append, skipB, h1, h2] at h
          have h3 : opens c g = true := by
            cases g with
            | nil =>
              simp only [List.nil_append, opens, Bool.and_eq_true, decide_eq_true_eq] at h h2
              cases y with
              | nil => simp at h2
              | cons d u =>
                simp only [Bool.false_eq_true, if_false, if_true] at h
                have := skipB_le true u
                have h47 : d.toNat ≠ 10 := by have := h2.2; simp at this; rw [this]; decide
                simp only [skipB, h47, if_false] at h
                rw [h] at this; simp at this; omega
            | cons d u => simpa [opens] using h2
          simp only [Bool.false_eq_true, if_false, if_true] at h
          simp only [skipB, h1, h3]
          exact ih _ h
        · simp only [List.cons_append, skipB, h1, h2] at h
          have := congrArg List.length h
          simp at this; omega
    · by_cases h1 : c.toNat = 10
      · simp only [List.cons_append, skipB, h1, if_true] at h
        simp only [skipB, h1, if_true]; exact ih _ h
      · simp only [List.cons_append, skipB, h1, if_false] at h
        simp only [skipB, h1, if_false]; exact ih _ h
theorem skip_ext (b : Bool) (g : Bytes) (c : UInt8) (t t' : Bytes) (h : skipB b (g ++ c :: t) = c :: t) (ho : opens c t' = false) : skipB b (g ++ c :: t') = c :: t' := by
  induction g generalizing b with
  | nil =>
    cases b
    · by_cases h1 : isSep c = true
      · simp only [List.nil_append, skipB, h1, if_true] at h
        have := skipB_le false t; rw [h] at this; simp at this; omega
      · simp [skipB, h1, ho]
    · simp only [List.nil_append, skipB] at h
      split at h
      · have := skipB_le false t; rw [h] at this; simp at this; omega
      · have := skipB_le true t; rw [h] at this; simp at this; omega
  | cons d g ih =>
    cases b
    · by_cases h1 : isSep d = true
      · simp only [List.cons_append, skipB, h1, if_true] at h ⊢
        exact ih _ h
      · by_cases h2 : opens d (g ++ c :: t) = true
        · have h3 : opens d (g ++ c :: t') = true := by
            cases g with
            | nil => simpa [opens] using h2
            | cons e u => simpa [opens] using h2
          simp only [List.cons_append, skipB, h1, h2, h3, Bool.false_eq_true, if_false, if_true] at h ⊢
          exact ih _ h
        · simp only [List.cons_append, skipB, h1, h2] at h
          have := congrArg List.length h
          simp at this; omega
    · by_cases h1 : d.toNat = 10
      · simp only [List.cons_append, skipB, h1, if_true] at h ⊢
        exact ih _ h
      · simp only [List.cons_append, skipB, h1, if_false] at h ⊢
        exact ih _ h
/-- What is skipped, and what is left. -/
theorem skip_split (b : Bool) (l : Bytes) : ∃ g, l = g ++ skipB b l ∧ skipB b g = [] := by
  obtain ⟨g, hg⟩ := skipB_suffix b l
  exact ⟨g, hg.symm, skip_gap b g (skipB b l) (by rw [hg])⟩
theorem skip_head {b : Bool} {l t : Bytes} {c : UInt8} (h : skipB b l = c :: t) : isSep c = false ∧ opens c t = false := by
  have h2 := skipB_idem b l
  rw [h] at h2
  by_cases h1 : isSep c = true
  · simp only [skipB, h1, if_true] at h2
    have := skipB_le false t; rw [h2] at this; simp at this; omega
  · by_cases h3 : opens c t = true
    · simp only [skipB, h1, h3, Bool.false_eq_true, if_false, if_true] at h2
      have := skipB_le true t; rw [h2] at this; simp at this; omega
    · exact ⟨by simpa using h1, by simpa using h3⟩
theorem opens_take {c : UInt8} {t : Bytes} (j : Nat) (h : opens c t = false) : opens c (t.take j) = false := by
  cases j with
  | zero => simp [opens]
  | succ j => unfold opens at h ⊢; rw [head_take (by omega)]; exact h
/-- lexAt behind what is skipped: written with the skipped part. -/
theorem lexAt_gap (p : Nat) (g y : Bytes) (h : skipB false (g ++ y) = y) : lexAt false p (g ++ y) = lexAt false (p + g.length) y := by
  rw [lexAt_skip, h]
  congr 1
  simp
theorem oneTok_take {l : Bytes} {k m n j : Nat} (h : oneTok l = .ok k m n) (hj : m ≤ j) : oneTok (l.take j) = .ok k m n := by
  have hb := oneTok_bounds h
  refine oneTok_mono h _ (by rw [List.take_take, Nat.min_eq_left hj]) (.inr fun c u hc => ?_) fun c u hc hm => ?_
  · rw [List.drop_take] at hc
    have hh : ((l.drop m).take (j - m)).head? = some c := by rw [hc]; rfl
    cases hjm : j - m with
    | zero => rw [hjm] at hh; simp at hh
    | succ i => rw [hjm, head_take (by omega)] at hh; exact hh
  · subst hm
    rw [List.drop_take] at hc
    have hh : ((l.drop 1).take (j - 1)).head? = some c := by rw [hc]; rfl
    have hh2 : (l.drop 1).head? = some c := by
      cases hjm : j - 1 with
      | zero => rw [hjm] at hh; simp at hh
      | succ i => rw [hjm, head_take (by omega)] at hh; exact hh
    cases l with
    | nil => simp at hb
    | cons d t =>
      simp only [List.drop_succ_cons, List.drop_zero] at hh2
      by_cases h58 : d = 58 ∨ d = 61
      · left
        intro e
        simp only [List.head?_cons, Option.some.injEq] at e
        subst e
        have h1 : isLetter d = false := by rcases h58 with rfl | rfl <;> decide
        have h2 : isDigit d = false := by rcases h58 with rfl | rfl <;> decide
        simp only [oneTok, h1, h2, markTok, Bool.false_eq_true, if_false] at h
        rw [markLen_cons] at h
        have htw : twice d t = true := by
          simp only [twice, hh2, decide_true, Bool.and_true, Bool.or_eq_true, decide_eq_true_eq]
          rcases h58 with rfl | rfl
          · left; rfl
          · right; rfl
        rw [htw] at h
        split at h
        · rename_i hx
          split at hx
          · simp at hx; simp at h; omega
          · cases hx
        · cases h
      · right
        simp only [List.head?_cons, ne_eq, Option.some.injEq]
        exact ⟨fun e => h58 (.inl e), fun e => h58 (.inr e)⟩
/-- What stands before an error is accepted. -/
theorem cut_ok (f : Nat) : ∀ (p : Nat) (l : Bytes) (q er : Nat), l.length < f → lexAt false p l = .error (q, er) → p ≤ q ∧ q ≤ p + l.length ∧ ∃ ts, lexAt false p (l.take (q - p)) = .ok ts := by
  induction f with
  | zero => intro p l q er h; omega
  | succ f ih =>
    intro p l q er hf h
    obtain ⟨g, hg, hgap⟩ := skip_split false l
    rw [lexAt_eq] at h
    cases hr : skipB false l with
    | nil => rw [hr] at h; cases h
    | cons c t =>
      rw [hr] at h hg
      have hlen : l.length = g.length + (t.length + 1) := by rw [hg]; simp
      have hq0 : p + (l.length - (t.length + 1)) = p + g.length := by omega
      obtain ⟨hsep, hop⟩ := skip_head hr
      have hskip : skipB false (g ++ c :: t) = c :: t := by rw [← hg]; exact hr
      simp only [hq0] at h
      cases ho : oneTok (c :: t) with
      | bad e =>
        rw [ho] at h
        simp only [Except.error.injEq, Prod.mk.injEq] at h
        obtain ⟨hq, _⟩ := h
        subst hq
        refine ⟨by omega, by omega, [⟨5, p + g.length, [], 0⟩], ?_⟩
        rw [show p + g.length - p = g.length from by omega, hg, List.take_left, lexAt_eq, hgap]
      | ok k m n =>
        have hb := oneTok_bounds ho
        simp only [List.length_cons] at hb
        rw [ho] at h
        simp only at h
        cases hx : lexAt false (p + g.length + m) ((c :: t).drop m) with
        | ok ts => rw [hx] at h; simp [after] at h
        | error x =>
          obtain ⟨q', e'⟩ := x
          rw [hx] at h
          simp only [after, Except.error.injEq, Prod.mk.injEq] at h
          obtain ⟨hq, _⟩ := h
          subst hq
          obtain ⟨h1, h2, ts, h3⟩ := ih _ _ _ _ (by rw [List.length_drop, List.length_cons]; omega) hx
          rw [List.length_drop, List.length_cons] at h2
          refine ⟨by omega, by omega, ⟨k, p + g.length, (c :: t).take m, n⟩ :: ts, ?_⟩
          have hj : l.take (q' - p) = g ++ (c :: t).take (q' - (p + g.length)) := by
            rw [hg, List.take_append, List.take_of_length_le (by omega)]
            congr 2; omega
          obtain ⟨i, hi⟩ : ∃ i, q' - (p + g.length) = i + 1 := ⟨q' - (p + g.length) - 1, by omega⟩
          have hsk2 : skipB false (g ++ c :: t.take i) = c :: t.take i := skip_ext false g c t _ hskip (opens_take i hop)
          have hot : oneTok (c :: t.take i) = .ok k m n := by
            have := oneTok_take (j := i + 1) ho (by omega)
            simpa using this
          rw [hj, hi, List.take_succ_cons, lexAt_gap p g _ hsk2, lexAt_ok hsep (opens_take i hop) hot]
          have e1 : (c :: t.take i).take m = (c :: t).take m := by
            have : (c :: t.take i) = (c :: t).take (i + 1) := by simp
            rw [this, List.take_take, Nat.min_eq_left (by omega)]
          have e2 : (c :: t.take i).drop m = ((c :: t).drop m).take (q' - (p + g.length + m)) := by
            have : (c :: t.take i) = (c :: t).take (i + 1) := by simp
            rw [this, List.drop_take]; congr 1; omega
          rw [e1, e2, h3]; rfl
def SpanOK (l : Bytes) (e : Nat) (t : Tok) : Prop := e ≤ t.pos ∧ t.pos + t.text.length ≤ l.length ∧ (l.drop t.pos).take t.text.length = t.text ∧ skipB false ((l.drop e).take (t.pos - e)) = []
def Spans (l : Bytes) : Nat → List Tok → Prop
  | _, [] => False
  | e, t :: ts => SpanOK l e t ∧ (if ts = [] then t.kind = 5 ∧ t.text = [] ∧ t.pos = l.length else t.kind ≠ 5 ∧ t.text ≠ [] ∧ Spans l (t.pos + t.text.length) ts)
theorem oneTok_kind {l : Bytes} {k m n : Nat} (h : oneTok l = .ok k m n) : 1 ≤ k ∧ k ≤ 4 := by
  cases l with
  | nil => simp [oneTok] at h
  | cons c t =>
    simp only [oneTok] at h
    by_cases h1 : isLetter c = true
    · rw [if_pos h1] at h
      simp only [wordTok] at h
      split at h
      · cases h
      · simp only [OneR.ok.injEq] at h; rw [← h.1]; split <;> omega
    · rw [if_neg h1] at h
      by_cases h2 : isDigit c = true
      · rw [if_pos h2] at h
        simp only [numTok] at h
        split at h
        · cases h
        · split at h
          · cases h
          · simp only [OneR.ok.injEq] at h; omega
      · rw [if_neg h2] at h
        simp only [markTok] at h
        cases hm : markLen (c :: t) with
        | none => rw [hm] at h; cases h
        | some x => rw [hm] at h; simp only [OneR.ok.injEq] at h; omega
theorem lexAt_ne_nil {b : Bool} {p : Nat} {l : Bytes} {ts : List Tok} (h : lexAt b p l = .ok ts) : ts ≠ [] := by
  rw [lexAt_eq] at h
  split at h
  · simp only [Except.ok.injEq] at h; rw [← h]; simp
  · split at h
    · cases h
    · rename_i k m n ho
      generalize lexAt false _ _ = r at h
      cases r with
      | error x => simp [after] at h
      | ok u => simp only [after, Except.ok.injEq] at h; rw [← h]; simp
theorem spans_of (L : Bytes) (f : Nat) : ∀ (p : Nat) (ts : List Tok), p ≤ L.length → (L.drop p).length < f → lexAt false p (L.drop p) = .ok ts → Spans L p ts := by
  induction f with
  | zero => intro p ts _ h; omega
  | succ f ih =>
    intro p ts hp hf h
    obtain ⟨g, hg, hgap⟩ := skip_split false (L.drop p)
    rw [lexAt_eq] at h
    cases hr : skipB false (L.drop p) with
    | nil =>
      rw [hr] at h hg
      simp only [Except.ok.injEq] at h
      subst h
      rw [List.append_nil] at hg
      have hlen : (L.drop p).length = L.length - p := List.length_drop
      refine ⟨⟨by simp, ?_, by simp, ?_⟩, ?_⟩
      · simp only [List.length_nil]; omega
      · simp only
        rw [show p + (L.drop p).length - p = (L.drop p).length from by omega, List.take_length, hg]; exact hgap
      · simp only [if_true, true_and]; omega
    | cons c t =>
      rw [hr] at h hg
      have hlen : (L.drop p).length = g.length + (t.length + 1) := by
        have := congrArg List.length hg
        simpa using this
      have hLp : (L.drop p).length = L.length - p := List.length_drop
      have hq0 : p + ((L.drop p).length - (t.length + 1)) = p + g.length := by omega
      simp only [hq0] at h
      have hdrop : L.drop (p + g.length) = c :: t := by
        rw [← List.drop_drop, hg, List.drop_left]
      cases ho : oneTok (c :: t) with
      | bad e => rw [ho] at h; cases h
      | ok k m n =>
        have hb := oneTok_bounds ho
        simp only [List.length_cons] at hb
        rw [ho] at h
        simp only at h
        cases hx : lexAt false (p + g.length + m) ((c :: t).drop m) with
        | error x => rw [hx] at h; cases h
        | ok us =>
          rw [hx] at h
          simp only [after, Except.ok.injEq, List.cons_append, List.nil_append] at h
          subst h
          have hne := lexAt_ne_nil hx
          have htl : ((c :: t).take m).length = m := by rw [List.length_take, List.length_cons]; omega
          refine ⟨⟨by simp, ?_, ?_, ?_⟩, ?_⟩
          · simp only [htl]; omega
          · simp only [htl]; rw [hdrop]
          · simp only
            rw [show p + g.length - p = g.length from by omega, hg, List.take_left]; exact hgap
          · rw [if_neg hne]
            refine ⟨by have := oneTok_kind ho; simp only; omega, ?_, ?_⟩
            · intro e; have := congrArg List.length e; rw [htl] at this; simp at this; omega
            · simp only [htl]
              refine ih _ _ (by omega) ?_ ?_
              · rw [← List.drop_drop, hdrop, List.length_drop, List.length_cons]; omega
              · rw [← List.drop_drop, hdrop]; exact hx
theorem tokens_spans {l : Bytes} {ts : List Tok} (h : tokensOf l = .ok ts) : l.length ≤ 65536 ∧ Spans l 0 ts := by
  unfold tokensOf at h
  split at h
  · cases h
  · exact ⟨by omega, spans_of l (l.length + 1) 0 ts (Nat.zero_le _) (by simp) (by simpa using h)⟩
theorem tokens_cut {l : Bytes} {q er : Nat} (h : tokensOf l = .error (q, er)) (hl : l.length ≤ 65536) : q ≤ l.length ∧ ∃ ts, tokensOf (l.take q) = .ok ts := by
  unfold tokensOf at h
  rw [if_neg (by omega)] at h
  obtain ⟨_, h2, ts, h3⟩ := cut_ok (l.length + 1) 0 l q er (by omega) h
  refine ⟨by omega, ts, ?_⟩
  unfold tokensOf
  rw [if_neg (by rw [List.length_take]; omega)]
  simpa using h3
end Lx
end Go.Proofs.YthjonkommphkkaaGreatDoor
