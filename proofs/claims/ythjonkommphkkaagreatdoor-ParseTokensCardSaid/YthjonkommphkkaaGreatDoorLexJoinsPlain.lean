/-
  Plain Lean: the tokens of joined tokens.
-/
import Derived.Test.YthjonkommphkkaaGreatDoorLexSpansPlain
import Derived.Test.YthjonkommphkkaaGreatDoorLexJoinP
import Derived.Test.YthjonkommphkkaaGreatDoorLexWordsP
namespace Go.Proofs.YthjonkommphkkaaGreatDoor
namespace Lx
/-- A token as the lexer makes it. -/
def Good (t : Tok) : Prop := t.text ≠ [] ∧ ∃ r, oneTok r = .ok t.kind t.text.length t.n ∧ r.take t.text.length = t.text
theorem good_head {t : Tok} (h : Good t) : ∃ c u, t.text = c :: u ∧ isSep c = false ∧ c.toNat ≠ 47 := by
  obtain ⟨hne, r, ho, ht⟩ := h
  have hb := oneTok_bounds ho
  cases htx : t.text with
  | nil => exact absurd htx hne
  | cons c u =>
    refine ⟨c, u, rfl, ?_⟩
    cases r with
    | nil => simp [oneTok] at ho
    | cons d v =>
      rw [htx] at ht ho
      simp only [List.length_cons, List.take_succ_cons, List.cons.injEq] at ht
      have hcd : d = c := ht.1
      subst hcd
      by_cases h1 : isLetter d = true
      · refine ⟨(skip_letter [] h1).1, ?_⟩
        simp only [isLetter, decide_eq_true_eq] at h1; omega
      · by_cases h2 : isDigit d = true
        · simp only [isDigit, decide_eq_true_eq] at h2
          refine ⟨?_, by omega⟩
          rw [isSep, decide_eq_false_iff_not]; omega
        · simp only [oneTok, h1, h2, markTok, Bool.false_eq_true, if_false] at ho
          rw [markLen_cons] at ho
          have hc : markBytes.contains d = true := by
            cases hcc : markBytes.contains d
            · rw [hcc] at ho; simp at ho
            · rfl
          have hm : d ∈ markBytes := by simpa using hc
          have hall : ∀ x ∈ markBytes, isSep x = false ∧ x.toNat ≠ 47 := by decide
          exact hall d hm
theorem good_solo {t : Tok} (h : Good t) (z : Bytes) (hz : z = [] ∨ ∃ u, z = 32 :: u) : oneTok (t.text ++ z) = .ok t.kind t.text.length t.n := by
  obtain ⟨hne, r, ho, ht⟩ := h
  refine oneTok_mono ho _ (by rw [List.take_left, ht]) (.inl ?_) ?_
  · rw [List.drop_left]
    rcases hz with rfl | ⟨u, rfl⟩
    · rfl
    · show isPart 32 = false; decide
  · rw [List.drop_left]
    intro c u hc _
    rcases hz with rfl | ⟨v, rfl⟩
    · cases hc
    · simp only [List.cons.injEq] at hc
      obtain ⟨rfl, _⟩ := hc
      left
      obtain ⟨c, u, hcu, hs, _⟩ := good_head (t := t) ⟨hne, r, ho, ht⟩
      cases r with
      | nil => simp
      | cons d v =>
        intro e
        simp only [List.head?_cons, Option.some.injEq] at e
        subst e
        rw [hcu] at ht
        simp only [List.length_cons, List.take_succ_cons, List.cons.injEq] at ht
        rw [← ht.1] at hs
        exact absurd hs (by decide)
def joinR : List Tok → Bytes
  | [] => []
  | t :: ts => t.text ++ (match ts with | [] => [] | _ :: _ => 32 :: joinR ts)
theorem joinR_cons (t u : Tok) (ts : List Tok) : joinR (t :: u :: ts) = t.text ++ 32 :: joinR (u :: ts) := rfl
theorem foldl_join (ts : List Tok) (hg : ∀ t ∈ ts, t.text ≠ []) : ∀ acc : Bytes, acc ≠ [] → ts.foldl joinStep acc = acc ++ (match ts with | [] => [] | _ :: _ => 32 :: joinR ts) := by
  induction ts with
  | nil => intro acc _; simp
  | cons t r ih =>
    intro acc hacc
    have h1 : joinStep acc t = acc ++ 32 :: t.text := by rw [joinStep, if_neg (hg t (by simp)), if_neg hacc]
    rw [List.foldl_cons, h1, ih (fun x hx => hg x (by simp [hx])) _ (by simp)]
    cases r with
    | nil => simp [joinR]
    | cons u v => simp [joinR_cons]
theorem joinOf_eq (ts : List Tok) (e : Tok) (hg : ∀ t ∈ ts, t.text ≠ []) (he : e.text = []) : joinOf (ts ++ [e]) = joinR ts := by
  rw [joinOf_snoc, joinStep, if_pos he]
  cases ts with
  | nil => rfl
  | cons t r =>
    have h1 : joinStep [] t = t.text := by rw [joinStep, if_neg (hg t (by simp)), if_pos rfl]
    unfold joinOf
    rw [List.foldl_cons, h1, foldl_join r (fun x hx => hg x (by simp [hx])) _ (hg t (by simp))]
    cases r <;> rfl
def sameTok (a b : Tok) : Prop := a.kind = b.kind ∧ a.text = b.text ∧ a.n = b.n
def SameToks : List Tok → List Tok → Prop
  | [], [] => True
  | a :: s, b :: t => sameTok a b ∧ SameToks s t
  | _, _ => False
theorem SameToks.length {a b : List Tok} (h : SameToks a b) : a.length = b.length := by
  induction a generalizing b with
  | nil => cases b with
    | nil => rfl
    | cons y t => exact absurd h (by simp [SameToks])
  | cons x s ih => cases b with
    | nil => exact absurd h (by simp [SameToks])
    | cons y t => simp [ih h.2]
theorem SameToks.get {a b : List Tok} (h : SameToks a b) : ∀ (i : Nat) (hi : i < a.length) (hj : i < b.length), sameTok a[i] b[i] := by
  induction a generalizing b with
  | nil => intro i hi; simp at hi
  | cons x s ih => cases b with
    | nil => intro i _ hj; simp at hj
    | cons y t =>
      intro i hi hj
      cases i with
      | zero => exact h.1
      | succ i => exact ih h.2 i (by simpa using hi) (by simpa using hj)
theorem SameToks.snoc {a b : List Tok} {x y : Tok} (h : SameToks a b) (hx : sameTok x y) : SameToks (a ++ [x]) (b ++ [y]) := by
  induction a generalizing b with
  | nil => cases b with
    | nil => exact ⟨hx, trivial⟩
    | cons _ _ => exact absurd h (by simp [SameToks])
  | cons u s ih => cases b with
    | nil => exact absurd h (by simp [SameToks])
    | cons v t => exact ⟨h.1, ih h.2⟩
theorem lex_joinR (ts : List Tok) (hg : ∀ t ∈ ts, Good t) : ∀ p, ∃ us q, lexAt false p (joinR ts) = .ok (us ++ [⟨5, q, [], 0⟩]) ∧ SameToks ts us := by
  induction ts with
  | nil => intro p; exact ⟨[], p, by rw [joinR, lexAt_nil]; rfl, trivial⟩
  | cons t r ih =>
    intro p
    have hgt := hg t (by simp)
    obtain ⟨c, u, hcu, hsep, h47⟩ := good_head hgt
    have hop : ∀ z, opens c z = false := fun z => by rw [opens, Bool.and_eq_false_iff]; left; rw [decide_eq_false_iff_not]; exact h47
    cases r with
    | nil =>
      have ho := good_solo hgt [] (.inl rfl)
      rw [List.append_nil] at ho
      have e1 : lexAt false p t.text = after [⟨t.kind, p, t.text, t.n⟩] (lexAt false (p + t.text.length) []) := by
        have := lexAt_ok (p := p) (k := t.kind) (m := t.text.length) (n := t.n) hsep (hop u) (by rw [← hcu]; exact ho)
        rw [← hcu, List.take_length, List.drop_length] at this
        exact this
      refine ⟨[⟨t.kind, p, t.text, t.n⟩], p + t.text.length, ?_, ⟨⟨rfl, rfl, rfl⟩, trivial⟩⟩
      simp only [joinR, List.append_nil]
      rw [e1, lexAt_nil]; rfl
    | cons v r' =>
      obtain ⟨us, q, h1, h2⟩ := ih (fun x hx => hg x (by simp [hx])) (p + t.text.length + 1)
      have ho := good_solo hgt (32 :: joinR (v :: r')) (.inr ⟨_, rfl⟩)
      have e1 : lexAt false p (t.text ++ 32 :: joinR (v :: r')) = after [⟨t.kind, p, t.text, t.n⟩] (lexAt false (p + t.text.length) (32 :: joinR (v :: r'))) := by
        have := lexAt_ok (p := p) (k := t.kind) (m := t.text.length) (n := t.n) (c := c) (t := u ++ 32 :: joinR (v :: r')) hsep (hop _) (by rw [← List.cons_append, ← hcu]; exact ho)
        rw [← List.cons_append, ← hcu, List.take_left, List.drop_left] at this
        exact this
      refine ⟨⟨t.kind, p, t.text, t.n⟩ :: us, q, ?_, ⟨⟨rfl, rfl, rfl⟩, h2⟩⟩
      rw [joinR_cons, e1, lexAt_sep (by decide), h1]; rfl
theorem lex_good (f : Nat) : ∀ (p : Nat) (l : Bytes) (ts : List Tok), l.length < f → lexAt false p l = .ok ts → ∃ us q, ts = us ++ [⟨5, q, [], 0⟩] ∧ (∀ t ∈ us, Good t) ∧ bulk us ≤ 2 * l.length := by
  induction f with
  | zero => intro p l ts h; omega
  | succ f ih =>
    intro p l ts hf h
    have hle := skipB_le false l
    rw [lexAt_eq] at h
    cases hr : skipB false l with
    | nil =>
      rw [hr] at h
      simp only [Except.ok.injEq] at h
      exact ⟨[], _, h.symm, by simp, by simp [bulk]⟩
    | cons c t =>
      rw [hr] at h hle
      simp only [List.length_cons] at hle
      simp only at h
      cases ho : oneTok (c :: t) with
      | bad e => rw [ho] at h; cases h
      | ok k m n =>
        have hb := oneTok_bounds ho
        simp only [List.length_cons] at hb
        rw [ho] at h
        simp only at h
        cases hx : lexAt false (p + (l.length - (t.length + 1)) + m) ((c :: t).drop m) with
        | error x => rw [hx] at h; cases h
        | ok us =>
          rw [hx] at h
          simp only [after, Except.ok.injEq, List.cons_append, List.nil_append] at h
          obtain ⟨vs, q, h1, h2, h3⟩ := ih _ _ _ (by rw [List.length_drop, List.length_cons]; omega) hx
          rw [List.length_drop, List.length_cons] at h3
          have htl : ((c :: t).take m).length = m := by rw [List.length_take, List.length_cons]; omega
          refine ⟨⟨k, p + (l.length - (t.length + 1)), (c :: t).take m, n⟩ :: vs, q, by rw [← h, h1]; rfl, ?_, ?_⟩
          · intro x hx2
            rcases List.mem_cons.1 hx2 with rfl | hx2
            · refine ⟨?_, c :: t, ?_, ?_⟩
              · intro e; have := congrArg List.length e; rw [htl] at this; simp at this; omega
              · simp only [htl]; exact ho
              · simp only [htl]
            · exact h2 x hx2
          · simp only [bulk, List.map_cons, List.sum_cons] at h3 ⊢
            simp only [htl]
            omega
/-- The tokens of the joined tokens have the same kinds, texts and values. -/
theorem tokens_join {l : Bytes} {ts : List Tok} (h : tokensOf l = .ok ts) (hl : l.length ≤ 3000) : bulk ts ≤ 6001 ∧ 0 < ts.length ∧ ∃ us, tokensOf (joinOf ts) = .ok us ∧ SameToks ts us := by
  unfold tokensOf at h
  rw [if_neg (by omega)] at h
  obtain ⟨vs, q, h1, h2, h3⟩ := lex_good (l.length + 1) 0 l ts (by omega) h
  have hbk : bulk ts ≤ 6001 := by rw [h1, bulk_snoc]; simp; omega
  refine ⟨hbk, by rw [h1]; simp, ?_⟩
  have hj : joinOf ts = joinR vs := by rw [h1]; exact joinOf_eq vs _ (fun t ht => (h2 t ht).1) rfl
  obtain ⟨us, q2, h4, h5⟩ := lex_joinR vs h2 0
  have hlen := joinOf_len ts
  refine ⟨us ++ [⟨5, q2, [], 0⟩], ?_, ?_⟩
  · unfold tokensOf
    rw [if_neg (by omega), hj]; exact h4
  · rw [h1]
    exact h5.snoc ⟨rfl, rfl, rfl⟩
end Lx
end Go.Proofs.YthjonkommphkkaaGreatDoor
