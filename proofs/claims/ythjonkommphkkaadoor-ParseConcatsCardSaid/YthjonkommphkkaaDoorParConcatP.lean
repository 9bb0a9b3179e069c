/-
  Plain Lean: two accepted texts, one after the other, are accepted with the classes of both.
-/
import Derived.Test.YthjonkommphkkaaDoorParFirstP
import Derived.Test.YthjonkommphkkaaDoorParShift
namespace Go.Proofs.YthjonkommphkkaaDoor
namespace Lx
theorem skip_nl (b : Bool) (l y : Bytes) (h : skipB b l = []) : skipB b (l ++ 10 :: y) = skipB false y := by
  induction l generalizing b with
  | nil =>
    cases b
    · simp [skipB, isSep]
    · simp [skipB]
  | cons c t ih =>
    cases b
    · simp only [skipB] at h
      by_cases h1 : isSep c = true
      · simp only [h1, if_true] at h
        simp only [List.cons_append, skipB, h1, if_true]; exact ih _ h
      · simp only [h1] at h
        by_cases h2 : opens c t = true
        · have h3 : opens c (t ++ 10 :: y) = true := by
            cases t with
            | nil => simp [opens] at h2
            | cons d u => simpa [opens] using h2
          simp only [h2, if_true] at h
          simp only [List.cons_append, skipB, h1, h3, if_true, Bool.false_eq_true, if_false]; exact ih _ h
        · simp [h2] at h
    · simp only [skipB] at h
      simp only [List.cons_append, skipB]
      by_cases h1 : c.toNat = 10
      · simp only [h1, if_true] at h ⊢; exact ih _ h
      · simp only [h1, if_false] at h ⊢; exact ih _ h
theorem opens_nl {c : UInt8} {t y : Bytes} (h : opens c t = false) : opens c (t ++ 10 :: y) = false := by
  cases t with
  | nil => simp [opens]
  | cons d u => simpa [opens] using h
theorem oneTok_nl {l : Bytes} {k m n : Nat} (h : oneTok l = .ok k m n) (y : Bytes) : oneTok (l ++ 10 :: y) = .ok k m n := by
  have hb := oneTok_bounds h
  have hd : (l ++ 10 :: y).drop m = l.drop m ++ 10 :: y := List.drop_append_of_le_length hb.2
  refine oneTok_mono h _ (List.take_append_of_le_length hb.2) ?_ fun c u hc hm => ?_
  · rw [hd]
    cases hl : l.drop m with
    | nil => left; simp [nextPart]; decide
    | cons d v => right; intro c u hc; simp only [List.cons_append, List.cons.injEq] at hc; simp [hc.1]
  · have h1 := oneTok_take h (j := m + 1) (by omega)
    rw [hd] at hc
    cases hl : l.drop m with
    | nil =>
      rw [hl] at hc
      simp only [List.nil_append, List.cons.injEq] at hc
      obtain ⟨rfl, _⟩ := hc
      subst hm
      cases l with
      | nil => simp at hb
      | cons d t =>
        by_cases h58 : d = 58 ∨ d = 61
        · left; rcases h58 with rfl | rfl <;> simp
        · right
          simp only [List.head?_cons, ne_eq, Option.some.injEq]
          exact ⟨fun e => h58 (.inl e), fun e => h58 (.inr e)⟩
    | cons d v =>
      rw [hl] at hc
      simp only [List.cons_append, List.cons.injEq] at hc
      obtain ⟨rfl, _⟩ := hc
      subst hm
      cases l with
      | nil => simp at hb
      | cons e t =>
        have ht : t = d :: v := by simpa using hl
        subst ht
        by_cases h58 : e = 58 ∨ e = 61
        · left
          intro e2
          simp only [List.head?_cons, Option.some.injEq] at e2
          subst e2
          have h1 : isLetter e = false := by rcases h58 with rfl | rfl <;> decide
          have h2 : isDigit e = false := by rcases h58 with rfl | rfl <;> decide
          simp only [oneTok, h1, h2, markTok, Bool.false_eq_true, if_false] at h
          rw [markLen_cons] at h
          have htw : twice e (e :: v) = true := by
            simp only [twice, List.head?_cons, decide_true, Bool.and_true, Bool.or_eq_true, decide_eq_true_eq]
            rcases h58 with rfl | rfl
            · left; rfl
            · right; rfl
          rw [htw] at h
          split at h
          · rename_i hx
            split at hx
            · simp at hx; simp at h; omega
            · cases hx
          · cases h
        · right
          simp only [List.head?_cons, ne_eq, Option.some.injEq]
          exact ⟨fun e2 => h58 (.inl e2), fun e2 => h58 (.inr e2)⟩
theorem lexAt_join (y : Bytes) (f : Nat) : ∀ b p l us q, l.length < f → lexAt b p l = .ok (us ++ [⟨5, q, [], 0⟩]) → lexAt b p (l ++ 10 :: y) = after us (lexAt false (p + l.length + 1) y) := by
  induction f with
  | zero => intro b p l us q h; omega
  | succ f ih =>
    intro b p l us q hf h
    rw [lexAt_eq] at h
    cases hr : skipB b l with
    | nil =>
      rw [hr] at h
      simp only at h
      obtain rfl : us = [] := by
        have := congrArg (fun r : LexR => match r with | .ok l => l.length | .error _ => 0) h
        simp at this; exact this
      rw [after_nil, lexAt_eq, skip_nl b l y hr, lexAt_eq false (p + l.length + 1) y]
      have hle := skipB_le false y
      generalize skipB false y = r at hle
      cases r with
      | nil => simp; omega
      | cons c t =>
        simp only [List.length_cons] at hle
        have e : p + ((l ++ 10 :: y).length - (t.length + 1)) = p + l.length + 1 + (y.length - (t.length + 1)) := by simp; omega
        simp only [e]
    | cons c t =>
      rw [hr] at h
      simp only at h
      obtain ⟨g, hg, _⟩ := skip_split b l
      rw [hr] at hg
      have hho := (skip_head hr).2
      have hsk : skipB b (l ++ 10 :: y) = c :: (t ++ 10 :: y) := by
        have e : l ++ 10 :: y = g ++ c :: (t ++ 10 :: y) := by rw [hg]; simp
        rw [e]
        refine skip_ext b g c t _ ?_ (opens_nl hho)
        rw [← hg]; exact hr
      have hlen : l.length = g.length + (t.length + 1) := by rw [hg]; simp
      cases ho : oneTok (c :: t) with
      | bad e => rw [ho] at h; cases h
      | ok k m n =>
        rw [ho] at h
        simp only at h
        have hb := oneTok_bounds ho
        have ho2 : oneTok (c :: (t ++ 10 :: y)) = .ok k m n := oneTok_nl ho y
        generalize hq : lexAt false (p + (l.length - (t.length + 1)) + m) ((c :: t).drop m) = x at h
        cases x with
        | error z => cases h
        | ok vs =>
          simp only [after, Except.ok.injEq] at h
          cases us with
          | nil =>
            have h1 := congrArg (fun l : List Tok => l.head?.map Tok.kind) h
            simp at h1
            have hk := oneTok_kind ho
            omega
          | cons u us =>
            simp only [List.cons_append, List.cons.injEq] at h
            obtain ⟨rfl, rfl⟩ := h
            have hl2 : ((c :: t).drop m).length < f := by rw [List.length_drop]; simp only [List.length_cons] at *; omega
            have h2 := ih _ _ _ _ _ hl2 hq
            rw [lexAt_eq, hsk]
            simp only [ho2]
            have e1 : (l ++ 10 :: y).length - ((t ++ 10 :: y).length + 1) = l.length - (t.length + 1) := by simp; omega
            rw [e1]
            have e2 : (c :: (t ++ 10 :: y)).take m = (c :: t).take m := List.take_append_of_le_length (l₁ := c :: t) hb.2
            have e3 : (c :: (t ++ 10 :: y)).drop m = (c :: t).drop m ++ 10 :: y := List.drop_append_of_le_length (l₁ := c :: t) hb.2
            rw [e2, e3, h2]
            have e4 : p + (l.length - (t.length + 1)) + m + ((c :: t).drop m).length + 1 = p + l.length + 1 := by
              rw [List.length_drop]; simp only [List.length_cons] at *; omega
            rw [e4, after_after]
            rfl
/-- A token k bytes on. -/
def mv (k : Nat) (t : Tok) : Tok := ⟨t.kind, t.pos + k, t.text, t.n⟩
theorem toks_shift (k : Nat) : ∀ f b p l ts, toks f b p l = .ok ts → toks f b (p + k) l = .ok (ts.map (mv k)) := by
  intro f
  induction f with
  | zero => intro b p l ts h; cases h
  | succ f ih =>
    intro b p l ts h
    simp only [toks] at h ⊢
    generalize skipB b l = r at h ⊢
    cases r with
    | nil => cases h; simp only [List.map_cons, List.map_nil, mv]; rw [Nat.add_right_comm]
    | cons c t =>
      simp only at h ⊢
      cases ho : oneTok (c :: t) with
      | bad e => rw [ho] at h; cases h
      | ok k2 m n =>
        rw [ho] at h
        simp only at h ⊢
        generalize hq : toks f false (p + (l.length - (c :: t).length) + m) ((c :: t).drop m) = x at h
        cases x with
        | error y => cases h
        | ok us =>
          cases h
          have h2 := ih _ _ _ _ hq
          rw [show p + k + (l.length - (c :: t).length) + m = p + (l.length - (c :: t).length) + m + k from by omega, h2]
          simp only [after, List.map_append, List.map_cons, List.map_nil, mv]
          rw [Nat.add_right_comm p k]
/-- What is known of a token by its text and its kind. -/
def Fine (t : Tok) : Prop := t.kind ≠ 5 ∧ (t.text = [99, 108, 97, 115, 115] → t.kind ≠ 1 ∧ t.kind ≠ 3)
theorem oneTok_fine {k m n q : Nat} {c : UInt8} {t : Bytes} (h : oneTok (c :: t) = .ok k m n) : Fine ⟨k, q, (c :: t).take m, n⟩ := by
  have hk := oneTok_kind h
  have hb := oneTok_bounds h
  refine ⟨by simp only; omega, fun ht => ?_⟩
  simp only at ht ⊢
  obtain ⟨m', rfl⟩ : ∃ m', m = m' + 1 := ⟨m - 1, by omega⟩
  have hc : c = 99 := by rw [List.take_succ_cons] at ht; exact (List.cons.inj ht).1
  have hl : isLetter c = true := by rw [hc]; decide
  simp only [oneTok, hl, if_true, wordTok] at h
  split at h
  · cases h
  · simp only [OneR.ok.injEq] at h
    obtain ⟨h1, h2, _⟩ := h
    rw [h2, ht] at h1
    have : isKeyword [99, 108, 97, 115, 115] = true := by decide
    rw [this] at h1
    simp only [if_true] at h1
    omega
theorem tokens_fine {l : Bytes} {ts : List Tok} (h : tokensOf l = .ok ts) : ∃ us q, ts = us ++ [⟨5, q, [], 0⟩] ∧ (∀ t ∈ us, Fine t) := by
  obtain ⟨us, q, h1, h2, _⟩ := toks_all Fine (fun k m n q c t ho => oneTok_fine ho) _ _ _ _ _ (tokensOf_len h).2
  exact ⟨us, q, h1, h2⟩
theorem tokens_concat {s t : Bytes} {us : List Tok} {q : Nat} {ts : List Tok} (hs : tokensOf s = .ok (us ++ [⟨5, q, [], 0⟩])) (ht : tokensOf t = .ok ts) (hl : s.length + 1 + t.length ≤ 65536) : tokensOf (s ++ 10 :: t) = .ok (us ++ ts.map (mv (s.length + 1))) := by
  unfold tokensOf
  rw [if_neg (by simp; omega), lexAt_join t _ _ _ _ _ _ (Nat.lt_succ_self _) (tokensOf_len hs).2]
  have h1 := toks_shift (s.length + 1) _ _ _ _ _ (tokensOf_len ht).2
  have h2 : lexAt false (0 + s.length + 1) t = .ok (ts.map (mv (s.length + 1))) := by rw [← h1]; unfold lexAt; congr 1
  rw [h2]; rfl
theorem tk_fine_in {us : List Tok} {q : Nat} (hf : ∀ t ∈ us, Fine t) {i : Nat} (hi : i < us.length) : Fine (tk (us ++ [⟨5, q, [], 0⟩]) i) := by
  rw [tk_get _ _ (by simp; omega), List.getElem_append_left hi]
  exact hf _ (List.getElem_mem hi)
theorem tk_last (us : List Tok) (q : Nat) : tk (us ++ [⟨5, q, [], 0⟩]) us.length = ⟨5, q, [], 0⟩ := by simp [tk]
/-- An accepted text's rule has read all but the end. -/
theorem program_all {l : Bytes} {us : List Tok} {q : Nat} {c : List Cl} (hl : tokensOf l = .ok (us ++ [⟨5, q, [], 0⟩])) (hf : ∀ t ∈ us, Fine t) (h : programR l = .ok c) : programP (us ++ [⟨5, q, [], 0⟩]) 0 = .ok (c, us.length) ∧ sourceLim c = 0 := by
  have hin := programP_in (twf_of hl)
  unfold programR readR at h
  rw [hl] at h
  cases he : programP (us ++ [⟨5, q, [], 0⟩]) 0 with
  | error e => simp only [he] at h; cases h
  | ok x =>
    obtain ⟨a, j⟩ := x
    rw [he] at hin
    simp only [he] at h
    by_cases hk : (tk (us ++ [⟨5, q, [], 0⟩]) j).kind = 5
    · simp only [hk, if_true] at h
      split at h
      · cases h
      · rename_i h0
        cases h
        have hj : j = us.length := by
          by_cases hlt : j < us.length
          · exact absurd hk (tk_fine_in hf hlt).1
          · have h1 : j < us.length + 1 := by simpa [idx] using hin
            omega
        rw [hj]
        exact ⟨rfl, by simpa using h0⟩
    · simp only [hk, if_false] at h; cases h
theorem firstLim_append {α : Type} (f : α → Nat) (a b : List α) (ha : firstLim f a = 0) (hb : firstLim f b = 0) : firstLim f (a ++ b) = 0 := by
  induction a with
  | nil => exact hb
  | cons x a ih =>
    simp only [firstLim] at ha
    simp only [List.cons_append, firstLim]
    split at ha
    · rename_i h; exact absurd ha h
    · rename_i h; rw [if_neg h]; exact ih ha
theorem sourceLim_append (a b : List Cl) (ha : sourceLim a = 0) (hb : sourceLim b = 0) (hl : a.length + b.length ≤ 64) : sourceLim (a ++ b) = 0 := by
  unfold sourceLim at *
  rw [if_neg (by simp; omega)]
  split at ha
  · cases ha
  · split at hb
    · cases hb
    · exact firstLim_append _ _ _ ha hb
theorem classesLoop_adv {ts : List Tok} : ∀ n acc i r j, classesLoop ts n acc i = .ok (r, j) → i ≤ j := by
  intro n
  induction n with
  | zero => intro acc i r j h; cases h
  | succ n ih =>
    intro acc i r j h
    unfold classesLoop at h; split at h
    · obtain ⟨e, k, h1, h⟩ := bindP_inv h
      have := classP_adv _ _ _ h1; have := ih _ _ _ _ h; omega
    · cases h; omega
theorem classes_upto {ts T : List Tok} {q : Nat} (hc : Cut ts T q) (htx : (tk ts q).text = []) : ∀ n acc i l, classesLoop ts n acc i = .ok (l, q) → i ≤ q → ∀ n', T.length < i + n' → ∃ m, 0 < m ∧ T.length < q + m ∧ classesLoop T n' acc i = classesLoop T m l q := by
  intro n
  induction n with
  | zero => intro acc i l h; cases h
  | succ n ih =>
    intro acc i l h hi n' hn'
    have hle := hc.le'
    obtain ⟨m, rfl⟩ : ∃ m, n' = m + 1 := ⟨n' - 1, by omega⟩
    unfold classesLoop at h
    cases ht : isT ts i [99, 108, 97, 115, 115] with
    | false =>
      rw [ht] at h
      simp only [Bool.false_eq_true, if_false] at h
      cases h
      exact ⟨m + 1, by omega, hn', rfl⟩
    | true =>
      rw [ht] at h
      simp only [if_true] at h
      obtain ⟨c, j, h1, h⟩ := bindP_inv h
      have hlt : i < q := by
        by_cases he : i = q
        · subst he; unfold isT at ht; rw [htx] at ht; simp at ht
        · omega
      have hj := classP_adv _ _ _ h1
      have hjq := classesLoop_adv _ _ _ _ _ h
      have hT : classP T i = .ok (c, j) := by
        rcases (classP_rm hc hlt).2 hi with ⟨h2, _⟩ | ⟨h2, _⟩
        · rw [← h2]; exact h1
        · rw [h1] at h2; have h2 : q < j := h2; omega
      obtain ⟨m', h2, h3, h4⟩ := ih _ _ _ h hjq m (by omega)
      refine ⟨m', h2, h3, ?_⟩
      rw [← h4]
      conv => lhs; unfold classesLoop
      rw [hc.isT_eq _ hlt, ht, if_pos rfl, hT]
      rfl
theorem parse_concat {s t : Bytes} {a b : List Cl} (ha : programR s = .ok a) (hb : programR t = .ok b) (hl : s.length + 1 + t.length ≤ 65536) (hn : a.length + b.length ≤ 64) : programR (s ++ 10 :: t) = .ok (a ++ b) := by
  obtain ⟨ts1, h1⟩ : ∃ ts, tokensOf s = .ok ts := by
    unfold programR readR at ha
    cases h : tokensOf s with
    | error x => rw [h] at ha; cases ha
    | ok ts => exact ⟨ts, rfl⟩
  obtain ⟨ts2, h2⟩ : ∃ ts, tokensOf t = .ok ts := by
    unfold programR readR at hb
    cases h : tokensOf t with
    | error x => rw [h] at hb; cases hb
    | ok ts => exact ⟨ts, rfl⟩
  obtain ⟨us, q1, rfl, hf1⟩ := tokens_fine h1
  obtain ⟨vs, q2, rfl, hf2⟩ := tokens_fine h2
  obtain ⟨p1, l1⟩ := program_all h1 hf1 ha
  obtain ⟨p2, l2⟩ := program_all h2 hf2 hb
  have hcat := tokens_concat h1 h2 hl
  generalize hT : us ++ (vs ++ [(⟨5, q2, [], 0⟩ : Tok)]).map (mv (s.length + 1)) = T at hcat
  have htk : ∀ i, (tk T (i + us.length)).kind = (tk (vs ++ [⟨5, q2, [], 0⟩]) i).kind ∧ (tk T (i + us.length)).text = (tk (vs ++ [⟨5, q2, [], 0⟩]) i).text ∧ (tk T (i + us.length)).n = (tk (vs ++ [⟨5, q2, [], 0⟩]) i).n := by
    intro i
    rw [← hT]
    simp only [tk, List.getD_eq_getElem?_getD]
    rw [List.getElem?_append_right (by omega), List.getElem?_map, Nat.add_sub_cancel]
    cases (vs ++ [(⟨5, q2, [], 0⟩ : Tok)])[i]? with
    | none => exact ⟨rfl, rfl, rfl⟩
    | some x => exact ⟨rfl, rfl, rfl⟩
  have hlen : T.length = (vs ++ [(⟨5, q2, [], 0⟩ : Tok)]).length + us.length := by rw [← hT]; simp; omega
  have hsh : Sh (vs ++ [⟨5, q2, [], 0⟩]) T us.length := ⟨fun i => (htk i).1, fun i => (htk i).2.1, fun i => (htk i).2.2, hlen⟩
  have h0 := htk 0
  rw [Nat.zero_add] at h0
  have hfirst : (tk (vs ++ [⟨5, q2, [], 0⟩]) 0).kind ≠ 1 ∧ (tk (vs ++ [⟨5, q2, [], 0⟩]) 0).kind ≠ 3 ∧ ((tk (vs ++ [⟨5, q2, [], 0⟩]) 0).text = [] ∨ (tk (vs ++ [⟨5, q2, [], 0⟩]) 0).text = [99, 108, 97, 115, 115]) := by
    cases vs with
    | nil => simp [tk]
    | cons v vs =>
      have hv := tk_fine_in (q := q2) hf2 (i := 0) (by simp)
      have hcl : isT ((v :: vs) ++ [⟨5, q2, [], 0⟩]) 0 [99, 108, 97, 115, 115] = true := by
        cases hh : isT ((v :: vs) ++ [⟨5, q2, [], 0⟩]) 0 [99, 108, 97, 115, 115] with
        | true => rfl
        | false =>
          unfold programP classesLoop at p2
          rw [hh] at p2
          simp at p2
      have htx : (tk ((v :: vs) ++ [⟨5, q2, [], 0⟩]) 0).text = [99, 108, 97, 115, 115] := by unfold isT at hcl; exact beq_iff_eq.1 hcl
      exact ⟨(hv.2 htx).1, (hv.2 htx).2, .inr htx⟩
  have hc : Cut (us ++ [⟨5, q1, [], 0⟩]) T us.length := by
    refine ⟨fun i hi => ?_, by rw [h0.1]; exact hfirst.1, by rw [h0.1]; exact hfirst.2.1, by rw [h0.2.1]; exact hfirst.2.2, by simp, by omega⟩
    rw [← hT]
    simp only [tk, List.getD_eq_getElem?_getD]
    rw [List.getElem?_append_left hi, List.getElem?_append_left hi]
  obtain ⟨m, hm, hm2, hcl⟩ := classes_upto hc (by rw [tk_last]) _ _ _ _ p1 (Nat.zero_le _) (T.length + 1) (by omega)
  have hsh2 := classesLoop_sh hsh a ((vs ++ [(⟨5, q2, [], 0⟩ : Tok)]).length + 1) m [] 0 (by omega) (by omega) (by omega) hm
  rw [Nat.zero_add, List.append_nil] at hsh2
  have hp : programP T 0 = .ok (a ++ b, vs.length + us.length) := by
    unfold programP
    rw [hcl, hsh2]
    unfold programP at p2
    rw [p2]
  unfold programR readR
  rw [hcat]
  simp only [hp, (htk vs.length).1, tk_last, if_true]
  rw [sourceLim_append a b l1 l2 hn]
  rfl
end Lx
end Go.Proofs.YthjonkommphkkaaDoor
