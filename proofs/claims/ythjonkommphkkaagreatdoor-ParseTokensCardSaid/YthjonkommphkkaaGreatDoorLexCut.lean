/-
  Plain Lean: tokens of a text that is cut off or goes on otherwise.
-/
import Derived.Test.YthjonkommphkkaaGreatDoorRefTokens
namespace Go.Proofs.YthjonkommphkkaaGreatDoor
namespace Lx
theorem spanOf_take (p : UInt8 → Bool) (l : Bytes) (j : Nat) : spanOf p (l.take j) = min j (spanOf p l) := by
  induction l generalizing j with
  | nil => simp [spanOf]
  | cons c t ih =>
    cases j with
    | zero => simp [spanOf]
    | succ j =>
      simp only [List.take_succ_cons, spanOf]
      split
      · rw [ih]; omega
      · simp
theorem spanOf_append_stop (p : UInt8 → Bool) (l z : Bytes) (hl : l.all p = true) (hz : ∀ c u, z = c :: u → p c = false) : spanOf p (l ++ z) = l.length := by
  induction l with
  | nil =>
    cases z with
    | nil => simp [spanOf]
    | cons c u => simp [spanOf, hz c u rfl]
  | cons c t ih =>
    simp only [List.all_cons, Bool.and_eq_true] at hl
    simp only [List.cons_append, spanOf, hl.1, if_true, ih hl.2, List.length_cons]
theorem spanOf_append_ge (p : UInt8 → Bool) (l z : Bytes) (hl : l.all p = true) : spanOf p (l ++ z) = l.length + spanOf p z := by
  induction l with
  | nil => simp
  | cons c t ih =>
    simp only [List.all_cons, Bool.and_eq_true] at hl
    simp only [List.cons_append, spanOf, hl.1, if_true, ih hl.2, List.length_cons]; omega
theorem nextPart_take (l : Bytes) (j : Nat) (h : nextPart l = false) : nextPart (l.take j) = false := by
  cases l with
  | nil => simp [nextPart]
  | cons c t =>
    cases j with
    | zero => simp [nextPart]
    | succ j => simpa [nextPart] using h
theorem head_take {l : Bytes} {j : Nat} (hj : 0 < j) : (l.take j).head? = l.head? := by
  cases l with
  | nil => simp
  | cons c t => cases j with
    | zero => omega
    | succ j => simp
theorem markLen_mono {l : Bytes} {m : Nat} (h : markLen l = some m) (y : Bytes) (hy : y.take m = l.take m) (hz : ∀ c u, y.drop m = c :: u → m = 1 → l.head? ≠ some c ∨ (l.head? ≠ some 58 ∧ l.head? ≠ some 61)) : markLen y = some m := by
  have hb := markLen_bounds h
  cases l with
  | nil => simp at hb; omega
  | cons c t =>
    have hy0 : y ≠ [] := by
      intro e; rw [e] at hy
      have := congrArg List.length hy
      simp at this; omega
    cases y with
    | nil => exact absurd rfl hy0
    | cons d u =>
      rw [markLen_cons] at h ⊢
      have hcd : d = c := by
        cases m with
        | zero => omega
        | succ m => simp at hy; exact hy.1
      subst hcd
      split at h
      · rename_i hc
        rw [if_pos hc]
        simp only [Option.some.injEq] at h
        by_cases htw : twice d t = true
        · rw [if_pos htw] at h
          subst h
          have hh : u.head? = t.head? := by
            simp only [List.take_succ_cons, List.cons.injEq, true_and] at hy
            have := congrArg List.head? hy
            rwa [head_take (by omega), head_take (by omega)] at this
          have : twice d u = true := by unfold twice at htw ⊢; rw [hh]; exact htw
          rw [if_pos this]
        · rw [if_neg htw] at h
          subst h
          have : ¬ twice d u = true := by
            intro h2
            simp only [twice, Bool.and_eq_true, Bool.or_eq_true, decide_eq_true_eq] at h2
            cases u with
            | nil => simp at h2
            | cons x v =>
              have hx : x = d := by simpa using h2.2
              rcases hz x v rfl rfl with h3 | h3
              · exact h3 (by simp [hx])
              · rcases h2.1 with h4 | h4
                · exact h3.1 (by simp only [List.head?_cons]; congr 1; exact UInt8.toNat_inj.1 h4)
                · exact h3.2 (by simp only [List.head?_cons]; congr 1; exact UInt8.toNat_inj.1 h4)
          rw [if_neg this]
      · cases h
/-- A token does not hang on what follows it, as long as nothing follows that would go on with it. -/
theorem oneTok_mono {l : Bytes} {k m n : Nat} (h : oneTok l = .ok k m n) (y : Bytes) (hy : y.take m = l.take m) (hp : nextPart (y.drop m) = false ∨ (∀ c u, y.drop m = c :: u → (l.drop m).head? = some c))
    (hz : ∀ c u, y.drop m = c :: u → m = 1 → l.head? ≠ some c ∨ (l.head? ≠ some 58 ∧ l.head? ≠ some 61)) : oneTok y = .ok k m n := by
  have hb := oneTok_bounds h
  cases l with
  | nil => simp [oneTok] at h
  | cons c t =>
    have hy0 : y ≠ [] := by
      intro e; rw [e] at hy
      have := congrArg List.length hy
      simp at this; omega
    cases y with
    | nil => exact absurd rfl hy0
    | cons d u =>
      have hcd : d = c := by
        cases m with
        | zero => omega
        | succ m => simp at hy; exact hy.1
      subst hcd
      have hsplit : (d :: u) = (d :: t).take m ++ (d :: u).drop m := by rw [← hy, List.take_append_drop]
      simp only [oneTok] at h ⊢
      by_cases h1 : isLetter d = true
      · rw [if_pos h1] at h ⊢
        simp only [wordTok] at h
        split at h
        · cases h
        · rename_i h32
          simp only [OneR.ok.injEq] at h
          have hm : spanOf isPart (d :: t) = m := h.2.1
          have hall : ((d :: t).take m).all isPart = true := by rw [← hm]; exact take_span_all _ _
          have hstop : ∀ x v, (d :: t).drop m = x :: v → isPart x = false := by
            intro x v hx
            cases hpx : isPart x
            · rfl
            · have : m < spanOf isPart (d :: t) := by
                have e2 := spanOf_append_ge isPart ((d :: t).take m) ((d :: t).drop m) hall
                rw [List.take_append_drop, hx] at e2
                have e3 : spanOf isPart (x :: v) = spanOf isPart v + 1 := by simp [spanOf, hpx]
                rw [e3, List.length_take] at e2
                omega
              omega
          have hnp : ∀ x v, (d :: u).drop m = x :: v → isPart x = false := by
            intro x v hx
            rcases hp with hp | hp
            · rw [hx] at hp; exact hp
            · have := hp x v hx
              cases hd : (d :: t).drop m with
              | nil => rw [hd] at this; simp at this
              | cons a b => rw [hd] at this; simp at this; subst this; exact hstop _ _ hd
          have hspan : spanOf isPart (d :: u) = m := by
            conv => lhs; rw [hsplit]
            rw [spanOf_append_stop _ _ _ hall hnp, List.length_take]; omega
          rw [wordTok, hspan, if_neg (by omega), hy]
          rw [hm] at h
          rw [OneR.ok.injEq]
          exact h
      · rw [if_neg h1] at h ⊢
        by_cases h2 : isDigit d = true
        · rw [if_pos h2] at h ⊢
          simp only [numTok] at h
          split at h
          · cases h
          · rename_i hnb
            split at h
            · cases h
            · rename_i hov
              simp only [OneR.ok.injEq] at h
              have hm : spanOf isDigit (d :: t) = m := h.2.1
              have hall : ((d :: t).take m).all isDigit = true := by rw [← hm]; exact take_span_all _ _
              have hnb' : ((decide ((d :: t).head? = some 48) && decide (1 < m)) || nextPart ((d :: t).drop m)) = false := by
                have e2 : numBad (d :: t) = false := by simpa using hnb
                unfold numBad at e2
                rwa [hm] at e2
              rw [Bool.or_eq_false_iff] at hnb'
              have hnp : nextPart ((d :: u).drop m) = false := by
                rcases hp with hp | hp
                · exact hp
                · cases hd : (d :: u).drop m with
                  | nil => rfl
                  | cons x v =>
                    have := hp x v hd
                    cases hd2 : (d :: t).drop m with
                    | nil => rw [hd2] at this; simp at this
                    | cons a b =>
                      rw [hd2] at this; simp at this; subst this
                      have h5 := hnb'.2
                      rw [hd2] at h5
                      exact h5
              have hspan : spanOf isDigit (d :: u) = m := by
                conv => lhs; rw [hsplit]
                rw [spanOf_append_stop _ _ _ hall (fun x v hx => by
                  rw [hx] at hnp
                  cases hdx : isDigit x
                  · rfl
                  · have hpx : isPart x = false := hnp
                    rw [part_of_digit hdx] at hpx; cases hpx), List.length_take]; omega
              have hnb2 : numBad (d :: u) = false := by
                unfold numBad
                rw [hspan, Bool.or_eq_false_iff]
                exact ⟨hnb'.1, hnp⟩
              rw [numTok, hnb2, if_neg (by simp), hspan, hy]
              rw [hm] at h hov
              rw [if_neg hov]
              rw [OneR.ok.injEq]
              exact h
        · rw [if_neg h2] at h ⊢
          simp only [markTok] at h
          cases hm : markLen (d :: t) with
          | none => rw [hm] at h; cases h
          | some x =>
            rw [hm] at h
            simp only [OneR.ok.injEq] at h
            obtain ⟨hk, hx, hn⟩ := h
            subst hx
            rw [markTok, markLen_mono hm (d :: u) hy hz]
            simp [hk, hn]
end Lx
end Go.Proofs.YthjonkommphkkaaGreatDoor
