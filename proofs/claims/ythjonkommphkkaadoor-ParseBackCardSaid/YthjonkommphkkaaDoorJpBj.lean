/-
  Plain Lean: trees without faults; what the parser reads is without faults.
-/
import Derived.Test.YthjonkommphkkaaDoorJpBd
import Derived.Test.YthjonkommphkkaaDoorJpBc
import Derived.Test.YthjonkommphkkaaDoorJpAn
import Derived.Test.YthjonkommphkkaaDoorJpBh
import Derived.Test.YthjonkommphkkaaDoorTiB
set_option linter.unusedSectionVars false
set_option linter.unusedSimpArgs false
set_option linter.unnecessarySimpa false
set_option linter.unusedVariables false
set_option linter.unusedSimpArgs false
set_option linter.unusedVariables false
namespace Go.Proofs.YthjonkommphkkaaDoor
open Lx
namespace Lx
def WfT (t : Bytes) : Prop := t = [105, 110, 116] ∨ isIdent t = true
inductive WfE : Ex → Prop
  | int (n : Int) (h1 : -9223372036854775808 < n) (h2 : n < 9223372036854775808) : WfE (.mk 1 n [] [] [])
  | null : WfE (.mk 2 0 [] [] [])
  | var (x : Bytes) (hx : isIdent x = true) : WfE (.mk 3 0 [] x [])
  | this : WfE (.mk 4 0 [] [] [])
  | input : WfE (.mk 5 0 [] [] [])
  | bin (op : Int) (h : 1 ≤ op ∧ op ≤ 5) {a b : Ex} (ha : WfE a) (hb : WfE b) : WfE (.mk 6 op [] [] [a, b])
  | new (x : Bytes) (hx : isIdent x = true) : WfE (.mk 7 0 [] x [])
  | field (m : Bytes) (hm : isIdent m = true) {k : Ex} (hk : WfE k) : WfE (.mk 8 0 [] m [k])
  | call (m : Bytes) (hm : isIdent m = true) {k : Ex} {es : List Ex} (hk : WfE k) (he : ∀ e ∈ es, WfE e) : WfE (.mk 9 0 [] m (k :: es))
  | static (o m : Bytes) (ho : isIdent o = true) (hm : isIdent m = true) {es : List Ex} (he : ∀ e ∈ es, WfE e) : WfE (.mk 10 0 o m es)
inductive WfS : St → Prop
  | var0 (x t : Bytes) (hx : isIdent x = true) (ht : WfT t) : WfS (.mk 1 x t [] [] [])
  | var1 (x t : Bytes) (hx : isIdent x = true) (ht : WfT t) {e : Ex} (he : WfE e) : WfS (.mk 1 x t [e] [] [])
  | assign (x : Bytes) (hx : isIdent x = true) {e : Ex} (he : WfE e) : WfS (.mk 2 x [] [e] [] [])
  | store (m : Bytes) (hm : isIdent m = true) {k e : Ex} (hk : WfE k) (he : WfE e) : WfS (.mk 3 m [] [k, e] [] [])
  | if {e : Ex} (he : WfE e) {b c : List St} (hb : ∀ s ∈ b, WfS s) (hc : ∀ s ∈ c, WfS s) : WfS (.mk 4 [] [] [e] b c)
  | while {e : Ex} (he : WfE e) {b : List St} (hb : ∀ s ∈ b, WfS s) : WfS (.mk 5 [] [] [e] b [])
  | try (x t : Bytes) (hx : isIdent x = true) (ht : WfT t) {b c : List St} (hb : ∀ s ∈ b, WfS s) (hc : ∀ s ∈ c, WfS s) : WfS (.mk 6 x t [] b c)
  | throw {e : Ex} (he : WfE e) : WfS (.mk 7 [] [] [e] [] [])
  | return0 : WfS (.mk 8 [] [] [] [] [])
  | return1 {e : Ex} (he : WfE e) : WfS (.mk 8 [] [] [e] [] [])
  | call {e : Ex} (he : WfE e) (hk : e.kind = 9 ∨ e.kind = 10) : WfS (.mk 9 [] [] [e] [] [])
def WfF (f : Fld) : Prop := isIdent f.name = true ∧ WfT f.typ
structure WfM (m : Me) : Prop where
  name : isIdent m.name = true
  params : ∀ f ∈ m.params, WfF f
  result : m.result = [] ∨ WfT m.result
  body : ∀ s ∈ m.body, WfS s
structure WfC (c : Cl) : Prop where
  name : isIdent c.name = true
  super : c.super = [] ∨ isIdent c.super = true
  fields : ∀ f ∈ c.fields, WfF f
  methods : ∀ m ∈ c.methods, WfM m
/-- Tokens as the lexer gives them: identifiers, numbers. -/
def TId (ts : List Tok) : Prop := ∀ i, ((tk ts i).kind = 1 → isIdent (tk ts i).text = true) ∧ ((tk ts i).kind = 3 → (tk ts i).n < 9223372036854775808)
theorem spanOf_take (p : UInt8 → Bool) : ∀ l : Bytes, (l.take (spanOf p l)).all p = true
  | [] => rfl
  | c :: t => by
    unfold spanOf
    split
    · rename_i h
      simp [h, spanOf_take p t]
    · simp
theorem oneTok_ident {c : UInt8} {t : Bytes} {k m n : Nat} (ho : oneTok (c :: t) = .ok k m n) (hk : k = 1) : isIdent ((c :: t).take m) = true := by
  subst hk
  simp only [oneTok] at ho
  split at ho
  · rename_i hc
    simp only [wordTok] at ho
    split at ho
    · cases ho
    · rename_i h32
      simp only [OneR.ok.injEq] at ho
      obtain ⟨hk, hm, _⟩ := ho
      have hkw : isKeyword ((c :: t).take (spanOf isPart (c :: t))) = false := by
        cases hx : isKeyword ((c :: t).take (spanOf isPart (c :: t))) with
        | false => rfl
        | true => rw [hx] at hk; cases hk
      have ha := spanOf_take isPart (c :: t)
      have hp := part_of_letter hc
      have hpos := spanOf_pos isPart c t hp
      have hle := spanOf_le isPart (c :: t)
      show isIdent ((c :: t).take m) = true
      rw [← hm]
      obtain ⟨k, hk2⟩ : ∃ k, spanOf isPart (c :: t) = k + 1 := ⟨spanOf isPart (c :: t) - 1, by omega⟩
      rw [hk2] at ha hkw h32 hle ⊢
      rw [List.take_succ_cons] at ha hkw ⊢
      simp only [List.length_cons] at hle
      simp only [isIdent, Bool.and_eq_true, decide_eq_true_eq, Bool.not_eq_true']
      exact ⟨⟨⟨by rw [List.length_take]; omega, hc⟩, ha⟩, hkw⟩
  · split at ho
    · simp only [numTok] at ho
      split at ho
      · cases ho
      · split at ho <;> cases ho
    · simp only [markTok] at ho
      split at ho <;> cases ho
theorem tid_of {l : Bytes} {ts : List Tok} (h : tokensOf l = .ok ts) : TId ts := by
  intro i
  by_cases hi : i < ts.length
  · rw [tk_get _ _ hi]
    obtain ⟨_, h⟩ := tokensOf_len h
    obtain ⟨us, q, rfl, h1, _⟩ := toks_all (fun t => (t.kind = 1 → isIdent t.text = true) ∧ (t.kind = 3 → t.n < 9223372036854775808)) (fun k m n q c t ho => ⟨fun hk => oneTok_ident ho hk, fun _ => oneTok_n ho⟩) _ _ _ _ _ h
    rcases List.mem_append.1 (List.getElem_mem hi) with hm | hm
    · exact h1 _ hm
    · simp only [List.mem_singleton] at hm
      rw [hm]
      exact ⟨fun h => (by cases h), fun h => (by cases h)⟩
  · have : tk ts i = ⟨5, 0, [], 0⟩ := by simp [tk, List.getElem?_eq_none (by omega : ts.length ≤ i)]
    rw [this]
    exact ⟨fun h => (by cases h), fun h => (by cases h)⟩
section
variable {ts : List Tok} (hI : TId ts)
include hI
theorem nameP_wf {i j : Nat} {x : Bytes} (h : nameP ts i = .ok (x, j)) : isIdent x = true := by
  unfold nameP at h
  split at h
  · rename_i hk; cases h; exact (hI i).1 hk
  · cases h
theorem typP_wf {i j : Nat} {x : Bytes} (h : typP ts i = .ok (x, j)) : WfT x := by
  unfold typP at h
  split at h
  · cases h; exact .inl rfl
  · exact .inr (nameP_wf hI h)
theorem typedP_wf {i j : Nat} {f : Fld} (h : typedP ts i = .ok (f, j)) : WfF f := by
  unfold typedP at h
  obtain ⟨_, k, h1, h⟩ := bindP_inv h
  obtain ⟨_, k, h2, h⟩ := bindP_inv h
  obtain ⟨_, k, h3, h⟩ := bindP_inv h
  cases h
  exact ⟨nameP_wf hI h1, typP_wf hI h3⟩
def Wfd (E : Nat → PR Ex) : Prop := ∀ i e j, E i = .ok (e, j) → WfE e
/-- What is known of a post by its shape. -/
def WfO (x : Ex × Nat) : Prop := WfE x.1 ∧ (x.2 = 1 → isIdent x.1.name = true) ∧ (x.2 = 2 → ∃ m k, x.1 = .mk 8 0 [] m [k] ∧ isIdent m = true ∧ WfE k) ∧ (x.2 = 3 → x.1.kind = 9 ∨ x.1.kind = 10)
omit hI in
theorem WfO.of0 {e : Ex} (h : WfE e) : WfO (e, 0) := ⟨h, fun h => (by cases h), fun h => (by cases h), fun h => (by cases h)⟩
section
variable {E : Nat → PR Ex} (hE : Wfd E)
include hE
omit hI in
theorem argsLoop_wf : ∀ n acc i r j, argsLoop ts E n acc i = .ok (r, j) → (∀ e ∈ acc, WfE e) → ∀ e ∈ r, WfE e := by
  intro n
  induction n with
  | zero => intro acc i r j h; cases h
  | succ n ih =>
    intro acc i r j h ha
    unfold argsLoop at h; split at h
    · obtain ⟨e, k, h1, h⟩ := bindP_inv h
      refine ih _ _ _ _ h fun x hx => ?_
      rcases List.mem_append.1 hx with hx | hx
      · exact ha x hx
      · simp at hx; subst hx; exact hE _ _ _ h1
    · obtain ⟨_, k, h1, h⟩ := bindP_inv h
      cases h; exact ha
omit hI in
theorem argsP_wf : ∀ i r j, argsP ts E i = .ok (r, j) → ∀ e ∈ r, WfE e := by
  intro i r j h
  unfold argsP at h
  obtain ⟨_, k, h1, h⟩ := bindP_inv h
  split at h
  · cases h; exact fun e he => by cases he
  · obtain ⟨e, k, h2, h⟩ := bindP_inv h
    exact argsLoop_wf hE _ _ _ _ _ h fun x hx => by simp at hx; subst hx; exact hE _ _ _ h2
theorem atomP_wf : ∀ i r j, atomP ts E i = .ok (r, j) → WfO r := by
  intro i r j h
  unfold atomP at h
  split at h
  · unfold namedP at h
    obtain ⟨x, k, h1, h⟩ := bindP_inv h
    have hx := nameP_wf hI h1
    split at h
    · obtain ⟨m, k, h2, h⟩ := bindP_inv h
      obtain ⟨_, k, h3, h⟩ := bindP_inv h
      cases h
      exact ⟨.static _ _ hx (nameP_wf hI h2) (argsP_wf hE _ _ _ h3), fun h => (by cases h), fun h => (by cases h), fun _ => .inr rfl⟩
    · cases h; exact ⟨.var _ hx, fun _ => hx, fun h => (by cases h), fun h => (by cases h)⟩
  split at h
  · rename_i hk
    cases h
    have := (hI i).2 hk
    exact .of0 (.int _ (by omega) (by omega))
  split at h
  · unfold minusP at h
    split at h
    · rename_i hk
      cases h
      have := (hI (i + 1)).2 hk.1
      exact .of0 (.int _ (by omega) (by omega))
    · cases h
  split at h; · cases h; exact .of0 .null
  split at h; · cases h; exact .of0 .this
  split at h
  · unfold unitP at h
    obtain ⟨_, k, h1, h⟩ := bindP_inv h
    obtain ⟨_, k, h2, h⟩ := bindP_inv h
    cases h; exact .of0 .input
  split at h
  · obtain ⟨_, k, h1, h⟩ := bindP_inv h
    have hx := nameP_wf hI h1
    unfold unitP at h
    obtain ⟨_, k, h1, h⟩ := bindP_inv h
    obtain ⟨_, k, h2, h⟩ := bindP_inv h
    cases h; exact .of0 (.new _ hx)
  · unfold parenP at h
    obtain ⟨_, k, h1, h⟩ := bindP_inv h
    obtain ⟨_, k, h2, h⟩ := bindP_inv h
    obtain ⟨_, k, h3, h⟩ := bindP_inv h
    have := hE _ _ _ h2
    cases h; exact .of0 this
theorem postLoop_wf : ∀ n e sh i r j, postLoop ts E n e sh i = .ok (r, j) → WfO (e, sh) → WfO r := by
  intro n
  induction n with
  | zero => intro e sh i r j h; cases h
  | succ n ih =>
    intro e sh i r j h ha
    unfold postLoop at h; split at h
    · obtain ⟨m, k, h1, h⟩ := bindP_inv h
      have hm := nameP_wf hI h1
      split at h
      · obtain ⟨ks, k, h2, h⟩ := bindP_inv h
        exact ih _ _ _ _ _ h ⟨.call m hm ha.1 (argsP_wf hE _ _ _ h2), fun h => (by cases h), fun h => (by cases h), fun _ => .inl rfl⟩
      · exact ih _ _ _ _ _ h ⟨.field m hm ha.1, fun h => (by cases h), fun _ => ⟨m, e, rfl, hm, ha.1⟩, fun h => (by cases h)⟩
    · cases h; exact ha
theorem postP_wf : ∀ i r j, postP ts E i = .ok (r, j) → WfO r := by
  intro i r j h
  unfold postP at h
  obtain ⟨x, k, h1, h⟩ := bindP_inv h
  exact postLoop_wf hI hE _ _ _ _ _ _ h (atomP_wf hI hE _ _ _ h1)
theorem prodLoop_wf : ∀ n e i r j, prodLoop ts E n e i = .ok (r, j) → WfE e → WfE r := by
  intro n
  induction n with
  | zero => intro e i r j h; cases h
  | succ n ih =>
    intro e i r j h ha
    unfold prodLoop at h; split at h
    · obtain ⟨m, k, h1, h⟩ := bindP_inv h
      exact ih _ _ _ _ h (.bin 3 (by decide) ha (postP_wf hI hE _ _ _ h1).1)
    · cases h; exact ha
theorem prodP_wf : Wfd (prodP ts E) := by
  intro i r j h
  unfold prodP at h
  obtain ⟨x, k, h1, h⟩ := bindP_inv h
  exact prodLoop_wf hI hE _ _ _ _ _ h (postP_wf hI hE _ _ _ h1).1
theorem sumLoop_wf : ∀ n e i r j, sumLoop ts E n e i = .ok (r, j) → WfE e → WfE r := by
  intro n
  induction n with
  | zero => intro e i r j h; cases h
  | succ n ih =>
    intro e i r j h ha
    unfold sumLoop at h; split at h
    · obtain ⟨m, k, h1, h⟩ := bindP_inv h
      exact ih _ _ _ _ h (.bin 1 (by decide) ha (prodP_wf hI hE _ _ _ h1))
    · split at h
      · obtain ⟨m, k, h1, h⟩ := bindP_inv h
        exact ih _ _ _ _ h (.bin 2 (by decide) ha (prodP_wf hI hE _ _ _ h1))
      · cases h; exact ha
theorem sumP_wf : Wfd (sumP ts E) := by
  intro i r j h
  unfold sumP at h
  obtain ⟨x, k, h1, h⟩ := bindP_inv h
  exact sumLoop_wf hI hE _ _ _ _ _ h (prodP_wf hI hE _ _ _ h1)
theorem exprW_wf : Wfd (exprW ts E) := by
  intro i r j h
  unfold exprW at h
  obtain ⟨x, k, h1, h⟩ := bindP_inv h
  have hx := sumP_wf hI hE _ _ _ h1
  split at h
  · obtain ⟨y, k, h2, h⟩ := bindP_inv h
    have := sumP_wf hI hE _ _ _ h2; cases h; exact .bin 4 (by decide) hx this
  · split at h
    · obtain ⟨y, k, h2, h⟩ := bindP_inv h
      have := sumP_wf hI hE _ _ _ h2; cases h; exact .bin 5 (by decide) hx this
    · cases h; exact hx
end
theorem exprP_wf : ∀ f, Wfd (exprP ts f) := by
  intro f
  induction f with
  | zero => intro i r j h; cases h
  | succ f ih => exact exprW_wf hI ih
theorem exprT_wf : Wfd (exprT ts) := exprP_wf hI _
theorem condP_wf {i j : Nat} {c : List Ex} (h : condP ts i = .ok (c, j)) : ∃ e, c = [e] ∧ WfE e := by
  unfold condP at h
  obtain ⟨_, k, h1, h⟩ := bindP_inv h
  obtain ⟨e, k, h2, h⟩ := bindP_inv h
  obtain ⟨_, k, h3, h⟩ := bindP_inv h
  cases h
  exact ⟨e, rfl, exprT_wf hI _ _ _ h2⟩
def WfdS (S : Nat → PR St) : Prop := ∀ i s j, S i = .ok (s, j) → WfS s
def WfdB (B : Nat → PR (List St)) : Prop := ∀ i b j, B i = .ok (b, j) → ∀ s ∈ b, WfS s
theorem simpleP_wf : WfdS (simpleP ts) := by
  intro i r j h
  unfold simpleP at h
  obtain ⟨x, k, h1, h⟩ := bindP_inv h
  obtain ⟨w0, w1, w2, w3⟩ := postP_wf hI (exprT_wf hI) _ _ _ h1
  split at h
  · rename_i hc
    obtain ⟨y, k, h2, h⟩ := bindP_inv h
    obtain ⟨_, k, h3, h⟩ := bindP_inv h
    cases h; exact .assign _ (w1 hc.1) (exprT_wf hI _ _ _ h2)
  split at h
  · rename_i hc
    obtain ⟨y, k, h2, h⟩ := bindP_inv h
    obtain ⟨_, k, h3, h⟩ := bindP_inv h
    cases h
    obtain ⟨m, k0, hx, hm, hk⟩ := w2 hc.1
    rw [hx]
    exact .store m hm hk (exprT_wf hI _ _ _ h2)
  split at h
  · rename_i hc
    obtain ⟨_, k, h3, h⟩ := bindP_inv h
    cases h; exact .call w0 (w3 hc)
  · cases h
omit hI in
theorem blockLoop_wf {S : Nat → PR St} (hS : WfdS S) : ∀ n acc i r j, blockLoop ts S n acc i = .ok (r, j) → (∀ s ∈ acc, WfS s) → ∀ s ∈ r, WfS s := by
  intro n
  induction n with
  | zero => intro acc i r j h; cases h
  | succ n ih =>
    intro acc i r j h ha
    unfold blockLoop at h; split at h
    · cases h; exact ha
    · obtain ⟨m, k, h3, h⟩ := bindP_inv h
      refine ih _ _ _ _ h fun x hx => ?_
      rcases List.mem_append.1 hx with hx | hx
      · exact ha x hx
      · simp at hx; subst hx; exact hS _ _ _ h3
omit hI in
theorem blockW_wf {S : Nat → PR St} (hS : WfdS S) : WfdB (blockW ts S) := by
  intro i r j h
  unfold blockW at h
  obtain ⟨_, k, h1, h⟩ := bindP_inv h
  exact blockLoop_wf hS _ _ _ _ _ h fun s hs => by cases hs
theorem stmtW_wf {B : Nat → PR (List St)} (hB : WfdB B) : WfdS (stmtW ts B) := by
  intro i r j h
  unfold stmtW at h
  split at h
  · unfold varP at h
    obtain ⟨f, k, h1, h⟩ := bindP_inv h
    have hf := typedP_wf hI h1
    split at h
    · obtain ⟨_, k, h2, h⟩ := bindP_inv h
      obtain ⟨_, k, h3, h⟩ := bindP_inv h
      cases h; exact .var1 _ _ hf.1 hf.2 (exprT_wf hI _ _ _ h2)
    · obtain ⟨_, k, h3, h⟩ := bindP_inv h
      cases h; exact .var0 _ _ hf.1 hf.2
  split at h
  · unfold ifP at h
    obtain ⟨c, k, h1, h⟩ := bindP_inv h
    obtain ⟨_, k, h2, h⟩ := bindP_inv h
    obtain ⟨e, rfl, he⟩ := condP_wf hI h1
    split at h
    · obtain ⟨_, k, h3, h⟩ := bindP_inv h
      cases h; exact .if he (hB _ _ _ h2) (hB _ _ _ h3)
    · cases h; exact .if he (hB _ _ _ h2) fun s hs => by cases hs
  split at h
  · unfold whileP at h
    obtain ⟨c, k, h1, h⟩ := bindP_inv h
    obtain ⟨_, k, h2, h⟩ := bindP_inv h
    obtain ⟨e, rfl, he⟩ := condP_wf hI h1
    cases h; exact .while he (hB _ _ _ h2)
  split at h
  · unfold tryP at h
    obtain ⟨_, k, h1, h⟩ := bindP_inv h
    obtain ⟨_, k, h2, h⟩ := bindP_inv h
    obtain ⟨_, k, h3, h⟩ := bindP_inv h
    obtain ⟨f, k, h4, h⟩ := bindP_inv h
    obtain ⟨_, k, h5, h⟩ := bindP_inv h
    obtain ⟨_, k, h6, h⟩ := bindP_inv h
    have hf := typedP_wf hI h4
    cases h; exact .try _ _ hf.1 hf.2 (hB _ _ _ h1) (hB _ _ _ h6)
  split at h
  · unfold throwP at h
    obtain ⟨_, k, h2, h⟩ := bindP_inv h
    obtain ⟨_, k, h3, h⟩ := bindP_inv h
    cases h; exact .throw (exprT_wf hI _ _ _ h2)
  split at h
  · unfold returnP at h
    split at h
    · cases h; exact .return0
    · obtain ⟨_, k, h2, h⟩ := bindP_inv h
      obtain ⟨_, k, h3, h⟩ := bindP_inv h
      cases h; exact .return1 (exprT_wf hI _ _ _ h2)
  exact simpleP_wf hI _ _ _ h
theorem blockP_wf : ∀ f, WfdB (blockP ts f) := by
  intro f
  induction f with
  | zero => intro i r j h; cases h
  | succ f ih => exact blockW_wf (stmtW_wf hI ih)
theorem paramsLoop_wf : ∀ n acc i r j, paramsLoop ts n acc i = .ok (r, j) → (∀ f ∈ acc, WfF f) → ∀ f ∈ r, WfF f := by
  intro n
  induction n with
  | zero => intro acc i r j h; cases h
  | succ n ih =>
    intro acc i r j h ha
    unfold paramsLoop at h; split at h
    · obtain ⟨e, k, h1, h⟩ := bindP_inv h
      refine ih _ _ _ _ h fun x hx => ?_
      rcases List.mem_append.1 hx with hx | hx
      · exact ha x hx
      · simp at hx; subst hx; exact typedP_wf hI h1
    · obtain ⟨_, k, h1, h⟩ := bindP_inv h
      cases h; exact ha
theorem paramsP_wf {i j : Nat} {r : List Fld} (h : paramsP ts i = .ok (r, j)) : ∀ f ∈ r, WfF f := by
  unfold paramsP at h
  split at h
  · cases h; exact fun f hf => by cases hf
  · obtain ⟨e, k, h1, h⟩ := bindP_inv h
    exact paramsLoop_wf hI _ _ _ _ _ h fun x hx => by simp at hx; subst hx; exact typedP_wf hI h1
theorem methodP_wf {i j : Nat} {m : Me} (h : methodP ts i = .ok (m, j)) : WfM m := by
  unfold methodP at h
  obtain ⟨_, k, h1, h⟩ := bindP_inv h
  obtain ⟨_, k, h2, h⟩ := bindP_inv h
  obtain ⟨_, k, h3, h⟩ := bindP_inv h
  obtain ⟨_, k, h4, h⟩ := bindP_inv h
  obtain ⟨r, k, h5, h⟩ := bindP_inv h
  obtain ⟨_, k, h6, h⟩ := bindP_inv h
  have hr : r = [] ∨ WfT r := by
    unfold resultP at h5
    split at h5
    · exact .inr (typP_wf hI h5)
    · cases h5; exact .inl rfl
  cases h
  exact ⟨nameP_wf hI h2, paramsP_wf hI h4, hr, blockP_wf hI _ _ _ _ h6⟩
theorem fieldsLoop_wf : ∀ n acc i r j, fieldsLoop ts n acc i = .ok (r, j) → (∀ f ∈ acc, WfF f) → ∀ f ∈ r, WfF f := by
  intro n
  induction n with
  | zero => intro acc i r j h; cases h
  | succ n ih =>
    intro acc i r j h ha
    unfold fieldsLoop at h; split at h
    · obtain ⟨e, k, h1, h⟩ := bindP_inv h
      refine ih _ _ _ _ h fun x hx => ?_
      rcases List.mem_append.1 hx with hx | hx
      · exact ha x hx
      · simp at hx; subst hx
        unfold fieldP at h1
        obtain ⟨_, k, h2, h1⟩ := bindP_inv h1
        obtain ⟨_, k, h3, h1⟩ := bindP_inv h1
        obtain ⟨_, k, h4, h1⟩ := bindP_inv h1
        cases h1; exact typedP_wf hI h3
    · cases h; exact ha
theorem methodsLoop_wf : ∀ n acc i r j, methodsLoop ts n acc i = .ok (r, j) → (∀ f ∈ acc, WfM f) → ∀ f ∈ r, WfM f := by
  intro n
  induction n with
  | zero => intro acc i r j h; cases h
  | succ n ih =>
    intro acc i r j h ha
    unfold methodsLoop at h; split at h
    · obtain ⟨e, k, h1, h⟩ := bindP_inv h
      refine ih _ _ _ _ h fun x hx => ?_
      rcases List.mem_append.1 hx with hx | hx
      · exact ha x hx
      · simp at hx; subst hx; exact methodP_wf hI h1
    · cases h; exact ha
theorem classP_wf {i j : Nat} {c : Cl} (h : classP ts i = .ok (c, j)) : WfC c := by
  unfold classP at h
  obtain ⟨_, k, h1, h⟩ := bindP_inv h
  obtain ⟨_, k, h2, h⟩ := bindP_inv h
  obtain ⟨s, k, h3, h⟩ := bindP_inv h
  obtain ⟨_, k, h4, h⟩ := bindP_inv h
  obtain ⟨_, k, h5, h⟩ := bindP_inv h
  obtain ⟨_, k6, h6, h⟩ := bindP_inv h
  obtain ⟨_, k, h7, h⟩ := bindP_inv h
  have hs : s = [] ∨ isIdent s = true := by
    unfold superP at h3
    split at h3
    · exact .inr (nameP_wf hI h3)
    · cases h3; exact .inl rfl
  cases h
  exact ⟨nameP_wf hI h2, hs, fieldsLoop_wf hI _ _ _ _ _ h5 fun s hs => (by cases hs), methodsLoop_wf hI _ _ _ _ _ h6 fun s hs => (by cases hs)⟩
theorem classesLoop_wf : ∀ n acc i r j, classesLoop ts n acc i = .ok (r, j) → (∀ f ∈ acc, WfC f) → ∀ f ∈ r, WfC f := by
  intro n
  induction n with
  | zero => intro acc i r j h; cases h
  | succ n ih =>
    intro acc i r j h ha
    unfold classesLoop at h; split at h
    · obtain ⟨e, k, h1, h⟩ := bindP_inv h
      refine ih _ _ _ _ h fun x hx => ?_
      rcases List.mem_append.1 hx with hx | hx
      · exact ha x hx
      · simp at hx; subst hx; exact classP_wf hI h1
    · cases h; exact ha
end
/-- What parse.Program reads is without faults and within the limits. -/
theorem programR_wf {l : Bytes} {c : List Cl} (h : programR l = .ok c) : (∀ x ∈ c, WfC x) ∧ sourceLim c = 0 := by
  unfold programR readR at h
  cases ht : tokensOf l with
  | error y => rw [ht] at h; cases h
  | ok ts =>
    rw [ht] at h
    simp only at h
    cases hp : programP ts 0 with
    | error q => rw [hp] at h; simp only at h; cases h
    | ok y =>
      obtain ⟨y, j⟩ := y
      rw [hp] at h
      simp only at h
      by_cases hk : (tk ts j).kind = 5
      · rw [if_pos hk] at h
        simp only at h
        split at h
        · cases h
        · rename_i h0
          cases h
          exact ⟨classesLoop_wf (tid_of ht) _ _ _ _ _ hp (fun s hs => (by cases hs)), by simpa using h0⟩
      · rw [if_neg hk] at h; cases h
end Lx
end Go.Proofs.YthjonkommphkkaaDoor
namespace Go.Proofs.YthjonkommphkkaaDoor
open Lx
namespace Lx
theorem ident_len {x : Bytes} (h : isIdent x = true) : x.length ≤ 32 := by
  cases x with
  | nil => simp
  | cons c t =>
    simp only [isIdent, Bool.and_eq_true, decide_eq_true_eq] at h
    simp only [List.length_cons]; omega
theorem typ_len {x : Bytes} (h : WfT x) : x.length ≤ 32 := by
  rcases h with rfl | h
  · simp
  · exact ident_len h
theorem digits_len : ∀ f n, (digitsOf f n).length ≤ f := by
  intro f
  induction f with
  | zero => intro n; simp [digitsOf]
  | succ f ih =>
    intro n
    unfold digitsOf
    split
    · simp
    · have := ih (n / 10); simp; omega
theorem plNum_len (n : Int) : (plNum n).length ≤ 22 := by
  unfold plNum
  have := digits_len 20 n.natAbs
  split
  · simp; omega
  · omega
theorem opText_len (n : Int) : (opText n).length ≤ 2 := by unfold opText; split; simp; split; simp; split; simp; split <;> simp
theorem plSep_len : ∀ {es : List Ex}, (∀ e ∈ es, (plE e).length + 10 ≤ 110 * exSz e) → (plSep es).length ≤ 110 * exsSz es
  | [], _ => by simp [plSep]
  | [e], h => by
    have := h e List.mem_cons_self
    rw [plSep, exsSz, exsSz]; omega
  | e :: f :: es, h => by
    have h1 := h e List.mem_cons_self
    have h2 := plSep_len (es := f :: es) fun x hx => h x (List.mem_cons_of_mem _ hx)
    rw [plSep, exsSz]
    · simp only [List.length_append, List.length_cons, List.length_nil]; omega
    · exact fun h => by simp at h
theorem plE_len1 : ∀ (d : Nat) (e : Ex), exSz e ≤ d → WfE e → (plE e).length + 10 ≤ 110 * exSz e := by
  intro d
  induction d with
  | zero => intro e h; have := exSz_pos e; omega
  | succ d ih =>
    intro e hd hw
    cases hw with
    | int n h1 h2 => rw [plE, if_pos rfl, exSz, exsSz]; have := plNum_len n; omega
    | null => rw [plE, exSz, exsSz]; simp
    | var x hx => rw [plE, exSz, exsSz]; have := ident_len hx; simp; omega
    | this => rw [plE, exSz, exsSz]; simp
    | input => rw [plE, exSz, exsSz]; simp
    | @bin op h a b ha hb =>
      simp only [exSz, exsSz] at hd ⊢
      have h1 := ih a (by omega) ha
      have h2 := ih b (by omega) hb
      have h3 := opText_len op
      simp [plE, plAt]; omega
    | new x hx => simp only [exSz, exsSz]; have := ident_len hx; simp [plE]; omega
    | @field m hm k hk =>
      simp only [exSz, exsSz] at hd ⊢
      have h1 := ih k (by omega) hk
      have := ident_len hm
      simp [plE, plAt]; omega
    | @call m hm k es hk he =>
      simp only [exSz, exsSz] at hd ⊢
      have h1 := ih k (by omega) hk
      have h2 := plSep_len fun x hx => ih x (by have := exsSz_mem hx; omega) (he x hx)
      have := ident_len hm
      simp [plE, plAt, plFrom]; omega
    | @static o m ho hm es he =>
      simp only [exSz] at hd ⊢
      have h2 := plSep_len fun x hx => ih x (by have := exsSz_mem hx; omega) (he x hx)
      have := ident_len hm
      have := ident_len ho
      simp [plE, plFrom]; omega
theorem plE_len {e : Ex} (h : WfE e) : (plE e).length + 10 ≤ 110 * exSz e := plE_len1 _ e (Nat.le_refl _) h
theorem plSs_len : ∀ {l : List St}, (∀ s ∈ l, (plS s).length ≤ 200 * stSz s) → (plSs l).length ≤ 200 * stsSz l
  | [], _ => by simp [plSs]
  | s :: l, h => by
    have h1 := h s List.mem_cons_self
    have h2 := plSs_len fun x hx => h x (List.mem_cons_of_mem _ hx)
    rw [plSs, stsSz, List.length_append]; omega
theorem plS_len1 : ∀ (d : Nat) (s : St), stSz s ≤ d → WfS s → (plS s).length ≤ 200 * stSz s := by
  intro d
  induction d with
  | zero => intro s h; have := stSz_pos s; omega
  | succ d ih =>
    intro s hd hw
    cases hw with
    | var0 x t hx ht => simp only [stSz, exsSz, stsSz]; have := ident_len hx; have := typ_len ht; simp [plS, plX]; omega
    | @var1 x t hx ht e he => simp only [stSz, exsSz, stsSz]; have := ident_len hx; have := typ_len ht; have := plE_len he; simp [plS, plX]; split <;> simp <;> omega
    | @assign x hx e he => simp only [stSz, exsSz, stsSz]; have := ident_len hx; have := plE_len he; simp [plS, plX]; omega
    | @store m hm k e hk he => simp only [stSz, exsSz, stsSz]; have := ident_len hm; have := plE_len he; have := plE_len hk; simp [plS, plX]; omega
    | @«if» e he b c hb hc =>
      simp only [stSz, exsSz] at hd ⊢
      have := plE_len he
      have := plSs_len fun x hx => ih x (by have := stsSz_mem hx; omega) (hb x hx)
      have := plSs_len fun x hx => ih x (by have := stsSz_mem hx; omega) (hc x hx)
      simp [plS, plX]; omega
    | @«while» e he b hb =>
      simp only [stSz, exsSz, stsSz] at hd ⊢
      have := plE_len he
      have := plSs_len fun x hx => ih x (by have := stsSz_mem hx; omega) (hb x hx)
      simp [plS, plX]; omega
    | @«try» x t hx ht b c hb hc =>
      simp only [stSz, exsSz] at hd ⊢
      have := ident_len hx
      have := typ_len ht
      have := plSs_len fun x hx => ih x (by have := stsSz_mem hx; omega) (hb x hx)
      have := plSs_len fun x hx => ih x (by have := stsSz_mem hx; omega) (hc x hx)
      simp [plS, plX]; omega
    | @throw e he => simp only [stSz, exsSz, stsSz]; have := plE_len he; simp [plS, plX]; omega
    | return0 => simp [stSz, exsSz, stsSz, plS, plX]
    | @return1 e he => simp only [stSz, exsSz, stsSz]; have := plE_len he; simp [plS, plX]; omega
    | @call e he hk => simp only [stSz, exsSz, stsSz]; have := plE_len he; simp [plS, plX]; omega
theorem plS_len {s : St} (h : WfS s) : (plS s).length ≤ 200 * stSz s := plS_len1 _ s (Nat.le_refl _) h
theorem plB_len {l : List St} (h : ∀ s ∈ l, WfS s) : (plB l).length ≤ 200 * stsSz l + 4 := by
  have := plSs_len fun s hs => plS_len (h s hs)
  simp [plB]; omega
theorem parText_len : ∀ {l : List Fld}, (∀ f ∈ l, WfF f) → (parText l).length ≤ 70 * l.length
  | [], _ => by simp [parText]
  | [f], h => by
    have h1 := h f List.mem_cons_self
    have := ident_len h1.1; have := typ_len h1.2
    simp [parText, fldText]; omega
  | f :: g :: l, h => by
    have h1 := h f List.mem_cons_self
    have := ident_len h1.1; have := typ_len h1.2
    have h2 := parText_len (l := g :: l) fun x hx => h x (List.mem_cons_of_mem _ hx)
    rw [parText]
    · simp [fldText] at h2 ⊢; omega
    · exact fun h => by simp at h
theorem plM_len {m : Me} (h : WfM m) : (plM m).length ≤ 200 * stsSz m.body + 70 * m.params.length + 100 := by
  have := ident_len h.name
  have := parText_len h.params
  have := plB_len h.body
  have hr : m.result.length ≤ 32 := by rcases h.result with h | h; rw [h]; simp; exact typ_len h
  unfold plM
  split <;> split <;> simp <;> omega
end Lx
end Go.Proofs.YthjonkommphkkaaDoor
namespace Go.Proofs.YthjonkommphkkaaDoor
open Lx Ax Go.RowKit
attribute [local simp] stepS Ax.stepT Dl.on qstep astep estep rd putE over argE ofV ofS loadA pickCells isAggD faddA fieldA partA iaddA idxA sliA bnd binA intA strA unA convA lenA mapOf lookA findK keyD scalD storeA mupA srcA srcD upd drp Dl.hp Dl.nx CV.cs CV.one buildA placesA fillA zrep tasA ifaceD eqA eqFs eqIs range2 copyA nbeq nble nblt decEq beqI bneI beqS bneS isED Int.ofNat_inj List.getElem?_map List.getElem?_eq_getElem Option.map_some ti_int ti_i64 ti_str ti_bool ti_Exs ti_Ex ti_St ti_Sts ti_Fld ti_Flds ti_Me ti_Mes ti_Cl ti_Cls ti_So ti_Strs gd gdB callA resA op1
attribute [local simp] one1 cvE_eq cvS_eq exk exn exo exm exks drR drp nu1 nu2 nu3 nu4 nu5 nu6 nu7 nu8 nu9 nu10 nu11 nu12 nu13 bl_len cvM cvC
theorem wr1 : IntKind.i64.wrap 1 = 1 := by decide
theorem wr2 : IntKind.i64.wrap 2 = 2 := by decide
theorem wr3 : IntKind.i64.wrap 3 = 3 := by decide
theorem wr4 : IntKind.i64.wrap 4 = 4 := by decide
theorem wr5 : IntKind.i64.wrap 5 = 5 := by decide
theorem wr6 : IntKind.i64.wrap 6 = 6 := by decide
theorem wr7 : IntKind.i64.wrap 7 = 7 := by decide
theorem wr8 : IntKind.i64.wrap 8 = 8 := by decide
theorem wr9 : IntKind.i64.wrap 9 = 9 := by decide
theorem wr10 : IntKind.i64.wrap 10 = 10 := by decide
attribute [local simp] wr1 wr2 wr3 wr4 wr5 wr6 wr7 wr8 wr9 wr10
theorem lt10 {m : Nat} (h : m < 10) : m = 0 ∨ m = 1 ∨ m = 2 ∨ m = 3 ∨ m = 4 ∨ m = 5 ∨ m = 6 ∨ m = 7 ∨ m = 8 ∨ m = 9 := by omega
set_option maxRecDepth 10000 in
set_option maxHeartbeats 16000000 in
theorem pl_digN : ∀ (f m : Nat), m < 10 ^ f → 0 < f → f < 1000 → m ≤ 9223372036854775807 → FCall1 Tryd.prog paG 74 [.int .i64 m] (.str (digitsOf f m)) := by
  intro f
  induction f with
  | zero => intro m _ h; omega
  | succ f ih =>
    intro m hm _ hf hb
    refine FCall.one paG_pu rfl rfl ?_
    refine FCall.ofBody Tryd.func74 rfl rfl fun nx => ?_
    by_cases h10 : m < 10
    · have hd : digitsOf (f + 1) m = [dig m] := by rw [digitsOf, if_pos h10]
      rw [hd]
      clear ih hm hd
      rcases lt10 h10 with rfl | rfl | rfl | rfl | rfl | rfl | rfl | rfl | rfl | rfl
      all_goals
        refine gV ?_
        (refine ⟨_, (by simp [*]; rfl), ?_⟩; (try simp only [packA]))
        rfl
    · have hd : digitsOf (f + 1) m = digitsOf f (m / 10) ++ [dig (m % 10)] := by rw [digitsOf, if_neg h10]
      have hf0 : 0 < f := by
        cases f with
        | zero => simp at hm; omega
        | succ f => omega
      have hc := ih (m / 10) (by rw [Nat.div_lt_iff_lt_mul (by decide)]; rw [Nat.pow_succ] at hm; exact hm) hf0 (by omega) (by omega)
      have hlen := digits_len f (m / 10)
      have hq : (m : Int).tdiv 10 = ((m / 10 : Nat) : Int) := by rw [Int.tdiv_eq_ediv_of_nonneg (by omega)]; omega
      have hq2 : (m : Int) / 10 = ((m / 10 : Nat) : Int) := by omega
      have hr10 : m % 10 < 10 := Nat.mod_lt _ (by decide)
      have hi1 : ¬ (m : Int) < 0 := by omega
      have hi2 : ¬ (m : Int) < 10 := by omega
      have hr : (m : Int).tmod 10 = ((m % 10 : Nat) : Int) := by rw [Int.tmod_eq_emod_of_nonneg (by omega)]; omega
      rw [hd]
      obtain ⟨D, hD⟩ : ∃ D, D = digitsOf f (m / 10) := ⟨_, rfl⟩
      obtain ⟨q, hqq⟩ : ∃ q, q = m / 10 := ⟨_, rfl⟩
      obtain ⟨r, hrr⟩ : ∃ r, r = m % 10 := ⟨_, rfl⟩
      rw [← hD] at hc hlen ⊢
      rw [← hqq] at hc hq hq2
      have hwq : IntKind.i64.wrap (q : Int) = (q : Int) := by rw [IntKind.wrap_i64]; omega
      rw [← hrr] at hr hr10 ⊢
      clear ih hm hd hD hqq hrr
      rcases lt10 hr10 with rfl | rfl | rfl | rfl | rfl | rfl | rfl | rfl | rfl | rfl
      all_goals
        refine gV ?_
        (first | refine AOpl.call1 rfl (by first | rfl | (simp [*]; done)) (by simp [*]) (by kernel_rfl) (hc) ?_ | refine ASl.callg (by first | rfl | (simp [*]; done)) (by simp [*]) (by kernel_rfl) (hc) ?_)
        refine gV ?_
        (refine ⟨_, (by simp [*]; rfl), ?_⟩; (try simp only [packA]))
        rfl
set_option maxRecDepth 10000 in
set_option maxHeartbeats 16000000 in
theorem pl_dig (n : Int) (h1 : -9223372036854775808 < n) (h2 : n < 9223372036854775808) : FCall1 Tryd.prog paG 74 [.int .i64 n] (.str (plNum n)) := by
  by_cases hn : n < 0
  · have hc := pl_digN 20 n.natAbs (by omega) (by decide) (by decide) (by omega)
    have hp : plNum n = [45, 32] ++ digitsOf 20 n.natAbs := by unfold plNum; rw [if_pos hn]
    have hw : IntKind.i64.wrap (-n) = -n := by rw [IntKind.wrap_i64]; omega
    have hlen := digits_len 20 n.natAbs
    rw [show ((n.natAbs : Nat) : Int) = -n by omega] at hc
    obtain ⟨D, hD⟩ : ∃ D, D = digitsOf 20 n.natAbs := ⟨_, rfl⟩
    rw [← hD] at hc hlen hp
    rw [hp]
    clear hp hD
    refine FCall.one paG_pu rfl rfl ?_
    refine FCall.ofBody Tryd.func74 rfl rfl fun nx => ?_
    refine gV ?_
    (first | refine AOpl.call1 rfl (by first | rfl | (simp [*]; done)) (by simp [*]) (by kernel_rfl) (hc) ?_ | refine ASl.callg (by first | rfl | (simp [*]; done)) (by simp [*]) (by kernel_rfl) (hc) ?_)
    refine gV ?_
    (refine ⟨_, (by simp [*]; rfl), ?_⟩; (try simp only [packA]))
    rfl
  · have hc := pl_digN 20 n.natAbs (by omega) (by decide) (by decide) (by omega)
    rw [show ((n.natAbs : Nat) : Int) = n by omega] at hc
    unfold plNum
    rw [if_neg hn]
    exact hc
end Go.Proofs.YthjonkommphkkaaDoor
namespace Go.Proofs.YthjonkommphkkaaDoor
open Lx Ax Go.RowKit
attribute [local simp] stepS Ax.stepT Dl.on qstep astep estep rd putE over argE ofV ofS loadA pickCells isAggD faddA fieldA partA iaddA idxA bnd binA intA strA unA convA lenA mapOf lookA findK keyD scalD storeA mupA srcA srcD upd drp Dl.hp Dl.nx CV.cs CV.one buildA placesA fillA zrep tasA ifaceD eqA eqFs eqIs range2 copyA nbeq nble nblt decEq beqI bneI beqS bneS isED Int.ofNat_inj List.getElem?_map List.getElem?_eq_getElem Option.map_some ti_int ti_i64 ti_str ti_bool ti_Exs ti_Ex ti_St ti_Sts ti_Fld ti_Flds ti_Me ti_Mes ti_Cl ti_Cls ti_So ti_Strs gd gdB callA resA op1
attribute [local simp] one1 cvE_eq cvS_eq exk exn exo exm exks drR drp nu1 nu2 nu3 nu4 nu5 nu6 nu7 nu8 nu9 nu10 nu11 nu12 nu13 bl_len cvM cvC
theorem sl1 (H : Heap) (a b c d e : CV) (es : List Ex) : sliA Tryd.prog H 46 (.lst ([a, b, c, d, e] :: es.map cvE)) (some (.int .i64 1)) none = some (.lst (es.map cvE)) :=
  sliA_lo (m := 1) ti_Exs ti_Ex (fun r hr => by
    rcases List.mem_cons.1 hr with rfl | hr
    · rfl
    · obtain ⟨x, _, rfl⟩ := List.mem_map.1 hr; exact cvE_len x) (by simp)
attribute [local simp] sl1 wr1
theorem plSep_eq : ∀ (e : Ex) (l : List Ex), plSep (e :: l) = plE e ++ l.flatMap fun f => [44, 32] ++ plE f
  | e, [] => by simp [plSep]
  | e, f :: l => by rw [plSep, plSep_eq f l]; simp; simp
def sepRest (es : List Ex) (i : Nat) : Bytes := if i = 0 then plSep es else (es.drop i).flatMap fun f => [44, 32] ++ plE f
theorem sepRest_step {es : List Ex} {i : Nat} (h : i < es.length) : sepRest es i = (if i = 0 then [] else [44, 32]) ++ plE es[i] ++ sepRest es (i + 1) := by
  unfold sepRest
  rw [if_neg (by omega : ¬ i + 1 = 0)]
  split
  · rename_i h0
    subst h0
    cases es with
    | nil => simp at h
    | cons e l => rw [plSep_eq]; simp
  · rw [dropAt h, List.flatMap_cons]
    try simp
theorem sepRest_end {es : List Ex} {i : Nat} (h : ¬ i < es.length) : sepRest es i = [] := by
  unfold sepRest
  split
  · rename_i h0
    subst h0
    cases es with
    | nil => rw [plSep]
    | cons e l => simp at h
  · rw [List.drop_eq_nil_of_le (by omega)]; rfl
set_option maxRecDepth 10000 in
set_option maxHeartbeats 16000000 in
theorem pl_both : ∀ d, d ≤ 1000000 → (∀ e, exSz e ≤ d → WfE e → FCall1 Tryd.prog paG 58 [.agg (cvE e)] (.str (plE e))) ∧ (∀ es, exsSz es ≤ d → (∀ e ∈ es, WfE e) → FCall1 Tryd.prog paG 75 [.lst (es.map cvE)] (.str (plSep es))) := by
  intro d
  induction d with
  | zero =>
    intro _
    refine ⟨fun e h => by have := exSz_pos e; omega, fun es h hw => ?_⟩
    have := exsSz_len es
    obtain rfl : es = [] := List.length_eq_zero_iff.mp (by omega)
    refine FCall.one paG_pu rfl rfl ?_
    refine FCall.ofBody Tryd.func75 rfl rfl fun nx => ?_
    refine gV ?_
    refine AWp.countO 0 [3, 4] 5 (fun i v H nx1 => v 3 = .str [] ∧ v 4 = .int .i64 i) ⟨rfl, rfl⟩ ?_
    rintro i v H nx1 hi hn1 ⟨h3, h4⟩
    obtain rfl : i = 0 := by omega
    refine gV ?_
    (refine ⟨_, (by simp [*]; rfl), ?_⟩; (try simp only [packA]))
    rw [plSep]
  | succ d ih =>
    intro hd1
    obtain ⟨ih1, ih2⟩ := ih (by omega)
    have hE : ∀ e, exSz e ≤ d + 1 → WfE e → FCall1 Tryd.prog paG 58 [.agg (cvE e)] (.str (plE e)) := by
      intro e hd hw
      refine FCall.one paG_pu (by simp only [puL, puV, puE]; rfl) rfl ?_
      refine FCall.ofBody Tryd.func58 rfl rfl fun nx => ?_
      cases hw with
      | int n h1 h2 =>
        have hc := pl_dig n h1 h2
        clear ih1 ih2
        refine gV ?_
        (first | refine AOpl.call1 rfl (by first | rfl | (simp [*]; done)) (by simp [*]) (by kernel_rfl) (hc) ?_ | refine ASl.callg (by first | rfl | (simp [*]; done)) (by simp [*]) (by kernel_rfl) (hc) ?_)
        refine gV ?_
        (refine ⟨_, (by simp [*]; rfl), ?_⟩; (try simp only [packA]))
        rw [plE]; rfl
      | null =>
        clear ih1 ih2
        refine gV ?_
        (refine ⟨_, (by simp [*]; rfl), ?_⟩; (try simp only [packA]))
        rw [plE]; rfl
      | var x hx =>
        clear ih1 ih2
        refine gV ?_
        (refine ⟨_, (by simp [*]; rfl), ?_⟩; (try simp only [packA]))
        rw [plE]; rfl
      | this =>
        clear ih1 ih2
        refine gV ?_
        (refine ⟨_, (by simp [*]; rfl), ?_⟩; (try simp only [packA]))
        rw [plE]; rfl
      | input =>
        clear ih1 ih2
        refine gV ?_
        (refine ⟨_, (by simp [*]; rfl), ?_⟩; (try simp only [packA]))
        rw [plE]; rfl
      | @bin op h a b ha hb =>
        simp only [exSz, exsSz] at hd
        have c1 := ih1 a (by omega) ha
        have c2 := ih1 b (by omega) hb
        have l1 := plE_len ha
        have l2 := plE_len hb
        have hp : plE (.mk 6 op [] [] [a, b]) = [40] ++ plE a ++ ([32] ++ opText op ++ [32]) ++ plE b ++ [41] := by rw [plE]; simp [plAt]
        rw [hp]
        have : op = 1 ∨ op = 2 ∨ op = 3 ∨ op = 4 ∨ op = 5 := by omega
        clear ih1 ih2 hp h
        rcases this with rfl | rfl | rfl | rfl | rfl
        all_goals
          refine gV ?_
          (first | refine AOpl.call1 rfl (by first | rfl | (simp [*]; done)) (by simp [*]) (by kernel_rfl) (c1) ?_ | refine ASl.callg (by first | rfl | (simp [*]; done)) (by simp [*]) (by kernel_rfl) (c1) ?_)
          refine gV ?_
          (first | refine AOpl.call1 rfl (by first | rfl | (simp [*]; done)) (by simp [*]) (by kernel_rfl) (c2) ?_ | refine ASl.callg (by first | rfl | (simp [*]; done)) (by simp [*]) (by kernel_rfl) (c2) ?_)
          refine gV ?_
          (refine ⟨_, (by simp [*]; rfl), ?_⟩; (try simp only [packA]))
          simp [opText]
      | new x hx =>
        have := ident_len hx
        clear ih1 ih2
        refine gV ?_
        (refine ⟨_, (by simp [*]; rfl), ?_⟩; (try simp only [packA]))
        rw [plE]; simp
      | @field m hm k hk =>
        simp only [exSz, exsSz] at hd
        have c1 := ih1 k (by omega) hk
        have l1 := plE_len hk
        have l2 := ident_len hm
        clear ih1 ih2
        refine gV ?_
        (first | refine AOpl.call1 rfl (by first | rfl | (simp [*]; done)) (by simp [*]) (by kernel_rfl) (c1) ?_ | refine ASl.callg (by first | rfl | (simp [*]; done)) (by simp [*]) (by kernel_rfl) (c1) ?_)
        refine gV ?_
        (refine ⟨_, (by simp [*]; rfl), ?_⟩; (try simp only [packA]))
        simp [plE, plAt]
      | @call m hm k es hk he =>
        simp only [exSz, exsSz] at hd
        have c1 := ih1 k (by omega) hk
        have c2 := ih2 es (by omega) he
        have l1 := plE_len hk
        have l2 := ident_len hm
        have l3 := plSep_len fun x hx => plE_len (he x hx)
        clear ih1 ih2
        refine gV ?_
        (first | refine AOpl.call1 rfl (by first | rfl | (simp [*]; done)) (by simp [*]) (by kernel_rfl) (c1) ?_ | refine ASl.callg (by first | rfl | (simp [*]; done)) (by simp [*]) (by kernel_rfl) (c1) ?_)
        refine gV ?_
        (first | refine AOpl.call1 rfl (by first | rfl | (simp [*]; done)) (by simp [*]) (by kernel_rfl) (c2) ?_ | refine ASl.callg (by first | rfl | (simp [*]; done)) (by simp [*]) (by kernel_rfl) (c2) ?_)
        refine gV ?_
        (refine ⟨_, (by simp [*]; rfl), ?_⟩; (try simp only [packA]))
        simp [plE, plAt, plFrom]
      | @static o m ho hm es he =>
        simp only [exSz] at hd
        have c2 := ih2 es (by omega) he
        have l1 := ident_len ho
        have l2 := ident_len hm
        have l3 := plSep_len fun x hx => plE_len (he x hx)
        clear ih1 ih2
        refine gV ?_
        (first | refine AOpl.call1 rfl (by first | rfl | (simp [*]; done)) (by simp [*]) (by kernel_rfl) (c2) ?_ | refine ASl.callg (by first | rfl | (simp [*]; done)) (by simp [*]) (by kernel_rfl) (c2) ?_)
        refine gV ?_
        (refine ⟨_, (by simp [*]; rfl), ?_⟩; (try simp only [packA]))
        simp [plE, plFrom]
    refine ⟨hE, fun es hd hw => ?_⟩
    refine FCall.one paG_pu (by simp only [puL, puV, puEs]; rfl) rfl ?_
    refine FCall.ofBody Tryd.func75 rfl rfl fun nx => ?_
    have hln := exsSz_len es
    have hlen := plSep_len fun x hx => plE_len (hw x hx)
    obtain ⟨R, hR⟩ : ∃ R, R = plSep es := ⟨_, rfl⟩
    rw [← hR] at hlen ⊢
    refine gV ?_
    refine AWp.countO es.length [3, 4] 5 (fun i v H nx1 => ∃ out : Bytes, v 3 = .str out ∧ v 4 = .int .i64 i ∧ R = out ++ sepRest es i) ⟨[], rfl, rfl, by rw [hR]; simp [sepRest]⟩ ?_
    clear hR
    rintro i v H nx1 hi hn1 ⟨out, h3, h4, hR⟩
    have hol : out.length ≤ R.length := by rw [hR]; simp
    by_cases hb2 : i < es.length
    · have hwi := up1 hb2 (by omega)
      rw [sepRest_step hb2] at hR
      have hm := exsSz_mem (List.getElem_mem hb2)
      have hwe := hw _ (List.getElem_mem hb2)
      have hc := hE es[i] (by omega) hwe
      have hle := plE_len hwe
      clear hn1 ih1 ih2 hE
      by_cases h0 : i = 0
      · subst h0
        rw [if_pos rfl] at hR
        refine gV ?_
        (first | refine AOpl.call1 rfl (by first | rfl | (simp [*]; done)) (by simp [*]) (by kernel_rfl) (hc) ?_ | refine ASl.callg (by first | rfl | (simp [*]; done)) (by simp [*]) (by kernel_rfl) (hc) ?_)
        refine gV ?_
        exact ⟨by ((repeat (first | exact Keeps.base _ _ _ _ | (with_reducible exact Keeps.refl _ _ _) | (refine Keeps.put rfl ?_) | (refine Keeps.over' rfl rfl ?_)))), hb2, out ++ plE es[0], by simp [putE, over], by simp [putE, over], by rw [hR]; simp⟩
      · rw [if_neg h0] at hR
        have h0' : (0 : Int) < (i : Int) := by omega
        have h0'' : 0 < i := by omega
        refine gV ?_
        (first | refine AOpl.call1 rfl (by first | rfl | (simp [*]; done)) (by simp [*]) (by kernel_rfl) (hc) ?_ | refine ASl.callg (by first | rfl | (simp [*]; done)) (by simp [*]) (by kernel_rfl) (hc) ?_)
        refine gV ?_
        exact ⟨by ((repeat (first | exact Keeps.base _ _ _ _ | (with_reducible exact Keeps.refl _ _ _) | (refine Keeps.put rfl ?_) | (refine Keeps.over' rfl rfl ?_)))), hb2, out ++ [44, 32] ++ plE es[i], by simp [putE, over], by simp [putE, over], by rw [hR]; simp⟩
    · rw [sepRest_end hb2, List.append_nil] at hR
      clear hn1 ih1 ih2 hE
      obtain rfl : R = out := hR
      refine gV ?_
      (refine ⟨_, (by simp [*]; rfl), ?_⟩; (try simp only [packA]))
end Go.Proofs.YthjonkommphkkaaDoor
