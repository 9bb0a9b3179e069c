/-
  Plain Lean: a rule on tokens that agree, k places on, gives the same, k places on.
-/
import Derived.Test.YthjonkommphkkaaGreatDoorParSpec
namespace Go.Proofs.YthjonkommphkkaaGreatDoor
namespace Lx
/-- The same result, k places on. -/
def sh {α : Type} (k : Nat) (r : PR α) : PR α := match r with
  | .ok (a, j) => .ok (a, j + k)
  | .error e => .error (e + k)
/-- The tokens agree, k places on, as far as a rule sees them. -/
structure Sh (ts ts' : List Tok) (k : Nat) : Prop where
  kind : ∀ i, (tk ts' (i + k)).kind = (tk ts i).kind
  text : ∀ i, (tk ts' (i + k)).text = (tk ts i).text
  n : ∀ i, (tk ts' (i + k)).n = (tk ts i).n
  len : ts'.length = ts.length + k
theorem sh_bind {α β : Type} {k : Nat} {r r' : PR α} {f f' : α → Nat → PR β} (h : r' = sh k r) (hf : ∀ a j, r = .ok (a, j) → f' a (j + k) = sh k (f a j)) : bindP r' f' = sh k (bindP r f) := by
  subst h
  match r, hf with
  | .ok (a, j), hf => exact hf a j rfl
  | .error e, _ => rfl
section
variable {ts ts' : List Tok} {k : Nat} (hs : Sh ts ts' k) {α : Type} {i : Nat}
include hs
theorem Sh.isT (x : Bytes) : isT ts' (i + k) x = isT ts i x := by unfold Lx.isT; rw [hs.text]
theorem sh_ite (x : Bytes) {T T' E E' : PR α} (hT : isT ts i x = true → T' = sh k T) (hE : isT ts i x = false → E' = sh k E) : (if isT ts' (i + k) x then T' else E') = sh k (if isT ts i x then T else E) := by
  rw [hs.isT]
  cases h : isT ts i x with
  | true => simp only [if_true]; exact hT h
  | false => simp only [Bool.false_eq_true, if_false]; exact hE h
theorem expectP_sh (x : Bytes) : expectP ts' x (i + k) = sh k (expectP ts x i) := sh_ite hs x (fun _ => by simp only [sh]; rw [Nat.add_right_comm]) (fun _ => rfl)
theorem nameP_sh : nameP ts' (i + k) = sh k (nameP ts i) := by
  unfold nameP
  rw [hs.kind, hs.text]
  split
  · simp only [sh]; rw [Nat.add_right_comm]
  · rfl
theorem typP_sh : typP ts' (i + k) = sh k (typP ts i) := sh_ite hs _ (fun _ => by simp only [sh]; rw [Nat.add_right_comm]) (fun _ => nameP_sh hs)
theorem typedP_sh : typedP ts' (i + k) = sh k (typedP ts i) := sh_bind (nameP_sh hs) fun _ _ _ => sh_bind (expectP_sh hs _) fun _ _ _ => sh_bind (typP_sh hs) fun _ _ _ => rfl
omit hs in
theorem tk_out {i : Nat} (h : ts.length ≤ i) : tk ts i = ⟨5, 0, [], 0⟩ := by simp [tk, List.getElem?_eq_none h]
omit hs in
theorem isT_in {x : Bytes} (hx : x ≠ []) (h : isT ts i x = true) : i < ts.length := by
  by_cases hi : i < ts.length
  · exact hi
  · unfold isT at h
    rw [tk_out (by omega)] at h
    simp only [beq_iff_eq] at h
    exact absurd h.symm hx
section
variable {E E' : Nat → PR Ex} {i0 : Nat} (hE : ∀ j, i0 < j → E' (j + k) = sh k (E j)) (hA : Adv E)
include hE hA
theorem argsLoop_sh : ∀ n n' acc i, i0 ≤ i → ts.length < i + n → ts.length < i + n' → 0 < n → 0 < n' → argsLoop ts' E' n' acc (i + k) = sh k (argsLoop ts E n acc i) := by
  intro n
  induction n with
  | zero => intro n' acc i _ _ _ h; omega
  | succ n ih =>
    intro n' acc i h0 h h' _ hn'
    obtain ⟨m, rfl⟩ : ∃ m, n' = m + 1 := ⟨n' - 1, by omega⟩
    unfold argsLoop
    refine sh_ite hs _ (fun ht => ?_) (fun _ => sh_bind (expectP_sh hs _) fun _ _ _ => rfl)
    have hi := isT_in (by decide) ht
    rw [Nat.add_right_comm]
    exact sh_bind (hE _ (by omega)) fun e j hj => ih m _ j (by have := hA _ _ _ hj; omega) (by have := hA _ _ _ hj; omega) (by have := hA _ _ _ hj; omega) (by omega) (by omega)
theorem argsP_sh (h0 : i0 ≤ i) : argsP ts' E' (i + k) = sh k (argsP ts E i) := by
  have hl := hs.len
  unfold argsP
  refine sh_bind (expectP_sh hs _) fun _ j hj => ?_
  have := expectP_adv hj
  exact sh_ite hs _ (fun _ => by simp only [sh]; rw [Nat.add_right_comm]) (fun _ => sh_bind (hE _ (by omega)) fun e j2 hj2 => argsLoop_sh hs hE hA _ _ _ _ (by have := hA _ _ _ hj2; omega) (by omega) (by omega) (by omega) (by omega))
theorem namedP_sh (h0 : i0 ≤ i) : namedP ts' E' (i + k) = sh k (namedP ts E i) := by
  unfold namedP
  refine sh_bind (nameP_sh hs) fun n j hj => ?_
  have := nameP_adv hj
  refine sh_ite hs _ (fun _ => ?_) (fun _ => rfl)
  rw [Nat.add_right_comm]
  exact sh_bind (nameP_sh hs) fun m j2 hj2 => by
    have := nameP_adv hj2
    exact sh_bind (argsP_sh hs hE hA (by omega)) fun _ _ _ => rfl
omit hE hA in
theorem unitP_sh (e : Ex) : unitP ts' (i + k) e = sh k (unitP ts i e) := sh_bind (expectP_sh hs _) fun _ _ _ => sh_bind (expectP_sh hs _) fun _ _ _ => rfl
omit hE hA in
theorem minusP_sh : minusP ts' (i + k) = sh k (minusP ts i) := by
  unfold minusP
  rw [hs.kind, hs.n]
  split
  · simp only [sh]; rw [Nat.add_right_comm]
  · rfl
omit hA in
theorem parenP_sh (h0 : i0 ≤ i) : parenP ts' E' (i + k) = sh k (parenP ts E i) := by
  unfold parenP
  refine sh_bind (expectP_sh hs _) fun _ j hj => ?_
  have := expectP_adv hj
  exact sh_bind (hE _ (by omega)) fun _ _ _ => sh_bind (expectP_sh hs _) fun _ _ _ => rfl
theorem atomP_sh (h0 : i0 ≤ i) : atomP ts' E' (i + k) = sh k (atomP ts E i) := by
  unfold atomP
  rw [hs.kind, hs.n]
  split
  · exact namedP_sh hs hE hA h0
  split
  · simp only [sh]; rw [Nat.add_right_comm]
  refine sh_ite hs _ (fun _ => by rw [Nat.add_right_comm]; exact minusP_sh hs) (fun _ => ?_)
  refine sh_ite hs _ (fun _ => by simp only [sh]; rw [Nat.add_right_comm]) (fun _ => ?_)
  refine sh_ite hs _ (fun _ => by simp only [sh]; rw [Nat.add_right_comm]) (fun _ => ?_)
  refine sh_ite hs _ (fun _ => by rw [Nat.add_right_comm]; exact unitP_sh hs _) (fun _ => ?_)
  refine sh_ite hs _ (fun _ => by rw [Nat.add_right_comm]; exact sh_bind (nameP_sh hs) fun _ _ _ => unitP_sh hs _) (fun _ => ?_)
  exact parenP_sh hs hE h0
theorem postLoop_sh : ∀ n n' e s i, i0 ≤ i → ts.length < i + n → ts.length < i + n' → 0 < n → 0 < n' → postLoop ts' E' n' e s (i + k) = sh k (postLoop ts E n e s i) := by
  intro n
  induction n with
  | zero => intro n' e s i _ _ _ h; omega
  | succ n ih =>
    intro n' e s i h0 h h' _ hn'
    obtain ⟨m, rfl⟩ : ∃ m, n' = m + 1 := ⟨n' - 1, by omega⟩
    unfold postLoop
    refine sh_ite hs _ (fun ht => ?_) (fun _ => rfl)
    have hi := isT_in (by decide) ht
    rw [Nat.add_right_comm]
    refine sh_bind (nameP_sh hs) fun nm j hj => ?_
    have := nameP_adv hj
    refine sh_ite hs _ (fun _ => ?_) (fun _ => ih m _ _ j (by omega) (by omega) (by omega) (by omega) (by omega))
    exact sh_bind (argsP_sh hs hE hA (by omega)) fun ks j2 hj2 => by
      have := argsP_adv hA _ _ _ hj2
      exact ih m _ _ j2 (by omega) (by omega) (by omega) (by omega) (by omega)
theorem postP_sh (h0 : i0 ≤ i) : postP ts' E' (i + k) = sh k (postP ts E i) := by
  have hl := hs.len
  exact sh_bind (atomP_sh hs hE hA h0) fun x j hj => by
    have := atomP_adv hA _ _ _ hj
    exact postLoop_sh hs hE hA _ _ _ _ _ (by omega) (by omega) (by omega) (by omega) (by omega)
theorem prodLoop_sh : ∀ n n' e i, i0 ≤ i → ts.length < i + n → ts.length < i + n' → 0 < n → 0 < n' → prodLoop ts' E' n' e (i + k) = sh k (prodLoop ts E n e i) := by
  intro n
  induction n with
  | zero => intro n' e i _ _ _ h; omega
  | succ n ih =>
    intro n' e i h0 h h' _ hn'
    obtain ⟨m, rfl⟩ : ∃ m, n' = m + 1 := ⟨n' - 1, by omega⟩
    unfold prodLoop
    refine sh_ite hs _ (fun ht => ?_) (fun _ => rfl)
    have hi := isT_in (by decide) ht
    rw [Nat.add_right_comm]
    exact sh_bind (postP_sh hs hE hA (by omega)) fun x j hj => by
      have := postP_adv hA _ _ _ hj
      exact ih m _ j (by omega) (by omega) (by omega) (by omega) (by omega)
theorem prodP_sh (h0 : i0 ≤ i) : prodP ts' E' (i + k) = sh k (prodP ts E i) := by
  have hl := hs.len
  exact sh_bind (postP_sh hs hE hA h0) fun x j hj => by
    have := postP_adv hA _ _ _ hj
    exact prodLoop_sh hs hE hA _ _ _ _ (by omega) (by omega) (by omega) (by omega) (by omega)
theorem sumLoop_sh : ∀ n n' e i, i0 ≤ i → ts.length < i + n → ts.length < i + n' → 0 < n → 0 < n' → sumLoop ts' E' n' e (i + k) = sh k (sumLoop ts E n e i) := by
  intro n
  induction n with
  | zero => intro n' e i _ _ _ h; omega
  | succ n ih =>
    intro n' e i h0 h h' _ hn'
    obtain ⟨m, rfl⟩ : ∃ m, n' = m + 1 := ⟨n' - 1, by omega⟩
    unfold sumLoop
    refine sh_ite hs _ (fun ht => ?_) (fun _ => sh_ite hs _ (fun ht => ?_) (fun _ => rfl))
    · have hi := isT_in (by decide) ht
      rw [Nat.add_right_comm]
      exact sh_bind (prodP_sh hs hE hA (by omega)) fun x j hj => by
        have := prodP_adv hA _ _ _ hj
        exact ih m _ j (by omega) (by omega) (by omega) (by omega) (by omega)
    · have hi := isT_in (by decide) ht
      rw [Nat.add_right_comm]
      exact sh_bind (prodP_sh hs hE hA (by omega)) fun x j hj => by
        have := prodP_adv hA _ _ _ hj
        exact ih m _ j (by omega) (by omega) (by omega) (by omega) (by omega)
theorem sumP_sh (h0 : i0 ≤ i) : sumP ts' E' (i + k) = sh k (sumP ts E i) := by
  have hl := hs.len
  exact sh_bind (prodP_sh hs hE hA h0) fun x j hj => by
    have := prodP_adv hA _ _ _ hj
    exact sumLoop_sh hs hE hA _ _ _ _ (by omega) (by omega) (by omega) (by omega) (by omega)
theorem exprW_sh (h0 : i0 ≤ i) : exprW ts' E' (i + k) = sh k (exprW ts E i) := by
  unfold exprW
  refine sh_bind (sumP_sh hs hE hA h0) fun e j hj => ?_
  have := sumP_adv hA _ _ _ hj
  refine sh_ite hs _ (fun _ => ?_) (fun _ => sh_ite hs _ (fun _ => ?_) (fun _ => rfl))
  · rw [Nat.add_right_comm]; exact sh_bind (sumP_sh hs hE hA (by omega)) fun _ _ _ => rfl
  · rw [Nat.add_right_comm]; exact sh_bind (sumP_sh hs hE hA (by omega)) fun _ _ _ => rfl
end
omit hs in
theorem isT_out {x : Bytes} (hx : x ≠ []) (h : ts.length ≤ i) : isT ts i x = false := by
  cases ht : isT ts i x with
  | false => rfl
  | true => have := isT_in hx ht; omega
omit hs in
theorem exprP_out (f : Nat) (h : ts.length ≤ i) : exprP ts f i = .error i := by
  cases f with
  | zero => rfl
  | succ f =>
    have ht : ∀ x : Bytes, x ≠ [] → isT ts i x = false := fun x hx => isT_out hx h
    have hk := tk_out h
    show exprW ts (exprP ts f) i = _
    simp only [exprW, sumP, prodP, postP, atomP, hk, ht _ (by decide : ([45] : Bytes) ≠ []), ht _ (by decide : ([110, 117, 108, 108] : Bytes) ≠ []), ht _ (by decide : ([116, 104, 105, 115] : Bytes) ≠ []), ht _ (by decide : ([105, 110, 112, 117, 116] : Bytes) ≠ []), ht _ (by decide : ([110, 101, 119] : Bytes) ≠ []), parenP, expectP, ht _ (by decide : ([40] : Bytes) ≠ [])]
    rfl
omit hs in
theorem blockP_out (f : Nat) (h : ts.length ≤ i) : blockP ts f i = .error i := by
  cases f with
  | zero => rfl
  | succ f =>
    show blockW ts (stmtW ts (blockP ts f)) i = _
    simp only [blockW, expectP, isT_out (by decide : ([123] : Bytes) ≠ []) h]
    rfl
theorem exprP_sh : ∀ f f' i, ts.length < i + f → ts.length < i + f' → 0 < f → 0 < f' → exprP ts' f' (i + k) = sh k (exprP ts f i) := by
  intro f
  induction f with
  | zero => intro f' i _ _ h; omega
  | succ g ih =>
    intro f' i h h' _ hf'
    obtain ⟨g', rfl⟩ : ∃ m, f' = m + 1 := ⟨f' - 1, by omega⟩
    refine exprW_sh hs (i0 := i) (fun j hj => ?_) (exprP_adv g) (Nat.le_refl _)
    by_cases hjl : j < ts.length
    · exact ih g' j (by omega) (by omega) (by omega) (by omega)
    · rw [exprP_out g (by omega), exprP_out g' (by rw [hs.len]; omega)]; rfl
theorem exprT_sh : exprT ts' (i + k) = sh k (exprT ts i) := exprP_sh hs _ _ _ (by omega) (by have := hs.len; omega) (by omega) (by omega)
theorem condP_sh : condP ts' (i + k) = sh k (condP ts i) := sh_bind (expectP_sh hs _) fun _ _ _ => sh_bind (exprT_sh hs) fun _ _ _ => sh_bind (expectP_sh hs _) fun _ _ _ => rfl
theorem semi_sh {a : α} : (bindP (expectP ts' [59] (i + k)) fun _ i => .ok (a, i)) = sh k (bindP (expectP ts [59] i) fun _ i => .ok (a, i)) := sh_bind (expectP_sh hs _) fun _ _ _ => rfl
theorem simpleP_sh : simpleP ts' (i + k) = sh k (simpleP ts i) := by
  unfold simpleP
  refine sh_bind (postP_sh hs (i0 := i) (fun j _ => exprT_sh hs) exprT_adv (Nat.le_refl _)) fun x j hj => ?_
  by_cases h1 : x.2 = 1
  · simp only [h1, true_and]
    refine sh_ite hs _ (fun _ => by rw [Nat.add_right_comm]; exact sh_bind (exprT_sh hs) fun _ _ _ => semi_sh hs) (fun _ => ?_)
    simp only [show ¬ (1 : Nat) = 2 by decide, show ¬ (1 : Nat) = 3 by decide, false_and, if_false]
    rfl
  · simp only [h1, false_and, if_false]
    by_cases h2 : x.2 = 2
    · simp only [h2, true_and]
      refine sh_ite hs _ (fun _ => by rw [Nat.add_right_comm]; exact sh_bind (exprT_sh hs) fun _ _ _ => semi_sh hs) (fun _ => ?_)
      simp only [show ¬ (2 : Nat) = 3 by decide, if_false]
      rfl
    · simp only [h2, false_and, if_false]
      by_cases h3 : x.2 = 3
      · simp only [h3, if_true]; exact semi_sh hs
      · simp only [h3, if_false]; rfl
section
variable {B B' : Nat → PR (List St)} {i0 : Nat} (hB : ∀ j, i0 < j → B' (j + k) = sh k (B j)) (hA : Adv B)
include hB hA
theorem stmtW_sh (h0 : i0 ≤ i) : stmtW ts' B' (i + k) = sh k (stmtW ts B i) := by
  unfold stmtW
  refine sh_ite hs _ (fun _ => ?_) (fun _ => ?_)
  · rw [Nat.add_right_comm]
    unfold varP
    exact sh_bind (typedP_sh hs) fun _ _ _ => sh_ite hs _ (fun _ => by rw [Nat.add_right_comm]; exact sh_bind (exprT_sh hs) fun _ _ _ => semi_sh hs) (fun _ => semi_sh hs)
  refine sh_ite hs _ (fun _ => ?_) (fun _ => ?_)
  · rw [Nat.add_right_comm]
    unfold ifP
    refine sh_bind (condP_sh hs) fun _ j hj => ?_
    have := condP_adv _ _ _ hj
    refine sh_bind (hB _ (by omega)) fun _ j2 hj2 => ?_
    have := hA _ _ _ hj2
    exact sh_ite hs _ (fun _ => by rw [Nat.add_right_comm]; exact sh_bind (hB _ (by omega)) fun _ _ _ => rfl) (fun _ => rfl)
  refine sh_ite hs _ (fun _ => ?_) (fun _ => ?_)
  · rw [Nat.add_right_comm]
    unfold whileP
    refine sh_bind (condP_sh hs) fun _ j hj => ?_
    have := condP_adv _ _ _ hj
    exact sh_bind (hB _ (by omega)) fun _ _ _ => rfl
  refine sh_ite hs _ (fun _ => ?_) (fun _ => ?_)
  · rw [Nat.add_right_comm]
    unfold tryP
    refine sh_bind (hB _ (by omega)) fun _ j hj => ?_
    have := hA _ _ _ hj
    refine sh_bind (expectP_sh hs _) fun _ j2 hj2 => ?_
    have := expectP_adv hj2
    refine sh_bind (expectP_sh hs _) fun _ j3 hj3 => ?_
    have := expectP_adv hj3
    refine sh_bind (typedP_sh hs) fun _ j4 hj4 => ?_
    have := typedP_adv hj4
    refine sh_bind (expectP_sh hs _) fun _ j5 hj5 => ?_
    have := expectP_adv hj5
    exact sh_bind (hB _ (by omega)) fun _ _ _ => rfl
  refine sh_ite hs _ (fun _ => ?_) (fun _ => ?_)
  · rw [Nat.add_right_comm]
    unfold throwP
    exact sh_bind (exprT_sh hs) fun _ _ _ => semi_sh hs
  refine sh_ite hs _ (fun _ => ?_) (fun _ => simpleP_sh hs)
  rw [Nat.add_right_comm]
  unfold returnP
  exact sh_ite hs _ (fun _ => by simp only [sh]; rw [Nat.add_right_comm]) (fun _ => sh_bind (exprT_sh hs) fun _ _ _ => semi_sh hs)
end
section
variable {S S' : Nat → PR St} {i0 : Nat} (hS : ∀ j, i0 < j → S' (j + k) = sh k (S j)) (hA : Adv S) (hO : ∀ j, ts.length ≤ j → S j = .error j)
include hS hA hO
theorem blockLoop_sh : ∀ n n' acc i, i0 < i → ts.length < i + n → ts.length < i + n' → 0 < n → 0 < n' → blockLoop ts' S' n' acc (i + k) = sh k (blockLoop ts S n acc i) := by
  intro n
  induction n with
  | zero => intro n' acc i _ _ _ h; omega
  | succ n ih =>
    intro n' acc i h0 h h' _ hn'
    obtain ⟨m, rfl⟩ : ∃ m, n' = m + 1 := ⟨n' - 1, by omega⟩
    unfold blockLoop
    refine sh_ite hs _ (fun _ => by simp only [sh]; rw [Nat.add_right_comm]) (fun _ => ?_)
    refine sh_bind (hS _ h0) fun x j hj => ?_
    have h1 := hA _ _ _ hj
    have h2 : i < ts.length := by
      by_cases hi : i < ts.length
      · exact hi
      · rw [hO i (by omega)] at hj; cases hj
    exact ih m _ j (by omega) (by omega) (by omega) (by omega) (by omega)
theorem blockW_sh (h0 : i0 ≤ i) : blockW ts' S' (i + k) = sh k (blockW ts S i) := by
  have hl := hs.len
  unfold blockW
  refine sh_bind (expectP_sh hs _) fun _ j hj => ?_
  have := expectP_adv hj
  exact blockLoop_sh hs hS hA hO _ _ _ _ (by omega) (by omega) (by omega) (by omega) (by omega)
end
omit hs in
theorem stmtW_out {B : Nat → PR (List St)} (j : Nat) (h : ts.length ≤ j) : stmtW ts B j = .error j := by
  have ht : ∀ x : Bytes, x ≠ [] → isT ts j x = false := fun x hx => isT_out hx h
  have hk := tk_out h
  simp only [stmtW, ht _ (by decide : ([118, 97, 114] : Bytes) ≠ []), ht _ (by decide : ([105, 102] : Bytes) ≠ []), ht _ (by decide : ([119, 104, 105, 108, 101] : Bytes) ≠ []), ht _ (by decide : ([116, 114, 121] : Bytes) ≠ []), ht _ (by decide : ([116, 104, 114, 111, 119] : Bytes) ≠ []), ht _ (by decide : ([114, 101, 116, 117, 114, 110] : Bytes) ≠ []), simpleP, postP, atomP, hk, ht _ (by decide : ([45] : Bytes) ≠ []), ht _ (by decide : ([110, 117, 108, 108] : Bytes) ≠ []), ht _ (by decide : ([116, 104, 105, 115] : Bytes) ≠ []), ht _ (by decide : ([105, 110, 112, 117, 116] : Bytes) ≠ []), ht _ (by decide : ([110, 101, 119] : Bytes) ≠ []), parenP, expectP, ht _ (by decide : ([40] : Bytes) ≠ [])]
  rfl
theorem blockP_sh : ∀ f f' i, ts.length < i + f → ts.length < i + f' → 0 < f → 0 < f' → blockP ts' f' (i + k) = sh k (blockP ts f i) := by
  intro f
  induction f with
  | zero => intro f' i _ _ h; omega
  | succ g ih =>
    intro f' i h h' _ hf'
    obtain ⟨g', rfl⟩ : ∃ m, f' = m + 1 := ⟨f' - 1, by omega⟩
    refine blockW_sh hs (i0 := i) (fun j hj => stmtW_sh hs (i0 := i) (fun j hj => ?_) (blockP_adv g) (by omega)) (stmtW_adv (blockP_adv g)) stmtW_out (Nat.le_refl _)
    by_cases hjl : j < ts.length
    · exact ih g' j (by omega) (by omega) (by omega) (by omega)
    · rw [blockP_out g (by omega), blockP_out g' (by rw [hs.len]; omega)]; rfl
theorem blockT_sh : blockT ts' (i + k) = sh k (blockT ts i) := blockP_sh hs _ _ _ (by omega) (by have := hs.len; omega) (by omega) (by omega)
theorem fieldP_sh : fieldP ts' (i + k) = sh k (fieldP ts i) := sh_bind (expectP_sh hs _) fun _ _ _ => sh_bind (typedP_sh hs) fun _ _ _ => semi_sh hs
theorem paramsLoop_sh : ∀ n n' acc i, ts.length < i + n → ts.length < i + n' → 0 < n → 0 < n' → paramsLoop ts' n' acc (i + k) = sh k (paramsLoop ts n acc i) := by
  intro n
  induction n with
  | zero => intro n' acc i _ _ h; omega
  | succ n ih =>
    intro n' acc i h h' _ hn'
    obtain ⟨m, rfl⟩ : ∃ m, n' = m + 1 := ⟨n' - 1, by omega⟩
    unfold paramsLoop
    refine sh_ite hs _ (fun ht => ?_) (fun _ => sh_bind (expectP_sh hs _) fun _ _ _ => rfl)
    have hi := isT_in (by decide) ht
    rw [Nat.add_right_comm]
    exact sh_bind (typedP_sh hs) fun x j hj => by
      have := typedP_adv hj
      exact ih m _ j (by omega) (by omega) (by omega) (by omega)
theorem paramsP_sh : paramsP ts' (i + k) = sh k (paramsP ts i) := by
  have hl := hs.len
  unfold paramsP
  exact sh_ite hs _ (fun _ => by simp only [sh]; rw [Nat.add_right_comm]) (fun _ => sh_bind (typedP_sh hs) fun _ j hj => by
    have := typedP_adv hj
    exact paramsLoop_sh hs _ _ _ _ (by omega) (by omega) (by omega) (by omega))
theorem resultP_sh : resultP ts' (i + k) = sh k (resultP ts i) := sh_ite hs _ (fun _ => by rw [Nat.add_right_comm]; exact typP_sh hs) (fun _ => rfl)
theorem methodP_sh : methodP ts' (i + k) = sh k (methodP ts i) := by
  unfold methodP
  rw [hs.isT]
  have e : (if isT ts i [115, 116, 97, 116, 105, 99] = true then i + k + 1 else i + k) = (if isT ts i [115, 116, 97, 116, 105, 99] = true then i + 1 else i) + k := by split <;> omega
  rw [e]
  exact sh_bind (expectP_sh hs _) fun _ _ _ => sh_bind (nameP_sh hs) fun _ _ _ => sh_bind (expectP_sh hs _) fun _ _ _ => sh_bind (paramsP_sh hs) fun _ _ _ => sh_bind (resultP_sh hs) fun _ _ _ => sh_bind (blockT_sh hs) fun _ _ _ => rfl
theorem fieldsLoop_sh : ∀ n n' acc i, ts.length < i + n → ts.length < i + n' → 0 < n → 0 < n' → fieldsLoop ts' n' acc (i + k) = sh k (fieldsLoop ts n acc i) := by
  intro n
  induction n with
  | zero => intro n' acc i _ _ h; omega
  | succ n ih =>
    intro n' acc i h h' _ hn'
    obtain ⟨m, rfl⟩ : ∃ m, n' = m + 1 := ⟨n' - 1, by omega⟩
    unfold fieldsLoop
    refine sh_ite hs _ (fun ht => ?_) (fun _ => rfl)
    have hi := isT_in (by decide) ht
    exact sh_bind (fieldP_sh hs) fun x j hj => by
      have := fieldP_adv hj
      exact ih m _ j (by omega) (by omega) (by omega) (by omega)
theorem methodsLoop_sh : ∀ n n' acc i, ts.length < i + n → ts.length < i + n' → 0 < n → 0 < n' → methodsLoop ts' n' acc (i + k) = sh k (methodsLoop ts n acc i) := by
  intro n
  induction n with
  | zero => intro n' acc i _ _ h; omega
  | succ n ih =>
    intro n' acc i h h' _ hn'
    obtain ⟨m, rfl⟩ : ∃ m, n' = m + 1 := ⟨n' - 1, by omega⟩
    unfold methodsLoop
    rw [hs.isT, hs.isT]
    split
    · rename_i ht
      have hi : i < ts.length := by
        rcases Bool.or_eq_true_iff.1 ht with h | h
        · exact isT_in (by decide) h
        · exact isT_in (by decide) h
      exact sh_bind (methodP_sh hs) fun x j hj => by
        have := methodP_adv _ _ _ hj
        exact ih m _ j (by omega) (by omega) (by omega) (by omega)
    · rfl
theorem superP_sh : superP ts' (i + k) = sh k (superP ts i) := sh_ite hs _ (fun _ => by rw [Nat.add_right_comm]; exact nameP_sh hs) (fun _ => rfl)
theorem classP_sh : classP ts' (i + k) = sh k (classP ts i) := by
  have hl := hs.len
  exact sh_bind (expectP_sh hs _) fun _ _ _ => sh_bind (nameP_sh hs) fun _ _ _ => sh_bind (superP_sh hs) fun _ _ _ => sh_bind (expectP_sh hs _) fun _ _ _ => sh_bind (fieldsLoop_sh hs _ _ _ _ (by omega) (by omega) (by omega) (by omega)) fun _ _ _ => sh_bind (methodsLoop_sh hs _ _ _ _ (by omega) (by omega) (by omega) (by omega)) fun _ _ _ => sh_bind (expectP_sh hs _) fun _ _ _ => rfl
/-- The classes, k places on; what was read before stands in front. -/
theorem classesLoop_sh (pre : List Cl) : ∀ n n' acc i, ts.length < i + n → ts.length < i + n' → 0 < n → 0 < n' → classesLoop ts' n' (pre ++ acc) (i + k) = match classesLoop ts n acc i with
    | .ok (l, j) => .ok (pre ++ l, j + k)
    | .error e => .error (e + k) := by
  intro n
  induction n with
  | zero => intro n' acc i _ _ h; omega
  | succ n ih =>
    intro n' acc i h h' _ hn'
    obtain ⟨m, rfl⟩ : ∃ m, n' = m + 1 := ⟨n' - 1, by omega⟩
    unfold classesLoop
    rw [hs.isT]
    cases ht : isT ts i [99, 108, 97, 115, 115] with
    | false => simp only [Bool.false_eq_true, if_false]
    | true =>
      simp only [if_true]
      have hi := isT_in (by decide) ht
      rw [classP_sh hs]
      cases hc : classP ts i with
      | error e => rfl
      | ok x =>
        obtain ⟨c, j⟩ := x
        have := classP_adv _ _ _ hc
        show classesLoop ts' m (pre ++ acc ++ [c]) (j + k) = _
        rw [List.append_assoc, ih m (acc ++ [c]) j (by omega) (by omega) (by omega) (by omega)]
        rfl
end
end Lx
end Go.Proofs.YthjonkommphkkaaGreatDoor
