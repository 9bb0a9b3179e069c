/-
  Plain Lean: a rule on tokens that agree up to an index q, behind which the second ones stop: the rule does the same up to q, or stands still at q.
-/
import Derived.Test.YthjonkommphkkaaDoorJpAp
import Derived.Test.YthjonkommphkkaaDoorJpBc
import Derived.Test.YthjonkommphkkaaDoorJpBd
import Derived.Test.YthjonkommphkkaaDoorJpBf
set_option linter.unusedSectionVars false
set_option linter.unusedSimpArgs false
set_option linter.unnecessarySimpa false
set_option linter.unusedVariables false
namespace Go.Proofs.YthjonkommphkkaaDoor
namespace Lx
def idx {α : Type} : PR α → Nat
  | .ok (_, j) => j
  | .error e => e
def Near {α : Type} (q : Nat) (r : PR α) : Prop := match r with
  | .ok (_, j) => j ≤ q
  | .error e => e < q
def Beyond {α : Type} (q : Nat) (r : PR α) : Prop := match r with
  | .ok (_, j) => q < j
  | .error e => q ≤ e
def StuckR {α : Type} (q : Nat) (r : PR α) : Prop := r = .error q ∨ ∃ a, r = .ok (a, q)
def Rel {α : Type} (q : Nat) (r r' : PR α) : Prop := (r = r' ∧ Near q r) ∨ (Beyond q r ∧ StuckR q r')
def RM {α : Type} (q i : Nat) (r r' : PR α) : Prop := i ≤ idx r ∧ (i ≤ q → Rel q r r')
theorem stuck_of {α : Type} {q : Nat} {r r' : PR α} (hi : q ≤ idx r) (h : Rel q r r') : StuckR q r' := by
  rcases h with ⟨rfl, h⟩ | ⟨_, h⟩
  · match r, hi, h with
    | .ok (a, j), hi, h => exact .inr ⟨a, by have : j = q := Nat.le_antisymm h hi; rw [this]⟩
    | .error e, hi, h => have h : e < q := h; have hi : q ≤ e := hi; omega
  · exact h
theorem beyond_of {α : Type} {q : Nat} {r : PR α} (hi : q < idx r) : Beyond q r := by
  match r, hi with
  | .ok (a, j), hi => exact hi
  | .error e, hi => exact Nat.le_of_lt hi
section
variable {α β : Type} {q i : Nat}
theorem RM.far {r r' r'' : PR α} (h : RM q i r r') (hq : q < i) : RM q i r r'' := ⟨h.1, fun hi => by omega⟩
theorem RM.bindA {r r' : PR α} {k k' : α → Nat → PR β} (h : RM q i r r') (hk : ∀ a j, i ≤ j → (r = .ok (a, j) ∨ r' = .ok (a, j)) → RM q j (k a j) (k' a j)) : RM q i (bindP r k) (bindP r' k') := by
  obtain ⟨hm, hr⟩ := h
  constructor
  · match r, hm with
    | .ok (a, j), hm => exact Nat.le_trans hm (hk a j hm (.inl rfl)).1
    | .error e, hm => exact hm
  · intro hi
    rcases hr hi with ⟨rfl, hn⟩ | ⟨hb, hs⟩
    · match r, hm, hn with
      | .ok (a, j), hm, hn => exact (hk a j hm (.inl rfl)).2 hn
      | .error e, hm, hn => exact .inl ⟨rfl, hn⟩
    · refine .inr ⟨?_, ?_⟩
      · match r, hm, hb with
        | .ok (a, j), hm, hb => exact beyond_of (Nat.lt_of_lt_of_le hb (hk a j hm (.inl rfl)).1)
        | .error e, hm, hb => exact hb
      · rcases hs with rfl | ⟨a, rfl⟩
        · exact .inl rfl
        · have h1 := hk a q hi (.inr rfl)
          exact stuck_of h1.1 (h1.2 (Nat.le_refl _))
theorem RM.bind {r r' : PR α} {k k' : α → Nat → PR β} (h : RM q i r r') (hk : ∀ a j, i ≤ j → RM q j (k a j) (k' a j)) : RM q i (bindP r k) (bindP r' k') := h.bindA fun a j hj _ => hk a j hj
theorem RM.pure (a : α) : RM q i (.ok (a, i)) (.ok (a, i)) := ⟨Nat.le_refl _, fun hi => .inl ⟨rfl, hi⟩⟩
theorem RM.next {r r' : PR α} (h : RM q (i + 1) r r') : i + 1 ≤ idx r ∧ (i < q → Rel q r r') := ⟨h.1, fun hi => h.2 hi⟩
end
/-- The tokens agree up to q; the second ones stop there. -/
structure Cut (ts ts' : List Tok) (q : Nat) : Prop where
  ag : ∀ i, i < q → tk ts i = tk ts' i
  k1 : (tk ts' q).kind ≠ 1
  k3 : (tk ts' q).kind ≠ 3
  tx : (tk ts' q).text = [] ∨ (tk ts' q).text = [99, 108, 97, 115, 115]
  le : q ≤ ts.length
  le' : q ≤ ts'.length
section
variable {ts ts' : List Tok} {q : Nat} (hc : Cut ts ts' q) {α β : Type} {i : Nat}
include hc
theorem Cut.isT_eq (x : Bytes) (h : i < q) : isT ts' i x = isT ts i x := by unfold isT; rw [hc.ag i h]
theorem Cut.isT_q (x : Bytes) (hx : x ≠ [] ∧ x ≠ [99, 108, 97, 115, 115]) : isT ts' q x = false := by
  unfold isT
  rw [beq_eq_false_iff_ne]
  intro h
  rcases hc.tx with h1 | h1
  · exact hx.1 (h.symm.trans h1)
  · exact hx.2 (h.symm.trans h1)
theorem rm_iteq (x : Bytes) (hx : isT ts' q x = false) {T T' E E' : PR α} (hT : isT ts i x = true → i + 1 ≤ idx T) (hT2 : i < q → isT ts i x = true → Rel q T T') (hE : RM q i E E') : RM q i (if isT ts i x then T else E) (if isT ts' i x then T' else E') := by
  constructor
  · split
    · rename_i h; exact Nat.le_of_lt (hT h)
    · exact hE.1
  · intro hi
    by_cases hlt : i < q
    · rw [hc.isT_eq x hlt]
      split
      · rename_i h; exact hT2 hlt h
      · exact hE.2 hi
    · obtain rfl : i = q := by omega
      rw [hx]
      simp only [Bool.false_eq_true, if_false]
      split
      · rename_i h; exact .inr ⟨beyond_of (hT h), stuck_of hE.1 (hE.2 hi)⟩
      · exact hE.2 hi
theorem rm_ite (x : Bytes) (hx : x ≠ [] ∧ x ≠ [99, 108, 97, 115, 115]) {T T' E E' : PR α} (hT : isT ts i x = true → i + 1 ≤ idx T) (hT2 : i < q → isT ts i x = true → Rel q T T') (hE : RM q i E E') : RM q i (if isT ts i x then T else E) (if isT ts' i x then T' else E') := rm_iteq hc x (hc.isT_q x hx) hT hT2 hE
theorem rm_ite1 (x : Bytes) (hx : x ≠ [] ∧ x ≠ [99, 108, 97, 115, 115]) {T T' E E' : PR α} (hT : RM q (i + 1) T T') (hE : RM q i E E') : RM q i (if isT ts i x then T else E) (if isT ts' i x then T' else E') :=
  rm_ite hc x hx (fun _ => hT.1) (fun h _ => hT.2 h) hE
theorem rm_kind (k : Nat) (hk : (tk ts' q).kind ≠ k) {T T' E E' : PR α} (hT : (tk ts i).kind = k → i + 1 ≤ idx T) (hT2 : i < q → (tk ts i).kind = k → Rel q T T') (hE : RM q i E E') : RM q i (if (tk ts i).kind = k then T else E) (if (tk ts' i).kind = k then T' else E') := by
  constructor
  · split
    · rename_i h; exact Nat.le_of_lt (hT h)
    · exact hE.1
  · intro hi
    by_cases hlt : i < q
    · rw [← hc.ag i hlt]
      split
      · rename_i h; exact hT2 hlt h
      · exact hE.2 hi
    · obtain rfl : i = q := by omega
      rw [if_neg hk]
      split
      · rename_i h; exact .inr ⟨beyond_of (hT h), stuck_of hE.1 (hE.2 hi)⟩
      · exact hE.2 hi
omit hc in
theorem rm_err : RM q i (.error i : PR α) (.error i) := ⟨Nat.le_refl _, fun hi => by
  by_cases h : i < q
  · exact .inl ⟨rfl, h⟩
  · obtain rfl : i = q := by omega
    exact .inr ⟨Nat.le_refl _, .inl rfl⟩⟩
theorem expectP_rm (x : Bytes) (hx : x ≠ [] ∧ x ≠ [99, 108, 97, 115, 115]) : RM q i (expectP ts x i) (expectP ts' x i) := rm_ite1 hc x hx (.pure ()) rm_err
theorem nameP_rm : RM q i (nameP ts i) (nameP ts' i) := by
  unfold nameP
  refine rm_kind hc 1 hc.k1 (fun _ => Nat.le_refl _) (fun h _ => ?_) rm_err
  rw [hc.ag i h]; exact .inl ⟨rfl, h⟩
theorem typP_rm : RM q i (typP ts i) (typP ts' i) := rm_ite1 hc _ (by decide) (.pure _) (nameP_rm hc)
theorem typedP_rm : RM q i (typedP ts i) (typedP ts' i) :=
  (nameP_rm hc).bind fun _ _ _ => (expectP_rm hc _ (by decide)).bind fun _ _ _ => (typP_rm hc).bind fun _ _ _ => .pure _
section
variable {E E' : Nat → PR Ex} {i0 : Nat} (hE : ∀ j, i0 < j → RM q j (E j) (E' j))
include hE
theorem argsLoop_rm : ∀ n n' acc i, i0 ≤ i → q < i + n → q < i + n' → RM q i (argsLoop ts E n acc i) (argsLoop ts' E' n' acc i) := by
  intro n
  induction n with
  | zero => intro n' acc i _ h _; exact ⟨Nat.le_refl _, fun hi => by omega⟩
  | succ n ih =>
    intro n' acc i h0 h h'
    have key : ∀ m, q < i + 1 + m → RM q i (argsLoop ts E (n + 1) acc i) (argsLoop ts' E' (m + 1) acc i) := fun m hm => by
      unfold argsLoop
      refine rm_ite1 hc _ (by decide) ((hE _ (by omega)).bind fun e j hj => ih m _ j (by omega) (by omega) (by omega)) ((expectP_rm hc _ (by decide)).bind fun _ _ _ => .pure _)
    cases n' with
    | zero => exact (key (q + 1) (by omega)).far (by omega)
    | succ m => exact key m (by omega)
theorem argsP_rm (h0 : i0 ≤ i) : RM q i (argsP ts E i) (argsP ts' E' i) := by
  have h1 := hc.le
  have h2 := hc.le'
  unfold argsP
  refine (expectP_rm hc _ (by decide)).bindA fun _ j _ hj => ?_
  obtain rfl : j = i + 1 := hj.elim expectP_adv expectP_adv
  exact rm_ite1 hc _ (by decide) (.pure _) ((hE _ (by omega)).bind fun e j hj => argsLoop_rm hc hE _ _ _ _ (by omega) (by omega) (by omega))
theorem namedP_rm (h0 : i0 ≤ i) : RM q i (namedP ts E i) (namedP ts' E' i) := by
  unfold namedP
  refine (nameP_rm hc).bindA fun n j _ hj => ?_
  obtain rfl : j = i + 1 := hj.elim nameP_adv nameP_adv
  refine rm_ite1 hc _ (by decide) ?_ (.pure _)
  exact (nameP_rm hc).bind fun m j hj => (argsP_rm hc hE (by omega)).bind fun _ _ _ => .pure _
omit hE in
theorem unitP_rm (e : Ex) : RM q i (unitP ts i e) (unitP ts' i e) := (expectP_rm hc _ (by decide)).bind fun _ _ _ => (expectP_rm hc _ (by decide)).bind fun _ _ _ => .pure _
omit hE in
theorem minusP_rm : RM q i (minusP ts i) (minusP ts' i) := by
  unfold minusP
  by_cases h0 : (tk ts i).n = 0
  · refine ⟨by rw [if_neg (fun h => h.2 h0)]; exact Nat.le_refl _, fun hi => ?_⟩
    rw [if_neg (fun h => h.2 h0)]
    by_cases hlt : i < q
    · rw [← hc.ag i hlt, if_neg (fun h => h.2 h0)]; exact .inl ⟨rfl, hlt⟩
    · obtain rfl : i = q := by omega
      rw [show (if (tk ts' i).kind = 3 ∧ (tk ts' i).n ≠ 0 then (.ok ((.mk 1 (-((tk ts' i).n : Int)) [] [] [], 0), i + 1) : PR (Ex × Nat)) else .error i) = .error i from if_neg (fun h => hc.k3 h.1)]; exact .inr ⟨Nat.le_refl _, .inl rfl⟩
  · constructor
    · split
      · exact Nat.le_succ _
      · exact Nat.le_refl _
    · intro hi
      by_cases hlt : i < q
      · rw [← hc.ag i hlt]
        split
        · exact .inl ⟨rfl, hlt⟩
        · exact .inl ⟨rfl, hlt⟩
      · obtain rfl : i = q := by omega
        rw [show (if (tk ts' i).kind = 3 ∧ (tk ts' i).n ≠ 0 then (.ok ((.mk 1 (-((tk ts' i).n : Int)) [] [] [], 0), i + 1) : PR (Ex × Nat)) else .error i) = .error i from if_neg (fun h => hc.k3 h.1)]
        split
        · exact .inr ⟨Nat.lt_succ_self _, .inl rfl⟩
        · exact .inr ⟨Nat.le_refl _, .inl rfl⟩
theorem parenP_rm (h0 : i0 ≤ i) : RM q i (parenP ts E i) (parenP ts' E' i) := by
  unfold parenP
  refine (expectP_rm hc _ (by decide)).bindA fun _ j _ hj => ?_
  obtain rfl : j = i + 1 := hj.elim expectP_adv expectP_adv
  exact (hE _ (by omega)).bind fun _ _ _ => (expectP_rm hc _ (by decide)).bind fun _ _ _ => .pure _
theorem atomP_rm (h0 : i0 ≤ i) : RM q i (atomP ts E i) (atomP ts' E' i) := by
  unfold atomP
  have hn := namedP_rm hc hE h0
  refine rm_kind hc 1 hc.k1 (fun hk => ?_) (fun h _ => hn.2 (by omega)) ?_
  · have h2 : RM q (i + 1) (if isT ts (i + 1) [58, 58] then bindP (nameP ts (i + 1 + 1)) fun m j => bindP (argsP ts E j) fun ks j => .ok ((.mk 10 0 (tk ts i).text m ks, 3), j) else (.ok ((.mk 3 0 [] (tk ts i).text [], 1), i + 1) : PR (Ex × Nat))) (if isT ts' (i + 1) [58, 58] then bindP (nameP ts' (i + 1 + 1)) fun m j => bindP (argsP ts' E' j) fun ks j => .ok ((.mk 10 0 (tk ts i).text m ks, 3), j) else (.ok ((.mk 3 0 [] (tk ts i).text [], 1), i + 1) : PR (Ex × Nat))) :=
      rm_ite1 hc _ (by decide) ((nameP_rm hc).bind fun m j hj => (argsP_rm hc hE (by omega)).bind fun _ _ _ => .pure _) (.pure _)
    have h3 := h2.1
    unfold namedP nameP
    rw [if_pos hk]
    exact h3
  refine rm_kind hc 3 hc.k3 (fun _ => Nat.le_refl _) (fun h _ => by rw [hc.ag i h]; exact .inl ⟨rfl, h⟩) ?_
  refine rm_ite1 hc _ (by decide) (minusP_rm hc) ?_
  refine rm_ite1 hc _ (by decide) (.pure _) ?_
  refine rm_ite1 hc _ (by decide) (.pure _) ?_
  refine rm_ite1 hc _ (by decide) (unitP_rm hc _) ?_
  refine rm_ite1 hc _ (by decide) ((nameP_rm hc).bind fun _ _ _ => unitP_rm hc _) ?_
  exact parenP_rm hc hE h0
theorem postLoop_rm : ∀ n n' e sh i, i0 ≤ i → q < i + n → q < i + n' → RM q i (postLoop ts E n e sh i) (postLoop ts' E' n' e sh i) := by
  intro n
  induction n with
  | zero => intro n' e sh i _ h _; exact ⟨Nat.le_refl _, fun hi => by omega⟩
  | succ n ih =>
    intro n' e sh i h0 h h'
    have key : ∀ m, q < i + 1 + m → RM q i (postLoop ts E (n + 1) e sh i) (postLoop ts' E' (m + 1) e sh i) := fun m hm => by
      unfold postLoop
      refine rm_ite1 hc _ (by decide) ((nameP_rm hc).bind fun nm j hj => ?_) (.pure _)
      refine rm_ite hc _ (by decide) (fun ht => ?_) (fun hlt _ => ?_) (ih m _ _ j (by omega) (by omega) (by omega))
      · have h1 : i + 1 ≤ j := hj
        have : RM q j (bindP (argsP ts E j) fun ks i => postLoop ts E n (.mk 9 0 [] nm (e :: ks)) 3 i) (bindP (argsP ts' E' j) fun ks i => postLoop ts' E' m (.mk 9 0 [] nm (e :: ks)) 3 i) := (argsP_rm hc hE (by omega)).bind fun ks k hk => ih m _ _ k (by omega) (by omega) (by omega)
        unfold argsP expectP
        rw [if_pos ht, bindP_ok]
        have h2 : RM q (j + 1) (bindP (if isT ts (j + 1) [41] then (.ok ([], j + 1 + 1) : PR (List Ex)) else bindP (E (j + 1)) fun e j => argsLoop ts E (ts.length + 1) [e] j) fun ks i => postLoop ts E n (.mk 9 0 [] nm (e :: ks)) 3 i) (bindP (if isT ts' (j + 1) [41] then (.ok ([], j + 1 + 1) : PR (List Ex)) else bindP (E' (j + 1)) fun e j => argsLoop ts' E' (ts'.length + 1) [e] j) fun ks i => postLoop ts' E' m (.mk 9 0 [] nm (e :: ks)) 3 i) := by
          have l1 := hc.le
          have l2 := hc.le'
          exact (rm_ite1 hc _ (by decide) (.pure _) ((hE _ (by omega)).bind fun e k hk => argsLoop_rm hc hE _ _ _ _ (by omega) (by omega) (by omega))).bind fun ks k hk => ih m _ _ k (by omega) (by omega) (by omega)
        exact h2.1
      · have h1 : i + 1 ≤ j := hj
        exact ((argsP_rm hc hE (by omega)).bind fun ks k hk => ih m _ _ k (by omega) (by omega) (by omega) : RM q j (bindP (argsP ts E j) fun ks i => postLoop ts E n (.mk 9 0 [] nm (e :: ks)) 3 i) (bindP (argsP ts' E' j) fun ks i => postLoop ts' E' m (.mk 9 0 [] nm (e :: ks)) 3 i)).2 (by omega)
    cases n' with
    | zero => exact (key (q + 1) (by omega)).far (by omega)
    | succ m => exact key m (by omega)
theorem postP_rm (h0 : i0 ≤ i) : RM q i (postP ts E i) (postP ts' E' i) := by
  have h1 := hc.le
  have h2 := hc.le'
  exact (atomP_rm hc hE h0).bind fun x j hj => postLoop_rm hc hE _ _ _ _ _ (by omega) (by omega) (by omega)
theorem prodLoop_rm : ∀ n n' e i, i0 ≤ i → q < i + n → q < i + n' → RM q i (prodLoop ts E n e i) (prodLoop ts' E' n' e i) := by
  intro n
  induction n with
  | zero => intro n' e i _ h _; exact ⟨Nat.le_refl _, fun hi => by omega⟩
  | succ n ih =>
    intro n' e i h0 h h'
    have key : ∀ m, q < i + 1 + m → RM q i (prodLoop ts E (n + 1) e i) (prodLoop ts' E' (m + 1) e i) := fun m hm => by
      unfold prodLoop
      exact rm_ite1 hc _ (by decide) ((postP_rm hc hE (by omega)).bind fun x j hj => ih m _ j (by omega) (by omega) (by omega)) (.pure _)
    cases n' with
    | zero => exact (key (q + 1) (by omega)).far (by omega)
    | succ m => exact key m (by omega)
theorem prodP_rm (h0 : i0 ≤ i) : RM q i (prodP ts E i) (prodP ts' E' i) := by
  have h1 := hc.le
  have h2 := hc.le'
  exact (postP_rm hc hE h0).bind fun x j hj => prodLoop_rm hc hE _ _ _ _ (by omega) (by omega) (by omega)
theorem sumLoop_rm : ∀ n n' e i, i0 ≤ i → q < i + n → q < i + n' → RM q i (sumLoop ts E n e i) (sumLoop ts' E' n' e i) := by
  intro n
  induction n with
  | zero => intro n' e i _ h _; exact ⟨Nat.le_refl _, fun hi => by omega⟩
  | succ n ih =>
    intro n' e i h0 h h'
    have key : ∀ m, q < i + 1 + m → RM q i (sumLoop ts E (n + 1) e i) (sumLoop ts' E' (m + 1) e i) := fun m hm => by
      unfold sumLoop
      exact rm_ite1 hc _ (by decide) ((prodP_rm hc hE (by omega)).bind fun x j hj => ih m _ j (by omega) (by omega) (by omega)) (rm_ite1 hc _ (by decide) ((prodP_rm hc hE (by omega)).bind fun x j hj => ih m _ j (by omega) (by omega) (by omega)) (.pure _))
    cases n' with
    | zero => exact (key (q + 1) (by omega)).far (by omega)
    | succ m => exact key m (by omega)
theorem sumP_rm (h0 : i0 ≤ i) : RM q i (sumP ts E i) (sumP ts' E' i) := by
  have h1 := hc.le
  have h2 := hc.le'
  exact (prodP_rm hc hE h0).bind fun x j hj => sumLoop_rm hc hE _ _ _ _ (by omega) (by omega) (by omega)
theorem exprW_rm (h0 : i0 ≤ i) : RM q i (exprW ts E i) (exprW ts' E' i) := by
  unfold exprW
  refine (sumP_rm hc hE h0).bind fun e j hj => ?_
  exact rm_ite1 hc _ (by decide) ((sumP_rm hc hE (by omega)).bind fun x j hj => .pure _) (rm_ite1 hc _ (by decide) ((sumP_rm hc hE (by omega)).bind fun x j hj => .pure _) (.pure _))
end
theorem exprP_rm : ∀ f f' i, q < i + f → q < i + f' → RM q i (exprP ts f i) (exprP ts' f' i) := by
  intro f
  induction f with
  | zero => intro f' i h _; exact ⟨Nat.le_refl _, fun hi => by omega⟩
  | succ f ih =>
    intro f' i h h'
    cases f' with
    | zero => exact (exprW_rm hc (E' := exprP ts' (q + 1)) (i0 := i) (fun j hj => ih (q + 1) j (by omega) (by omega)) (Nat.le_refl _)).far (by omega)
    | succ f' => exact exprW_rm hc (i0 := i) (fun j hj => ih f' j (by omega) (by omega)) (Nat.le_refl _)
theorem exprT_rm (i : Nat) : RM q i (exprT ts i) (exprT ts' i) := exprP_rm hc _ _ _ (by have := hc.le; omega) (by have := hc.le'; omega)
theorem expectP_rm_lt (x : Bytes) (h : i < q) : RM q i (expectP ts x i) (expectP ts' x i) := by
  unfold expectP
  rw [hc.isT_eq x h]
  split
  · exact ⟨Nat.le_succ _, fun _ => .inl ⟨rfl, h⟩⟩
  · exact rm_err
theorem condP_rm : RM q i (condP ts i) (condP ts' i) := (expectP_rm hc _ (by decide)).bind fun _ _ _ => (exprT_rm hc _).bind fun _ _ _ => (expectP_rm hc _ (by decide)).bind fun _ _ _ => .pure _
theorem semi_rm {a : α} : RM q i (bindP (expectP ts [59] i) fun _ i => .ok (a, i)) (bindP (expectP ts' [59] i) fun _ i => .ok (a, i)) := (expectP_rm hc _ (by decide)).bind fun _ _ _ => .pure _
theorem simpleP_rm : RM q i (simpleP ts i) (simpleP ts' i) := by
  unfold simpleP
  refine (postP_rm hc (i0 := i) (fun j _ => exprT_rm hc j) (Nat.le_refl _)).bind fun x j hj => ?_
  by_cases h1 : x.2 = 1
  · simp only [h1, true_and]
    refine rm_ite1 hc _ (by decide) ((exprT_rm hc _).bind fun _ _ _ => semi_rm hc) ?_
    simp only [show ¬ (1 : Nat) = 2 by decide, show ¬ (1 : Nat) = 3 by decide, false_and, if_false]
    exact rm_err
  · simp only [h1, false_and, if_false]
    by_cases h2 : x.2 = 2
    · simp only [h2, true_and]
      refine rm_ite1 hc _ (by decide) ((exprT_rm hc _).bind fun _ _ _ => semi_rm hc) ?_
      simp only [show ¬ (2 : Nat) = 3 by decide, if_false]
      exact rm_err
    · simp only [h2, false_and, if_false]
      by_cases h3 : x.2 = 3
      · simp only [h3, if_true]; exact semi_rm hc
      · simp only [h3, if_false]; exact rm_err
section
variable {B B' : Nat → PR (List St)} {i0 : Nat} (hB : ∀ j, i0 < j → RM q j (B j) (B' j))
include hB
theorem stmtW_rm (h0 : i0 ≤ i) : RM q i (stmtW ts B i) (stmtW ts' B' i) := by
  unfold stmtW
  refine rm_ite1 hc _ (by decide) ?_ ?_
  · unfold varP
    refine (typedP_rm hc).bind fun _ _ _ => rm_ite1 hc _ (by decide) ((exprT_rm hc _).bind fun _ _ _ => semi_rm hc) (semi_rm hc)
  refine rm_ite1 hc _ (by decide) ?_ ?_
  · unfold ifP
    refine (condP_rm hc).bind fun _ j hj => (hB _ (by omega)).bind fun _ k hk => rm_ite1 hc _ (by decide) ((hB _ (by omega)).bind fun _ _ _ => .pure _) (.pure _)
  refine rm_ite1 hc _ (by decide) ?_ ?_
  · unfold whileP
    exact (condP_rm hc).bind fun _ j hj => (hB _ (by omega)).bind fun _ k hk => .pure _
  refine rm_ite1 hc _ (by decide) ?_ ?_
  · unfold tryP
    exact (hB _ (by omega)).bind fun _ j hj => (expectP_rm hc _ (by decide)).bind fun _ _ _ => (expectP_rm hc _ (by decide)).bind fun _ _ _ => (typedP_rm hc).bind fun _ _ _ => (expectP_rm hc _ (by decide)).bind fun _ k hk => (hB _ (by omega)).bind fun _ _ _ => .pure _
  refine rm_ite1 hc _ (by decide) ?_ ?_
  · unfold throwP
    exact (exprT_rm hc _).bind fun _ _ _ => semi_rm hc
  refine rm_ite1 hc _ (by decide) ?_ (simpleP_rm hc)
  unfold returnP
  exact rm_ite1 hc _ (by decide) (.pure _) ((exprT_rm hc _).bind fun _ _ _ => semi_rm hc)
end
section
variable {S S' : Nat → PR St} {i0 : Nat} (hS : ∀ j, i0 < j → RM q j (S j) (S' j)) (hA : Adv S) (hA' : Adv S')
include hS hA hA'
theorem blockLoop_rm : ∀ n n' acc i, i0 < i → q < i + n → q < i + n' → RM q i (blockLoop ts S n acc i) (blockLoop ts' S' n' acc i) := by
  intro n
  induction n with
  | zero => intro n' acc i _ h _; exact ⟨Nat.le_refl _, fun hi => by omega⟩
  | succ n ih =>
    intro n' acc i h0 h h'
    have key : ∀ m, q < i + 1 + m → RM q i (blockLoop ts S (n + 1) acc i) (blockLoop ts' S' (m + 1) acc i) := fun m hm => by
      unfold blockLoop
      refine rm_ite1 hc _ (by decide) (.pure _) ((hS _ (by omega)).bindA fun x j hj hx => ?_)
      have : i < j := hx.elim (hA _ _ _) (hA' _ _ _)
      exact ih m _ j (by omega) (by omega) (by omega)
    cases n' with
    | zero => exact (key (q + 1) (by omega)).far (by omega)
    | succ m => exact key m (by omega)
theorem blockW_rm (h0 : i0 ≤ i) : RM q i (blockW ts S i) (blockW ts' S' i) := by
  have h1 := hc.le
  have h2 := hc.le'
  unfold blockW
  refine (expectP_rm hc _ (by decide)).bindA fun _ j _ hj => ?_
  obtain rfl : j = i + 1 := hj.elim expectP_adv expectP_adv
  exact blockLoop_rm hc hS hA hA' _ _ _ _ (by omega) (by omega) (by omega)
end
theorem blockP_rm : ∀ f f' i, q < i + f → q < i + f' → RM q i (blockP ts f i) (blockP ts' f' i) := by
  intro f
  induction f with
  | zero => intro f' i h _; exact ⟨Nat.le_refl _, fun hi => by omega⟩
  | succ f ih =>
    intro f' i h h'
    cases f' with
    | zero => exact (blockW_rm hc (S' := stmtW ts' (blockP ts' (q + 1))) (i0 := i) (fun j hj => stmtW_rm hc (i0 := i) (fun k hk => ih (q + 1) k (by omega) (by omega)) (by omega)) (stmtW_adv (blockP_adv _)) (stmtW_adv (blockP_adv _)) (Nat.le_refl _)).far (by omega)
    | succ f' => exact blockW_rm hc (i0 := i) (fun j hj => stmtW_rm hc (i0 := i) (fun k hk => ih f' k (by omega) (by omega)) (by omega)) (stmtW_adv (blockP_adv _)) (stmtW_adv (blockP_adv _)) (Nat.le_refl _)
theorem blockT_rm : RM q i (blockT ts i) (blockT ts' i) := blockP_rm hc _ _ _ (by have := hc.le; omega) (by have := hc.le'; omega)
theorem fieldP_rm : RM q i (fieldP ts i) (fieldP ts' i) := (expectP_rm hc _ (by decide)).bind fun _ _ _ => (typedP_rm hc).bind fun _ _ _ => semi_rm hc
theorem paramsLoop_rm : ∀ n n' acc i, q < i + n → q < i + n' → RM q i (paramsLoop ts n acc i) (paramsLoop ts' n' acc i) := by
  intro n
  induction n with
  | zero => intro n' acc i h _; exact ⟨Nat.le_refl _, fun hi => by omega⟩
  | succ n ih =>
    intro n' acc i h h'
    have key : ∀ m, q < i + 1 + m → RM q i (paramsLoop ts (n + 1) acc i) (paramsLoop ts' (m + 1) acc i) := fun m hm => by
      unfold paramsLoop
      exact rm_ite1 hc _ (by decide) ((typedP_rm hc).bind fun x j hj => ih m _ j (by omega) (by omega)) ((expectP_rm hc _ (by decide)).bind fun _ _ _ => .pure _)
    cases n' with
    | zero => exact (key (q + 1) (by omega)).far (by omega)
    | succ m => exact key m (by omega)
theorem paramsP_rm : RM q i (paramsP ts i) (paramsP ts' i) := by
  have h1 := hc.le
  have h2 := hc.le'
  exact rm_ite1 hc _ (by decide) (.pure _) ((typedP_rm hc).bind fun _ j hj => paramsLoop_rm hc _ _ _ _ (by omega) (by omega))
theorem resultP_rm : RM q i (resultP ts i) (resultP ts' i) := rm_ite1 hc _ (by decide) (typP_rm hc) (.pure _)
theorem methodK_rm (s : Bool) : RM q i (bindP (expectP ts [100, 101, 102] i) fun _ j => bindP (nameP ts j) fun n j => bindP (expectP ts [40] j) fun _ j => bindP (paramsP ts j) fun ps j => bindP (resultP ts j) fun r j => bindP (blockT ts j) fun b j => .ok ((⟨n, s, ps, r, b⟩ : Me), j)) (bindP (expectP ts' [100, 101, 102] i) fun _ j => bindP (nameP ts' j) fun n j => bindP (expectP ts' [40] j) fun _ j => bindP (paramsP ts' j) fun ps j => bindP (resultP ts' j) fun r j => bindP (blockT ts' j) fun b j => .ok ((⟨n, s, ps, r, b⟩ : Me), j)) :=
  (expectP_rm hc _ (by decide)).bind fun _ _ _ => (nameP_rm hc).bind fun _ _ _ => (expectP_rm hc _ (by decide)).bind fun _ _ _ => (paramsP_rm hc).bind fun _ _ _ => (resultP_rm hc).bind fun _ _ _ => (blockT_rm hc).bind fun _ _ _ => .pure _
theorem methodP_rm : RM q i (methodP ts i) (methodP ts' i) := by
  have key : RM q i (if isT ts i [115, 116, 97, 116, 105, 99] then methodP ts i else methodP ts i) (if isT ts' i [115, 116, 97, 116, 105, 99] then methodP ts' i else methodP ts' i) := by
    have h1 := fun i => methodK_rm hc (i := i) true
    have h2 := fun i => methodK_rm hc (i := i) false
    have e1 : isT ts i [115, 116, 97, 116, 105, 99] = true → methodP ts i = _ := fun h => by unfold methodP; rw [h, if_pos rfl]
    have e2 : isT ts i [115, 116, 97, 116, 105, 99] = false → methodP ts i = _ := fun h => by unfold methodP; rw [h, if_neg (by decide)]
    have f1 : isT ts' i [115, 116, 97, 116, 105, 99] = true → methodP ts' i = _ := fun h => by unfold methodP; rw [h, if_pos rfl]
    have f2 : isT ts' i [115, 116, 97, 116, 105, 99] = false → methodP ts' i = _ := fun h => by unfold methodP; rw [h, if_neg (by decide)]
    cases ht : isT ts i [115, 116, 97, 116, 105, 99] with
    | true =>
      simp only [ite_self]
      rw [e1 ht]
      refine ⟨Nat.le_of_lt (h1 (i + 1)).1, fun hi => ?_⟩
      by_cases hlt : i < q
      · rw [f1 (by rw [hc.isT_eq _ hlt]; exact ht)]
        exact (h1 (i + 1)).2 hlt
      · obtain rfl : i = q := by omega
        rw [f2 (hc.isT_q _ (by decide))]
        exact .inr ⟨beyond_of (h1 (i + 1)).1, stuck_of (h2 i).1 ((h2 i).2 hi)⟩
    | false =>
      simp only [Bool.false_eq_true, ite_self]
      rw [e2 ht]
      refine ⟨(h2 i).1, fun hi => ?_⟩
      rw [f2 (by
        by_cases hlt : i < q
        · rw [hc.isT_eq _ hlt]; exact ht
        · obtain rfl : i = q := by omega
          exact hc.isT_q _ (by decide))]
      exact (h2 i).2 hi
  simpa only [ite_self] using key
omit hc in
theorem idx_bind {r : PR α} {k : α → Nat → PR β} (h : ∀ a j, r = .ok (a, j) → j ≤ idx (k a j)) : idx r ≤ idx (bindP r k) := by
  match r, h with
  | .ok (a, j), h => exact h a j rfl
  | .error e, h => exact Nat.le_refl _
omit hc in
theorem expectP_ok {x : Bytes} (ht : isT ts i x = true) : expectP ts x i = .ok ((), i + 1) := by unfold expectP; rw [if_pos ht]
theorem fieldP_pos (ht : isT ts i [118, 97, 114] = true) : i + 1 ≤ idx (fieldP ts i) := by
  have h : RM q (i + 1) (bindP (typedP ts (i + 1)) fun f i => bindP (expectP ts [59] i) fun _ i => .ok (f, i)) (bindP (typedP ts' (i + 1)) fun f i => bindP (expectP ts' [59] i) fun _ i => .ok (f, i)) := (typedP_rm hc).bind fun _ _ _ => semi_rm hc
  unfold fieldP
  rw [expectP_ok ht, bindP_ok]
  exact h.1
theorem fieldsLoop_rm : ∀ n n' acc i, q < i + n → q < i + n' → RM q i (fieldsLoop ts n acc i) (fieldsLoop ts' n' acc i) := by
  intro n
  induction n with
  | zero => intro n' acc i h _; exact ⟨Nat.le_refl _, fun hi => by omega⟩
  | succ n ih =>
    intro n' acc i h h'
    have key : ∀ m, q < i + 1 + m → RM q i (fieldsLoop ts (n + 1) acc i) (fieldsLoop ts' (m + 1) acc i) := fun m hm => by
      unfold fieldsLoop
      have hT : RM q i (bindP (fieldP ts i) fun f j => fieldsLoop ts n (acc ++ [f]) j) (bindP (fieldP ts' i) fun f j => fieldsLoop ts' m (acc ++ [f]) j) := (fieldP_rm hc).bindA fun x j _ hx => ih m _ j (by have : j = i + 5 := hx.elim fieldP_adv fieldP_adv; omega) (by have : j = i + 5 := hx.elim fieldP_adv fieldP_adv; omega)
      refine rm_ite hc _ (by decide) (fun ht => Nat.le_trans (fieldP_pos hc ht) (idx_bind fun x j hx => (ih (q + 1) _ j (by have := fieldP_adv hx; omega) (by omega)).1)) (fun hlt _ => hT.2 (by omega)) (.pure _)
    cases n' with
    | zero => exact (key (q + 1) (by omega)).far (by omega)
    | succ m => exact key m (by omega)
theorem methodP_pos (ht : (isT ts i [115, 116, 97, 116, 105, 99] || isT ts i [100, 101, 102]) = true) : i + 1 ≤ idx (methodP ts i) := by
  cases h1 : isT ts i [115, 116, 97, 116, 105, 99] with
  | true =>
    have := (methodK_rm hc (i := i + 1) true).1
    unfold methodP; rw [h1, if_pos rfl]; exact this
  | false =>
    rw [h1, Bool.false_or] at ht
    have h : RM q (i + 1) (bindP (nameP ts (i + 1)) fun n j => bindP (expectP ts [40] j) fun _ j => bindP (paramsP ts j) fun ps j => bindP (resultP ts j) fun r j => bindP (blockT ts j) fun b j => .ok ((⟨n, false, ps, r, b⟩ : Me), j)) (bindP (nameP ts' (i + 1)) fun n j => bindP (expectP ts' [40] j) fun _ j => bindP (paramsP ts' j) fun ps j => bindP (resultP ts' j) fun r j => bindP (blockT ts' j) fun b j => .ok ((⟨n, false, ps, r, b⟩ : Me), j)) :=
      (nameP_rm hc).bind fun _ _ _ => (expectP_rm hc _ (by decide)).bind fun _ _ _ => (paramsP_rm hc).bind fun _ _ _ => (resultP_rm hc).bind fun _ _ _ => (blockT_rm hc).bind fun _ _ _ => .pure _
    unfold methodP
    rw [h1, if_neg (by decide), expectP_ok ht, bindP_ok]
    exact h.1
theorem methodsLoop_rm : ∀ n n' acc i, q < i + n → q < i + n' → RM q i (methodsLoop ts n acc i) (methodsLoop ts' n' acc i) := by
  intro n
  induction n with
  | zero => intro n' acc i h _; exact ⟨Nat.le_refl _, fun hi => by omega⟩
  | succ n ih =>
    intro n' acc i h h'
    have key : ∀ m, q < i + 1 + m → RM q i (methodsLoop ts (n + 1) acc i) (methodsLoop ts' (m + 1) acc i) := fun m hm => by
      unfold methodsLoop
      have hT : RM q i (bindP (methodP ts i) fun f j => methodsLoop ts n (acc ++ [f]) j) (bindP (methodP ts' i) fun f j => methodsLoop ts' m (acc ++ [f]) j) := (methodP_rm hc).bindA fun x j _ hx => ih m _ j (by have : i < j := hx.elim (methodP_adv _ _ _) (methodP_adv _ _ _); omega) (by have : i < j := hx.elim (methodP_adv _ _ _) (methodP_adv _ _ _); omega)
      have hp : (isT ts i [115, 116, 97, 116, 105, 99] || isT ts i [100, 101, 102]) = true → i + 1 ≤ idx (bindP (methodP ts i) fun f j => methodsLoop ts n (acc ++ [f]) j) := fun ht => Nat.le_trans (methodP_pos hc ht) (idx_bind fun x j hx => (ih (q + 1) _ j (by have := methodP_adv _ _ _ hx; omega) (by omega)).1)
      have e : ∀ (a b : Bool) (T E : PR (List Me)), (if (a || b) = true then T else E) = if a = true then T else if b = true then T else E := by intro a b T E; cases a <;> simp
      rw [e, e]
      refine rm_ite hc _ (by decide) (fun ht => hp (by rw [ht]; rfl)) (fun hlt _ => hT.2 (by omega)) ?_
      exact rm_ite hc _ (by decide) (fun ht => hp (by rw [ht, Bool.or_true])) (fun hlt _ => hT.2 (by omega)) (.pure _)
    cases n' with
    | zero => exact (key (q + 1) (by omega)).far (by omega)
    | succ m => exact key m (by omega)
theorem superP_rm : RM q i (superP ts i) (superP ts' i) := rm_ite1 hc _ (by decide) (nameP_rm hc) (.pure _)
theorem classK_rm : RM q i (bindP (nameP ts i) fun n i => bindP (superP ts i) fun s i => bindP (expectP ts [123] i) fun _ i => bindP (fieldsLoop ts (ts.length + 1) [] i) fun fs i => bindP (methodsLoop ts (ts.length + 1) [] i) fun ms i => bindP (expectP ts [125] i) fun _ i => .ok ((⟨n, s, fs, ms⟩ : Cl), i)) (bindP (nameP ts' i) fun n i => bindP (superP ts' i) fun s i => bindP (expectP ts' [123] i) fun _ i => bindP (fieldsLoop ts' (ts'.length + 1) [] i) fun fs i => bindP (methodsLoop ts' (ts'.length + 1) [] i) fun ms i => bindP (expectP ts' [125] i) fun _ i => .ok ((⟨n, s, fs, ms⟩ : Cl), i)) := by
  have h1 := hc.le
  have h2 := hc.le'
  exact (nameP_rm hc).bind fun _ _ _ => (superP_rm hc).bind fun _ _ _ => (expectP_rm hc _ (by decide)).bind fun _ _ _ => (fieldsLoop_rm hc _ _ _ _ (by omega) (by omega)).bind fun _ _ _ => (methodsLoop_rm hc _ _ _ _ (by omega) (by omega)).bind fun _ _ _ => (expectP_rm hc _ (by decide)).bind fun _ _ _ => .pure _
theorem classP_rm (h : i < q) : RM q i (classP ts i) (classP ts' i) := (expectP_rm_lt hc _ h).bind fun _ _ _ => classK_rm hc
theorem classP_pos (ht : isT ts i [99, 108, 97, 115, 115] = true) : i + 1 ≤ idx (classP ts i) := by
  have h := (classK_rm hc (i := i + 1)).1
  unfold classP
  rw [expectP_ok ht, bindP_ok]
  exact h
theorem classesLoop_rm (htx : (tk ts' q).text = []) : ∀ n n' acc i, q < i + n → q < i + n' → RM q i (classesLoop ts n acc i) (classesLoop ts' n' acc i) := by
  intro n
  induction n with
  | zero => intro n' acc i h _; exact ⟨Nat.le_refl _, fun hi => by omega⟩
  | succ n ih =>
    intro n' acc i h h'
    have key : ∀ m, q < i + 1 + m → RM q i (classesLoop ts (n + 1) acc i) (classesLoop ts' (m + 1) acc i) := fun m hm => by
      unfold classesLoop
      have hT : i < q → RM q i (bindP (classP ts i) fun f j => classesLoop ts n (acc ++ [f]) j) (bindP (classP ts' i) fun f j => classesLoop ts' m (acc ++ [f]) j) := fun hlt => (classP_rm hc hlt).bindA fun x j _ hx => ih m _ j (by have : i < j := hx.elim (classP_adv _ _ _) (classP_adv _ _ _); omega) (by have : i < j := hx.elim (classP_adv _ _ _) (classP_adv _ _ _); omega)
      refine rm_iteq hc _ (by unfold isT; rw [htx]; rfl) (fun ht => Nat.le_trans (classP_pos hc ht) (idx_bind fun x j hx => (ih (q + 1) _ j (by have := classP_adv _ _ _ hx; omega) (by omega)).1)) (fun hlt _ => (hT hlt).2 (by omega)) (.pure _)
    cases n' with
    | zero => exact (key (q + 1) (by omega)).far (by omega)
    | succ m => exact key m (by omega)
theorem programP_rm (htx : (tk ts' q).text = []) : RM q 0 (programP ts 0) (programP ts' 0) := classesLoop_rm hc htx _ _ _ _ (by have := hc.le; omega) (by have := hc.le'; omega)
end
end Lx
end Go.Proofs.YthjonkommphkkaaDoor
namespace Go.Proofs.YthjonkommphkkaaDoor
open Lx
namespace Lx
theorem self_cut {ts : List Tok} (hT : TWF ts) : Cut ts ts (ts.length - 1) := by
  have h1 := hT.kind
  have h2 := hT.text
  exact ⟨fun _ _ => rfl, by rw [h1]; decide, by rw [h1]; decide, .inl h2, by omega, by omega⟩
theorem idx_lt {α : Type} {q : Nat} {r : PR α} (h : Rel q r r) : idx r ≤ q := by
  rcases h with ⟨_, h⟩ | ⟨_, h⟩
  · match r, h with
    | .ok (a, j), h => exact h
    | .error e, h => exact Nat.le_of_lt h
  · rcases h with rfl | ⟨a, rfl⟩
    · exact Nat.le_refl _
    · exact Nat.le_refl _
theorem programP_lt {ts : List Tok} (hT : TWF ts) : idx (programP ts 0) < ts.length := by
  have h := (programP_rm (self_cut hT) hT.text).2 (by omega)
  have := idx_lt h
  have := hT.pos
  omega
theorem firstLim_0 {α : Type} {f : α → Nat} {l : List α} (h : firstLim f l = 0) : ∀ x ∈ l, f x = 0 := by
  induction l with
  | nil => intro x hx; cases hx
  | cons y l ih =>
    rw [firstLim] at h
    split at h
    · rename_i h1; exact absurd h h1
    · rename_i h1
      intro x hx
      rcases List.mem_cons.1 hx with rfl | hx
      · simpa using h1
      · exact ih h x hx
/-- What is known of what a text parses as. -/
theorem programR_sz {l : Bytes} {x : List Cl} (h : programR l = .ok x) : x.length ≤ 64 ∧ ∀ c ∈ x, (∀ m ∈ c.methods, stsSz m.body ≤ 1000000 ∧ m.params.length ≤ 1000000) ∧ c.fields.length ≤ 16 ∧ c.methods.length ≤ 16 := by
  unfold programR readR at h
  cases ht : tokensOf l with
  | error y => rw [ht] at h; cases h
  | ok ts =>
    rw [ht] at h
    simp only at h
    have hT := twf_of ht
    have hlen := hT.len
    cases hp : programP ts 0 with
    | error q => rw [hp] at h; simp only at h; cases h
    | ok y =>
      obtain ⟨y, j⟩ := y
      rw [hp] at h
      simp only at h
      by_cases hk : (tk ts j).kind = 5
      · rw [if_pos hk] at h
        simp only at h
        split at h
        · cases h
        · rename_i h0
          cases h
          have h0 : sourceLim x = 0 := by simpa using h0
          have hsz := programP_siz hp
          have hin := programP_lt hT
          rw [hp] at hin
          simp only [idx] at hin
          unfold sourceLim at h0
          split at h0
          · cases h0
          · rename_i h64
            refine ⟨by omega, fun c hc => ?_⟩
            have hcl := firstLim_0 h0 c hc
            unfold classLim at hcl
            split at hcl
            · cases hcl
            · rename_i h16
              exact ⟨fun m hm => by have := hsz c hc m hm; exact ⟨by have := this.1; omega, by have := this.2; omega⟩, by omega, by omega⟩
      · rw [if_neg hk] at h; cases h
end Lx
end Go.Proofs.YthjonkommphkkaaDoor
namespace Go.Proofs.YthjonkommphkkaaDoor
namespace Lx
def plNum (n : Int) : Bytes := if n < 0 then [45, 32] ++ digitsOf 20 n.natAbs else digitsOf 20 n.natAbs
mutual
def plE : Ex → Bytes
  | .mk k n o m ks =>
    if k = 1 then plNum n else if k = 2 then [110, 117, 108, 108] else if k = 4 then [116, 104, 105, 115] else if k = 5 then [105, 110, 112, 117, 116, 40, 41]
    else if k = 6 then [40] ++ plAt ks 0 ++ ([32] ++ opText n ++ [32]) ++ plAt ks 1 ++ [41]
    else if k = 7 then [110, 101, 119, 32] ++ m ++ [40, 41]
    else if k = 8 then plAt ks 0 ++ [46] ++ m
    else if k = 9 then plAt ks 0 ++ [46] ++ m ++ [40] ++ plFrom ks 1 ++ [41]
    else if k = 10 then o ++ [58, 58] ++ m ++ [40] ++ plFrom ks 0 ++ [41]
    else m
/-- The text of kid i. -/
def plAt : List Ex → Nat → Bytes
  | [], _ => []
  | e :: _, 0 => plE e
  | _ :: l, i + 1 => plAt l i
/-- The texts of the kids from i on, with commas between them. -/
def plFrom : List Ex → Nat → Bytes
  | l, 0 => plSep l
  | [], _ => []
  | _ :: l, i + 1 => plFrom l i
def plSep : List Ex → Bytes
  | [] => []
  | [e] => plE e
  | e :: l => plE e ++ [44, 32] ++ plSep l
end
def plX (es : List Ex) (i : Nat) : Bytes := match es[i]? with
  | some e => plE e
  | none => []
mutual
def plS : St → Bytes
  | .mk k nm ty es b el =>
    if k = 1 then [118, 97, 114, 32] ++ nm ++ [58, 32] ++ ty ++ (if plX es 0 = [] then [] else [32, 61, 32] ++ plX es 0) ++ [59, 32]
    else if k = 2 then nm ++ [32, 61, 32] ++ plX es 0 ++ [59, 32]
    else if k = 3 then plX es 0 ++ [46] ++ nm ++ [32, 61, 32] ++ plX es 1 ++ [59, 32]
    else if k = 4 then [105, 102, 32, 40] ++ plX es 0 ++ [41, 32] ++ ([123, 32] ++ plSs b ++ [125, 32]) ++ [101, 108, 115, 101, 32] ++ ([123, 32] ++ plSs el ++ [125, 32])
    else if k = 5 then [119, 104, 105, 108, 101, 32, 40] ++ plX es 0 ++ [41, 32] ++ ([123, 32] ++ plSs b ++ [125, 32])
    else if k = 6 then [116, 114, 121, 32] ++ ([123, 32] ++ plSs b ++ [125, 32]) ++ [99, 97, 116, 99, 104, 32, 40] ++ nm ++ [58, 32] ++ ty ++ [41, 32] ++ ([123, 32] ++ plSs el ++ [125, 32])
    else if k = 7 then [116, 104, 114, 111, 119, 32] ++ plX es 0 ++ [59, 32]
    else if k = 8 then [114, 101, 116, 117, 114, 110, 32] ++ plX es 0 ++ [59, 32]
    else plX es 0 ++ [59, 32]
def plSs : List St → Bytes
  | [] => []
  | s :: l => plS s ++ plSs l
end
def plB (l : List St) : Bytes := [123, 32] ++ plSs l ++ [125, 32]
def plM (m : Me) : Bytes := (if m.static then [115, 116, 97, 116, 105, 99, 32] else []) ++ [100, 101, 102, 32] ++ m.name ++ [40] ++ parText m.params ++ [41, 32] ++ (if m.result = [] then [] else [58, 32] ++ m.result ++ [32]) ++ plB m.body
def plC (c : Cl) : Bytes := [99, 108, 97, 115, 115, 32] ++ c.name ++ (if c.super = [] then [] else [32, 101, 120, 116, 101, 110, 100, 115, 32] ++ c.super) ++ [32, 123, 32] ++ (c.fields.flatMap fun f => [118, 97, 114, 32] ++ fldText f ++ [59, 32]) ++ (c.methods.flatMap plM) ++ [125, 10]
def plP (l : List Cl) : Bytes := l.flatMap plC
end Lx
end Go.Proofs.YthjonkommphkkaaDoor
