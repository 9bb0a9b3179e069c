/-
  Plain Lean: the reference's parser as functions of its state; they do what the rules of ParSpec do.
-/
import Derived.Test.YthjonkommphkkaaGreatDoorJpBf
set_option linter.unusedSectionVars false
set_option linter.unusedSimpArgs false
set_option linter.unnecessarySimpa false
set_option linter.unusedVariables false
namespace Go.Proofs.YthjonkommphkkaaGreatDoor
open Lx
namespace Lx
def exZ : Ex := .mk 0 0 [] [] []
def stZ : St := .mk 0 [] [] [] [] []
section
variable (ts : List Tok)
def qName (σ : RS) : Bytes × RS := if σ.bad = false ∧ (tk ts σ.i).kind = 1 then ((tk ts σ.i).text, ⟨σ.i + 1, false⟩) else ([], ⟨σ.i, true⟩)
def qTyp (σ : RS) : Bytes × RS := if atB ts σ [105, 110, 116] then ([105, 110, 116], ⟨σ.i + 1, false⟩) else qName ts σ
section
variable (E : RS → Ex × RS)
def qListLoop : Nat → List Ex → RS → List Ex × RS
  | 0, acc, σ => (acc, ⟨σ.i, true⟩)
  | n + 1, acc, σ => if atB ts σ [44] then qListLoop n (acc ++ [(E ⟨σ.i + 1, false⟩).1]) (E ⟨σ.i + 1, false⟩).2 else (acc, mustS ts σ [41])
def qList1 (first : List Ex) (σ : RS) : List Ex × RS := if atB ts σ [41] then (first, ⟨σ.i + 1, false⟩) else if σ.bad = true then (first, σ) else qListLoop ts E (ts.length + 1) (first ++ [(E σ).1]) (E σ).2
def qList (first : List Ex) (σ : RS) : List Ex × RS := qList1 ts E first (mustS ts σ [40])
def qUnit (σ : RS) : RS := mustS ts (mustS ts σ [40]) [41]
def qMinus (i : Nat) : Ex × RS := if (tk ts i).kind = 3 ∧ (tk ts i).n ≠ 0 then (.mk 1 (-((tk ts i).n : Int)) [] [] [], ⟨i + 1, false⟩) else (exZ, ⟨i, true⟩)
def qNamed1 (n : Bytes) (σ : RS) : Ex × RS := if atB ts σ [58, 58] then (.mk 10 0 n (qName ts ⟨σ.i + 1, false⟩).1 (qList ts E [] (qName ts ⟨σ.i + 1, false⟩).2).1, (qList ts E [] (qName ts ⟨σ.i + 1, false⟩).2).2) else (.mk 3 0 [] n [], σ)
def qNamed (σ : RS) : Ex × RS := qNamed1 ts E (qName ts σ).1 (qName ts σ).2
def qAtom (σ : RS) : Ex × RS :=
  if σ.bad = true then (exZ, σ)
  else if atB ts σ [45] then qMinus ts (σ.i + 1)
  else if (tk ts σ.i).kind = 3 then (.mk 1 (tk ts σ.i).n [] [] [], ⟨σ.i + 1, false⟩)
  else if atB ts σ [110, 117, 108, 108] then (.mk 2 0 [] [] [], ⟨σ.i + 1, false⟩)
  else if atB ts σ [116, 104, 105, 115] then (.mk 4 0 [] [] [], ⟨σ.i + 1, false⟩)
  else if atB ts σ [105, 110, 112, 117, 116] then (.mk 5 0 [] [] [], qUnit ts ⟨σ.i + 1, false⟩)
  else if atB ts σ [110, 101, 119] then (.mk 7 0 [] (qName ts ⟨σ.i + 1, false⟩).1 [], qUnit ts (qName ts ⟨σ.i + 1, false⟩).2)
  else if atB ts σ [40] then ((E ⟨σ.i + 1, false⟩).1, mustS ts (E ⟨σ.i + 1, false⟩).2 [41])
  else qNamed ts E σ
/-- Behind a dot: the name, and the list of what is called. -/
def qDot (e : Ex) (n : Bytes) (σ : RS) : Ex × RS := if atB ts σ [40] then (.mk 9 0 [] n (qList ts E [e] σ).1, (qList ts E [e] σ).2) else (.mk 8 0 [] n [e], σ)
def qPostLoop : Nat → Ex → RS → Ex × RS
  | 0, e, σ => (e, ⟨σ.i, true⟩)
  | k + 1, e, σ => if atB ts σ [46] then qPostLoop k (qDot ts E e (qName ts ⟨σ.i + 1, false⟩).1 (qName ts ⟨σ.i + 1, false⟩).2).1 (qDot ts E e (qName ts ⟨σ.i + 1, false⟩).1 (qName ts ⟨σ.i + 1, false⟩).2).2 else (e, σ)
def qPost (σ : RS) : Ex × RS := qPostLoop ts E (ts.length + 1) (qAtom ts E σ).1 (qAtom ts E σ).2
def qProdLoop : Nat → Ex → RS → Ex × RS
  | 0, e, σ => (e, ⟨σ.i, true⟩)
  | k + 1, e, σ => if atB ts σ [42] then qProdLoop k (binE 3 e (qPost ts E ⟨σ.i + 1, false⟩).1) (qPost ts E ⟨σ.i + 1, false⟩).2 else (e, σ)
def qProd (σ : RS) : Ex × RS := qProdLoop ts E (ts.length + 1) (qPost ts E σ).1 (qPost ts E σ).2
def qSumLoop : Nat → Ex → RS → Ex × RS
  | 0, e, σ => (e, ⟨σ.i, true⟩)
  | k + 1, e, σ => if atB ts σ [43] then qSumLoop k (binE 1 e (qProd ts E ⟨σ.i + 1, false⟩).1) (qProd ts E ⟨σ.i + 1, false⟩).2
    else if atB ts σ [45] then qSumLoop k (binE 2 e (qProd ts E ⟨σ.i + 1, false⟩).1) (qProd ts E ⟨σ.i + 1, false⟩).2 else (e, σ)
def qSum (σ : RS) : Ex × RS := qSumLoop ts E (ts.length + 1) (qProd ts E σ).1 (qProd ts E σ).2
def qExpr1 (e : Ex) (σ : RS) : Ex × RS := if atB ts σ [60] then (binE 4 e (qSum ts E ⟨σ.i + 1, false⟩).1, (qSum ts E ⟨σ.i + 1, false⟩).2)
  else if atB ts σ [61, 61] then (binE 5 e (qSum ts E ⟨σ.i + 1, false⟩).1, (qSum ts E ⟨σ.i + 1, false⟩).2) else (e, σ)
def qExprW (σ : RS) : Ex × RS := qExpr1 ts E (qSum ts E σ).1 (qSum ts E σ).2
end
def qExpr : Nat → RS → Ex × RS
  | 0, σ => (exZ, ⟨σ.i, true⟩)
  | f + 1, σ => qExprW ts (qExpr f) σ
def qE (σ : RS) : Ex × RS := qExpr ts (ts.length + 1) σ
/-- A statement that begins with a post. -/
def qOther1 (op whole : Bool) (e : Ex) (σ : RS) : St × RS :=
  if e.kind = 3 ∧ op = false ∧ atB ts σ [61] = true then (.mk 2 e.name [] [(qE ts ⟨σ.i + 1, false⟩).1] [] [], mustS ts (qE ts ⟨σ.i + 1, false⟩).2 [59])
  else if e.kind = 8 ∧ whole = false ∧ atB ts σ [61] = true then (.mk 3 e.name [] [e.kids.headD exZ, (qE ts ⟨σ.i + 1, false⟩).1] [] [], mustS ts (qE ts ⟨σ.i + 1, false⟩).2 [59])
  else if (e.kind = 9 ∨ e.kind = 10) ∧ whole = false ∧ atB ts σ [59] = true then (.mk 9 [] [] [e] [] [], ⟨σ.i + 1, false⟩)
  else (stZ, ⟨σ.i, true⟩)
def qP (σ : RS) : Ex × RS := qPost ts (qExpr ts (ts.length + 1)) σ
def qOther (σ : RS) : St × RS := if (qP ts σ).2.bad = true then (stZ, (qP ts σ).2) else qOther1 ts (atB ts σ [40]) (atB ts σ [40] && closeF ts ((qP ts σ).2.i - σ.i) 0 σ.i) (qP ts σ).1 (qP ts σ).2
section
variable (B : RS → List St × RS)
def qVar3 (n t : Bytes) (σ : RS) : St × RS := if atB ts σ [61] then (.mk 1 n t [(qE ts ⟨σ.i + 1, false⟩).1] [] [], mustS ts (qE ts ⟨σ.i + 1, false⟩).2 [59]) else (.mk 1 n t [] [] [], mustS ts σ [59])
def qVar2 (n : Bytes) (σ : RS) : St × RS := qVar3 ts n (qTyp ts σ).1 (qTyp ts σ).2
def qVar (σ : RS) : St × RS := qVar2 ts (qName ts σ).1 (mustS ts (qName ts σ).2 [58])
def qCond (σ : RS) : Ex × RS := ((qE ts (mustS ts σ [40])).1, mustS ts (qE ts (mustS ts σ [40])).2 [41])
def qIf2 (c : Ex) (b : List St) (σ : RS) : St × RS := if atB ts σ [101, 108, 115, 101] then (.mk 4 [] [] [c] b (B ⟨σ.i + 1, false⟩).1, (B ⟨σ.i + 1, false⟩).2) else (.mk 4 [] [] [c] b [], σ)
def qIf (σ : RS) : St × RS := qIf2 ts B (qCond ts σ).1 (B (qCond ts σ).2).1 (B (qCond ts σ).2).2
def qWhile (σ : RS) : St × RS := (.mk 5 [] [] [(qCond ts σ).1] (B (qCond ts σ).2).1 [], (B (qCond ts σ).2).2)
def qTry3 (b : List St) (n t : Bytes) (σ : RS) : St × RS := (.mk 6 n t [] b (B (mustS ts σ [41])).1, (B (mustS ts σ [41])).2)
def qTry2 (b : List St) (n : Bytes) (σ : RS) : St × RS := qTry3 ts B b n (qTyp ts (mustS ts σ [58])).1 (qTyp ts (mustS ts σ [58])).2
def qTry1 (b : List St) (σ : RS) : St × RS := qTry2 ts B b (qName ts (mustS ts (mustS ts σ [99, 97, 116, 99, 104]) [40])).1 (qName ts (mustS ts (mustS ts σ [99, 97, 116, 99, 104]) [40])).2
def qTry (σ : RS) : St × RS := qTry1 ts B (B σ).1 (B σ).2
def qThrow (σ : RS) : St × RS := (.mk 7 [] [] [(qE ts σ).1] [] [], mustS ts (qE ts σ).2 [59])
def qReturn (σ : RS) : St × RS := if atB ts σ [59] then (.mk 8 [] [] [] [] [], ⟨σ.i + 1, false⟩) else (.mk 8 [] [] [(qE ts σ).1] [] [], mustS ts (qE ts σ).2 [59])
def qStmtW (σ : RS) : St × RS :=
  if atB ts σ [118, 97, 114] then qVar ts ⟨σ.i + 1, false⟩
  else if atB ts σ [105, 102] then qIf ts B ⟨σ.i + 1, false⟩
  else if atB ts σ [119, 104, 105, 108, 101] then qWhile ts B ⟨σ.i + 1, false⟩
  else if atB ts σ [116, 114, 121] then qTry ts B ⟨σ.i + 1, false⟩
  else if atB ts σ [116, 104, 114, 111, 119] then qThrow ts ⟨σ.i + 1, false⟩
  else if atB ts σ [114, 101, 116, 117, 114, 110] then qReturn ts ⟨σ.i + 1, false⟩
  else qOther ts σ
end
section
variable (S : RS → St × RS)
def qBlockLoop : Nat → List St → RS → List St × RS
  | 0, acc, σ => (acc, ⟨σ.i, true⟩)
  | n + 1, acc, σ => if σ.bad = true then (acc, σ) else if atB ts σ [125] then (acc, ⟨σ.i + 1, false⟩) else qBlockLoop n (acc ++ [(S σ).1]) (S σ).2
def qBlockW (σ : RS) : List St × RS := qBlockLoop ts S (ts.length + 1) [] (mustS ts σ [123])
end
def qBlock : Nat → RS → List St × RS
  | 0, σ => ([], ⟨σ.i, true⟩)
  | f + 1, σ => qBlockW ts (qStmtW ts (qBlock f)) σ
def qB (σ : RS) : List St × RS := qBlock ts (ts.length + 1) σ
def qTyped2 (n : Bytes) (σ : RS) : Fld × RS := (⟨n, (qTyp ts σ).1⟩, (qTyp ts σ).2)
def qParam (σ : RS) : Fld × RS := qTyped2 ts (qName ts σ).1 (mustS ts (qName ts σ).2 [58])
def qField (σ : RS) : Fld × RS := ((qParam ts (mustS ts σ [118, 97, 114])).1, mustS ts (qParam ts (mustS ts σ [118, 97, 114])).2 [59])
def qParamsLoop : Nat → List Fld → RS → List Fld × RS
  | 0, acc, σ => (acc, ⟨σ.i, true⟩)
  | n + 1, acc, σ => if atB ts σ [44] then qParamsLoop n (acc ++ [(qParam ts ⟨σ.i + 1, false⟩).1]) (qParam ts ⟨σ.i + 1, false⟩).2 else (acc, mustS ts σ [41])
def qParams (σ : RS) : List Fld × RS := if atB ts σ [41] then ([], ⟨σ.i + 1, false⟩) else if σ.bad = true then ([], σ) else qParamsLoop ts (ts.length + 1) [(qParam ts σ).1] (qParam ts σ).2
def qResult (σ : RS) : Bytes × RS := if atB ts σ [58] then qTyp ts ⟨σ.i + 1, false⟩ else ([], σ)
def qMe4 (st : Bool) (n : Bytes) (ps : List Fld) (r : Bytes) (σ : RS) : Me × RS := (⟨n, st, ps, r, (qB ts σ).1⟩, (qB ts σ).2)
def qMe3 (st : Bool) (n : Bytes) (ps : List Fld) (σ : RS) : Me × RS := qMe4 ts st n ps (qResult ts σ).1 (qResult ts σ).2
def qMe2 (st : Bool) (n : Bytes) (σ : RS) : Me × RS := qMe3 ts st n (qParams ts σ).1 (qParams ts σ).2
def qMe1 (st : Bool) (σ : RS) : Me × RS := qMe2 ts st (qName ts (mustS ts σ [100, 101, 102])).1 (mustS ts (qName ts (mustS ts σ [100, 101, 102])).2 [40])
def qMethod (σ : RS) : Me × RS := qMe1 ts (atB ts σ [115, 116, 97, 116, 105, 99]) (skipS ts σ [115, 116, 97, 116, 105, 99])
def qFieldsLoop : Nat → List Fld → RS → List Fld × RS
  | 0, acc, σ => (acc, ⟨σ.i, true⟩)
  | n + 1, acc, σ => if atB ts σ [118, 97, 114] then qFieldsLoop n (acc ++ [(qField ts σ).1]) (qField ts σ).2 else (acc, σ)
def qMethodsLoop : Nat → List Me → RS → List Me × RS
  | 0, acc, σ => (acc, ⟨σ.i, true⟩)
  | n + 1, acc, σ => if atB ts σ [115, 116, 97, 116, 105, 99] || atB ts σ [100, 101, 102] then qMethodsLoop n (acc ++ [(qMethod ts σ).1]) (qMethod ts σ).2 else (acc, σ)
def qSuper (σ : RS) : Bytes × RS := if atB ts σ [101, 120, 116, 101, 110, 100, 115] then qName ts ⟨σ.i + 1, false⟩ else ([], σ)
def qCl4 (n s : Bytes) (fs : List Fld) (σ : RS) : Cl × RS := (⟨n, s, fs, (qMethodsLoop ts (ts.length + 1) [] σ).1⟩, mustS ts (qMethodsLoop ts (ts.length + 1) [] σ).2 [125])
def qCl3 (n s : Bytes) (σ : RS) : Cl × RS := qCl4 ts n s (qFieldsLoop ts (ts.length + 1) [] σ).1 (qFieldsLoop ts (ts.length + 1) [] σ).2
def qCl2 (n : Bytes) (σ : RS) : Cl × RS := qCl3 ts n (qSuper ts σ).1 (mustS ts (qSuper ts σ).2 [123])
def qClass (σ : RS) : Cl × RS := qCl2 ts (qName ts (mustS ts σ [99, 108, 97, 115, 115])).1 (qName ts (mustS ts σ [99, 108, 97, 115, 115])).2
end
/-! they do what the rules do -/
/-- A function of the state that does what a rule does. -/
def Does {α : Type} (q : RS → α × RS) (s : Nat → PR α) : Prop := ∀ σ, Stp s σ (q σ).1 (q σ).2
section
variable {ts : List Tok}
theorem stp_err {α : Type} {s : Nat → PR α} {σ : RS} {x : α} (h : σ.bad = false → s σ.i = .error σ.i) : Stp s σ x ⟨σ.i, true⟩ := by
  cases hb : σ.bad
  · exact .inr ⟨hb, by rw [h hb]⟩
  · refine .inl ⟨hb, ?_⟩
    obtain ⟨i, b⟩ := σ
    simp at hb; simp [hb]
theorem Stp.next {α : Type} {A : Nat → PR α} {i : Nat} {x : α} {σ2 : RS} (h : Stp A ⟨i + 1, false⟩ x σ2) : Stp (fun i => A (i + 1)) ⟨i, false⟩ x σ2 := by
  rcases h with ⟨h, _⟩ | ⟨_, h⟩
  · cases h
  · exact .inr ⟨rfl, h⟩
theorem Stp.at {α : Type} {A : Nat → PR α} {σ : RS} {x : α} {σ2 : RS} (hb : σ.bad = false) (h : Stp A ⟨σ.i + 1, false⟩ x σ2) : Stp (fun i => A (i + 1)) σ x σ2 := by
  obtain ⟨i, b⟩ := σ
  obtain rfl : b = false := hb
  exact h.next
theorem does_name : Does (qName ts) (nameP ts) := by
  intro σ
  unfold qName
  split
  · rename_i h
    exact .inr ⟨h.1, by unfold nameP; rw [if_pos h.2]; exact ⟨rfl, rfl⟩⟩
  · rename_i h
    exact stp_err fun hb => by unfold nameP; rw [if_neg (fun hk => h ⟨hb, hk⟩)]
theorem does_ok {α : Type} (a : α) (σ : RS) (hb : σ.bad = false) : Stp (fun i => (.ok (a, i + 1) : PR α)) σ a ⟨σ.i + 1, false⟩ := .inr ⟨hb, rfl, rfl⟩
theorem does_typ : Does (qTyp ts) (typP ts) := by
  intro σ
  unfold qTyp
  split
  · rename_i h
    exact Stp.skipT (A := fun i => .ok (_, i)) h (Stp.pure _ _)
  · rename_i h
    exact Stp.skipF (by simpa using h) (does_name σ)
section
variable {E : RS → Ex × RS} {E' : Nat → PR Ex} (hE : Does E E')
include hE
theorem does_listLoop : ∀ n acc, Does (qListLoop ts E n acc) (argsLoop ts E' n acc) := by
  intro n
  induction n with
  | zero => intro acc σ; exact stp_err fun _ => rfl
  | succ n ih =>
    intro acc σ
    unfold qListLoop
    split
    · rename_i h
      exact Stp.skipT (A := fun i => bindP (E' i) fun e j => argsLoop ts E' n (acc ++ [e]) j) h ((hE _).bind (ih _ _))
    · rename_i h
      exact Stp.skipF (A := fun i => bindP (E' (i + 1)) fun e j => argsLoop ts E' n (acc ++ [e]) j) (by simpa using h) ((stp_must ts σ [41]).bind (k := fun _ j => .ok (acc, j)) (Stp.pure _ _))
theorem does_list : Does (qList ts E []) (argsP ts E') := by
  intro σ
  unfold qList
  refine (stp_must ts σ [40]).bind (k := fun _ i => if isT ts i [41] then .ok ([], i + 1) else bindP (E' i) fun e j => argsLoop ts E' (ts.length + 1) [e] j) ?_
  unfold qList1
  split
  · rename_i h
    exact Stp.skipT (A := fun i => .ok ([], i)) h (Stp.pure _ _)
  · rename_i h
    refine Stp.skipF (A := fun i => .ok ([], i + 1)) (by simpa using h) ?_
    split
    · rename_i hb; exact .isBad hb rfl
    · exact (hE _).bind (does_listLoop hE _ _ _)
/-- A list that begins with one. -/
theorem listLoop_pre (e : Ex) : ∀ n acc σ, qListLoop ts E n (e :: acc) σ = (e :: (qListLoop ts E n acc σ).1, (qListLoop ts E n acc σ).2) := by
  intro n
  induction n with
  | zero => intro acc σ; rfl
  | succ n ih =>
    intro acc σ
    simp only [qListLoop]
    split
    · rw [show e :: acc ++ [(E ⟨σ.i + 1, false⟩).1] = e :: (acc ++ [(E ⟨σ.i + 1, false⟩).1]) from rfl, ih]
    · rfl
theorem list_pre (e : Ex) (σ : RS) : qList ts E [e] σ = (e :: (qList ts E [] σ).1, (qList ts E [] σ).2) := by
  unfold qList qList1
  split
  · rfl
  · split
    · rfl
    · rw [show [e] ++ [(E (mustS ts σ [40])).1] = e :: ([] ++ [(E (mustS ts σ [40])).1]) from rfl, listLoop_pre hE]
omit hE
theorem does_unit (e : Ex) (σ : RS) : Stp (fun i => unitP ts i e) σ (e, 0) (qUnit ts σ) :=
  (stp_must ts σ [40]).bind (k := fun _ i => bindP (expectP ts [41] i) fun _ i => .ok ((e, 0), i)) ((stp_must ts _ [41]).bind (k := fun _ i => .ok ((e, 0), i)) (Stp.pure _ _))
theorem Stp.fst {α β : Type} {s : Nat → PR (α × β)} {σ σ2 : RS} {x : α} {y : β} (h : Stp s σ (x, y) σ2) : Stp (fun i => fstP (s i)) σ x σ2 := by
  have := Stp.bind (k := fun (p : α × β) j => (.ok (p.1, j) : PR α)) h (Stp.pure x σ2)
  exact this
include hE
theorem does_named : Does (qNamed ts E) (fun i => fstP (namedP ts E' i)) := by
  intro σ
  unfold qNamed
  refine Stp.cond (s := fun i => bindP (nameP ts i) fun n i => if isT ts i [58, 58] then bindP (nameP ts (i + 1)) fun m i => bindP (argsP ts E' i) fun ks i => .ok (Ex.mk 10 0 n m ks, i) else .ok (.mk 3 0 [] n [], i)) ((does_name σ).bind ?_) fun _ => ?_
  · unfold qNamed1
    split
    · rename_i h
      refine Stp.skipT (A := fun i => bindP (nameP ts i) fun m i => bindP (argsP ts E' i) fun ks i => .ok (Ex.mk 10 0 _ m ks, i)) h ?_
      exact (does_name _).bind ((does_list hE _).bind (k := fun ks i => .ok (Ex.mk 10 0 _ _ ks, i)) (Stp.pure _ _))
    · rename_i h
      exact Stp.skipF (A := fun i => bindP (nameP ts (i + 1)) fun m i => bindP (argsP ts E' i) fun ks i => .ok (Ex.mk 10 0 _ m ks, i)) (by simpa using h) (Stp.pure _ _)
  · simp only [namedP]
    rw [fstP_bind]
    congr 1
    funext n i
    split
    · rw [fstP_bind]; congr 1; funext m i; rw [fstP_bind]; rfl
    · rfl
theorem does_atom (hT : TWR ts) : Does (qAtom ts E) (fun i => fstP (atomP ts E' i)) := by
  intro σ
  unfold qAtom
  have nk : ∀ {x : Bytes}, x ∈ kmList → atB ts σ x = true → (tk ts σ.i).kind ≠ 1 ∧ (tk ts σ.i).kind ≠ 3 := fun hx h => by
    have := hT.km _ _ hx (atB_true h).2; omega
  by_cases hb : σ.bad = true
  · rw [if_pos hb]; exact .isBad hb rfl
  rw [if_neg hb]
  have hb : σ.bad = false := by simpa using hb
  have go : ∀ {s : Nat → PR Ex} {x : Ex} {σ2 : RS}, Stp s σ x σ2 → fstP (atomP ts E' σ.i) = s σ.i → Stp (fun i => fstP (atomP ts E' i)) σ x σ2 := fun h e => h.cond fun _ => e
  have no : ∀ {x : Bytes}, ¬ atB ts σ x = true → isT ts σ.i x = false := fun h => by rw [← atB_good hb]; simpa using h
  have ys : ∀ {x : Bytes}, atB ts σ x = true → isT ts σ.i x = true := fun h => (atB_true h).2
  have df : ∀ {x y : Bytes}, atB ts σ x = true → x ≠ y → isT ts σ.i y = false := fun {x y} h hne => by
    have := ys h
    unfold isT at this ⊢
    rw [eq_of_beq this]; exact beq_eq_false_iff_ne.2 hne
  split
  · rename_i h
    obtain ⟨n1, n3⟩ := nk (by decide) h
    refine go (s := fun i => fstP (minusP ts (i + 1))) (Stp.at (A := fun i => fstP (minusP ts i)) hb ?_) (by simp only [atomP, n1, n3, ys h, if_true, if_false])
    unfold qMinus
    split
    · rename_i hm
      exact .inr ⟨rfl, by simp only [minusP, if_pos hm, fstP_ok, and_self]⟩
    · rename_i hm
      exact .inr ⟨rfl, by simp only [minusP, if_neg hm, fstP_error]⟩
  rename_i h0
  split
  · rename_i hk
    exact go (does_ok _ _ hb) (by simp only [atomP, hk, show ¬ (3 : Nat) = 1 by decide, if_true, if_false, fstP_ok])
  rename_i hk3
  split
  · rename_i h
    obtain ⟨n1, n3⟩ := nk (by decide) h
    exact go (does_ok _ _ hb) (by simp only [atomP, n1, n3, no h0, ys h, if_true, if_false, fstP_ok, Bool.false_eq_true])
  rename_i h1
  split
  · rename_i h
    obtain ⟨n1, n3⟩ := nk (by decide) h
    exact go (does_ok _ _ hb) (by simp only [atomP, n1, n3, no h0, no h1, ys h, if_true, if_false, fstP_ok, Bool.false_eq_true])
  rename_i h2
  split
  · rename_i h
    obtain ⟨n1, n3⟩ := nk (by decide) h
    exact go (s := fun i => fstP (unitP ts (i + 1) (.mk 5 0 [] [] []))) (Stp.at (A := fun i => fstP (unitP ts i (.mk 5 0 [] [] []))) hb (does_unit _ _).fst) (by simp only [atomP, n1, n3, no h0, no h1, no h2, ys h, if_true, if_false, Bool.false_eq_true])
  rename_i h3
  split
  · rename_i h
    obtain ⟨n1, n3⟩ := nk (by decide) h
    refine go (s := fun i => bindP (nameP ts (i + 1)) fun n i => fstP (unitP ts i (.mk 7 0 [] n []))) (Stp.at (A := fun i => bindP (nameP ts i) fun n i => fstP (unitP ts i (.mk 7 0 [] n []))) hb ((does_name _).bind (k := fun n i => fstP (unitP ts i (.mk 7 0 [] n []))) (does_unit _ _).fst)) ?_
    simp only [atomP, n1, n3, no h0, no h1, no h2, no h3, ys h, if_true, if_false, Bool.false_eq_true, fstP_bind]
  rename_i h4
  split
  · rename_i h
    obtain ⟨n1, n3⟩ := nk (by decide) h
    refine go (s := fun i => bindP (expectP ts [40] i) fun _ i => bindP (E' i) fun e i => bindP (expectP ts [41] i) fun _ i => .ok (e, i)) ?_ ?_
    · have h' := stp_must ts σ [40]
      unfold mustS at h'
      rw [if_pos h] at h'
      exact h'.bind (k := fun _ i => bindP (E' i) fun e i => bindP (expectP ts [41] i) fun _ i => .ok (e, i)) ((hE _).bind (k := fun e i => bindP (expectP ts [41] i) fun _ i => .ok (e, i)) ((stp_must ts _ [41]).bind (k := fun _ i => .ok (_, i)) (Stp.pure _ _)))
    · simp only [atomP, n1, n3, no h0, no h1, no h2, no h3, no h4, if_true, if_false, Bool.false_eq_true, parenP, fstP_bind, fstP_ok]
  rename_i h5
  by_cases n1 : (tk ts σ.i).kind = 1
  · exact go (does_named hE σ) (by simp only [atomP, n1, if_true])
  · have e1 : qName ts σ = ([], ⟨σ.i, true⟩) := by unfold qName; rw [if_neg (fun h => n1 h.2)]
    have e2 : qNamed ts E σ = (.mk 3 0 [] [] [], ⟨σ.i, true⟩) := by unfold qNamed qNamed1; rw [e1, atB_bad rfl]; rfl
    rw [e2]
    refine stp_err fun _ => ?_
    have : expectP ts [40] σ.i = .error σ.i := by unfold expectP; rw [no h5]; rfl
    simp only [atomP, n1, hk3, no h0, no h1, no h2, no h3, no h4, if_false, Bool.false_eq_true, parenP, this, bindP_error, fstP_error]
theorem does_postLoop : ∀ n e sh, Does (qPostLoop ts E n e) (fun i => fstP (postLoop ts E' n e sh i)) := by
  intro n
  induction n with
  | zero => intro e sh σ; exact stp_err fun _ => rfl
  | succ n ih =>
    intro e sh σ
    unfold qPostLoop
    split
    · rename_i h
      refine Stp.cond (s := fun i => if isT ts i [46] then bindP (nameP ts (i + 1)) fun m i => if isT ts i [40] then bindP (argsP ts E' i) fun ks i => fstP (postLoop ts E' n (.mk 9 0 [] m (e :: ks)) 3 i) else fstP (postLoop ts E' n (.mk 8 0 [] m [e]) 2 i) else .ok (e, i)) ?_ fun _ => ?_
      · refine Stp.skipT (A := fun i => bindP (nameP ts i) fun m i => if isT ts i [40] then bindP (argsP ts E' i) fun ks i => fstP (postLoop ts E' n (.mk 9 0 [] m (e :: ks)) 3 i) else fstP (postLoop ts E' n (.mk 8 0 [] m [e]) 2 i)) h ((does_name _).bind ?_)
        unfold qDot
        split
        · rename_i h2
          rw [list_pre hE]
          refine Stp.cond (s := fun i => bindP (argsP ts E' i) fun ks i => fstP (postLoop ts E' n (.mk 9 0 [] _ (e :: ks)) 3 i)) ((does_list hE _).bind (ih _ _ _)) fun _ => ?_
          simp only [(atB_true h2).2, if_true]
        · rename_i h2
          exact Stp.skipF (A := fun i => bindP (argsP ts E' i) fun ks i => fstP (postLoop ts E' n (.mk 9 0 [] _ (e :: ks)) 3 i)) (by simpa using h2) (ih _ _ _)
      · simp only [postLoop]
        split
        · rw [fstP_bind]; congr 1; funext m i; split
          · rw [fstP_bind]
          · rfl
        · rfl
    · rename_i h
      refine Stp.cond (s := fun i => if isT ts i [46] then .error i else .ok (e, i)) (Stp.skipF (A := fun i => .error i) (by simpa using h) (Stp.pure _ _)) fun hb => ?_
      rw [atB_good hb] at h
      simp only [postLoop, h, if_false, fstP_ok]; rfl
theorem does_post (hT : TWR ts) : Does (qPost ts E) (fun i => fstP (postP ts E' i)) := by
  intro σ
  refine Stp.cond (s := fun i => bindP (fstP (atomP ts E' i)) fun e i => fstP (postLoop ts E' (ts.length + 1) e 0 i)) ((does_atom hE hT σ).bind (does_postLoop hE _ _ _ _)) fun _ => ?_
  simp only [postP]
  rw [fstP_bind]
  have key : ∀ n e sh i, fstP (postLoop ts E' n e sh i) = fstP (postLoop ts E' n e 0 i) := by
    intro n
    cases n with
    | zero => intro e sh i; rfl
    | succ n => intro e sh i; simp only [postLoop]; split <;> rfl
  rw [← bindP_fst]
  congr 1
  funext x j
  exact key _ _ _ _
theorem does_prodLoop (hT : TWR ts) : ∀ n e, Does (qProdLoop ts E n e) (prodLoop ts E' n e) := by
  intro n
  induction n with
  | zero => intro e σ; exact stp_err fun _ => rfl
  | succ n ih =>
    intro e σ
    unfold qProdLoop
    split
    · rename_i h
      refine Stp.cond (s := fun i => if isT ts i [42] then bindP (fstP (postP ts E' (i + 1))) fun x i => prodLoop ts E' n (binE 3 e x) i else .ok (e, i)) ?_ fun _ => ?_
      · exact Stp.skipT (A := fun i => bindP (fstP (postP ts E' i)) fun x i => prodLoop ts E' n (binE 3 e x) i) h ((does_post hE hT _).bind (ih _ _))
      · simp only [prodLoop, ← bindP_fst]
    · rename_i h
      exact Stp.skipF (A := fun i => bindP (postP ts E' (i + 1)) fun x i => prodLoop ts E' n (binE 3 e x.1) i) (by simpa using h) (Stp.pure _ _)
theorem does_prod (hT : TWR ts) : Does (qProd ts E) (prodP ts E') := by
  intro σ
  refine Stp.cond (s := fun i => bindP (fstP (postP ts E' i)) fun x i => prodLoop ts E' (ts.length + 1) x i) ((does_post hE hT _).bind (does_prodLoop hE hT _ _ _)) fun _ => ?_
  simp only [prodP, ← bindP_fst]
theorem does_sumLoop (hT : TWR ts) : ∀ n e, Does (qSumLoop ts E n e) (sumLoop ts E' n e) := by
  intro n
  induction n with
  | zero => intro e σ; exact stp_err fun _ => rfl
  | succ n ih =>
    intro e σ
    unfold qSumLoop
    split
    · rename_i h
      exact Stp.skipT (A := fun i => bindP (prodP ts E' i) fun x i => sumLoop ts E' n (binE 1 e x) i) h ((does_prod hE hT _).bind (ih _ _))
    · rename_i h
      refine Stp.skipF (A := fun i => bindP (prodP ts E' (i + 1)) fun x i => sumLoop ts E' n (binE 1 e x) i) (by simpa using h) ?_
      split
      · rename_i h
        exact Stp.skipT (A := fun i => bindP (prodP ts E' i) fun x i => sumLoop ts E' n (binE 2 e x) i) h ((does_prod hE hT _).bind (ih _ _))
      · rename_i h
        exact Stp.skipF (A := fun i => bindP (prodP ts E' (i + 1)) fun x i => sumLoop ts E' n (binE 2 e x) i) (by simpa using h) (Stp.pure _ _)
theorem does_sum (hT : TWR ts) : Does (qSum ts E) (sumP ts E') := fun σ => (does_prod hE hT _).bind (does_sumLoop hE hT _ _ _)
theorem does_exprW (hT : TWR ts) : Does (qExprW ts E) (exprW ts E') := by
  intro σ
  unfold qExprW
  refine (does_sum hE hT _).bind (k := fun e i => if isT ts i [60] then bindP (sumP ts E' (i + 1)) fun x i => .ok (binE 4 e x, i) else if isT ts i [61, 61] then bindP (sumP ts E' (i + 1)) fun x i => .ok (binE 5 e x, i) else .ok (e, i)) ?_
  unfold qExpr1
  split
  · rename_i h
    exact Stp.skipT (A := fun i => bindP (sumP ts E' i) fun x i => .ok (binE 4 _ x, i)) h ((does_sum hE hT _).bind (k := fun x i => .ok (binE 4 _ x, i)) (Stp.pure _ _))
  · rename_i h
    refine Stp.skipF (A := fun i => bindP (sumP ts E' (i + 1)) fun x i => .ok (binE 4 _ x, i)) (by simpa using h) ?_
    split
    · rename_i h
      exact Stp.skipT (A := fun i => bindP (sumP ts E' i) fun x i => .ok (binE 5 _ x, i)) h ((does_sum hE hT _).bind (k := fun x i => .ok (binE 5 _ x, i)) (Stp.pure _ _))
    · rename_i h
      exact Stp.skipF (A := fun i => bindP (sumP ts E' (i + 1)) fun x i => .ok (binE 5 _ x, i)) (by simpa using h) (Stp.pure _ _)
end
theorem does_expr (hT : TWR ts) : ∀ f, Does (qExpr ts f) (exprP ts f) := by
  intro f
  induction f with
  | zero => intro σ; exact stp_err fun _ => rfl
  | succ f ih => exact does_exprW ih hT
theorem does_E (hT : TWR ts) : Does (qE ts) (exprT ts) := does_expr hT _
end
end Lx
end Go.Proofs.YthjonkommphkkaaGreatDoor
namespace Go.Proofs.YthjonkommphkkaaGreatDoor
open Lx
namespace Lx
section
variable {ts : List Tok}
theorem does_other (hT : TWR ts) (hK : KT ts) : Does (qOther ts) (simpleP ts) := by
  intro σ
  have hp := does_post (does_expr hT (ts.length + 1)) hT σ
  have hpE : ∀ i r j, exprT ts i = .ok (r, j) → BalI ts i j := exprP_bal hK _
  unfold qOther
  show Stp _ σ (if (qP ts σ).2.bad = true then _ else _ : St × RS).1 (if (qP ts σ).2.bad = true then _ else _ : St × RS).2
  obtain ⟨r, hr⟩ : ∃ r, r = qP ts σ := ⟨_, rfl⟩
  rw [← hr]
  replace hp : Stp (fun i => fstP (postP ts (exprT ts) i)) σ r.1 r.2 := by rw [hr]; exact hp
  clear hr
  obtain ⟨e, σ1⟩ := r
  simp only at hp ⊢
  cases hb : σ.bad with
  | true =>
    have := hp.ofBad hb
    subst this
    rw [if_pos hb]
    exact .isBad hb rfl
  | false =>
  by_cases h1 : σ1.bad = true
  · rw [if_pos h1]
    have hf := hp.failed hb h1
    obtain ⟨i1, b1⟩ := σ1
    simp only at h1 hf; subst h1
    refine .inr ⟨hb, ?_⟩
    cases hpp : postP ts (exprT ts) σ.i with
    | error q => rw [hpp] at hf; cases hf; simp only [simpleP, hpp, bindP_error]
    | ok p => obtain ⟨p, j⟩ := p; rw [hpp] at hf; cases hf
  rw [if_neg h1]
  have h1 : σ1.bad = false := by simpa using h1
  obtain ⟨_, hok⟩ := hp.good h1
  cases hpp : postP ts (exprT ts) σ.i with
  | error q => rw [hpp] at hok; cases hok
  | ok p =>
  obtain ⟨⟨e2, sh⟩, j⟩ := p
  rw [hpp] at hok
  obtain ⟨rfl, rfl⟩ : e = e2 ∧ σ1.i = j := by
    have : e2 = e ∧ j = σ1.i := by simpa [fstP_ok] using hok
    exact ⟨this.1.symm, this.2.symm⟩
  obtain ⟨s1, s2, s3⟩ := postP_shape hK hpE hpp
  have ho : atB ts σ [40] = opB ts σ.i := atB_good hb
  rw [ho]
  obtain ⟨wh, hwh⟩ : ∃ wh, wh = (opB ts σ.i && closeF ts (σ1.i - σ.i) 0 σ.i) := ⟨_, rfl⟩
  rw [← hwh] at s2 s3 ⊢
  have a1 : atB ts σ1 [61] = isT ts σ1.i [61] := atB_good h1
  have a2 : atB ts σ1 [59] = isT ts σ1.i [59] := atB_good h1
  have key : ∀ {x : St} {σ2 : RS}, Stp (fun i => if sh = 1 ∧ isT ts i [61] then bindP (exprT ts (i + 1)) fun y i => bindP (expectP ts [59] i) fun _ i => .ok (.mk 2 e.name [] [y] [] [], i)
      else if sh = 2 ∧ isT ts i [61] then bindP (exprT ts (i + 1)) fun y i => bindP (expectP ts [59] i) fun _ i => .ok (.mk 3 e.name [] [e.kids.headD (.mk 0 0 [] [] []), y] [] [], i)
      else if sh = 3 then bindP (expectP ts [59] i) fun _ i => .ok (.mk 9 [] [] [e] [] [], i) else .error i) σ1 x σ2 → Stp (simpleP ts) σ x σ2 := by
    intro x σ2 h
    rcases h with ⟨hb2, _⟩ | ⟨_, h⟩
    · rw [h1] at hb2; cases hb2
    · refine .inr ⟨hb, ?_⟩
      simp only [simpleP, hpp, bindP_ok]
      exact h
  refine key ?_
  unfold qOther1
  by_cases c1 : e.kind = 3 ∧ opB ts σ.i = false ∧ atB ts σ1 [61] = true
  · rw [if_pos c1]
    refine Stp.cond (s := fun i => bindP (exprT ts (i + 1)) fun y i => bindP (expectP ts [59] i) fun _ i => .ok (St.mk 2 e.name [] [y] [] [], i)) (Stp.at (A := fun i => bindP (exprT ts i) fun y i => bindP (expectP ts [59] i) fun _ i => .ok (St.mk 2 e.name [] [y] [] [], i)) h1 ((does_E hT _).bind (k := fun y i => bindP (expectP ts [59] i) fun _ i => .ok (St.mk 2 e.name [] [y] [] [], i)) ((stp_must ts _ [59]).bind (k := fun _ i => .ok (St.mk 2 e.name [] [_] [] [], i)) (Stp.pure _ _)))) fun _ => ?_
    rw [if_pos ⟨s1.2 ⟨c1.1, c1.2.1⟩, by rw [← a1]; exact c1.2.2⟩]
  rw [if_neg c1]
  have n1 : ¬ (sh = 1 ∧ isT ts σ1.i [61] = true) := fun ⟨h, h'⟩ => c1 ⟨(s1.1 h).1, (s1.1 h).2, by rw [a1]; exact h'⟩
  by_cases c2 : e.kind = 8 ∧ wh = false ∧ atB ts σ1 [61] = true
  · rw [if_pos c2]
    refine Stp.cond (s := fun i => bindP (exprT ts (i + 1)) fun y i => bindP (expectP ts [59] i) fun _ i => .ok (St.mk 3 e.name [] [e.kids.headD exZ, y] [] [], i)) (Stp.at (A := fun i => bindP (exprT ts i) fun y i => bindP (expectP ts [59] i) fun _ i => .ok (St.mk 3 e.name [] [e.kids.headD exZ, y] [] [], i)) h1 ((does_E hT _).bind (k := fun y i => bindP (expectP ts [59] i) fun _ i => .ok (St.mk 3 e.name [] [e.kids.headD exZ, y] [] [], i)) ((stp_must ts _ [59]).bind (k := fun _ i => .ok (St.mk 3 e.name [] [e.kids.headD exZ, _] [] [], i)) (Stp.pure _ _)))) fun _ => ?_
    rw [if_neg n1, if_pos ⟨s2.2 ⟨c2.1, c2.2.1⟩, by rw [← a1]; exact c2.2.2⟩]; rfl
  rw [if_neg c2]
  have n2 : ¬ (sh = 2 ∧ isT ts σ1.i [61] = true) := fun ⟨h, h'⟩ => c2 ⟨(s2.1 h).1, (s2.1 h).2, by rw [a1]; exact h'⟩
  by_cases c3 : (e.kind = 9 ∨ e.kind = 10) ∧ wh = false ∧ atB ts σ1 [59] = true
  · rw [if_pos c3]
    refine Stp.cond (s := fun i => .ok (St.mk 9 [] [] [e] [] [], i + 1)) (does_ok _ _ h1) fun _ => ?_
    have ht : isT ts σ1.i [59] = true := by rw [← a2]; exact c3.2.2
    rw [if_neg n1, if_neg n2, if_pos (s3.2 ⟨c3.1, c3.2.1⟩)]
    simp only [expectP, ht, if_true, bindP_ok]
  rw [if_neg c3]
  refine stp_err fun _ => ?_
  rw [if_neg n1, if_neg n2]
  by_cases c4 : sh = 3
  · have ht : isT ts σ1.i [59] = false := by
      cases ht : isT ts σ1.i [59] with
      | false => rfl
      | true => exact (c3 ⟨(s3.1 c4).1, (s3.1 c4).2, by rw [a2]; exact ht⟩).elim
    rw [if_pos c4]
    simp only [expectP, ht, Bool.false_eq_true, if_false, bindP_error]
  · rw [if_neg c4]
section
variable {B : RS → List St × RS} {B' : Nat → PR (List St)} (hB : Does B B') (hT : TWR ts) (hK : KT ts)
include hT
theorem does_typed (σ : RS) : Stp (typedP ts) σ (qParam ts σ).1 (qParam ts σ).2 :=
  (does_name σ).bind (k := fun n i => bindP (expectP ts [58] i) fun _ i => bindP (typP ts i) fun t i => .ok (Fld.mk n t, i)) ((stp_must ts _ [58]).bind (k := fun _ i => bindP (typP ts i) fun t i => .ok (Fld.mk _ t, i)) ((does_typ _).bind (k := fun t i => .ok (Fld.mk _ t, i)) (Stp.pure _ _)))
theorem does_var : Does (qVar ts) (varP ts) := by
  intro σ
  refine (does_typed hT σ).bind (k := fun f i => if isT ts i [61] then bindP (exprT ts (i + 1)) fun e i => bindP (expectP ts [59] i) fun _ i => .ok (St.mk 1 f.name f.typ [e] [] [], i) else bindP (expectP ts [59] i) fun _ i => .ok (St.mk 1 f.name f.typ [] [] [], i)) ?_
  unfold qVar qVar2 qVar3 qParam qTyped2
  split
  · rename_i h
    exact Stp.skipT (A := fun i => bindP (exprT ts i) fun e i => bindP (expectP ts [59] i) fun _ i => .ok (St.mk 1 _ _ [e] [] [], i)) h ((does_E hT _).bind (k := fun e i => bindP (expectP ts [59] i) fun _ i => .ok (St.mk 1 _ _ [e] [] [], i)) ((stp_must ts _ [59]).bind (k := fun _ i => .ok (St.mk 1 _ _ [_] [] [], i)) (Stp.pure _ _)))
  · rename_i h
    exact Stp.skipF (A := fun i => bindP (exprT ts (i + 1)) fun e i => bindP (expectP ts [59] i) fun _ i => .ok (St.mk 1 _ _ [e] [] [], i)) (by simpa using h) ((stp_must ts _ [59]).bind (k := fun _ i => .ok (St.mk 1 _ _ [] [] [], i)) (Stp.pure _ _))
theorem does_cond (σ : RS) : Stp (condP ts) σ [(qCond ts σ).1] (qCond ts σ).2 :=
  (stp_must ts σ [40]).bind (k := fun _ i => bindP (exprT ts i) fun e i => bindP (expectP ts [41] i) fun _ i => .ok ([e], i)) ((does_E hT _).bind (k := fun e i => bindP (expectP ts [41] i) fun _ i => .ok ([e], i)) ((stp_must ts _ [41]).bind (k := fun _ i => .ok ([_], i)) (Stp.pure _ _)))
theorem does_throw : Does (qThrow ts) (throwP ts) := fun σ =>
  (does_E hT σ).bind (k := fun e i => bindP (expectP ts [59] i) fun _ i => .ok (St.mk 7 [] [] [e] [] [], i)) ((stp_must ts _ [59]).bind (k := fun _ i => .ok (St.mk 7 [] [] [_] [] [], i)) (Stp.pure _ _))
theorem does_return : Does (qReturn ts) (returnP ts) := by
  intro σ
  unfold qReturn
  split
  · rename_i h
    exact Stp.skipT (A := fun i => .ok (St.mk 8 [] [] [] [] [], i)) h (Stp.pure _ _)
  · rename_i h
    exact Stp.skipF (A := fun i => .ok (St.mk 8 [] [] [] [] [], i + 1)) (by simpa using h) ((does_E hT σ).bind (k := fun e i => bindP (expectP ts [59] i) fun _ i => .ok (St.mk 8 [] [] [e] [] [], i)) ((stp_must ts _ [59]).bind (k := fun _ i => .ok (St.mk 8 [] [] [_] [] [], i)) (Stp.pure _ _)))
include hB
theorem does_if : Does (qIf ts B) (ifP ts B') := by
  intro σ
  unfold qIf
  refine (does_cond hT σ).bind (k := fun c i => bindP (B' i) fun b i => if isT ts i [101, 108, 115, 101] then bindP (B' (i + 1)) fun e i => .ok (St.mk 4 [] [] c b e, i) else .ok (St.mk 4 [] [] c b [], i)) ((hB _).bind (k := fun b i => if isT ts i [101, 108, 115, 101] then bindP (B' (i + 1)) fun e i => .ok (St.mk 4 [] [] _ b e, i) else .ok (St.mk 4 [] [] _ b [], i)) ?_)
  unfold qIf2
  split
  · rename_i h
    exact Stp.skipT (A := fun i => bindP (B' i) fun e i => .ok (St.mk 4 [] [] _ _ e, i)) h ((hB _).bind (k := fun e i => .ok (St.mk 4 [] [] _ _ e, i)) (Stp.pure _ _))
  · rename_i h
    exact Stp.skipF (A := fun i => bindP (B' (i + 1)) fun e i => .ok (St.mk 4 [] [] _ _ e, i)) (by simpa using h) (Stp.pure _ _)
theorem does_while : Does (qWhile ts B) (whileP ts B') := fun σ =>
  (does_cond hT σ).bind (k := fun c i => bindP (B' i) fun b i => .ok (St.mk 5 [] [] c b [], i)) ((hB _).bind (k := fun b i => .ok (St.mk 5 [] [] _ b [], i)) (Stp.pure _ _))
theorem does_try : Does (qTry ts B) (tryP ts B') := fun σ => by
  refine (hB σ).bind (k := fun b i => bindP (expectP ts [99, 97, 116, 99, 104] i) fun _ i => bindP (expectP ts [40] i) fun _ i => bindP (typedP ts i) fun f i => bindP (expectP ts [41] i) fun _ i => bindP (B' i) fun e i => .ok (St.mk 6 f.name f.typ [] b e, i)) ?_
  refine (stp_must ts _ [99, 97, 116, 99, 104]).bind (k := fun _ i => bindP (expectP ts [40] i) fun _ i => bindP (typedP ts i) fun f i => bindP (expectP ts [41] i) fun _ i => bindP (B' i) fun e i => .ok (St.mk 6 f.name f.typ [] _ e, i)) ?_
  refine (stp_must ts _ [40]).bind (k := fun _ i => bindP (typedP ts i) fun f i => bindP (expectP ts [41] i) fun _ i => bindP (B' i) fun e i => .ok (St.mk 6 f.name f.typ [] _ e, i)) ?_
  refine (does_typed hT _).bind (k := fun f i => bindP (expectP ts [41] i) fun _ i => bindP (B' i) fun e i => .ok (St.mk 6 f.name f.typ [] _ e, i)) ?_
  refine (stp_must ts _ [41]).bind (k := fun _ i => bindP (B' i) fun e i => .ok (St.mk 6 _ _ [] _ e, i)) ?_
  exact (hB _).bind (k := fun e i => .ok (St.mk 6 _ _ [] _ e, i)) (Stp.pure _ _)
include hK
theorem does_stmtW : Does (qStmtW ts B) (stmtW ts B') := by
  intro σ
  unfold qStmtW
  split
  · rename_i h; exact Stp.skipT (A := varP ts) h (does_var hT _)
  rename_i h; refine Stp.skipF (A := fun i => varP ts (i + 1)) (by simpa using h) ?_
  split
  · rename_i h; exact Stp.skipT (A := ifP ts B') h (does_if hB hT _)
  rename_i h; refine Stp.skipF (A := fun i => ifP ts B' (i + 1)) (by simpa using h) ?_
  split
  · rename_i h; exact Stp.skipT (A := whileP ts B') h (does_while hB hT _)
  rename_i h; refine Stp.skipF (A := fun i => whileP ts B' (i + 1)) (by simpa using h) ?_
  split
  · rename_i h; exact Stp.skipT (A := tryP ts B') h (does_try hB hT _)
  rename_i h; refine Stp.skipF (A := fun i => tryP ts B' (i + 1)) (by simpa using h) ?_
  split
  · rename_i h; exact Stp.skipT (A := throwP ts) h (does_throw hT _)
  rename_i h; refine Stp.skipF (A := fun i => throwP ts (i + 1)) (by simpa using h) ?_
  split
  · rename_i h; exact Stp.skipT (A := returnP ts) h (does_return hT _)
  rename_i h; exact Stp.skipF (A := fun i => returnP ts (i + 1)) (by simpa using h) (does_other hT hK _)
end
theorem does_blockLoop {S : RS → St × RS} {S' : Nat → PR St} (hS : Does S S') : ∀ n acc, Does (qBlockLoop ts S n acc) (blockLoop ts S' n acc) := by
  intro n
  induction n with
  | zero => intro acc σ; exact stp_err fun _ => rfl
  | succ n ih =>
    intro acc σ
    unfold qBlockLoop
    split
    · rename_i h; exact .isBad h rfl
    split
    · rename_i h
      exact Stp.skipT (A := fun i => .ok (acc, i)) h (Stp.pure _ _)
    · rename_i h
      exact Stp.skipF (A := fun i => .ok (acc, i + 1)) (by simpa using h) ((hS _).bind (ih _ _))
theorem does_block (hT : TWR ts) (hK : KT ts) : ∀ f, Does (qBlock ts f) (blockP ts f) := by
  intro f
  induction f with
  | zero => intro σ; exact stp_err fun _ => rfl
  | succ f ih => exact fun σ => (stp_must ts σ [123]).bind (k := fun _ i => blockLoop ts (stmtW ts (blockP ts f)) (ts.length + 1) [] i) (does_blockLoop (does_stmtW ih hT hK) _ _ _)
theorem does_field (hT : TWR ts) : Does (qField ts) (fieldP ts) := fun σ =>
  (stp_must ts σ [118, 97, 114]).bind (k := fun _ i => bindP (typedP ts i) fun f i => bindP (expectP ts [59] i) fun _ i => .ok (f, i)) ((does_typed hT _).bind (k := fun f i => bindP (expectP ts [59] i) fun _ i => .ok (f, i)) ((stp_must ts _ [59]).bind (k := fun _ i => .ok (_, i)) (Stp.pure _ _)))
theorem does_paramsLoop (hT : TWR ts) : ∀ n acc, Does (qParamsLoop ts n acc) (paramsLoop ts n acc) := by
  intro n
  induction n with
  | zero => intro acc σ; exact stp_err fun _ => rfl
  | succ n ih =>
    intro acc σ
    unfold qParamsLoop
    split
    · rename_i h
      exact Stp.skipT (A := fun i => bindP (typedP ts i) fun f j => paramsLoop ts n (acc ++ [f]) j) h ((does_typed hT _).bind (ih _ _))
    · rename_i h
      exact Stp.skipF (A := fun i => bindP (typedP ts (i + 1)) fun f j => paramsLoop ts n (acc ++ [f]) j) (by simpa using h) ((stp_must ts σ [41]).bind (k := fun _ j => .ok (acc, j)) (Stp.pure _ _))
theorem does_params (hT : TWR ts) : Does (qParams ts) (paramsP ts) := by
  intro σ
  unfold qParams
  split
  · rename_i h
    exact Stp.skipT (A := fun i => .ok ([], i)) h (Stp.pure _ _)
  · rename_i h
    refine Stp.skipF (A := fun i => .ok ([], i + 1)) (by simpa using h) ?_
    split
    · rename_i hb; exact .isBad hb rfl
    · exact (does_typed hT _).bind (k := fun f i => paramsLoop ts (ts.length + 1) [f] i) (does_paramsLoop hT _ _ _)
theorem does_result : Does (qResult ts) (resultP ts) := by
  intro σ
  unfold qResult
  split
  · rename_i h; exact Stp.skipT (A := typP ts) h (does_typ _)
  · rename_i h; exact Stp.skipF (A := fun i => typP ts (i + 1)) (by simpa using h) (Stp.pure _ _)
theorem does_method (hT : TWR ts) (hK : KT ts) : Does (qMethod ts) (methodP ts) := by
  intro σ
  have key : ∀ st σ0, Stp (fun i => bindP (expectP ts [100, 101, 102] i) fun _ j => bindP (nameP ts j) fun n j => bindP (expectP ts [40] j) fun _ j => bindP (paramsP ts j) fun ps j => bindP (resultP ts j) fun r j => bindP (blockT ts j) fun b j => .ok (Me.mk n st ps r b, j)) σ0 (qMe1 ts st σ0).1 (qMe1 ts st σ0).2 := by
    intro st σ0
    refine (stp_must ts σ0 [100, 101, 102]).bind (k := fun _ j => bindP (nameP ts j) fun n j => bindP (expectP ts [40] j) fun _ j => bindP (paramsP ts j) fun ps j => bindP (resultP ts j) fun r j => bindP (blockT ts j) fun b j => .ok (Me.mk n st ps r b, j)) ?_
    refine (does_name _).bind (k := fun n j => bindP (expectP ts [40] j) fun _ j => bindP (paramsP ts j) fun ps j => bindP (resultP ts j) fun r j => bindP (blockT ts j) fun b j => .ok (Me.mk n st ps r b, j)) ?_
    refine (stp_must ts _ [40]).bind (k := fun _ j => bindP (paramsP ts j) fun ps j => bindP (resultP ts j) fun r j => bindP (blockT ts j) fun b j => .ok (Me.mk _ st ps r b, j)) ?_
    refine (does_params hT _).bind (k := fun ps j => bindP (resultP ts j) fun r j => bindP (blockT ts j) fun b j => .ok (Me.mk _ st ps r b, j)) ?_
    refine (does_result _).bind (k := fun r j => bindP (blockT ts j) fun b j => .ok (Me.mk _ st _ r b, j)) ?_
    exact (does_block hT hK _ _).bind (k := fun b j => .ok (Me.mk _ st _ _ b, j)) (Stp.pure _ _)
  unfold qMethod
  cases h : atB ts σ [115, 116, 97, 116, 105, 99] with
  | true =>
    rw [skipS_true h]
    obtain ⟨hb, ht⟩ := atB_true h
    refine Stp.cond (s := fun i => _) (Stp.at (A := fun i => _) hb (key true _)) fun _ => ?_
    simp only [methodP, ht, if_true]
  | false =>
    rw [skipS_false h]
    refine Stp.cond (s := fun i => _) (key false _) fun hb => ?_
    rw [atB_good hb] at h
    simp only [methodP, h, Bool.false_eq_true, if_false]
theorem does_fieldsLoop (hT : TWR ts) : ∀ n acc, Does (qFieldsLoop ts n acc) (fieldsLoop ts n acc) := by
  intro n
  induction n with
  | zero => intro acc σ; exact stp_err fun _ => rfl
  | succ n ih =>
    intro acc σ
    unfold qFieldsLoop
    split
    · rename_i h
      refine Stp.cond (s := fun i => bindP (fieldP ts i) fun f j => fieldsLoop ts n (acc ++ [f]) j) ((does_field hT _).bind (ih _ _)) fun _ => ?_
      simp only [fieldsLoop, (atB_true h).2, if_true]
    · rename_i h
      exact Stp.skipF (A := fun i => bindP (fieldP ts i) fun f j => fieldsLoop ts n (acc ++ [f]) j) (by simpa using h) (Stp.pure _ _)
theorem does_methodsLoop (hT : TWR ts) (hK : KT ts) : ∀ n acc, Does (qMethodsLoop ts n acc) (methodsLoop ts n acc) := by
  intro n
  induction n with
  | zero => intro acc σ; exact stp_err fun _ => rfl
  | succ n ih =>
    intro acc σ
    unfold qMethodsLoop
    split
    · rename_i h
      refine Stp.cond (s := fun i => bindP (methodP ts i) fun f j => methodsLoop ts n (acc ++ [f]) j) ((does_method hT hK _).bind (ih _ _)) fun hb => ?_
      rw [atB_good hb, atB_good hb] at h
      simp only [methodsLoop, h, if_true]
    · rename_i h
      refine Stp.cond (s := fun i => .ok (acc, i)) (Stp.pure _ _) fun hb => ?_
      rw [atB_good hb, atB_good hb] at h
      simp only [methodsLoop, h, if_false]; rfl
theorem does_super : Does (qSuper ts) (superP ts) := by
  intro σ
  unfold qSuper
  split
  · rename_i h; exact Stp.skipT (A := nameP ts) h (does_name _)
  · rename_i h; exact Stp.skipF (A := fun i => nameP ts (i + 1)) (by simpa using h) (Stp.pure _ _)
theorem does_class (hT : TWR ts) (hK : KT ts) : Does (qClass ts) (classP ts) := fun σ => by
  refine (stp_must ts σ [99, 108, 97, 115, 115]).bind (k := fun _ i => bindP (nameP ts i) fun n i => bindP (superP ts i) fun s i => bindP (expectP ts [123] i) fun _ i => bindP (fieldsLoop ts (ts.length + 1) [] i) fun fs i => bindP (methodsLoop ts (ts.length + 1) [] i) fun ms i => bindP (expectP ts [125] i) fun _ i => .ok (Cl.mk n s fs ms, i)) ?_
  refine (does_name _).bind (k := fun n i => bindP (superP ts i) fun s i => bindP (expectP ts [123] i) fun _ i => bindP (fieldsLoop ts (ts.length + 1) [] i) fun fs i => bindP (methodsLoop ts (ts.length + 1) [] i) fun ms i => bindP (expectP ts [125] i) fun _ i => .ok (Cl.mk n s fs ms, i)) ?_
  refine (does_super _).bind (k := fun s i => bindP (expectP ts [123] i) fun _ i => bindP (fieldsLoop ts (ts.length + 1) [] i) fun fs i => bindP (methodsLoop ts (ts.length + 1) [] i) fun ms i => bindP (expectP ts [125] i) fun _ i => .ok (Cl.mk _ s fs ms, i)) ?_
  refine (stp_must ts _ [123]).bind (k := fun _ i => bindP (fieldsLoop ts (ts.length + 1) [] i) fun fs i => bindP (methodsLoop ts (ts.length + 1) [] i) fun ms i => bindP (expectP ts [125] i) fun _ i => .ok (Cl.mk _ _ fs ms, i)) ?_
  refine (does_fieldsLoop hT _ _ _).bind (k := fun fs i => bindP (methodsLoop ts (ts.length + 1) [] i) fun ms i => bindP (expectP ts [125] i) fun _ i => .ok (Cl.mk _ _ fs ms, i)) ?_
  refine (does_methodsLoop hT hK _ _ _).bind (k := fun ms i => bindP (expectP ts [125] i) fun _ i => .ok (Cl.mk _ _ _ ms, i)) ?_
  exact (stp_must ts _ [125]).bind (k := fun _ i => .ok (Cl.mk _ _ _ _, i)) (Stp.pure _ _)
end
end Lx
end Go.Proofs.YthjonkommphkkaaGreatDoor
