/-
  Plain Lean: what PlainProgram prints is written by the grammar, so that it is read back.
-/
import Derived.Test.YthjonkommphkkaaDoorJpBh
import Derived.Test.YthjonkommphkkaaDoorJpBj
import Derived.Test.YthjonkommphkkaaDoorJpBg
set_option linter.unusedSectionVars false
set_option linter.unusedSimpArgs false
set_option linter.unnecessarySimpa false
set_option linter.unusedVariables false
set_option linter.unusedSimpArgs false
set_option linter.unusedVariables false
namespace Go.Proofs.YthjonkommphkkaaDoor
open Lx
namespace Lx
/-- A text that reads as these tokens, whatever follows that is no part of a word. -/
def Pr (A : Bytes) (us : List TT) : Prop := ∀ rest vs, nextPart rest = false → LxT rest vs → LxT (A ++ rest) (us ++ vs)
/-- A text that reads as these tokens, whatever follows. -/
def Pa (A : Bytes) (us : List TT) : Prop := ∀ rest vs, LxT rest vs → LxT (A ++ rest) (us ++ vs)
theorem Pa.pr {A : Bytes} {us : List TT} (h : Pa A us) : Pr A us := fun r v _ k => h r v k
theorem Pr.word {x : Bytes} (h : isIdent x = true) : Pr x [TT.wd x] := fun r v hn k => .word h hn k
theorem Pr.key {x : Bytes} (h : x ∈ kwList) : Pr x [TT.kw x] := fun r v hn k => .key h hn k
theorem Pr.num {x : Bytes} {n : Nat} (h : NumText x n) : Pr x [TT.nu x n] := fun r v hn k => .num h hn k
theorem Pa.mark {x : Bytes} (h : x ∈ soloList) : Pa x [TT.mk x] := fun r v k => .mark h k
theorem Pa.nil : Pa [] [] := fun r v k => k
/-- Separators. -/
theorem Pa.sep {A : Bytes} (h : A.all isSep = true) : Pa A [] := by
  induction A with
  | nil => exact .nil
  | cons c A ih =>
    simp only [List.all_cons, Bool.and_eq_true] at h
    exact fun r v k => .sep h.1 (ih h.2 r v k)
theorem Pa.app {A B : Bytes} {us vs : List TT} (h : Pa A us) (h2 : Pa B vs) : Pa (A ++ B) (us ++ vs) := fun r v k => by
  rw [List.append_assoc, List.append_assoc]; exact h _ _ (h2 _ _ k)
theorem Pa.appR {A B : Bytes} {us vs : List TT} (h : Pa A us) (h2 : Pr B vs) : Pr (A ++ B) (us ++ vs) := fun r v hn k => by
  rw [List.append_assoc, List.append_assoc]; exact h _ _ (h2 _ _ hn k)
/-- A text with which no word goes on. -/
def Brk (B : Bytes) : Prop := ∃ c t, B = c :: t ∧ isPart c = false
theorem Pr.app {A B : Bytes} {us vs : List TT} (h : Pr A us) (hb : Brk B) (h2 : Pa B vs) : Pa (A ++ B) (us ++ vs) := fun r v k => by
  obtain ⟨c, t, rfl, hc⟩ := hb
  rw [List.append_assoc, List.append_assoc]; exact h _ _ hc (h2 _ _ k)
theorem Pr.appR {A B : Bytes} {us vs : List TT} (h : Pr A us) (hb : Brk B) (h2 : Pr B vs) : Pr (A ++ B) (us ++ vs) := fun r v hn k => by
  obtain ⟨c, t, rfl, hc⟩ := hb
  rw [List.append_assoc, List.append_assoc]; exact h _ _ hc (h2 _ _ hn k)
theorem Brk.app {A : Bytes} (h : Brk A) (B : Bytes) : Brk (A ++ B) := by
  obtain ⟨c, t, rfl, hc⟩ := h; exact ⟨c, t ++ B, rfl, hc⟩
theorem Brk.of {c : UInt8} {t : Bytes} (h : isPart c = false) : Brk (c :: t) := ⟨c, t, rfl, h⟩
/-- A colon or an equals sign and a separator. -/
theorem Pa.colon {x : Bytes} {c : UInt8} (hx : x = [58] ∨ x = [61]) (hc : isSep c = true) : Pa (x ++ [c]) [TT.mk x] := fun r v k => by
  rw [List.append_assoc]; exact .markSep hx hc k
theorem Pa.end {A : Bytes} {us : List TT} (h : Pa A us) : LxT A us := by simpa using h [] [] .nil
/-! numbers -/
theorem dig_digit {n : Nat} (h : n < 10) : isDigit (dig n) = true ∧ (dig n).toNat - 48 = n ∧ (dig n = 48 → n = 0) := by
  have e : (dig n).toNat = 48 + n := by simp [dig]; omega
  refine ⟨by simp only [isDigit, decide_eq_true_eq]; omega, by omega, fun h => ?_⟩
  rw [h] at e
  have : (48 : UInt8).toNat = 48 := rfl
  omega
theorem numVal_snoc (l : Bytes) (c : UInt8) : numVal (l ++ [c]) = numVal l * 10 + (c.toNat - 48) := by simp [numVal]
theorem digits_text : ∀ f n, n < 10 ^ f → 0 < f → (digitsOf f n).all isDigit = true ∧ numVal (digitsOf f n) = n ∧ digitsOf f n ≠ [] ∧ ((digitsOf f n).head? = some 48 → n = 0 ∧ (digitsOf f n).length = 1) := by
  intro f
  induction f with
  | zero => intro n _ h; omega
  | succ f ih =>
    intro n hn _
    unfold digitsOf
    by_cases h : n < 10
    · obtain ⟨d1, d2, d3⟩ := dig_digit h
      rw [if_pos h]
      refine ⟨by simp [d1], by simp [numVal, d2], by simp, fun e => ?_⟩
      simp only [List.head?_cons, Option.some.injEq] at e
      exact ⟨d3 e, rfl⟩
    · rw [if_neg h]
      have hf : 0 < f := by
        cases f with
        | zero => simp at hn; omega
        | succ f => omega
      have hq : n / 10 < 10 ^ f := by rw [Nat.div_lt_iff_lt_mul (by decide)]; rw [Nat.pow_succ] at hn; exact hn
      obtain ⟨i1, i2, i3, i4⟩ := ih _ hq hf
      obtain ⟨d1, d2, d3⟩ := dig_digit (Nat.mod_lt n (by decide : 0 < 10))
      refine ⟨by simp [i1, d1], by rw [numVal_snoc, i2, d2]; omega, by simp, fun e => ?_⟩
      rw [List.head?_append, Option.or_of_isSome (by rw [Option.isSome_iff_exists]; cases hd : digitsOf f (n / 10) with | nil => exact absurd hd i3 | cons c t => exact ⟨c, rfl⟩)] at e
      have := (i4 e).1
      omega
theorem digits_num {n : Nat} (h : n < 9223372036854775808) : NumText (digitsOf 20 n) n := by
  obtain ⟨h1, h2, h3, h4⟩ := digits_text 20 n (by omega) (by decide)
  exact ⟨h3, h1, fun e => (h4 e).2, h2, h⟩
/-! expressions -/
theorem opText_mark {op : Int} (h : 1 ≤ op ∧ op ≤ 5) : opText op ∈ soloList := by
  have : op = 1 ∨ op = 2 ∨ op = 3 ∨ op = 4 ∨ op = 5 := by omega
  rcases this with rfl | rfl | rfl | rfl | rfl <;> decide
/-- An operation, in parentheses, is an atom. -/
theorem GrP.bin {op : Int} (h : 1 ≤ op ∧ op ≤ 5) {a b : Ex} {us vs : List TT} {s t : Nat} (ha : GrP a us s) (hb : GrP b vs t) : GrP (.mk 6 op [] [] [a, b]) (TT.mk [40] :: ((us ++ (TT.mk (opText op) :: vs)) ++ [TT.mk [41]])) 0 := by
  refine .paren ?_
  have : op = 1 ∨ op = 2 ∨ op = 3 ∨ op = 4 ∨ op = 5 := by omega
  rcases this with rfl | rfl | rfl | rfl | rfl
  · exact .sum (.add (.prod (.post ha)) (.post hb))
  · exact .sum (.sub (.prod (.post ha)) (.post hb))
  · exact .sum (.prod (.mul (.post ha) hb))
  · exact .less (.prod (.post ha)) (.prod (.post hb))
  · exact .equal (.prod (.post ha)) (.prod (.post hb))
theorem GrP.expr {e : Ex} {us : List TT} {s : Nat} (h : GrP e us s) : GrE e us := .sum (.prod (.post h))
theorem exSz_kid {k n : Int} {o m : Bytes} {ks : List Ex} {e : Ex} (h : e ∈ ks) : exSz e < exSz (.mk k n o m ks) := by
  rw [exSz]
  have : exSz e ≤ exsSz ks := exsSz_mem h
  omega
/-- What is to be shown of an expression's text. -/
def PlE (e : Ex) : Prop := ∃ us s, GrP e us s ∧ Pr (plE e) us ∧ ((e.kind = 9 ∨ e.kind = 10) → s = 3)
theorem plSep_gr : ∀ {es : List Ex}, (∀ e ∈ es, PlE e) → es ≠ [] → ∃ us, GrL es us ∧ Pr (plSep es) us
  | [], _, h => absurd rfl h
  | [e], h, _ => by
    obtain ⟨us, s, g, p, _⟩ := h e List.mem_cons_self
    exact ⟨us, .one g.expr, by rw [plSep]; exact p⟩
  | e :: e2 :: es, h, _ => by
    obtain ⟨us, s, g, p, _⟩ := h e List.mem_cons_self
    obtain ⟨vs, g2, p2⟩ := plSep_gr (es := e2 :: es) (fun x hx => h x (List.mem_cons_of_mem _ hx)) (by simp)
    refine ⟨us ++ (TT.mk [44] :: vs), .cons g.expr g2, ?_⟩
    rw [plSep, List.append_assoc]
    · exact p.appR ((Brk.of (by decide)).app _) (((Pa.mark (x := [44]) (by decide)).app (Pa.sep (A := [32]) (by decide))).appR p2)
    · exact fun h => by simp at h
theorem args_gr {es : List Ex} (h : ∀ e ∈ es, PlE e) : ∃ us, GrA es us ∧ Pa ([40] ++ plSep es ++ [41]) us := by
  cases es with
  | nil => exact ⟨_, .nil, by rw [plSep]; exact (Pa.mark (x := [40]) (by decide)).app (Pa.mark (x := [41]) (by decide))⟩
  | cons e es =>
    obtain ⟨us, g, p⟩ := plSep_gr h (by simp)
    refine ⟨_, .some g, ?_⟩
    rw [List.append_assoc]
    exact (Pa.mark (x := [40]) (by decide)).app (p.app (Brk.of (by decide)) (Pa.mark (x := [41]) (by decide)))
theorem plE_gr : ∀ (d : Nat) (e : Ex), exSz e ≤ d → WfE e → PlE e := by
  intro d
  induction d with
  | zero => intro e h; have := exSz_pos e; omega
  | succ d ih =>
    intro e hd hw
    have kid : ∀ x, x ∈ e.kids → WfE x → PlE x := fun x hx hw => ih x (by
      obtain ⟨k, n, o, m, ks⟩ := e
      have : exSz x < exSz (.mk k n o m ks) := exSz_kid hx
      omega) hw
    cases hw with
    | int n h1 h2 =>
      have hp : plE (.mk 1 n [] [] []) = plNum n := by rw [plE, if_pos rfl]
      by_cases hn : n < 0
      · refine ⟨[TT.mk [45], TT.nu (digitsOf 20 n.natAbs) n.natAbs], 0, ?_, ?_, fun h => ?_⟩
        · have := GrP.neg (digitsOf 20 n.natAbs) n.natAbs (by omega)
          rwa [show (-(n.natAbs : Int)) = n by omega] at this
        · rw [hp, plNum, if_pos hn]
          exact ((Pa.mark (x := [45]) (by decide)).app (Pa.sep (A := [32]) (by decide))).appR (Pr.num (digits_num (by omega)))
        · simp [Ex.kind] at h
      · refine ⟨[TT.nu (digitsOf 20 n.natAbs) n.natAbs], 0, ?_, ?_, fun h => ?_⟩
        · have := GrP.int (digitsOf 20 n.natAbs) n.natAbs
          rwa [show ((n.natAbs : Nat) : Int) = n by omega] at this
        · rw [hp, plNum, if_neg hn]
          exact Pr.num (digits_num (by omega))
        · simp [Ex.kind] at h
    | null => exact ⟨_, 0, .null, by rw [plE, if_neg (by decide), if_pos rfl]; exact .key (by decide), fun h => by simp [Ex.kind] at h⟩
    | var x hx => exact ⟨_, 1, .var x, by rw [plE]; exact .word hx, fun h => by simp [Ex.kind] at h⟩
    | this => exact ⟨_, 0, .this, by rw [plE, if_neg (by decide), if_neg (by decide), if_pos rfl]; exact .key (by decide), fun h => by simp [Ex.kind] at h⟩
    | input =>
      refine ⟨_, 0, .input, ?_, fun h => by simp [Ex.kind] at h⟩
      rw [plE, if_neg (by decide), if_neg (by decide), if_neg (by decide), if_pos rfl]
      exact (Pr.app (A := [105, 110, 112, 117, 116]) (.key (by decide)) (Brk.of (by decide)) ((Pa.mark (x := [40]) (by decide)).app (Pa.mark (x := [41]) (by decide)))).pr
    | @bin op h a b ha hb =>
      obtain ⟨us, s, g1, p1, _⟩ := kid a (by simp [Ex.kids]) ha
      obtain ⟨vs, t, g2, p2, _⟩ := kid b (by simp [Ex.kids]) hb
      refine ⟨_, 0, .bin h g1 g2, ?_, fun h => by simp [Ex.kind] at h⟩
      rw [plE, if_neg (by decide), if_neg (by decide), if_neg (by decide), if_neg (by decide), if_pos rfl]
      have e1 : plAt [a, b] 0 = plE a := by rw [plAt]
      have e2 : plAt [a, b] 1 = plE b := by rw [plAt, plAt]
      rw [e1, e2]
      have := ((Pa.mark (x := [40]) (by decide)).appR p1).app ((Brk.of (by decide)).app _) (((Pa.sep (A := [32]) (by decide)).app (Pa.mark (opText_mark h))).app (Pa.sep (A := [32]) (by decide)))
      have := (this.appR p2).app (Brk.of (by decide)) (Pa.mark (x := [41]) (by decide))
      simpa using this.pr
    | new x hx =>
      refine ⟨_, 0, .new x, ?_, fun h => by simp [Ex.kind] at h⟩
      rw [plE, if_neg (by decide), if_neg (by decide), if_neg (by decide), if_neg (by decide), if_neg (by decide), if_pos rfl]
      have := ((Pr.app (A := [110, 101, 119]) (.key (by decide)) (Brk.of (by decide)) (Pa.sep (A := [32]) (by decide))).appR (Pr.word hx)).app (Brk.of (by decide)) ((Pa.mark (x := [40]) (by decide)).app (Pa.mark (x := [41]) (by decide)))
      simpa using this.pr
    | @field m hm k hk =>
      obtain ⟨us, s, g1, p1, _⟩ := kid k (by simp [Ex.kids]) hk
      refine ⟨_, 2, .field g1 m, ?_, fun h => by simp [Ex.kind] at h⟩
      rw [plE, if_neg (by decide), if_neg (by decide), if_neg (by decide), if_neg (by decide), if_neg (by decide), if_neg (by decide), if_pos rfl, plAt]
      have := (p1.app (Brk.of (by decide)) (Pa.mark (x := [46]) (by decide))).appR (Pr.word hm)
      simpa using this
    | @call m hm k es hk he =>
      obtain ⟨us, s, g1, p1, _⟩ := kid k (by simp [Ex.kids]) hk
      obtain ⟨vs, g2, p2⟩ := args_gr fun x hx => kid x (by simp [Ex.kids, hx]) (he x hx)
      refine ⟨_, 3, .call g1 m g2, ?_, fun h => rfl⟩
      rw [plE, if_neg (by decide), if_neg (by decide), if_neg (by decide), if_neg (by decide), if_neg (by decide), if_neg (by decide), if_neg (by decide), if_pos rfl, plAt, plFrom, plFrom]
      have := ((p1.app (Brk.of (by decide)) (Pa.mark (x := [46]) (by decide))).appR (Pr.word hm)).app ((Brk.app (Brk.of (by decide)) _).app _) p2
      simpa using this.pr
    | @static o m ho hm es he =>
      obtain ⟨vs, g2, p2⟩ := args_gr fun x hx => kid x (by simp [Ex.kids, hx]) (he x hx)
      refine ⟨_, 3, .static o m g2, ?_, fun h => rfl⟩
      rw [plE, if_neg (by decide), if_neg (by decide), if_neg (by decide), if_neg (by decide), if_neg (by decide), if_neg (by decide), if_neg (by decide), if_neg (by decide), if_pos rfl, plFrom]
      have := (((Pr.word ho).app (Brk.of (by decide)) (Pa.mark (x := [58, 58]) (by decide))).appR (Pr.word hm)).app ((Brk.app (Brk.of (by decide)) _).app _) p2
      simpa using this.pr
theorem pl_gr {e : Ex} (h : WfE e) : PlE e := plE_gr _ e (Nat.le_refl _) h
end Lx
end Go.Proofs.YthjonkommphkkaaDoor
namespace Go.Proofs.YthjonkommphkkaaDoor
open Lx
namespace Lx
theorem typ_gr {t : Bytes} (h : WfT t) : ∃ u, GrT t u ∧ Pr t [u] := by
  rcases h with rfl | h
  · exact ⟨_, .inl ⟨rfl, rfl⟩, .key (by decide)⟩
  · exact ⟨_, .inr rfl, .word h⟩
theorem sp (c : UInt8) (h : isSep c = true) : Pa [c] [] := .sep (by simp [h])
theorem mk1 {x : Bytes} (h : x ∈ soloList) : Pa (x ++ [32]) [TT.mk x] := by simpa using (Pa.mark h).app (Pa.sep (A := [32]) (by decide))
theorem kw1 {x : Bytes} (h : x ∈ kwList) : Pa (x ++ [32]) [TT.kw x] := by simpa using (Pr.key h).app (Brk.of (by decide)) (Pa.sep (A := [32]) (by decide))
/-- A keyword and a parenthesis. -/
theorem kwP {x : Bytes} (h : x ∈ kwList) : Pa (x ++ [32, 40]) [TT.kw x, TT.mk [40]] := by simpa using (Pr.key h).app (Brk.of (by decide)) ((Pa.sep (A := [32]) (by decide)).app (Pa.mark (x := [40]) (by decide)))
/-- A name and its type. -/
theorem typed_gr {x t : Bytes} (hx : isIdent x = true) {u : TT} (hp : Pr t [u]) : Pr (x ++ [58, 32] ++ t) [TT.wd x, TT.mk [58], u] := by
  simpa using ((Pr.word hx).app (B := [58, 32]) (Brk.of (by decide)) (Pa.colon (x := [58]) (.inl rfl) (by decide))).appR hp
theorem eq_gr : Pa [32, 61, 32] [TT.mk [61]] := by simpa using (Pa.sep (A := [32]) (by decide)).app (Pa.colon (x := [61]) (c := 32) (.inr rfl) (by decide))
theorem semi_gr : Pa [59, 32] [TT.mk [59]] := mk1 (x := [59]) (by decide)
theorem Pr.ne {A : Bytes} {us : List TT} (h : Pr A us) (hu : us ≠ []) : A ≠ [] := by
  rintro rfl
  have := (h [] [] rfl .nil).len
  simp at this
  exact hu this
theorem plX0 (e : Ex) (l : List Ex) : plX (e :: l) 0 = plE e := rfl
theorem plX1 (e f : Ex) : plX [e, f] 1 = plE f := rfl
theorem pl_ne {e : Ex} {us : List TT} {s : Nat} (g : GrP e us s) (p : Pr (plE e) us) : plE e ≠ [] := p.ne g.ne
theorem stSz_mem {k : Int} {n t : Bytes} {es : List Ex} {b c : List St} {s : St} (h : s ∈ b ∨ s ∈ c) : stSz s < stSz (.mk k n t es b c) := by
  rw [stSz]
  rcases h with h | h <;> have := stsSz_mem h <;> omega
def PlS (s : St) : Prop := ∃ us, GrSt s us ∧ Pa (plS s) us
theorem plSs_gr : ∀ {l : List St}, (∀ s ∈ l, PlS s) → ∃ us, GrSs l us ∧ Pa (plSs l) us
  | [], _ => ⟨[], .nil, by rw [plSs]; exact .nil⟩
  | s :: l, h => by
    obtain ⟨us, g, p⟩ := h s List.mem_cons_self
    obtain ⟨vs, g2, p2⟩ := plSs_gr fun x hx => h x (List.mem_cons_of_mem _ hx)
    exact ⟨_, .cons g g2, by rw [plSs]; exact p.app p2⟩
theorem block_gr {l : List St} (h : ∀ s ∈ l, PlS s) : ∃ us, GrB l us ∧ Pa ([123, 32] ++ plSs l ++ [125, 32]) us := by
  obtain ⟨us, g, p⟩ := plSs_gr h
  refine ⟨_, .mk g, ?_⟩
  have := ((mk1 (x := [123]) (by decide)).app p).app (mk1 (x := [125]) (by decide))
  simpa using this
theorem plS_gr : ∀ (d : Nat) (s : St), stSz s ≤ d → WfS s → PlS s := by
  intro d
  induction d with
  | zero => intro s h; have := stSz_pos s; omega
  | succ d ih =>
    intro s hd hw
    cases hw with
    | var0 x t hx ht =>
      obtain ⟨u, g, p⟩ := typ_gr ht
      refine ⟨_, .var0 x t g, ?_⟩
      rw [plS, if_pos rfl, show plX [] 0 = [] from rfl, if_pos rfl]
      have := ((kw1 (x := [118, 97, 114]) (by decide)).appR (typed_gr hx p)).app (Brk.of (by decide)) semi_gr
      simpa using this
    | @var1 x t hx ht e he =>
      obtain ⟨u, g, p⟩ := typ_gr ht
      obtain ⟨us, s, ge, pe, _⟩ := pl_gr he
      refine ⟨_, .var1 x t g ge.expr, ?_⟩
      rw [plS, if_pos rfl, plX0, if_neg (pl_ne ge pe)]
      have := (((kw1 (x := [118, 97, 114]) (by decide)).appR (typed_gr hx p)).app (Brk.of (by decide)) eq_gr).appR pe
      have := this.app (Brk.of (by decide)) semi_gr
      simpa using this
    | @assign x hx e he =>
      obtain ⟨us, s, ge, pe, _⟩ := pl_gr he
      refine ⟨_, .assign x ge.expr, ?_⟩
      rw [plS, if_neg (by decide), if_pos rfl, plX0]
      have := (((Pr.word hx).app (Brk.of (by decide)) eq_gr).appR pe).app (Brk.of (by decide)) semi_gr
      simpa using this
    | @store m hm k e hk he =>
      obtain ⟨us, s, ge, pe, _⟩ := pl_gr hk
      obtain ⟨vs, t, gf, pf, _⟩ := pl_gr he
      refine ⟨_, .store ge m gf.expr, ?_⟩
      rw [plS, if_neg (by decide), if_neg (by decide), if_pos rfl, plX0, plX1]
      have := ((((pe.app (Brk.of (by decide)) (Pa.mark (x := [46]) (by decide))).appR (Pr.word hm)).app (Brk.of (by decide)) eq_gr).appR pf).app (Brk.of (by decide)) semi_gr
      simpa using this
    | @«if» e he b c hb hc =>
      obtain ⟨us, s, ge, pe, _⟩ := pl_gr he
      obtain ⟨vs, gb, pb⟩ := block_gr fun x hx => ih x (by have := stSz_mem (k := 4) (n := []) (t := []) (es := [e]) (b := b) (c := c) (.inl hx); omega) (hb x hx)
      obtain ⟨ws, gc, pc⟩ := block_gr fun x hx => ih x (by have := stSz_mem (k := 4) (n := []) (t := []) (es := [e]) (b := b) (c := c) (.inr hx); omega) (hc x hx)
      refine ⟨_, .if1 ge.expr gb gc, ?_⟩
      rw [plS, if_neg (by decide), if_neg (by decide), if_neg (by decide), if_pos rfl, plX0]
      have := (((((kwP (x := [105, 102]) (by decide)).appR pe).app (Brk.of (by decide)) (mk1 (x := [41]) (by decide))).app pb).app (kw1 (x := [101, 108, 115, 101]) (by decide))).app pc
      simpa using this
    | @«while» e he b hb =>
      obtain ⟨us, s, ge, pe, _⟩ := pl_gr he
      obtain ⟨vs, gb, pb⟩ := block_gr fun x hx => ih x (by have := stSz_mem (k := 5) (n := []) (t := []) (es := [e]) (b := b) (c := []) (.inl hx); omega) (hb x hx)
      refine ⟨_, .while ge.expr gb, ?_⟩
      rw [plS, if_neg (by decide), if_neg (by decide), if_neg (by decide), if_neg (by decide), if_pos rfl, plX0]
      have := (((kwP (x := [119, 104, 105, 108, 101]) (by decide)).appR pe).app (Brk.of (by decide)) (mk1 (x := [41]) (by decide))).app pb
      simpa using this
    | @«try» x t hx ht b c hb hc =>
      obtain ⟨u, g, p⟩ := typ_gr ht
      obtain ⟨vs, gb, pb⟩ := block_gr fun s hs => ih s (by have := stSz_mem (k := 6) (n := x) (t := t) (es := []) (b := b) (c := c) (.inl hs); omega) (hb s hs)
      obtain ⟨ws, gc, pc⟩ := block_gr fun s hs => ih s (by have := stSz_mem (k := 6) (n := x) (t := t) (es := []) (b := b) (c := c) (.inr hs); omega) (hc s hs)
      refine ⟨_, .try gb x t g gc, ?_⟩
      rw [plS, if_neg (by decide), if_neg (by decide), if_neg (by decide), if_neg (by decide), if_neg (by decide), if_pos rfl]
      have := ((((kw1 (x := [116, 114, 121]) (by decide)).app pb).app (kwP (x := [99, 97, 116, 99, 104]) (by decide))).appR (typed_gr hx p)).app (Brk.of (by decide)) (mk1 (x := [41]) (by decide))
      have := this.app pc
      simpa using this
    | @throw e he =>
      obtain ⟨us, s, ge, pe, _⟩ := pl_gr he
      refine ⟨_, .throw ge.expr, ?_⟩
      rw [plS, if_neg (by decide), if_neg (by decide), if_neg (by decide), if_neg (by decide), if_neg (by decide), if_neg (by decide), if_pos rfl, plX0]
      have := ((kw1 (x := [116, 104, 114, 111, 119]) (by decide)).appR pe).app (Brk.of (by decide)) semi_gr
      simpa using this
    | return0 =>
      refine ⟨_, .return0, ?_⟩
      rw [plS, if_neg (by decide), if_neg (by decide), if_neg (by decide), if_neg (by decide), if_neg (by decide), if_neg (by decide), if_neg (by decide), if_pos rfl, show plX [] 0 = [] from rfl]
      have := (kw1 (x := [114, 101, 116, 117, 114, 110]) (by decide)).app semi_gr
      simpa using this
    | @return1 e he =>
      obtain ⟨us, s, ge, pe, _⟩ := pl_gr he
      refine ⟨_, .return1 ge.expr, ?_⟩
      rw [plS, if_neg (by decide), if_neg (by decide), if_neg (by decide), if_neg (by decide), if_neg (by decide), if_neg (by decide), if_neg (by decide), if_pos rfl, plX0]
      have := ((kw1 (x := [114, 101, 116, 117, 114, 110]) (by decide)).appR pe).app (Brk.of (by decide)) semi_gr
      simpa using this
    | @call e he hk =>
      obtain ⟨us, s, ge, pe, hs⟩ := pl_gr he
      obtain rfl := hs hk
      refine ⟨_, .call ge, ?_⟩
      rw [plS, if_neg (by decide), if_neg (by decide), if_neg (by decide), if_neg (by decide), if_neg (by decide), if_neg (by decide), if_neg (by decide), if_neg (by decide), plX0]
      exact pe.app (Brk.of (by decide)) semi_gr
theorem plB_gr {l : List St} (h : ∀ s ∈ l, WfS s) : ∃ us, GrB l us ∧ Pa (plB l) us := block_gr fun s hs => plS_gr _ s (Nat.le_refl _) (h s hs)
theorem fld_gr {f : Fld} (h : WfF f) : ∃ u, GrT f.typ u ∧ Pr (fldText f) [TT.wd f.name, TT.mk [58], u] := by
  obtain ⟨u, g, p⟩ := typ_gr h.2
  exact ⟨u, g, typed_gr h.1 p⟩
theorem pars_gr : ∀ {l : List Fld}, (∀ f ∈ l, WfF f) → ∃ us, GrPs l us ∧ Pa ((l.flatMap fun f => [44, 32] ++ fldText f) ++ [41]) us
  | [], _ => ⟨_, .nil, Pa.mark (x := [41]) (by decide)⟩
  | f :: l, h => by
    obtain ⟨u, g, p⟩ := fld_gr (h f List.mem_cons_self)
    obtain ⟨us, g2, p2⟩ := pars_gr fun x hx => h x (List.mem_cons_of_mem _ hx)
    refine ⟨_, .cons f.name f.typ g g2, ?_⟩
    have hb : Brk ((l.flatMap fun f => [44, 32] ++ fldText f) ++ [41]) := by
      cases l with
      | nil => exact .of (by decide)
      | cons x l => exact .of (by decide)
    have := ((mk1 (x := [44]) (by decide)).appR p).app hb p2
    simpa using this
theorem parText_eq : ∀ (f : Fld) (l : List Fld), parText (f :: l) = fldText f ++ l.flatMap fun f => [44, 32] ++ fldText f
  | f, [] => by simp [parText]
  | f, g :: l => by rw [parText, parText_eq g l]; simp; simp
theorem par_gr {l : List Fld} (h : ∀ f ∈ l, WfF f) : ∃ us, GrPar l us ∧ Pa (parText l ++ [41]) us := by
  cases l with
  | nil => exact ⟨_, .nil, Pa.mark (x := [41]) (by decide)⟩
  | cons f l =>
    obtain ⟨u, g, p⟩ := fld_gr (h f List.mem_cons_self)
    obtain ⟨us, g2, p2⟩ := pars_gr fun x hx => h x (List.mem_cons_of_mem _ hx)
    refine ⟨_, .cons f.name f.typ g g2, ?_⟩
    have hb : Brk ((l.flatMap fun f => [44, 32] ++ fldText f) ++ [41]) := by
      cases l with
      | nil => exact .of (by decide)
      | cons x l => exact .of (by decide)
    rw [parText_eq, List.append_assoc]
    exact p.app hb p2
theorem plM_gr {m : Me} (h : WfM m) : ∃ us, GrMe m us ∧ Pa (plM m) us := by
  obtain ⟨n, st, ps, r, b⟩ := m
  obtain ⟨h1, h2, h3, h4⟩ := h
  simp only at h1 h2 h3 h4
  obtain ⟨us, gp, pp⟩ := par_gr h2
  obtain ⟨ws, gb, pb⟩ := plB_gr h4
  have hr : ∃ vs, GrR r vs ∧ Pa (if r = [] then [] else [58, 32] ++ r ++ [32]) vs := by
    by_cases h0 : r = []
    · subst h0; exact ⟨[], .none, by simpa using Pa.nil⟩
    · obtain ⟨u, g, p⟩ := typ_gr (h3.resolve_left h0)
      refine ⟨_, .some r g, ?_⟩
      rw [if_neg h0]
      have := ((Pa.colon (x := [58]) (c := 32) (.inl rfl) (by decide)).appR p).app (Brk.of (by decide)) (Pa.sep (A := [32]) (by decide))
      simpa using this
  obtain ⟨vs, gr, pr⟩ := hr
  have hd : GrD ⟨n, false, ps, r, b⟩ (TT.kw [100, 101, 102] :: TT.wd n :: TT.mk [40] :: (us ++ (vs ++ ws))) := .mk n gp gr gb
  have hp : Pa ([100, 101, 102, 32] ++ n ++ [40] ++ parText ps ++ [41, 32] ++ (if r = [] then [] else [58, 32] ++ r ++ [32]) ++ plB b) (TT.kw [100, 101, 102] :: TT.wd n :: TT.mk [40] :: (us ++ (vs ++ ws))) := by
    have := ((((kw1 (x := [100, 101, 102]) (by decide)).appR (Pr.word h1)).app (Brk.of (by decide)) (Pa.mark (x := [40]) (by decide))).app pp).app (Pa.sep (A := [32]) (by decide))
    have := (this.app pr).app pb
    simpa using this
  cases st with
  | false => exact ⟨_, .plain hd, by simpa [plM] using hp⟩
  | true =>
    refine ⟨_, .static hd, ?_⟩
    have := (kw1 (x := [115, 116, 97, 116, 105, 99]) (by decide)).app hp
    simpa [plM] using this
theorem flds_gr : ∀ {l : List Fld}, (∀ f ∈ l, WfF f) → ∃ us, GrFs l us ∧ Pa (l.flatMap fun f => [118, 97, 114, 32] ++ fldText f ++ [59, 32]) us
  | [], _ => ⟨_, .nil, .nil⟩
  | f :: l, h => by
    obtain ⟨u, g, p⟩ := fld_gr (h f List.mem_cons_self)
    obtain ⟨us, g2, p2⟩ := flds_gr fun x hx => h x (List.mem_cons_of_mem _ hx)
    refine ⟨_, .cons f.name f.typ g g2, ?_⟩
    have := (((kw1 (x := [118, 97, 114]) (by decide)).appR p).app (Brk.of (by decide)) semi_gr).app p2
    simpa using this
theorem meths_gr {T : Me → Bytes} (hT : ∀ m, WfM m → ∃ us, GrMe m us ∧ Pa (T m) us) : ∀ {l : List Me}, (∀ f ∈ l, WfM f) → ∃ us, GrMs l us ∧ Pa (l.flatMap T) us
  | [], _ => ⟨_, .nil, .nil⟩
  | f :: l, h => by
    obtain ⟨us, g, p⟩ := hT f (h f List.mem_cons_self)
    obtain ⟨vs, g2, p2⟩ := meths_gr hT fun x hx => h x (List.mem_cons_of_mem _ hx)
    refine ⟨_, .cons g g2, ?_⟩
    rw [List.flatMap_cons]
    exact p.app p2
theorem super_gr {s : Bytes} (h : s = [] ∨ isIdent s = true) (c : UInt8) (hc : isPart c = false) : ∃ us, GrSup s us ∧ ∀ {B : Bytes} {vs : List TT}, Pa (c :: B) vs → ∀ n, isIdent n = true → Pa (n ++ (if s = [] then [] else [32, 101, 120, 116, 101, 110, 100, 115, 32] ++ s) ++ (c :: B)) (TT.wd n :: (us ++ vs)) := by
  by_cases h0 : s = []
  · subst h0
    refine ⟨[], .none, fun hp n hn => ?_⟩
    have := (Pr.word hn).app (Brk.of hc) hp
    simpa using this
  · have hs := h.resolve_left h0
    refine ⟨_, .some s, fun hp n hn => ?_⟩
    rw [if_neg h0]
    have := ((((Pr.word hn).app (Brk.of (by decide)) (Pa.sep (A := [32]) (by decide))).app (kw1 (x := [101, 120, 116, 101, 110, 100, 115]) (by decide))).appR (Pr.word hs)).app (Brk.of hc) hp
    simpa using this
theorem plC_gr {c : Cl} (h : WfC c) : ∃ us, GrC c us ∧ Pa (plC c) us := by
  obtain ⟨n, s, fs, ms⟩ := c
  obtain ⟨h1, h2, h3, h4⟩ := h
  simp only at h1 h2 h3 h4
  obtain ⟨us, gs, ps⟩ := super_gr h2 32 (by decide)
  obtain ⟨vs, gf, pf⟩ := flds_gr h3
  obtain ⟨ws, gm, pm⟩ := meths_gr (fun m hm => plM_gr hm) h4
  refine ⟨_, .mk n gs gf gm, ?_⟩
  have hb : Pa (32 :: ([123, 32] ++ ((fs.flatMap fun f => [118, 97, 114, 32] ++ fldText f ++ [59, 32]) ++ (ms.flatMap plM ++ [125, 10])))) (TT.mk [123] :: (vs ++ (ws ++ [TT.mk [125]]))) := by
    have := ((Pa.sep (A := [32]) (by decide)).app (mk1 (x := [123]) (by decide))).app (pf.app (pm.app ((Pa.mark (x := [125]) (by decide)).app (Pa.sep (A := [10]) (by decide)))))
    simpa using this
  have := (kw1 (x := [99, 108, 97, 115, 115]) (by decide)).app (ps hb n h1)
  unfold plC
  simpa using this
theorem prog_gr {T : Cl → Bytes} (hT : ∀ c, WfC c → ∃ us, GrC c us ∧ Pa (T c) us) : ∀ {l : List Cl}, (∀ f ∈ l, WfC f) → ∃ us, GrPr l us ∧ Pa (l.flatMap T) us
  | [], _ => ⟨_, .nil, .nil⟩
  | f :: l, h => by
    obtain ⟨us, g, p⟩ := hT f (h f List.mem_cons_self)
    obtain ⟨vs, g2, p2⟩ := prog_gr hT fun x hx => h x (List.mem_cons_of_mem _ hx)
    refine ⟨_, .cons g g2, ?_⟩
    rw [List.flatMap_cons]
    exact p.app p2
/-- ParseBack, in plain Lean. -/
theorem plain_back {l : Bytes} {c : List Cl} (h : programR l = .ok c) (hl : (plP c).length ≤ 65536) : programR (plP c) = .ok c := by
  obtain ⟨hw, h0⟩ := programR_wf h
  obtain ⟨us, g, p⟩ := prog_gr (fun c hc => plC_gr hc) hw
  exact program_back p.end g hl h0
end Lx
end Go.Proofs.YthjonkommphkkaaDoor
namespace Go.Proofs.YthjonkommphkkaaDoor
open Lx Ax Go.RowKit
attribute [local simp] stepS Ax.stepT Dl.on qstep astep estep rd putE over argE ofV ofS loadA pickCells isAggD faddA fieldA partA iaddA idxA bnd binA intA strA unA convA lenA mapOf lookA findK keyD scalD storeA mupA srcA srcD upd drp Dl.hp Dl.nx CV.cs CV.one buildA placesA fillA zrep tasA ifaceD eqA eqFs eqIs range2 copyA nbeq nble nblt decEq beqI bneI beqS bneS isED Int.ofNat_inj List.getElem?_map List.getElem?_eq_getElem Option.map_some ti_int ti_i64 ti_str ti_bool ti_Exs ti_Ex ti_St ti_Sts ti_Fld ti_Flds ti_Me ti_Mes ti_Cl ti_Cls ti_So ti_Strs gd gdB callA resA op1
attribute [local simp] one1 cvE_eq cvS_eq exk exn exo exm exks drR drp nu1 nu2 nu3 nu4 nu5 nu6 nu7 nu8 nu9 nu10 nu11 nu12 nu13 bl_len cvC
attribute [local simp] sl1 wr1 Lx.St.p0 Lx.St.p1 Lx.St.p2 Lx.St.p3 Lx.St.p4 Lx.St.p5
theorem pl_E {e : Ex} (h : WfE e) (hs : exSz e ≤ 1000000) : FCall1 Tryd.prog paG 58 [.agg (cvE e)] (.str (plE e)) := (pl_both (exSz e) hs).1 e (Nat.le_refl _) h
theorem plE_ne {e : Ex} (h : WfE e) : (plE e == []) = false := by
  obtain ⟨us, s, g, p, _⟩ := pl_gr h
  simpa using pl_ne g p
set_option maxRecDepth 10000 in
set_option maxHeartbeats 32000000 in
theorem pl_stmts : ∀ d l, stsSz l ≤ d → d ≤ 1000000 → (∀ s ∈ l, WfS s) → FCall1 Tryd.prog paG 39 [.lst (l.map cvS)] (.str (plB l)) := by
  intro d
  induction d with
  | zero =>
    intro l h hb _
    have := stsSz_len l
    obtain rfl : l = [] := List.length_eq_zero_iff.mp (by omega)
    refine FCall.one paG_pu rfl rfl ?_
    refine FCall.ofBody Tryd.func39 rfl rfl fun nx => ?_
    refine gV ?_
    refine AWp.countO 0 [3, 4, 5, 6] 7 (fun i v H nx1 => v 3 = .str [123, 32] ∧ v 4 = .int .i64 i) ⟨rfl, rfl⟩ ?_
    rintro i v H nx1 hi hn1 ⟨h3, h4⟩
    obtain rfl : i = 0 := by omega
    refine gV ?_
    (refine ⟨_, (by simp [*]; rfl), ?_⟩; (try simp only [packA]))
    rfl
  | succ d ih =>
    intro l hd hb hw
    refine FCall.one paG_pu (by simp only [puL, puV, puSs]; rfl) rfl ?_
    refine FCall.ofBody Tryd.func39 rfl rfl fun nx => ?_
    have hln := stsSz_len l
    have hlen := plB_len hw
    have hB : plB l = [123, 32] ++ plSs l ++ [125, 32] := rfl
    obtain ⟨R, hR⟩ : ∃ R, R = [123, 32] ++ plSs l := ⟨_, rfl⟩
    have hRl : R.length ≤ 200000004 := by rw [hB, ← hR] at hlen; simp at hlen; omega
    rw [hB, ← hR]
    clear hlen hB
    refine gV ?_
    refine AWp.countO l.length [3, 4, 5, 6] 7 (fun i v H nx1 => ∃ out : Bytes, v 3 = .str out ∧ v 4 = .int .i64 i ∧ R = out ++ plSs (l.drop i)) ⟨[123, 32], rfl, rfl, by rw [hR]; simp⟩ ?_
    clear hR
    rintro i v H nx1 hi hn1 ⟨out, h3, h4, hR⟩
    have hol : out.length ≤ 200000004 := by have : out.length ≤ R.length := by rw [hR]; simp
                                            omega
    by_cases hb2 : i < l.length
    · have hwi := up1 hb2 (by omega)
      rw [dropAt hb2, plSs] at hR
      have hsz := stsSz_mem (List.getElem_mem hb2)
      have hws := hw _ (List.getElem_mem hb2)
      obtain ⟨s, hs⟩ : ∃ s, s = l[i] := ⟨_, rfl⟩
      rw [← hs] at hR hsz hws
      replace hs := hs.symm
      clear hw hn1 hRl
      cases hws with
      | var0 x t hx ht =>
        have lx := ident_len hx
        have lt := typ_len ht
        clear ih
        refine gV ?_
        exact ⟨by ((repeat (first | exact Keeps.base _ _ _ _ | (with_reducible exact Keeps.refl _ _ _) | (refine Keeps.put rfl ?_) | (refine Keeps.over' rfl rfl ?_)))), hb2, out ++ plS (.mk 1 x t [] [] []), by simp [putE, over, plS, plX, plB], by simp [putE, over], by rw [hR]; simp⟩
      | @var1 x t hx ht e he =>
        simp only [stSz, exsSz, stsSz] at hsz
        have lx := ident_len hx
        have lt := typ_len ht
        have hne := plE_ne he
        have hne2 : ¬ plE e = [] := by simpa using hne
        have c1 := pl_E he (by omega)
        have l1 := plE_len he
        clear ih
        refine gV ?_
        (first | refine AOpl.call1 rfl (by first | rfl | (simp [*]; done)) (by simp [*]) (by kernel_rfl) (c1) ?_ | refine ASl.callg (by first | rfl | (simp [*]; done)) (by simp [*]) (by kernel_rfl) (c1) ?_)
        refine gV ?_
        exact ⟨by ((repeat (first | exact Keeps.base _ _ _ _ | (with_reducible exact Keeps.refl _ _ _) | (refine Keeps.put rfl ?_) | (refine Keeps.over' rfl rfl ?_)))), hb2, out ++ plS (.mk 1 x t [e] [] []), by simp [putE, over, plS, plX, plB, hne2], by simp [putE, over], by rw [hR]; simp⟩
      | @assign x hx e he =>
        simp only [stSz, exsSz, stsSz] at hsz
        have lx := ident_len hx
        have c1 := pl_E he (by omega)
        have l1 := plE_len he
        clear ih
        refine gV ?_
        (first | refine AOpl.call1 rfl (by first | rfl | (simp [*]; done)) (by simp [*]) (by kernel_rfl) (c1) ?_ | refine ASl.callg (by first | rfl | (simp [*]; done)) (by simp [*]) (by kernel_rfl) (c1) ?_)
        refine gV ?_
        exact ⟨by ((repeat (first | exact Keeps.base _ _ _ _ | (with_reducible exact Keeps.refl _ _ _) | (refine Keeps.put rfl ?_) | (refine Keeps.over' rfl rfl ?_)))), hb2, out ++ plS (.mk 2 x [] [e] [] []), by simp [putE, over, plS, plX, plB], by simp [putE, over], by rw [hR]; simp⟩
      | @store m hm k e hk he =>
        simp only [stSz, exsSz, stsSz] at hsz
        have lx := ident_len hm
        have c1 := pl_E hk (by omega)
        have l1 := plE_len hk
        have c2 := pl_E he (by omega)
        have l2 := plE_len he
        clear ih
        refine gV ?_
        (first | refine AOpl.call1 rfl (by first | rfl | (simp [*]; done)) (by simp [*]) (by kernel_rfl) (c1) ?_ | refine ASl.callg (by first | rfl | (simp [*]; done)) (by simp [*]) (by kernel_rfl) (c1) ?_)
        refine gV ?_
        (first | refine AOpl.call1 rfl (by first | rfl | (simp [*]; done)) (by simp [*]) (by kernel_rfl) (c2) ?_ | refine ASl.callg (by first | rfl | (simp [*]; done)) (by simp [*]) (by kernel_rfl) (c2) ?_)
        refine gV ?_
        exact ⟨by ((repeat (first | exact Keeps.base _ _ _ _ | (with_reducible exact Keeps.refl _ _ _) | (refine Keeps.put rfl ?_) | (refine Keeps.over' rfl rfl ?_)))), hb2, out ++ plS (.mk 3 m [] [k, e] [] []), by simp [putE, over, plS, plX, plB], by simp [putE, over], by rw [hR]; simp⟩
      | @«if» e he b c hb hc =>
        simp only [stSz, exsSz] at hsz
        have c1 := pl_E he (by omega)
        have l1 := plE_len he
        have b1 := ih b (by omega) (by omega) hb
        have m1 := plB_len hb
        have b2 := ih c (by omega) (by omega) hc
        have m2 := plB_len hc
        clear ih
        refine gV ?_
        (first | refine AOpl.call1 rfl (by first | rfl | (simp [*]; done)) (by simp [*]) (by kernel_rfl) (c1) ?_ | refine ASl.callg (by first | rfl | (simp [*]; done)) (by simp [*]) (by kernel_rfl) (c1) ?_)
        refine gV ?_
        (first | refine AOpl.call1 rfl (by first | rfl | (simp [*]; done)) (by simp [*]) (by kernel_rfl) (b1) ?_ | refine ASl.callg (by first | rfl | (simp [*]; done)) (by simp [*]) (by kernel_rfl) (b1) ?_)
        refine gV ?_
        (first | refine AOpl.call1 rfl (by first | rfl | (simp [*]; done)) (by simp [*]) (by kernel_rfl) (b2) ?_ | refine ASl.callg (by first | rfl | (simp [*]; done)) (by simp [*]) (by kernel_rfl) (b2) ?_)
        refine gV ?_
        exact ⟨by ((repeat (first | exact Keeps.base _ _ _ _ | (with_reducible exact Keeps.refl _ _ _) | (refine Keeps.put rfl ?_) | (refine Keeps.over' rfl rfl ?_)))), hb2, out ++ plS (.mk 4 [] [] [e] b c), by simp [putE, over, plS, plX, plB], by simp [putE, over], by rw [hR]; simp⟩
      | @«while» e he b hb =>
        simp only [stSz, exsSz, stsSz] at hsz
        have c1 := pl_E he (by omega)
        have l1 := plE_len he
        have b1 := ih b (by omega) (by omega) hb
        have m1 := plB_len hb
        clear ih
        refine gV ?_
        (first | refine AOpl.call1 rfl (by first | rfl | (simp [*]; done)) (by simp [*]) (by kernel_rfl) (c1) ?_ | refine ASl.callg (by first | rfl | (simp [*]; done)) (by simp [*]) (by kernel_rfl) (c1) ?_)
        refine gV ?_
        (first | refine AOpl.call1 rfl (by first | rfl | (simp [*]; done)) (by simp [*]) (by kernel_rfl) (b1) ?_ | refine ASl.callg (by first | rfl | (simp [*]; done)) (by simp [*]) (by kernel_rfl) (b1) ?_)
        refine gV ?_
        exact ⟨by ((repeat (first | exact Keeps.base _ _ _ _ | (with_reducible exact Keeps.refl _ _ _) | (refine Keeps.put rfl ?_) | (refine Keeps.over' rfl rfl ?_)))), hb2, out ++ plS (.mk 5 [] [] [e] b []), by simp [putE, over, plS, plX, plB], by simp [putE, over], by rw [hR]; simp⟩
      | @«try» x t hx ht b c hb hc =>
        simp only [stSz, exsSz] at hsz
        have lx := ident_len hx
        have lt := typ_len ht
        have b1 := ih b (by omega) (by omega) hb
        have m1 := plB_len hb
        have b2 := ih c (by omega) (by omega) hc
        have m2 := plB_len hc
        clear ih
        refine gV ?_
        (first | refine AOpl.call1 rfl (by first | rfl | (simp [*]; done)) (by simp [*]) (by kernel_rfl) (b1) ?_ | refine ASl.callg (by first | rfl | (simp [*]; done)) (by simp [*]) (by kernel_rfl) (b1) ?_)
        refine gV ?_
        (first | refine AOpl.call1 rfl (by first | rfl | (simp [*]; done)) (by simp [*]) (by kernel_rfl) (b2) ?_ | refine ASl.callg (by first | rfl | (simp [*]; done)) (by simp [*]) (by kernel_rfl) (b2) ?_)
        refine gV ?_
        exact ⟨by ((repeat (first | exact Keeps.base _ _ _ _ | (with_reducible exact Keeps.refl _ _ _) | (refine Keeps.put rfl ?_) | (refine Keeps.over' rfl rfl ?_)))), hb2, out ++ plS (.mk 6 x t [] b c), by simp [putE, over, plS, plX, plB], by simp [putE, over], by rw [hR]; simp⟩
      | @throw e he =>
        simp only [stSz, exsSz, stsSz] at hsz
        have c1 := pl_E he (by omega)
        have l1 := plE_len he
        clear ih
        refine gV ?_
        (first | refine AOpl.call1 rfl (by first | rfl | (simp [*]; done)) (by simp [*]) (by kernel_rfl) (c1) ?_ | refine ASl.callg (by first | rfl | (simp [*]; done)) (by simp [*]) (by kernel_rfl) (c1) ?_)
        refine gV ?_
        exact ⟨by ((repeat (first | exact Keeps.base _ _ _ _ | (with_reducible exact Keeps.refl _ _ _) | (refine Keeps.put rfl ?_) | (refine Keeps.over' rfl rfl ?_)))), hb2, out ++ plS (.mk 7 [] [] [e] [] []), by simp [putE, over, plS, plX, plB], by simp [putE, over], by rw [hR]; simp⟩
      | return0 =>
        clear ih
        refine gV ?_
        exact ⟨by ((repeat (first | exact Keeps.base _ _ _ _ | (with_reducible exact Keeps.refl _ _ _) | (refine Keeps.put rfl ?_) | (refine Keeps.over' rfl rfl ?_)))), hb2, out ++ plS (.mk 8 [] [] [] [] []), by simp [putE, over, plS, plX, plB], by simp [putE, over], by rw [hR]; simp⟩
      | @return1 e he =>
        simp only [stSz, exsSz, stsSz] at hsz
        have c1 := pl_E he (by omega)
        have l1 := plE_len he
        clear ih
        refine gV ?_
        (first | refine AOpl.call1 rfl (by first | rfl | (simp [*]; done)) (by simp [*]) (by kernel_rfl) (c1) ?_ | refine ASl.callg (by first | rfl | (simp [*]; done)) (by simp [*]) (by kernel_rfl) (c1) ?_)
        refine gV ?_
        exact ⟨by ((repeat (first | exact Keeps.base _ _ _ _ | (with_reducible exact Keeps.refl _ _ _) | (refine Keeps.put rfl ?_) | (refine Keeps.over' rfl rfl ?_)))), hb2, out ++ plS (.mk 8 [] [] [e] [] []), by simp [putE, over, plS, plX, plB], by simp [putE, over], by rw [hR]; simp⟩
      | @call e he hk =>
        simp only [stSz, exsSz, stsSz] at hsz
        have c1 := pl_E he (by omega)
        have l1 := plE_len he
        clear ih
        refine gV ?_
        (first | refine AOpl.call1 rfl (by first | rfl | (simp [*]; done)) (by simp [*]) (by kernel_rfl) (c1) ?_ | refine ASl.callg (by first | rfl | (simp [*]; done)) (by simp [*]) (by kernel_rfl) (c1) ?_)
        refine gV ?_
        exact ⟨by ((repeat (first | exact Keeps.base _ _ _ _ | (with_reducible exact Keeps.refl _ _ _) | (refine Keeps.put rfl ?_) | (refine Keeps.over' rfl rfl ?_)))), hb2, out ++ plS (.mk 9 [] [] [e] [] []), by simp [putE, over, plS, plX, plB], by simp [putE, over], by rw [hR]; simp⟩
    · rw [dropEnd hi hb2, plSs, List.append_nil] at hR
      clear hn1
      obtain rfl : R = out := hR
      clear ih hw
      refine gV ?_
      (refine ⟨_, (by simp [*]; rfl), ?_⟩; (try simp only [packA]))
end Go.Proofs.YthjonkommphkkaaDoor
