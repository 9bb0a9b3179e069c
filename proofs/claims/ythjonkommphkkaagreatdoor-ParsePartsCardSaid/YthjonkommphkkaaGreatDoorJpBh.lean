/-
  Plain Lean: the reference's parser stays within the tokens.
-/
import Derived.Test.YthjonkommphkkaaGreatDoorJpBg
import Derived.Test.YthjonkommphkkaaGreatDoorOldAx
import Derived.Test.YthjonkommphkkaaGreatDoorTiR
set_option linter.unusedSectionVars false
set_option linter.unusedSimpArgs false
set_option linter.unnecessarySimpa false
set_option linter.unusedVariables false
namespace Go.Proofs.YthjonkommphkkaaGreatDoor
open Lx
namespace Lx
def Inn (ts : List Tok) (σ σ' : RS) : Prop := σ.i < ts.length → σ.i ≤ σ'.i ∧ σ'.i < ts.length
section
variable {ts : List Tok} {σ σ1 σ2 : RS}
theorem Inn.refl (σ : RS) : Inn ts σ σ := fun h => ⟨Nat.le_refl _, h⟩
theorem Inn.trans (h : Inn ts σ σ1) (h' : Inn ts σ1 σ2) : Inn ts σ σ2 := fun k => by
  have := h k
  have := h' this.2
  omega
theorem Inn.bad (σ : RS) (b : Bool) : Inn ts σ ⟨σ.i, b⟩ := fun h => ⟨Nat.le_refl _, h⟩
variable (hT : TWR ts)
include hT
theorem at_in {x : Bytes} (hx : x ≠ []) (h : atB ts σ x = true) : Inn ts σ ⟨σ.i + 1, false⟩ := fun k => ⟨by simp, hT.wf.next_text k hx (atB_true h).2⟩
theorem skip_in {x : Bytes} (hx : x ≠ []) : Inn ts σ (skipS ts σ x) := by
  cases h : atB ts σ x with
  | true => rw [skipS_true h]; exact at_in hT hx h
  | false => rw [skipS_false h]; exact .refl _
theorem must_in {x : Bytes} (hx : x ≠ []) : Inn ts σ (mustS ts σ x) := by
  unfold mustS
  split
  · rename_i h; exact at_in hT hx h
  · exact .bad _ _
theorem name_in : Inn ts σ (qName ts σ).2 := by
  unfold qName
  split
  · rename_i h
    exact fun k => ⟨by simp, hT.wf.next_kind k (by rw [h.2]; decide)⟩
  · exact .bad _ _
theorem typ_in : Inn ts σ (qTyp ts σ).2 := by
  unfold qTyp
  split
  · rename_i h; exact at_in hT (by decide) h
  · exact name_in hT
section
variable {E : RS → Ex × RS} (hE : ∀ σ, Inn ts σ (E σ).2)
include hE
theorem listLoop_in : ∀ n acc σ, Inn ts σ (qListLoop ts E n acc σ).2 := by
  intro n
  induction n with
  | zero => intro acc σ; exact .bad _ _
  | succ n ih =>
    intro acc σ
    unfold qListLoop
    split
    · rename_i h; exact (at_in hT (by decide) h).trans ((hE _).trans (ih _ _))
    · exact must_in hT (by decide)
theorem list1_in (l : List Ex) : Inn ts σ (qList1 ts E l σ).2 := by
  unfold qList1
  split
  · rename_i h; exact at_in hT (by decide) h
  split
  · exact .refl _
  · exact (hE _).trans (listLoop_in hT hE _ _ _)
theorem list_in (l : List Ex) : Inn ts σ (qList ts E l σ).2 := (must_in hT (by decide)).trans (list1_in hT hE l)
omit hE in
theorem unit_in : Inn ts σ (qUnit ts σ) := (must_in hT (by decide)).trans (must_in hT (by decide))
omit hE in
theorem minus_in {i : Nat} : Inn ts ⟨i, false⟩ (qMinus ts i).2 := by
  unfold qMinus
  split
  · rename_i h
    exact fun k => ⟨by simp, hT.wf.next_kind k (by rw [h.1]; decide)⟩
  · exact .bad ⟨i, false⟩ _
theorem named_in : Inn ts σ (qNamed ts E σ).2 := by
  unfold qNamed
  refine (name_in hT).trans ?_
  unfold qNamed1
  split
  · rename_i h; exact (at_in hT (by decide) h).trans ((name_in hT).trans (list_in hT hE _))
  · exact .refl _
theorem atom_in : Inn ts σ (qAtom ts E σ).2 := by
  unfold qAtom
  split
  · exact .refl _
  split
  · rename_i h; exact (at_in hT (by decide) h).trans (minus_in hT)
  split
  · rename_i h; exact fun k => ⟨by simp, hT.wf.next_kind k (by rw [h]; decide)⟩
  split
  · rename_i h; exact at_in hT (by decide) h
  split
  · rename_i h; exact at_in hT (by decide) h
  split
  · rename_i h; exact (at_in hT (by decide) h).trans (unit_in hT)
  split
  · rename_i h; exact (at_in hT (by decide) h).trans ((name_in hT).trans (unit_in hT))
  split
  · rename_i h; exact (at_in hT (by decide) h).trans ((hE _).trans (must_in hT (by decide)))
  · exact named_in hT hE
theorem dot_in (e : Ex) (n : Bytes) : Inn ts σ (qDot ts E e n σ).2 := by
  unfold qDot
  split
  · exact list_in hT hE _
  · exact .refl _
theorem postLoop_in : ∀ n e σ, Inn ts σ (qPostLoop ts E n e σ).2 := by
  intro n
  induction n with
  | zero => intro e σ; exact .bad _ _
  | succ n ih =>
    intro e σ
    unfold qPostLoop
    split
    · rename_i h; exact (at_in hT (by decide) h).trans ((name_in hT).trans ((dot_in hT hE _ _).trans (ih _ _)))
    · exact .refl _
theorem post_in : Inn ts σ (qPost ts E σ).2 := (atom_in hT hE).trans (postLoop_in hT hE _ _ _)
theorem prodLoop_in : ∀ n e σ, Inn ts σ (qProdLoop ts E n e σ).2 := by
  intro n
  induction n with
  | zero => intro e σ; exact .bad _ _
  | succ n ih =>
    intro e σ
    unfold qProdLoop
    split
    · rename_i h; exact (at_in hT (by decide) h).trans ((post_in hT hE).trans (ih _ _))
    · exact .refl _
theorem prod_in : Inn ts σ (qProd ts E σ).2 := (post_in hT hE).trans (prodLoop_in hT hE _ _ _)
theorem sumLoop_in : ∀ n e σ, Inn ts σ (qSumLoop ts E n e σ).2 := by
  intro n
  induction n with
  | zero => intro e σ; exact .bad _ _
  | succ n ih =>
    intro e σ
    unfold qSumLoop
    split
    · rename_i h; exact (at_in hT (by decide) h).trans ((prod_in hT hE).trans (ih _ _))
    split
    · rename_i h; exact (at_in hT (by decide) h).trans ((prod_in hT hE).trans (ih _ _))
    · exact .refl _
theorem sum_in : Inn ts σ (qSum ts E σ).2 := (prod_in hT hE).trans (sumLoop_in hT hE _ _ _)
theorem exprW_in : Inn ts σ (qExprW ts E σ).2 := by
  unfold qExprW
  refine (sum_in hT hE).trans ?_
  unfold qExpr1
  split
  · rename_i h; exact (at_in hT (by decide) h).trans (sum_in hT hE)
  split
  · rename_i h; exact (at_in hT (by decide) h).trans (sum_in hT hE)
  · exact .refl _
end
theorem expr_in : ∀ f σ, Inn ts σ (qExpr ts f σ).2 := by
  intro f
  induction f with
  | zero => intro σ; exact .bad _ _
  | succ f ih => intro σ; exact exprW_in hT ih
theorem E_in : Inn ts σ (qE ts σ).2 := expr_in hT _ _
theorem P_in : Inn ts σ (qP ts σ).2 := post_in hT (expr_in hT _)
theorem other_in : Inn ts σ (qOther ts σ).2 := by
  unfold qOther
  split
  · exact P_in hT
  refine (P_in hT).trans ?_
  unfold qOther1
  split
  · rename_i h; exact (at_in hT (by decide) h.2.2).trans ((E_in hT).trans (must_in hT (by decide)))
  split
  · rename_i h; exact (at_in hT (by decide) h.2.2).trans ((E_in hT).trans (must_in hT (by decide)))
  split
  · rename_i h; exact at_in hT (by decide) h.2.2
  · exact .bad _ _
theorem param_in : Inn ts σ (qParam ts σ).2 := (name_in hT).trans ((must_in hT (by decide)).trans (typ_in hT))
theorem cond_in : Inn ts σ (qCond ts σ).2 := (must_in hT (by decide)).trans ((E_in hT).trans (must_in hT (by decide)))
section
variable {B : RS → List St × RS} (hB : ∀ σ, Inn ts σ (B σ).2)
theorem var_in : Inn ts σ (qVar ts σ).2 := by
  unfold qVar qVar2
  refine (param_in hT).trans ?_
  unfold qVar3
  split
  · rename_i h; exact (at_in hT (by decide) h).trans ((E_in hT).trans (must_in hT (by decide)))
  · exact must_in hT (by decide)
theorem throw_in : Inn ts σ (qThrow ts σ).2 := (E_in hT).trans (must_in hT (by decide))
theorem return_in : Inn ts σ (qReturn ts σ).2 := by
  unfold qReturn
  split
  · rename_i h; exact at_in hT (by decide) h
  · exact throw_in hT
include hB
theorem if_in : Inn ts σ (qIf ts B σ).2 := by
  unfold qIf
  refine (cond_in hT).trans ((hB _).trans ?_)
  unfold qIf2
  split
  · rename_i h; exact (at_in hT (by decide) h).trans (hB _)
  · exact .refl _
theorem while_in : Inn ts σ (qWhile ts B σ).2 := (cond_in hT).trans (hB _)
theorem try_in : Inn ts σ (qTry ts B σ).2 :=
  (hB _).trans ((must_in hT (by decide)).trans ((must_in hT (by decide)).trans ((name_in hT).trans ((must_in hT (by decide)).trans ((typ_in hT).trans ((must_in hT (by decide)).trans (hB _)))))))
theorem stmtW_in : Inn ts σ (qStmtW ts B σ).2 := by
  unfold qStmtW
  split
  · rename_i h; exact (at_in hT (by decide) h).trans (var_in hT)
  split
  · rename_i h; exact (at_in hT (by decide) h).trans (if_in hT hB)
  split
  · rename_i h; exact (at_in hT (by decide) h).trans (while_in hT hB)
  split
  · rename_i h; exact (at_in hT (by decide) h).trans (try_in hT hB)
  split
  · rename_i h; exact (at_in hT (by decide) h).trans (throw_in hT)
  split
  · rename_i h; exact (at_in hT (by decide) h).trans (return_in hT)
  · exact other_in hT
end
theorem blockLoop_in {S : RS → St × RS} (hS : ∀ σ, Inn ts σ (S σ).2) : ∀ n acc σ, Inn ts σ (qBlockLoop ts S n acc σ).2 := by
  intro n
  induction n with
  | zero => intro acc σ; exact .bad _ _
  | succ n ih =>
    intro acc σ
    unfold qBlockLoop
    split
    · exact .refl _
    split
    · rename_i h; exact at_in hT (by decide) h
    · exact (hS _).trans (ih _ _)
theorem block_in : ∀ f σ, Inn ts σ (qBlock ts f σ).2 := by
  intro f
  induction f with
  | zero => intro σ; exact .bad _ _
  | succ f ih => intro σ; exact (must_in hT (by decide)).trans (blockLoop_in hT (fun σ => stmtW_in hT ih) _ _ _)
theorem B_in : Inn ts σ (qB ts σ).2 := block_in hT _ _
theorem field_in : Inn ts σ (qField ts σ).2 := (must_in hT (by decide)).trans ((param_in hT).trans (must_in hT (by decide)))
theorem paramsLoop_in : ∀ n acc σ, Inn ts σ (qParamsLoop ts n acc σ).2 := by
  intro n
  induction n with
  | zero => intro acc σ; exact .bad _ _
  | succ n ih =>
    intro acc σ
    unfold qParamsLoop
    split
    · rename_i h; exact (at_in hT (by decide) h).trans ((param_in hT).trans (ih _ _))
    · exact must_in hT (by decide)
theorem params_in : Inn ts σ (qParams ts σ).2 := by
  unfold qParams
  split
  · rename_i h; exact at_in hT (by decide) h
  split
  · exact .refl _
  · exact (param_in hT).trans (paramsLoop_in hT _ _ _)
theorem result_in : Inn ts σ (qResult ts σ).2 := by
  unfold qResult
  split
  · rename_i h; exact (at_in hT (by decide) h).trans (typ_in hT)
  · exact .refl _
theorem method_in : Inn ts σ (qMethod ts σ).2 :=
  (skip_in hT (by decide)).trans ((must_in hT (by decide)).trans ((name_in hT).trans ((must_in hT (by decide)).trans ((params_in hT).trans ((result_in hT).trans (B_in hT))))))
theorem fieldsLoop_in : ∀ n acc σ, Inn ts σ (qFieldsLoop ts n acc σ).2 := by
  intro n
  induction n with
  | zero => intro acc σ; exact .bad _ _
  | succ n ih =>
    intro acc σ
    unfold qFieldsLoop
    split
    · exact (field_in hT).trans (ih _ _)
    · exact .refl _
theorem methodsLoop_in : ∀ n acc σ, Inn ts σ (qMethodsLoop ts n acc σ).2 := by
  intro n
  induction n with
  | zero => intro acc σ; exact .bad _ _
  | succ n ih =>
    intro acc σ
    unfold qMethodsLoop
    split
    · exact (method_in hT).trans (ih _ _)
    · exact .refl _
theorem super_in : Inn ts σ (qSuper ts σ).2 := by
  unfold qSuper
  split
  · rename_i h; exact (at_in hT (by decide) h).trans (name_in hT)
  · exact .refl _
theorem class_in : Inn ts σ (qClass ts σ).2 :=
  (must_in hT (by decide)).trans ((name_in hT).trans ((super_in hT).trans ((must_in hT (by decide)).trans ((fieldsLoop_in hT _ _ _).trans ((methodsLoop_in hT _ _ _).trans (must_in hT (by decide)))))))
/-! what reads on -/
omit hT in
theorem stp_lt {α : Type} {s : Nat → PR α} {x : α} (h : Stp s σ x σ1) (ha : ∀ i r j, s i = .ok (r, j) → i < j) : σ1.bad = true ∨ σ.i < σ1.i := by
  cases hb : σ1.bad with
  | true => exact .inl rfl
  | false => exact .inr (ha _ _ _ (h.good hb).2)
end
end Lx
end Go.Proofs.YthjonkommphkkaaGreatDoor
set_option linter.unusedSimpArgs false
set_option linter.unusedVariables false
namespace Go.Proofs.YthjonkommphkkaaGreatDoor
open Lx Ax
/-! long words as lemmas: their tactics are side goals -/
section
variable {P : Program} {G : Nat → CV} {n : Nat} {e : Env} {H : Heap} {nx nx0 kp ne : Nat} {Q : AExit → Env → Heap → Nat → Prop} {ops : Array Oper} {os : List Oper} {d : Option Nat} {op : Op} {ty : TypeId} {pos : String} {af : Array Edge} {g : Option (Nat × Bool)} {K : Env → Heap → Nat → Prop} {f : FuncId} {args : List CV} {b : Nat} {cs : List CV} {v : CV} {cs' : List CV}
theorem gB (hc : B1 P G f args b cs v cs') (h : AOpl P G n ops os (putE e d v) (upd H b (.cells cs')) nx Q) (hd : okD n d = true := by exact rfl) (hg : gd ops e ⟨d, op, ty, pos, af, g⟩ = some true := by first | rfl | (simp [*]; done)) (hq : callA (rd G e) op = some (f, args) := by simp [*]) (he : enters P f = true := by kernel_rfl) (hH : H b = some (.cells cs) := by simp [*]) : AOpl P G n ops (⟨d, op, ty, pos, af, g⟩ :: os) e H nx Q := AOpl.callB hd hg hq he hc hH h
theorem gBc (hc : B1 P G f args b cs v cs') (h : ASlC P G b nx0 (kp + 1) ops os (putE e d v) (upd H b (.cells cs')) ne K) (hg : gd ops e ⟨d, op, ty, pos, af, g⟩ = some true := by first | rfl | (simp [*]; done)) (hq : callA (rd G e) op = some (f, args) := by simp [*]) (he : enters P f = true := by kernel_rfl) (hH : H b = some (.cells cs) := by simp [*]) : ASlC P G b nx0 kp ops (⟨d, op, ty, pos, af, g⟩ :: os) e H ne K := ASlC.callB1 hg hq he hc hH h
end
mutual
theorem puE : ∀ e : Ex, puL (cvE e) = true
  | .mk k n o m ks => by rw [cvE_mk]; simp [puL, puV, puEs ks]
theorem puEs : ∀ l : List Ex, puR (l.map cvE) = true
  | [] => rfl
  | e :: l => by simp [puR, puE e, puEs l]
end
mutual
theorem puS : ∀ s : St, puL (cvS s) = true
  | .mk k nm ty es b el => by rw [cvS_mk]; simp [puL, puV, puEs es, puSs b, puSs el]
theorem puSs : ∀ l : List St, puR (l.map cvS) = true
  | [] => rfl
  | e :: l => by simp [puR, puS e, puSs l]
end
theorem puRm {α : Type} {cv : α → List CV} (h : ∀ a, puL (cv a) = true) (l : List α) : puR (l.map cv) = true := by
  induction l with
  | nil => rfl
  | cons a l ih => simp [puR, h a, ih]
theorem puF (f : Fld) : puL (cvF f) = true := rfl
theorem puM (m : Me) : puL (cvM m) = true := by simp [cvM, puL, puV, puRm puF, puSs]
theorem puC (c : Cl) : puL (cvC c) = true := by simp [cvC, puL, puV, puRm puF, puRm puM]
theorem puT (t : Tok) : puL (cvT t) = true := rfl
def psC (ts : List Tok) (σ : RS) : List CV := [.lst (ts.map cvT), .int .i64 σ.i, .bool σ.bad]
theorem puP (ts : List Tok) (σ : RS) : puL (psC ts σ) = true := by simp [psC, puL, puV, puRm puT]
/-- The reference's parser reads no package-level variable. -/
def paG : Nat → CV := fun _ => .any
theorem paG_pu (g : Nat) : puV (paG g) = true := rfl
theorem paG_rg (M : Mp) : RG paG M := fun _ => .any _
/-- A rule: what it gives, and the state behind. -/
def RC (ts : List Tok) (f : FuncId) (extra : List CV) {α : Type} (cv : α → CV) (q : RS → α × RS) (σ : RS) : Prop :=
  ∀ b, B1 Tryz.prog paG f (.ptr b 0 :: extra) b (psC ts σ) (cv (q σ).1) (psC ts (q σ).2)
theorem dec2 (a : Nat) : decide ((a : Int) = 2) = decide (a = 2) := by rw [decide_eq_decide]; omega
theorem dec4 (a : Nat) : decide ((a : Int) = 4) = decide (a = 4) := by rw [decide_eq_decide]; omega
theorem wrap_up {i N : Nat} (h : i < N) (hn : N ≤ maxLen) : IntKind.i64.wrap ((i : Int) + 1) = ((i + 1 : Nat) : Int) := by
  rw [IntKind.wrap_i64]; simp only [maxLen] at hn; omega
theorem tk_at {ts : List Tok} {i : Nat} (h : i < ts.length) : ts[i]? = some (tk ts i) := by rw [tk_get _ _ h]; exact List.getElem?_eq_getElem h
theorem at_kind {ts : List Tok} (hT : TWR ts) {σ : RS} {x : Bytes} (hx : x ∈ kmList) : atB ts σ x = (!σ.bad && (decide ((tk ts σ.i).kind = 2) || decide ((tk ts σ.i).kind = 4)) && decide ((tk ts σ.i).text = x)) := by
  unfold atB
  cases σ.bad with
  | true => rfl
  | false =>
    cases h : isT ts σ.i x with
    | true =>
      have h2 := hT.km _ _ hx h
      unfold isT at h
      have h3 := eq_of_beq h
      rcases h2 with h2 | h2 <;> simp [h2, h3]
    | false =>
      unfold isT at h
      have := beq_eq_false_iff_ne.1 h
      simp [this]
end Go.Proofs.YthjonkommphkkaaGreatDoor
namespace Go.Proofs.YthjonkommphkkaaGreatDoor
open Lx Ax Go.RowKit
attribute [local simp] stepS Ax.stepT Dl.on qstep astep estep rd putE over argE ofV ofS loadA pickCells isAggD faddA fieldA partA iaddA idxA bnd binA intA strA unA convA bltA lenA mapOf lookA findK keyD scalD storeA mupA appA srcA srcD upd drp Dl.hp Dl.nx CV.cs CV.one buildA placesA fillA zrep tasA ifaceD eqA eqFs eqIs range2 copyA nbeq nble nblt decEq beqI bneI beqS bneS isED Int.ofNat_inj List.getElem?_map List.getElem?_eq_getElem Option.map_some ti_int ti_i64 ti_str ti_bool ti_Toks ti_Tok ti_Pp gd gdB callA resA op1
attribute [local simp] psC cvT one1 nu1 nu2 nu3 nu4 nu5 nu6 nu7 nu8 nu9 nu10 nu11 nu12 nu13
theorem int_km : [105, 110, 116] ∈ kmList := by decide
section
variable {ts : List Tok} (hT : TWR ts)
include hT
set_option maxRecDepth 10000 in
set_option maxHeartbeats 4000000 in
theorem rp_at (x : Bytes) (hx : x ∈ kmList) (σ : RS) (hi : σ.i < ts.length) : RC ts 48 [.str x] .bool (fun σ => (atB ts σ x, σ)) σ := by
  intro b
  refine B1.ofBody paG_pu rfl (puP _ _) (puP _ _) rfl Tryz.func48 rfl rfl fun nx hlt q => ?_
  have ht := tk_at hi
  have hk := at_kind hT (σ := σ) hx
  obtain ⟨z, hz⟩ : ∃ z, z = atB ts σ x := ⟨_, rfl⟩
  rw [← hz] at hk
  simp only [← hz]
  rw [tk_get _ _ hi] at hk
  repeat (first | (first | (apply AOpl.step; rfl) | apply ASl.step); focus simp [*, -Option.some.injEq]; rfl | (first | (apply AOpl.stepG; rfl) | apply ASl.stepG); (focus simp [*]; done); focus simp [*, -Option.some.injEq]; rfl | (first | (apply AOpl.pass; rfl) | apply ASl.pass); (focus simp [*]; done) | (first | refine AOpl.nil ?_ | refine AWp.skip ?_ | refine AWp.exit ?_ | refine AWp.ret ?_ | refine ASl.nil ?_); try simp only [Then, InBlock, reduceIte, Nat.reduceEqDiff] | refine AWp.seq ?_ | refine AWp.reg rfl ?_ | refine AWp.block ?_ | apply AWp.condT; focus simp [*]; done | apply AWp.condF; focus simp [*]; done | refine AWp.regT (by kernel_rfl) (by kernel_rfl) rfl rfl ?_ | (first | (apply AOpl.pickOr; rfl) | (apply AOpl.pickAnd; rfl)); (focus (simp [*, -Ax.CV.bool.injEq]; rfl)); (focus (intro hq; (try simp only [Bool.not_eq_true', Bool.not_eq_false', decide_eq_true_eq, decide_eq_false_iff_not, Bool.and_eq_true, Bool.or_eq_false_iff] at hq); simp [*, -Ax.CV.bool.injEq]; rfl)) | (first | (apply AOpl.pickOrC; rfl) | (apply AOpl.pickAndC; rfl)); (focus (simp [*, -Ax.CV.bool.injEq, -Option.some.injEq]; rfl)); (focus (intro hq; (try simp only [Bool.not_eq_true', Bool.not_eq_false', decide_eq_true_eq, decide_eq_false_iff_not, Bool.and_eq_true, Bool.or_eq_false_iff] at hq); simp [*, -Ax.CV.bool.injEq]; rfl)); (focus (intro hp hq; (try simp only [Bool.not_eq_true', Bool.not_eq_false', decide_eq_true_eq, decide_eq_false_iff_not, Bool.and_eq_true, Bool.or_eq_false_iff] at hp hq); simp [*, -Ax.CV.bool.injEq]; rfl)) | (apply AOpl.passC; rfl); focus simp [*, -Ax.CV.bool.injEq]; done | (apply AOpl.lookC; rfl); (focus (simp [*, -Ax.CV.bool.injEq, -Option.some.injEq]; rfl)); focus intro _; simp [*, -Option.some.injEq]; rfl)
  (refine ⟨_, (by simp [*]; rfl), ?_⟩; (try simp only [packA]))
  refine ⟨?_, by simp [upd, q]⟩
  rw [hk]
  simp only [dec2, dec4]
set_option maxRecDepth 10000 in
set_option maxHeartbeats 4000000 in
theorem rp_skip (x : Bytes) (hx : x ∈ kmList) (σ : RS) (hi : σ.i < ts.length) : RC ts 66 [.str x] .bool (fun σ => (atB ts σ x, skipS ts σ x)) σ := by
  intro b
  refine B1.ofBody paG_pu rfl (puP _ _) (puP _ _) rfl Tryz.func66 rfl rfl fun nx hlt q => ?_
  have hl := hT.wf.len
  have hw : IntKind.i64.wrap ((σ.i : Int) + 1) = ((σ.i + 1 : Nat) : Int) := wrap_up hi (by simp only [maxLen]; omega)
  have hc := rp_at hT x hx σ hi b
  cases hz : atB ts σ x with
  | true =>
    have hb := atB_true hz
    simp only [hz] at hc ⊢
    rw [skipS_true hz]
    refine gW ?_
    refine gB (hc) ?_
    refine gW ?_
    (refine ⟨_, (by simp [*]; rfl), ?_⟩; (try simp only [packA]))
    simp [upd, q, hb.1]
  | false =>
    simp only [hz] at hc ⊢
    rw [skipS_false hz]
    refine gW ?_
    refine gB (hc) ?_
    refine gW ?_
    (refine ⟨_, (by simp [*]; rfl), ?_⟩; (try simp only [packA]))
    simp [upd, q]
set_option maxRecDepth 10000 in
set_option maxHeartbeats 4000000 in
theorem rp_must (x : Bytes) (hx : x ∈ kmList) (σ : RS) (hi : σ.i < ts.length) : RC ts 64 [.str x] (fun _ : Unit => .tup []) (fun σ => ((), mustS ts σ x)) σ := by
  intro b
  refine B1.ofBody paG_pu rfl (puP _ _) (puP _ _) rfl Tryz.func64 rfl rfl fun nx hlt q => ?_
  have hc := rp_skip hT x hx σ hi b
  cases hz : atB ts σ x with
  | true =>
    have hb := atB_true hz
    simp only [hz, skipS_true hz] at hc
    simp only [mustS, hz, if_true]
    refine gW ?_
    refine gB (hc) ?_
    refine gW ?_
    (refine ⟨_, (by simp [*]; rfl), ?_⟩; (try simp only [packA]))
    simp [upd, q]
  | false =>
    simp only [hz, skipS_false hz] at hc
    simp only [mustS, hz, Bool.false_eq_true, if_false]
    refine gW ?_
    refine gB (hc) ?_
    refine gW ?_
    (refine ⟨_, (by simp [*]; rfl), ?_⟩; (try simp only [packA]))
    simp [upd, q]
set_option maxRecDepth 10000 in
set_option maxHeartbeats 4000000 in
theorem rp_name (σ : RS) (hi : σ.i < ts.length) : RC ts 65 [] .str (qName ts) σ := by
  intro b
  refine B1.ofBody paG_pu rfl (puP _ _) (puP _ _) rfl Tryz.func65 rfl rfl fun nx hlt q => ?_
  have ht := tk_at hi
  have hl := hT.wf.len
  have hw : IntKind.i64.wrap ((σ.i : Int) + 1) = ((σ.i + 1 : Nat) : Int) := wrap_up hi (by simp only [maxLen]; omega)
  have he := tk_get _ _ hi
  cases hb : σ.bad with
  | true =>
    have hq : qName ts σ = ([], ⟨σ.i, true⟩) := by unfold qName; rw [if_neg (by simp [hb])]
    rw [hq]
    refine gW ?_
    (refine ⟨_, (by simp [*]; rfl), ?_⟩; (try simp only [packA]))
    simp [upd, q]
  | false =>
    by_cases hk : ts[σ.i].kind = 1
    · have hq : qName ts σ = (ts[σ.i].text, ⟨σ.i + 1, false⟩) := by unfold qName; rw [if_pos ⟨hb, by rw [he]; exact hk⟩, he]
      rw [hq]
      have hk' : (ts[σ.i].kind : Int) = 1 := by omega
      refine gW ?_
      (refine ⟨_, (by simp [*]; rfl), ?_⟩; (try simp only [packA]))
      simp [upd, q]
    · have hq : qName ts σ = ([], ⟨σ.i, true⟩) := by unfold qName; rw [if_neg (by rw [he]; exact fun h => hk h.2)]
      rw [hq]
      have hk' : ¬ (ts[σ.i].kind : Int) = 1 := by omega
      refine gW ?_
      (refine ⟨_, (by simp [*]; rfl), ?_⟩; (try simp only [packA]))
      simp [upd, q]
set_option maxRecDepth 10000 in
set_option maxHeartbeats 4000000 in
theorem rp_typ (σ : RS) (hi : σ.i < ts.length) : RC ts 73 [] .str (qTyp ts) σ := by
  intro b
  refine B1.ofBody paG_pu rfl (puP _ _) (puP _ _) rfl Tryz.func73 rfl rfl fun nx hlt q => ?_
  have hc := rp_skip hT _ int_km σ hi b
  have hn := rp_name hT σ hi b
  cases hz : atB ts σ [105, 110, 116] with
  | true =>
    simp only [hz, skipS_true hz] at hc
    simp only [qTyp, hz, if_true]
    refine gW ?_
    refine gB (hc) ?_
    refine gW ?_
    (refine ⟨_, (by simp [*]; rfl), ?_⟩; (try simp only [packA]))
    simp [upd, q]
  | false =>
    simp only [hz, skipS_false hz] at hc
    simp only [qTyp, hz, Bool.false_eq_true, if_false]
    refine gW ?_
    refine gB (hc) ?_
    refine gW ?_
    refine gB (hn) ?_
    refine gW ?_
    (refine ⟨_, (by simp [*]; rfl), ?_⟩; (try simp only [packA]))
    simp [upd, q]
end
end Go.Proofs.YthjonkommphkkaaGreatDoor
namespace Go.Proofs.YthjonkommphkkaaGreatDoor
open Lx Ax
theorem cvE_eq (e : Ex) : cvE e = [.int .i64 e.kind, .int .i64 e.n, .str e.of, .str e.name, .lst (e.kids.map cvE)] := by cases e; rw [cvE_mk]; rfl
theorem exk (k n : Int) (o m : Bytes) (ks : List Ex) : Ex.kind (.mk k n o m ks) = k := rfl
theorem exn (k n : Int) (o m : Bytes) (ks : List Ex) : Ex.n (.mk k n o m ks) = n := rfl
theorem exo (k n : Int) (o m : Bytes) (ks : List Ex) : Ex.of (.mk k n o m ks) = o := rfl
theorem exm (k n : Int) (o m : Bytes) (ks : List Ex) : Ex.name (.mk k n o m ks) = m := rfl
theorem exks (k n : Int) (o m : Bytes) (ks : List Ex) : Ex.kids (.mk k n o m ks) = ks := rfl
theorem drR {α : Type} (f : Nat → α) (k : Nat) : List.drop k (List.map f (List.range k)) = [] := by simp
theorem sepE {H : Heap} {nx b : Nat} {c : CV} {acc : List Ex} {ts : List Tok} {z1 z2 : CV} (ho : OwnL cvE 5 H nx c acc) (hb : H b = some (.cells [.lst (ts.map cvT), z1, z2])) : ∀ o m j, c ≠ .sl b o m j := by
  rintro o m j rfl
  rcases ho with ⟨_, h⟩ | ⟨b2, h1, h2, _⟩
  · cases h
  · cases h1
    rw [hb] at h2
    cases acc with
    | nil => simp at h2
    | cons a l => rw [List.flatMap_cons, cvE_eq] at h2; simp at h2
theorem _root_.Go.Proofs.YthjonkommphkkaaGreatDoor.Ax.OwnL.upd' {α : Type} {cv : α → List CV} {k : Nat} {H : Heap} {nx b : Nat} {c : CV} {l : List α} {k0 : CB} (ho : OwnL cv k H nx c l) (hb : H b = some k0) (kk : CB) (hs : ∀ o m j, c ≠ .sl b o m j) : OwnL cv k (Ax.upd H b kk) nx c l := by
  rcases ho with h | ⟨x, h1, h2, h3⟩
  · exact .inl h
  · refine .inr ⟨x, h1, ?_, h3⟩
    rw [upd_miss _ _ _ _ (fun e => hs 0 l.length k (by rw [h1, e]))]; exact h2
theorem lp_km : [40] ∈ kmList := by decide
theorem rp_km : [41] ∈ kmList := by decide
theorem cm_km : [44] ∈ kmList := by decide
end Go.Proofs.YthjonkommphkkaaGreatDoor
namespace Go.Proofs.YthjonkommphkkaaGreatDoor
open Lx Ax Go.RowKit
attribute [local simp] stepS Ax.stepT Dl.on qstep astep estep rd putE over argE ofV ofS loadA pickCells isAggD faddA fieldA partA iaddA idxA bnd binA intA strA unA convA bltA lenA mapOf lookA findK keyD scalD storeA mupA srcA srcD upd drp Dl.hp Dl.nx CV.cs CV.one buildA placesA fillA zrep tasA ifaceD eqA eqFs eqIs range2 copyA nbeq nble nblt decEq beqI bneI beqS bneS isED Int.ofNat_inj List.getElem?_map List.getElem?_eq_getElem Option.map_some ti_int ti_i64 ti_str ti_bool ti_Toks ti_Tok ti_Pp ti_Exs ti_Ex gd gdB callA resA op1
attribute [local simp] psC cvT one1 cvE_eq exk exn exo exm exks drR drpC nu1 nu2 nu3 nu4 nu5 nu6 nu7 nu8 nu9 nu10 nu11 nu12 nu13
set_option maxRecDepth 10000 in
set_option maxHeartbeats 4000000 in
theorem rp_bin (op : Int) (a c : Ex) : FCall1 Tryz.prog paG 80 [.int .i64 op, .agg (cvE a), .agg (cvE c)] (.agg (cvE (binE op a c))) := by
  refine FCall.one paG_pu (by simp only [puL, puV, puE]; rfl) (by simp only [puV, puE]) ?_
  refine FCall.ofBody Tryz.func80 rfl rfl fun nx => ?_
  refine AWp.seq ?_
  refine AWp.reg rfl ?_
  iterate 3 (first | (first | (apply AOpl.step; rfl) | apply ASl.step); focus simp [*, -Option.some.injEq]; rfl | (first | (apply AOpl.stepG; rfl) | apply ASl.stepG); (focus simp [*]; done); focus simp [*, -Option.some.injEq]; rfl | (first | (apply AOpl.pass; rfl) | apply ASl.pass); (focus simp [*]; done))
  refine AOpl.nil ?_
  simp only [Then]
  refine AWp.seq ?_
  refine AWp.reg rfl ?_
  iterate 4 (first | (first | (apply AOpl.step; rfl) | apply ASl.step); focus simp [*, -Option.some.injEq]; rfl | (first | (apply AOpl.stepG; rfl) | apply ASl.stepG); (focus simp [*]; done); focus simp [*, -Option.some.injEq]; rfl | (first | (apply AOpl.pass; rfl) | apply ASl.pass); (focus simp [*]; done))
  refine AOpl.frzL cvE_len 10 (l := [a, c]) rfl (.inr ⟨nx + 1 + 1 + 1, rfl, by simp [upd], by omega⟩) ?_
  refine gW ?_
  (refine ⟨_, (by simp [*]; rfl), ?_⟩; (try simp only [packA]))
  simp [binE]
section
variable {ts : List Tok} (hT : TWR ts) {E : RS → Ex × RS} {m : Nat} (hE : ∀ σ, m < σ.i → σ.i < ts.length → RC ts 43 [] (fun e => .agg (cvE e)) E σ) (hEi : ∀ σ, Inn ts σ (E σ).2)
include hT hE hEi
set_option maxRecDepth 10000 in
set_option maxHeartbeats 4000000 in
theorem list_body (first : List Ex) (σ : RS) (hm : m ≤ σ.i) (hi : σ.i < ts.length) (hf : first.length ≤ 1) (b nx : Nat) (c : CV) (H : Heap) (hb : b < nx) (hH : H b = some (.cells (psC ts σ))) (ho : OwnL cvE 5 H nx c first) (code : Code) (hcode : Tryz.f114.body = some code) :
    AWp Tryz.prog paG Tryz.f114.ntmps code (argE [.ptr b 0, c]) H nx (BodyQ Tryz.prog Tryz.f114 fun r H' nx' => ∃ c', r = .ret c' ∧ OwnL cvE 5 H' nx' c' (qList ts E first σ).1 ∧ H' b = some (.cells (psC ts (qList ts E first σ).2))) := by
  obtain rfl := Option.some.inj hcode
  clear hcode
  have h1 := rp_must hT _ lp_km σ hi b
  simp only [psC] at hH
  obtain ⟨b1, b2⟩ := must_in hT (σ := σ) (x := [40]) (by decide) hi
  obtain ⟨σ1, hs1⟩ : ∃ σ1, σ1 = mustS ts σ [40] := ⟨_, rfl⟩
  have hq0 : qList ts E first σ = qList1 ts E first σ1 := by rw [hs1]; rfl
  have hg1 : σ1.bad = false → σ1.i = σ.i + 1 := by
    rw [hs1]; unfold mustS; split
    · intro _; rfl
    · intro h; cases h
  rw [hq0]
  simp only [← hs1] at h1 b1 b2
  clear hs1 hq0
  obtain ⟨i1, bd1⟩ := σ1
  have h2 := rp_skip hT _ rp_km ⟨i1, bd1⟩ b2 b
  have hsep := sepE ho hH
  have hlen := hT.wf.len
  have ho1 := ho.upd' hH (.cells (psC ts ⟨i1, bd1⟩)) hsep
  cases hz : atB ts ⟨i1, bd1⟩ [41] with
  | true =>
    simp only [hz, skipS_true hz] at h2
    simp only [qList1, hz, if_true]
    have ho2 := ho1.upd' (upd_hit _ _ _) (.cells (psC ts ⟨i1 + 1, false⟩)) hsep
    clear hg1
    refine gW ?_
    refine gB (h1) ?_
    refine gW ?_
    refine gB (h2) ?_
    refine gW ?_
    (refine ⟨_, (by simp [*]; rfl), ?_⟩; (try simp only [packA]))
    exact ⟨_, rfl, ho2, by simp [upd]⟩
  | false =>
    simp only [hz, skipS_false hz] at h2
    have ho2 := ho1.upd' (upd_hit _ _ _) (.cells (psC ts ⟨i1, bd1⟩)) hsep
    cases bd1 with
    | true =>
      simp only [qList1, hz, if_true, Bool.false_eq_true, if_false]
      clear hg1
      refine gW ?_
      refine gB (h1) ?_
      refine gW ?_
      refine gB (h2) ?_
      refine gW ?_
      (refine ⟨_, (by simp [*]; rfl), ?_⟩; (try simp only [packA]))
      exact ⟨_, rfl, ho2, by simp [upd]⟩
    | false =>
      have h3 := hE ⟨i1, false⟩ (by have := hg1 rfl; simp only at this ⊢; omega) b2 b
      obtain ⟨b3, b4⟩ := hEi ⟨i1, false⟩ b2
      clear hg1
      cases hr : E ⟨i1, false⟩ with
      | mk e1 σ2 =>
      simp only [hr] at h3 b3 b4
      simp only [qList1, hz, hr, Bool.false_eq_true, if_false]
      have ho3 := ho2.upd' (upd_hit _ _ _) (.cells (psC ts σ2)) hsep
      obtain ⟨R, hR⟩ : ∃ R, R = qListLoop ts E (ts.length + 1) (first ++ [e1]) σ2 := ⟨_, rfl⟩
      rw [← hR]
      refine gW ?_
      refine gB (h1) ?_
      refine gW ?_
      refine gB (h2) ?_
      refine gW ?_
      refine gB (h3) ?_
      clear h1 h2 h3
      (first | (first | (apply AOpl.step; rfl) | apply ASl.step); focus simp [*, -Option.some.injEq]; rfl | (first | (apply AOpl.stepG; rfl) | apply ASl.stepG); (focus simp [*]; done); focus simp [*, -Option.some.injEq]; rfl | (first | (apply AOpl.pass; rfl) | apply ASl.pass); (focus simp [*]; done))
      refine AOpl.appRow (k := 5) (cv := cvE) (c := c) (l := first) (u := e1) ti_Exs ti_Ex rfl rfl (by omega) (by simp) cvE_len cvE_one rfl rfl rfl rfl ((ho3.upd (Nat.le_refl _)).up (Nat.le_succ _)) (by simp [upd]) (by omega) ?_
      intro c' H3 nx3 ho' hnn hfr
      have hH3 : H3 b = some (.cells [.lst (ts.map cvT), .int .i64 σ2.i, .bool σ2.bad]) := by
        rw [hfr b (by omega) (fun b' h => ?_), upd_miss _ _ _ _ (by omega)]
        · simp [upd]
        · exact fun e => hsep 0 first.length 5 (by rw [h, e])
      clear ho1 ho2 ho3 ho hfr
      refine gW ?_
      refine AWp.loopO (α := Nat × List Ex × RS) (fun x e H nx => ∃ c, e 5 = c ∧ OwnL cvE 5 H nx c x.2.1 ∧ H b = some (.cells [.lst (ts.map cvT), .int .i64 x.2.2.i, .bool x.2.2.bad]) ∧ x.2.1.length ≤ x.2.2.i + 2 ∧ i1 ≤ x.2.2.i ∧ x.2.2.i < ts.length ∧ (x.2.2.bad = true ∨ ts.length - x.2.2.i < x.1) ∧ R = qListLoop ts E x.1 x.2.1 x.2.2) (fun x => x.1) (ts.length + 1, first ++ [e1], σ2) [5] 23 ⟨c', rfl, ho', hH3, by simp; omega, b3, b4, .inr (by omega), hR⟩ ?_
      clear hR hH3 ho'
      rintro ⟨n, acc, σ3⟩ v H4 nx4 hn4 ⟨c4, h5, ho, hH, hl, hi1, hi2, hf, hR⟩
      simp only at h5 ho hH hl hi1 hi2 hf hR
      have hsep := sepE ho hH
      have h2 := rp_skip hT _ cm_km σ3 hi2 b
      have hm1 : m < i1 + 1 := by have : σ.i ≤ i1 := b1; omega
      cases hz : atB ts σ3 [44] with
      | true =>
        obtain ⟨hb3, _⟩ := atB_true hz
        obtain ⟨b5, b6⟩ := at_in hT (σ := σ3) (x := [44]) (by decide) hz hi2
        simp only [hz, skipS_true hz] at h2
        obtain ⟨n, rfl⟩ : ∃ k, n = k + 1 := ⟨n - 1, by rcases hf with hf | hf; rw [hb3] at hf; cases hf; omega⟩
        have hf1 : ts.length - σ3.i < n + 1 := by rcases hf with hf | hf; rw [hb3] at hf; cases hf; exact hf
        have h3 := hE ⟨σ3.i + 1, false⟩ (by simp only; omega) b6 b
        obtain ⟨b7, b8⟩ := hEi ⟨σ3.i + 1, false⟩ b6
        simp only at b5 b6 b7
        rw [qListLoop, if_pos hz] at hR
        cases hr : E ⟨σ3.i + 1, false⟩ with
        | mk e2 σ4 =>
        simp only [hr] at h3 b7 b8 hR
        have ho2 := (ho.upd' hH (.cells (psC ts ⟨σ3.i + 1, false⟩)) hsep).upd' (upd_hit _ _ _) (.cells (psC ts σ4)) hsep
        have hbn : b < nx4 := by omega
        clear hf hn4 hm1
        refine gW ?_
        refine gB (h2) ?_
        refine gW ?_
        refine gB (h3) ?_
        clear h2 h3
        (first | (first | (apply AOpl.step; rfl) | apply ASl.step); focus simp [*, -Option.some.injEq]; rfl | (first | (apply AOpl.stepG; rfl) | apply ASl.stepG); (focus simp [*]; done); focus simp [*, -Option.some.injEq]; rfl | (first | (apply AOpl.pass; rfl) | apply ASl.pass); (focus simp [*]; done))
        refine AOpl.appRow (k := 5) (cv := cvE) (c := c4) (l := acc) (u := e2) ti_Exs ti_Ex rfl rfl (by omega) (by simp) cvE_len cvE_one rfl rfl (by first | exact h5 | (simp [rd, putE, over, h5]; done)) (by first | rfl | (simp [rd, putE, over]; done)) ((ho2.upd (Nat.le_refl _)).up (Nat.le_succ _)) (by simp [upd]) (by omega) ?_
        intro c5 H5 nx5 ho' hnn hfr
        have hH5 : H5 b = some (.cells [.lst (ts.map cvT), .int .i64 σ4.i, .bool σ4.bad]) := by
          rw [hfr b (by omega) (fun b' h => ?_), upd_miss _ _ _ _ (by omega)]
          · simp [upd]
          · exact fun e => hsep 0 acc.length 5 (by rw [h, e])
        clear hfr ho2 ho
        refine gW ?_
        exact ⟨by ((repeat (first | exact Keeps.base _ _ _ _ | (with_reducible exact Keeps.refl _ _ _) | (refine Keeps.put rfl ?_) | (refine Keeps.over' rfl rfl ?_)))), (n, acc ++ [e2], σ4), by simp only; omega, c5, by first | rfl | (simp [putE, over]; done), ho', hH5, by simp; omega, by simp only; omega, b8, .inr (by simp only; omega), hR⟩
      | false =>
        have hR2 : R = (acc, mustS ts σ3 [41]) := by
          cases n with
          | zero =>
            rcases hf with hf | hf
            · rw [hR, qListLoop]; unfold mustS; rw [atB_bad hf]; rfl
            · omega
          | succ n => rw [hR, qListLoop, if_neg (by rw [hz]; simp)]
        simp only [hz, skipS_false hz] at h2
        have h3 := rp_must hT _ rp_km σ3 hi2 b
        have ho2 := (ho.upd' hH (.cells (psC ts σ3)) hsep).upd' (upd_hit _ _ _) (.cells (psC ts (mustS ts σ3 [41]))) hsep
        clear hf hn4 hi1 hR
        rw [hR2]
        refine gW ?_
        refine gB (h2) ?_
        refine gW ?_
        refine gB (h3) ?_
        refine gW ?_
        (refine ⟨_, (by simp [*]; rfl), ?_⟩; (try simp only [packA]))
        exact ⟨_, rfl, ho2, by simp [upd]⟩
theorem rp_list0 (σ : RS) (hm : m ≤ σ.i) (hi : σ.i < ts.length) : RC ts 114 [.nils] (fun l => .lst (l.map cvE)) (qList ts E []) σ := by
  intro b
  refine B1.ofBodyL cvE_len paG_pu rfl (puP _ _) (puP _ _) (by simp only [puV, puEs]) Tryz.func114 rfl rfl fun nx hlt q => ?_
  refine (list_body hT hE hEi [] σ hm hi (by simp) b nx .nils _ hlt (one1_hit _ _) (.inl ⟨rfl, rfl⟩) _ rfl).mono ?_
  intro x e H' nx' hq
  have key : ∀ r, (∃ c', r = Res.ret c' ∧ OwnL cvE 5 H' nx' c' (qList ts E [] σ).1 ∧ H' b = some (.cells (psC ts (qList ts E [] σ).2))) → ∃ c, r = .ret c ∧ OwnL cvE 5 H' nx' c (qList ts E [] σ).1 ∧ H' b = some (.cells (psC ts (qList ts E [] σ).2)) ∧ ∀ o m j, c ≠ .sl b o m j := by
    rintro r ⟨c, h1, h2, h3⟩
    exact ⟨c, h1, h2, h3, sepE h2 h3⟩
  cases x with
  | normal => obtain ⟨l, h1, h2⟩ := hq; exact ⟨l, h1, key _ h2⟩
  | ret => obtain ⟨l, h1, h2⟩ := hq; exact ⟨l, h1, key _ h2⟩
  | pan v => exact key _ hq
  | exit i => exact hq
/-- The same, the list beginning with one in block x. -/
theorem rp_list1 (e0 : Ex) (σ : RS) (hm : m ≤ σ.i) (hi : σ.i < ts.length) (b x : Nat) (hbx : b ≠ x) (H : Heap) (nx : Nat) (hb : H b = some (.cells (psC ts σ))) (hx : H x = some (.cells (cvE e0))) :
    ACall Tryz.prog paG 114 [.ptr b 0, .sl x 0 1 5] H nx fun r H' nx' => r = .ret (.lst ((qList ts E [e0] σ).1.map cvE)) ∧ H' = upd (drp H x) b (.cells (psC ts (qList ts E [e0] σ).2)) ∧ nx ≤ nx' := by
  refine ACall.two hbx hb hx fun nx h1 h2 => ACall.frzL cvE_len (ACall.of_body Tryz.func114 rfl ((list_body hT hE hEi [e0] σ hm hi (by simp) b nx (.sl x 0 1 5) _ h1 (by rw [upd_miss _ _ _ _ hbx]; exact one1_hit _ _) (.inr ⟨x, rfl, by simp [upd_hit], h2⟩) _ rfl).mono ?_))
  intro y e H' nx' hq
  have key : ∀ r, (∃ c', r = Res.ret c' ∧ OwnL cvE 5 H' nx' c' (qList ts E [e0] σ).1 ∧ H' b = some (.cells (psC ts (qList ts E [e0] σ).2))) → ∃ c l, r = .ret c ∧ OwnL cvE 5 H' nx' c l ∧ (Res.ret (.lst (l.map cvE)) = Res.ret (.lst ((qList ts E [e0] σ).1.map cvE)) ∧ drpC H' c b = some (.cells (psC ts (qList ts E [e0] σ).2))) := by
    rintro r ⟨c, h1, h2, h3⟩
    refine ⟨c, _, h1, h2, rfl, ?_⟩
    have := sepE h2 h3
    rcases h2 with ⟨_, rfl⟩ | ⟨z, rfl, _, _⟩
    · exact h3
    · show drp H' z b = _
      rw [drp_miss _ _ _ (fun e => this 0 _ 5 (by rw [e]))]; exact h3
  cases y with
  | normal => obtain ⟨l, h1, h2⟩ := hq; exact ⟨l, h1, key _ h2⟩
  | ret => obtain ⟨l, h1, h2⟩ := hq; exact ⟨l, h1, key _ h2⟩
  | pan v => exact key _ hq
  | exit i => exact hq
end
end Go.Proofs.YthjonkommphkkaaGreatDoor
