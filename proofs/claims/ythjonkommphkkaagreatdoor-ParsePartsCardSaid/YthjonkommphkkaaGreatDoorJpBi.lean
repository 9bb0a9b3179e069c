/-
  The reference's parser: atoms walked.
-/
import Derived.Test.YthjonkommphkkaaGreatDoorJpBh
set_option linter.unusedSectionVars false
set_option linter.unusedSimpArgs false
set_option linter.unnecessarySimpa false
set_option linter.unusedVariables false
set_option linter.unusedSimpArgs false
set_option linter.unusedVariables false
namespace Go.Proofs.YthjonkommphkkaaGreatDoor
open Lx Ax
theorem km_minus : [45] ∈ kmList := by decide
theorem km_null : [110, 117, 108, 108] ∈ kmList := by decide
theorem km_this : [116, 104, 105, 115] ∈ kmList := by decide
theorem km_input : [105, 110, 112, 117, 116] ∈ kmList := by decide
theorem km_new : [110, 101, 119] ∈ kmList := by decide
theorem km_cc : [58, 58] ∈ kmList := by decide
end Go.Proofs.YthjonkommphkkaaGreatDoor
namespace Go.Proofs.YthjonkommphkkaaGreatDoor
open Lx Ax Go.RowKit
attribute [local simp] stepS Ax.stepT Dl.on qstep astep estep rd putE over argE ofV ofS loadA pickCells isAggD faddA fieldA partA iaddA idxA bnd binA intA strA unA convA bltA lenA mapOf lookA findK keyD scalD storeA mupA srcA srcD upd drp Dl.hp Dl.nx CV.cs CV.one buildA placesA fillA zrep tasA ifaceD eqA eqFs eqIs range2 copyA nbeq nble nblt decEq beqI bneI beqS bneS isED Int.ofNat_inj List.getElem?_map List.getElem?_eq_getElem Option.map_some ti_int ti_i64 ti_str ti_bool ti_Toks ti_Tok ti_Pp ti_Exs ti_Ex gd gdB callA resA op1
attribute [local simp] psC cvT one1 cvE_eq exk exn exo exm exks drR drpC nu1 nu2 nu3 nu4 nu5 nu6 nu7 nu8 nu9 nu10 nu11 nu12 nu13 exZ
section
variable {ts : List Tok} (hT : TWR ts) {E : RS → Ex × RS} {m : Nat} (hE : ∀ σ, m < σ.i → σ.i < ts.length → RC ts 43 [] (fun e => .agg (cvE e)) E σ) (hEi : ∀ σ, Inn ts σ (E σ).2)
include hT hE hEi
set_option maxRecDepth 10000 in
set_option maxHeartbeats 16000000 in
theorem rp_atom (σ : RS) (hm : m ≤ σ.i) (hi : σ.i < ts.length) : RC ts 113 [] (fun e => .agg (cvE e)) (qAtom ts E) σ := by
  intro b
  refine B1.ofBodyW paG_pu rfl (puP _ _) (puP _ _) (by simp only [puV, puE]) Tryz.func113 rfl rfl fun nx hlt q => ?_
  obtain ⟨i, bd⟩ := σ
  simp only at hm hi
  have ht := tk_at hi
  have he := tk_get _ _ hi
  have hlen := hT.wf.len
  cases bd with
  | true =>
    simp only [qAtom, if_true]
    refine gW ?_
    (refine ⟨_, (by simp [*]; rfl), ?_⟩; (try simp only [packA]))
    (refine ⟨_, rfl, ?_, by simp [*]⟩; simp only [cvE_eq, exk, exn, exo, exm, exks, exZ, List.map_nil]; first | exact Wk.same _ | (refine WkL.agg ?_; repeat (first | exact WkL.nil | refine WkL.cons (by first | exact Wk.nil | exact Wk.same _) ?_)))
  | false =>
  have nk : ∀ {x : Bytes}, x ∈ kmList → atB ts ⟨i, false⟩ x = true → ¬ (ts[i].kind : Int) = 3 := fun hx h => by
    have := hT.km _ _ hx (atB_true h).2
    simp only at this
    rw [he] at this; omega
  have h1 := rp_skip hT _ km_minus ⟨i, false⟩ hi b
  cases z1 : atB ts ⟨i, false⟩ [45] with
  | true =>
    have hi1 : i + 1 < ts.length := (at_in hT (σ := ⟨i, false⟩) (x := [45]) (by decide) z1 hi).2
    have ht1 := tk_at hi1
    have he1 := tk_get _ _ hi1
    have hw : IntKind.i64.wrap ((i : Int) + 1 + 1) = ((i + 1 + 1 : Nat) : Int) := by have := wrap_up hi1 (by simp only [maxLen]; omega); simpa using this
    have hnl : ts[i + 1].n < 9223372036854775808 := by have := hT.wf.n_lt (i + 1); rw [he1] at this; exact this
    have hwn : IntKind.i64.wrap (-(ts[i + 1].n : Int)) = -(ts[i + 1].n : Int) := by rw [IntKind.wrap_i64]; omega
    simp only [z1, skipS_true z1] at h1
    simp only [qAtom, z1, if_true, Bool.false_eq_true, if_false]
    by_cases hk : ts[i + 1].kind = 3
    · by_cases hn : ts[i + 1].n = 0
      · have hqm : qMinus ts (i + 1) = (exZ, ⟨i + 1, true⟩) := by unfold qMinus; rw [if_neg (by rw [he1]; exact fun h => h.2 hn)]
        rw [hqm]
        refine gW ?_
        refine gB (h1) ?_
        refine gW ?_
        (refine ⟨_, (by simp [*]; rfl), ?_⟩; (try simp only [packA]))
        (refine ⟨_, rfl, ?_, by simp [*]⟩; simp only [cvE_eq, exk, exn, exo, exm, exks, exZ, List.map_nil]; first | exact Wk.same _ | (refine WkL.agg ?_; repeat (first | exact WkL.nil | refine WkL.cons (by first | exact Wk.nil | exact Wk.same _) ?_)))
      · have hqm : qMinus ts (i + 1) = (.mk 1 (-(ts[i + 1].n : Int)) [] [] [], ⟨i + 1 + 1, false⟩) := by unfold qMinus; rw [if_pos (by rw [he1]; exact ⟨hk, hn⟩), he1]
        rw [hqm]
        have hn' : ¬ (ts[i + 1].n : Int) = 0 := by omega
        refine gW ?_
        refine gB (h1) ?_
        refine gW ?_
        (refine ⟨_, (by simp [*]; rfl), ?_⟩; (try simp only [packA]))
        (refine ⟨_, rfl, ?_, by simp [*]⟩; simp only [cvE_eq, exk, exn, exo, exm, exks, exZ, List.map_nil]; first | exact Wk.same _ | (refine WkL.agg ?_; repeat (first | exact WkL.nil | refine WkL.cons (by first | exact Wk.nil | exact Wk.same _) ?_)))
    · have hqm : qMinus ts (i + 1) = (exZ, ⟨i + 1, true⟩) := by unfold qMinus; rw [if_neg (by rw [he1]; exact fun h => hk h.1)]
      rw [hqm]
      have hk' : ¬ (ts[i + 1].kind : Int) = 3 := by omega
      refine gW ?_
      refine gB (h1) ?_
      refine gW ?_
      (refine ⟨_, (by simp [*]; rfl), ?_⟩; (try simp only [packA]))
      (refine ⟨_, rfl, ?_, by simp [*]⟩; simp only [cvE_eq, exk, exn, exo, exm, exks, exZ, List.map_nil]; first | exact Wk.same _ | (refine WkL.agg ?_; repeat (first | exact WkL.nil | refine WkL.cons (by first | exact Wk.nil | exact Wk.same _) ?_)))
  | false =>
  simp only [z1, skipS_false z1] at h1
  have hw : IntKind.i64.wrap ((i : Int) + 1) = ((i + 1 : Nat) : Int) := wrap_up hi (by simp only [maxLen]; omega)
  by_cases hk : ts[i].kind = 3
  · simp only [qAtom, z1, he, hk, if_true, Bool.false_eq_true, if_false]
    clear nk
    refine gW ?_
    refine gB (h1) ?_
    refine gW ?_
    (refine ⟨_, (by simp [*]; rfl), ?_⟩; (try simp only [packA]))
    (refine ⟨_, rfl, ?_, by simp [*]⟩; simp only [cvE_eq, exk, exn, exo, exm, exks, exZ, List.map_nil]; first | exact Wk.same _ | (refine WkL.agg ?_; repeat (first | exact WkL.nil | refine WkL.cons (by first | exact Wk.nil | exact Wk.same _) ?_)))
  have hk' : ¬ (ts[i].kind : Int) = 3 := by omega
  have h2 := rp_skip hT _ km_null ⟨i, false⟩ hi b
  cases z2 : atB ts ⟨i, false⟩ [110, 117, 108, 108] with
  | true =>
    simp only [z2, skipS_true z2] at h2
    simp only [qAtom, z1, z2, he, hk, if_true, Bool.false_eq_true, if_false]
    clear nk
    refine gW ?_
    refine gB (h1) ?_
    refine gW ?_
    refine gB (h2) ?_
    refine gW ?_
    (refine ⟨_, (by simp [*]; rfl), ?_⟩; (try simp only [packA]))
    (refine ⟨_, rfl, ?_, by simp [*]⟩; simp only [cvE_eq, exk, exn, exo, exm, exks, exZ, List.map_nil]; first | exact Wk.same _ | (refine WkL.agg ?_; repeat (first | exact WkL.nil | refine WkL.cons (by first | exact Wk.nil | exact Wk.same _) ?_)))
  | false =>
  simp only [z2, skipS_false z2] at h2
  have h3 := rp_skip hT _ km_this ⟨i, false⟩ hi b
  cases z3 : atB ts ⟨i, false⟩ [116, 104, 105, 115] with
  | true =>
    simp only [z3, skipS_true z3] at h3
    simp only [qAtom, z1, z2, z3, he, hk, if_true, Bool.false_eq_true, if_false]
    clear nk
    refine gW ?_
    refine gB (h1) ?_
    refine gW ?_
    refine gB (h2) ?_
    refine gW ?_
    refine gB (h3) ?_
    refine gW ?_
    (refine ⟨_, (by simp [*]; rfl), ?_⟩; (try simp only [packA]))
    (refine ⟨_, rfl, ?_, by simp [*]⟩; simp only [cvE_eq, exk, exn, exo, exm, exks, exZ, List.map_nil]; first | exact Wk.same _ | (refine WkL.agg ?_; repeat (first | exact WkL.nil | refine WkL.cons (by first | exact Wk.nil | exact Wk.same _) ?_)))
  | false =>
  simp only [z3, skipS_false z3] at h3
  have h4 := rp_skip hT _ km_input ⟨i, false⟩ hi b
  cases z4 : atB ts ⟨i, false⟩ [105, 110, 112, 117, 116] with
  | true =>
    simp only [z4, skipS_true z4] at h4
    have hi1 : i + 1 < ts.length := (at_in hT (σ := ⟨i, false⟩) (by decide) z4 hi).2
    have h5 := rp_must hT _ lp_km ⟨i + 1, false⟩ hi1 b
    have h6 := rp_must hT _ rp_km (mustS ts ⟨i + 1, false⟩ [40]) (must_in hT (by decide) hi1).2 b
    simp only [qAtom, qUnit, z1, z2, z3, z4, he, hk, if_true, Bool.false_eq_true, if_false]
    clear nk
    refine gW ?_
    refine gB (h1) ?_
    refine gW ?_
    refine gB (h2) ?_
    refine gW ?_
    refine gB (h3) ?_
    refine gW ?_
    refine gB (h4) ?_
    refine gW ?_
    refine gB (h5) ?_
    refine gW ?_
    refine gB (h6) ?_
    refine gW ?_
    (refine ⟨_, (by simp [*]; rfl), ?_⟩; (try simp only [packA]))
    (refine ⟨_, rfl, ?_, by simp [*]⟩; simp only [cvE_eq, exk, exn, exo, exm, exks, exZ, List.map_nil]; first | exact Wk.same _ | (refine WkL.agg ?_; repeat (first | exact WkL.nil | refine WkL.cons (by first | exact Wk.nil | exact Wk.same _) ?_)))
  | false =>
  simp only [z4, skipS_false z4] at h4
  have h5 := rp_skip hT _ km_new ⟨i, false⟩ hi b
  cases z5 : atB ts ⟨i, false⟩ [110, 101, 119] with
  | true =>
    simp only [z5, skipS_true z5] at h5
    have hi1 : i + 1 < ts.length := (at_in hT (σ := ⟨i, false⟩) (by decide) z5 hi).2
    have h6 := rp_name hT ⟨i + 1, false⟩ hi1 b
    have hi2 : (qName ts ⟨i + 1, false⟩).2.i < ts.length := (name_in hT hi1).2
    have h7 := rp_must hT _ lp_km (qName ts ⟨i + 1, false⟩).2 hi2 b
    have h8 := rp_must hT _ rp_km (mustS ts (qName ts ⟨i + 1, false⟩).2 [40]) (must_in hT (by decide) hi2).2 b
    simp only [qAtom, qUnit, z1, z2, z3, z4, z5, he, hk, if_true, Bool.false_eq_true, if_false]
    clear nk
    refine gW ?_
    refine gB (h1) ?_
    refine gW ?_
    refine gB (h2) ?_
    refine gW ?_
    refine gB (h3) ?_
    refine gW ?_
    refine gB (h4) ?_
    refine gW ?_
    refine gB (h5) ?_
    refine gW ?_
    refine gB (h6) ?_
    refine gW ?_
    refine gB (h7) ?_
    refine gW ?_
    refine gB (h8) ?_
    refine gW ?_
    (refine ⟨_, (by simp [*]; rfl), ?_⟩; (try simp only [packA]))
    (refine ⟨_, rfl, ?_, by simp [*]⟩; simp only [cvE_eq, exk, exn, exo, exm, exks, exZ, List.map_nil]; first | exact Wk.same _ | (refine WkL.agg ?_; repeat (first | exact WkL.nil | refine WkL.cons (by first | exact Wk.nil | exact Wk.same _) ?_)))
  | false =>
  simp only [z5, skipS_false z5] at h5
  have h6 := rp_skip hT _ lp_km ⟨i, false⟩ hi b
  cases z6 : atB ts ⟨i, false⟩ [40] with
  | true =>
    simp only [z6, skipS_true z6] at h6
    have hi1 : i + 1 < ts.length := (at_in hT (σ := ⟨i, false⟩) (by decide) z6 hi).2
    have h7 := hE ⟨i + 1, false⟩ (by simp only; omega) hi1 b
    have h8 := rp_must hT _ rp_km (E ⟨i + 1, false⟩).2 (hEi _ hi1).2 b
    simp only [qAtom, z1, z2, z3, z4, z5, z6, he, hk, if_true, Bool.false_eq_true, if_false]
    clear nk
    refine gW ?_
    refine gB (h1) ?_
    refine gW ?_
    refine gB (h2) ?_
    refine gW ?_
    refine gB (h3) ?_
    refine gW ?_
    refine gB (h4) ?_
    refine gW ?_
    refine gB (h5) ?_
    refine gW ?_
    refine gB (h6) ?_
    refine gW ?_
    refine gB (h7) ?_
    refine gW ?_
    refine gB (h8) ?_
    refine gW ?_
    (refine ⟨_, (by simp [*]; rfl), ?_⟩; (try simp only [packA]))
    (refine ⟨_, rfl, ?_, by simp [*]⟩; simp only [cvE_eq, exk, exn, exo, exm, exks, exZ, List.map_nil]; first | exact Wk.same _ | (refine WkL.agg ?_; repeat (first | exact WkL.nil | refine WkL.cons (by first | exact Wk.nil | exact Wk.same _) ?_)))
  | false =>
  simp only [z6, skipS_false z6] at h6
  have h7 := rp_name hT ⟨i, false⟩ hi b
  obtain ⟨b1, b2⟩ := name_in hT (σ := ⟨i, false⟩) hi
  have hq0 : qAtom ts E ⟨i, false⟩ = qNamed1 ts E (qName ts ⟨i, false⟩).1 (qName ts ⟨i, false⟩).2 := by
    simp only [qAtom, z1, z2, z3, z4, z5, z6, he, hk, if_true, Bool.false_eq_true, if_false]; rfl
  rw [hq0]
  cases hn : qName ts ⟨i, false⟩ with
  | mk nm σ1 =>
  simp only [hn] at h7 b1 b2
  have h8 := rp_skip hT _ km_cc σ1 b2 b
  cases z7 : atB ts σ1 [58, 58] with
  | true =>
    simp only [z7, skipS_true z7] at h8
    have hi1 : σ1.i + 1 < ts.length := (at_in hT (by decide) z7 b2).2
    have h9 := rp_name hT ⟨σ1.i + 1, false⟩ hi1 b
    obtain ⟨b3, b4⟩ := name_in hT (σ := ⟨σ1.i + 1, false⟩) hi1
    simp only at b3
    have h10 := rp_list0 hT hE hEi (qName ts ⟨σ1.i + 1, false⟩).2 (by omega) b4 b
    simp only [qNamed1, z7, if_true]
    clear nk
    refine gW ?_
    refine gB (h1) ?_
    refine gW ?_
    refine gB (h2) ?_
    refine gW ?_
    refine gB (h3) ?_
    refine gW ?_
    refine gB (h4) ?_
    refine gW ?_
    refine gB (h5) ?_
    refine gW ?_
    refine gB (h6) ?_
    refine gW ?_
    refine gB (h7) ?_
    refine gW ?_
    refine gB (h8) ?_
    refine gW ?_
    refine gB (h9) ?_
    refine gW ?_
    refine gB (h10) ?_
    refine gW ?_
    (refine ⟨_, (by simp [*]; rfl), ?_⟩; (try simp only [packA]))
    (refine ⟨_, rfl, ?_, by simp [*]⟩; simp only [cvE_eq, exk, exn, exo, exm, exks, exZ, List.map_nil]; first | exact Wk.same _ | (refine WkL.agg ?_; repeat (first | exact WkL.nil | refine WkL.cons (by first | exact Wk.nil | exact Wk.same _) ?_)))
  | false =>
    simp only [z7, skipS_false z7] at h8
    simp only [qNamed1, z7, Bool.false_eq_true, if_false]
    clear nk
    refine gW ?_
    refine gB (h1) ?_
    refine gW ?_
    refine gB (h2) ?_
    refine gW ?_
    refine gB (h3) ?_
    refine gW ?_
    refine gB (h4) ?_
    refine gW ?_
    refine gB (h5) ?_
    refine gW ?_
    refine gB (h6) ?_
    refine gW ?_
    refine gB (h7) ?_
    refine gW ?_
    refine gB (h8) ?_
    refine gW ?_
    (refine ⟨_, (by simp [*]; rfl), ?_⟩; (try simp only [packA]))
    (refine ⟨_, rfl, ?_, by simp [*]⟩; simp only [cvE_eq, exk, exn, exo, exm, exks, exZ, List.map_nil]; first | exact Wk.same _ | (refine WkL.agg ?_; repeat (first | exact WkL.nil | refine WkL.cons (by first | exact Wk.nil | exact Wk.same _) ?_)))
end
end Go.Proofs.YthjonkommphkkaaGreatDoor
namespace Go.Proofs.YthjonkommphkkaaGreatDoor
open Lx Ax
theorem km_dot : [46] ∈ kmList := by decide
theorem km_mul : [42] ∈ kmList := by decide
theorem km_plus : [43] ∈ kmList := by decide
theorem km_less : [60] ∈ kmList := by decide
theorem km_eq : [61, 61] ∈ kmList := by decide
theorem rs_bad {σ : RS} (h : σ.bad = true) : (⟨σ.i, true⟩ : RS) = σ := by obtain ⟨i, b⟩ := σ; simp at h; simp [h]
end Go.Proofs.YthjonkommphkkaaGreatDoor
namespace Go.Proofs.YthjonkommphkkaaGreatDoor
open Lx Ax Go.RowKit
attribute [local simp] stepS Ax.stepT Dl.on qstep astep estep rd putE over argE ofV ofS loadA pickCells isAggD faddA fieldA partA iaddA idxA bnd binA intA strA unA convA bltA lenA mapOf lookA findK keyD scalD storeA mupA srcA srcD upd drp Dl.hp Dl.nx CV.cs CV.one buildA placesA fillA zrep tasA ifaceD eqA eqFs eqIs range2 copyA nbeq nble nblt decEq beqI bneI beqS bneS isED Int.ofNat_inj List.getElem?_map List.getElem?_eq_getElem Option.map_some ti_int ti_i64 ti_str ti_bool ti_Toks ti_Tok ti_Pp ti_Exs ti_Ex gd gdB callA resA op1
attribute [local simp] psC cvT one1 cvE_eq exk exn exo exm exks drR drpC drp nu1 nu2 nu3 nu4 nu5 nu6 nu7 nu8 nu9 nu10 nu11 nu12 nu13
section
variable {ts : List Tok} (hT : TWR ts) {E : RS → Ex × RS} {m : Nat} (hE : ∀ σ, m < σ.i → σ.i < ts.length → RC ts 43 [] (fun e => .agg (cvE e)) E σ) (hEi : ∀ σ, Inn ts σ (E σ).2)
include hT hE hEi
set_option maxRecDepth 10000 in
set_option maxHeartbeats 16000000 in
theorem rp_post (σ : RS) (hm : m ≤ σ.i) (hi : σ.i < ts.length) : RC ts 105 [] (fun e => .agg (cvE e)) (qPost ts E) σ := by
  intro b
  refine B1.ofBodyW paG_pu rfl (puP _ _) (puP _ _) (by simp only [puV, puE]) Tryz.func105 rfl rfl fun nx hlt q => ?_
  have hlen := hT.wf.len
  have h0 := rp_atom hT hE hEi σ hm hi b
  obtain ⟨b1, b2⟩ := atom_in hT hEi hi
  obtain ⟨R, hR⟩ : ∃ R, R = qPost ts E σ := ⟨_, rfl⟩
  rw [← hR]
  unfold qPost at hR
  cases ha : qAtom ts E σ with
  | mk e0 σ0 =>
  simp only [ha] at h0 b1 b2 hR
  refine gW ?_
  refine gB (h0) ?_
  refine gW ?_
  refine AWp.loopO (α := Nat × Ex × RS) (fun x e H nx1 => H b = some (.cells [.lst (ts.map cvT), .int .i64 x.2.2.i, .bool x.2.2.bad]) ∧ H (nx + 1) = some (.cells (cvE x.2.1)) ∧ H nx = some (.cells [.int .i64 0, .int .i64 0, .str [], .str [], .nils]) ∧ m ≤ x.2.2.i ∧ x.2.2.i < ts.length ∧ (x.2.2.bad = true ∨ ts.length - x.2.2.i < x.1) ∧ R = qPostLoop ts E x.1 x.2.1 x.2.2) (fun x => x.1) (ts.length + 1, e0, σ0) [4] 7 ⟨by simp [upd, q], by simp [upd, q], by simp [upd, q], by simp only; omega, b2, .inr (by simp only; omega), hR⟩ ?_
  clear hR b1 b2 ha h0
  rintro ⟨n, e, σ1⟩ v H4 nx4 hn4 ⟨hH, h3, h2, hi1, hi2, hf, hR⟩
  simp only at hH h3 h2 hi1 hi2 hf hR
  have q4 := far (show b < nx4 by omega)
  have q5 := far (show nx < nx4 by omega)
  have q6 := far (show nx + 1 < nx4 by omega)
  have s1 := rp_skip hT _ km_dot σ1 hi2 b
  cases hz : atB ts σ1 [46] with
  | false =>
    have hR2 : R = (e, σ1) := by
      cases n with
      | zero =>
        rcases hf with hf | hf
        · rw [hR, qPostLoop, rs_bad hf]
        · omega
      | succ n => rw [hR, qPostLoop, if_neg (by rw [hz]; simp)]
    simp only [hz, skipS_false hz] at s1
    clear hR hf hn4
    rw [hR2]
    refine gW ?_
    refine gB (s1) ?_
    refine gW ?_
    (refine ⟨_, (by simp [*]; rfl), ?_⟩; (try simp only [packA]))
    (refine ⟨_, rfl, ?_, by simp [*]⟩; simp only [cvE_eq]; first | exact Wk.same _ | (refine WkL.agg ?_; repeat (first | exact WkL.nil | refine WkL.cons (by first | exact Wk.nil | exact Wk.same _) ?_)))
  | true =>
    obtain ⟨hb3, _⟩ := atB_true hz
    obtain ⟨b5, b6⟩ := at_in hT (σ := σ1) (x := [46]) (by decide) hz hi2
    simp only [hz, skipS_true hz] at s1
    obtain ⟨n, rfl⟩ : ∃ k, n = k + 1 := ⟨n - 1, by rcases hf with hf | hf; rw [hb3] at hf; cases hf; omega⟩
    have hf1 : ts.length - σ1.i < n + 1 := by rcases hf with hf | hf; rw [hb3] at hf; cases hf; exact hf
    have s2 := rp_name hT ⟨σ1.i + 1, false⟩ b6 b
    obtain ⟨b7, b8⟩ := name_in hT (σ := ⟨σ1.i + 1, false⟩) b6
    rw [qPostLoop, if_pos hz] at hR
    cases hr : qName ts ⟨σ1.i + 1, false⟩ with
    | mk nm σ2 =>
    simp only [hr] at s2 b7 b8 hR
    simp only at b5 b6
    have s3 := rp_at hT _ lp_km σ2 b8 b
    obtain ⟨b9, b10⟩ := dot_in hT hEi (σ := σ2) e nm b8
    have hbn : nx + 1 + 1 ≤ nx4 := hn4
    have hmm : m ≤ σ2.i := by omega
    clear hf hn4
    cases hz2 : atB ts σ2 [40] with
    | true =>
      simp only [hz2] at s3
      have hd : qDot ts E e nm σ2 = (.mk 9 0 [] nm (qList ts E [e] σ2).1, (qList ts E [e] σ2).2) := by unfold qDot; rw [if_pos hz2]
      rw [hd] at hR b9 b10
      simp only at hR b9 b10
      refine gW ?_
      refine gB (s1) ?_
      refine gW ?_
      refine gB (s2) ?_
      refine gW ?_
      refine gB (s3) ?_
      refine gW ?_
      refine AOpl.callG rfl rfl (by simp [*]) (by kernel_rfl) ((rp_list1 hT hE hEi e σ2 hmm b8 b nx4 (by omega) _ _ (by simp [upd, q4]) (by simp [upd])).mono ?_)
      rintro _ H5 nx5 ⟨rfl, rfl, hn5⟩
      dsimp only
      refine gW ?_
      exact ⟨by ((repeat (first | exact Keeps.base _ _ _ _ | (with_reducible exact Keeps.refl _ _ _) | (refine Keeps.put rfl ?_) | (refine Keeps.over' rfl rfl ?_)))), (n, .mk 9 0 [] nm (qList ts E [e] σ2).1, (qList ts E [e] σ2).2), by simp only; omega, by simp [upd, *], by simp [upd, *], by simp [upd, *], by simp only; omega, b10, .inr (by simp only; omega), hR⟩
    | false =>
      simp only [hz2] at s3
      have hd : qDot ts E e nm σ2 = (.mk 8 0 [] nm [e], σ2) := by unfold qDot; rw [if_neg (by rw [hz2]; simp)]
      rw [hd] at hR b9 b10
      simp only at hR b9 b10
      refine gW ?_
      refine gB (s1) ?_
      refine gW ?_
      refine gB (s2) ?_
      refine gW ?_
      refine gB (s3) ?_
      refine AOpl.nil ?_
      simp only [Then]
      refine AWp.condF (by simp [rd, putE, over]) ?_
      refine AWp.reg rfl ?_
      iterate 3 (first | (first | (apply AOpl.step; rfl) | apply ASl.step); focus simp [*, -Option.some.injEq]; rfl | (first | (apply AOpl.stepG; rfl) | apply ASl.stepG); (focus simp [*]; done); focus simp [*, -Option.some.injEq]; rfl | (first | (apply AOpl.pass; rfl) | apply ASl.pass); (focus simp [*]; done))
      refine AOpl.frzL cvE_len 21 (l := [e]) rfl (.inr ⟨nx4, rfl, by simp [upd], by omega⟩) ?_
      refine gW ?_
      exact ⟨by ((repeat (first | exact Keeps.base _ _ _ _ | (with_reducible exact Keeps.refl _ _ _) | (refine Keeps.put rfl ?_) | (refine Keeps.over' rfl rfl ?_)))), (n, .mk 8 0 [] nm [e], σ2), by simp only; omega, by simp [upd, *], by simp [upd, *], by simp [upd, *], by simp only; omega, b10, .inr (by simp only; omega), hR⟩
set_option maxRecDepth 10000 in
set_option maxHeartbeats 16000000 in
theorem rp_prod (σ : RS) (hm : m ≤ σ.i) (hi : σ.i < ts.length) : RC ts 92 [] (fun e => .agg (cvE e)) (qProd ts E) σ := by
  intro b
  refine B1.ofBodyW paG_pu rfl (puP _ _) (puP _ _) (by simp only [puV, puE]) Tryz.func92 rfl rfl fun nx hlt q => ?_
  have hlen := hT.wf.len
  have h0 := rp_post hT hE hEi σ hm hi b
  obtain ⟨b1, b2⟩ := post_in hT hEi hi
  obtain ⟨R, hR⟩ : ∃ R, R = qProd ts E σ := ⟨_, rfl⟩
  rw [← hR]
  unfold qProd at hR
  cases ha : qPost ts E σ with
  | mk e0 σ0 =>
  simp only [ha] at h0 b1 b2 hR
  refine gW ?_
  refine gB (h0) ?_
  refine gW ?_
  refine AWp.loopO (α := Nat × Ex × RS) (fun x e H nx1 => H b = some (.cells [.lst (ts.map cvT), .int .i64 x.2.2.i, .bool x.2.2.bad]) ∧ H (nx + 1) = some (.cells (cvE x.2.1)) ∧ H nx = some (.cells [.int .i64 0, .int .i64 0, .str [], .str [], .nils]) ∧ m ≤ x.2.2.i ∧ x.2.2.i < ts.length ∧ (x.2.2.bad = true ∨ ts.length - x.2.2.i < x.1) ∧ R = qProdLoop ts E x.1 x.2.1 x.2.2) (fun x => x.1) (ts.length + 1, e0, σ0) [] 6 ⟨by simp [upd, q], by simp [upd, q], by simp [upd, q], by simp only; omega, b2, .inr (by simp only; omega), hR⟩ ?_
  clear hR b1 b2 ha h0
  rintro ⟨n, e, σ1⟩ v H4 nx4 hn4 ⟨hH, h3, h2, hi1, hi2, hf, hR⟩
  simp only at hH h3 h2 hi1 hi2 hf hR
  have q4 := far (show b < nx4 by omega)
  have q5 := far (show nx < nx4 by omega)
  have q6 := far (show nx + 1 < nx4 by omega)
  have s1 := rp_skip hT _ km_mul σ1 hi2 b
  cases hz : atB ts σ1 [42] with
  | false =>
    have hR2 : R = (e, σ1) := by
      cases n with
      | zero =>
        rcases hf with hf | hf
        · rw [hR, qProdLoop, rs_bad hf]
        · omega
      | succ n => rw [hR, qProdLoop, if_neg (by rw [hz]; simp)]
    simp only [hz, skipS_false hz] at s1
    clear hR hf hn4
    rw [hR2]
    refine gW ?_
    refine gB (s1) ?_
    refine gW ?_
    (refine ⟨_, (by simp [*]; rfl), ?_⟩; (try simp only [packA]))
    (refine ⟨_, rfl, ?_, by simp [*]⟩; simp only [cvE_eq]; first | exact Wk.same _ | (refine WkL.agg ?_; repeat (first | exact WkL.nil | refine WkL.cons (by first | exact Wk.nil | exact Wk.same _) ?_)))
  | true =>
    obtain ⟨hb3, _⟩ := atB_true hz
    obtain ⟨b5, b6⟩ := at_in hT (σ := σ1) (x := [42]) (by decide) hz hi2
    simp only [hz, skipS_true hz] at s1
    obtain ⟨n, rfl⟩ : ∃ k, n = k + 1 := ⟨n - 1, by rcases hf with hf | hf; rw [hb3] at hf; cases hf; omega⟩
    have hf1 : ts.length - σ1.i < n + 1 := by rcases hf with hf | hf; rw [hb3] at hf; cases hf; exact hf
    have s2 := rp_post hT hE hEi ⟨σ1.i + 1, false⟩ (by simp only; omega) b6 b
    obtain ⟨b7, b8⟩ := post_in hT hEi (σ := ⟨σ1.i + 1, false⟩) b6
    rw [qProdLoop, if_pos hz] at hR
    cases hr : qPost ts E ⟨σ1.i + 1, false⟩ with
    | mk x σ2 =>
    simp only [hr] at s2 b7 b8 hR
    simp only at b5 b6
    have s3 := rp_bin 3 e x
    clear hf hn4
    refine gW ?_
    refine gB (s1) ?_
    repeat (first | (first | (apply AOpl.step; rfl) | apply ASl.step); focus simp [*, -Option.some.injEq]; rfl | (first | (apply AOpl.stepG; rfl) | apply ASl.stepG); (focus simp [*]; done); focus simp [*, -Option.some.injEq]; rfl | (first | (apply AOpl.pass; rfl) | apply ASl.pass); (focus simp [*]; done) | (first | refine AOpl.nil ?_ | refine AWp.skip ?_ | refine AWp.exit ?_ | refine AWp.ret ?_ | refine ASl.nil ?_); try simp only [Then, InBlock, reduceIte, Nat.reduceEqDiff] | refine AWp.seq ?_ | refine AWp.reg rfl ?_ | refine AWp.block ?_ | apply AWp.condT; focus simp [*]; done | apply AWp.condF; focus simp [*]; done)
    refine AWp.regTC b (by kernel_rfl) (by kernel_rfl) rfl rfl ?_
    repeat (first | apply ASlC.step; (focus simp [*, -Option.some.injEq]; rfl); (focus first | exact Blind.pure rfl | exact Blind.eff rfl | (refine Blind.look fun H1 hl1 => ?_; have hk1 := hl1 _ (q.2.1 1 |>.2); simp [hk1, *]; done)) | refine ASlC.nil ?_; try simp only [Then, InBlock, reduceIte, Nat.reduceEqDiff])
    refine gBc (s2) ?_
    repeat (first | apply ASlC.step; (focus simp [*, -Option.some.injEq]; rfl); (focus first | exact Blind.pure rfl | exact Blind.eff rfl | (refine Blind.look fun H1 hl1 => ?_; have hk1 := hl1 _ (q.2.1 1 |>.2); simp [hk1, *]; done)) | refine ASlC.nil ?_; try simp only [Then, InBlock, reduceIte, Nat.reduceEqDiff])
    (refine ASlC.call1 (by first | rfl | (simp [*]; done)) (by simp [*]) (by kernel_rfl) (s3) ?_)
    repeat (first | apply ASlC.step; (focus simp [*, -Option.some.injEq]; rfl); (focus first | exact Blind.pure rfl | exact Blind.eff rfl | (refine Blind.look fun H1 hl1 => ?_; have hk1 := hl1 _ (q.2.1 1 |>.2); simp [hk1, *]; done)) | refine ASlC.nil ?_; try simp only [Then, InBlock, reduceIte, Nat.reduceEqDiff])
    refine gW ?_
    exact ⟨by ((repeat (first | exact Keeps.base _ _ _ _ | (with_reducible exact Keeps.refl _ _ _) | (refine Keeps.put rfl ?_) | (refine Keeps.over' rfl rfl ?_)))), (n, binE 3 e x, σ2), by simp only; omega, by simp [upd, *], by simp [upd, *], by simp [upd, *], by simp only; omega, b8, .inr (by simp only; omega), hR⟩
set_option maxRecDepth 10000 in
set_option maxHeartbeats 16000000 in
theorem rp_sum (σ : RS) (hm : m ≤ σ.i) (hi : σ.i < ts.length) : RC ts 79 [] (fun e => .agg (cvE e)) (qSum ts E) σ := by
  intro b
  refine B1.ofBodyW paG_pu rfl (puP _ _) (puP _ _) (by simp only [puV, puE]) Tryz.func79 rfl rfl fun nx hlt q => ?_
  have hlen := hT.wf.len
  have h0 := rp_prod hT hE hEi σ hm hi b
  obtain ⟨b1, b2⟩ := prod_in hT hEi hi
  obtain ⟨R, hR⟩ : ∃ R, R = qSum ts E σ := ⟨_, rfl⟩
  rw [← hR]
  unfold qSum at hR
  cases ha : qProd ts E σ with
  | mk e0 σ0 =>
  simp only [ha] at h0 b1 b2 hR
  refine gW ?_
  refine gB (h0) ?_
  refine gW ?_
  refine AWp.loopO (α := Nat × Ex × RS) (fun x e H nx1 => H b = some (.cells [.lst (ts.map cvT), .int .i64 x.2.2.i, .bool x.2.2.bad]) ∧ H (nx + 1) = some (.cells (cvE x.2.1)) ∧ H nx = some (.cells [.int .i64 0, .int .i64 0, .str [], .str [], .nils]) ∧ m ≤ x.2.2.i ∧ x.2.2.i < ts.length ∧ (x.2.2.bad = true ∨ ts.length - x.2.2.i < x.1) ∧ R = qSumLoop ts E x.1 x.2.1 x.2.2) (fun x => x.1) (ts.length + 1, e0, σ0) [4] 7 ⟨by simp [upd, q], by simp [upd, q], by simp [upd, q], by simp only; omega, b2, .inr (by simp only; omega), hR⟩ ?_
  clear hR b1 b2 ha h0
  rintro ⟨n, e, σ1⟩ v H4 nx4 hn4 ⟨hH, h3, h2, hi1, hi2, hf, hR⟩
  simp only at hH h3 h2 hi1 hi2 hf hR
  have q4 := far (show b < nx4 by omega)
  have q5 := far (show nx < nx4 by omega)
  have q6 := far (show nx + 1 < nx4 by omega)
  have s1 := rp_at hT _ km_plus σ1 hi2 b
  have t1 := rp_at hT _ km_minus σ1 hi2 b
  have hw1 : IntKind.i64.wrap ((σ1.i : Int) + 1) = ((σ1.i + 1 : Nat) : Int) := wrap_up hi2 (by simp only [maxLen]; omega)
  have go : ∀ x : Bytes, (x = [43] ∨ x = [45]) → atB ts σ1 x = true → σ1.bad = false ∧ σ1.i + 1 < ts.length ∧ ∃ k, n = k + 1 ∧ ts.length - σ1.i < k + 1 := by
    intro x hx hz
    obtain ⟨hb3, _⟩ := atB_true hz
    refine ⟨hb3, (at_in hT (σ := σ1) (x := x) (by rcases hx with rfl | rfl <;> decide) hz hi2).2, ?_⟩
    rcases hf with hf | hf
    · rw [hb3] at hf; cases hf
    · exact ⟨n - 1, by omega, by omega⟩
  cases hz : atB ts σ1 [43] with
  | true =>
    obtain ⟨hb3, b6, n, rfl, hf1⟩ := go _ (.inl rfl) hz
    have hz2 : atB ts σ1 [45] = false := by
      have := (atB_true hz).2
      unfold isT at this
      rw [atB_good hb3]; unfold isT
      rw [eq_of_beq this]; rfl
    simp only [hz] at s1
    simp only [hz2] at t1
    have s2 := rp_prod hT hE hEi ⟨σ1.i + 1, false⟩ (by simp only; omega) b6 b
    obtain ⟨b7, b8⟩ := prod_in hT hEi (σ := ⟨σ1.i + 1, false⟩) b6
    rw [qSumLoop, if_pos hz] at hR
    cases hr : qProd ts E ⟨σ1.i + 1, false⟩ with
    | mk x σ2 =>
    simp only [hr] at s2 b7 b8 hR
    have s3 := rp_bin 1 e x
    clear hf hn4 go
    refine gW ?_
    refine gB (s1) ?_
    refine gW ?_
    refine gB (t1) ?_
    repeat (first | (first | (apply AOpl.step; rfl) | apply ASl.step); focus simp [*, -Option.some.injEq]; rfl | (first | (apply AOpl.stepG; rfl) | apply ASl.stepG); (focus simp [*]; done); focus simp [*, -Option.some.injEq]; rfl | (first | (apply AOpl.pass; rfl) | apply ASl.pass); (focus simp [*]; done) | (first | refine AOpl.nil ?_ | refine AWp.skip ?_ | refine AWp.exit ?_ | refine AWp.ret ?_ | refine ASl.nil ?_); try simp only [Then, InBlock, reduceIte, Nat.reduceEqDiff] | refine AWp.seq ?_ | refine AWp.reg rfl ?_ | refine AWp.block ?_ | apply AWp.condT; focus simp [*]; done | apply AWp.condF; focus simp [*]; done)
    refine AWp.regTC b (by kernel_rfl) (by kernel_rfl) rfl rfl ?_
    repeat (first | apply ASlC.step; (focus simp [*, -Option.some.injEq]; rfl); (focus first | exact Blind.pure rfl | exact Blind.eff rfl | (refine Blind.look fun H1 hl1 => ?_; have hk1 := hl1 _ (q.2.1 1 |>.2); simp [hk1, *]; done)) | refine ASlC.nil ?_; try simp only [Then, InBlock, reduceIte, Nat.reduceEqDiff])
    refine gBc (s2) ?_
    repeat (first | apply ASlC.step; (focus simp [*, -Option.some.injEq]; rfl); (focus first | exact Blind.pure rfl | exact Blind.eff rfl | (refine Blind.look fun H1 hl1 => ?_; have hk1 := hl1 _ (q.2.1 1 |>.2); simp [hk1, *]; done)) | refine ASlC.nil ?_; try simp only [Then, InBlock, reduceIte, Nat.reduceEqDiff])
    (refine ASlC.call1 (by first | rfl | (simp [*]; done)) (by simp [*]) (by kernel_rfl) (s3) ?_)
    repeat (first | apply ASlC.step; (focus simp [*, -Option.some.injEq]; rfl); (focus first | exact Blind.pure rfl | exact Blind.eff rfl | (refine Blind.look fun H1 hl1 => ?_; have hk1 := hl1 _ (q.2.1 1 |>.2); simp [hk1, *]; done)) | refine ASlC.nil ?_; try simp only [Then, InBlock, reduceIte, Nat.reduceEqDiff])
    refine gW ?_
    exact ⟨by ((repeat (first | exact Keeps.base _ _ _ _ | (with_reducible exact Keeps.refl _ _ _) | (refine Keeps.put rfl ?_) | (refine Keeps.over' rfl rfl ?_)))), (n, binE 1 e x, σ2), by simp only; omega, by simp [upd, *], by simp [upd, *], by simp [upd, *], by simp only; omega, b8, .inr (by simp only; omega), hR⟩
  | false =>
  simp only [hz] at s1
  cases hz2 : atB ts σ1 [45] with
  | true =>
    obtain ⟨hb3, b6, n, rfl, hf1⟩ := go _ (.inr rfl) hz2
    simp only [hz2] at t1
    have s2 := rp_prod hT hE hEi ⟨σ1.i + 1, false⟩ (by simp only; omega) b6 b
    obtain ⟨b7, b8⟩ := prod_in hT hEi (σ := ⟨σ1.i + 1, false⟩) b6
    rw [qSumLoop, if_neg (by rw [hz]; simp), if_pos hz2] at hR
    cases hr : qProd ts E ⟨σ1.i + 1, false⟩ with
    | mk x σ2 =>
    simp only [hr] at s2 b7 b8 hR
    have s3 := rp_bin 2 e x
    clear hf hn4 go
    refine gW ?_
    refine gB (s1) ?_
    refine gW ?_
    refine gB (t1) ?_
    refine gW ?_
    refine gB (t1) ?_
    repeat (first | (first | (apply AOpl.step; rfl) | apply ASl.step); focus simp [*, -Option.some.injEq]; rfl | (first | (apply AOpl.stepG; rfl) | apply ASl.stepG); (focus simp [*]; done); focus simp [*, -Option.some.injEq]; rfl | (first | (apply AOpl.pass; rfl) | apply ASl.pass); (focus simp [*]; done) | (first | refine AOpl.nil ?_ | refine AWp.skip ?_ | refine AWp.exit ?_ | refine AWp.ret ?_ | refine ASl.nil ?_); try simp only [Then, InBlock, reduceIte, Nat.reduceEqDiff] | refine AWp.seq ?_ | refine AWp.reg rfl ?_ | refine AWp.block ?_ | apply AWp.condT; focus simp [*]; done | apply AWp.condF; focus simp [*]; done)
    refine AWp.regTC b (by kernel_rfl) (by kernel_rfl) rfl rfl ?_
    repeat (first | apply ASlC.step; (focus simp [*, -Option.some.injEq]; rfl); (focus first | exact Blind.pure rfl | exact Blind.eff rfl | (refine Blind.look fun H1 hl1 => ?_; have hk1 := hl1 _ (q.2.1 1 |>.2); simp [hk1, *]; done)) | refine ASlC.nil ?_; try simp only [Then, InBlock, reduceIte, Nat.reduceEqDiff])
    refine gBc (s2) ?_
    repeat (first | apply ASlC.step; (focus simp [*, -Option.some.injEq]; rfl); (focus first | exact Blind.pure rfl | exact Blind.eff rfl | (refine Blind.look fun H1 hl1 => ?_; have hk1 := hl1 _ (q.2.1 1 |>.2); simp [hk1, *]; done)) | refine ASlC.nil ?_; try simp only [Then, InBlock, reduceIte, Nat.reduceEqDiff])
    (refine ASlC.call1 (by first | rfl | (simp [*]; done)) (by simp [*]) (by kernel_rfl) (s3) ?_)
    repeat (first | apply ASlC.step; (focus simp [*, -Option.some.injEq]; rfl); (focus first | exact Blind.pure rfl | exact Blind.eff rfl | (refine Blind.look fun H1 hl1 => ?_; have hk1 := hl1 _ (q.2.1 1 |>.2); simp [hk1, *]; done)) | refine ASlC.nil ?_; try simp only [Then, InBlock, reduceIte, Nat.reduceEqDiff])
    refine gW ?_
    exact ⟨by ((repeat (first | exact Keeps.base _ _ _ _ | (with_reducible exact Keeps.refl _ _ _) | (refine Keeps.put rfl ?_) | (refine Keeps.over' rfl rfl ?_)))), (n, binE 2 e x, σ2), by simp only; omega, by simp [upd, *], by simp [upd, *], by simp [upd, *], by simp only; omega, b8, .inr (by simp only; omega), hR⟩
  | false =>
    have hR2 : R = (e, σ1) := by
      cases n with
      | zero =>
        rcases hf with hf | hf
        · rw [hR, qSumLoop, rs_bad hf]
        · omega
      | succ n => rw [hR, qSumLoop, if_neg (by rw [hz]; simp), if_neg (by rw [hz2]; simp)]
    simp only [hz2] at t1
    clear hR hf hn4 go
    rw [hR2]
    refine gW ?_
    refine gB (s1) ?_
    refine gW ?_
    refine gB (t1) ?_
    refine gW ?_
    (refine ⟨_, (by simp [*]; rfl), ?_⟩; (try simp only [packA]))
    (refine ⟨_, rfl, ?_, by simp [*]⟩; simp only [cvE_eq]; first | exact Wk.same _ | (refine WkL.agg ?_; repeat (first | exact WkL.nil | refine WkL.cons (by first | exact Wk.nil | exact Wk.same _) ?_)))
set_option maxRecDepth 10000 in
set_option maxHeartbeats 16000000 in
theorem rp_exprW (σ : RS) (hm : m ≤ σ.i) (hi : σ.i < ts.length) : RC ts 43 [] (fun e => .agg (cvE e)) (qExprW ts E) σ := by
  intro b
  refine B1.ofBodyW paG_pu rfl (puP _ _) (puP _ _) (by simp only [puV, puE]) Tryz.func43 rfl rfl fun nx hlt q => ?_
  have hlen := hT.wf.len
  have h0 := rp_sum hT hE hEi σ hm hi b
  obtain ⟨b1, b2⟩ := sum_in hT hEi hi
  unfold qExprW
  cases ha : qSum ts E σ with
  | mk e σ1 =>
  simp only [ha] at h0 b1 b2
  have s1 := rp_skip hT _ km_less σ1 b2 b
  cases hz : atB ts σ1 [60] with
  | true =>
    have b6 : σ1.i + 1 < ts.length := (at_in hT (σ := σ1) (x := [60]) (by decide) hz b2).2
    have s2 := rp_sum hT hE hEi ⟨σ1.i + 1, false⟩ (by simp only; omega) b6 b
    simp only [hz, skipS_true hz] at s1
    simp only [qExpr1, hz, if_true]
    have s3 := rp_bin 4 e (qSum ts E ⟨σ1.i + 1, false⟩).1
    refine gW ?_
    refine gB (h0) ?_
    refine gW ?_
    refine gB (s1) ?_
    repeat (first | (first | (apply AOpl.step; rfl) | apply ASl.step); focus simp [*, -Option.some.injEq]; rfl | (first | (apply AOpl.stepG; rfl) | apply ASl.stepG); (focus simp [*]; done); focus simp [*, -Option.some.injEq]; rfl | (first | (apply AOpl.pass; rfl) | apply ASl.pass); (focus simp [*]; done) | (first | refine AOpl.nil ?_ | refine AWp.skip ?_ | refine AWp.exit ?_ | refine AWp.ret ?_ | refine ASl.nil ?_); try simp only [Then, InBlock, reduceIte, Nat.reduceEqDiff] | refine AWp.seq ?_ | refine AWp.reg rfl ?_ | refine AWp.block ?_ | apply AWp.condT; focus simp [*]; done | apply AWp.condF; focus simp [*]; done)
    refine AWp.regTC b (by kernel_rfl) (by kernel_rfl) rfl rfl ?_
    repeat (first | apply ASlC.step; (focus simp [*, -Option.some.injEq]; rfl); (focus first | exact Blind.pure rfl | exact Blind.eff rfl | (refine Blind.look fun H1 hl1 => ?_; have hk1 := hl1 _ (q.2.1 1 |>.2); simp [hk1, *]; done)) | refine ASlC.nil ?_; try simp only [Then, InBlock, reduceIte, Nat.reduceEqDiff])
    refine gBc (s2) ?_
    repeat (first | apply ASlC.step; (focus simp [*, -Option.some.injEq]; rfl); (focus first | exact Blind.pure rfl | exact Blind.eff rfl | (refine Blind.look fun H1 hl1 => ?_; have hk1 := hl1 _ (q.2.1 1 |>.2); simp [hk1, *]; done)) | refine ASlC.nil ?_; try simp only [Then, InBlock, reduceIte, Nat.reduceEqDiff])
    (refine ASlC.call1 (by first | rfl | (simp [*]; done)) (by simp [*]) (by kernel_rfl) (s3) ?_)
    repeat (first | apply ASlC.step; (focus simp [*, -Option.some.injEq]; rfl); (focus first | exact Blind.pure rfl | exact Blind.eff rfl | (refine Blind.look fun H1 hl1 => ?_; have hk1 := hl1 _ (q.2.1 1 |>.2); simp [hk1, *]; done)) | refine ASlC.nil ?_; try simp only [Then, InBlock, reduceIte, Nat.reduceEqDiff])
    refine gW ?_
    (refine ⟨_, (by simp [*]; rfl), ?_⟩; (try simp only [packA]))
    (refine ⟨_, rfl, ?_, by simp [*]⟩; simp only [cvE_eq]; first | exact Wk.same _ | (refine WkL.agg ?_; repeat (first | exact WkL.nil | refine WkL.cons (by first | exact Wk.nil | exact Wk.same _) ?_)))
  | false =>
    have s4 := rp_skip hT _ km_eq σ1 b2 b
    simp only [hz, skipS_false hz] at s1
    cases hz2 : atB ts σ1 [61, 61] with
    | true =>
      have b6 : σ1.i + 1 < ts.length := (at_in hT (σ := σ1) (x := [61, 61]) (by decide) hz2 b2).2
      have s2 := rp_sum hT hE hEi ⟨σ1.i + 1, false⟩ (by simp only; omega) b6 b
      simp only [hz2, skipS_true hz2] at s4
      simp only [qExpr1, hz, hz2, if_true, Bool.false_eq_true, if_false]
      have s3 := rp_bin 5 e (qSum ts E ⟨σ1.i + 1, false⟩).1
      refine gW ?_
      refine gB (h0) ?_
      refine gW ?_
      refine gB (s1) ?_
      refine gW ?_
      refine gB (s4) ?_
      repeat (first | (first | (apply AOpl.step; rfl) | apply ASl.step); focus simp [*, -Option.some.injEq]; rfl | (first | (apply AOpl.stepG; rfl) | apply ASl.stepG); (focus simp [*]; done); focus simp [*, -Option.some.injEq]; rfl | (first | (apply AOpl.pass; rfl) | apply ASl.pass); (focus simp [*]; done) | (first | refine AOpl.nil ?_ | refine AWp.skip ?_ | refine AWp.exit ?_ | refine AWp.ret ?_ | refine ASl.nil ?_); try simp only [Then, InBlock, reduceIte, Nat.reduceEqDiff] | refine AWp.seq ?_ | refine AWp.reg rfl ?_ | refine AWp.block ?_ | apply AWp.condT; focus simp [*]; done | apply AWp.condF; focus simp [*]; done)
      refine AWp.regTC b (by kernel_rfl) (by kernel_rfl) rfl rfl ?_
      repeat (first | apply ASlC.step; (focus simp [*, -Option.some.injEq]; rfl); (focus first | exact Blind.pure rfl | exact Blind.eff rfl | (refine Blind.look fun H1 hl1 => ?_; have hk1 := hl1 _ (q.2.1 1 |>.2); simp [hk1, *]; done)) | refine ASlC.nil ?_; try simp only [Then, InBlock, reduceIte, Nat.reduceEqDiff])
      refine gBc (s2) ?_
      repeat (first | apply ASlC.step; (focus simp [*, -Option.some.injEq]; rfl); (focus first | exact Blind.pure rfl | exact Blind.eff rfl | (refine Blind.look fun H1 hl1 => ?_; have hk1 := hl1 _ (q.2.1 1 |>.2); simp [hk1, *]; done)) | refine ASlC.nil ?_; try simp only [Then, InBlock, reduceIte, Nat.reduceEqDiff])
      (refine ASlC.call1 (by first | rfl | (simp [*]; done)) (by simp [*]) (by kernel_rfl) (s3) ?_)
      repeat (first | apply ASlC.step; (focus simp [*, -Option.some.injEq]; rfl); (focus first | exact Blind.pure rfl | exact Blind.eff rfl | (refine Blind.look fun H1 hl1 => ?_; have hk1 := hl1 _ (q.2.1 1 |>.2); simp [hk1, *]; done)) | refine ASlC.nil ?_; try simp only [Then, InBlock, reduceIte, Nat.reduceEqDiff])
      refine gW ?_
      (refine ⟨_, (by simp [*]; rfl), ?_⟩; (try simp only [packA]))
      (refine ⟨_, rfl, ?_, by simp [*]⟩; simp only [cvE_eq]; first | exact Wk.same _ | (refine WkL.agg ?_; repeat (first | exact WkL.nil | refine WkL.cons (by first | exact Wk.nil | exact Wk.same _) ?_)))
    | false =>
      simp only [hz2, skipS_false hz2] at s4
      simp only [qExpr1, hz, hz2, Bool.false_eq_true, if_false]
      refine gW ?_
      refine gB (h0) ?_
      refine gW ?_
      refine gB (s1) ?_
      refine gW ?_
      refine gB (s4) ?_
      refine gW ?_
      (refine ⟨_, (by simp [*]; rfl), ?_⟩; (try simp only [packA]))
      (refine ⟨_, rfl, ?_, by simp [*]⟩; simp only [cvE_eq]; first | exact Wk.same _ | (refine WkL.agg ?_; repeat (first | exact WkL.nil | refine WkL.cons (by first | exact Wk.nil | exact Wk.same _) ?_)))
end
/-- Expressions: the reference does what its plain function says. -/
theorem rp_expr {ts : List Tok} (hT : TWR ts) : ∀ f σ, ts.length - σ.i < f → σ.i < ts.length → RC ts 43 [] (fun e => .agg (cvE e)) (qExpr ts f) σ := by
  intro f
  induction f with
  | zero => intro σ h; omega
  | succ f ih =>
    intro σ hf hi
    exact rp_exprW hT (E := qExpr ts f) (m := σ.i) (fun σ' h1 h2 => ih σ' (by omega) h2) (expr_in hT f) σ (Nat.le_refl _) hi
theorem rp_E {ts : List Tok} (hT : TWR ts) (σ : RS) (hi : σ.i < ts.length) : RC ts 43 [] (fun e => .agg (cvE e)) (qE ts) σ := rp_expr hT _ σ (by omega) hi
theorem rp_P {ts : List Tok} (hT : TWR ts) (σ : RS) (hi : σ.i < ts.length) : RC ts 105 [] (fun e => .agg (cvE e)) (qP ts) σ :=
  rp_post hT (m := σ.i) (fun σ' h1 h2 => rp_expr hT _ σ' (by omega) h2) (expr_in hT _) σ (Nat.le_refl _) hi
end Go.Proofs.YthjonkommphkkaaGreatDoor
