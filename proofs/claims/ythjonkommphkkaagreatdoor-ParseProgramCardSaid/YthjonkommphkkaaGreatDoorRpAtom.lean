/-
  The reference's parser: atoms walked.
-/
import Derived.Test.YthjonkommphkkaaGreatDoorJpBh
set_option linter.unusedSectionVars false
set_option linter.unusedSimpArgs false
set_option linter.unnecessarySimpa false
set_option linter.unusedVariables false
set_option linter.unusedSimpArgs false
set_option linter.unusedVariables false
namespace Go.Proofs.YthjonkommphkkaaGreatDoor
open Lx Ax
theorem km_minus : [45] ∈ kmList := by decide
theorem km_null : [110, 117, 108, 108] ∈ kmList := by decide
theorem km_this : [116, 104, 105, 115] ∈ kmList := by decide
theorem km_input : [105, 110, 112, 117, 116] ∈ kmList := by decide
theorem km_new : [110, 101, 119] ∈ kmList := by decide
theorem km_cc : [58, 58] ∈ kmList := by decide
end Go.Proofs.YthjonkommphkkaaGreatDoor
namespace Go.Proofs.YthjonkommphkkaaGreatDoor
open Lx Ax Go.RowKit
attribute [local simp] stepS Ax.stepT Dl.on qstep astep estep rd putE over argE ofV ofS loadA pickCells isAggD faddA fieldA partA iaddA idxA bnd binA intA strA unA convA bltA lenA mapOf lookA findK keyD scalD storeA mupA srcA srcD upd drp Dl.hp Dl.nx CV.cs CV.one buildA placesA fillA zrep tasA ifaceD eqA eqFs eqIs range2 copyA nbeq nble nblt decEq beqI bneI beqS bneS isED Int.ofNat_inj List.getElem?_map List.getElem?_eq_getElem Option.map_some ti_int ti_i64 ti_str ti_bool ti_Toks ti_Tok ti_Pp ti_Exs ti_Ex gd gdB callA resA op1
attribute [local simp] psC cvT one1 cvE_eq exk exn exo exm exks drR drpC nu1 nu2 nu3 nu4 nu5 nu6 nu7 nu8 nu9 nu10 nu11 nu12 nu13 exZ
section
variable {ts : List Tok} (hT : TWR ts) {E : RS → Ex × RS} {m : Nat} (hE : ∀ σ, m < σ.i → σ.i < ts.length → RC ts 43 [] (fun e => .agg (cvE e)) E σ) (hEi : ∀ σ, Inn ts σ (E σ).2)
include hT hE hEi
set_option maxRecDepth 10000 in
set_option maxHeartbeats 16000000 in
theorem rp_atom (σ : RS) (hm : m ≤ σ.i) (hi : σ.i < ts.length) : RC ts 113 [] (fun e => .agg (cvE e)) (qAtom ts E) σ := by
  intro b
  refine B1.ofBodyW paG_pu rfl (puP _ _) (puP _ _) (by simp only [puV, puE]) Tryz.func113 rfl rfl fun nx hlt q => ?_
  obtain ⟨i, bd⟩ := σ
  simp only at hm hi
  have ht := tk_at hi
  have he := tk_get _ _ hi
  have hlen := hT.wf.len
  cases bd with
  | true =>
    simp only [qAtom, if_true]
    refine gW ?_
    (refine ⟨_, (by simp [*]; rfl), ?_⟩; (try simp only [packA]))
    (refine ⟨_, rfl, ?_, by simp [*]⟩; simp only [cvE_eq, exk, exn, exo, exm, exks, exZ, List.map_nil]; first | exact Wk.same _ | (refine WkL.agg ?_; repeat (first | exact WkL.nil | refine WkL.cons (by first | exact Wk.nil | exact Wk.same _) ?_)))
  | false =>
  have nk : ∀ {x : Bytes}, x ∈ kmList → atB ts ⟨i, false⟩ x = true → ¬ (ts[i].kind : Int) = 3 := fun hx h => by
    have := hT.km _ _ hx (atB_true h).2
    simp only at this
    rw [he] at this; omega
  have h1 := rp_skip hT _ km_minus ⟨i, false⟩ hi b
  cases z1 : atB ts ⟨i, false⟩ [45] with
  | true =>
    have hi1 : i + 1 < ts.length := (at_in hT (σ := ⟨i, false⟩) (x := [45]) (by decide) z1 hi).2
    have ht1 := tk_at hi1
    have he1 := tk_get _ _ hi1
    have hw : IntKind.i64.wrap ((i : Int) + 1 + 1) = ((i + 1 + 1 : Nat) : Int) := by have := wrap_up hi1 (by simp only [maxLen]; omega); simpa using this
    have hnl : ts[i + 1].n < 9223372036854775808 := by have := hT.wf.n_lt (i + 1); rw [he1] at this; exact this
    have hwn : IntKind.i64.wrap (-(ts[i + 1].n : Int)) = -(ts[i + 1].n : Int) := by rw [IntKind.wrap_i64]; omega
    simp only [z1, skipS_true z1] at h1
    simp only [qAtom, z1, if_true, Bool.false_eq_true, if_false]
    by_cases hk : ts[i + 1].kind = 3
    · by_cases hn : ts[i + 1].n = 0
      · have hqm : qMinus ts (i + 1) = (exZ, ⟨i + 1, true⟩) := by unfold qMinus; rw [if_neg (by rw [he1]; exact fun h => h.2 hn)]
        rw [hqm]
        refine gW ?_
        (refine AOpl.callB rfl (by first | rfl | (simp [*]; done)) (by simp [*]) (by kernel_rfl) (h1) (by simp [*]) ?_)
        refine gW ?_
        (refine ⟨_, (by simp [*]; rfl), ?_⟩; (try simp only [packA]))
        (refine ⟨_, rfl, ?_, by simp [*]⟩; simp only [cvE_eq, exk, exn, exo, exm, exks, exZ, List.map_nil]; first | exact Wk.same _ | (refine WkL.agg ?_; repeat (first | exact WkL.nil | refine WkL.cons (by first | exact Wk.nil | exact Wk.same _) ?_)))
      · have hqm : qMinus ts (i + 1) = (.mk 1 (-(ts[i + 1].n : Int)) [] [] [], ⟨i + 1 + 1, false⟩) := by unfold qMinus; rw [if_pos (by rw [he1]; exact ⟨hk, hn⟩), he1]
        rw [hqm]
        have hn' : ¬ (ts[i + 1].n : Int) = 0 := by omega
        refine gW ?_
        (refine AOpl.callB rfl (by first | rfl | (simp [*]; done)) (by simp [*]) (by kernel_rfl) (h1) (by simp [*]) ?_)
        refine gW ?_
        (refine ⟨_, (by simp [*]; rfl), ?_⟩; (try simp only [packA]))
        (refine ⟨_, rfl, ?_, by simp [*]⟩; simp only [cvE_eq, exk, exn, exo, exm, exks, exZ, List.map_nil]; first | exact Wk.same _ | (refine WkL.agg ?_; repeat (first | exact WkL.nil | refine WkL.cons (by first | exact Wk.nil | exact Wk.same _) ?_)))
    · have hqm : qMinus ts (i + 1) = (exZ, ⟨i + 1, true⟩) := by unfold qMinus; rw [if_neg (by rw [he1]; exact fun h => hk h.1)]
      rw [hqm]
      have hk' : ¬ (ts[i + 1].kind : Int) = 3 := by omega
      refine gW ?_
      (refine AOpl.callB rfl (by first | rfl | (simp [*]; done)) (by simp [*]) (by kernel_rfl) (h1) (by simp [*]) ?_)
      refine gW ?_
      (refine ⟨_, (by simp [*]; rfl), ?_⟩; (try simp only [packA]))
      (refine ⟨_, rfl, ?_, by simp [*]⟩; simp only [cvE_eq, exk, exn, exo, exm, exks, exZ, List.map_nil]; first | exact Wk.same _ | (refine WkL.agg ?_; repeat (first | exact WkL.nil | refine WkL.cons (by first | exact Wk.nil | exact Wk.same _) ?_)))
  | false =>
  simp only [z1, skipS_false z1] at h1
  have hw : IntKind.i64.wrap ((i : Int) + 1) = ((i + 1 : Nat) : Int) := wrap_up hi (by simp only [maxLen]; omega)
  by_cases hk : ts[i].kind = 3
  · simp only [qAtom, z1, he, hk, if_true, Bool.false_eq_true, if_false]
    clear nk
    refine gW ?_
    (refine AOpl.callB rfl (by first | rfl | (simp [*]; done)) (by simp [*]) (by kernel_rfl) (h1) (by simp [*]) ?_)
    refine gW ?_
    (refine ⟨_, (by simp [*]; rfl), ?_⟩; (try simp only [packA]))
    (refine ⟨_, rfl, ?_, by simp [*]⟩; simp only [cvE_eq, exk, exn, exo, exm, exks, exZ, List.map_nil]; first | exact Wk.same _ | (refine WkL.agg ?_; repeat (first | exact WkL.nil | refine WkL.cons (by first | exact Wk.nil | exact Wk.same _) ?_)))
  have hk' : ¬ (ts[i].kind : Int) = 3 := by omega
  have h2 := rp_skip hT _ km_null ⟨i, false⟩ hi b
  cases z2 : atB ts ⟨i, false⟩ [110, 117, 108, 108] with
  | true =>
    simp only [z2, skipS_true z2] at h2
    simp only [qAtom, z1, z2, he, hk, if_true, Bool.false_eq_true, if_false]
    clear nk
    refine gW ?_
    (refine AOpl.callB rfl (by first | rfl | (simp [*]; done)) (by simp [*]) (by kernel_rfl) (h1) (by simp [*]) ?_)
    refine gW ?_
    (refine AOpl.callB rfl (by first | rfl | (simp [*]; done)) (by simp [*]) (by kernel_rfl) (h2) (by simp [*]) ?_)
    refine gW ?_
    (refine ⟨_, (by simp [*]; rfl), ?_⟩; (try simp only [packA]))
    (refine ⟨_, rfl, ?_, by simp [*]⟩; simp only [cvE_eq, exk, exn, exo, exm, exks, exZ, List.map_nil]; first | exact Wk.same _ | (refine WkL.agg ?_; repeat (first | exact WkL.nil | refine WkL.cons (by first | exact Wk.nil | exact Wk.same _) ?_)))
  | false =>
  simp only [z2, skipS_false z2] at h2
  have h3 := rp_skip hT _ km_this ⟨i, false⟩ hi b
  cases z3 : atB ts ⟨i, false⟩ [116, 104, 105, 115] with
  | true =>
    simp only [z3, skipS_true z3] at h3
    simp only [qAtom, z1, z2, z3, he, hk, if_true, Bool.false_eq_true, if_false]
    clear nk
    refine gW ?_
    (refine AOpl.callB rfl (by first | rfl | (simp [*]; done)) (by simp [*]) (by kernel_rfl) (h1) (by simp [*]) ?_)
    refine gW ?_
    (refine AOpl.callB rfl (by first | rfl | (simp [*]; done)) (by simp [*]) (by kernel_rfl) (h2) (by simp [*]) ?_)
    refine gW ?_
    (refine AOpl.callB rfl (by first | rfl | (simp [*]; done)) (by simp [*]) (by kernel_rfl) (h3) (by simp [*]) ?_)
    refine gW ?_
    (refine ⟨_, (by simp [*]; rfl), ?_⟩; (try simp only [packA]))
    (refine ⟨_, rfl, ?_, by simp [*]⟩; simp only [cvE_eq, exk, exn, exo, exm, exks, exZ, List.map_nil]; first | exact Wk.same _ | (refine WkL.agg ?_; repeat (first | exact WkL.nil | refine WkL.cons (by first | exact Wk.nil | exact Wk.same _) ?_)))
  | false =>
  simp only [z3, skipS_false z3] at h3
  have h4 := rp_skip hT _ km_input ⟨i, false⟩ hi b
  cases z4 : atB ts ⟨i, false⟩ [105, 110, 112, 117, 116] with
  | true =>
    simp only [z4, skipS_true z4] at h4
    have hi1 : i + 1 < ts.length := (at_in hT (σ := ⟨i, false⟩) (by decide) z4 hi).2
    have h5 := rp_must hT _ lp_km ⟨i + 1, false⟩ hi1 b
    have h6 := rp_must hT _ rp_km (mustS ts ⟨i + 1, false⟩ [40]) (must_in hT (by decide) hi1).2 b
    simp only [qAtom, qUnit, z1, z2, z3, z4, he, hk, if_true, Bool.false_eq_true, if_false]
    clear nk
    refine gW ?_
    (refine AOpl.callB rfl (by first | rfl | (simp [*]; done)) (by simp [*]) (by kernel_rfl) (h1) (by simp [*]) ?_)
    refine gW ?_
    (refine AOpl.callB rfl (by first | rfl | (simp [*]; done)) (by simp [*]) (by kernel_rfl) (h2) (by simp [*]) ?_)
    refine gW ?_
    (refine AOpl.callB rfl (by first | rfl | (simp [*]; done)) (by simp [*]) (by kernel_rfl) (h3) (by simp [*]) ?_)
    refine gW ?_
    (refine AOpl.callB rfl (by first | rfl | (simp [*]; done)) (by simp [*]) (by kernel_rfl) (h4) (by simp [*]) ?_)
    refine gW ?_
    (refine AOpl.callB rfl (by first | rfl | (simp [*]; done)) (by simp [*]) (by kernel_rfl) (h5) (by simp [*]) ?_)
    refine gW ?_
    (refine AOpl.callB rfl (by first | rfl | (simp [*]; done)) (by simp [*]) (by kernel_rfl) (h6) (by simp [*]) ?_)
    refine gW ?_
    (refine ⟨_, (by simp [*]; rfl), ?_⟩; (try simp only [packA]))
    (refine ⟨_, rfl, ?_, by simp [*]⟩; simp only [cvE_eq, exk, exn, exo, exm, exks, exZ, List.map_nil]; first | exact Wk.same _ | (refine WkL.agg ?_; repeat (first | exact WkL.nil | refine WkL.cons (by first | exact Wk.nil | exact Wk.same _) ?_)))
  | false =>
  simp only [z4, skipS_false z4] at h4
  have h5 := rp_skip hT _ km_new ⟨i, false⟩ hi b
  cases z5 : atB ts ⟨i, false⟩ [110, 101, 119] with
  | true =>
    simp only [z5, skipS_true z5] at h5
    have hi1 : i + 1 < ts.length := (at_in hT (σ := ⟨i, false⟩) (by decide) z5 hi).2
    have h6 := rp_name hT ⟨i + 1, false⟩ hi1 b
    have hi2 : (qName ts ⟨i + 1, false⟩).2.i < ts.length := (name_in hT hi1).2
    have h7 := rp_must hT _ lp_km (qName ts ⟨i + 1, false⟩).2 hi2 b
    have h8 := rp_must hT _ rp_km (mustS ts (qName ts ⟨i + 1, false⟩).2 [40]) (must_in hT (by decide) hi2).2 b
    simp only [qAtom, qUnit, z1, z2, z3, z4, z5, he, hk, if_true, Bool.false_eq_true, if_false]
    clear nk
    refine gW ?_
    (refine AOpl.callB rfl (by first | rfl | (simp [*]; done)) (by simp [*]) (by kernel_rfl) (h1) (by simp [*]) ?_)
    refine gW ?_
    (refine AOpl.callB rfl (by first | rfl | (simp [*]; done)) (by simp [*]) (by kernel_rfl) (h2) (by simp [*]) ?_)
    refine gW ?_
    (refine AOpl.callB rfl (by first | rfl | (simp [*]; done)) (by simp [*]) (by kernel_rfl) (h3) (by simp [*]) ?_)
    refine gW ?_
    (refine AOpl.callB rfl (by first | rfl | (simp [*]; done)) (by simp [*]) (by kernel_rfl) (h4) (by simp [*]) ?_)
    refine gW ?_
    (refine AOpl.callB rfl (by first | rfl | (simp [*]; done)) (by simp [*]) (by kernel_rfl) (h5) (by simp [*]) ?_)
    refine gW ?_
    (refine AOpl.callB rfl (by first | rfl | (simp [*]; done)) (by simp [*]) (by kernel_rfl) (h6) (by simp [*]) ?_)
    refine gW ?_
    (refine AOpl.callB rfl (by first | rfl | (simp [*]; done)) (by simp [*]) (by kernel_rfl) (h7) (by simp [*]) ?_)
    refine gW ?_
    (refine AOpl.callB rfl (by first | rfl | (simp [*]; done)) (by simp [*]) (by kernel_rfl) (h8) (by simp [*]) ?_)
    refine gW ?_
    (refine ⟨_, (by simp [*]; rfl), ?_⟩; (try simp only [packA]))
    (refine ⟨_, rfl, ?_, by simp [*]⟩; simp only [cvE_eq, exk, exn, exo, exm, exks, exZ, List.map_nil]; first | exact Wk.same _ | (refine WkL.agg ?_; repeat (first | exact WkL.nil | refine WkL.cons (by first | exact Wk.nil | exact Wk.same _) ?_)))
  | false =>
  simp only [z5, skipS_false z5] at h5
  have h6 := rp_skip hT _ lp_km ⟨i, false⟩ hi b
  cases z6 : atB ts ⟨i, false⟩ [40] with
  | true =>
    simp only [z6, skipS_true z6] at h6
    have hi1 : i + 1 < ts.length := (at_in hT (σ := ⟨i, false⟩) (by decide) z6 hi).2
    have h7 := hE ⟨i + 1, false⟩ (by simp only; omega) hi1 b
    have h8 := rp_must hT _ rp_km (E ⟨i + 1, false⟩).2 (hEi _ hi1).2 b
    simp only [qAtom, z1, z2, z3, z4, z5, z6, he, hk, if_true, Bool.false_eq_true, if_false]
    clear nk
    refine gW ?_
    (refine AOpl.callB rfl (by first | rfl | (simp [*]; done)) (by simp [*]) (by kernel_rfl) (h1) (by simp [*]) ?_)
    refine gW ?_
    (refine AOpl.callB rfl (by first | rfl | (simp [*]; done)) (by simp [*]) (by kernel_rfl) (h2) (by simp [*]) ?_)
    refine gW ?_
    (refine AOpl.callB rfl (by first | rfl | (simp [*]; done)) (by simp [*]) (by kernel_rfl) (h3) (by simp [*]) ?_)
    refine gW ?_
    (refine AOpl.callB rfl (by first | rfl | (simp [*]; done)) (by simp [*]) (by kernel_rfl) (h4) (by simp [*]) ?_)
    refine gW ?_
    (refine AOpl.callB rfl (by first | rfl | (simp [*]; done)) (by simp [*]) (by kernel_rfl) (h5) (by simp [*]) ?_)
    refine gW ?_
    (refine AOpl.callB rfl (by first | rfl | (simp [*]; done)) (by simp [*]) (by kernel_rfl) (h6) (by simp [*]) ?_)
    refine gW ?_
    (refine AOpl.callB rfl (by first | rfl | (simp [*]; done)) (by simp [*]) (by kernel_rfl) (h7) (by simp [*]) ?_)
    refine gW ?_
    (refine AOpl.callB rfl (by first | rfl | (simp [*]; done)) (by simp [*]) (by kernel_rfl) (h8) (by simp [*]) ?_)
    refine gW ?_
    (refine ⟨_, (by simp [*]; rfl), ?_⟩; (try simp only [packA]))
    (refine ⟨_, rfl, ?_, by simp [*]⟩; simp only [cvE_eq, exk, exn, exo, exm, exks, exZ, List.map_nil]; first | exact Wk.same _ | (refine WkL.agg ?_; repeat (first | exact WkL.nil | refine WkL.cons (by first | exact Wk.nil | exact Wk.same _) ?_)))
  | false =>
  simp only [z6, skipS_false z6] at h6
  have h7 := rp_name hT ⟨i, false⟩ hi b
  obtain ⟨b1, b2⟩ := name_in hT (σ := ⟨i, false⟩) hi
  have hq0 : qAtom ts E ⟨i, false⟩ = qNamed1 ts E (qName ts ⟨i, false⟩).1 (qName ts ⟨i, false⟩).2 := by
    simp only [qAtom, z1, z2, z3, z4, z5, z6, he, hk, if_true, Bool.false_eq_true, if_false]; rfl
  rw [hq0]
  cases hn : qName ts ⟨i, false⟩ with
  | mk nm σ1 =>
  simp only [hn] at h7 b1 b2
  have h8 := rp_skip hT _ km_cc σ1 b2 b
  cases z7 : atB ts σ1 [58, 58] with
  | true =>
    simp only [z7, skipS_true z7] at h8
    have hi1 : σ1.i + 1 < ts.length := (at_in hT (by decide) z7 b2).2
    have h9 := rp_name hT ⟨σ1.i + 1, false⟩ hi1 b
    obtain ⟨b3, b4⟩ := name_in hT (σ := ⟨σ1.i + 1, false⟩) hi1
    simp only at b3
    have h10 := rp_list0 hT hE hEi (qName ts ⟨σ1.i + 1, false⟩).2 (by omega) b4 b
    simp only [qNamed1, z7, if_true]
    clear nk
    refine gW ?_
    (refine AOpl.callB rfl (by first | rfl | (simp [*]; done)) (by simp [*]) (by kernel_rfl) (h1) (by simp [*]) ?_)
    refine gW ?_
    (refine AOpl.callB rfl (by first | rfl | (simp [*]; done)) (by simp [*]) (by kernel_rfl) (h2) (by simp [*]) ?_)
    refine gW ?_
    (refine AOpl.callB rfl (by first | rfl | (simp [*]; done)) (by simp [*]) (by kernel_rfl) (h3) (by simp [*]) ?_)
    refine gW ?_
    (refine AOpl.callB rfl (by first | rfl | (simp [*]; done)) (by simp [*]) (by kernel_rfl) (h4) (by simp [*]) ?_)
    refine gW ?_
    (refine AOpl.callB rfl (by first | rfl | (simp [*]; done)) (by simp [*]) (by kernel_rfl) (h5) (by simp [*]) ?_)
    refine gW ?_
    (refine AOpl.callB rfl (by first | rfl | (simp [*]; done)) (by simp [*]) (by kernel_rfl) (h6) (by simp [*]) ?_)
    refine gW ?_
    (refine AOpl.callB rfl (by first | rfl | (simp [*]; done)) (by simp [*]) (by kernel_rfl) (h7) (by simp [*]) ?_)
    refine gW ?_
    (refine AOpl.callB rfl (by first | rfl | (simp [*]; done)) (by simp [*]) (by kernel_rfl) (h8) (by simp [*]) ?_)
    refine gW ?_
    (refine AOpl.callB rfl (by first | rfl | (simp [*]; done)) (by simp [*]) (by kernel_rfl) (h9) (by simp [*]) ?_)
    refine gW ?_
    (refine AOpl.callB rfl (by first | rfl | (simp [*]; done)) (by simp [*]) (by kernel_rfl) (h10) (by simp [*]) ?_)
    refine gW ?_
    (refine ⟨_, (by simp [*]; rfl), ?_⟩; (try simp only [packA]))
    (refine ⟨_, rfl, ?_, by simp [*]⟩; simp only [cvE_eq, exk, exn, exo, exm, exks, exZ, List.map_nil]; first | exact Wk.same _ | (refine WkL.agg ?_; repeat (first | exact WkL.nil | refine WkL.cons (by first | exact Wk.nil | exact Wk.same _) ?_)))
  | false =>
    simp only [z7, skipS_false z7] at h8
    simp only [qNamed1, z7, Bool.false_eq_true, if_false]
    clear nk
    refine gW ?_
    (refine AOpl.callB rfl (by first | rfl | (simp [*]; done)) (by simp [*]) (by kernel_rfl) (h1) (by simp [*]) ?_)
    refine gW ?_
    (refine AOpl.callB rfl (by first | rfl | (simp [*]; done)) (by simp [*]) (by kernel_rfl) (h2) (by simp [*]) ?_)
    refine gW ?_
    (refine AOpl.callB rfl (by first | rfl | (simp [*]; done)) (by simp [*]) (by kernel_rfl) (h3) (by simp [*]) ?_)
    refine gW ?_
    (refine AOpl.callB rfl (by first | rfl | (simp [*]; done)) (by simp [*]) (by kernel_rfl) (h4) (by simp [*]) ?_)
    refine gW ?_
    (refine AOpl.callB rfl (by first | rfl | (simp [*]; done)) (by simp [*]) (by kernel_rfl) (h5) (by simp [*]) ?_)
    refine gW ?_
    (refine AOpl.callB rfl (by first | rfl | (simp [*]; done)) (by simp [*]) (by kernel_rfl) (h6) (by simp [*]) ?_)
    refine gW ?_
    (refine AOpl.callB rfl (by first | rfl | (simp [*]; done)) (by simp [*]) (by kernel_rfl) (h7) (by simp [*]) ?_)
    refine gW ?_
    (refine AOpl.callB rfl (by first | rfl | (simp [*]; done)) (by simp [*]) (by kernel_rfl) (h8) (by simp [*]) ?_)
    refine gW ?_
    (refine ⟨_, (by simp [*]; rfl), ?_⟩; (try simp only [packA]))
    (refine ⟨_, rfl, ?_, by simp [*]⟩; simp only [cvE_eq, exk, exn, exo, exm, exks, exZ, List.map_nil]; first | exact Wk.same _ | (refine WkL.agg ?_; repeat (first | exact WkL.nil | refine WkL.cons (by first | exact Wk.nil | exact Wk.same _) ?_)))
end
end Go.Proofs.YthjonkommphkkaaGreatDoor
