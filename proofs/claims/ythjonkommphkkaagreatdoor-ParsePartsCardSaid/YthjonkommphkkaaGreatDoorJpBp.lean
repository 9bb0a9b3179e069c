/-
  The reference's Class, Method, Field and Expr walked.
-/
import Derived.Test.YthjonkommphkkaaGreatDoorJpBn
import Derived.Test.YthjonkommphkkaaGreatDoorParTops
import Derived.Test.YthjonkommphkkaaGreatDoorJpBe
import Derived.Test.YthjonkommphkkaaGreatDoorParItems
import Derived.RegionTactic
import Derived.BigRegion
set_option linter.unusedSectionVars false
set_option linter.unusedSimpArgs false
set_option linter.unnecessarySimpa false
set_option linter.unusedVariables false
set_option linter.unusedSimpArgs false
set_option linter.unusedVariables false
namespace Go.Proofs.YthjonkommphkkaaGreatDoor
open Lx Ax Go.RowKit
attribute [local simp] stepS Ax.stepT Dl.on qstep astep estep rd putE over argE ofV ofS loadA pickCells isAggD faddA fieldA partA iaddA idxA bnd binA intA strA unA convA bltA lenA mapOf lookA findK keyD scalD storeA mupA srcA srcD upd drp Dl.hp Dl.nx CV.cs CV.one buildA placesA fillA zrep tasA ifaceD eqA eqFs eqIs range2 copyA nbeq nble nblt decEq beqI bneI beqS bneS isED Int.ofNat_inj List.getElem?_map List.getElem?_eq_getElem Option.map_some ti_int ti_i64 ti_str ti_bool ti_Pp ti_Toks ti_Tok ti_Cl ti_Cls ti_So ti_Me ti_Fld ti_Ex gd gdB callA resA op1
theorem cvM_eq (m : Me) : cvM m = [.str m.name, .bool m.static, .lst (m.params.map cvF), .str m.result, .lst (m.body.map cvS)] := rfl
theorem cvF_eq (f : Fld) : cvF f = [.str f.name, .str f.typ] := rfl
attribute [local simp] psC cvT one1 drR drpC drp nu1 nu2 nu3 nu4 nu5 nu6 nu7 nu8 nu9 nu10 nu11 nu12 nu13 on1 on2 on3 on4 on5 on6 on7 cvC_eq cvM_eq cvE_eq
def resCl : Except (Nat × Nat) Cl → CV
  | .error x => .tup [.agg (cvC ⟨[], [], [], []⟩), .int .i64 x.1, .int .i64 x.2]
  | .ok c => .tup [.agg (cvC c), .int .i64 0, .int .i64 0]
set_option maxRecDepth 10000 in
set_option maxHeartbeats 16000000 in
theorem rt_TClass (l : Bytes) (hl : l.length ≤ maxLen) : FCall Tryz.prog paG 7 [.str l] fun r => r = .ret (resCl (classR l)) := by
  refine FCall.of fun nx => ACall.wkt (ACall.of_body Tryz.func7 rfl ?_)
  have hop := rt_open l hl
  obtain ⟨R, hR⟩ : ∃ R, R = classR l := ⟨_, rfl⟩
  rw [← hR]
  refine gW ?_
  refine AOpl.callG rfl rfl (by simp [callA]) (by kernel_rfl) ((hop _ _).mono ?_)
  rintro _ H1 nx1 ⟨b, hb0, hb1, hr1, hH1⟩
  subst hr1; subst hH1
  dsimp only
  clear hop
  have q1 := far (show nx < nx1 by omega)
  have q2 := far (show b < nx1 by omega)
  have q3 := far (show nx < b by omega)
  cases ht : tokensOf l with
  | error x =>
    obtain ⟨p, er⟩ := x
    have he : opnE l = (p, er) := by unfold opnE; rw [ht]
    have h2 := tokensOf_err ht
    have hR2 : R = .error (p, er) := by rw [hR]; unfold classR readR; rw [ht]
    have he0 : ¬ er = 0 := by omega
    simp only [he]
    clear hR ht he
    refine gW ?_
    (refine ⟨_, (by simp [*]; rfl), ?_⟩; (try simp only [packA]))
    exact ⟨_, _, rfl, .cons (WkL.agg (.cons (.same _) (.cons (.same _) (.cons .nil (.cons .nil .nil))))) (.cons (.same _) (.cons (.same _) .nil)), by rw [hR2]; rfl⟩
  | ok ts =>
    have he : opnE l = (0, 0) := by unfold opnE; rw [ht]
    have hts : opnTs l = ts := by unfold opnTs; rw [ht]
    have hT := twr_of ht
    have hlen := hT.wf.len
    have i0 : 0 < ts.length := hT.wf.pos
    simp only [he, hts]
    have s2 := (rp_class hT) ⟨0, false⟩ i0 b
    have b8 := (class_in hT (σ := ⟨0, false⟩) i0).2
    have hdo := does_class hT hT.kt ⟨0, false⟩
    cases hr : (qClass ts) ⟨0, false⟩ with
    | mk f2 σ5 =>
    simp only [hr] at s2 b8 hdo
    have s4 := rt_close hT σ5 b8 b
    have hRr : R = if σ5.bad = true ∨ (tk ts σ5.i).kind ≠ 5 then .error ((tk ts σ5.i).pos, 2) else if classLim f2 ≠ 0 then .error (0, classLim f2) else .ok f2 := by
      rw [hR]
      unfold classR readR
      rw [ht]
      simp only
      cases hb5 : σ5.bad with
      | true =>
        have := hdo.failed rfl hb5
        simp only at this
        rw [this, if_pos (.inl rfl)]
      | false =>
        have := (hdo.good hb5).2
        simp only at this
        rw [this]
        simp only
        by_cases hk : (tk ts σ5.i).kind = 5
        · rw [if_pos hk, if_neg (by rw [hk]; simp)]
        · rw [if_neg hk, if_pos (.inr hk)]
    clear hR he hts ht
    by_cases hbad : σ5.bad = true ∨ (tk ts σ5.i).kind ≠ 5
    · rw [if_pos hbad] at hRr
      simp only [hbad, if_true] at s4
      clear hbad
      refine gW ?_
      refine gB (s2) ?_
      refine gW ?_
      refine gB (s4) ?_
      refine gW ?_
      (refine ⟨_, (by simp [*]; rfl), ?_⟩; (try simp only [packA]))
      exact ⟨_, _, rfl, .cons (WkL.agg (.cons (.same _) (.cons (.same _) (.cons .nil (.cons .nil .nil))))) (.cons (.same _) (.cons (.same _) .nil)), by rw [hRr]; rfl⟩
    · rw [if_neg hbad] at hRr
      simp only [hbad, if_false] at s4
      have hb5 : σ5.bad = false := by cases h : σ5.bad with | false => rfl | true => exact (hbad (.inl h)).elim
      have hprog := (hdo.good hb5).2
      simp only at hprog
      have hsz := classP_siz hprog
      have s3 := rl_class f2 (fun m hm => by have := (hsz m hm).1; omega)
      by_cases h0 : classLim f2 = 0
      · rw [if_neg (by rw [h0]; simp)] at hRr
        simp only [h0] at s3
        clear hbad hdo hprog hsz
        refine gW ?_
        refine gB (s2) ?_
        refine gW ?_
        refine gB (s4) ?_
        refine gW ?_
        (first | refine AOpl.call1 rfl (by first | rfl | (simp [*]; done)) (by simp [*]) (by kernel_rfl) (s3) ?_ | refine ASl.callg (by first | rfl | (simp [*]; done)) (by simp [*]) (by kernel_rfl) (s3) ?_)
        refine gW ?_
        (refine ⟨_, (by simp [*]; rfl), ?_⟩; (try simp only [packA]))
        exact ⟨_, _, rfl, .cons (.same _) (.cons (.same _) (.cons (.same _) .nil)), by rw [hRr]; rfl⟩
      · rw [if_pos h0] at hRr
        clear hbad hdo hprog hsz
        refine gW ?_
        refine gB (s2) ?_
        refine gW ?_
        refine gB (s4) ?_
        refine gW ?_
        (first | refine AOpl.call1 rfl (by first | rfl | (simp [*]; done)) (by simp [*]) (by kernel_rfl) (s3) ?_ | refine ASl.callg (by first | rfl | (simp [*]; done)) (by simp [*]) (by kernel_rfl) (s3) ?_)
        refine gW ?_
        (refine ⟨_, (by simp [*]; rfl), ?_⟩; (try simp only [packA]))
        exact ⟨_, _, rfl, .cons (WkL.agg (.cons (.same _) (.cons (.same _) (.cons .nil (.cons .nil .nil))))) (.cons (.same _) (.cons (.same _) .nil)), by rw [hRr]; rfl⟩
def resMe : Except (Nat × Nat) Me → CV
  | .error x => .tup [.agg (cvM ⟨[], false, [], [], []⟩), .int .i64 x.1, .int .i64 x.2]
  | .ok c => .tup [.agg (cvM c), .int .i64 0, .int .i64 0]
set_option maxRecDepth 10000 in
set_option maxHeartbeats 16000000 in
theorem rt_TMethod (l : Bytes) (hl : l.length ≤ maxLen) : FCall Tryz.prog paG 10 [.str l] fun r => r = .ret (resMe (methodR l)) := by
  refine FCall.of fun nx => ACall.wkt (ACall.of_body Tryz.func10 rfl ?_)
  have hop := rt_open l hl
  obtain ⟨R, hR⟩ : ∃ R, R = methodR l := ⟨_, rfl⟩
  rw [← hR]
  refine gW ?_
  refine AOpl.callG rfl rfl (by simp [callA]) (by kernel_rfl) ((hop _ _).mono ?_)
  rintro _ H1 nx1 ⟨b, hb0, hb1, hr1, hH1⟩
  subst hr1; subst hH1
  dsimp only
  clear hop
  have q1 := far (show nx < nx1 by omega)
  have q2 := far (show b < nx1 by omega)
  have q3 := far (show nx < b by omega)
  cases ht : tokensOf l with
  | error x =>
    obtain ⟨p, er⟩ := x
    have he : opnE l = (p, er) := by unfold opnE; rw [ht]
    have h2 := tokensOf_err ht
    have hR2 : R = .error (p, er) := by rw [hR]; unfold methodR readR; rw [ht]
    have he0 : ¬ er = 0 := by omega
    simp only [he]
    clear hR ht he
    refine gW ?_
    (refine ⟨_, (by simp [*]; rfl), ?_⟩; (try simp only [packA]))
    exact ⟨_, _, rfl, .cons (WkL.agg (.cons (.same _) (.cons (.same _) (.cons .nil (.cons (.same _) (.cons .nil .nil)))))) (.cons (.same _) (.cons (.same _) .nil)), by rw [hR2]; rfl⟩
  | ok ts =>
    have he : opnE l = (0, 0) := by unfold opnE; rw [ht]
    have hts : opnTs l = ts := by unfold opnTs; rw [ht]
    have hT := twr_of ht
    have hlen := hT.wf.len
    have i0 : 0 < ts.length := hT.wf.pos
    simp only [he, hts]
    have s2 := (rp_method hT) ⟨0, false⟩ i0 b
    have b8 := (method_in hT (σ := ⟨0, false⟩) i0).2
    have hdo := does_method hT hT.kt ⟨0, false⟩
    cases hr : (qMethod ts) ⟨0, false⟩ with
    | mk f2 σ5 =>
    simp only [hr] at s2 b8 hdo
    have s4 := rt_close hT σ5 b8 b
    have hRr : R = if σ5.bad = true ∨ (tk ts σ5.i).kind ≠ 5 then .error ((tk ts σ5.i).pos, 2) else if methodLim f2 ≠ 0 then .error (0, methodLim f2) else .ok f2 := by
      rw [hR]
      unfold methodR readR
      rw [ht]
      simp only
      cases hb5 : σ5.bad with
      | true =>
        have := hdo.failed rfl hb5
        simp only at this
        rw [this, if_pos (.inl rfl)]
      | false =>
        have := (hdo.good hb5).2
        simp only at this
        rw [this]
        simp only
        by_cases hk : (tk ts σ5.i).kind = 5
        · rw [if_pos hk, if_neg (by rw [hk]; simp)]
        · rw [if_neg hk, if_pos (.inr hk)]
    clear hR he hts ht
    by_cases hbad : σ5.bad = true ∨ (tk ts σ5.i).kind ≠ 5
    · rw [if_pos hbad] at hRr
      simp only [hbad, if_true] at s4
      clear hbad
      refine gW ?_
      refine gB (s2) ?_
      refine gW ?_
      refine gB (s4) ?_
      refine gW ?_
      (refine ⟨_, (by simp [*]; rfl), ?_⟩; (try simp only [packA]))
      exact ⟨_, _, rfl, .cons (WkL.agg (.cons (.same _) (.cons (.same _) (.cons .nil (.cons (.same _) (.cons .nil .nil)))))) (.cons (.same _) (.cons (.same _) .nil)), by rw [hRr]; rfl⟩
    · rw [if_neg hbad] at hRr
      simp only [hbad, if_false] at s4
      have hb5 : σ5.bad = false := by cases h : σ5.bad with | false => rfl | true => exact (hbad (.inl h)).elim
      have hprog := (hdo.good hb5).2
      simp only at hprog
      have hsz := methodP_siz hprog
      have s3 := rl_method f2 (by have := hsz.1; omega)
      by_cases h0 : methodLim f2 = 0
      · rw [if_neg (by rw [h0]; simp)] at hRr
        simp only [h0] at s3
        clear hbad hdo hprog hsz
        refine gW ?_
        refine gB (s2) ?_
        refine gW ?_
        refine gB (s4) ?_
        refine gW ?_
        (first | refine AOpl.call1 rfl (by first | rfl | (simp [*]; done)) (by simp [*]) (by kernel_rfl) (s3) ?_ | refine ASl.callg (by first | rfl | (simp [*]; done)) (by simp [*]) (by kernel_rfl) (s3) ?_)
        refine gW ?_
        (refine ⟨_, (by simp [*]; rfl), ?_⟩; (try simp only [packA]))
        exact ⟨_, _, rfl, .cons (.same _) (.cons (.same _) (.cons (.same _) .nil)), by rw [hRr]; rfl⟩
      · rw [if_pos h0] at hRr
        clear hbad hdo hprog hsz
        refine gW ?_
        refine gB (s2) ?_
        refine gW ?_
        refine gB (s4) ?_
        refine gW ?_
        (first | refine AOpl.call1 rfl (by first | rfl | (simp [*]; done)) (by simp [*]) (by kernel_rfl) (s3) ?_ | refine ASl.callg (by first | rfl | (simp [*]; done)) (by simp [*]) (by kernel_rfl) (s3) ?_)
        refine gW ?_
        (refine ⟨_, (by simp [*]; rfl), ?_⟩; (try simp only [packA]))
        exact ⟨_, _, rfl, .cons (WkL.agg (.cons (.same _) (.cons (.same _) (.cons .nil (.cons (.same _) (.cons .nil .nil)))))) (.cons (.same _) (.cons (.same _) .nil)), by rw [hRr]; rfl⟩
attribute [local simp] cvF_eq
def resFld : Except (Nat × Nat) Fld → CV
  | .error x => .tup [.agg (cvF ⟨[], []⟩), .int .i64 x.1, .int .i64 x.2]
  | .ok c => .tup [.agg (cvF c), .int .i64 0, .int .i64 0]
set_option maxRecDepth 10000 in
set_option maxHeartbeats 16000000 in
theorem rt_TField (l : Bytes) (hl : l.length ≤ maxLen) : FCall Tryz.prog paG 13 [.str l] fun r => r = .ret (resFld (fieldR l)) := by
  refine FCall.of fun nx => ACall.wkt (ACall.of_body Tryz.func13 rfl ?_)
  have hop := rt_open l hl
  obtain ⟨R, hR⟩ : ∃ R, R = fieldR l := ⟨_, rfl⟩
  rw [← hR]
  refine gW ?_
  refine AOpl.callG rfl rfl (by simp [callA]) (by kernel_rfl) ((hop _ _).mono ?_)
  rintro _ H1 nx1 ⟨b, hb0, hb1, hr1, hH1⟩
  subst hr1; subst hH1
  dsimp only
  clear hop
  have q1 := far (show nx < nx1 by omega)
  have q2 := far (show b < nx1 by omega)
  have q3 := far (show nx < b by omega)
  cases ht : tokensOf l with
  | error x =>
    obtain ⟨p, er⟩ := x
    have he : opnE l = (p, er) := by unfold opnE; rw [ht]
    have h2 := tokensOf_err ht
    have hR2 : R = .error (p, er) := by rw [hR]; unfold fieldR readR; rw [ht]
    have he0 : ¬ er = 0 := by omega
    simp only [he]
    clear hR ht he
    refine gW ?_
    (refine ⟨_, (by simp [*]; rfl), ?_⟩; (try simp only [packA]))
    exact ⟨_, _, rfl, .cons (Wk.same _) (.cons (.same _) (.cons (.same _) .nil)), by rw [hR2]; rfl⟩
  | ok ts =>
    have he : opnE l = (0, 0) := by unfold opnE; rw [ht]
    have hts : opnTs l = ts := by unfold opnTs; rw [ht]
    have hT := twr_of ht
    have hlen := hT.wf.len
    have i0 : 0 < ts.length := hT.wf.pos
    simp only [he, hts]
    have s2 := (rp_field hT) ⟨0, false⟩ i0 b
    have b8 := (field_in hT (σ := ⟨0, false⟩) i0).2
    have hdo := does_field hT ⟨0, false⟩
    cases hr : (qField ts) ⟨0, false⟩ with
    | mk f2 σ5 =>
    simp only [hr] at s2 b8 hdo
    have s4 := rt_close hT σ5 b8 b
    have hRr : R = if σ5.bad = true ∨ (tk ts σ5.i).kind ≠ 5 then .error ((tk ts σ5.i).pos, 2) else .ok f2 := by
      rw [hR]
      unfold fieldR readR
      rw [ht]
      simp only
      cases hb5 : σ5.bad with
      | true =>
        have := hdo.failed rfl hb5
        simp only at this
        rw [this, if_pos (.inl rfl)]
      | false =>
        have := (hdo.good hb5).2
        simp only at this
        rw [this]
        simp only
        by_cases hk : (tk ts σ5.i).kind = 5
        · rw [if_pos hk, if_neg (by rw [hk]; simp)]
        · rw [if_neg hk, if_pos (.inr hk)]
    clear hR he hts ht
    by_cases hbad : σ5.bad = true ∨ (tk ts σ5.i).kind ≠ 5
    · rw [if_pos hbad] at hRr
      simp only [hbad, if_true] at s4
      clear hbad
      refine gW ?_
      refine gB (s2) ?_
      refine gW ?_
      refine gB (s4) ?_
      refine gW ?_
      (refine ⟨_, (by simp [*]; rfl), ?_⟩; (try simp only [packA]))
      exact ⟨_, _, rfl, .cons (Wk.same _) (.cons (.same _) (.cons (.same _) .nil)), by rw [hRr]; rfl⟩
    · rw [if_neg hbad] at hRr
      simp only [hbad, if_false] at s4
      have hb5 : σ5.bad = false := by cases h : σ5.bad with | false => rfl | true => exact (hbad (.inl h)).elim
      have hprog := (hdo.good hb5).2
      simp only at hprog
      clear hbad hdo hprog
      refine gW ?_
      refine gB (s2) ?_
      refine gW ?_
      refine gB (s4) ?_
      refine gW ?_
      (refine ⟨_, (by simp [*]; rfl), ?_⟩; (try simp only [packA]))
      exact ⟨_, _, rfl, .cons (.same _) (.cons (.same _) (.cons (.same _) .nil)), by rw [hRr]; rfl⟩
attribute [-simp] cvF_eq
def resEx : Except (Nat × Nat) Ex → CV
  | .error x => .tup [.agg (cvE (.mk 0 0 [] [] [])), .int .i64 x.1, .int .i64 x.2]
  | .ok c => .tup [.agg (cvE c), .int .i64 0, .int .i64 0]
set_option maxRecDepth 10000 in
set_option maxHeartbeats 16000000 in
theorem rt_TExpr (l : Bytes) (hl : l.length ≤ maxLen) : FCall Tryz.prog paG 15 [.str l] fun r => r = .ret (resEx (exprR l)) := by
  refine FCall.of fun nx => ACall.wkt (ACall.of_body Tryz.func15 rfl ?_)
  have hop := rt_open l hl
  obtain ⟨R, hR⟩ : ∃ R, R = exprR l := ⟨_, rfl⟩
  rw [← hR]
  refine gW ?_
  refine AOpl.callG rfl rfl (by simp [callA]) (by kernel_rfl) ((hop _ _).mono ?_)
  rintro _ H1 nx1 ⟨b, hb0, hb1, hr1, hH1⟩
  subst hr1; subst hH1
  dsimp only
  clear hop
  have q1 := far (show nx < nx1 by omega)
  have q2 := far (show b < nx1 by omega)
  have q3 := far (show nx < b by omega)
  cases ht : tokensOf l with
  | error x =>
    obtain ⟨p, er⟩ := x
    have he : opnE l = (p, er) := by unfold opnE; rw [ht]
    have h2 := tokensOf_err ht
    have hR2 : R = .error (p, er) := by rw [hR]; unfold exprR readR; rw [ht]
    have he0 : ¬ er = 0 := by omega
    simp only [he]
    clear hR ht he
    refine gW ?_
    (refine ⟨_, (by simp [*]; rfl), ?_⟩; (try simp only [packA]))
    exact ⟨_, _, rfl, .cons (WkL.agg (.cons (.same _) (.cons (.same _) (.cons (.same _) (.cons (.same _) (.cons .nil .nil)))))) (.cons (.same _) (.cons (.same _) .nil)), by rw [hR2]; simp [resEx] <;> exact ⟨rfl, rfl, rfl, rfl, rfl⟩⟩
  | ok ts =>
    have he : opnE l = (0, 0) := by unfold opnE; rw [ht]
    have hts : opnTs l = ts := by unfold opnTs; rw [ht]
    have hT := twr_of ht
    have hlen := hT.wf.len
    have i0 : 0 < ts.length := hT.wf.pos
    simp only [he, hts]
    have s2 := (rp_E hT) ⟨0, false⟩ i0 b
    have b8 := (E_in hT (σ := ⟨0, false⟩) i0).2
    have hdo := does_E hT ⟨0, false⟩
    cases hr : (qE ts) ⟨0, false⟩ with
    | mk f2 σ5 =>
    simp only [hr] at s2 b8 hdo
    have s4 := rt_close hT σ5 b8 b
    have hRr : R = if σ5.bad = true ∨ (tk ts σ5.i).kind ≠ 5 then .error ((tk ts σ5.i).pos, 2) else if 32 < exDepth f2 then .error (0, 15) else .ok f2 := by
      rw [hR]
      unfold exprR readR
      rw [ht]
      simp only
      cases hb5 : σ5.bad with
      | true =>
        have := hdo.failed rfl hb5
        simp only at this
        rw [this, if_pos (.inl rfl)]
      | false =>
        have := (hdo.good hb5).2
        simp only at this
        rw [this]
        simp only
        by_cases hk : (tk ts σ5.i).kind = 5
        · rw [if_pos hk, if_neg (by rw [hk]; simp)]
        · rw [if_neg hk, if_pos (.inr hk)]
    clear hR he hts ht
    by_cases hbad : σ5.bad = true ∨ (tk ts σ5.i).kind ≠ 5
    · rw [if_pos hbad] at hRr
      simp only [hbad, if_true] at s4
      clear hbad
      refine gW ?_
      refine gB (s2) ?_
      refine gW ?_
      refine gB (s4) ?_
      refine gW ?_
      (refine ⟨_, (by simp [*]; rfl), ?_⟩; (try simp only [packA]))
      exact ⟨_, _, rfl, .cons (WkL.agg (.cons (.same _) (.cons (.same _) (.cons (.same _) (.cons (.same _) (.cons .nil .nil)))))) (.cons (.same _) (.cons (.same _) .nil)), by rw [hRr]; simp [resEx] <;> exact ⟨rfl, rfl, rfl, rfl, rfl⟩⟩
    · rw [if_neg hbad] at hRr
      simp only [hbad, if_false] at s4
      have hb5 : σ5.bad = false := by cases h : σ5.bad with | false => rfl | true => exact (hbad (.inl h)).elim
      have hprog := (hdo.good hb5).2
      simp only at hprog
      have hsz := exprT_siz _ _ _ hprog
      have s3 := rl_depth _ f2 (Nat.le_refl _) (by omega)
      by_cases h0 : 32 < exDepth f2
      · rw [if_pos h0] at hRr
        have h0' : (32 : Int) < (exDepth f2 : Int) := by omega
        clear hbad hdo hprog hsz
        refine gW ?_
        refine gB (s2) ?_
        refine gW ?_
        refine gB (s4) ?_
        refine gW ?_
        (first | refine AOpl.call1 rfl (by first | rfl | (simp [*]; done)) (by simp [*]) (by kernel_rfl) (s3) ?_ | refine ASl.callg (by first | rfl | (simp [*]; done)) (by simp [*]) (by kernel_rfl) (s3) ?_)
        refine gW ?_
        (refine ⟨_, (by simp [*]; rfl), ?_⟩; (try simp only [packA]))
        exact ⟨_, _, rfl, .cons (WkL.agg (.cons (.same _) (.cons (.same _) (.cons (.same _) (.cons (.same _) (.cons .nil .nil)))))) (.cons (.same _) (.cons (.same _) .nil)), by rw [hRr]; simp [resEx] <;> exact ⟨rfl, rfl, rfl, rfl, rfl⟩⟩
      · rw [if_neg h0] at hRr
        have h0' : ¬ (32 : Int) < (exDepth f2 : Int) := by omega
        clear hbad hdo hprog hsz
        refine gW ?_
        refine gB (s2) ?_
        refine gW ?_
        refine gB (s4) ?_
        refine gW ?_
        (first | refine AOpl.call1 rfl (by first | rfl | (simp [*]; done)) (by simp [*]) (by kernel_rfl) (s3) ?_ | refine ASl.callg (by first | rfl | (simp [*]; done)) (by simp [*]) (by kernel_rfl) (s3) ?_)
        refine gW ?_
        (refine ⟨_, (by simp [*]; rfl), ?_⟩; (try simp only [packA]))
        exact ⟨_, _, rfl, .cons (.same _) (.cons (.same _) (.cons (.same _) .nil)), by rw [hRr]; simp [resEx] <;> exact ⟨rfl, rfl, rfl, rfl, rfl⟩⟩
end Go.Proofs.YthjonkommphkkaaGreatDoor
namespace Go.Proofs.YthjonkommphkkaaGreatDoor
open Lx Ax Go.RowKit
/-- How what a part gives stands to the chapter's answer; z: what is given with an error. -/
def Key {α : Type} (z : α) (R : Except (Nat × Nat) α) (p er : Int) (x : α) : Prop := (er = 0 ∧ p = 0 ∧ R = .ok x) ∨ ((er != 0) = true ∧ ∃ (q f : Nat), p = (q : Int) ∧ er = (f : Int) ∧ x = z ∧ R = .error (q, f))
theorem Key.eq {α : Type} {z : α} {R : Except (Nat × Nat) α} {p1 er1 p2 er2 : Int} {x1 x2 : α} (h1 : Key z R p1 er1 x1) (h2 : Key z R p2 er2 x2) : er2 = er1 ∧ x2 = x1 ∧ p2 = p1 := by
  rcases h1 with ⟨rfl, rfl, h1⟩ | ⟨_, q, f, rfl, rfl, rfl, h1⟩ <;> rcases h2 with ⟨rfl, rfl, h2⟩ | ⟨_, q2, f2, rfl, rfl, rfl, h2⟩ <;> rw [h1] at h2 <;> cases h2 <;> exact ⟨rfl, rfl, rfl⟩
theorem isList_one {α : Type} {w : World} {b k : Nat} {P : α → List Value → Prop} {x : α} {cs : Array Value} {T : TypeId} {fr : Nat × Nat} (hb : w.heap[b]? = some (.cells cs T fr)) (hk : cs.size = k) (h : P x cs.toList) : IsList Any w k P [x] (.slice (some ⟨b, 0, none⟩) 1 1) := by
  refine ⟨by unfold maxLen; simp, .inr ⟨b, 0, 1, rfl, ⟨trivial, Nat.le_refl _⟩, fun i hi => ?_⟩⟩
  obtain rfl : i = 0 := by simpa using hi
  exact ⟨cs.toList, by simp [hk], fun j hj => by simp [World.cell?, hb], h⟩
theorem retT {M : Mp} {c : CV} {p er : Int} {e : Ending} (h : EndR M (.ret (.tup [c, .int .i64 p, .int .i64 er])) e) : ∃ v, e = .returned (.tuple #[v, .int .i64 p, .int .i64 er]) ∧ RV M c v := by
  cases e <;> simp only [EndR] at h
  rename_i v
  cases h with
  | tup _ vs hv hr =>
    have hvs : RVs M [c, .int .i64 p, .int .i64 er] vs := ⟨hv, hr⟩
    obtain ⟨v0, vs, rfl, g0, hvs⟩ := hvs.cons_inv
    obtain ⟨v1, vs, rfl, g1, hvs⟩ := hvs.cons_inv
    obtain ⟨v2, vs, rfl, g2, hvs⟩ := hvs.cons_inv
    have := hvs.nil_inv; subst this
    rw [int_rv g1, int_rv g2]
    exact ⟨v0, rfl, g0⟩
theorem aggT {M : Mp} {cs : List CV} {v : Value} (h : RV M (.agg cs) v) : ∃ us : List Value, v = .agg us.toArray ∧ RVs M cs us := by
  cases h with
  | agg _ us hu hr0 => exact ⟨us, rfl, ⟨hu, hr0⟩⟩
theorem lst_slice {M : Mp} {rows : List (List CV)} {v : Value} (h : RV M (.lst rows) v) : ∃ a n c, v = .slice a n c := by cases h <;> exact ⟨_, _, _, rfl⟩
theorem readR_ok {α : Type} {spec : List Tok → PR α} {l : Bytes} {x : α} (h : readR spec l = .ok x) : ∃ ts j, TWR ts ∧ tokensOf l = .ok ts ∧ spec ts = .ok (x, j) := by
  unfold readR at h
  cases ht : tokensOf l with
  | error y => rw [ht] at h; cases h
  | ok ts =>
    rw [ht] at h
    cases hp : spec ts with
    | error q => simp only [hp] at h; cases h
    | ok y =>
      obtain ⟨y, j⟩ := y
      simp only [hp] at h
      split at h <;> cases h
      exact ⟨ts, j, twr_of ht, rfl, hp⟩
/-- The tokens that a rule passes lie within the text's. -/
theorem does_len {α : Type} {ts : List Tok} {spec : Nat → PR α} {q : RS → α × RS} {x : α} {j : Nat} (hT : TWR ts) (hd : Stp spec ⟨0, false⟩ (q ⟨0, false⟩).1 (q ⟨0, false⟩).2) (hi : Inn ts ⟨0, false⟩ (q ⟨0, false⟩).2) (h : spec 0 = .ok (x, j)) : j < ts.length := by
  rcases hd with ⟨h1, _⟩ | ⟨_, h1⟩
  · cases h1
  · simp only [h] at h1
    have := (hi hT.wf.pos).2
    rw [h1.2] at this
    exact this
theorem classR_ok {l : Bytes} {c : Cl} (h : classR l = .ok c) : (∀ m ∈ c.methods, stsSz m.body ≤ 1000000 ∧ m.params.length ≤ 1000000) ∧ c.fields.length ≤ 1000000 ∧ c.methods.length ≤ 1000000 := by
  unfold classR at h
  split at h
  · cases h
  · rename_i c' hr
    split at h
    · cases h
    · rename_i h0
      cases h
      have h0 : classLim c = 0 := by simpa using h0
      obtain ⟨ts, j, hT, _, hp⟩ := readR_ok hr
      have hsz := classP_siz hp
      have hj := does_len hT (does_class hT hT.kt _) (class_in hT) hp
      have hlen := hT.wf.len
      unfold classLim at h0
      split at h0
      · cases h0
      · exact ⟨fun m hm => by have := hsz m hm; exact ⟨by have := this.1; omega, by have := this.2; omega⟩, by omega, by omega⟩
theorem methodR_ok {l : Bytes} {m : Me} (h : methodR l = .ok m) : stsSz m.body ≤ 1000000 ∧ m.params.length ≤ 1000000 := by
  unfold methodR at h
  split at h
  · cases h
  · rename_i c' hr
    split at h
    · cases h
    · cases h
      obtain ⟨ts, j, hT, _, hp⟩ := readR_ok hr
      have hsz := methodP_siz hp
      have hj := does_len hT (does_method hT hT.kt _) (method_in hT) hp
      have hlen := hT.wf.len
      exact ⟨by have := hsz.1; omega, by have := hsz.2; omega⟩
theorem exprR_ok {l : Bytes} {e : Ex} (h : exprR l = .ok e) : exSz e ≤ 1000000 := by
  unfold exprR at h
  split at h
  · cases h
  · rename_i c' hr
    split at h
    · cases h
    · cases h
      obtain ⟨ts, j, hT, _, hp⟩ := readR_ok hr
      have hsz := exprT_siz _ _ _ hp
      have hj := does_len hT (does_E hT _) (E_in hT) hp
      have hlen := hT.wf.len
      omega
def OutClass (w : World) (l : Bytes) (e : Ending) (w' : World) : Prop := Below w.heap.size w w' ∧ ∃ (nm sp : ByteArray) (a1 : Option Addr) (n1 c1 : Nat) (a2 : Option Addr) (n2 c2 : Nat) (p er : Int) (x : Cl) (d : Nat), e = .returned (.tuple #[.agg #[.string nm, .string sp, .slice a1 n1 c1, .slice a2 n2 c2], .int .i64 p, .int .i64 er]) ∧ IsCl Any w' d x [.string nm, .string sp, .slice a1 n1 c1, .slice a2 n2 c2] ∧ Key ⟨[], [], [], []⟩ (classR l) p er x
theorem classR_err {l : Bytes} {p er : Nat} (h : classR l = .error (p, er)) : ((er : Int) != 0) = true := by
  unfold classR at h
  split at h
  · rename_i x hr
    cases h
    have := readR_err hr
    rw [bne_iff_ne]; omega
  · split at h
    · rename_i h0
      cases h
      rw [bne_iff_ne]; omega
    · cases h
theorem ClassOut.form {w : World} {l : Bytes} {e : Ending} {w' : World} (h : ClassOut w (classR l) e w') : OutClass w l e w' := by
  obtain ⟨hb, h⟩ := h
  refine ⟨hb, ?_⟩
  cases hp : classR l with
  | error x =>
    obtain ⟨p, er⟩ := x
    rw [hp] at h
    subst h
    exact ⟨_, _, _, _, _, _, _, _, p, er, ⟨[], [], [], []⟩, 0, rfl, ⟨_, _, rfl, ⟨by unfold maxLen; simp, .inl ⟨rfl, none, 0, rfl⟩⟩, ⟨by unfold maxLen; simp, .inl ⟨rfl, none, 0, rfl⟩⟩⟩, .inr ⟨classR_err hp, p, er, rfl, rfl, rfl, rfl⟩⟩
  | ok x =>
    rw [hp] at h
    obtain ⟨nm, sp, a1, n1, c1, a2, n2, c2, rfl, d, hx⟩ := h
    exact ⟨nm, sp, a1, n1, c1, a2, n2, c2, 0, 0, x, d, rfl, hx.sub fun _ _ _ => trivial, .inl ⟨rfl, rfl, rfl⟩⟩
theorem ref_TClass (s : ByteArray) (w : World) (hs : s.size ≤ maxLen) : Calls Tryz.prog 7 #[.string s] w (OutClass w s.data.toList) := by
  refine ((rt_TClass s.data.toList (by simpa using hs)) Heap.no 0 (snap w) w [.string s] (paG_rg _) (Rep.snap w) (.one (.str _ s rfl))).mono ?_
  rintro e w' ⟨M', r, H', nx', h1, h2, h3, rfl, rfl⟩
  refine ⟨h3.below, ?_⟩
  have hag : ∀ x : Cl, ∀ v, RV M' (.agg (cvC x)) v → ∃ us : List Value, v = .agg us.toArray ∧ ∃ (nm sp : ByteArray) (a1 : Option Addr) (n1 c1 : Nat) (a2 : Option Addr) (n2 c2 : Nat), us = [.string nm, .string sp, .slice a1 n1 c1, .slice a2 n2 c2] ∧ RVs M' (cvC x) [.string nm, .string sp, .slice a1 n1 c1, .slice a2 n2 c2] := by
    intro x v h
    obtain ⟨us, rfl, hu⟩ := aggT h
    refine ⟨us, rfl, ?_⟩
    have hu0 := hu
    obtain ⟨u0, us, rfl, g0, hu⟩ := hu.cons_inv
    obtain ⟨u1, us, rfl, g1, hu⟩ := hu.cons_inv
    obtain ⟨u2, us, rfl, g2, hu⟩ := hu.cons_inv
    obtain ⟨u3, us, rfl, g3, hu⟩ := hu.cons_inv
    have := hu.nil_inv; subst this
    obtain rfl := str_rv g0
    obtain rfl := str_rv g1
    obtain ⟨_, _, _, rfl⟩ := lst_slice g2
    obtain ⟨_, _, _, rfl⟩ := lst_slice g3
    exact ⟨_, _, _, _, _, _, _, _, rfl, hu0⟩
  cases hp : classR s.data.toList with
  | error x =>
    obtain ⟨p, er⟩ := x
    rw [hp] at h1
    obtain ⟨v, rfl, hv⟩ := retT h1
    obtain ⟨us, rfl, nm, sp, a1, n1, c1, a2, n2, c2, rfl, hr⟩ := hag _ _ hv
    exact ⟨nm, sp, a1, n1, c1, a2, n2, c2, p, er, ⟨[], [], [], []⟩, 1000000, rfl, cl_rv h2.fz _ _ (fun m hm => by cases hm) (by simp) (by simp) hr, .inr ⟨classR_err hp, p, er, rfl, rfl, rfl, rfl⟩⟩
  | ok x =>
    rw [hp] at h1
    obtain ⟨v, rfl, hv⟩ := retT h1
    obtain ⟨us, rfl, nm, sp, a1, n1, c1, a2, n2, c2, rfl, hr⟩ := hag _ _ hv
    exact ⟨nm, sp, a1, n1, c1, a2, n2, c2, 0, 0, x, 1000000, rfl, cl_rv h2.fz _ _ (classR_ok hp).1 (classR_ok hp).2.1 (classR_ok hp).2.2 hr, .inl ⟨rfl, rfl, rfl⟩⟩
def OutMethod (w : World) (l : Bytes) (e : Ending) (w' : World) : Prop := Below w.heap.size w w' ∧ ∃ (nm : ByteArray) (sb : Bool) (a1 : Option Addr) (n1 c1 : Nat) (rs : ByteArray) (a2 : Option Addr) (n2 c2 : Nat) (p er : Int) (x : Me) (d : Nat), e = .returned (.tuple #[.agg #[.string nm, .bool sb, .slice a1 n1 c1, .string rs, .slice a2 n2 c2], .int .i64 p, .int .i64 er]) ∧ IsMe Any w' d x [.string nm, .bool sb, .slice a1 n1 c1, .string rs, .slice a2 n2 c2] ∧ Key ⟨[], false, [], [], []⟩ (methodR l) p er x
theorem methodR_err {l : Bytes} {p er : Nat} (h : methodR l = .error (p, er)) : ((er : Int) != 0) = true := by
  unfold methodR at h
  split at h
  · rename_i x hr
    cases h
    have := readR_err hr
    rw [bne_iff_ne]; omega
  · split at h
    · rename_i h0
      cases h
      rw [bne_iff_ne]; omega
    · cases h
theorem MethodOut.form {w : World} {l : Bytes} {e : Ending} {w' : World} (h : MethodOut w (methodR l) e w') : OutMethod w l e w' := by
  obtain ⟨hb, h⟩ := h
  refine ⟨hb, ?_⟩
  cases hp : methodR l with
  | error x =>
    obtain ⟨p, er⟩ := x
    rw [hp] at h
    subst h
    exact ⟨_, _, _, _, _, _, _, _, _, p, er, ⟨[], false, [], [], []⟩, 0, rfl, ⟨_, _, rfl, ⟨by unfold maxLen; simp, .inl ⟨rfl, none, 0, rfl⟩⟩, ⟨by unfold maxLen; simp, .inl ⟨rfl, none, 0, rfl⟩⟩⟩, .inr ⟨methodR_err hp, p, er, rfl, rfl, rfl, rfl⟩⟩
  | ok x =>
    rw [hp] at h
    obtain ⟨nm, sb, a1, n1, c1, rs, a2, n2, c2, rfl, d, hx⟩ := h
    exact ⟨nm, sb, a1, n1, c1, rs, a2, n2, c2, 0, 0, x, d, rfl, hx.sub fun _ _ _ => trivial, .inl ⟨rfl, rfl, rfl⟩⟩
theorem ref_TMethod (s : ByteArray) (w : World) (hs : s.size ≤ maxLen) : Calls Tryz.prog 10 #[.string s] w (OutMethod w s.data.toList) := by
  refine ((rt_TMethod s.data.toList (by simpa using hs)) Heap.no 0 (snap w) w [.string s] (paG_rg _) (Rep.snap w) (.one (.str _ s rfl))).mono ?_
  rintro e w' ⟨M', r, H', nx', h1, h2, h3, rfl, rfl⟩
  refine ⟨h3.below, ?_⟩
  have hag : ∀ x : Me, ∀ v, RV M' (.agg (cvM x)) v → ∃ us : List Value, v = .agg us.toArray ∧ ∃ (nm : ByteArray) (sb : Bool) (a1 : Option Addr) (n1 c1 : Nat) (rs : ByteArray) (a2 : Option Addr) (n2 c2 : Nat), us = [.string nm, .bool sb, .slice a1 n1 c1, .string rs, .slice a2 n2 c2] ∧ RVs M' (cvM x) [.string nm, .bool sb, .slice a1 n1 c1, .string rs, .slice a2 n2 c2] := by
    intro x v h
    obtain ⟨us, rfl, hu⟩ := aggT h
    refine ⟨us, rfl, ?_⟩
    have hu0 := hu
    obtain ⟨u0, us, rfl, g0, hu⟩ := hu.cons_inv
    obtain ⟨u1, us, rfl, g1, hu⟩ := hu.cons_inv
    obtain ⟨u2, us, rfl, g2, hu⟩ := hu.cons_inv
    obtain ⟨u3, us, rfl, g3, hu⟩ := hu.cons_inv
    obtain ⟨u4, us, rfl, g4, hu⟩ := hu.cons_inv
    have := hu.nil_inv; subst this
    obtain rfl := str_rv g0
    obtain rfl := bool_rv g1
    obtain ⟨_, _, _, rfl⟩ := lst_slice g2
    obtain rfl := str_rv g3
    obtain ⟨_, _, _, rfl⟩ := lst_slice g4
    exact ⟨_, _, _, _, _, _, _, _, _, rfl, hu0⟩
  cases hp : methodR s.data.toList with
  | error x =>
    obtain ⟨p, er⟩ := x
    rw [hp] at h1
    obtain ⟨v, rfl, hv⟩ := retT h1
    obtain ⟨us, rfl, nm, sb, a1, n1, c1, rs, a2, n2, c2, rfl, hr⟩ := hag _ _ hv
    exact ⟨nm, sb, a1, n1, c1, rs, a2, n2, c2, p, er, ⟨[], false, [], [], []⟩, 1000000, rfl, me_rv h2.fz _ _ (by rw [stsSz]; omega) (by simp) hr, .inr ⟨methodR_err hp, p, er, rfl, rfl, rfl, rfl⟩⟩
  | ok x =>
    rw [hp] at h1
    obtain ⟨v, rfl, hv⟩ := retT h1
    obtain ⟨us, rfl, nm, sb, a1, n1, c1, rs, a2, n2, c2, rfl, hr⟩ := hag _ _ hv
    exact ⟨nm, sb, a1, n1, c1, rs, a2, n2, c2, 0, 0, x, 1000000, rfl, me_rv h2.fz _ _ (methodR_ok hp).1 (methodR_ok hp).2 hr, .inl ⟨rfl, rfl, rfl⟩⟩
def OutExpr (w : World) (l : Bytes) (e : Ending) (w' : World) : Prop := Below w.heap.size w w' ∧ ∃ (k n : Int) (o m : ByteArray) (a1 : Option Addr) (n1 c1 : Nat) (p er : Int) (x : Ex) (d : Nat), e = .returned (.tuple #[.agg #[.int .i64 k, .int .i64 n, .string o, .string m, .slice a1 n1 c1], .int .i64 p, .int .i64 er]) ∧ IsEx Any w' d x [.int .i64 k, .int .i64 n, .string o, .string m, .slice a1 n1 c1] ∧ Key (.mk 0 0 [] [] []) (exprR l) p er x
theorem exprR_err {l : Bytes} {p er : Nat} (h : exprR l = .error (p, er)) : ((er : Int) != 0) = true := by
  unfold exprR at h
  split at h
  · rename_i x hr
    cases h
    have := readR_err hr
    rw [bne_iff_ne]; omega
  · split at h
    · rename_i h0
      cases h
      rw [bne_iff_ne]; omega
    · cases h
theorem ExprOut.form {w : World} {l : Bytes} {e : Ending} {w' : World} (h : ExprOut w (exprR l) e w') : OutExpr w l e w' := by
  obtain ⟨hb, h⟩ := h
  refine ⟨hb, ?_⟩
  cases hp : exprR l with
  | error x =>
    obtain ⟨p, er⟩ := x
    rw [hp] at h
    subst h
    exact ⟨_, _, _, _, _, _, _, p, er, (.mk 0 0 [] [] []), 1, rfl, ⟨_, rfl, ⟨by unfold maxLen; simp, .inl ⟨rfl, none, 0, rfl⟩⟩⟩, .inr ⟨exprR_err hp, p, er, rfl, rfl, rfl, rfl⟩⟩
  | ok x =>
    rw [hp] at h
    obtain ⟨k, n, o, m, a1, n1, c1, rfl, d, hx⟩ := h
    exact ⟨k, n, o, m, a1, n1, c1, 0, 0, x, d, rfl, IsEx.sub (fun _ _ _ => trivial) _ _ _ hx, .inl ⟨rfl, rfl, rfl⟩⟩
theorem ref_TExpr (s : ByteArray) (w : World) (hs : s.size ≤ maxLen) : Calls Tryz.prog 15 #[.string s] w (OutExpr w s.data.toList) := by
  refine ((rt_TExpr s.data.toList (by simpa using hs)) Heap.no 0 (snap w) w [.string s] (paG_rg _) (Rep.snap w) (.one (.str _ s rfl))).mono ?_
  rintro e w' ⟨M', r, H', nx', h1, h2, h3, rfl, rfl⟩
  refine ⟨h3.below, ?_⟩
  have hag : ∀ x : Ex, ∀ v, RV M' (.agg (cvE x)) v → ∃ us : List Value, v = .agg us.toArray ∧ ∃ (k n : Int) (o m : ByteArray) (a1 : Option Addr) (n1 c1 : Nat), us = [.int .i64 k, .int .i64 n, .string o, .string m, .slice a1 n1 c1] ∧ RVs M' (cvE x) [.int .i64 k, .int .i64 n, .string o, .string m, .slice a1 n1 c1] := by
    intro x v h
    obtain ⟨us, rfl, hu⟩ := aggT h
    refine ⟨us, rfl, ?_⟩
    obtain ⟨k, n, o, m, ks⟩ := x
    rw [cvE_mk] at hu
    have hu0 := hu
    obtain ⟨u0, us, rfl, g0, hu⟩ := hu.cons_inv
    obtain ⟨u1, us, rfl, g1, hu⟩ := hu.cons_inv
    obtain ⟨u2, us, rfl, g2, hu⟩ := hu.cons_inv
    obtain ⟨u3, us, rfl, g3, hu⟩ := hu.cons_inv
    obtain ⟨u4, us, rfl, g4, hu⟩ := hu.cons_inv
    have := hu.nil_inv; subst this
    obtain rfl := int_rv g0
    obtain rfl := int_rv g1
    obtain rfl := str_rv g2
    obtain rfl := str_rv g3
    obtain ⟨_, _, _, rfl⟩ := lst_slice g4
    rw [cvE_mk]
    exact ⟨_, _, _, _, _, _, _, rfl, hu0⟩
  cases hp : exprR s.data.toList with
  | error x =>
    obtain ⟨p, er⟩ := x
    rw [hp] at h1
    obtain ⟨v, rfl, hv⟩ := retT h1
    obtain ⟨us, rfl, k, n, o, m, a1, n1, c1, rfl, hr⟩ := hag _ _ hv
    exact ⟨k, n, o, m, a1, n1, c1, p, er, (.mk 0 0 [] [] []), 1000000, rfl, ex_rv h2.fz 1000000 _ _ (by simp [exSz, exsSz]) (by unfold maxLen; omega) hr, .inr ⟨exprR_err hp, p, er, rfl, rfl, rfl, rfl⟩⟩
  | ok x =>
    rw [hp] at h1
    obtain ⟨v, rfl, hv⟩ := retT h1
    obtain ⟨us, rfl, k, n, o, m, a1, n1, c1, rfl, hr⟩ := hag _ _ hv
    exact ⟨k, n, o, m, a1, n1, c1, 0, 0, x, 1000000, rfl, ex_rv h2.fz 1000000 _ _ (exprR_ok hp) (by unfold maxLen; omega) hr, .inl ⟨rfl, rfl, rfl⟩⟩
theorem fieldR_err {l : Bytes} {p er : Nat} (h : fieldR l = .error (p, er)) : ((er : Int) != 0) = true := by
  have := readR_err h
  rw [bne_iff_ne]; omega
def OutField (w : World) (l : Bytes) (e : Ending) (w' : World) : Prop := Below w.heap.size w w' ∧ ∃ (p er : Int) (x : Fld), e = .returned (.tuple #[.agg #[.string (strOf x.name), .string (strOf x.typ)], .int .i64 p, .int .i64 er]) ∧ Key ⟨[], []⟩ (fieldR l) p er x
theorem FieldOut.form {w : World} {l : Bytes} {e : Ending} {w' : World} (h : FieldOut w (fieldR l) e w') : OutField w l e w' := by
  obtain ⟨hb, h⟩ := h
  refine ⟨hb, ?_⟩
  cases hp : fieldR l with
  | error x =>
    obtain ⟨p, er⟩ := x
    rw [hp] at h
    subst h
    exact ⟨p, er, ⟨[], []⟩, rfl, .inr ⟨fieldR_err hp, p, er, rfl, rfl, rfl, rfl⟩⟩
  | ok x =>
    rw [hp] at h
    subst h
    exact ⟨0, 0, x, rfl, .inl ⟨rfl, rfl, rfl⟩⟩
theorem ref_TField (s : ByteArray) (w : World) (hs : s.size ≤ maxLen) : Calls Tryz.prog 13 #[.string s] w (OutField w s.data.toList) := by
  refine ((rt_TField s.data.toList (by simpa using hs)) Heap.no 0 (snap w) w [.string s] (paG_rg _) (Rep.snap w) (.one (.str _ s rfl))).mono ?_
  rintro e w' ⟨M', r, H', nx', h1, h2, h3, rfl, rfl⟩
  refine ⟨h3.below, ?_⟩
  have hag : ∀ x : Fld, ∀ v, RV M' (.agg (cvF x)) v → v = .agg #[.string (strOf x.name), .string (strOf x.typ)] := by
    intro x v h
    obtain ⟨us, rfl, hu⟩ := aggT h
    have := fld_rv x us hu
    subst this; rfl
  cases hp : fieldR s.data.toList with
  | error x =>
    obtain ⟨p, er⟩ := x
    rw [hp] at h1
    obtain ⟨v, rfl, hv⟩ := retT h1
    obtain rfl := hag _ _ hv
    exact ⟨p, er, ⟨[], []⟩, rfl, .inr ⟨fieldR_err hp, p, er, rfl, rfl, rfl, rfl⟩⟩
  | ok x =>
    rw [hp] at h1
    obtain ⟨v, rfl, hv⟩ := retT h1
    obtain rfl := hag _ _ hv
    exact ⟨0, 0, x, rfl, .inl ⟨rfl, rfl, rfl⟩⟩
end Go.Proofs.YthjonkommphkkaaGreatDoor
namespace Go.Proofs.YthjonkommphkkaaGreatDoor
open Lx Go.RowKit
set_option maxHeartbeats 2000000 in
theorem ref_SameExprs (d : Nat) : ∀ (l1 l2 : List Ex) (a1 : Option Addr) (n1 c1 : Nat) (a2 : Option Addr) (n2 c2 : Nat) (w : World), IsList Any w 5 (IsEx Any w d) l1 (.slice a1 n1 c1) → IsList Any w 5 (IsEx Any w d) l2 (.slice a2 n2 c2) →
    Calls Tryz.prog 16 #[.slice a1 n1 c1, .slice a2 n2 c2] w (SameOut w (l1 = l2)) := by
  induction d with
  | zero =>
    intro l1 l2 a1 n1 c1 a2 n2 c2 w h1 h2
    obtain ⟨rfl, hm1, hat1⟩ := h1.exAt
    obtain ⟨rfl, hm2, hat2⟩ := h2.exAt
    cases l1 with
    | cons x l => obtain ⟨_, _, _, _, _, _, _, _, _, _, _, _, _, _, _, _, hx⟩ := hat1 0 (by simp); exact absurd hx (by simp [IsEx])
    | nil =>
      cases l2 with
      | cons x l => obtain ⟨_, _, _, _, _, _, _, _, _, _, _, _, _, _, _, _, hx⟩ := hat2 0 (by simp); exact absurd hx (by simp [IsEx])
      | nil =>
        clear h1 h2 hat1 hat2
        go_enter Tryz.func16, Tryz.ntmps16
        go_wp2_with fail
        go_loopw [5] (fun i wr => SameRel ([] : List Ex) [] w i wr) (fun i _ => 0 - (intOf i).toNat)
        case atStart => exact ⟨0, Nat.zero_le _, rfl, rfl, .refl _ _⟩
        case round =>
          obtain ⟨j, hj, rfl, _, hb⟩ := hrel
          obtain rfl : j = 0 := by simpa using hj
          have HB := Lib.hid hb
          clear hb
          go_wp2_with fail
          go_ret
          exact ⟨HB.out, true, rfl, by simp⟩
  | succ d ih =>
    intro l1 l2 a1 n1 c1 a2 n2 c2 w h1 h2
    obtain ⟨rfl, hm1, hat1⟩ := h1.exAt
    obtain ⟨rfl, hm2, hat2⟩ := h2.exAt
    unfold maxLen at hm1 hm2
    have HAT1 := Lib.hid hat1
    have HAT2 := Lib.hid hat2
    have IH := Lib.hid ih
    clear h1 h2 hat1 hat2 ih
    by_cases hlen : l1.length = l2.length
    · have hle : ((l1.length : Int) != (l2.length : Int)) = false := by rw [bne_eq_false_iff_eq]; omega
      have hle1 : l1.length ≤ l2.length := by omega
      have hle2 : l2.length ≤ l1.length := by omega
      clear hlen
      go_enter Tryz.func16, Tryz.ntmps16
      go_wp2_with fail
      go_loopw [5] (fun i wr => SameRel l1 l2 w i wr) (fun i _ => l1.length - (intOf i).toNat)
      case atStart => exact ⟨0, Nat.zero_le _, rfl, rfl, .refl _ _⟩
      case round =>
        obtain ⟨j, hj, rfl, hpre, hb⟩ := hrel
        have HPRE := Lib.hid hpre
        clear hpre
        by_cases hlt : j < l1.length
        · have hlt2 : j < l2.length := by omega
          obtain ⟨g1, o1, k1, m1, s1, t1, b1, r1, q1, rfl, hg1, x0, x1, x2, x3, x4, hx⟩ := HAT1.out j hlt
          obtain ⟨g2, o2, k2, m2, s2, t2, b2, r2, q2, rfl, hg2, y0, y1, y2, y3, y4, hy⟩ := HAT2.out j hlt2
          rw [← hb.cell (p := ⟨g1, _, none⟩) hg1] at x0 x1 x2 x3 x4
          rw [← hb.cell (p := ⟨g2, _, none⟩) hg2] at y0 y1 y2 y3 y4
          have hs := hb.size
          have hw1 : g1 < wr.heap.size := by omega
          have hw2 : g2 < wr.heap.size := by omega
          obtain ⟨oo1, mm1, ks1, he1, rfl, rfl, hl1⟩ := (IsEx.kept (kept_any hb) _ _ _ hx).flds
          obtain ⟨oo2, mm2, ks2, he2, rfl, rfl, hl2⟩ := (IsEx.kept (kept_any hb) _ _ _ hy).flds
          have H1 : Hid (∀ x, Below wr.heap.size wr x → IsList Any x 5 (IsEx Any x d) ks1 (.slice b1 r1 q1)) := fun x hx => hl1.kept (kept_any hx) (by omega) fun _ _ _ => IsEx.kept (kept_any hx) _ _ _
          have H2 : Hid (∀ x, Below wr.heap.size wr x → IsList Any x 5 (IsEx Any x d) ks2 (.slice b2 r2 q2)) := fun x hx => hl2.kept (kept_any hx) (by omega) fun _ _ _ => IsEx.kept (kept_any hx) _ _ _
          have HE1 := Lib.hid he1
          have HE2 := Lib.hid he2
          have HB := Lib.hid hb
          clear hb hx hy hl1 hl2 he1 he2
          have hj1 : (j : Int) < (l1.length : Int) := by omega
          have hj2 : (j : Int) < (l2.length : Int) := by omega
          have hj0 : (0 : Int) ≤ (j : Int) := by omega
          by_cases hk : k1 = k2
          rotate_left
          · have HNE : Hid (l1[j] ≠ l2[j]) := by show _ ≠ _; rw [HE1.out, HE2.out]; intro e; injection e; exact hk ‹_›
            have q : (k1 != k2) = true := by rw [bne_iff_ne]; exact hk
            clear hk
            go_wp2_with fail
            go_region
            all_goals
              go_wp2_with fail
              go_ret
              exact ⟨HB.out.trans (((((Below.refl _ _).alloc (Nat.le_refl _) _).alloc (by simp) _).drew).mono HB.out.size), false, rfl, by simp; exact differ hlt hlt2 (HNE.out)⟩
          subst hk
          by_cases hm : m1 = m2
          rotate_left
          · have HNE : Hid (l1[j] ≠ l2[j]) := by show _ ≠ _; rw [HE1.out, HE2.out]; intro e; injection e; exact hm ‹_›
            have q : (m1 != m2) = true := by rw [bne_iff_ne]; exact hm
            clear hm
            go_wp2_with fail
            go_region
            all_goals
              go_wp2_with fail
              go_ret
              exact ⟨HB.out.trans (((((Below.refl _ _).alloc (Nat.le_refl _) _).alloc (by simp) _).drew).mono HB.out.size), false, rfl, by simp; exact differ hlt hlt2 (HNE.out)⟩
          subst hm
          by_cases ho : oo1 = oo2
          rotate_left
          · have HNE : Hid (l1[j] ≠ l2[j]) := by show _ ≠ _; rw [HE1.out, HE2.out]; intro e; injection e; exact ho ‹_›
            obtain ⟨q, q'⟩ := str_ne ho
            clear ho
            go_wp2_with fail
            go_region
            all_goals
              go_wp2_with fail
              go_ret
              exact ⟨HB.out.trans (((((Below.refl _ _).alloc (Nat.le_refl _) _).alloc (by simp) _).drew).mono HB.out.size), false, rfl, by simp; exact differ hlt hlt2 (HNE.out)⟩
          subst ho
          by_cases hn : mm1 = mm2
          rotate_left
          · have HNE : Hid (l1[j] ≠ l2[j]) := by show _ ≠ _; rw [HE1.out, HE2.out]; intro e; injection e; exact hn ‹_›
            obtain ⟨q, q'⟩ := str_ne hn
            clear hn
            go_wp2_with fail
            go_region
            all_goals
              go_wp2_with fail
              go_ret
              exact ⟨HB.out.trans (((((Below.refl _ _).alloc (Nat.le_refl _) _).alloc (by simp) _).drew).mono HB.out.size), false, rfl, by simp; exact differ hlt hlt2 (HNE.out)⟩
          subst hn
          go_wp2_with fail
          go_region
          all_goals
            go_wp2_with fail
            refine (IH.out _ _ _ _ _ _ _ _ _ (H1.out _ (((((Below.refl _ _).alloc (Nat.le_refl _) _).alloc (by simp) _).drew))) (H2.out _ (((((Below.refl _ _).alloc (Nat.le_refl _) _).alloc (by simp) _).drew)))).mono ?_
            rintro e w2 ⟨hb2, b, rfl, hbi⟩
            have HB2 := Lib.hid (HB.out.trans ((((((Below.refl _ _).alloc (Nat.le_refl _) _).alloc (by simp) _).drew).trans (hb2.mono (by simp; omega))).mono HB.out.size))
            have HBI := Lib.hid hbi
            clear hb2 hbi
            cases b
            · go_wp2_with fail
              go_ret
              refine ⟨HB2.out, false, rfl, ?_⟩
              simp
              refine differ hlt hlt2 ?_
              rw [HE1.out, HE2.out]; intro e; injection e; exact absurd (HBI.out.2 ‹_›) (by decide)
            · go_wp2_with fail
              go_roundw
              case rel =>
                refine ⟨j + 1, by omega, by go_num, ?_, HB2.out⟩
                rw [List.take_succ_eq_append_getElem hlt, List.take_succ_eq_append_getElem hlt2, HPRE.out, HE1.out, HE2.out, HBI.out.1 (by simp)]
              case measure => simp [intOf]; omega
        · have HB := Lib.hid hb
          clear hb
          go_wp2_with fail
          go_ret
          refine ⟨HB.out, true, rfl, ?_⟩
          simp only [true_iff]
          have hp := HPRE.out
          rw [List.take_of_length_le (by omega), List.take_of_length_le (by omega)] at hp
          exact hp
    · have hle : ((l1.length : Int) != (l2.length : Int)) = true := by rw [bne_iff_ne]; omega
      have HL := Lib.hid hlen
      clear hlen
      go_enter Tryz.func16, Tryz.ntmps16
      go_wp2_with fail
      go_ret
      exact ⟨.refl _ _, false, rfl, by simp; intro h; exact HL.out (by rw [h])⟩
end Go.Proofs.YthjonkommphkkaaGreatDoor
