/-
  The reference's parser: methods walked.
-/
import Derived.Test.YthjonkommphkkaaGreatDoorJpBk
set_option linter.unusedSectionVars false
set_option linter.unusedSimpArgs false
set_option linter.unnecessarySimpa false
set_option linter.unusedVariables false
set_option linter.unusedSimpArgs false
set_option linter.unusedVariables false
namespace Go.Proofs.YthjonkommphkkaaGreatDoor
open Lx Ax
theorem km_static : [115, 116, 97, 116, 105, 99] ∈ kmList := by decide
theorem km_def : [100, 101, 102] ∈ kmList := by decide
end Go.Proofs.YthjonkommphkkaaGreatDoor
namespace Go.Proofs.YthjonkommphkkaaGreatDoor
open Lx Ax Go.RowKit
attribute [local simp] stepS Ax.stepT Dl.on qstep astep estep rd putE over argE ofV ofS loadA pickCells isAggD faddA fieldA partA iaddA idxA bnd binA intA strA unA convA bltA lenA mapOf lookA findK keyD scalD storeA mupA srcA srcD upd drp Dl.hp Dl.nx CV.cs CV.one buildA placesA fillA zrep tasA ifaceD eqA eqFs eqIs range2 copyA nbeq nble nblt decEq beqI bneI beqS bneS isED Int.ofNat_inj List.getElem?_map List.getElem?_eq_getElem Option.map_some ti_int ti_i64 ti_str ti_bool ti_Toks ti_Tok ti_Pp ti_Fld ti_Flds ti_Me ti_Sts gd gdB callA resA op1
attribute [local simp] psC cvT one1 drR drpC drp nu1 nu2 nu3 nu4 nu5 nu6 nu7 nu8 nu9 nu10 nu11 nu12 nu13
section
variable {ts : List Tok} (hT : TWR ts)
include hT
set_option maxRecDepth 10000 in
set_option maxHeartbeats 64000000 in
theorem rp_method (σ : RS) (hi : σ.i < ts.length) : RC ts 34 [] (fun m => .agg (cvM m)) (qMethod ts) σ := by
  intro b
  refine B1.ofBodyZ paG_pu rfl (puP _ _) (puP _ _) (by simp only [puV, puM]) Tryz.func34 rfl rfl fun nx hlt q => ?_
  have hlen := hT.wf.len
  have c0 := rp_skip hT _ km_static σ hi b
  obtain ⟨_, i0⟩ := skip_in hT (σ := σ) (x := [115, 116, 97, 116, 105, 99]) (by decide) hi
  unfold qMethod
  obtain ⟨st, est⟩ : ∃ st, st = atB ts σ [115, 116, 97, 116, 105, 99] := ⟨_, rfl⟩
  obtain ⟨σ0, e0⟩ : ∃ σ0, σ0 = skipS ts σ [115, 116, 97, 116, 105, 99] := ⟨_, rfl⟩
  simp only [← est, ← e0] at c0 i0 ⊢
  clear est e0
  unfold qMe1
  have c1 := rp_must hT _ km_def σ0 i0 b
  obtain ⟨_, i1⟩ := must_in hT (σ := σ0) (x := [100, 101, 102]) (by decide) i0
  obtain ⟨σ1, e1⟩ : ∃ σ1, σ1 = mustS ts σ0 [100, 101, 102] := ⟨_, rfl⟩
  simp only [← e1] at c1 i1 ⊢
  clear e1
  have c2 := rp_name hT σ1 i1 b
  obtain ⟨_, i2⟩ := name_in hT (σ := σ1) i1
  cases e2 : qName ts σ1 with
  | mk nm σ2 =>
  simp only [e2] at c2 i2 ⊢
  clear e2
  have c3 := rp_must hT _ lp_km σ2 i2 b
  obtain ⟨_, i3⟩ := must_in hT (σ := σ2) (x := [40]) (by decide) i2
  obtain ⟨σ3, e3⟩ : ∃ σ3, σ3 = mustS ts σ2 [40] := ⟨_, rfl⟩
  simp only [← e3] at c3 i3 ⊢
  clear e3
  unfold qMe2
  have c4 := rp_skip hT _ rp_km σ3 i3 b
  cases z : atB ts σ3 [41] with
  | true =>
    have i4 := (at_in hT (σ := σ3) (x := [41]) (by decide) z i3).2
    simp only [z, skipS_true z] at c4
    have hq : qParams ts σ3 = ([], ⟨σ3.i + 1, false⟩) := by unfold qParams; rw [if_pos z]
    rw [hq]
    unfold qMe3 qMe4
    have d1 := rp_skip hT _ km_colon ⟨σ3.i + 1, false⟩ i4 b
    unfold qResult
    cases zr : atB ts ⟨σ3.i + 1, false⟩ [58] with
    | true =>
      have j1 := (at_in hT (σ := ⟨σ3.i + 1, false⟩) (x := [58]) (by decide) zr i4).2
      simp only [zr, skipS_true zr] at d1
      have d2 := rp_typ hT ⟨(⟨σ3.i + 1, false⟩ : RS).i + 1, false⟩ j1 b
      obtain ⟨_, j2⟩ := typ_in hT (σ := ⟨(⟨σ3.i + 1, false⟩ : RS).i + 1, false⟩) j1
      have d3 := rp_B hT _ j2 b
      rw [if_pos rfl]
      refine gW ?_
      refine gB (c0) ?_
      refine gW ?_
      refine gB (c1) ?_
      refine gW ?_
      refine gB (c2) ?_
      refine gW ?_
      refine gB (c3) ?_
      refine gW ?_
      refine gB (c4) ?_
      refine gW ?_
      refine gB (d1) ?_
      refine gW ?_
      refine gB (d2) ?_
      refine gW ?_
      refine gB (d3) ?_
      refine gW ?_
      (refine ⟨_, (by simp [*]; rfl), ?_⟩; (try simp only [packA]))
      (refine ⟨_, _, _, rfl, .done _ _ _ (Sub.refl _), ?_, by simp [*]⟩; simp only [cvM, List.map_nil]; first | exact Wk.same _ | (refine WkL.agg ?_; repeat (first | exact WkL.nil | refine WkL.cons (by first | exact Wk.nil | exact Wk.same _) ?_)))
    | false =>
      simp only [zr, skipS_false zr] at d1
      have d3 := rp_B hT ⟨σ3.i + 1, false⟩ i4 b
      rw [if_neg (by simp)]
      refine gW ?_
      refine gB (c0) ?_
      refine gW ?_
      refine gB (c1) ?_
      refine gW ?_
      refine gB (c2) ?_
      refine gW ?_
      refine gB (c3) ?_
      refine gW ?_
      refine gB (c4) ?_
      refine gW ?_
      refine gB (d1) ?_
      refine gW ?_
      refine gB (d3) ?_
      refine gW ?_
      (refine ⟨_, (by simp [*]; rfl), ?_⟩; (try simp only [packA]))
      (refine ⟨_, _, _, rfl, .done _ _ _ (Sub.refl _), ?_, by simp [*]⟩; simp only [cvM, List.map_nil]; first | exact Wk.same _ | (refine WkL.agg ?_; repeat (first | exact WkL.nil | refine WkL.cons (by first | exact Wk.nil | exact Wk.same _) ?_)))
  | false =>
  simp only [z, skipS_false z] at c4
  cases hbd : σ3.bad with
  | true =>
    have hq : qParams ts σ3 = ([], σ3) := by unfold qParams; rw [if_neg (by rw [z]; simp), if_pos hbd]
    rw [hq]
    unfold qMe3 qMe4
    have d1 := rp_skip hT _ km_colon σ3 i3 b
    unfold qResult
    cases zr : atB ts σ3 [58] with
    | true =>
      have j1 := (at_in hT (σ := σ3) (x := [58]) (by decide) zr i3).2
      simp only [zr, skipS_true zr] at d1
      have d2 := rp_typ hT ⟨(σ3 : RS).i + 1, false⟩ j1 b
      obtain ⟨_, j2⟩ := typ_in hT (σ := ⟨(σ3 : RS).i + 1, false⟩) j1
      have d3 := rp_B hT _ j2 b
      rw [if_pos rfl]
      refine gW ?_
      refine gB (c0) ?_
      refine gW ?_
      refine gB (c1) ?_
      refine gW ?_
      refine gB (c2) ?_
      refine gW ?_
      refine gB (c3) ?_
      refine gW ?_
      refine gB (c4) ?_
      refine gW ?_
      refine gB (d1) ?_
      refine gW ?_
      refine gB (d2) ?_
      refine gW ?_
      refine gB (d3) ?_
      refine gW ?_
      (refine ⟨_, (by simp [*]; rfl), ?_⟩; (try simp only [packA]))
      (refine ⟨_, _, _, rfl, .done _ _ _ (Sub.refl _), ?_, by simp [*]⟩; simp only [cvM, List.map_nil]; first | exact Wk.same _ | (refine WkL.agg ?_; repeat (first | exact WkL.nil | refine WkL.cons (by first | exact Wk.nil | exact Wk.same _) ?_)))
    | false =>
      simp only [zr, skipS_false zr] at d1
      have d3 := rp_B hT σ3 i3 b
      rw [if_neg (by simp)]
      refine gW ?_
      refine gB (c0) ?_
      refine gW ?_
      refine gB (c1) ?_
      refine gW ?_
      refine gB (c2) ?_
      refine gW ?_
      refine gB (c3) ?_
      refine gW ?_
      refine gB (c4) ?_
      refine gW ?_
      refine gB (d1) ?_
      refine gW ?_
      refine gB (d3) ?_
      refine gW ?_
      (refine ⟨_, (by simp [*]; rfl), ?_⟩; (try simp only [packA]))
      (refine ⟨_, _, _, rfl, .done _ _ _ (Sub.refl _), ?_, by simp [*]⟩; simp only [cvM, List.map_nil]; first | exact Wk.same _ | (refine WkL.agg ?_; repeat (first | exact WkL.nil | refine WkL.cons (by first | exact Wk.nil | exact Wk.same _) ?_)))
  | false =>
    have p1 := rp_param hT σ3 i3 b
    obtain ⟨m4, i4⟩ := param_in hT i3
    cases e4 : qParam ts σ3 with
    | mk f1 σ4 =>
    simp only [e4] at p1 i4 m4
    obtain ⟨R, hR⟩ : ∃ R, R = qParamsLoop ts (ts.length + 1) [f1] σ4 := ⟨_, rfl⟩
    have hq : qParams ts σ3 = R := by unfold qParams; rw [if_neg (by rw [z]; simp), if_neg (by rw [hbd]; simp), e4, hR]
    rw [hq]
    clear hq e4
    refine gW ?_
    refine gB (c0) ?_
    refine gW ?_
    refine gB (c1) ?_
    refine gW ?_
    refine gB (c2) ?_
    refine gW ?_
    refine gB (c3) ?_
    refine gW ?_
    refine gB (c4) ?_
    repeat (first | (first | (apply AOpl.step; rfl) | apply ASl.step); focus simp [*, -Option.some.injEq]; rfl | (first | (apply AOpl.stepG; rfl) | apply ASl.stepG); (focus simp [*]; done); focus simp [*, -Option.some.injEq]; rfl | (first | (apply AOpl.pass; rfl) | apply ASl.pass); (focus simp [*]; done) | (first | refine AOpl.nil ?_ | refine AWp.skip ?_ | refine AWp.exit ?_ | refine AWp.ret ?_ | refine ASl.nil ?_); try simp only [Then, InBlock, reduceIte, Nat.reduceEqDiff] | refine AWp.seq ?_ | refine AWp.reg rfl ?_ | refine AWp.block ?_ | apply AWp.condT; focus simp [*]; done | apply AWp.condF; focus simp [*]; done)
    refine AWp.regTC b (by kernel_rfl) (by kernel_rfl) rfl rfl ?_
    repeat (first | apply ASlC.step; (focus simp [*, -Option.some.injEq]; rfl); (focus first | exact Blind.pure rfl | exact Blind.eff rfl | (refine Blind.look fun H1 hl1 => ?_; have hk1 := hl1 _ (q.2.1 1 |>.2); simp [hk1, *]; done)) | refine ASlC.nil ?_; try simp only [Then, InBlock, reduceIte, Nat.reduceEqDiff])
    refine gBc (p1) ?_
    repeat (first | apply ASlC.step; (focus simp [*, -Option.some.injEq]; rfl); (focus first | exact Blind.pure rfl | exact Blind.eff rfl | (refine Blind.look fun H1 hl1 => ?_; have hk1 := hl1 _ (q.2.1 1 |>.2); simp [hk1, *]; done)) | refine ASlC.nil ?_; try simp only [Then, InBlock, reduceIte, Nat.reduceEqDiff])
    refine ASlC.appRow (k := 2) (cv := cvF) (c := .nils) (l := []) (u := f1) ti_Flds ti_Fld rfl rfl (by omega) (by simp) cvF_len cvF_one rfl rfl rfl (.inl ⟨rfl, rfl⟩) (by simp [upd, *]) (by simp) ?_
    intro H5 hn5 hfr
    have g1 := hfr b (by omega) (fun b' h => by cases h)
    have g2 := hfr (nx + 1) (by omega) (fun b' h => by cases h)
    have g3 := hfr nx (by omega) (fun b' h => by cases h)
    simp [upd, q] at g1 g2 g3
    clear hfr c0 c1 c2 c3 c4 p1
    repeat (first | apply ASlC.step; (focus simp [*, -Option.some.injEq]; rfl); (focus first | exact Blind.pure rfl | exact Blind.eff rfl | (refine Blind.look fun H1 hl1 => ?_; have hk1 := hl1 _ (q.2.1 1 |>.2); simp [hk1, *]; done)) | refine ASlC.nil ?_; try simp only [Then, InBlock, reduceIte, Nat.reduceEqDiff])
    refine gW ?_
    refine AWp.loopO (α := Nat × List Fld × RS) (fun x e H nx1 => ∃ bk, H (nx + 1) = some (.cells [.str nm, .bool st, .sl bk 0 x.2.1.length 2, .str [], .nils]) ∧ H bk = some (.cells (x.2.1.flatMap cvF)) ∧ bk < nx1 ∧ nx + 1 < bk ∧ H nx = some (.cells [.str [], .bool false, .nils, .str [], .nils]) ∧ H b = some (.cells [.lst (ts.map cvT), .int .i64 x.2.2.i, .bool x.2.2.bad]) ∧ (x.2.2.bad = false → x.2.1.length ≤ x.2.2.i + 1) ∧ x.2.2.i < ts.length ∧ (x.2.2.bad = true ∨ ts.length - x.2.2.i < x.1) ∧ R = qParamsLoop ts x.1 x.2.1 x.2.2) (fun x => x.1) (ts.length + 1, [f1], σ4) [] 31 ⟨nx + 1 + 1 + 8, by simp [upd, *], by simpa [upd] using hn5, by omega, by omega, by simp [upd, *], by simp [upd, *], fun _ => by simp, i4, .inr (by simp only; omega), hR⟩ ?_
    clear hR g1 g2 g3 hn5 i4 m4
    rintro ⟨n, acc, σ5⟩ v H4 nx4 hn4 ⟨bk, w1, w2, w3, w4, w5, w6, hl, hi2, hf, hR⟩
    simp only at w1 w2 w3 w4 w5 w6 hl hi2 hf hR
    have q4 := far (show b < nx4 by omega)
    have q5 := far (show nx < nx4 by omega)
    have q6 := far (show nx + 1 < nx4 by omega)
    have q7 := far (show bk < nx4 by omega)
    have k1 : (¬ bk = nx + 1 ∧ ¬ nx + 1 = bk) ∧ (¬ bk = nx ∧ ¬ nx = bk) ∧ (¬ bk = b ∧ ¬ b = bk) := by omega
    have s1 := rp_skip hT _ cm_km σ5 hi2 b
    cases hz : atB ts σ5 [44] with
    | true =>
      obtain ⟨hb3, _⟩ := atB_true hz
      have b6 := (at_in hT (σ := σ5) (x := [44]) (by decide) hz hi2).2
      simp only [hz, skipS_true hz] at s1
      have hf1 : ts.length - σ5.i < n := by rcases hf with hf | hf; rw [hb3] at hf; cases hf; exact hf
      obtain ⟨n, rfl⟩ : ∃ k, n = k + 1 := ⟨n - 1, by omega⟩
      have hl1 := hl hb3
      have s2 := rp_param hT ⟨σ5.i + 1, false⟩ b6 b
      obtain ⟨b7, b8⟩ := param_in hT (σ := ⟨σ5.i + 1, false⟩) b6
      rw [qParamsLoop, if_pos hz] at hR
      cases hr : qParam ts ⟨σ5.i + 1, false⟩ with
      | mk f2 σ6 =>
      simp only [hr] at s2 b7 b8 hR
      clear hf hn4 hl
      refine gW ?_
      refine gB (s1) ?_
      repeat (first | (first | (apply AOpl.step; rfl) | apply ASl.step); focus simp [*, -Option.some.injEq]; rfl | (first | (apply AOpl.stepG; rfl) | apply ASl.stepG); (focus simp [*]; done); focus simp [*, -Option.some.injEq]; rfl | (first | (apply AOpl.pass; rfl) | apply ASl.pass); (focus simp [*]; done) | (first | refine AOpl.nil ?_ | refine AWp.skip ?_ | refine AWp.exit ?_ | refine AWp.ret ?_ | refine ASl.nil ?_); try simp only [Then, InBlock, reduceIte, Nat.reduceEqDiff] | refine AWp.seq ?_ | refine AWp.reg rfl ?_ | refine AWp.block ?_ | apply AWp.condT; focus simp [*]; done | apply AWp.condF; focus simp [*]; done)
      refine AWp.regTC b (by kernel_rfl) (by kernel_rfl) rfl rfl ?_
      repeat (first | apply ASlC.step; (focus simp [*, -Option.some.injEq]; rfl); (focus first | exact Blind.pure rfl | exact Blind.eff rfl | (refine Blind.look fun H1 hl1 => ?_; have hk1 := hl1 _ (q.2.1 1 |>.2); simp [hk1, *]; done)) | refine ASlC.nil ?_; try simp only [Then, InBlock, reduceIte, Nat.reduceEqDiff])
      refine gBc (s2) ?_
      repeat (first | apply ASlC.step; (focus simp [*, -Option.some.injEq]; rfl); (focus first | exact Blind.pure rfl | exact Blind.eff rfl | (refine Blind.look fun H1 hl1 => ?_; have hk1 := hl1 _ (q.2.1 1 |>.2); simp [hk1, *]; done)) | refine ASlC.nil ?_; try simp only [Then, InBlock, reduceIte, Nat.reduceEqDiff])
      refine ASlC.appRow (k := 2) (cv := cvF) (c := .sl bk 0 acc.length 2) (l := acc) (u := f2) ti_Flds ti_Fld rfl rfl (by omega) (by simp) cvF_len cvF_one rfl (by first | rfl | (simp [rd, putE, over]; done)) (by first | rfl | (simp [rd, putE, over]; done)) (.inr ⟨bk, rfl, by simp [upd, *], by omega⟩) (by simp [upd, *]) (by omega) ?_
      intro H5 hn5 hfr
      have g1 := hfr b (by omega) (fun b' h => by cases h; omega)
      have g2 := hfr (nx + 1) (by omega) (fun b' h => by cases h; omega)
      have g3 := hfr nx (by omega) (fun b' h => by cases h; omega)
      simp [upd, *] at g1 g2 g3
      clear hfr s1 s2
      repeat (first | apply ASlC.step; (focus simp [*, -Option.some.injEq]; rfl); (focus first | exact Blind.pure rfl | exact Blind.eff rfl | (refine Blind.look fun H1 hl1 => ?_; have hk1 := hl1 _ (q.2.1 1 |>.2); simp [hk1, *]; done)) | refine ASlC.nil ?_; try simp only [Then, InBlock, reduceIte, Nat.reduceEqDiff])
      refine gW ?_
      exact ⟨by ((repeat (first | exact Keeps.base _ _ _ _ | (with_reducible exact Keeps.refl _ _ _) | (refine Keeps.put rfl ?_) | (refine Keeps.over' rfl rfl ?_)))), (n, acc ++ [f2], σ6), by simp only; omega, nx4 + 8, by simp [upd, *], by simpa [upd, *] using hn5, by omega, by omega, by simp [upd, *], by simp [upd, *], fun hb => by have : σ5.i + 1 ≤ σ6.i := b7; simp only [List.length_append, List.length_cons, List.length_nil]; omega, b8, .inr (by have : σ5.i + 1 ≤ σ6.i := b7; simp only; omega), hR⟩
    | false =>
      have hR2 : R = (acc, mustS ts σ5 [41]) := by
        cases n with
        | zero =>
          rcases hf with hf | hf
          · rw [hR, qParamsLoop]; unfold mustS; rw [atB_bad hf]; rfl
          · omega
        | succ n => rw [hR, qParamsLoop, if_neg (by rw [hz]; simp)]
      simp only [hz, skipS_false hz] at s1
      have s2 := rp_must hT _ rp_km σ5 hi2 b
      obtain ⟨_, i6⟩ := must_in hT (σ := σ5) (x := [41]) (by decide) hi2
      obtain ⟨σ6, e6⟩ : ∃ σ6, σ6 = mustS ts σ5 [41] := ⟨_, rfl⟩
      simp only [← e6] at s2 i6 hR2
      clear hR hf hn4 hl e6
      rw [hR2]
      unfold qMe3 qMe4
      have d1 := rp_skip hT _ km_colon σ6 i6 b
      unfold qResult
      cases zr : atB ts σ6 [58] with
      | true =>
        have j1 := (at_in hT (σ := σ6) (x := [58]) (by decide) zr i6).2
        simp only [zr, skipS_true zr] at d1
        have d2 := rp_typ hT ⟨(σ6 : RS).i + 1, false⟩ j1 b
        obtain ⟨_, j2⟩ := typ_in hT (σ := ⟨(σ6 : RS).i + 1, false⟩) j1
        have d3 := rp_B hT _ j2 b
        rw [if_pos rfl]
        refine gW ?_
        refine gB (s1) ?_
        refine gW ?_
        refine gB (s2) ?_
        refine gW ?_
        refine gB (d1) ?_
        refine gW ?_
        refine gB (d2) ?_
        refine gW ?_
        refine gB (d3) ?_
        refine gW ?_
        (refine ⟨_, (by simp [*]; rfl), ?_⟩; (try simp only [packA]))
        refine ⟨_, _, _, rfl, .step bk (acc.flatMap cvF) (by simp [upd, *]) (.ret (FVL.agg (FVL.cons (.same _) (FVL.cons (.same _) (FVL.cons (.sl 0 acc.length 2 (by rw [flatMap_len cvF_len]; omega)) (FVL.cons (.same _) (FVL.cons (.same _) FVL.nil))))))) (.done _ _ _ (Sub.refl _)), ?_, by simp [upd, drp, *]⟩
        rw [OwnL.frozen cvF_len]
        simp only [cvM]
        refine WkL.agg ?_
        repeat (first | exact WkL.nil | refine WkL.cons (by first | exact Wk.nil | exact Wk.same _) ?_)
      | false =>
        simp only [zr, skipS_false zr] at d1
        have d3 := rp_B hT σ6 i6 b
        rw [if_neg (by simp)]
        refine gW ?_
        refine gB (s1) ?_
        refine gW ?_
        refine gB (s2) ?_
        refine gW ?_
        refine gB (d1) ?_
        refine gW ?_
        refine gB (d3) ?_
        refine gW ?_
        (refine ⟨_, (by simp [*]; rfl), ?_⟩; (try simp only [packA]))
        refine ⟨_, _, _, rfl, .step bk (acc.flatMap cvF) (by simp [upd, *]) (.ret (FVL.agg (FVL.cons (.same _) (FVL.cons (.same _) (FVL.cons (.sl 0 acc.length 2 (by rw [flatMap_len cvF_len]; omega)) (FVL.cons (.same _) (FVL.cons (.same _) FVL.nil))))))) (.done _ _ _ (Sub.refl _)), ?_, by simp [upd, drp, *]⟩
        rw [OwnL.frozen cvF_len]
        simp only [cvM]
        refine WkL.agg ?_
        repeat (first | exact WkL.nil | refine WkL.cons (by first | exact Wk.nil | exact Wk.same _) ?_)
end
end Go.Proofs.YthjonkommphkkaaGreatDoor
namespace Go.Proofs.YthjonkommphkkaaGreatDoor
open Lx Ax
theorem km_class : [99, 108, 97, 115, 115] ∈ kmList := by decide
theorem km_extends : [101, 120, 116, 101, 110, 100, 115] ∈ kmList := by decide
theorem on1 (b : Bool) : CV.one (.bool b) = true := rfl
theorem on2 (k : IntKind) (n : Int) : CV.one (.int k n) = true := rfl
theorem on3 (l : List UInt8) : CV.one (.str l) = true := rfl
theorem on4 (b o n k : Nat) : CV.one (.sl b o n k) = true := rfl
theorem on5 (l : List (List CV)) : CV.one (.lst l) = true := rfl
theorem on6 : CV.one .nils = true := rfl
theorem on7 (b o : Nat) : CV.one (.ptr b o) = true := rfl
/-- Where an own list's block lies. -/
def Lies (c : CV) (lo hi : Nat) : Prop := ∀ x o m j, c = .sl x o m j → lo < x ∧ x < hi
theorem Lies.nils (lo hi : Nat) : Lies .nils lo hi := fun x o m j h => by cases h
theorem Lies.sl {x o m j lo hi : Nat} (h1 : lo < x) (h2 : x < hi) : Lies (.sl x o m j) lo hi := fun x o m j h => by cases h; exact ⟨h1, h2⟩
theorem Lies.up {c : CV} {lo hi hi' : Nat} (h : Lies c lo hi) (hh : hi ≤ hi') : Lies c lo hi' := fun x o m j e => by have := h x o m j e; omega
theorem Ax.OwnL.to {α : Type} {cv : α → List CV} {k : Nat} {H H' : Heap} {nx nx' : Nat} {c : CV} {l : List α} (ho : OwnL cv k H nx c l) (hx : ∀ x o m j, c = .sl x o m j → H' x = H x) (hn : nx ≤ nx') : OwnL cv k H' nx' c l := by
  rcases ho with h | ⟨x, h1, h2, h3⟩
  · exact .inl h
  · exact .inr ⟨x, h1, by rw [hx x _ _ _ h1]; exact h2, by omega⟩
theorem Ax.OwnL.one1 {α : Type} {cv : α → List CV} {k : Nat} {H : Heap} {nx : Nat} {c : CV} {l : List α} (ho : OwnL cv k H nx c l) : c.one = true := by
  rcases ho with ⟨_, rfl⟩ | ⟨_, rfl, _⟩ <;> rfl
theorem drpC_miss {H : Heap} {c : CV} {lo hi x : Nat} (h : Lies c lo hi) (hx : x ≤ lo) : drpC H c x = H x := by
  cases c with
  | sl b o n k => exact drp_miss _ _ _ (fun e => by have := (h b o n k rfl).1; omega)
  | _ => rfl
theorem drpC_sl {H : Heap} {c : CV} {x : Nat} (h : ∀ o m j, c ≠ .sl x o m j) : drpC H c x = H x := by
  cases c with
  | sl b o n k => exact drp_miss _ _ _ (fun e => h o n k (by rw [e]))
  | _ => rfl
end Go.Proofs.YthjonkommphkkaaGreatDoor
namespace Go.Proofs.YthjonkommphkkaaGreatDoor
open Lx Ax Go.RowKit
attribute [local simp] stepS Ax.stepT Dl.on qstep astep estep rd putE over argE ofV ofS loadA pickCells isAggD faddA fieldA partA iaddA idxA bnd binA intA strA unA convA bltA lenA mapOf lookA findK keyD scalD storeA mupA srcA srcD upd drp Dl.hp Dl.nx CV.cs buildA placesA fillA zrep tasA ifaceD eqA eqFs eqIs range2 copyA nbeq nble nblt decEq beqI bneI beqS bneS isED Int.ofNat_inj List.getElem?_map List.getElem?_eq_getElem Option.map_some ti_int ti_i64 ti_str ti_bool ti_Toks ti_Tok ti_Pp ti_Fld ti_Flds ti_Me ti_Mes ti_Sts ti_Cl gd gdB callA resA op1
attribute [local simp] psC cvT one1 drR drp nu1 nu2 nu3 nu4 nu5 nu6 nu7 nu8 nu9 nu10 nu11 nu12 nu13 cvM on1 on2 on3 on4 on5 on6 on7
section
variable {ts : List Tok} (hT : TWR ts)
include hT
set_option maxRecDepth 10000 in
set_option maxHeartbeats 64000000 in
theorem rp_class (σ : RS) (hi : σ.i < ts.length) : RC ts 27 [] (fun m => .agg (cvC m)) (qClass ts) σ := by
  intro b
  refine B1.ofBodyZ paG_pu rfl (puP _ _) (puP _ _) (by simp only [puV, puC]) Tryz.func27 rfl rfl fun nx hlt q => ?_
  have hlen := hT.wf.len
  have c0 := rp_must hT _ km_class σ hi b
  obtain ⟨_, i0⟩ := must_in hT (σ := σ) (x := [99, 108, 97, 115, 115]) (by decide) hi
  unfold qClass
  obtain ⟨σ0, e0⟩ : ∃ σ0, σ0 = mustS ts σ [99, 108, 97, 115, 115] := ⟨_, rfl⟩
  simp only [← e0] at c0 i0 ⊢
  clear e0
  have c1 := rp_name hT σ0 i0 b
  obtain ⟨_, i1⟩ := name_in hT (σ := σ0) i0
  cases e1 : qName ts σ0 with
  | mk nm σ1 =>
  simp only [e1] at c1 i1 ⊢
  clear e1
  unfold qCl2
  have c2 := rp_skip hT _ km_extends σ1 i1 b
  obtain ⟨Rx, hRx⟩ : ∃ R, R = qCl3 ts nm (qSuper ts σ1).1 (mustS ts (qSuper ts σ1).2 [123]) := ⟨_, rfl⟩
  rw [← hRx]
  refine gW ?_
  refine gB (c0) ?_
  refine gW ?_
  refine gB (c1) ?_
  refine gW ?_
  refine gB (c2) ?_
  refine AOpl.nil ?_
  simp only [Then]
  refine AWp.cutO [] 11 (fun e' H nx1 => ∃ sup σ2, H b = some (.cells [.lst (ts.map cvT), .int .i64 σ2.i, .bool σ2.bad]) ∧ σ2.i < ts.length ∧ H (nx + 1) = some (.cells [.str nm, .str sup, .nils, .nils]) ∧ H nx = some (.cells [.str [], .str [], .nils, .nils]) ∧ Rx = qCl3 ts nm sup (mustS ts σ2 [123])) ?_ ?_
  · cases z : atB ts σ1 [101, 120, 116, 101, 110, 100, 115] with
    | true =>
      have i2 := (at_in hT (σ := σ1) (x := [101, 120, 116, 101, 110, 100, 115]) (by decide) z i1).2
      have hsk := skipS_true z
      have c3 := rp_name hT ⟨σ1.i + 1, false⟩ i2 b
      obtain ⟨_, i3⟩ := name_in hT (σ := ⟨σ1.i + 1, false⟩) i2
      have hs : qSuper ts σ1 = qName ts ⟨σ1.i + 1, false⟩ := by unfold qSuper; rw [if_pos z]
      rw [hs] at hRx
      clear c0 c1 c2 hs
      refine gW ?_
      refine gB (c3) ?_
      refine gW ?_
      exact ⟨by ((repeat (first | exact Keeps.base _ _ _ _ | (with_reducible exact Keeps.refl _ _ _) | (refine Keeps.put rfl ?_) | (refine Keeps.over' rfl rfl ?_)))), (qName ts ⟨σ1.i + 1, false⟩).1, (qName ts ⟨σ1.i + 1, false⟩).2, by simp [upd, q], i3, by simp [upd, q], by simp [upd, q], hRx⟩
    | false =>
      have hsk := skipS_false z
      have hs : qSuper ts σ1 = ([], σ1) := by unfold qSuper; rw [if_neg (by rw [z]; simp)]
      rw [hs] at hRx
      clear c0 c1 c2 hs
      refine gW ?_
      exact ⟨by ((repeat (first | exact Keeps.base _ _ _ _ | (with_reducible exact Keeps.refl _ _ _) | (refine Keeps.put rfl ?_) | (refine Keeps.over' rfl rfl ?_)))), [], σ1, by simp [upd, q, hsk], i1, by simp [upd, q], by simp [upd, q], hRx⟩
  clear hRx c0 c1 c2 i1 i0
  rintro v H1 nx1 hn1 ⟨sup, σ2, w1, i2, w2, w3, hR⟩
  have c3 := rp_must hT _ km_lb σ2 i2 b
  obtain ⟨_, i3⟩ := must_in hT (σ := σ2) (x := [123]) (by decide) i2
  obtain ⟨σ3, e3⟩ : ∃ σ3, σ3 = mustS ts σ2 [123] := ⟨_, rfl⟩
  simp only [← e3] at c3 i3 hR
  clear e3
  unfold qCl3 at hR
  obtain ⟨Fs, hFs⟩ : ∃ Fs, Fs = qFieldsLoop ts (ts.length + 1) [] σ3 := ⟨_, rfl⟩
  rw [← hFs] at hR
  have q1 := far (show b < nx1 by omega)
  have q2 := far (show nx < nx1 by omega)
  have q3 := far (show nx + 1 < nx1 by omega)
  refine gW ?_
  refine gB (c3) ?_
  refine gW ?_
  refine AWp.loopO (α := Nat × List Fld × RS) (fun x e H nx2 => ∃ c, H (nx + 1) = some (.cells [.str nm, .str sup, c, .nils]) ∧ OwnL cvF 2 H nx2 c x.2.1 ∧ Lies c (nx + 1) nx2 ∧ H nx = some (.cells [.str [], .str [], .nils, .nils]) ∧ H b = some (.cells [.lst (ts.map cvT), .int .i64 x.2.2.i, .bool x.2.2.bad]) ∧ (x.2.2.bad = false → x.2.1.length ≤ x.2.2.i + 1) ∧ x.2.2.i < ts.length ∧ (x.2.2.bad = true ∨ ts.length - x.2.2.i < x.1) ∧ Fs = qFieldsLoop ts x.1 x.2.1 x.2.2) (fun x => x.1) (ts.length + 1, [], σ3) [] 16 ⟨.nils, by simp [upd, *], .inl ⟨rfl, rfl⟩, .nils _ _, by simp [upd, *], by simp [upd, *], fun _ => by simp, i3, .inr (by simp only; omega), hFs⟩ ?_
  clear hFs i3 c3 w1 w2 w3 q1 q2 q3
  rintro ⟨n, fs, σ5⟩ v4 H4 nx4 hn4 ⟨c, w1, ho, hli, w4, w6, hl, hi2, hf, hF⟩
  simp only at w1 ho hli w4 w6 hl hi2 hf hF
  have q4 := far (show b < nx4 by omega)
  have q5 := far (show nx < nx4 by omega)
  have q6 := far (show nx + 1 < nx4 by omega)
  have s1 := rp_at hT _ km_var σ5 hi2 b
  cases hz : atB ts σ5 [118, 97, 114] with
  | true =>
    obtain ⟨hb3, _⟩ := atB_true hz
    simp only [hz] at s1
    have hf1 : ts.length - σ5.i < n := by rcases hf with hf | hf; rw [hb3] at hf; cases hf; exact hf
    obtain ⟨n, rfl⟩ : ∃ k, n = k + 1 := ⟨n - 1, by omega⟩
    have hl1 := hl hb3
    have s2 := rp_field hT σ5 hi2 b
    obtain ⟨b7, b8⟩ := field_in hT hi2
    have hgt := stp_lt (does_field hT σ5) (fun i r j h => by have := fieldP_adv h; omega)
    rw [qFieldsLoop, if_pos hz] at hF
    cases hr : qField ts σ5 with
    | mk f2 σ6 =>
    simp only [hr] at s2 b7 b8 hF hgt
    have hbn : nx + 1 < nx4 := by omega
    clear hf hn4 hl
    refine gW ?_
    refine gB (s1) ?_
    repeat (first | (first | (apply AOpl.step; rfl) | apply ASl.step); focus simp [*, -Option.some.injEq]; rfl | (first | (apply AOpl.stepG; rfl) | apply ASl.stepG); (focus simp [*]; done); focus simp [*, -Option.some.injEq]; rfl | (first | (apply AOpl.pass; rfl) | apply ASl.pass); (focus simp [*]; done) | (first | refine AOpl.nil ?_ | refine AWp.skip ?_ | refine AWp.exit ?_ | refine AWp.ret ?_ | refine ASl.nil ?_); try simp only [Then, InBlock, reduceIte, Nat.reduceEqDiff] | refine AWp.seq ?_ | refine AWp.reg rfl ?_ | refine AWp.block ?_ | apply AWp.condT; focus simp [*]; done | apply AWp.condF; focus simp [*]; done)
    refine AWp.regTC b (by kernel_rfl) (by kernel_rfl) rfl rfl ?_
    repeat (first | apply ASlC.step; (focus simp [*, -Option.some.injEq]; rfl); (focus first | exact Blind.pure rfl | exact Blind.eff rfl | (refine Blind.look fun H1 hl1 => ?_; have hk1 := hl1 _ (q.2.1 1 |>.2); simp [hk1, *]; done)) | refine ASlC.nil ?_; try simp only [Then, InBlock, reduceIte, Nat.reduceEqDiff])
    refine gBc (s2) ?_
    repeat (first | apply ASlC.step; (focus simp [*, -Option.some.injEq]; rfl); (focus first | exact Blind.pure rfl | exact Blind.eff rfl | (refine Blind.look fun H1 hl1 => ?_; have hk1 := hl1 _ (q.2.1 1 |>.2); simp [hk1, *]; done)) | refine ASlC.nil ?_; try simp only [Then, InBlock, reduceIte, Nat.reduceEqDiff])
    refine ASlC.appRow (k := 2) (cv := cvF) (c := c) (l := fs) (u := f2) ti_Flds ti_Fld rfl rfl (by omega) (by simp) cvF_len cvF_one rfl (by first | rfl | (simp [rd, putE, over]; done)) (by first | rfl | (simp [rd, putE, over]; done)) (ho.to (fun x o m j h => by obtain ⟨h1, h2⟩ := hli x o m j h; (repeat rw [upd_miss _ _ _ _ (by omega)])) (by omega)) (by simp [upd, *]) (by omega) ?_
    intro H5 hn5 hfr
    have g1 := hfr b (by omega) (fun b' h => by have := hli _ _ _ _ h; omega)
    have g2 := hfr (nx + 1) (by omega) (fun b' h => by have := hli _ _ _ _ h; omega)
    have g3 := hfr nx (by omega) (fun b' h => by have := hli _ _ _ _ h; omega)
    simp [upd, *] at g1 g2 g3
    clear hfr s1 s2
    repeat (first | apply ASlC.step; (focus simp [*, -Option.some.injEq]; rfl); (focus first | exact Blind.pure rfl | exact Blind.eff rfl | (refine Blind.look fun H1 hl1 => ?_; have hk1 := hl1 _ (q.2.1 1 |>.2); simp [hk1, *]; done)) | refine ASlC.nil ?_; try simp only [Then, InBlock, reduceIte, Nat.reduceEqDiff])
    refine gW ?_
    exact ⟨by ((repeat (first | exact Keeps.base _ _ _ _ | (with_reducible exact Keeps.refl _ _ _) | (refine Keeps.put rfl ?_) | (refine Keeps.over' rfl rfl ?_)))), (n, fs ++ [f2], σ6), by simp only; omega, .sl (nx4 + 8) 0 (fs.length + 1) 2, by simp [upd, *], .inr ⟨nx4 + 8, by simp, by simpa [upd, *] using hn5, by omega⟩, .sl (by omega) (by omega), by simp [upd, *], by simp [upd, *], fun hb => by (have := hgt.resolve_left (by rw [hb]; simp)); simp only [List.length_append, List.length_cons, List.length_nil]; omega, b8, (by simp only; rcases hgt with h | h; exact .inl h; exact .inr (by omega)), hF⟩
  | false =>
  have hF2 : Fs = (fs, σ5) := by
    cases n with
    | zero =>
      rcases hf with hf | hf
      · rw [hF, qFieldsLoop, rs_bad hf]
      · omega
    | succ n => rw [hF, qFieldsLoop, if_neg (by rw [hz]; simp)]
  simp only [hz] at s1
  rw [hF2] at hR
  unfold qCl4 at hR
  obtain ⟨Ms, hMs⟩ : ∃ Ms, Ms = qMethodsLoop ts (ts.length + 1) [] σ5 := ⟨_, rfl⟩
  simp only [← hMs] at hR
  have hbn4 : nx + 1 < nx4 := by omega
  clear hF hf hl hF2 hn4
  refine gW ?_
  refine gB (s1) ?_
  refine gW ?_
  refine AWp.loopO (α := Nat × List Me × RS) (fun x e H nx2 => ∃ d, H (nx + 1) = some (.cells [.str nm, .str sup, c, d]) ∧ OwnL cvF 2 H nx2 c fs ∧ OwnL cvM 5 H nx2 d x.2.1 ∧ Lies d (nx + 1) nx2 ∧ (∀ x o m j o' m' j', c = .sl x o m j → d ≠ .sl x o' m' j') ∧ H nx = some (.cells [.str [], .str [], .nils, .nils]) ∧ H b = some (.cells [.lst (ts.map cvT), .int .i64 x.2.2.i, .bool x.2.2.bad]) ∧ (x.2.2.bad = false → x.2.1.length ≤ x.2.2.i + 1) ∧ x.2.2.i < ts.length ∧ (x.2.2.bad = true ∨ ts.length - x.2.2.i < x.1) ∧ Ms = qMethodsLoop ts x.1 x.2.1 x.2.2) (fun x => x.1) (ts.length + 1, [], σ5) [] 25 ⟨.nils, by simp [upd, *], ho.to (fun x o m j h => by obtain ⟨h1, h2⟩ := hli x o m j h; first | rfl | (rw [upd_miss _ _ _ _ (by omega)])) (by omega), .inl ⟨rfl, rfl⟩, .nils _ _, fun _ _ _ _ _ _ _ _ h => (by cases h), by simp [upd, *], by simp [upd, *], fun _ => by simp, hi2, .inr (by simp only; omega), hMs⟩ ?_
  clear hMs hi2 s1 w1 w4 w6 q4 q5 q6 ho hz
  rintro ⟨n, ms, σ7⟩ v6 H6 nx6 hn6 ⟨d, w1, ho, ho2, hli2, hsp, w4, w6, hl, hi2, hf, hM⟩
  simp only at w1 ho ho2 hli2 hsp w4 w6 hl hi2 hf hM
  have hli6 := hli.up hn6
  have q4 := far (show b < nx6 by omega)
  have q5 := far (show nx < nx6 by omega)
  have q6 := far (show nx + 1 < nx6 by omega)
  have s1 := rp_at hT _ km_static σ7 hi2 b
  have s1' := rp_at hT _ km_def σ7 hi2 b
  have go : ∀ x : Bytes, x ≠ [] → atB ts σ7 x = true → σ7.bad = false ∧ ts.length - σ7.i < n := by
    intro x hx hz
    obtain ⟨hb3, _⟩ := atB_true hz
    refine ⟨hb3, ?_⟩
    rcases hf with hf | hf
    · rw [hb3] at hf; cases hf
    · exact hf
  have s2 := rp_method hT σ7 hi2 b
  obtain ⟨b7, b8⟩ := method_in hT hi2
  have hgt := stp_lt (does_method hT hT.kt σ7) methodP_adv
  cases z1 : atB ts σ7 [115, 116, 97, 116, 105, 99] with
  | true =>
    have go := go _ (by decide) z1
    have hor : (atB ts σ7 [115, 116, 97, 116, 105, 99] || atB ts σ7 [100, 101, 102]) = true := by rw [z1]; rfl
    simp only [z1] at s1
    obtain ⟨hb3, hf1⟩ := go
    obtain ⟨n, rfl⟩ : ∃ k, n = k + 1 := ⟨n - 1, by omega⟩
    have hl1 := hl hb3
    rw [qMethodsLoop, if_pos hor] at hM
    cases hr : qMethod ts σ7 with
    | mk m2 σ8 =>
    simp only [hr] at s2 b7 b8 hM hgt
    have hbn : nx + 1 < nx6 := by omega
    clear hf hn6 hl hor
    refine gW ?_
    refine gB (s1) ?_
    repeat (first | (first | (apply AOpl.step; rfl) | apply ASl.step); focus simp [*, -Option.some.injEq]; rfl | (first | (apply AOpl.stepG; rfl) | apply ASl.stepG); (focus simp [*]; done); focus simp [*, -Option.some.injEq]; rfl | (first | (apply AOpl.pass; rfl) | apply ASl.pass); (focus simp [*]; done) | (first | refine AOpl.nil ?_ | refine AWp.skip ?_ | refine AWp.exit ?_ | refine AWp.ret ?_ | refine ASl.nil ?_); try simp only [Then, InBlock, reduceIte, Nat.reduceEqDiff] | refine AWp.seq ?_ | refine AWp.reg rfl ?_ | refine AWp.block ?_ | apply AWp.condT; focus simp [*]; done | apply AWp.condF; focus simp [*]; done)
    refine AWp.regTC b (by kernel_rfl) (by kernel_rfl) rfl rfl ?_
    repeat (first | apply ASlC.step; (focus simp [*, -Option.some.injEq]; rfl); (focus first | exact Blind.pure rfl | exact Blind.eff rfl | (refine Blind.look fun H1 hl1 => ?_; have hk1 := hl1 _ (q.2.1 1 |>.2); simp [hk1, *]; done)) | refine ASlC.nil ?_; try simp only [Then, InBlock, reduceIte, Nat.reduceEqDiff])
    refine gBc (s2) ?_
    repeat (first | apply ASlC.step; (focus simp [*, -Option.some.injEq]; rfl); (focus first | exact Blind.pure rfl | exact Blind.eff rfl | (refine Blind.look fun H1 hl1 => ?_; have hk1 := hl1 _ (q.2.1 1 |>.2); simp [hk1, *]; done)) | refine ASlC.nil ?_; try simp only [Then, InBlock, reduceIte, Nat.reduceEqDiff])
    refine ASlC.appRow (k := 5) (cv := cvM) (c := d) (l := ms) (u := m2) ti_Mes ti_Me rfl rfl (by omega) (by simp) cvM_len cvM_one rfl (by first | rfl | (simp [rd, putE, over]; done)) (by first | rfl | (simp [rd, putE, over]; done)) (ho2.to (fun x o m j h => by obtain ⟨h1, h2⟩ := hli2 x o m j h; (repeat rw [upd_miss _ _ _ _ (by omega)])) (by omega)) (by simp [upd, *]) (by omega) ?_
    intro H5 hn5 hfr
    have g1 := hfr b (by omega) (fun b' h => by have := hli2 _ _ _ _ h; omega)
    have g2 := hfr (nx + 1) (by omega) (fun b' h => by have := hli2 _ _ _ _ h; omega)
    have g3 := hfr nx (by omega) (fun b' h => by have := hli2 _ _ _ _ h; omega)
    have ho5 : OwnL cvF 2 H5 (nx6 + 8 + 1) c fs := ho.to (fun x o m j h => by
      obtain ⟨h1, h2⟩ := hli6 x o m j h
      rw [hfr x (by omega) (fun b' hd e => hsp x o m j 0 ms.length 5 h (by rw [hd, e]))]
      (repeat rw [upd_miss _ _ _ _ (by omega)])) (by omega)
    simp [upd, *] at g1 g2 g3
    clear hfr s1 s1' s2
    repeat (first | apply ASlC.step; (focus simp [*, -Option.some.injEq]; rfl); (focus first | exact Blind.pure rfl | exact Blind.eff rfl | (refine Blind.look fun H1 hl1 => ?_; have hk1 := hl1 _ (q.2.1 1 |>.2); simp [hk1, *]; done)) | refine ASlC.nil ?_; try simp only [Then, InBlock, reduceIte, Nat.reduceEqDiff])
    refine gW ?_
    exact ⟨by ((repeat (first | exact Keeps.base _ _ _ _ | (with_reducible exact Keeps.refl _ _ _) | (refine Keeps.put rfl ?_) | (refine Keeps.over' rfl rfl ?_)))), (n, ms ++ [m2], σ8), by simp only; omega, .sl (nx6 + 8) 0 (ms.length + 1) 5, by simp [upd, *], ho5.to (fun x o m j h => by obtain ⟨h1, h2⟩ := hli6 x o m j h; rw [upd_miss _ _ _ _ (by omega)]) (Nat.le_refl _), .inr ⟨nx6 + 8, by simp, by simpa [upd, *] using hn5, by omega⟩, .sl (by omega) (by omega), fun x o m j o' m' j' h h' => by (obtain ⟨h1, h2⟩ := hli6 x o m j h); cases h'; omega, by simp [upd, *], by simp [upd, *], fun hb => by (have := hgt.resolve_left (by rw [hb]; simp)); simp only [List.length_append, List.length_cons, List.length_nil]; omega, b8, (by simp only; rcases hgt with h | h; exact .inl h; exact .inr (by omega)), hM⟩
  | false =>
  simp only [z1] at s1
  cases z2 : atB ts σ7 [100, 101, 102] with
  | true =>
    have go := go _ (by decide) z2
    have hor : (atB ts σ7 [115, 116, 97, 116, 105, 99] || atB ts σ7 [100, 101, 102]) = true := by rw [z1, z2]; rfl
    simp only [z2] at s1'
    obtain ⟨hb3, hf1⟩ := go
    obtain ⟨n, rfl⟩ : ∃ k, n = k + 1 := ⟨n - 1, by omega⟩
    have hl1 := hl hb3
    rw [qMethodsLoop, if_pos hor] at hM
    cases hr : qMethod ts σ7 with
    | mk m2 σ8 =>
    simp only [hr] at s2 b7 b8 hM hgt
    have hbn : nx + 1 < nx6 := by omega
    clear hf hn6 hl hor
    refine gW ?_
    refine gB (s1) ?_
    refine gW ?_
    refine gB (s1') ?_
    repeat (first | (first | (apply AOpl.step; rfl) | apply ASl.step); focus simp [*, -Option.some.injEq]; rfl | (first | (apply AOpl.stepG; rfl) | apply ASl.stepG); (focus simp [*]; done); focus simp [*, -Option.some.injEq]; rfl | (first | (apply AOpl.pass; rfl) | apply ASl.pass); (focus simp [*]; done) | (first | refine AOpl.nil ?_ | refine AWp.skip ?_ | refine AWp.exit ?_ | refine AWp.ret ?_ | refine ASl.nil ?_); try simp only [Then, InBlock, reduceIte, Nat.reduceEqDiff] | refine AWp.seq ?_ | refine AWp.reg rfl ?_ | refine AWp.block ?_ | apply AWp.condT; focus simp [*]; done | apply AWp.condF; focus simp [*]; done)
    refine AWp.regTC b (by kernel_rfl) (by kernel_rfl) rfl rfl ?_
    repeat (first | apply ASlC.step; (focus simp [*, -Option.some.injEq]; rfl); (focus first | exact Blind.pure rfl | exact Blind.eff rfl | (refine Blind.look fun H1 hl1 => ?_; have hk1 := hl1 _ (q.2.1 1 |>.2); simp [hk1, *]; done)) | refine ASlC.nil ?_; try simp only [Then, InBlock, reduceIte, Nat.reduceEqDiff])
    refine gBc (s2) ?_
    repeat (first | apply ASlC.step; (focus simp [*, -Option.some.injEq]; rfl); (focus first | exact Blind.pure rfl | exact Blind.eff rfl | (refine Blind.look fun H1 hl1 => ?_; have hk1 := hl1 _ (q.2.1 1 |>.2); simp [hk1, *]; done)) | refine ASlC.nil ?_; try simp only [Then, InBlock, reduceIte, Nat.reduceEqDiff])
    refine ASlC.appRow (k := 5) (cv := cvM) (c := d) (l := ms) (u := m2) ti_Mes ti_Me rfl rfl (by omega) (by simp) cvM_len cvM_one rfl (by first | rfl | (simp [rd, putE, over]; done)) (by first | rfl | (simp [rd, putE, over]; done)) (ho2.to (fun x o m j h => by obtain ⟨h1, h2⟩ := hli2 x o m j h; (repeat rw [upd_miss _ _ _ _ (by omega)])) (by omega)) (by simp [upd, *]) (by omega) ?_
    intro H5 hn5 hfr
    have g1 := hfr b (by omega) (fun b' h => by have := hli2 _ _ _ _ h; omega)
    have g2 := hfr (nx + 1) (by omega) (fun b' h => by have := hli2 _ _ _ _ h; omega)
    have g3 := hfr nx (by omega) (fun b' h => by have := hli2 _ _ _ _ h; omega)
    have ho5 : OwnL cvF 2 H5 (nx6 + 8 + 1) c fs := ho.to (fun x o m j h => by
      obtain ⟨h1, h2⟩ := hli6 x o m j h
      rw [hfr x (by omega) (fun b' hd e => hsp x o m j 0 ms.length 5 h (by rw [hd, e]))]
      (repeat rw [upd_miss _ _ _ _ (by omega)])) (by omega)
    simp [upd, *] at g1 g2 g3
    clear hfr s1 s1' s2
    repeat (first | apply ASlC.step; (focus simp [*, -Option.some.injEq]; rfl); (focus first | exact Blind.pure rfl | exact Blind.eff rfl | (refine Blind.look fun H1 hl1 => ?_; have hk1 := hl1 _ (q.2.1 1 |>.2); simp [hk1, *]; done)) | refine ASlC.nil ?_; try simp only [Then, InBlock, reduceIte, Nat.reduceEqDiff])
    refine gW ?_
    exact ⟨by ((repeat (first | exact Keeps.base _ _ _ _ | (with_reducible exact Keeps.refl _ _ _) | (refine Keeps.put rfl ?_) | (refine Keeps.over' rfl rfl ?_)))), (n, ms ++ [m2], σ8), by simp only; omega, .sl (nx6 + 8) 0 (ms.length + 1) 5, by simp [upd, *], ho5.to (fun x o m j h => by obtain ⟨h1, h2⟩ := hli6 x o m j h; rw [upd_miss _ _ _ _ (by omega)]) (Nat.le_refl _), .inr ⟨nx6 + 8, by simp, by simpa [upd, *] using hn5, by omega⟩, .sl (by omega) (by omega), fun x o m j o' m' j' h h' => by (obtain ⟨h1, h2⟩ := hli6 x o m j h); cases h'; omega, by simp [upd, *], by simp [upd, *], fun hb => by (have := hgt.resolve_left (by rw [hb]; simp)); simp only [List.length_append, List.length_cons, List.length_nil]; omega, b8, (by simp only; rcases hgt with h | h; exact .inl h; exact .inr (by omega)), hM⟩
  | false =>
  simp only [z2] at s1'
  have hM2 : Ms = (ms, σ7) := by
    cases n with
    | zero =>
      rcases hf with hf | hf
      · rw [hM, qMethodsLoop, rs_bad hf]
      · omega
    | succ n => rw [hM, qMethodsLoop, if_neg (by rw [z1, z2]; simp)]
  rw [hM2] at hR
  have s3 := rp_must hT _ km_rb σ7 hi2 b
  clear hM hf hl hM2 hn6 go s2 hgt
  rw [hR]
  refine gW ?_
  refine gB (s1) ?_
  refine gW ?_
  refine gB (s1') ?_
  refine gW ?_
  refine gB (s3) ?_
  have one1c := ho.one1
  have one1d := ho2.one1
  clear s1 s1' s3
  refine gW ?_
  (refine ⟨_, (by simp [*]; rfl), ?_⟩; (try simp only [packA]))
  obtain ⟨c1, wk1, f1⟩ := OwnL.fzR (H := upd (upd (upd (upd H6 b (.cells [.lst (ts.map cvT), .int .i64 σ7.i, .bool σ7.bad])) b (.cells [.lst (ts.map cvT), .int .i64 σ7.i, .bool σ7.bad])) b (.cells [.lst (ts.map cvT), .int .i64 (mustS ts σ7 [125]).i, .bool (mustS ts σ7 [125]).bad])) nx (.cells [.str nm, .str sup, c, d])) cvF_len [.str nm, .str sup] [d] (ho.to (fun x o m j h => by obtain ⟨h1, h2⟩ := hli6 x o m j h; (repeat rw [upd_miss _ _ _ _ (by omega)])) (Nat.le_refl _))
  obtain ⟨d1, wk2, f2⟩ := OwnL.fzR (H := drpC (upd (upd (upd (upd H6 b (.cells [.lst (ts.map cvT), .int .i64 σ7.i, .bool σ7.bad])) b (.cells [.lst (ts.map cvT), .int .i64 σ7.i, .bool σ7.bad])) b (.cells [.lst (ts.map cvT), .int .i64 (mustS ts σ7 [125]).i, .bool (mustS ts σ7 [125]).bad])) nx (.cells [.str nm, .str sup, c, d])) c) cvM_len [.str nm, .str sup, c1] [] (ho2.to (fun x o m j h => by
    obtain ⟨h1, h2⟩ := hli2 x o m j h
    rw [drpC_sl (fun o' m' j' hc => hsp x o' m' j' o m j hc h)]
    (repeat rw [upd_miss _ _ _ _ (by omega)])) (Nat.le_refl _))
  refine ⟨_, .agg [.str nm, .str sup, c1, d1], _, rfl, f1 _ _ (f2 _ _ (.done _ _ _ (Sub.refl _))), WkL.agg (.cons (.same _) (.cons (.same _) (.cons wk1 (.cons wk2 .nil)))), ?_⟩
  rw [drpC_miss hli2 (by omega), drpC_miss hli6 (by omega), upd_miss _ _ _ _ (by omega), upd_hit]
  simp
end
end Go.Proofs.YthjonkommphkkaaGreatDoor
