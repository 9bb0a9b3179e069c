/-
  The reference's parser: statements that begin with a post, walked.
-/
import Derived.Test.YthjonkommphkkaaGreatDoorJpBi
set_option linter.unusedSectionVars false
set_option linter.unusedSimpArgs false
set_option linter.unnecessarySimpa false
set_option linter.unusedVariables false
set_option linter.unusedSimpArgs false
set_option linter.unusedVariables false
namespace Go.Proofs.YthjonkommphkkaaGreatDoor
open Lx Ax
theorem postLoop_kids {ts : List Tok} {E : Nat → PR Ex} : ∀ n e sh i e' sh' j, postLoop ts E n e sh i = .ok ((e', sh'), j) → (sh = 2 → ∃ k, e.kids = [k]) → sh' = 2 → ∃ k, e'.kids = [k] := by
  intro n
  induction n with
  | zero => intro e sh i e' sh' j h; cases h
  | succ n ih =>
    intro e sh i e' sh' j h hk
    simp only [postLoop] at h
    split at h
    · obtain ⟨m, k, h1, h2⟩ := bindP_inv h
      split at h2
      · obtain ⟨ks, k2, h3, h4⟩ := bindP_inv h2
        exact ih _ _ _ _ _ _ h4 (fun h => by omega)
      · exact ih _ _ _ _ _ _ h2 (fun _ => ⟨e, rfl⟩)
    · cases h; exact hk
theorem P_facts {ts : List Tok} (hT : TWR ts) {σ σ1 : RS} {e : Ex} (h : qP ts σ = (e, σ1)) (hb : σ1.bad = false) : σ.bad = false ∧ σ.i < σ1.i ∧ (e.kind = 8 → (opB ts σ.i && closeF ts (σ1.i - σ.i) 0 σ.i) = false → ∃ k, e.kids = [k]) := by
  have hp := does_post (does_expr hT (ts.length + 1)) hT σ
  have e1 : (qPost ts (qExpr ts (ts.length + 1)) σ) = (e, σ1) := h
  rw [e1] at hp
  obtain ⟨h0, hok⟩ := hp.good hb
  cases hpp : postP ts (exprP ts (ts.length + 1)) σ.i with
  | error q => rw [hpp] at hok; cases hok
  | ok p =>
    obtain ⟨⟨e2, sh⟩, j⟩ := p
    rw [hpp] at hok
    obtain ⟨rfl, rfl⟩ : e = e2 ∧ σ1.i = j := by
      have : e2 = e ∧ j = σ1.i := by simpa [fstP_ok] using hok
      exact ⟨this.1.symm, this.2.symm⟩
    refine ⟨h0, postP_adv (exprP_adv _) _ _ _ hpp, fun hk hw => ?_⟩
    obtain ⟨_, s2, _⟩ := Lx.postP_shape hT.kt (exprP_bal hT.kt _) hpp
    have hs := s2.2 ⟨hk, hw⟩
    unfold postP at hpp
    obtain ⟨⟨e0, s0⟩, k, h1, h2⟩ := bindP_inv hpp
    obtain ⟨_, ha⟩ := atomP_bal hT.kt (exprP_bal hT.kt _) h1
    refine postLoop_kids _ _ _ _ _ _ _ h2 (fun h => ?_) hs
    simp only at h
    rcases ha with ⟨_, ha, _⟩ | ⟨_, ⟨ha, _⟩ | ⟨ha, _⟩ | ⟨ha, _⟩⟩ <;> omega
theorem km_as : [61] ∈ kmList := by decide
theorem km_semi : [59] ∈ kmList := by decide
end Go.Proofs.YthjonkommphkkaaGreatDoor
namespace Go.Proofs.YthjonkommphkkaaGreatDoor
open Lx Ax Go.RowKit
attribute [local simp] stepS Ax.stepT Dl.on qstep astep estep rd putE over argE ofV ofS loadA pickCells isAggD faddA fieldA partA iaddA idxA bnd binA intA strA unA convA bltA lenA mapOf lookA findK keyD scalD storeA mupA srcA srcD upd drp Dl.hp Dl.nx CV.cs CV.one buildA placesA fillA zrep tasA ifaceD eqA eqFs eqIs range2 copyA nbeq nble nblt decEq beqI bneI beqS bneS isED Int.ofNat_inj List.getElem?_map List.getElem?_eq_getElem Option.map_some ti_int ti_i64 ti_str ti_bool ti_Toks ti_Tok ti_Pp ti_Exs ti_Ex ti_St ti_Sts gd gdB callA resA op1
attribute [local simp] psC cvT one1 cvE_eq exk exn exo exm exks drR drpC drp nu1 nu2 nu3 nu4 nu5 nu6 nu7 nu8 nu9 nu10 nu11 nu12 nu13
section
variable {ts : List Tok} (hT : TWR ts)
include hT
set_option maxRecDepth 10000 in
set_option maxHeartbeats 16000000 in
theorem rp_closed (from_ : Nat) (σ : RS) (hf : from_ ≤ σ.i) (hi : σ.i < ts.length) (ho : opB ts from_ = true) : RC ts 110 [.int .i64 from_] .bool (fun σ => (closeF ts (σ.i - from_) 0 from_, σ)) σ := by
  intro b
  refine B1.ofBody paG_pu rfl (puP _ _) (puP _ _) rfl Tryz.func110 rfl rfl fun nx hlt q => ?_
  have hlen := hT.wf.len
  obtain ⟨R, hR⟩ : ∃ R, R = closeF ts (σ.i - from_) 0 from_ := ⟨_, rfl⟩
  simp only [← hR]
  refine gW ?_
  refine AWp.loopO (α := Nat × Nat) (fun x e H nx1 => e 5 = .int .i64 x.1 ∧ e 6 = .int .i64 x.2 ∧ H b = some (.cells [.lst (ts.map cvT), .int .i64 σ.i, .bool σ.bad]) ∧ x.2 ≤ σ.i ∧ from_ ≤ x.2 ∧ (0 < x.1 ∨ x.2 = from_) ∧ x.1 ≤ x.2 ∧ R = closeF ts (σ.i - x.2) x.1 x.2) (fun x => σ.i - x.2) (0, from_) [5, 6] 8 ⟨rfl, rfl, by simp [upd], hf, Nat.le_refl _, .inr rfl, by omega, hR⟩ ?_
  clear hR
  rintro ⟨n, k⟩ v H4 nx4 hn4 ⟨h5, h6, hH, hk, hk2, hn, hnk, hR⟩
  simp only at h5 h6 hH hk hk2 hn hnk hR
  by_cases hlt2 : k < σ.i
  · have hkl : k < ts.length := by omega
    have tk := tk_at hkl
    have hw1 : IntKind.i64.wrap ((k : Int) + 1) = ((k + 1 : Nat) : Int) := wrap_up hkl (by simp only [maxLen]; omega)
    have hw2 : IntKind.i64.wrap ((n : Int) + 1) = ((n + 1 : Nat) : Int) := by rw [IntKind.wrap_i64]; omega
    obtain ⟨d, hd⟩ : ∃ d, σ.i - k = d + 1 := ⟨σ.i - k - 1, by omega⟩
    have hd2 : σ.i - (k + 1) = d := by omega
    rw [hd, closeF] at hR
    have lI : (k : Int) < σ.i := by omega
    cases hop : opB ts k with
    | true =>
      have hkd : ts[k].kind = 4 := by have := hT.mks k [40] (by decide) hop; rwa [tk_get _ _ hkl] at this
      have htx : ts[k].text = [40] := by
        have h := hop
        unfold opB isT at h
        rw [tk_get _ _ hkl] at h; exact eq_of_beq h
      rw [hop, if_pos rfl] at hR
      clear hn4
      refine gW ?_
      exact ⟨by ((repeat (first | exact Keeps.base _ _ _ _ | (with_reducible exact Keeps.refl _ _ _) | (refine Keeps.put rfl ?_) | (refine Keeps.over' rfl rfl ?_)))), (n + 1, k + 1), by simp only; omega, by simp [putE, over], by simp [putE, over], by simp [hH], by simp only; omega, by simp only; omega, .inl (by simp only; omega), by simp only; omega, by simp only; rw [hd2]; exact hR⟩
    | false =>
      have htx : ¬ ts[k].text = [40] := by
        have h := hop
        unfold opB isT at h
        rw [tk_get _ _ hkl] at h; exact beq_eq_false_iff_ne.1 h
      rw [hop, if_neg (by simp)] at hR
      have hn1 : 0 < n := by
        rcases hn with hn | hn
        · exact hn
        · rw [hn] at hop; rw [hop] at ho; cases ho
      cases hcl : clB ts k with
      | true =>
        have hkd : ts[k].kind = 4 := by have := hT.mks k [41] (by decide) hcl; rwa [tk_get _ _ hkl] at this
        have htx2 : ts[k].text = [41] := by
          have h := hcl
          unfold clB isT at h
          rw [tk_get _ _ hkl] at h; exact eq_of_beq h
        obtain ⟨n, rfl⟩ : ∃ j, n = j + 1 := ⟨n - 1, by omega⟩
        have hw3 : IntKind.i64.wrap (n : Int) = (n : Int) := by rw [IntKind.wrap_i64]; omega
        have hw0 : IntKind.i64.wrap 0 = 0 := rfl
        have hw4 : IntKind.i64.wrap ((σ.i : Int) - 1) = (σ.i : Int) - 1 := by rw [IntKind.wrap_i64]; omega
        rw [hcl, if_pos rfl] at hR
        clear htx
        by_cases hn0 : n = 0
        · subst hn0
          rw [if_pos (by omega)] at hR
          have hz : decide ((k : Int) = (σ.i : Int) - 1) = (d == 0) := by
            by_cases h : d = 0
            · subst h; simp; omega
            · rw [beq_eq_false_iff_ne.2 h, decide_eq_false_iff_not]; omega
          clear hn4
          refine gW ?_
          (refine ⟨_, (by simp [*]; rfl), ?_⟩; (try simp only [packA]))
          exact ⟨by rw [hR, ← hz], by simp [hH]⟩
        · rw [if_neg (by omega)] at hR
          have hn0' : ¬ (n : Int) = 0 := by omega
          clear hn4
          refine gW ?_
          exact ⟨by ((repeat (first | exact Keeps.base _ _ _ _ | (with_reducible exact Keeps.refl _ _ _) | (refine Keeps.put rfl ?_) | (refine Keeps.over' rfl rfl ?_)))), (n, k + 1), by simp only; omega, by simp [putE, over], by simp [putE, over], by simp [hH], by simp only; omega, by simp only; omega, .inl (by simp only; omega), by simp only; omega, by simp only; rw [hd2]; exact hR⟩
      | false =>
        have htx2 : ¬ ts[k].text = [41] := by
          have h := hcl
          unfold clB isT at h
          rw [tk_get _ _ hkl] at h; exact beq_eq_false_iff_ne.1 h
        rw [hcl, if_neg (by simp)] at hR
        clear hn4
        by_cases hkd : ts[k].kind = 4
        · refine gW ?_
          exact ⟨by ((repeat (first | exact Keeps.base _ _ _ _ | (with_reducible exact Keeps.refl _ _ _) | (refine Keeps.put rfl ?_) | (refine Keeps.over' rfl rfl ?_)))), (n, k + 1), by simp only; omega, by simp [putE, over, h5], by simp [putE, over], by simp [hH], by simp only; omega, by simp only; omega, .inl hn1, by simp only; omega, by simp only; rw [hd2]; exact hR⟩
        · have hkd' : ¬ (ts[k].kind : Int) = 4 := by omega
          refine gW ?_
          exact ⟨by ((repeat (first | exact Keeps.base _ _ _ _ | (with_reducible exact Keeps.refl _ _ _) | (refine Keeps.put rfl ?_) | (refine Keeps.over' rfl rfl ?_)))), (n, k + 1), by simp only; omega, by simp [putE, over, h5], by simp [putE, over], by simp [hH], by simp only; omega, by simp only; omega, .inl hn1, by simp only; omega, by simp only; rw [hd2]; exact hR⟩
  · have hk' : k = σ.i := by omega
    have hR2 : R = false := by rw [hR, hk', Nat.sub_self, closeF]
    have lI : ¬ (k : Int) < σ.i := by omega
    clear hR hn4
    rw [hR2]
    refine gW ?_
    (refine ⟨_, (by simp [*]; rfl), ?_⟩; (try simp only [packA]))
    simp [hH]
set_option maxRecDepth 10000 in
set_option maxHeartbeats 64000000 in
theorem rp_other (σ : RS) (hi : σ.i < ts.length) : RC ts 103 [] (fun s => .agg (cvS s)) (qOther ts) σ := by
  intro b
  refine B1.ofBodyZ paG_pu rfl (puP _ _) (puP _ _) (by simp only [puV, puS]) Tryz.func103 rfl rfl fun nx hlt q => ?_
  have hlen := hT.wf.len
  have ha := rp_at hT _ lp_km σ hi b
  have hp := rp_P hT σ hi b
  obtain ⟨b1, b2⟩ := P_in hT hi
  unfold qOther
  cases hq : qP ts σ with
  | mk e σ1 =>
  simp only [hq] at hp b1 b2
  simp only
  cases hbd : σ1.bad with
  | true =>
    rw [if_pos rfl]
    refine gW ?_
    refine gB (ha) ?_
    refine gW ?_
    refine gB (hp) ?_
    refine gW ?_
    (refine ⟨_, (by simp [*]; rfl), ?_⟩; (try simp only [packA]))
    (refine ⟨_, _, _, rfl, .done _ _ _ (Sub.refl _), ?_, by simp [*]⟩; simp only [stZ, cvS_mk, List.map_nil]; first | exact Wk.same _ | (refine WkL.agg ?_; repeat (first | exact WkL.nil | refine WkL.cons (by first | exact Wk.nil | exact Wk.same _) ?_)))
  | false =>
  obtain ⟨hb0, hlt1, hkid⟩ := P_facts hT hq hbd
  have lI : (σ.i : Int) < σ1.i := by omega
  rw [if_neg (by simp)]
  have s61 := rp_skip hT _ km_as σ1 b2 b
  have s59 := rp_skip hT _ km_semi σ1 b2 b
  have ho : atB ts σ [40] = opB ts σ.i := atB_good hb0
  have hE : atB ts σ1 [61] = true → σ1.i + 1 < ts.length := fun h => (at_in hT (σ := σ1) (x := [61]) (by decide) h b2).2
  cases hop : opB ts σ.i with
  | false =>
    simp only [ho, hop] at ha ⊢
    rw [hop] at hkid
    simp only [Bool.false_and] at hkid ⊢
    have hw : false = false := rfl
    by_cases k3 : e.kind = 3
    · cases z : atB ts σ1 [61] with
      | true =>
        have hE2 := rp_E hT ⟨σ1.i + 1, false⟩ (hE z) b
        obtain ⟨b3, b4⟩ := E_in hT (σ := ⟨σ1.i + 1, false⟩) (hE z)
        have hm := rp_must hT _ km_semi _ b4 b
        rw [qOther1, if_pos ⟨k3, rfl, z⟩]
        simp only [z, skipS_true z] at s61
        clear hkid hlt1 hE
        refine gW ?_
        refine gB (ha) ?_
        refine gW ?_
        refine gB (hp) ?_
        refine gW ?_
        refine gB (s61) ?_
        refine gW ?_
        refine gB (hE2) ?_
        refine gW ?_
        refine gB (hm) ?_
        refine AOpl.nil ?_
        simp only [Then]
        refine AWp.seq ?_
        refine AWp.reg rfl ?_
        iterate 4 (first | (first | (apply AOpl.step; rfl) | apply ASl.step); focus simp [*, -Option.some.injEq]; rfl | (first | (apply AOpl.stepG; rfl) | apply ASl.stepG); (focus simp [*]; done); focus simp [*, -Option.some.injEq]; rfl | (first | (apply AOpl.pass; rfl) | apply ASl.pass); (focus simp [*]; done))
        refine AOpl.frzL cvE_len 54 (l := [(qE ts ⟨σ1.i + 1, false⟩).1]) rfl (.inr ⟨nx + 1 + 1 + 1, rfl, by simp [upd], by omega⟩) ?_
        refine gW ?_
        (refine ⟨_, (by simp [*]; rfl), ?_⟩; (try simp only [packA]))
        (refine ⟨_, _, _, rfl, .done _ _ _ (Sub.refl _), ?_, by simp [*]⟩; simp only [cvS_mk, List.map_nil, List.map_cons, cvE_eq]; first | exact Wk.same _ | (refine WkL.agg ?_; repeat (first | exact WkL.nil | refine WkL.cons (by first | exact Wk.nil | exact Wk.same _) ?_)))
      | false =>
        rw [qOther1, if_neg (by rw [z]; simp), if_neg (by rw [k3]; simp), if_neg (by rw [k3]; simp)]
        simp only [z, skipS_false z] at s61
        clear hkid hlt1 hE
        refine gW ?_
        refine gB (ha) ?_
        refine gW ?_
        refine gB (hp) ?_
        refine gW ?_
        refine gB (s61) ?_
        refine gW ?_
        (refine ⟨_, (by simp [*]; rfl), ?_⟩; (try simp only [packA]))
        (refine ⟨_, _, _, rfl, .done _ _ _ (Sub.refl _), ?_, by simp [*]⟩; simp only [stZ, cvS_mk, List.map_nil]; first | exact Wk.same _ | (refine WkL.agg ?_; repeat (first | exact WkL.nil | refine WkL.cons (by first | exact Wk.nil | exact Wk.same _) ?_)))
    by_cases k8 : e.kind = 8
    · obtain ⟨kid, hkid⟩ := hkid k8 (by first | exact hw | (rw [← hw]; rfl) | (simp [hop]; done))
      cases z : atB ts σ1 [61] with
      | true =>
        have hE2 := rp_E hT ⟨σ1.i + 1, false⟩ (hE z) b
        obtain ⟨b3, b4⟩ := E_in hT (σ := ⟨σ1.i + 1, false⟩) (hE z)
        have hm := rp_must hT _ km_semi _ b4 b
        rw [qOther1, if_neg (fun h => k3 h.1), if_pos ⟨k8, rfl, z⟩]
        simp only [z, skipS_true z] at s61
        clear hlt1 hE
        refine gW ?_
        refine gB (ha) ?_
        refine gW ?_
        refine gB (hp) ?_
        refine gW ?_
        refine gB (s61) ?_
        refine gW ?_
        refine gB (hE2) ?_
        refine gW ?_
        refine gB (hm) ?_
        refine gW ?_
        (refine ⟨_, (by simp [*]; rfl), ?_⟩; (try simp only [packA]))
        refine ⟨_, _, _, rfl, .step (nx + 1 + 1 + 1 + 7) _ (by simp [upd, *]; rfl) (.ret (FVL.agg (FVL.cons (.same _) (FVL.cons (.same _) (FVL.cons (.same _) (FVL.cons (.sl 0 2 5 (by simp)) (FVL.cons (.same _) (FVL.cons (.same _) FVL.nil)))))))) (.done _ _ _ (Sub.refl _)), ?_, by simp [upd, drp, *]⟩
        simp only [cvS_mk, List.map_cons, List.map_nil, cvE_eq, hkid, List.headD]
        refine WkL.agg ?_
        repeat (first | exact WkL.nil | refine WkL.cons (by first | exact Wk.nil | exact Wk.same _) ?_)
      | false =>
        rw [qOther1, if_neg (fun h => k3 h.1), if_neg (by rw [z]; simp), if_neg (by rw [k8]; simp)]
        simp only [z, skipS_false z] at s61
        clear hlt1 hE
        refine gW ?_
        refine gB (ha) ?_
        refine gW ?_
        refine gB (hp) ?_
        refine gW ?_
        refine gB (s61) ?_
        refine gW ?_
        (refine ⟨_, (by simp [*]; rfl), ?_⟩; (try simp only [packA]))
        (refine ⟨_, _, _, rfl, .done _ _ _ (Sub.refl _), ?_, by simp [*]⟩; simp only [stZ, cvS_mk, List.map_nil]; first | exact Wk.same _ | (refine WkL.agg ?_; repeat (first | exact WkL.nil | refine WkL.cons (by first | exact Wk.nil | exact Wk.same _) ?_)))
    by_cases k9 : e.kind = 9
    · cases z : atB ts σ1 [59] with
      | true =>
        rw [qOther1, if_neg (fun h => k3 h.1), if_neg (fun h => k8 h.1), if_pos ⟨.inl k9, rfl, z⟩]
        simp only [z, skipS_true z] at s59
        clear hkid hlt1 hE
        refine gW ?_
        refine gB (ha) ?_
        refine gW ?_
        refine gB (hp) ?_
        refine gW ?_
        refine gB (s59) ?_
        (first | (first | (apply AOpl.step; rfl) | apply ASl.step); focus simp [*, -Option.some.injEq]; rfl | (first | (apply AOpl.stepG; rfl) | apply ASl.stepG); (focus simp [*]; done); focus simp [*, -Option.some.injEq]; rfl | (first | (apply AOpl.pass; rfl) | apply ASl.pass); (focus simp [*]; done))
        refine AOpl.nil ?_
        simp only [Then]
        refine AWp.condT (by simp [rd, putE, over, ofV, ofS, *]) ?_
        refine AWp.seq ?_
        refine AWp.reg rfl ?_
        iterate 2 (first | (first | (apply AOpl.step; rfl) | apply ASl.step); focus simp [*, -Option.some.injEq]; rfl | (first | (apply AOpl.stepG; rfl) | apply ASl.stepG); (focus simp [*]; done); focus simp [*, -Option.some.injEq]; rfl | (first | (apply AOpl.pass; rfl) | apply ASl.pass); (focus simp [*]; done))
        refine AOpl.frzL cvE_len 97 (l := [e]) rfl (.inr ⟨nx + 1 + 1, rfl, by simp [upd, *], by omega⟩) ?_
        refine gW ?_
        (refine ⟨_, (by simp [*]; rfl), ?_⟩; (try simp only [packA]))
        (refine ⟨_, _, _, rfl, .done _ _ _ (Sub.refl _), ?_, by simp [*]⟩; simp only [cvS_mk, List.map_nil, List.map_cons, cvE_eq, k9]; first | exact Wk.same _ | (refine WkL.agg ?_; repeat (first | exact WkL.nil | refine WkL.cons (by first | exact Wk.nil | exact Wk.same _) ?_)))
      | false =>
        rw [qOther1, if_neg (fun h => k3 h.1), if_neg (fun h => k8 h.1), if_neg (by rw [z]; simp)]
        simp only [z, skipS_false z] at s59
        clear hkid hlt1 hE
        refine gW ?_
        refine gB (ha) ?_
        refine gW ?_
        refine gB (hp) ?_
        refine gW ?_
        refine gB (s59) ?_
        refine gW ?_
        (refine ⟨_, (by simp [*]; rfl), ?_⟩; (try simp only [packA]))
        (refine ⟨_, _, _, rfl, .done _ _ _ (Sub.refl _), ?_, by simp [*]⟩; simp only [stZ, cvS_mk, List.map_nil]; first | exact Wk.same _ | (refine WkL.agg ?_; repeat (first | exact WkL.nil | refine WkL.cons (by first | exact Wk.nil | exact Wk.same _) ?_)))
    by_cases k10 : e.kind = 10
    · cases z : atB ts σ1 [59] with
      | true =>
        rw [qOther1, if_neg (fun h => k3 h.1), if_neg (fun h => k8 h.1), if_pos ⟨.inr k10, rfl, z⟩]
        simp only [z, skipS_true z] at s59
        clear hkid hlt1 hE
        refine gW ?_
        refine gB (ha) ?_
        refine gW ?_
        refine gB (hp) ?_
        refine gW ?_
        refine gB (s59) ?_
        (first | (first | (apply AOpl.step; rfl) | apply ASl.step); focus simp [*, -Option.some.injEq]; rfl | (first | (apply AOpl.stepG; rfl) | apply ASl.stepG); (focus simp [*]; done); focus simp [*, -Option.some.injEq]; rfl | (first | (apply AOpl.pass; rfl) | apply ASl.pass); (focus simp [*]; done))
        refine AOpl.nil ?_
        simp only [Then]
        refine AWp.condT (by simp [rd, putE, over, ofV, ofS, *]) ?_
        refine AWp.seq ?_
        refine AWp.reg rfl ?_
        iterate 2 (first | (first | (apply AOpl.step; rfl) | apply ASl.step); focus simp [*, -Option.some.injEq]; rfl | (first | (apply AOpl.stepG; rfl) | apply ASl.stepG); (focus simp [*]; done); focus simp [*, -Option.some.injEq]; rfl | (first | (apply AOpl.pass; rfl) | apply ASl.pass); (focus simp [*]; done))
        refine AOpl.frzL cvE_len 97 (l := [e]) rfl (.inr ⟨nx + 1 + 1, rfl, by simp [upd, *], by omega⟩) ?_
        refine gW ?_
        (refine ⟨_, (by simp [*]; rfl), ?_⟩; (try simp only [packA]))
        (refine ⟨_, _, _, rfl, .done _ _ _ (Sub.refl _), ?_, by simp [*]⟩; simp only [cvS_mk, List.map_nil, List.map_cons, cvE_eq, k10]; first | exact Wk.same _ | (refine WkL.agg ?_; repeat (first | exact WkL.nil | refine WkL.cons (by first | exact Wk.nil | exact Wk.same _) ?_)))
      | false =>
        rw [qOther1, if_neg (fun h => k3 h.1), if_neg (fun h => k8 h.1), if_neg (by rw [z]; simp)]
        simp only [z, skipS_false z] at s59
        clear hkid hlt1 hE
        refine gW ?_
        refine gB (ha) ?_
        refine gW ?_
        refine gB (hp) ?_
        refine gW ?_
        refine gB (s59) ?_
        refine gW ?_
        (refine ⟨_, (by simp [*]; rfl), ?_⟩; (try simp only [packA]))
        (refine ⟨_, _, _, rfl, .done _ _ _ (Sub.refl _), ?_, by simp [*]⟩; simp only [stZ, cvS_mk, List.map_nil]; first | exact Wk.same _ | (refine WkL.agg ?_; repeat (first | exact WkL.nil | refine WkL.cons (by first | exact Wk.nil | exact Wk.same _) ?_)))
    rw [qOther1, if_neg (fun h => k3 h.1), if_neg (fun h => k8 h.1), if_neg (fun h => h.1.elim k9 k10)]
    clear hkid hlt1 hE
    refine gW ?_
    refine gB (ha) ?_
    refine gW ?_
    refine gB (hp) ?_
    refine gW ?_
    refine gW ?_
    (refine ⟨_, (by simp [*]; rfl), ?_⟩; (try simp only [packA]))
    (refine ⟨_, _, _, rfl, .done _ _ _ (Sub.refl _), ?_, by simp [*]⟩; simp only [stZ, cvS_mk, List.map_nil]; first | exact Wk.same _ | (refine WkL.agg ?_; repeat (first | exact WkL.nil | refine WkL.cons (by first | exact Wk.nil | exact Wk.same _) ?_)))
  | true =>
    simp only [ho, hop] at ha ⊢
    rw [hop] at hkid
    have hcl := rp_closed hT σ.i σ1 b1 b2 hop b
    simp only [Bool.true_and] at hkid ⊢
    cases hw : closeF ts (σ1.i - σ.i) 0 σ.i with
    | false =>
      simp only [hw] at hcl hkid
      by_cases k3 : e.kind = 3
      · rw [qOther1, if_neg (by simp), if_neg (by rw [k3]; simp), if_neg (by rw [k3]; simp)]
        clear hkid hlt1 hE
        refine gW ?_
        refine gB (ha) ?_
        refine gW ?_
        refine gB (hp) ?_
        refine gW ?_
        refine gB (hcl) ?_
        refine gW ?_
        refine gW ?_
        (refine ⟨_, (by simp [*]; rfl), ?_⟩; (try simp only [packA]))
        (refine ⟨_, _, _, rfl, .done _ _ _ (Sub.refl _), ?_, by simp [*]⟩; simp only [stZ, cvS_mk, List.map_nil]; first | exact Wk.same _ | (refine WkL.agg ?_; repeat (first | exact WkL.nil | refine WkL.cons (by first | exact Wk.nil | exact Wk.same _) ?_)))
      by_cases k8 : e.kind = 8
      · obtain ⟨kid, hkid⟩ := hkid k8 (by first | exact hw | (rw [← hw]; rfl) | (simp [hop]; done))
        cases z : atB ts σ1 [61] with
        | true =>
          have hE2 := rp_E hT ⟨σ1.i + 1, false⟩ (hE z) b
          obtain ⟨b3, b4⟩ := E_in hT (σ := ⟨σ1.i + 1, false⟩) (hE z)
          have hm := rp_must hT _ km_semi _ b4 b
          rw [qOther1, if_neg (fun h => k3 h.1), if_pos ⟨k8, rfl, z⟩]
          simp only [z, skipS_true z] at s61
          clear hlt1 hE
          refine gW ?_
          refine gB (ha) ?_
          refine gW ?_
          refine gB (hp) ?_
          refine gW ?_
          refine gB (hcl) ?_
          refine gW ?_
          refine gB (s61) ?_
          refine gW ?_
          refine gB (hE2) ?_
          refine gW ?_
          refine gB (hm) ?_
          refine gW ?_
          (refine ⟨_, (by simp [*]; rfl), ?_⟩; (try simp only [packA]))
          refine ⟨_, _, _, rfl, .step (nx + 1 + 1 + 1 + 7) _ (by simp [upd, *]; rfl) (.ret (FVL.agg (FVL.cons (.same _) (FVL.cons (.same _) (FVL.cons (.same _) (FVL.cons (.sl 0 2 5 (by simp)) (FVL.cons (.same _) (FVL.cons (.same _) FVL.nil)))))))) (.done _ _ _ (Sub.refl _)), ?_, by simp [upd, drp, *]⟩
          simp only [cvS_mk, List.map_cons, List.map_nil, cvE_eq, hkid, List.headD]
          refine WkL.agg ?_
          repeat (first | exact WkL.nil | refine WkL.cons (by first | exact Wk.nil | exact Wk.same _) ?_)
        | false =>
          rw [qOther1, if_neg (fun h => k3 h.1), if_neg (by rw [z]; simp), if_neg (by rw [k8]; simp)]
          simp only [z, skipS_false z] at s61
          clear hlt1 hE
          refine gW ?_
          refine gB (ha) ?_
          refine gW ?_
          refine gB (hp) ?_
          refine gW ?_
          refine gB (hcl) ?_
          refine gW ?_
          refine gB (s61) ?_
          refine gW ?_
          (refine ⟨_, (by simp [*]; rfl), ?_⟩; (try simp only [packA]))
          (refine ⟨_, _, _, rfl, .done _ _ _ (Sub.refl _), ?_, by simp [*]⟩; simp only [stZ, cvS_mk, List.map_nil]; first | exact Wk.same _ | (refine WkL.agg ?_; repeat (first | exact WkL.nil | refine WkL.cons (by first | exact Wk.nil | exact Wk.same _) ?_)))
      by_cases k9 : e.kind = 9
      · cases z : atB ts σ1 [59] with
        | true =>
          rw [qOther1, if_neg (fun h => k3 h.1), if_neg (fun h => k8 h.1), if_pos ⟨.inl k9, rfl, z⟩]
          simp only [z, skipS_true z] at s59
          clear hkid hlt1 hE
          refine gW ?_
          refine gB (ha) ?_
          refine gW ?_
          refine gB (hp) ?_
          refine gW ?_
          refine gB (hcl) ?_
          refine gW ?_
          refine gB (s59) ?_
          (first | (first | (apply AOpl.step; rfl) | apply ASl.step); focus simp [*, -Option.some.injEq]; rfl | (first | (apply AOpl.stepG; rfl) | apply ASl.stepG); (focus simp [*]; done); focus simp [*, -Option.some.injEq]; rfl | (first | (apply AOpl.pass; rfl) | apply ASl.pass); (focus simp [*]; done))
          refine AOpl.nil ?_
          simp only [Then]
          refine AWp.condT (by simp [rd, putE, over, ofV, ofS, *]) ?_
          refine AWp.seq ?_
          refine AWp.reg rfl ?_
          iterate 2 (first | (first | (apply AOpl.step; rfl) | apply ASl.step); focus simp [*, -Option.some.injEq]; rfl | (first | (apply AOpl.stepG; rfl) | apply ASl.stepG); (focus simp [*]; done); focus simp [*, -Option.some.injEq]; rfl | (first | (apply AOpl.pass; rfl) | apply ASl.pass); (focus simp [*]; done))
          refine AOpl.frzL cvE_len 97 (l := [e]) rfl (.inr ⟨nx + 1 + 1, rfl, by simp [upd, *], by omega⟩) ?_
          refine gW ?_
          (refine ⟨_, (by simp [*]; rfl), ?_⟩; (try simp only [packA]))
          (refine ⟨_, _, _, rfl, .done _ _ _ (Sub.refl _), ?_, by simp [*]⟩; simp only [cvS_mk, List.map_nil, List.map_cons, cvE_eq, k9]; first | exact Wk.same _ | (refine WkL.agg ?_; repeat (first | exact WkL.nil | refine WkL.cons (by first | exact Wk.nil | exact Wk.same _) ?_)))
        | false =>
          rw [qOther1, if_neg (fun h => k3 h.1), if_neg (fun h => k8 h.1), if_neg (by rw [z]; simp)]
          simp only [z, skipS_false z] at s59
          clear hkid hlt1 hE
          refine gW ?_
          refine gB (ha) ?_
          refine gW ?_
          refine gB (hp) ?_
          refine gW ?_
          refine gB (hcl) ?_
          refine gW ?_
          refine gB (s59) ?_
          refine gW ?_
          (refine ⟨_, (by simp [*]; rfl), ?_⟩; (try simp only [packA]))
          (refine ⟨_, _, _, rfl, .done _ _ _ (Sub.refl _), ?_, by simp [*]⟩; simp only [stZ, cvS_mk, List.map_nil]; first | exact Wk.same _ | (refine WkL.agg ?_; repeat (first | exact WkL.nil | refine WkL.cons (by first | exact Wk.nil | exact Wk.same _) ?_)))
      by_cases k10 : e.kind = 10
      · cases z : atB ts σ1 [59] with
        | true =>
          rw [qOther1, if_neg (fun h => k3 h.1), if_neg (fun h => k8 h.1), if_pos ⟨.inr k10, rfl, z⟩]
          simp only [z, skipS_true z] at s59
          clear hkid hlt1 hE
          refine gW ?_
          refine gB (ha) ?_
          refine gW ?_
          refine gB (hp) ?_
          refine gW ?_
          refine gB (hcl) ?_
          refine gW ?_
          refine gB (s59) ?_
          (first | (first | (apply AOpl.step; rfl) | apply ASl.step); focus simp [*, -Option.some.injEq]; rfl | (first | (apply AOpl.stepG; rfl) | apply ASl.stepG); (focus simp [*]; done); focus simp [*, -Option.some.injEq]; rfl | (first | (apply AOpl.pass; rfl) | apply ASl.pass); (focus simp [*]; done))
          refine AOpl.nil ?_
          simp only [Then]
          refine AWp.condT (by simp [rd, putE, over, ofV, ofS, *]) ?_
          refine AWp.seq ?_
          refine AWp.reg rfl ?_
          iterate 2 (first | (first | (apply AOpl.step; rfl) | apply ASl.step); focus simp [*, -Option.some.injEq]; rfl | (first | (apply AOpl.stepG; rfl) | apply ASl.stepG); (focus simp [*]; done); focus simp [*, -Option.some.injEq]; rfl | (first | (apply AOpl.pass; rfl) | apply ASl.pass); (focus simp [*]; done))
          refine AOpl.frzL cvE_len 97 (l := [e]) rfl (.inr ⟨nx + 1 + 1, rfl, by simp [upd, *], by omega⟩) ?_
          refine gW ?_
          (refine ⟨_, (by simp [*]; rfl), ?_⟩; (try simp only [packA]))
          (refine ⟨_, _, _, rfl, .done _ _ _ (Sub.refl _), ?_, by simp [*]⟩; simp only [cvS_mk, List.map_nil, List.map_cons, cvE_eq, k10]; first | exact Wk.same _ | (refine WkL.agg ?_; repeat (first | exact WkL.nil | refine WkL.cons (by first | exact Wk.nil | exact Wk.same _) ?_)))
        | false =>
          rw [qOther1, if_neg (fun h => k3 h.1), if_neg (fun h => k8 h.1), if_neg (by rw [z]; simp)]
          simp only [z, skipS_false z] at s59
          clear hkid hlt1 hE
          refine gW ?_
          refine gB (ha) ?_
          refine gW ?_
          refine gB (hp) ?_
          refine gW ?_
          refine gB (hcl) ?_
          refine gW ?_
          refine gB (s59) ?_
          refine gW ?_
          (refine ⟨_, (by simp [*]; rfl), ?_⟩; (try simp only [packA]))
          (refine ⟨_, _, _, rfl, .done _ _ _ (Sub.refl _), ?_, by simp [*]⟩; simp only [stZ, cvS_mk, List.map_nil]; first | exact Wk.same _ | (refine WkL.agg ?_; repeat (first | exact WkL.nil | refine WkL.cons (by first | exact Wk.nil | exact Wk.same _) ?_)))
      rw [qOther1, if_neg (fun h => k3 h.1), if_neg (fun h => k8 h.1), if_neg (fun h => h.1.elim k9 k10)]
      clear hkid hlt1 hE
      refine gW ?_
      refine gB (ha) ?_
      refine gW ?_
      refine gB (hp) ?_
      refine gW ?_
      refine gB (hcl) ?_
      refine gW ?_
      refine gW ?_
      (refine ⟨_, (by simp [*]; rfl), ?_⟩; (try simp only [packA]))
      (refine ⟨_, _, _, rfl, .done _ _ _ (Sub.refl _), ?_, by simp [*]⟩; simp only [stZ, cvS_mk, List.map_nil]; first | exact Wk.same _ | (refine WkL.agg ?_; repeat (first | exact WkL.nil | refine WkL.cons (by first | exact Wk.nil | exact Wk.same _) ?_)))
    | true =>
      simp only [hw] at hcl hkid
      by_cases k3 : e.kind = 3
      · rw [qOther1, if_neg (by simp), if_neg (by rw [k3]; simp), if_neg (by rw [k3]; simp)]
        clear hkid hlt1 hE
        refine gW ?_
        refine gB (ha) ?_
        refine gW ?_
        refine gB (hp) ?_
        refine gW ?_
        refine gB (hcl) ?_
        refine gW ?_
        refine gW ?_
        (refine ⟨_, (by simp [*]; rfl), ?_⟩; (try simp only [packA]))
        (refine ⟨_, _, _, rfl, .done _ _ _ (Sub.refl _), ?_, by simp [*]⟩; simp only [stZ, cvS_mk, List.map_nil]; first | exact Wk.same _ | (refine WkL.agg ?_; repeat (first | exact WkL.nil | refine WkL.cons (by first | exact Wk.nil | exact Wk.same _) ?_)))
      by_cases k8 : e.kind = 8
      · rw [qOther1, if_neg (fun h => k3 h.1), if_neg (by simp), if_neg (by simp)]
        clear hkid hlt1 hE
        refine gW ?_
        refine gB (ha) ?_
        refine gW ?_
        refine gB (hp) ?_
        refine gW ?_
        refine gB (hcl) ?_
        refine gW ?_
        refine gW ?_
        (refine ⟨_, (by simp [*]; rfl), ?_⟩; (try simp only [packA]))
        (refine ⟨_, _, _, rfl, .done _ _ _ (Sub.refl _), ?_, by simp [*]⟩; simp only [stZ, cvS_mk, List.map_nil]; first | exact Wk.same _ | (refine WkL.agg ?_; repeat (first | exact WkL.nil | refine WkL.cons (by first | exact Wk.nil | exact Wk.same _) ?_)))
      by_cases k9 : e.kind = 9
      · rw [qOther1, if_neg (fun h => k3 h.1), if_neg (fun h => k8 h.1), if_neg (by simp)]
        clear hkid hlt1 hE
        refine gW ?_
        refine gB (ha) ?_
        refine gW ?_
        refine gB (hp) ?_
        refine gW ?_
        refine gB (hcl) ?_
        refine gW ?_
        refine gW ?_
        (refine ⟨_, (by simp [*]; rfl), ?_⟩; (try simp only [packA]))
        (refine ⟨_, _, _, rfl, .done _ _ _ (Sub.refl _), ?_, by simp [*]⟩; simp only [stZ, cvS_mk, List.map_nil]; first | exact Wk.same _ | (refine WkL.agg ?_; repeat (first | exact WkL.nil | refine WkL.cons (by first | exact Wk.nil | exact Wk.same _) ?_)))
      by_cases k10 : e.kind = 10
      · rw [qOther1, if_neg (fun h => k3 h.1), if_neg (fun h => k8 h.1), if_neg (by simp)]
        clear hkid hlt1 hE
        refine gW ?_
        refine gB (ha) ?_
        refine gW ?_
        refine gB (hp) ?_
        refine gW ?_
        refine gB (hcl) ?_
        refine gW ?_
        refine gW ?_
        (refine ⟨_, (by simp [*]; rfl), ?_⟩; (try simp only [packA]))
        (refine ⟨_, _, _, rfl, .done _ _ _ (Sub.refl _), ?_, by simp [*]⟩; simp only [stZ, cvS_mk, List.map_nil]; first | exact Wk.same _ | (refine WkL.agg ?_; repeat (first | exact WkL.nil | refine WkL.cons (by first | exact Wk.nil | exact Wk.same _) ?_)))
      rw [qOther1, if_neg (fun h => k3 h.1), if_neg (fun h => k8 h.1), if_neg (fun h => h.1.elim k9 k10)]
      clear hkid hlt1 hE
      refine gW ?_
      refine gB (ha) ?_
      refine gW ?_
      refine gB (hp) ?_
      refine gW ?_
      refine gB (hcl) ?_
      refine gW ?_
      refine gW ?_
      (refine ⟨_, (by simp [*]; rfl), ?_⟩; (try simp only [packA]))
      (refine ⟨_, _, _, rfl, .done _ _ _ (Sub.refl _), ?_, by simp [*]⟩; simp only [stZ, cvS_mk, List.map_nil]; first | exact Wk.same _ | (refine WkL.agg ?_; repeat (first | exact WkL.nil | refine WkL.cons (by first | exact Wk.nil | exact Wk.same _) ?_)))
end
end Go.Proofs.YthjonkommphkkaaGreatDoor
