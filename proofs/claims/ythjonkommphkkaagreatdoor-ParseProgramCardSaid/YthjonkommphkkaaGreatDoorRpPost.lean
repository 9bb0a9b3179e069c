/-
  The reference's parser: posts, products, sums and expressions walked.
-/
import Derived.Test.YthjonkommphkkaaGreatDoorRpAtom
set_option linter.unusedSectionVars false
set_option linter.unusedSimpArgs false
set_option linter.unnecessarySimpa false
set_option linter.unusedVariables false
set_option linter.unusedSimpArgs false
set_option linter.unusedVariables false
namespace Go.Proofs.YthjonkommphkkaaGreatDoor
open Lx Ax
theorem km_dot : [46] ∈ kmList := by decide
theorem km_mul : [42] ∈ kmList := by decide
theorem km_plus : [43] ∈ kmList := by decide
theorem km_less : [60] ∈ kmList := by decide
theorem km_eq : [61, 61] ∈ kmList := by decide
theorem rs_bad {σ : RS} (h : σ.bad = true) : (⟨σ.i, true⟩ : RS) = σ := by obtain ⟨i, b⟩ := σ; simp at h; simp [h]
end Go.Proofs.YthjonkommphkkaaGreatDoor
namespace Go.Proofs.YthjonkommphkkaaGreatDoor
open Lx Ax Go.RowKit
attribute [local simp] stepS Ax.stepT Dl.on qstep astep estep rd putE over argE ofV ofS loadA pickCells isAggD faddA fieldA partA iaddA idxA bnd binA intA strA unA convA bltA lenA mapOf lookA findK keyD scalD storeA mupA srcA srcD upd drp Dl.hp Dl.nx CV.cs CV.one buildA placesA fillA zrep tasA ifaceD eqA eqFs eqIs range2 copyA nbeq nble nblt decEq beqI bneI beqS bneS isED Int.ofNat_inj List.getElem?_map List.getElem?_eq_getElem Option.map_some ti_int ti_i64 ti_str ti_bool ti_Toks ti_Tok ti_Pp ti_Exs ti_Ex gd gdB callA resA op1
attribute [local simp] psC cvT one1 cvE_eq exk exn exo exm exks drR drpC drp nu1 nu2 nu3 nu4 nu5 nu6 nu7 nu8 nu9 nu10 nu11 nu12 nu13
section
variable {ts : List Tok} (hT : TWR ts) {E : RS → Ex × RS} {m : Nat} (hE : ∀ σ, m < σ.i → σ.i < ts.length → RC ts 43 [] (fun e => .agg (cvE e)) E σ) (hEi : ∀ σ, Inn ts σ (E σ).2)
include hT hE hEi
set_option maxRecDepth 10000 in
set_option maxHeartbeats 16000000 in
theorem rp_post (σ : RS) (hm : m ≤ σ.i) (hi : σ.i < ts.length) : RC ts 105 [] (fun e => .agg (cvE e)) (qPost ts E) σ := by
  intro b
  refine B1.ofBodyW paG_pu rfl (puP _ _) (puP _ _) (by simp only [puV, puE]) Tryz.func105 rfl rfl fun nx hlt q => ?_
  have hlen := hT.wf.len
  have h0 := rp_atom hT hE hEi σ hm hi b
  obtain ⟨b1, b2⟩ := atom_in hT hEi hi
  obtain ⟨R, hR⟩ : ∃ R, R = qPost ts E σ := ⟨_, rfl⟩
  rw [← hR]
  unfold qPost at hR
  cases ha : qAtom ts E σ with
  | mk e0 σ0 =>
  simp only [ha] at h0 b1 b2 hR
  refine gW ?_
  (refine AOpl.callB rfl (by first | rfl | (simp [*]; done)) (by simp [*]) (by kernel_rfl) (h0) (by simp [*]) ?_)
  refine gW ?_
  refine AWp.loopO (α := Nat × Ex × RS) (fun x e H nx1 => H b = some (.cells [.lst (ts.map cvT), .int .i64 x.2.2.i, .bool x.2.2.bad]) ∧ H (nx + 1) = some (.cells (cvE x.2.1)) ∧ H nx = some (.cells [.int .i64 0, .int .i64 0, .str [], .str [], .nils]) ∧ m ≤ x.2.2.i ∧ x.2.2.i < ts.length ∧ (x.2.2.bad = true ∨ ts.length - x.2.2.i < x.1) ∧ R = qPostLoop ts E x.1 x.2.1 x.2.2) (fun x => x.1) (ts.length + 1, e0, σ0) [4] 7 ⟨by simp [upd, q], by simp [upd, q], by simp [upd, q], by simp only; omega, b2, .inr (by simp only; omega), hR⟩ ?_
  clear hR b1 b2 ha h0
  rintro ⟨n, e, σ1⟩ v H4 nx4 hn4 ⟨hH, h3, h2, hi1, hi2, hf, hR⟩
  simp only at hH h3 h2 hi1 hi2 hf hR
  have q4 := far (show b < nx4 by omega)
  have q5 := far (show nx < nx4 by omega)
  have q6 := far (show nx + 1 < nx4 by omega)
  have s1 := rp_skip hT _ km_dot σ1 hi2 b
  cases hz : atB ts σ1 [46] with
  | false =>
    have hR2 : R = (e, σ1) := by
      cases n with
      | zero =>
        rcases hf with hf | hf
        · rw [hR, qPostLoop, rs_bad hf]
        · omega
      | succ n => rw [hR, qPostLoop, if_neg (by rw [hz]; simp)]
    simp only [hz, skipS_false hz] at s1
    clear hR hf hn4
    rw [hR2]
    refine gW ?_
    (refine AOpl.callB rfl (by first | rfl | (simp [*]; done)) (by simp [*]) (by kernel_rfl) (s1) (by simp [*]) ?_)
    refine gW ?_
    (refine ⟨_, (by simp [*]; rfl), ?_⟩; (try simp only [packA]))
    (refine ⟨_, rfl, ?_, by simp [*]⟩; simp only [cvE_eq]; first | exact Wk.same _ | (refine WkL.agg ?_; repeat (first | exact WkL.nil | refine WkL.cons (by first | exact Wk.nil | exact Wk.same _) ?_)))
  | true =>
    obtain ⟨hb3, _⟩ := atB_true hz
    obtain ⟨b5, b6⟩ := at_in hT (σ := σ1) (x := [46]) (by decide) hz hi2
    simp only [hz, skipS_true hz] at s1
    obtain ⟨n, rfl⟩ : ∃ k, n = k + 1 := ⟨n - 1, by rcases hf with hf | hf; rw [hb3] at hf; cases hf; omega⟩
    have hf1 : ts.length - σ1.i < n + 1 := by rcases hf with hf | hf; rw [hb3] at hf; cases hf; exact hf
    have s2 := rp_name hT ⟨σ1.i + 1, false⟩ b6 b
    obtain ⟨b7, b8⟩ := name_in hT (σ := ⟨σ1.i + 1, false⟩) b6
    rw [qPostLoop, if_pos hz] at hR
    cases hr : qName ts ⟨σ1.i + 1, false⟩ with
    | mk nm σ2 =>
    simp only [hr] at s2 b7 b8 hR
    simp only at b5 b6
    have s3 := rp_at hT _ lp_km σ2 b8 b
    obtain ⟨b9, b10⟩ := dot_in hT hEi (σ := σ2) e nm b8
    have hbn : nx + 1 + 1 ≤ nx4 := hn4
    have hmm : m ≤ σ2.i := by omega
    clear hf hn4
    cases hz2 : atB ts σ2 [40] with
    | true =>
      simp only [hz2] at s3
      have hd : qDot ts E e nm σ2 = (.mk 9 0 [] nm (qList ts E [e] σ2).1, (qList ts E [e] σ2).2) := by unfold qDot; rw [if_pos hz2]
      rw [hd] at hR b9 b10
      simp only at hR b9 b10
      refine gW ?_
      (refine AOpl.callB rfl (by first | rfl | (simp [*]; done)) (by simp [*]) (by kernel_rfl) (s1) (by simp [*]) ?_)
      refine gW ?_
      (refine AOpl.callB rfl (by first | rfl | (simp [*]; done)) (by simp [*]) (by kernel_rfl) (s2) (by simp [*]) ?_)
      refine gW ?_
      (refine AOpl.callB rfl (by first | rfl | (simp [*]; done)) (by simp [*]) (by kernel_rfl) (s3) (by simp [*]) ?_)
      refine gW ?_
      refine AOpl.callG rfl rfl (by simp [*]) (by kernel_rfl) ((rp_list1 hT hE hEi e σ2 hmm b8 b nx4 (by omega) _ _ (by simp [upd, q4]) (by simp [upd])).mono ?_)
      rintro _ H5 nx5 ⟨rfl, rfl, hn5⟩
      dsimp only
      refine gW ?_
      exact ⟨by ((repeat (first | exact Keeps.base _ _ _ _ | (with_reducible exact Keeps.refl _ _ _) | (refine Keeps.put rfl ?_) | (refine Keeps.over' rfl rfl ?_)))), (n, .mk 9 0 [] nm (qList ts E [e] σ2).1, (qList ts E [e] σ2).2), by simp only; omega, by simp [upd, *], by simp [upd, *], by simp [upd, *], by simp only; omega, b10, .inr (by simp only; omega), hR⟩
    | false =>
      simp only [hz2] at s3
      have hd : qDot ts E e nm σ2 = (.mk 8 0 [] nm [e], σ2) := by unfold qDot; rw [if_neg (by rw [hz2]; simp)]
      rw [hd] at hR b9 b10
      simp only at hR b9 b10
      refine gW ?_
      (refine AOpl.callB rfl (by first | rfl | (simp [*]; done)) (by simp [*]) (by kernel_rfl) (s1) (by simp [*]) ?_)
      refine gW ?_
      (refine AOpl.callB rfl (by first | rfl | (simp [*]; done)) (by simp [*]) (by kernel_rfl) (s2) (by simp [*]) ?_)
      refine gW ?_
      (refine AOpl.callB rfl (by first | rfl | (simp [*]; done)) (by simp [*]) (by kernel_rfl) (s3) (by simp [*]) ?_)
      refine AOpl.nil ?_
      simp only [Then]
      refine AWp.condF (by simp [rd, putE, over]) ?_
      refine AWp.reg rfl ?_
      iterate 3 (first | (first | (apply AOpl.step; rfl) | apply ASl.step); focus simp [*, -Option.some.injEq]; rfl | (first | (apply AOpl.stepG; rfl) | apply ASl.stepG); (focus simp [*]; done); focus simp [*, -Option.some.injEq]; rfl | (first | (apply AOpl.pass; rfl) | apply ASl.pass); (focus simp [*]; done))
      refine AOpl.frzL cvE_len 21 (l := [e]) rfl (.inr ⟨nx4, rfl, by simp [upd], by omega⟩) ?_
      refine gW ?_
      exact ⟨by ((repeat (first | exact Keeps.base _ _ _ _ | (with_reducible exact Keeps.refl _ _ _) | (refine Keeps.put rfl ?_) | (refine Keeps.over' rfl rfl ?_)))), (n, .mk 8 0 [] nm [e], σ2), by simp only; omega, by simp [upd, *], by simp [upd, *], by simp [upd, *], by simp only; omega, b10, .inr (by simp only; omega), hR⟩
set_option maxRecDepth 10000 in
set_option maxHeartbeats 16000000 in
theorem rp_prod (σ : RS) (hm : m ≤ σ.i) (hi : σ.i < ts.length) : RC ts 92 [] (fun e => .agg (cvE e)) (qProd ts E) σ := by
  intro b
  refine B1.ofBodyW paG_pu rfl (puP _ _) (puP _ _) (by simp only [puV, puE]) Tryz.func92 rfl rfl fun nx hlt q => ?_
  have hlen := hT.wf.len
  have h0 := rp_post hT hE hEi σ hm hi b
  obtain ⟨b1, b2⟩ := post_in hT hEi hi
  obtain ⟨R, hR⟩ : ∃ R, R = qProd ts E σ := ⟨_, rfl⟩
  rw [← hR]
  unfold qProd at hR
  cases ha : qPost ts E σ with
  | mk e0 σ0 =>
  simp only [ha] at h0 b1 b2 hR
  refine gW ?_
  (refine AOpl.callB rfl (by first | rfl | (simp [*]; done)) (by simp [*]) (by kernel_rfl) (h0) (by simp [*]) ?_)
  refine gW ?_
  refine AWp.loopO (α := Nat × Ex × RS) (fun x e H nx1 => H b = some (.cells [.lst (ts.map cvT), .int .i64 x.2.2.i, .bool x.2.2.bad]) ∧ H (nx + 1) = some (.cells (cvE x.2.1)) ∧ H nx = some (.cells [.int .i64 0, .int .i64 0, .str [], .str [], .nils]) ∧ m ≤ x.2.2.i ∧ x.2.2.i < ts.length ∧ (x.2.2.bad = true ∨ ts.length - x.2.2.i < x.1) ∧ R = qProdLoop ts E x.1 x.2.1 x.2.2) (fun x => x.1) (ts.length + 1, e0, σ0) [] 6 ⟨by simp [upd, q], by simp [upd, q], by simp [upd, q], by simp only; omega, b2, .inr (by simp only; omega), hR⟩ ?_
  clear hR b1 b2 ha h0
  rintro ⟨n, e, σ1⟩ v H4 nx4 hn4 ⟨hH, h3, h2, hi1, hi2, hf, hR⟩
  simp only at hH h3 h2 hi1 hi2 hf hR
  have q4 := far (show b < nx4 by omega)
  have q5 := far (show nx < nx4 by omega)
  have q6 := far (show nx + 1 < nx4 by omega)
  have s1 := rp_skip hT _ km_mul σ1 hi2 b
  cases hz : atB ts σ1 [42] with
  | false =>
    have hR2 : R = (e, σ1) := by
      cases n with
      | zero =>
        rcases hf with hf | hf
        · rw [hR, qProdLoop, rs_bad hf]
        · omega
      | succ n => rw [hR, qProdLoop, if_neg (by rw [hz]; simp)]
    simp only [hz, skipS_false hz] at s1
    clear hR hf hn4
    rw [hR2]
    refine gW ?_
    (refine AOpl.callB rfl (by first | rfl | (simp [*]; done)) (by simp [*]) (by kernel_rfl) (s1) (by simp [*]) ?_)
    refine gW ?_
    (refine ⟨_, (by simp [*]; rfl), ?_⟩; (try simp only [packA]))
    (refine ⟨_, rfl, ?_, by simp [*]⟩; simp only [cvE_eq]; first | exact Wk.same _ | (refine WkL.agg ?_; repeat (first | exact WkL.nil | refine WkL.cons (by first | exact Wk.nil | exact Wk.same _) ?_)))
  | true =>
    obtain ⟨hb3, _⟩ := atB_true hz
    obtain ⟨b5, b6⟩ := at_in hT (σ := σ1) (x := [42]) (by decide) hz hi2
    simp only [hz, skipS_true hz] at s1
    obtain ⟨n, rfl⟩ : ∃ k, n = k + 1 := ⟨n - 1, by rcases hf with hf | hf; rw [hb3] at hf; cases hf; omega⟩
    have hf1 : ts.length - σ1.i < n + 1 := by rcases hf with hf | hf; rw [hb3] at hf; cases hf; exact hf
    have s2 := rp_post hT hE hEi ⟨σ1.i + 1, false⟩ (by simp only; omega) b6 b
    obtain ⟨b7, b8⟩ := post_in hT hEi (σ := ⟨σ1.i + 1, false⟩) b6
    rw [qProdLoop, if_pos hz] at hR
    cases hr : qPost ts E ⟨σ1.i + 1, false⟩ with
    | mk x σ2 =>
    simp only [hr] at s2 b7 b8 hR
    simp only at b5 b6
    have s3 := rp_bin 3 e x
    clear hf hn4
    refine gW ?_
    (refine AOpl.callB rfl (by first | rfl | (simp [*]; done)) (by simp [*]) (by kernel_rfl) (s1) (by simp [*]) ?_)
    repeat (first | (first | (apply AOpl.step; rfl) | apply ASl.step); focus simp [*, -Option.some.injEq]; rfl | (first | (apply AOpl.stepG; rfl) | apply ASl.stepG); (focus simp [*]; done); focus simp [*, -Option.some.injEq]; rfl | (first | (apply AOpl.pass; rfl) | apply ASl.pass); (focus simp [*]; done) | (first | refine AOpl.nil ?_ | refine AWp.skip ?_ | refine AWp.exit ?_ | refine AWp.ret ?_ | refine ASl.nil ?_); try simp only [Then, InBlock, reduceIte, Nat.reduceEqDiff] | refine AWp.seq ?_ | refine AWp.reg rfl ?_ | refine AWp.block ?_ | apply AWp.condT; focus simp [*]; done | apply AWp.condF; focus simp [*]; done)
    refine AWp.regTC b (by kernel_rfl) (by kernel_rfl) rfl rfl ?_
    repeat (first | apply ASlC.step; (focus simp [*, -Option.some.injEq]; rfl); (focus first | exact Blind.pure rfl | exact Blind.eff rfl | (refine Blind.look fun H1 hl1 => ?_; have hk1 := hl1 _ (q.2.1 1 |>.2); simp [hk1, *]; done)) | refine ASlC.nil ?_; try simp only [Then, InBlock, reduceIte, Nat.reduceEqDiff])
    (refine ASlC.callB1 (by first | rfl | (simp [*]; done)) (by simp [*]) (by kernel_rfl) (s2) (by simp [*]) ?_)
    repeat (first | apply ASlC.step; (focus simp [*, -Option.some.injEq]; rfl); (focus first | exact Blind.pure rfl | exact Blind.eff rfl | (refine Blind.look fun H1 hl1 => ?_; have hk1 := hl1 _ (q.2.1 1 |>.2); simp [hk1, *]; done)) | refine ASlC.nil ?_; try simp only [Then, InBlock, reduceIte, Nat.reduceEqDiff])
    (refine ASlC.call1 (by first | rfl | (simp [*]; done)) (by simp [*]) (by kernel_rfl) (s3) ?_)
    repeat (first | apply ASlC.step; (focus simp [*, -Option.some.injEq]; rfl); (focus first | exact Blind.pure rfl | exact Blind.eff rfl | (refine Blind.look fun H1 hl1 => ?_; have hk1 := hl1 _ (q.2.1 1 |>.2); simp [hk1, *]; done)) | refine ASlC.nil ?_; try simp only [Then, InBlock, reduceIte, Nat.reduceEqDiff])
    refine gW ?_
    exact ⟨by ((repeat (first | exact Keeps.base _ _ _ _ | (with_reducible exact Keeps.refl _ _ _) | (refine Keeps.put rfl ?_) | (refine Keeps.over' rfl rfl ?_)))), (n, binE 3 e x, σ2), by simp only; omega, by simp [upd, *], by simp [upd, *], by simp [upd, *], by simp only; omega, b8, .inr (by simp only; omega), hR⟩
set_option maxRecDepth 10000 in
set_option maxHeartbeats 16000000 in
theorem rp_sum (σ : RS) (hm : m ≤ σ.i) (hi : σ.i < ts.length) : RC ts 79 [] (fun e => .agg (cvE e)) (qSum ts E) σ := by
  intro b
  refine B1.ofBodyW paG_pu rfl (puP _ _) (puP _ _) (by simp only [puV, puE]) Tryz.func79 rfl rfl fun nx hlt q => ?_
  have hlen := hT.wf.len
  have h0 := rp_prod hT hE hEi σ hm hi b
  obtain ⟨b1, b2⟩ := prod_in hT hEi hi
  obtain ⟨R, hR⟩ : ∃ R, R = qSum ts E σ := ⟨_, rfl⟩
  rw [← hR]
  unfold qSum at hR
  cases ha : qProd ts E σ with
  | mk e0 σ0 =>
  simp only [ha] at h0 b1 b2 hR
  refine gW ?_
  (refine AOpl.callB rfl (by first | rfl | (simp [*]; done)) (by simp [*]) (by kernel_rfl) (h0) (by simp [*]) ?_)
  refine gW ?_
  refine AWp.loopO (α := Nat × Ex × RS) (fun x e H nx1 => H b = some (.cells [.lst (ts.map cvT), .int .i64 x.2.2.i, .bool x.2.2.bad]) ∧ H (nx + 1) = some (.cells (cvE x.2.1)) ∧ H nx = some (.cells [.int .i64 0, .int .i64 0, .str [], .str [], .nils]) ∧ m ≤ x.2.2.i ∧ x.2.2.i < ts.length ∧ (x.2.2.bad = true ∨ ts.length - x.2.2.i < x.1) ∧ R = qSumLoop ts E x.1 x.2.1 x.2.2) (fun x => x.1) (ts.length + 1, e0, σ0) [4] 7 ⟨by simp [upd, q], by simp [upd, q], by simp [upd, q], by simp only; omega, b2, .inr (by simp only; omega), hR⟩ ?_
  clear hR b1 b2 ha h0
  rintro ⟨n, e, σ1⟩ v H4 nx4 hn4 ⟨hH, h3, h2, hi1, hi2, hf, hR⟩
  simp only at hH h3 h2 hi1 hi2 hf hR
  have q4 := far (show b < nx4 by omega)
  have q5 := far (show nx < nx4 by omega)
  have q6 := far (show nx + 1 < nx4 by omega)
  have s1 := rp_at hT _ km_plus σ1 hi2 b
  have t1 := rp_at hT _ km_minus σ1 hi2 b
  have hw1 : IntKind.i64.wrap ((σ1.i : Int) + 1) = ((σ1.i + 1 : Nat) : Int) := wrap_up hi2 (by simp only [maxLen]; omega)
  have go : ∀ x : Bytes, (x = [43] ∨ x = [45]) → atB ts σ1 x = true → σ1.bad = false ∧ σ1.i + 1 < ts.length ∧ ∃ k, n = k + 1 ∧ ts.length - σ1.i < k + 1 := by
    intro x hx hz
    obtain ⟨hb3, _⟩ := atB_true hz
    refine ⟨hb3, (at_in hT (σ := σ1) (x := x) (by rcases hx with rfl | rfl <;> decide) hz hi2).2, ?_⟩
    rcases hf with hf | hf
    · rw [hb3] at hf; cases hf
    · exact ⟨n - 1, by omega, by omega⟩
  cases hz : atB ts σ1 [43] with
  | true =>
    obtain ⟨hb3, b6, n, rfl, hf1⟩ := go _ (.inl rfl) hz
    have hz2 : atB ts σ1 [45] = false := by
      have := (atB_true hz).2
      unfold isT at this
      rw [atB_good hb3]; unfold isT
      rw [eq_of_beq this]; rfl
    simp only [hz] at s1
    simp only [hz2] at t1
    have s2 := rp_prod hT hE hEi ⟨σ1.i + 1, false⟩ (by simp only; omega) b6 b
    obtain ⟨b7, b8⟩ := prod_in hT hEi (σ := ⟨σ1.i + 1, false⟩) b6
    rw [qSumLoop, if_pos hz] at hR
    cases hr : qProd ts E ⟨σ1.i + 1, false⟩ with
    | mk x σ2 =>
    simp only [hr] at s2 b7 b8 hR
    have s3 := rp_bin 1 e x
    clear hf hn4 go
    refine gW ?_
    (refine AOpl.callB rfl (by first | rfl | (simp [*]; done)) (by simp [*]) (by kernel_rfl) (s1) (by simp [*]) ?_)
    refine gW ?_
    (refine AOpl.callB rfl (by first | rfl | (simp [*]; done)) (by simp [*]) (by kernel_rfl) (t1) (by simp [*]) ?_)
    repeat (first | (first | (apply AOpl.step; rfl) | apply ASl.step); focus simp [*, -Option.some.injEq]; rfl | (first | (apply AOpl.stepG; rfl) | apply ASl.stepG); (focus simp [*]; done); focus simp [*, -Option.some.injEq]; rfl | (first | (apply AOpl.pass; rfl) | apply ASl.pass); (focus simp [*]; done) | (first | refine AOpl.nil ?_ | refine AWp.skip ?_ | refine AWp.exit ?_ | refine AWp.ret ?_ | refine ASl.nil ?_); try simp only [Then, InBlock, reduceIte, Nat.reduceEqDiff] | refine AWp.seq ?_ | refine AWp.reg rfl ?_ | refine AWp.block ?_ | apply AWp.condT; focus simp [*]; done | apply AWp.condF; focus simp [*]; done)
    refine AWp.regTC b (by kernel_rfl) (by kernel_rfl) rfl rfl ?_
    repeat (first | apply ASlC.step; (focus simp [*, -Option.some.injEq]; rfl); (focus first | exact Blind.pure rfl | exact Blind.eff rfl | (refine Blind.look fun H1 hl1 => ?_; have hk1 := hl1 _ (q.2.1 1 |>.2); simp [hk1, *]; done)) | refine ASlC.nil ?_; try simp only [Then, InBlock, reduceIte, Nat.reduceEqDiff])
    (refine ASlC.callB1 (by first | rfl | (simp [*]; done)) (by simp [*]) (by kernel_rfl) (s2) (by simp [*]) ?_)
    repeat (first | apply ASlC.step; (focus simp [*, -Option.some.injEq]; rfl); (focus first | exact Blind.pure rfl | exact Blind.eff rfl | (refine Blind.look fun H1 hl1 => ?_; have hk1 := hl1 _ (q.2.1 1 |>.2); simp [hk1, *]; done)) | refine ASlC.nil ?_; try simp only [Then, InBlock, reduceIte, Nat.reduceEqDiff])
    (refine ASlC.call1 (by first | rfl | (simp [*]; done)) (by simp [*]) (by kernel_rfl) (s3) ?_)
    repeat (first | apply ASlC.step; (focus simp [*, -Option.some.injEq]; rfl); (focus first | exact Blind.pure rfl | exact Blind.eff rfl | (refine Blind.look fun H1 hl1 => ?_; have hk1 := hl1 _ (q.2.1 1 |>.2); simp [hk1, *]; done)) | refine ASlC.nil ?_; try simp only [Then, InBlock, reduceIte, Nat.reduceEqDiff])
    refine gW ?_
    exact ⟨by ((repeat (first | exact Keeps.base _ _ _ _ | (with_reducible exact Keeps.refl _ _ _) | (refine Keeps.put rfl ?_) | (refine Keeps.over' rfl rfl ?_)))), (n, binE 1 e x, σ2), by simp only; omega, by simp [upd, *], by simp [upd, *], by simp [upd, *], by simp only; omega, b8, .inr (by simp only; omega), hR⟩
  | false =>
  simp only [hz] at s1
  cases hz2 : atB ts σ1 [45] with
  | true =>
    obtain ⟨hb3, b6, n, rfl, hf1⟩ := go _ (.inr rfl) hz2
    simp only [hz2] at t1
    have s2 := rp_prod hT hE hEi ⟨σ1.i + 1, false⟩ (by simp only; omega) b6 b
    obtain ⟨b7, b8⟩ := prod_in hT hEi (σ := ⟨σ1.i + 1, false⟩) b6
    rw [qSumLoop, if_neg (by rw [hz]; simp), if_pos hz2] at hR
    cases hr : qProd ts E ⟨σ1.i + 1, false⟩ with
    | mk x σ2 =>
    simp only [hr] at s2 b7 b8 hR
    have s3 := rp_bin 2 e x
    clear hf hn4 go
    refine gW ?_
    (refine AOpl.callB rfl (by first | rfl | (simp [*]; done)) (by simp [*]) (by kernel_rfl) (s1) (by simp [*]) ?_)
    refine gW ?_
    (refine AOpl.callB rfl (by first | rfl | (simp [*]; done)) (by simp [*]) (by kernel_rfl) (t1) (by simp [*]) ?_)
    refine gW ?_
    (refine AOpl.callB rfl (by first | rfl | (simp [*]; done)) (by simp [*]) (by kernel_rfl) (t1) (by simp [*]) ?_)
    repeat (first | (first | (apply AOpl.step; rfl) | apply ASl.step); focus simp [*, -Option.some.injEq]; rfl | (first | (apply AOpl.stepG; rfl) | apply ASl.stepG); (focus simp [*]; done); focus simp [*, -Option.some.injEq]; rfl | (first | (apply AOpl.pass; rfl) | apply ASl.pass); (focus simp [*]; done) | (first | refine AOpl.nil ?_ | refine AWp.skip ?_ | refine AWp.exit ?_ | refine AWp.ret ?_ | refine ASl.nil ?_); try simp only [Then, InBlock, reduceIte, Nat.reduceEqDiff] | refine AWp.seq ?_ | refine AWp.reg rfl ?_ | refine AWp.block ?_ | apply AWp.condT; focus simp [*]; done | apply AWp.condF; focus simp [*]; done)
    refine AWp.regTC b (by kernel_rfl) (by kernel_rfl) rfl rfl ?_
    repeat (first | apply ASlC.step; (focus simp [*, -Option.some.injEq]; rfl); (focus first | exact Blind.pure rfl | exact Blind.eff rfl | (refine Blind.look fun H1 hl1 => ?_; have hk1 := hl1 _ (q.2.1 1 |>.2); simp [hk1, *]; done)) | refine ASlC.nil ?_; try simp only [Then, InBlock, reduceIte, Nat.reduceEqDiff])
    (refine ASlC.callB1 (by first | rfl | (simp [*]; done)) (by simp [*]) (by kernel_rfl) (s2) (by simp [*]) ?_)
    repeat (first | apply ASlC.step; (focus simp [*, -Option.some.injEq]; rfl); (focus first | exact Blind.pure rfl | exact Blind.eff rfl | (refine Blind.look fun H1 hl1 => ?_; have hk1 := hl1 _ (q.2.1 1 |>.2); simp [hk1, *]; done)) | refine ASlC.nil ?_; try simp only [Then, InBlock, reduceIte, Nat.reduceEqDiff])
    (refine ASlC.call1 (by first | rfl | (simp [*]; done)) (by simp [*]) (by kernel_rfl) (s3) ?_)
    repeat (first | apply ASlC.step; (focus simp [*, -Option.some.injEq]; rfl); (focus first | exact Blind.pure rfl | exact Blind.eff rfl | (refine Blind.look fun H1 hl1 => ?_; have hk1 := hl1 _ (q.2.1 1 |>.2); simp [hk1, *]; done)) | refine ASlC.nil ?_; try simp only [Then, InBlock, reduceIte, Nat.reduceEqDiff])
    refine gW ?_
    exact ⟨by ((repeat (first | exact Keeps.base _ _ _ _ | (with_reducible exact Keeps.refl _ _ _) | (refine Keeps.put rfl ?_) | (refine Keeps.over' rfl rfl ?_)))), (n, binE 2 e x, σ2), by simp only; omega, by simp [upd, *], by simp [upd, *], by simp [upd, *], by simp only; omega, b8, .inr (by simp only; omega), hR⟩
  | false =>
    have hR2 : R = (e, σ1) := by
      cases n with
      | zero =>
        rcases hf with hf | hf
        · rw [hR, qSumLoop, rs_bad hf]
        · omega
      | succ n => rw [hR, qSumLoop, if_neg (by rw [hz]; simp), if_neg (by rw [hz2]; simp)]
    simp only [hz2] at t1
    clear hR hf hn4 go
    rw [hR2]
    refine gW ?_
    (refine AOpl.callB rfl (by first | rfl | (simp [*]; done)) (by simp [*]) (by kernel_rfl) (s1) (by simp [*]) ?_)
    refine gW ?_
    (refine AOpl.callB rfl (by first | rfl | (simp [*]; done)) (by simp [*]) (by kernel_rfl) (t1) (by simp [*]) ?_)
    refine gW ?_
    (refine ⟨_, (by simp [*]; rfl), ?_⟩; (try simp only [packA]))
    (refine ⟨_, rfl, ?_, by simp [*]⟩; simp only [cvE_eq]; first | exact Wk.same _ | (refine WkL.agg ?_; repeat (first | exact WkL.nil | refine WkL.cons (by first | exact Wk.nil | exact Wk.same _) ?_)))
set_option maxRecDepth 10000 in
set_option maxHeartbeats 16000000 in
theorem rp_exprW (σ : RS) (hm : m ≤ σ.i) (hi : σ.i < ts.length) : RC ts 43 [] (fun e => .agg (cvE e)) (qExprW ts E) σ := by
  intro b
  refine B1.ofBodyW paG_pu rfl (puP _ _) (puP _ _) (by simp only [puV, puE]) Tryz.func43 rfl rfl fun nx hlt q => ?_
  have hlen := hT.wf.len
  have h0 := rp_sum hT hE hEi σ hm hi b
  obtain ⟨b1, b2⟩ := sum_in hT hEi hi
  unfold qExprW
  cases ha : qSum ts E σ with
  | mk e σ1 =>
  simp only [ha] at h0 b1 b2
  have s1 := rp_skip hT _ km_less σ1 b2 b
  cases hz : atB ts σ1 [60] with
  | true =>
    have b6 : σ1.i + 1 < ts.length := (at_in hT (σ := σ1) (x := [60]) (by decide) hz b2).2
    have s2 := rp_sum hT hE hEi ⟨σ1.i + 1, false⟩ (by simp only; omega) b6 b
    simp only [hz, skipS_true hz] at s1
    simp only [qExpr1, hz, if_true]
    have s3 := rp_bin 4 e (qSum ts E ⟨σ1.i + 1, false⟩).1
    refine gW ?_
    (refine AOpl.callB rfl (by first | rfl | (simp [*]; done)) (by simp [*]) (by kernel_rfl) (h0) (by simp [*]) ?_)
    refine gW ?_
    (refine AOpl.callB rfl (by first | rfl | (simp [*]; done)) (by simp [*]) (by kernel_rfl) (s1) (by simp [*]) ?_)
    repeat (first | (first | (apply AOpl.step; rfl) | apply ASl.step); focus simp [*, -Option.some.injEq]; rfl | (first | (apply AOpl.stepG; rfl) | apply ASl.stepG); (focus simp [*]; done); focus simp [*, -Option.some.injEq]; rfl | (first | (apply AOpl.pass; rfl) | apply ASl.pass); (focus simp [*]; done) | (first | refine AOpl.nil ?_ | refine AWp.skip ?_ | refine AWp.exit ?_ | refine AWp.ret ?_ | refine ASl.nil ?_); try simp only [Then, InBlock, reduceIte, Nat.reduceEqDiff] | refine AWp.seq ?_ | refine AWp.reg rfl ?_ | refine AWp.block ?_ | apply AWp.condT; focus simp [*]; done | apply AWp.condF; focus simp [*]; done)
    refine AWp.regTC b (by kernel_rfl) (by kernel_rfl) rfl rfl ?_
    repeat (first | apply ASlC.step; (focus simp [*, -Option.some.injEq]; rfl); (focus first | exact Blind.pure rfl | exact Blind.eff rfl | (refine Blind.look fun H1 hl1 => ?_; have hk1 := hl1 _ (q.2.1 1 |>.2); simp [hk1, *]; done)) | refine ASlC.nil ?_; try simp only [Then, InBlock, reduceIte, Nat.reduceEqDiff])
    (refine ASlC.callB1 (by first | rfl | (simp [*]; done)) (by simp [*]) (by kernel_rfl) (s2) (by simp [*]) ?_)
    repeat (first | apply ASlC.step; (focus simp [*, -Option.some.injEq]; rfl); (focus first | exact Blind.pure rfl | exact Blind.eff rfl | (refine Blind.look fun H1 hl1 => ?_; have hk1 := hl1 _ (q.2.1 1 |>.2); simp [hk1, *]; done)) | refine ASlC.nil ?_; try simp only [Then, InBlock, reduceIte, Nat.reduceEqDiff])
    (refine ASlC.call1 (by first | rfl | (simp [*]; done)) (by simp [*]) (by kernel_rfl) (s3) ?_)
    repeat (first | apply ASlC.step; (focus simp [*, -Option.some.injEq]; rfl); (focus first | exact Blind.pure rfl | exact Blind.eff rfl | (refine Blind.look fun H1 hl1 => ?_; have hk1 := hl1 _ (q.2.1 1 |>.2); simp [hk1, *]; done)) | refine ASlC.nil ?_; try simp only [Then, InBlock, reduceIte, Nat.reduceEqDiff])
    refine gW ?_
    (refine ⟨_, (by simp [*]; rfl), ?_⟩; (try simp only [packA]))
    (refine ⟨_, rfl, ?_, by simp [*]⟩; simp only [cvE_eq]; first | exact Wk.same _ | (refine WkL.agg ?_; repeat (first | exact WkL.nil | refine WkL.cons (by first | exact Wk.nil | exact Wk.same _) ?_)))
  | false =>
    have s4 := rp_skip hT _ km_eq σ1 b2 b
    simp only [hz, skipS_false hz] at s1
    cases hz2 : atB ts σ1 [61, 61] with
    | true =>
      have b6 : σ1.i + 1 < ts.length := (at_in hT (σ := σ1) (x := [61, 61]) (by decide) hz2 b2).2
      have s2 := rp_sum hT hE hEi ⟨σ1.i + 1, false⟩ (by simp only; omega) b6 b
      simp only [hz2, skipS_true hz2] at s4
      simp only [qExpr1, hz, hz2, if_true, Bool.false_eq_true, if_false]
      have s3 := rp_bin 5 e (qSum ts E ⟨σ1.i + 1, false⟩).1
      refine gW ?_
      (refine AOpl.callB rfl (by first | rfl | (simp [*]; done)) (by simp [*]) (by kernel_rfl) (h0) (by simp [*]) ?_)
      refine gW ?_
      (refine AOpl.callB rfl (by first | rfl | (simp [*]; done)) (by simp [*]) (by kernel_rfl) (s1) (by simp [*]) ?_)
      refine gW ?_
      (refine AOpl.callB rfl (by first | rfl | (simp [*]; done)) (by simp [*]) (by kernel_rfl) (s4) (by simp [*]) ?_)
      repeat (first | (first | (apply AOpl.step; rfl) | apply ASl.step); focus simp [*, -Option.some.injEq]; rfl | (first | (apply AOpl.stepG; rfl) | apply ASl.stepG); (focus simp [*]; done); focus simp [*, -Option.some.injEq]; rfl | (first | (apply AOpl.pass; rfl) | apply ASl.pass); (focus simp [*]; done) | (first | refine AOpl.nil ?_ | refine AWp.skip ?_ | refine AWp.exit ?_ | refine AWp.ret ?_ | refine ASl.nil ?_); try simp only [Then, InBlock, reduceIte, Nat.reduceEqDiff] | refine AWp.seq ?_ | refine AWp.reg rfl ?_ | refine AWp.block ?_ | apply AWp.condT; focus simp [*]; done | apply AWp.condF; focus simp [*]; done)
      refine AWp.regTC b (by kernel_rfl) (by kernel_rfl) rfl rfl ?_
      repeat (first | apply ASlC.step; (focus simp [*, -Option.some.injEq]; rfl); (focus first | exact Blind.pure rfl | exact Blind.eff rfl | (refine Blind.look fun H1 hl1 => ?_; have hk1 := hl1 _ (q.2.1 1 |>.2); simp [hk1, *]; done)) | refine ASlC.nil ?_; try simp only [Then, InBlock, reduceIte, Nat.reduceEqDiff])
      (refine ASlC.callB1 (by first | rfl | (simp [*]; done)) (by simp [*]) (by kernel_rfl) (s2) (by simp [*]) ?_)
      repeat (first | apply ASlC.step; (focus simp [*, -Option.some.injEq]; rfl); (focus first | exact Blind.pure rfl | exact Blind.eff rfl | (refine Blind.look fun H1 hl1 => ?_; have hk1 := hl1 _ (q.2.1 1 |>.2); simp [hk1, *]; done)) | refine ASlC.nil ?_; try simp only [Then, InBlock, reduceIte, Nat.reduceEqDiff])
      (refine ASlC.call1 (by first | rfl | (simp [*]; done)) (by simp [*]) (by kernel_rfl) (s3) ?_)
      repeat (first | apply ASlC.step; (focus simp [*, -Option.some.injEq]; rfl); (focus first | exact Blind.pure rfl | exact Blind.eff rfl | (refine Blind.look fun H1 hl1 => ?_; have hk1 := hl1 _ (q.2.1 1 |>.2); simp [hk1, *]; done)) | refine ASlC.nil ?_; try simp only [Then, InBlock, reduceIte, Nat.reduceEqDiff])
      refine gW ?_
      (refine ⟨_, (by simp [*]; rfl), ?_⟩; (try simp only [packA]))
      (refine ⟨_, rfl, ?_, by simp [*]⟩; simp only [cvE_eq]; first | exact Wk.same _ | (refine WkL.agg ?_; repeat (first | exact WkL.nil | refine WkL.cons (by first | exact Wk.nil | exact Wk.same _) ?_)))
    | false =>
      simp only [hz2, skipS_false hz2] at s4
      simp only [qExpr1, hz, hz2, Bool.false_eq_true, if_false]
      refine gW ?_
      (refine AOpl.callB rfl (by first | rfl | (simp [*]; done)) (by simp [*]) (by kernel_rfl) (h0) (by simp [*]) ?_)
      refine gW ?_
      (refine AOpl.callB rfl (by first | rfl | (simp [*]; done)) (by simp [*]) (by kernel_rfl) (s1) (by simp [*]) ?_)
      refine gW ?_
      (refine AOpl.callB rfl (by first | rfl | (simp [*]; done)) (by simp [*]) (by kernel_rfl) (s4) (by simp [*]) ?_)
      refine gW ?_
      (refine ⟨_, (by simp [*]; rfl), ?_⟩; (try simp only [packA]))
      (refine ⟨_, rfl, ?_, by simp [*]⟩; simp only [cvE_eq]; first | exact Wk.same _ | (refine WkL.agg ?_; repeat (first | exact WkL.nil | refine WkL.cons (by first | exact Wk.nil | exact Wk.same _) ?_)))
end
/-- Expressions: the reference does what its plain function says. -/
theorem rp_expr {ts : List Tok} (hT : TWR ts) : ∀ f σ, ts.length - σ.i < f → σ.i < ts.length → RC ts 43 [] (fun e => .agg (cvE e)) (qExpr ts f) σ := by
  intro f
  induction f with
  | zero => intro σ h; omega
  | succ f ih =>
    intro σ hf hi
    exact rp_exprW hT (E := qExpr ts f) (m := σ.i) (fun σ' h1 h2 => ih σ' (by omega) h2) (expr_in hT f) σ (Nat.le_refl _) hi
theorem rp_E {ts : List Tok} (hT : TWR ts) (σ : RS) (hi : σ.i < ts.length) : RC ts 43 [] (fun e => .agg (cvE e)) (qE ts) σ := rp_expr hT _ σ (by omega) hi
theorem rp_P {ts : List Tok} (hT : TWR ts) (σ : RS) (hi : σ.i < ts.length) : RC ts 105 [] (fun e => .agg (cvE e)) (qP ts) σ :=
  rp_post hT (m := σ.i) (fun σ' h1 h2 => rp_expr hT _ σ' (by omega) h2) (expr_in hT _) σ (Nat.le_refl _) hi
end Go.Proofs.YthjonkommphkkaaGreatDoor
