/-
  The reference's Program walked.
-/
import Derived.Test.YthjonkommphkkaaGreatDoorJpBn
import Derived.Test.YthjonkommphkkaaGreatDoorJpBe
import Derived.Test.YthjonkommphkkaaGreatDoorJpAn
import Derived.Test.YthjonkommphkkaaGreatDoorParPost
import Derived.Deep.RegionLaw
import Derived.Deep.AppendLies
import Derived.Laws.OwnMore
import Derived.Test.YthjonkommphkkaaGreatDoorParItems
import Derived.RegionTactic
import Derived.BigRegion
set_option linter.unusedSectionVars false
set_option linter.unusedSimpArgs false
set_option linter.unnecessarySimpa false
set_option linter.unusedVariables false
set_option linter.unusedSimpArgs false
set_option linter.unusedVariables false
namespace Go.Proofs.YthjonkommphkkaaGreatDoor
open Lx Ax
theorem Ax.ACall.leq {P : Program} {G : Nat → CV} {f : FuncId} {args : List CV} {H : Heap} {nx : Nat} {Q : Res → Heap → Nat → Prop} (h : ACall P G f args H nx Q) : ACall P G f args H nx fun r H' nx' => nx ≤ nx' ∧ Q r H' nx' :=
  fun M w vs g r a => (h M w vs g r a).mono fun _ _ ⟨M', x, H', n', a1, a2, a3, a4⟩ => ⟨M', x, H', n', a1, a2, a3, a3.nxle, a4⟩
theorem flat_toks : ∀ ts : List Tok, Flat 4 (fun t cs => cs = tokCells t) ts (toksCells ts)
  | [] => ⟨rfl, fun i h => by simp at h⟩
  | t :: ts => by
    obtain ⟨h1, h2⟩ := flat_toks ts
    have hl : (tokCells t).length = 4 := rfl
    have e : toksCells (t :: ts) = tokCells t ++ toksCells ts := rfl
    refine ⟨by rw [e, List.length_append, h1, hl, List.length_cons, Nat.add_mul]; omega, fun i hi => ?_⟩
    rw [e]
    cases i with
    | zero => simp [List.take_append_of_le_length, hl]
    | succ i =>
      have : (i + 1) * 4 = (tokCells t).length + i * 4 := by rw [hl]; omega
      rw [this, ← List.drop_drop, List.drop_left]
      exact h2 i (by simpa using hi)
theorem rv_tup {M : Mp} {cs : List CV} {vs : List Value} (h : RVs M cs vs) : RV M (.tup cs) (.tuple vs.toArray) := .tup _ _ h.1 h.2
def tokRes (l : Bytes) : Res := match tokensOf l with
  | .error (p, er) => .ret (.tup [.lst [], .int .i64 p, .int .i64 er])
  | .ok ts => .ret (.tup [.lst (ts.map cvT), .int .i64 0, .int .i64 0])
theorem new_at {M : Mp} {w w' : World} : ∀ g o, w.heap.size ≤ g → w'.heap[g]? = some o → (M.new w w').fz g = some o := fun g o h1 h2 => by
  simp only [Mp.new, show ¬ g < w.heap.size by omega, if_false]; exact h2
theorem tok_call (l : Bytes) (hl : l.length ≤ maxLen) : FCall Tryz.prog paG 20 [.str l] fun r => r = tokRes l := by
  refine FCall.ofOld fun M w vs hg hz hv => ?_
  obtain ⟨v, vs', rfl, h1, h2⟩ := hv.cons_inv
  have := h2.nil_inv; subst this
  cases h1 with
  | str _ s hs =>
  refine (ref_Tokens s w (by rw [← hs] at hl; simpa using hl)).mono ?_
  rintro e w' ⟨hb, h⟩
  rw [hs] at h
  refine ⟨hb, tokRes l, rfl, ?_⟩
  unfold tokRes
  cases ht : tokensOf l with
  | error x =>
    obtain ⟨p, er⟩ := x
    rw [ht] at h
    subst h
    exact rv_tup (vs := [.slice none 0 0, .int .i64 p, .int .i64 er]) (.cons (.lst0 _ _) (.cons (.int _ _) (.one (.int _ _))))
  | ok ts =>
    rw [ht] at h
    obtain ⟨v, rfl, ho⟩ := h
    have hl := IsList.of_own (A := (w.heap.size ≤ ·)) ho (flat_toks ts) (fun _ h => h)
    refine rv_tup (vs := [v, .int .i64 0, .int .i64 0]) (.cons (rv_list (by decide) new_at hl cvT_len fun t _ cs h => ?_) (.cons (.int _ _) (.one (.int _ _))))
    subst h
    exact .cons (.int _ _) (.cons (.int _ _) (.cons (rv_strOf _) (.one (.int _ _))))
end Go.Proofs.YthjonkommphkkaaGreatDoor
namespace Go.Proofs.YthjonkommphkkaaGreatDoor
open Lx Ax Go.RowKit
attribute [local simp] stepS Ax.stepT Dl.on qstep astep estep rd putE over argE ofV ofS loadA pickCells isAggD faddA fieldA partA iaddA idxA bnd binA intA strA unA convA bltA lenA mapOf lookA findK keyD scalD storeA mupA srcA srcD upd drp Dl.hp Dl.nx CV.cs CV.one buildA placesA fillA zrep tasA ifaceD eqA eqFs eqIs range2 copyA nbeq nble nblt decEq beqI bneI beqS bneS isED Int.ofNat_inj List.getElem?_map List.getElem?_eq_getElem Option.map_some ti_int ti_i64 ti_str ti_bool ti_Pp ti_Toks ti_Tok ti_Cl ti_Cls ti_So gd gdB callA resA op1
attribute [local simp] psC cvT one1 drR drpC drp nu1 nu2 nu3 nu4 nu5 nu6 nu7 nu8 nu9 nu10 nu11 nu12 nu13
def opnTs (l : Bytes) : List Tok := match tokensOf l with
  | .error _ => []
  | .ok ts => ts
def opnE (l : Bytes) : Nat × Nat := match tokensOf l with
  | .error x => x
  | .ok _ => (0, 0)
theorem tokRes_eq (l : Bytes) : tokRes l = .ret (.tup [.lst ((opnTs l).map cvT), .int .i64 (opnE l).1, .int .i64 (opnE l).2]) := by
  unfold tokRes opnTs opnE
  cases tokensOf l with
  | error x => obtain ⟨p, er⟩ := x; rfl
  | ok ts => rfl
set_option maxRecDepth 10000 in
set_option maxHeartbeats 4000000 in
theorem rt_open (l : Bytes) (hl : l.length ≤ maxLen) (H : Heap) (nx : Nat) : ACall Tryz.prog paG 26 [.str l] H nx fun r H' nx' => ∃ b, nx ≤ b ∧ b < nx' ∧ r = .ret (.tup [.ptr b 0, .int .i64 (opnE l).1, .int .i64 (opnE l).2]) ∧ H' = upd H b (.cells (psC (opnTs l) ⟨0, false⟩)) := by
  refine ACall.of_body Tryz.func26 rfl ?_
  have hc := tok_call l hl
  rw [tokRes_eq] at hc
  refine gW ?_
  refine AOpl.callG rfl rfl (by simp [callA]) (by kernel_rfl) ((ACall.leq (hc H nx)).mono ?_)
  rintro _ H1 nx1 ⟨hle, hH1, hr1⟩
  subst hH1; subst hr1
  dsimp only
  refine gW ?_
  (refine ⟨_, (by simp [*]; rfl), ?_⟩; (try simp only [packA]))
  exact ⟨nx1, hle, Nat.lt_succ_self _, rfl, by simp⟩
section
variable {ts : List Tok} (hT : TWR ts)
include hT
set_option maxRecDepth 10000 in
set_option maxHeartbeats 4000000 in
theorem rt_close (σ : RS) (hi : σ.i < ts.length) : RC ts 28 [] (fun x : Nat × Nat => .tup [.int .i64 x.1, .int .i64 x.2]) (fun σ => (if σ.bad = true ∨ (tk ts σ.i).kind ≠ 5 then ((tk ts σ.i).pos, 2) else (0, 0), σ)) σ := by
  intro b
  refine B1.ofBody paG_pu rfl (puP _ _) (puP _ _) rfl Tryz.func28 rfl rfl fun nx hlt q => ?_
  have ht := tk_at hi
  have he := tk_get _ _ hi
  dsimp only
  cases hb : σ.bad with
  | true =>
    rw [if_pos (.inl rfl), he]
    refine gW ?_
    (refine ⟨_, (by simp [*]; rfl), ?_⟩; (try simp only [packA]))
    simp [upd, q, hb]
  | false =>
    by_cases hk : ts[σ.i].kind = 5
    · rw [if_neg (by rw [he, hk]; simp)]
      refine gW ?_
      (refine ⟨_, (by simp [*]; rfl), ?_⟩; (try simp only [packA]))
      simp [upd, q, hb]
    · have hk' : ¬ (ts[σ.i].kind : Int) = 5 := by omega
      rw [if_pos (.inr (by rw [he]; exact hk)), he]
      refine gW ?_
      (refine ⟨_, (by simp [*]; rfl), ?_⟩; (try simp only [packA]))
      simp [upd, q, hb]
end
theorem cvC_eq (c : Cl) : cvC c = [.str c.name, .str c.super, .lst (c.fields.map cvF), .lst (c.methods.map cvM)] := rfl
def resP : Except (Nat × Nat) (List Cl) → CV
  | .error x => .tup [.agg [.lst []], .int .i64 x.1, .int .i64 x.2]
  | .ok c => .tup [.agg [.lst (c.map cvC)], .int .i64 0, .int .i64 0]
attribute [local simp] on1 on2 on3 on4 on5 on6 on7 cvC_eq
theorem sepCl {H : Heap} {nx b : Nat} {c : CV} {acc : List Cl} {ts : List Tok} {z1 z2 : CV} (ho : OwnL cvC 4 H nx c acc) (hb : H b = some (.cells [.lst (ts.map cvT), z1, z2])) : ∀ o m j, c ≠ .sl b o m j := by
  rintro o m j rfl
  rcases ho with ⟨_, h⟩ | ⟨b2, h1, h2, _⟩
  · cases h
  · cases h1
    rw [hb] at h2
    cases acc with
    | nil => simp at h2
    | cons a l => rw [List.flatMap_cons, cvC_eq] at h2; simp at h2
set_option maxRecDepth 10000 in
set_option maxHeartbeats 16000000 in
theorem rt_program (l : Bytes) (hl : l.length ≤ maxLen) : FCall Tryz.prog paG 19 [.str l] fun r => r = .ret (resP (programR l)) := by
  refine FCall.of fun nx => ACall.wkt (ACall.of_body Tryz.func19 rfl ?_)
  have hop := rt_open l hl
  obtain ⟨R, hR⟩ : ∃ R, R = programR l := ⟨_, rfl⟩
  rw [← hR]
  refine gW ?_
  refine AOpl.callG rfl rfl (by simp [callA]) (by kernel_rfl) ((hop _ _).mono ?_)
  rintro _ H1 nx1 ⟨b, hb0, hb1, hr1, hH1⟩
  subst hr1; subst hH1
  dsimp only
  clear hop
  have q1 := far (show nx < nx1 by omega)
  have q2 := far (show b < nx1 by omega)
  have q3 := far (show nx < b by omega)
  cases ht : tokensOf l with
  | error x =>
    obtain ⟨p, er⟩ := x
    have he : opnE l = (p, er) := by unfold opnE; rw [ht]
    have h2 := tokensOf_err ht
    have hR2 : R = .error (p, er) := by rw [hR]; unfold programR readR; rw [ht]
    have he0 : ¬ er = 0 := by omega
    simp only [he]
    clear hR ht he
    refine gW ?_
    (refine ⟨_, (by simp [*]; rfl), ?_⟩; (try simp only [packA]))
    exact ⟨_, _, rfl, .cons (WkL.agg (.cons .nil .nil)) (.cons (.same _) (.cons (.same _) .nil)), by rw [hR2]; rfl⟩
  | ok ts =>
    have he : opnE l = (0, 0) := by unfold opnE; rw [ht]
    have hts : opnTs l = ts := by unfold opnTs; rw [ht]
    have hT := twr_of ht
    have hlen := hT.wf.len
    have i0 : 0 < ts.length := hT.wf.pos
    simp only [he, hts]
    obtain ⟨Cs, hCs⟩ : ∃ Cs, Cs = qClassesLoop ts (ts.length + 1) [] ⟨0, false⟩ := ⟨_, rfl⟩
    have hdo : Stp (fun i => programP ts i) ⟨0, false⟩ Cs.1 Cs.2 := by rw [hCs]; exact does_classesLoop hT hT.kt _ _ _
    clear hts he
    refine gW ?_
    refine AWp.loopO (α := Nat × List Cl × RS) (fun x e H nx2 => ∃ c, H nx1 = some (.cells [c]) ∧ OwnL cvC 4 H nx2 c x.2.1 ∧ Lies c nx1 nx2 ∧ H nx = some (.cells [.nils]) ∧ H b = some (.cells [.lst (ts.map cvT), .int .i64 x.2.2.i, .bool x.2.2.bad]) ∧ (x.2.2.bad = false → x.2.1.length ≤ x.2.2.i + 1) ∧ x.2.2.i < ts.length ∧ (x.2.2.bad = true ∨ ts.length - x.2.2.i < x.1) ∧ Cs = qClassesLoop ts x.1 x.2.1 x.2.2) (fun x => x.1) (ts.length + 1, [], ⟨0, false⟩) [] 21 ⟨.nils, by simp [upd, *], .inl ⟨rfl, rfl⟩, .nils _ _, by simp [upd, *], by simp [upd, *], fun _ => by simp, i0, .inr (by simp only; omega), hCs⟩ ?_
    clear hCs i0
    rintro ⟨n, cs, σ5⟩ v4 H4 nx4 hn4 ⟨c, w1, ho, hli, w4, w6, hl2, hi2, hf, hF⟩
    simp only at w1 ho hli w4 w6 hl2 hi2 hf hF
    have q4 := far (show b < nx4 by omega)
    have q5 := far (show nx < nx4 by omega)
    have q6 := far (show nx1 < nx4 by omega)
    have s1 := rp_at hT _ km_class σ5 hi2 b
    cases hz : atB ts σ5 [99, 108, 97, 115, 115] with
    | true =>
      obtain ⟨hb3, _⟩ := atB_true hz
      simp only [hz] at s1
      have hf1 : ts.length - σ5.i < n := by rcases hf with hf | hf; rw [hb3] at hf; cases hf; exact hf
      obtain ⟨n, rfl⟩ : ∃ k, n = k + 1 := ⟨n - 1, by omega⟩
      have hl1 := hl2 hb3
      have s2 := rp_class hT σ5 hi2 b
      obtain ⟨b7, b8⟩ := class_in hT hi2
      have hgt := stp_lt (does_class hT hT.kt σ5) classP_adv
      rw [qClassesLoop, if_pos hz] at hF
      cases hr : qClass ts σ5 with
      | mk f2 σ6 =>
      simp only [hr] at s2 b7 b8 hF hgt
      have hbn : nx1 < nx4 := by omega
      clear hf hn4 hl2
      refine gW ?_
      (refine AOpl.callB rfl (by first | rfl | (simp [*]; done)) (by simp [*]) (by kernel_rfl) (s1) (by simp [*]) ?_)
      repeat (first | (first | (apply AOpl.step; rfl) | apply ASl.step); focus simp [*, -Option.some.injEq]; rfl | (first | (apply AOpl.stepG; rfl) | apply ASl.stepG); (focus simp [*]; done); focus simp [*, -Option.some.injEq]; rfl | (first | (apply AOpl.pass; rfl) | apply ASl.pass); (focus simp [*]; done) | (first | refine AOpl.nil ?_ | refine AWp.skip ?_ | refine AWp.exit ?_ | refine AWp.ret ?_ | refine ASl.nil ?_); try simp only [Then, InBlock, reduceIte, Nat.reduceEqDiff] | refine AWp.seq ?_ | refine AWp.reg rfl ?_ | refine AWp.block ?_ | apply AWp.condT; focus simp [*]; done | apply AWp.condF; focus simp [*]; done)
      refine AWp.regTC b (by kernel_rfl) (by kernel_rfl) rfl rfl ?_
      repeat (first | apply ASlC.step; (focus simp [*, -Option.some.injEq]; rfl); (focus first | exact Blind.pure rfl | exact Blind.eff rfl | (refine Blind.look fun H1 hl1 => ?_; have hk1 := hl1 _ (q2.1.2); simp [hk1, *]; done)) | refine ASlC.nil ?_; try simp only [Then, InBlock, reduceIte, Nat.reduceEqDiff])
      (refine ASlC.callB1 (by first | rfl | (simp [*]; done)) (by simp [*]) (by kernel_rfl) (s2) (by simp [*]) ?_)
      repeat (first | apply ASlC.step; (focus simp [*, -Option.some.injEq]; rfl); (focus first | exact Blind.pure rfl | exact Blind.eff rfl | (refine Blind.look fun H1 hl1 => ?_; have hk1 := hl1 _ (q2.1.2); simp [hk1, *]; done)) | refine ASlC.nil ?_; try simp only [Then, InBlock, reduceIte, Nat.reduceEqDiff])
      refine ASlC.appRow (k := 4) (cv := cvC) (c := c) (l := cs) (u := f2) ti_Cls ti_Cl rfl rfl (by omega) (by simp) cvC_len cvC_one rfl (by first | rfl | (simp [rd, putE, over]; done)) (by first | rfl | (simp [rd, putE, over]; done)) (ho.to (fun x o m j h => by obtain ⟨h1, h2⟩ := hli x o m j h; (repeat rw [upd_miss _ _ _ _ (by omega)])) (by omega)) (by simp [upd, *]) (by omega) ?_
      intro H5 hn5 hfr
      have g1 := hfr b (by omega) (fun b' h => by have := hli _ _ _ _ h; omega)
      have g2 := hfr nx1 (by omega) (fun b' h => by have := hli _ _ _ _ h; omega)
      have g3 := hfr nx (by omega) (fun b' h => by have := hli _ _ _ _ h; omega)
      simp [upd, *] at g1 g2 g3
      clear hfr s1 s2
      repeat (first | apply ASlC.step; (focus simp [*, -Option.some.injEq]; rfl); (focus first | exact Blind.pure rfl | exact Blind.eff rfl | (refine Blind.look fun H1 hl1 => ?_; have hk1 := hl1 _ (q2.1.2); simp [hk1, *]; done)) | refine ASlC.nil ?_; try simp only [Then, InBlock, reduceIte, Nat.reduceEqDiff])
      refine gW ?_
      exact ⟨by ((repeat (first | exact Keeps.base _ _ _ _ | (with_reducible exact Keeps.refl _ _ _) | (refine Keeps.put rfl ?_) | (refine Keeps.over' rfl rfl ?_)))), (n, cs ++ [f2], σ6), by simp only; omega, .sl (nx4 + 8) 0 (cs.length + 1) 4, by simp [upd, *], .inr ⟨nx4 + 8, by simp, by simpa [upd, *] using hn5, by omega⟩, .sl (by omega) (by omega), by simp [upd, *], by simp [upd, *], fun hb => by (have := hgt.resolve_left (by rw [hb]; simp)); simp only [List.length_append, List.length_cons, List.length_nil]; omega, b8, (by simp only; rcases hgt with h | h; exact .inl h; exact .inr (by omega)), hF⟩
    | false =>
      have hF2 : Cs = (cs, σ5) := by
        cases n with
        | zero =>
          rcases hf with hf | hf
          · rw [hF, qClassesLoop, rs_bad hf]
          · omega
        | succ n => rw [hF, qClassesLoop, if_neg (by rw [hz]; simp)]
      simp only [hz] at s1
      rw [hF2] at hdo
      simp only at hdo
      have s2 := rt_close hT σ5 hi2 b
      have hsep := sepCl ho w6
      have hbn4 : nx1 < nx4 := by omega
      refine AWp.own2lst cvC_len ho w1 (fun o m j h => by have := hli _ _ _ _ h; omega) ?_
      intro H6 u1 hfr
      have u4 : H6 nx = some (.cells [.nils]) := by rw [hfr nx (by omega) (fun o m j h => by have := hli _ _ _ _ h; omega)]; exact w4
      have u6 : H6 b = some (.cells [.lst (ts.map cvT), .int .i64 σ5.i, .bool σ5.bad]) := by rw [hfr b (by omega) hsep]; exact w6
      have hRr : R = if σ5.bad = true ∨ (tk ts σ5.i).kind ≠ 5 then .error ((tk ts σ5.i).pos, 2) else if sourceLim cs ≠ 0 then .error (0, sourceLim cs) else .ok cs := by
        rw [hR]
        unfold programR readR
        rw [ht]
        simp only
        cases hb5 : σ5.bad with
        | true =>
          have := hdo.failed rfl hb5
          simp only at this
          rw [this, if_pos (.inl rfl)]
        | false =>
          have := (hdo.good hb5).2
          simp only at this
          rw [this]
          simp only
          by_cases hk : (tk ts σ5.i).kind = 5
          · rw [if_pos hk, if_neg (by rw [hk]; simp)]
          · rw [if_neg hk, if_pos (.inr hk)]
      clear hF hf hl2 hF2 hn4 w1 w4 w6 hfr hsep ho hli hR
      by_cases hbad : σ5.bad = true ∨ (tk ts σ5.i).kind ≠ 5
      · rw [if_pos hbad] at hRr
        simp only [hbad, if_true] at s2
        clear hbad
        refine gW ?_
        (refine AOpl.callB rfl (by first | rfl | (simp [*]; done)) (by simp [*]) (by kernel_rfl) (s1) (by simp [*]) ?_)
        refine gW ?_
        (refine AOpl.callB rfl (by first | rfl | (simp [*]; done)) (by simp [*]) (by kernel_rfl) (s2) (by simp [*]) ?_)
        refine gW ?_
        (refine ⟨_, (by simp [*]; rfl), ?_⟩; (try simp only [packA]))
        exact ⟨_, _, rfl, .cons (WkL.agg (.cons .nil .nil)) (.cons (.same _) (.cons (.same _) .nil)), by rw [hRr]; rfl⟩
      · rw [if_neg hbad] at hRr
        simp only [hbad, if_false] at s2
        have hb5 : σ5.bad = false := by cases h : σ5.bad with | false => rfl | true => exact (hbad (.inl h)).elim
        have hprog := (hdo.good hb5).2
        simp only at hprog
        have hsz := programP_siz hprog
        have s3 := rl_source cs (fun c hc m hm => by have := (hsz c hc m hm).1; omega)
        by_cases h0 : sourceLim cs = 0
        · rw [if_neg (by rw [h0]; simp)] at hRr
          simp only [h0] at s3
          clear hbad hdo hprog hsz
          refine gW ?_
          (refine AOpl.callB rfl (by first | rfl | (simp [*]; done)) (by simp [*]) (by kernel_rfl) (s1) (by simp [*]) ?_)
          refine gW ?_
          (refine AOpl.callB rfl (by first | rfl | (simp [*]; done)) (by simp [*]) (by kernel_rfl) (s2) (by simp [*]) ?_)
          refine gW ?_
          (first | refine AOpl.call1 rfl (by first | rfl | (simp [*]; done)) (by simp [*]) (by kernel_rfl) (s3) ?_ | refine ASl.callg (by first | rfl | (simp [*]; done)) (by simp [*]) (by kernel_rfl) (s3) ?_)
          refine gW ?_
          (refine ⟨_, (by simp [*]; rfl), ?_⟩; (try simp only [packA]))
          exact ⟨_, _, rfl, .cons (.same _) (.cons (.same _) (.cons (.same _) .nil)), by rw [hRr]; rfl⟩
        · rw [if_pos h0] at hRr
          clear hbad hdo hprog hsz
          refine gW ?_
          (refine AOpl.callB rfl (by first | rfl | (simp [*]; done)) (by simp [*]) (by kernel_rfl) (s1) (by simp [*]) ?_)
          refine gW ?_
          (refine AOpl.callB rfl (by first | rfl | (simp [*]; done)) (by simp [*]) (by kernel_rfl) (s2) (by simp [*]) ?_)
          refine gW ?_
          (first | refine AOpl.call1 rfl (by first | rfl | (simp [*]; done)) (by simp [*]) (by kernel_rfl) (s3) ?_ | refine ASl.callg (by first | rfl | (simp [*]; done)) (by simp [*]) (by kernel_rfl) (s3) ?_)
          refine gW ?_
          (refine ⟨_, (by simp [*]; rfl), ?_⟩; (try simp only [packA]))
          exact ⟨_, _, rfl, .cons (WkL.agg (.cons .nil .nil)) (.cons (.same _) (.cons (.same _) .nil)), by rw [hRr]; rfl⟩
end Go.Proofs.YthjonkommphkkaaGreatDoor
namespace Go.Proofs.YthjonkommphkkaaGreatDoor
open Lx Go.RowKit
/-- What an append reads: nothing, or the cells of a row. -/
def SrcAt (w : World) (src : Value) (m size : Nat) (news : List Value) : Prop := news.length = m * size ∧ (∀ u ∈ news, u.oneCell' = true) ∧ ((∃ c, src = .slice none 0 c ∧ m = 0) ∨ ∃ ad c, src = .slice (some ad) m c ∧ ∀ j u, news[j]? = some u → w.cell? (ad.add j) = some u)
theorem SrcAt.below {w w' : World} {src : Value} {m size : Nat} {news : List Value} (h : SrcAt w src m size news) (hb : Below w.heap.size w w') : SrcAt w' src m size news := by
  obtain ⟨h1, h2, h3 | ⟨ad, c, h3, h4⟩⟩ := h
  · exact ⟨h1, h2, .inl h3⟩
  · refine ⟨h1, h2, .inr ⟨ad, c, h3, fun j u hu => ?_⟩⟩
    have h5 := h4 j u hu
    rw [hb.cell (World.block_lt_of_cell? w _ h5)]
    exact h5
theorem flat_from {α : Type} {w : World} {k g off : Nat} {P : α → List Value → Prop} {l : List α} (hc : ∀ i (h : i < l.length), ∃ cs : List Value, cs.length = k ∧ (∀ j, j < k → w.cell? ⟨g, off + (i * k + j), none⟩ = cs[j]?) ∧ P l[i] cs) :
    ∀ m, m ≤ l.length → ∃ xs, Flat k P (l.take m) xs ∧ ∀ j, j < m * k → w.cell? ⟨g, off + j, none⟩ = xs[j]? := by
  intro m
  induction m with
  | zero => intro _; exact ⟨[], Flat.nil, fun j hj => by simp at hj⟩
  | succ m ih =>
    intro hm
    obtain ⟨xs, hf, hx⟩ := ih (by omega)
    obtain ⟨cs, h1, h2, h3⟩ := hc m (by omega)
    have hl : xs.length = m * k := by rw [hf.1, List.length_take]; congr 1; omega
    refine ⟨xs ++ cs, ?_, fun j hj => ?_⟩
    · rw [List.take_succ_eq_append_getElem (by omega)]
      exact hf.snoc h1 h3
    · by_cases hlt : j < m * k
      · rw [List.getElem?_append_left (by omega)]; exact hx j hlt
      · rw [List.getElem?_append_right (by omega), hl]
        have hjk : j - m * k < k := by rw [Nat.succ_mul] at hj; omega
        have := h2 (j - m * k) hjk
        rw [← this, show off + (m * k + (j - m * k)) = off + j from by omega]
theorem IsCl.one {A : Nat → Prop} {w : World} {d : Nat} {e : Cl} {cs : List Value} (h : IsCl A w d e cs) : ∀ u ∈ cs, u.oneCell' = true := by
  obtain ⟨v1, v2, rfl, h1, h2⟩ := h
  have hv : v1.oneCell' = true := by obtain ⟨_, ⟨_, a, c, rfl⟩ | ⟨g, off, c, rfl, _⟩⟩ := h1 <;> rfl
  have hv2 : v2.oneCell' = true := by obtain ⟨_, ⟨_, a, c, rfl⟩ | ⟨g, off, c, rfl, _⟩⟩ := h2 <;> rfl
  intro u hu
  simp at hu
  rcases hu with rfl | rfl | rfl | rfl <;> first | rfl | exact hv | exact hv2
theorem add_off (g off k : Nat) : (⟨g, off, none⟩ : Addr).add k = ⟨g, off + k, none⟩ := by
  unfold Addr.add; split
  · rename_i h; rw [h]; rfl
  · rfl
theorem IsList.src {α : Type} {w : World} {k : Nat} {P : α → List Value → Prop} {l : List α} {v : Value} (hk : 0 < k) (h : IsList Any w k P l v) (hP : ∀ x cs, P x cs → ∀ u ∈ cs, u.oneCell' = true) : ∃ xs, Flat k P l xs ∧ SrcAt w v l.length k xs := by
  obtain ⟨hl, ⟨rfl, a, c, rfl⟩ | ⟨g, off, cap, rfl, hA, hc⟩⟩ := h
  · refine ⟨[], Flat.nil, by simp, by simp, ?_⟩
    cases a with
    | none => exact .inl ⟨c, rfl, rfl⟩
    | some ad => exact .inr ⟨ad, c, rfl, by simp⟩
  · obtain ⟨xs, hf, hx⟩ := flat_from hc l.length (Nat.le_refl _)
    rw [List.take_length] at hf
    refine ⟨xs, hf, hf.1, hf.ones hk hP, .inr ⟨_, cap, rfl, fun j u hu => ?_⟩⟩
    have hj : j < xs.length := (List.getElem?_eq_some_iff.1 hu).1
    rw [add_off, hx j (by rw [← hf.1]; exact hj), hu]
theorem programR_err {l : Bytes} {p er : Nat} (h : programR l = .error (p, er)) : er ≠ 0 := by
  unfold programR at h
  cases hr : readR (fun ts => programP ts 0) l with
  | error x =>
    rw [hr] at h
    obtain ⟨q, f⟩ := x
    have := readR_err hr
    cases h; omega
  | ok c =>
    rw [hr] at h
    simp only at h
    split at h
    · rename_i h0; cases h; exact h0
    · cases h
/-- How parse.Program ends, in one form. -/
theorem ProgOut.form {w : World} {l : Bytes} {e : Ending} {w' : World} (h : ProgOut w (programR l) e w') : Below w.heap.size w w' ∧ ∃ (a : Option Addr) (n c : Nat) (p er : Int), e = .returned (.tuple #[.agg #[.slice a n c], .int .i64 p, .int .i64 er]) ∧ ∃ (x : List Cl) (d : Nat), IsList Any w' 4 (IsCl Any w' d) x (.slice a n c) ∧
    ((er = 0 ∧ p = 0 ∧ programR l = .ok x) ∨ ((er != 0) = true ∧ ∃ (q f : Nat), p = (q : Int) ∧ er = (f : Int) ∧ x = [] ∧ programR l = .error (q, f))) := by
  obtain ⟨hb, h⟩ := h
  refine ⟨hb, ?_⟩
  cases hr : programR l with
  | error x =>
    obtain ⟨p, er⟩ := x
    rw [hr] at h
    have h0 := programR_err hr
    exact ⟨none, 0, 0, p, er, h, [], 0, ⟨by simp, .inl ⟨rfl, _, _, rfl⟩⟩, .inr ⟨by rw [bne_iff_ne]; omega, p, er, rfl, rfl, rfl, rfl⟩⟩
  | ok x =>
    rw [hr] at h
    obtain ⟨a, n, c, h1, d, h2⟩ := h
    exact ⟨a, n, c, 0, 0, h1, x, d, h2.sub (fun _ _ _ => trivial) (by omega) fun _ _ _ => IsCl.sub fun _ _ _ => trivial, .inl ⟨rfl, rfl, rfl⟩⟩
end Go.Proofs.YthjonkommphkkaaGreatDoor
namespace Go.Proofs.YthjonkommphkkaaGreatDoor
open Lx Ax Go.RowKit
section
variable {M : Mp} {w : World} (hM : ∀ g o, M.fz g = some o → w.heap[g]? = some o)
theorem list_rv {α : Type} {k : Nat} {P : α → List Value → Prop} {cv : α → List CV} {l : List α} {v : Value} (hM : ∀ g o, M.fz g = some o → w.heap[g]? = some o) (h : RV M (.lst (l.map cv)) v) (hl : l.length ≤ maxLen) (hcv : ∀ x, (cv x).length = k) (hP : ∀ x ∈ l, ∀ cs, RVs M (cv x) cs → P x cs) : IsList Any w k P l v := by
  generalize hr : l.map cv = rows at h
  cases h with
  | lst0 a c => exact ⟨hl, .inl ⟨by simpa using hr, a, c, rfl⟩⟩
  | lst _ g o n k' c arr T fr hz hn hc hk hs hv =>
    subst hr
    have hn : n = l.length := by simpa using hn
    subst hn
    refine ⟨hl, .inr ⟨g, o, c, rfl, ⟨trivial, hc⟩, fun i hi => ?_⟩⟩
    have hkk : k' = k := by rw [← hk (cv l[i]) (List.mem_map.mpr ⟨_, List.getElem_mem hi, rfl⟩), hcv]
    subst hkk
    have hle : i * k' + k' ≤ l.length * k' := mul_step k' hi
    refine ⟨(arr.toList.drop (o + i * k')).take k', by simp; omega, fun j hj => ?_, ?_⟩
    · rw [List.getElem?_take_of_lt hj, List.getElem?_drop]
      simp [World.cell?, hM _ _ hz, Nat.add_assoc]
    · refine hP _ (List.getElem_mem hi) _ ⟨by rw [hcv]; simp; omega, fun j a b => ?_⟩
      have hj : j < k' := by rw [hcv] at a; exact a
      have := hv i (by simpa using hi) j (by simpa [hcv] using hj) (by omega)
      simpa using this
theorem str_rv {l : Bytes} {v : Value} (h : RV M (.str l) v) : v = .string (strOf l) := by
  cases h with
  | str _ s hs => subst hs; simp [strOf]
theorem int_rv {k : IntKind} {n : Int} {v : Value} (h : RV M (.int k n) v) : v = .int k n := by cases h; rfl
theorem bool_rv {b : Bool} {v : Value} (h : RV M (.bool b) v) : v = .bool b := by cases h; rfl
include hM
theorem ex_rv : ∀ (d : Nat) (e : Ex) (cs : List Value), exSz e ≤ d → d ≤ maxLen → RVs M (cvE e) cs → IsEx Any w d e cs := by
  intro d
  induction d with
  | zero => intro e cs h; have := exSz_pos e; omega
  | succ d ih =>
    intro e cs hd hm h
    obtain ⟨k, n, o, m, ks⟩ := e
    rw [exSz] at hd
    rw [cvE_mk] at h
    obtain ⟨v0, cs, rfl, h0, h⟩ := h.cons_inv
    obtain ⟨v1, cs, rfl, h1, h⟩ := h.cons_inv
    obtain ⟨v2, cs, rfl, h2, h⟩ := h.cons_inv
    obtain ⟨v3, cs, rfl, h3, h⟩ := h.cons_inv
    obtain ⟨v4, cs, rfl, h4, h⟩ := h.cons_inv
    have := h.nil_inv; subst this
    rw [int_rv h0, int_rv h1, str_rv h2, str_rv h3]
    have hln := exsSz_len ks
    exact ⟨v4, rfl, list_rv hM h4 (by omega) cvE_len fun x hx cs hr => ih x cs (by have := exsSz_mem hx; omega) (by omega) hr⟩
theorem st_rv : ∀ (d : Nat) (e : St) (cs : List Value), stSz e ≤ d → d ≤ maxLen → RVs M (cvS e) cs → IsSt Any w d e cs := by
  intro d
  induction d with
  | zero => intro e cs h; have := stSz_pos e; omega
  | succ d ih =>
    intro e cs hd hm h
    obtain ⟨k, nm, ty, es, b, el⟩ := e
    rw [stSz] at hd
    rw [cvS_mk] at h
    obtain ⟨v0, cs, rfl, h0, h⟩ := h.cons_inv
    obtain ⟨v1, cs, rfl, h1, h⟩ := h.cons_inv
    obtain ⟨v2, cs, rfl, h2, h⟩ := h.cons_inv
    obtain ⟨v3, cs, rfl, h3, h⟩ := h.cons_inv
    obtain ⟨v4, cs, rfl, h4, h⟩ := h.cons_inv
    obtain ⟨v5, cs, rfl, h5, h⟩ := h.cons_inv
    have := h.nil_inv; subst this
    rw [int_rv h0, str_rv h1, str_rv h2]
    have l1 := exsSz_len es
    have l2 := stsSz_len b
    have l3 := stsSz_len el
    exact ⟨v3, v4, v5, rfl, list_rv hM h3 (by omega) cvE_len fun x hx cs hr => ex_rv hM d x cs (by have := exsSz_mem hx; omega) (by omega) hr,
      list_rv hM h4 (by omega) cvS_len fun x hx cs hr => ih x cs (by have := stsSz_mem hx; omega) (by omega) hr,
      list_rv hM h5 (by omega) cvS_len fun x hx cs hr => ih x cs (by have := stsSz_mem hx; omega) (by omega) hr⟩
omit hM in
theorem fld_rv (f : Fld) (cs : List Value) (h : RVs M (cvF f) cs) : IsFld f cs := by
  obtain ⟨v0, cs, rfl, h0, h⟩ := h.cons_inv
  obtain ⟨v1, cs, rfl, h1, h⟩ := h.cons_inv
  have := h.nil_inv; subst this
  rw [str_rv h0, str_rv h1]; rfl
theorem me_rv (m : Me) (cs : List Value) (hb : stsSz m.body ≤ 1000000) (hp : m.params.length ≤ 1000000) (h : RVs M (cvM m) cs) : IsMe Any w 1000000 m cs := by
  obtain ⟨v0, cs, rfl, h0, h⟩ := h.cons_inv
  obtain ⟨v1, cs, rfl, h1, h⟩ := h.cons_inv
  obtain ⟨v2, cs, rfl, h2, h⟩ := h.cons_inv
  obtain ⟨v3, cs, rfl, h3, h⟩ := h.cons_inv
  obtain ⟨v4, cs, rfl, h4, h⟩ := h.cons_inv
  have := h.nil_inv; subst this
  have l2 := stsSz_len m.body
  rw [str_rv h0, bool_rv h1, str_rv h3]
  exact ⟨v2, v4, rfl, list_rv hM h2 (by unfold maxLen; omega) cvF_len fun x _ cs hr => fld_rv x cs hr,
    list_rv hM h4 (by unfold maxLen; omega) cvS_len fun x hx cs hr => st_rv hM _ x cs (by have := stsSz_mem hx; omega) (by unfold maxLen; omega) hr⟩
theorem cl_rv (c : Cl) (cs : List Value) (hm : ∀ m ∈ c.methods, stsSz m.body ≤ 1000000 ∧ m.params.length ≤ 1000000) (hf : c.fields.length ≤ 1000000) (hl : c.methods.length ≤ 1000000) (h : RVs M (cvC c) cs) : IsCl Any w 1000000 c cs := by
  obtain ⟨v0, cs, rfl, h0, h⟩ := h.cons_inv
  obtain ⟨v1, cs, rfl, h1, h⟩ := h.cons_inv
  obtain ⟨v2, cs, rfl, h2, h⟩ := h.cons_inv
  obtain ⟨v3, cs, rfl, h3, h⟩ := h.cons_inv
  have := h.nil_inv; subst this
  rw [str_rv h0, str_rv h1]
  exact ⟨v2, v3, rfl, list_rv hM h2 (by unfold maxLen; omega) cvF_len fun x _ cs hr => fld_rv x cs hr,
    list_rv hM h3 (by unfold maxLen; omega) cvM_len fun x hx cs hr => me_rv hM x cs (hm x hx).1 (hm x hx).2 hr⟩
end
theorem firstLim_zero {α : Type} {f : α → Nat} {l : List α} (h : firstLim f l = 0) : ∀ x ∈ l, f x = 0 := by
  induction l with
  | nil => intro x hx; cases hx
  | cons y l ih =>
    rw [firstLim] at h
    split at h
    · rename_i h1; exact absurd h h1
    · rename_i h1
      intro x hx
      rcases List.mem_cons.1 hx with rfl | hx
      · simpa using h1
      · exact ih h x hx
/-- What is known of what a text parses as. -/
theorem programR_ok {l : Bytes} {x : List Cl} (h : programR l = .ok x) : x.length ≤ 64 ∧ ∀ c ∈ x, (∀ m ∈ c.methods, stsSz m.body ≤ 1000000 ∧ m.params.length ≤ 1000000) ∧ c.fields.length ≤ 1000000 ∧ c.methods.length ≤ 1000000 := by
  unfold programR readR at h
  cases ht : tokensOf l with
  | error y => rw [ht] at h; cases h
  | ok ts =>
    rw [ht] at h
    simp only at h
    have hlen := (twf_of ht).len
    cases hp : programP ts 0 with
    | error q => rw [hp] at h; simp only at h; cases h
    | ok y =>
      obtain ⟨y, j⟩ := y
      rw [hp] at h
      simp only at h
      by_cases hk : (tk ts j).kind = 5
      · rw [if_pos hk] at h
        simp only at h
        split at h
        · cases h
        · rename_i h0
          cases h
          have h0 : sourceLim x = 0 := by simpa using h0
          have hj : j < ts.length ∨ ts.length ≤ j := by omega
          have hsz := programP_siz hp
          have hin : j ≤ ts.length := by
            have h1 := does_classesLoop (twr_of ht) (twr_of ht).kt (ts.length + 1) [] ⟨0, false⟩
            have h2 := classesLoop_in (twr_of ht) (ts.length + 1) [] ⟨0, false⟩ (twf_of ht).pos
            rcases h1 with ⟨h1, _⟩ | ⟨_, h1⟩
            · cases h1
            · have e : classesLoop ts (ts.length + 1) [] 0 = .ok (x, j) := hp
              simp only [e] at h1
              rw [h1.2] at h2
              have := h2.2
              simp only at this
              omega
          unfold sourceLim at h0
          split at h0
          · cases h0
          · rename_i h64
            refine ⟨by omega, fun c hc => ?_⟩
            have hcl := firstLim_zero h0 c hc
            unfold classLim at hcl
            split at hcl
            · cases hcl
            · rename_i h16
              exact ⟨fun m hm => by have := hsz c hc m hm; exact ⟨by have := this.1; omega, by have := this.2; omega⟩, by omega, by omega⟩
      · rw [if_neg hk] at h; cases h
/-- The reference's Program, in the form of the parser's. -/
theorem ref_Program (s : ByteArray) (w : World) (hs : s.size ≤ maxLen) : Calls Tryz.prog 19 #[.string s] w fun e w' => Below w.heap.size w w' ∧ ∃ (a : Option Addr) (n c : Nat) (p er : Int), e = .returned (.tuple #[.agg #[.slice a n c], .int .i64 p, .int .i64 er]) ∧ ∃ (x : List Cl) (d : Nat), IsList Any w' 4 (IsCl Any w' d) x (.slice a n c) ∧
    ((er = 0 ∧ p = 0 ∧ programR s.data.toList = .ok x) ∨ ((er != 0) = true ∧ ∃ (q f : Nat), p = (q : Int) ∧ er = (f : Int) ∧ x = [] ∧ programR s.data.toList = .error (q, f))) := by
  refine ((rt_program s.data.toList (by simpa using hs)) Heap.no 0 (snap w) w [.string s] (paG_rg _) (Rep.snap w) (.one (.str _ s rfl))).mono ?_
  rintro e w' ⟨M', r, H', nx', h1, h2, h3, rfl, rfl⟩
  refine ⟨h3.below, ?_⟩
  have hret : ∀ (rows : List (List CV)) (p er : Int) (e : Ending), EndR M' (.ret (.tup [.agg [.lst rows], .int .i64 p, .int .i64 er])) e → ∃ (a : Option Addr) (n c : Nat), e = .returned (.tuple #[.agg #[.slice a n c], .int .i64 p, .int .i64 er]) ∧ RV M' (.lst rows) (.slice a n c) := by
    intro rows p er e h
    cases e <;> simp only [EndR] at h
    rename_i v
    cases h with
    | tup _ vs hv hr =>
      have hvs : RVs M' [.agg [.lst rows], .int .i64 p, .int .i64 er] vs := ⟨hv, hr⟩
      obtain ⟨v0, vs, rfl, g0, hvs⟩ := hvs.cons_inv
      obtain ⟨v1, vs, rfl, g1, hvs⟩ := hvs.cons_inv
      obtain ⟨v2, vs, rfl, g2, hvs⟩ := hvs.cons_inv
      have := hvs.nil_inv; subst this
      rw [int_rv g1, int_rv g2]
      cases g0 with
      | agg _ us hu hr0 =>
        have hus : RVs M' [.lst rows] us := ⟨hu, hr0⟩
        obtain ⟨u0, us, rfl, k0, hus⟩ := hus.cons_inv
        have := hus.nil_inv; subst this
        have hsl : ∃ a n c, u0 = .slice a n c := by cases k0 <;> exact ⟨_, _, _, rfl⟩
        obtain ⟨a, n, c, rfl⟩ := hsl
        exact ⟨a, n, c, rfl, k0⟩
  cases hp : programR s.data.toList with
  | error x =>
    obtain ⟨p, er⟩ := x
    rw [hp] at h1
    obtain ⟨a, n, c, rfl, hrv⟩ := hret _ _ _ _ h1
    have her := programR_err hp
    exact ⟨a, n, c, p, er, rfl, [], 0, list_rv (cv := cvC) (k := 4) (P := IsCl Any w' 0) h2.fz hrv (by simp) cvC_len (fun x hx => by cases hx), .inr ⟨by rw [bne_iff_ne]; omega, p, er, rfl, rfl, rfl, rfl⟩⟩
  | ok x =>
    rw [hp] at h1
    obtain ⟨a, n, c, rfl, hrv⟩ := hret _ _ _ _ h1
    obtain ⟨h64, hc⟩ := programR_ok hp
    exact ⟨a, n, c, 0, 0, rfl, x, 1000000, list_rv h2.fz hrv (by unfold maxLen; omega) cvC_len fun y hy cs hr => cl_rv h2.fz y cs (hc y hy).1 (hc y hy).2.1 (hc y hy).2.2 hr, .inl ⟨rfl, rfl, rfl⟩⟩
end Go.Proofs.YthjonkommphkkaaGreatDoor
namespace Go.Proofs.YthjonkommphkkaaGreatDoor
open Lx Go.RowKit
set_option maxHeartbeats 2000000 in
theorem ref_SameExprs (d : Nat) : ∀ (l1 l2 : List Ex) (a1 : Option Addr) (n1 c1 : Nat) (a2 : Option Addr) (n2 c2 : Nat) (w : World), IsList Any w 5 (IsEx Any w d) l1 (.slice a1 n1 c1) → IsList Any w 5 (IsEx Any w d) l2 (.slice a2 n2 c2) →
    Calls Tryz.prog 16 #[.slice a1 n1 c1, .slice a2 n2 c2] w (SameOut w (l1 = l2)) := by
  induction d with
  | zero =>
    intro l1 l2 a1 n1 c1 a2 n2 c2 w h1 h2
    obtain ⟨rfl, hm1, hat1⟩ := h1.exAt
    obtain ⟨rfl, hm2, hat2⟩ := h2.exAt
    cases l1 with
    | cons x l => obtain ⟨_, _, _, _, _, _, _, _, _, _, _, _, _, _, _, _, hx⟩ := hat1 0 (by simp); exact absurd hx (by simp [IsEx])
    | nil =>
      cases l2 with
      | cons x l => obtain ⟨_, _, _, _, _, _, _, _, _, _, _, _, _, _, _, _, hx⟩ := hat2 0 (by simp); exact absurd hx (by simp [IsEx])
      | nil =>
        clear h1 h2 hat1 hat2
        go_enter Tryz.func16, Tryz.ntmps16
        go_wp2_with fail
        go_loopw [5] (fun i wr => SameRel ([] : List Ex) [] w i wr) (fun i _ => 0 - (intOf i).toNat)
        case atStart => exact ⟨0, Nat.zero_le _, rfl, rfl, .refl _ _⟩
        case round =>
          obtain ⟨j, hj, rfl, _, hb⟩ := hrel
          obtain rfl : j = 0 := by simpa using hj
          have HB := Lib.hid hb
          clear hb
          go_wp2_with fail
          go_ret
          exact ⟨HB.out, true, rfl, by simp⟩
  | succ d ih =>
    intro l1 l2 a1 n1 c1 a2 n2 c2 w h1 h2
    obtain ⟨rfl, hm1, hat1⟩ := h1.exAt
    obtain ⟨rfl, hm2, hat2⟩ := h2.exAt
    unfold maxLen at hm1 hm2
    have HAT1 := Lib.hid hat1
    have HAT2 := Lib.hid hat2
    have IH := Lib.hid ih
    clear h1 h2 hat1 hat2 ih
    by_cases hlen : l1.length = l2.length
    · have hle : ((l1.length : Int) != (l2.length : Int)) = false := by rw [bne_eq_false_iff_eq]; omega
      have hle1 : l1.length ≤ l2.length := by omega
      have hle2 : l2.length ≤ l1.length := by omega
      clear hlen
      go_enter Tryz.func16, Tryz.ntmps16
      go_wp2_with fail
      go_loopw [5] (fun i wr => SameRel l1 l2 w i wr) (fun i _ => l1.length - (intOf i).toNat)
      case atStart => exact ⟨0, Nat.zero_le _, rfl, rfl, .refl _ _⟩
      case round =>
        obtain ⟨j, hj, rfl, hpre, hb⟩ := hrel
        have HPRE := Lib.hid hpre
        clear hpre
        by_cases hlt : j < l1.length
        · have hlt2 : j < l2.length := by omega
          obtain ⟨g1, o1, k1, m1, s1, t1, b1, r1, q1, rfl, hg1, x0, x1, x2, x3, x4, hx⟩ := HAT1.out j hlt
          obtain ⟨g2, o2, k2, m2, s2, t2, b2, r2, q2, rfl, hg2, y0, y1, y2, y3, y4, hy⟩ := HAT2.out j hlt2
          rw [← hb.cell (p := ⟨g1, _, none⟩) hg1] at x0 x1 x2 x3 x4
          rw [← hb.cell (p := ⟨g2, _, none⟩) hg2] at y0 y1 y2 y3 y4
          have hs := hb.size
          have hw1 : g1 < wr.heap.size := by omega
          have hw2 : g2 < wr.heap.size := by omega
          obtain ⟨oo1, mm1, ks1, he1, rfl, rfl, hl1⟩ := (IsEx.kept (kept_any hb) _ _ _ hx).flds
          obtain ⟨oo2, mm2, ks2, he2, rfl, rfl, hl2⟩ := (IsEx.kept (kept_any hb) _ _ _ hy).flds
          have H1 : Hid (∀ x, Below wr.heap.size wr x → IsList Any x 5 (IsEx Any x d) ks1 (.slice b1 r1 q1)) := fun x hx => hl1.kept (kept_any hx) (by omega) fun _ _ _ => IsEx.kept (kept_any hx) _ _ _
          have H2 : Hid (∀ x, Below wr.heap.size wr x → IsList Any x 5 (IsEx Any x d) ks2 (.slice b2 r2 q2)) := fun x hx => hl2.kept (kept_any hx) (by omega) fun _ _ _ => IsEx.kept (kept_any hx) _ _ _
          have HE1 := Lib.hid he1
          have HE2 := Lib.hid he2
          have HB := Lib.hid hb
          clear hb hx hy hl1 hl2 he1 he2
          have hj1 : (j : Int) < (l1.length : Int) := by omega
          have hj2 : (j : Int) < (l2.length : Int) := by omega
          have hj0 : (0 : Int) ≤ (j : Int) := by omega
          by_cases hk : k1 = k2
          rotate_left
          · have HNE : Hid (l1[j] ≠ l2[j]) := by show _ ≠ _; rw [HE1.out, HE2.out]; intro e; injection e; exact hk ‹_›
            have q : (k1 != k2) = true := by rw [bne_iff_ne]; exact hk
            clear hk
            go_wp2_with fail
            go_region
            all_goals
              go_wp2_with fail
              go_ret
              exact ⟨HB.out.trans (((((Below.refl _ _).alloc (Nat.le_refl _) _).alloc (by simp) _).drew).mono HB.out.size), false, rfl, by simp; exact differ hlt hlt2 (HNE.out)⟩
          subst hk
          by_cases hm : m1 = m2
          rotate_left
          · have HNE : Hid (l1[j] ≠ l2[j]) := by show _ ≠ _; rw [HE1.out, HE2.out]; intro e; injection e; exact hm ‹_›
            have q : (m1 != m2) = true := by rw [bne_iff_ne]; exact hm
            clear hm
            go_wp2_with fail
            go_region
            all_goals
              go_wp2_with fail
              go_ret
              exact ⟨HB.out.trans (((((Below.refl _ _).alloc (Nat.le_refl _) _).alloc (by simp) _).drew).mono HB.out.size), false, rfl, by simp; exact differ hlt hlt2 (HNE.out)⟩
          subst hm
          by_cases ho : oo1 = oo2
          rotate_left
          · have HNE : Hid (l1[j] ≠ l2[j]) := by show _ ≠ _; rw [HE1.out, HE2.out]; intro e; injection e; exact ho ‹_›
            obtain ⟨q, q'⟩ := str_ne ho
            clear ho
            go_wp2_with fail
            go_region
            all_goals
              go_wp2_with fail
              go_ret
              exact ⟨HB.out.trans (((((Below.refl _ _).alloc (Nat.le_refl _) _).alloc (by simp) _).drew).mono HB.out.size), false, rfl, by simp; exact differ hlt hlt2 (HNE.out)⟩
          subst ho
          by_cases hn : mm1 = mm2
          rotate_left
          · have HNE : Hid (l1[j] ≠ l2[j]) := by show _ ≠ _; rw [HE1.out, HE2.out]; intro e; injection e; exact hn ‹_›
            obtain ⟨q, q'⟩ := str_ne hn
            clear hn
            go_wp2_with fail
            go_region
            all_goals
              go_wp2_with fail
              go_ret
              exact ⟨HB.out.trans (((((Below.refl _ _).alloc (Nat.le_refl _) _).alloc (by simp) _).drew).mono HB.out.size), false, rfl, by simp; exact differ hlt hlt2 (HNE.out)⟩
          subst hn
          go_wp2_with fail
          go_region
          all_goals
            go_wp2_with fail
            refine (IH.out _ _ _ _ _ _ _ _ _ (H1.out _ (((((Below.refl _ _).alloc (Nat.le_refl _) _).alloc (by simp) _).drew))) (H2.out _ (((((Below.refl _ _).alloc (Nat.le_refl _) _).alloc (by simp) _).drew)))).mono ?_
            rintro e w2 ⟨hb2, b, rfl, hbi⟩
            have HB2 := Lib.hid (HB.out.trans ((((((Below.refl _ _).alloc (Nat.le_refl _) _).alloc (by simp) _).drew).trans (hb2.mono (by simp; omega))).mono HB.out.size))
            have HBI := Lib.hid hbi
            clear hb2 hbi
            cases b
            · go_wp2_with fail
              go_ret
              refine ⟨HB2.out, false, rfl, ?_⟩
              simp
              refine differ hlt hlt2 ?_
              rw [HE1.out, HE2.out]; intro e; injection e; exact absurd (HBI.out.2 ‹_›) (by decide)
            · go_wp2_with fail
              go_roundw
              case rel =>
                refine ⟨j + 1, by omega, by go_num, ?_, HB2.out⟩
                rw [List.take_succ_eq_append_getElem hlt, List.take_succ_eq_append_getElem hlt2, HPRE.out, HE1.out, HE2.out, HBI.out.1 (by simp)]
              case measure => simp [intOf]; omega
        · have HB := Lib.hid hb
          clear hb
          go_wp2_with fail
          go_ret
          refine ⟨HB.out, true, rfl, ?_⟩
          simp only [true_iff]
          have hp := HPRE.out
          rw [List.take_of_length_le (by omega), List.take_of_length_le (by omega)] at hp
          exact hp
    · have hle : ((l1.length : Int) != (l2.length : Int)) = true := by rw [bne_iff_ne]; omega
      have HL := Lib.hid hlen
      clear hlen
      go_enter Tryz.func16, Tryz.ntmps16
      go_wp2_with fail
      go_ret
      exact ⟨.refl _ _, false, rfl, by simp; intro h; exact HL.out (by rw [h])⟩
end Go.Proofs.YthjonkommphkkaaGreatDoor
