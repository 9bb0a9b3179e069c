/-
  The context of a callee in the reference; contexts of objects; lists compared; walked.
-/
import Derived.Test.YtdjllogimomgmaaGreatDoorJkL
set_option linter.unusedSimpArgs false
set_option linter.unusedVariables false
namespace Go.Proofs.YtdjllogimomgmaaGreatDoor
open Ax Tx Go.RowKit
attribute [local simp] stepS Ax.stepT Dl.on qstep astep estep rd putE over argE ofV ofS loadA pickCells isAggD faddA fieldA partA iaddA idxA sliA bnd binA intA strA unA convA bltA lenA mapOf lookA findK keyD scalD storeA mupA appA srcA srcD upd drp Dl.hp Dl.nx CV.cs CV.one buildA placesA fillA zrep tasA ifaceD eqA eqFs eqIs range2 copyA nbeq nble nblt decEq beqI bneI beqS bneS isED Int.ofNat_inj List.getElem?_map List.getElem?_eq_getElem Option.map_some ti_int ti_bool ti_str ti_i64 ti_Strs ti_Hi ti_Cds ti_Cd ti_Flds ti_Fld ti_Sgs ti_Sg ti_Ins ti_Inss ti_Ints ti_Fu ti_Fus ti_Un ti_Se ti_Hs ti_Sits ti_Sit gd gdB callA resA op1
theorem puIs (l : List Int) : puR (l.map cvI) = true := puR_mapR (fun _ => rfl) l
theorem with_one (l : List Int) (x : Int) (hl : l.length ≤ 1000) : FCall1 Tryz.prog cxG 47 [.lst (l.map cvI), .int .i64 x] (.lst ((l ++ [x]).map cvI)) := (with_ok l x hl).one cxG_pu (by simp [puL, puV, puIs]) (by simp only [puV]; exact puIs _)
theorem rlast_one (l : List Int) (k : Nat) (hl : l.length ≤ 1000) (hk : k ≤ 1000) : FCall1 Tryz.prog cxG 46 [.lst (l.map cvI), .int .i64 k] (.lst ((lastL l k).map cvI)) := (rlast_ok l k hl hk).one cxG_pu (by simp [puL, puV, puIs]) (by simp only [puV]; exact puIs _)
set_option maxRecDepth 10000 in
set_option maxHeartbeats 16000000 in
theorem rpush_ok (u : Un) (hu : UnB1 u) (s : Se) (ctx : List Int) (hc : ctx.length ≤ 999) (call site : Int) (hs : site ≤ maxLen) (rctx : List Int) (hr : rctx.length ≤ 999) :
    FCall Tryz.prog cxG 23 [.agg (cvUn u), .agg (cvSe s), .lst (ctx.map cvI), .int .i64 call, .agg [.int .i64 site, .lst (rctx.map cvI)]] fun r => r = .ret (.lst ((pushL u s ctx call site rctx).map cvI)) := by
  have hlm : u.classes.length ≤ maxLen := by have := hu.hb.len; simp only [maxLen]; omega
  obtain ⟨w, hw⟩ : ∃ w, w = pushL u s ctx call site rctx := ⟨_, rfl⟩
  rw [← hw]
  unfold pushL at hw
  have nilr : w = [] → FCall Tryz.prog cxG 23 [.agg (cvUn u), .agg (cvSe s), .lst (ctx.map cvI), .int .i64 call, .agg [.int .i64 site, .lst (rctx.map cvI)]] (fun r => r = .ret .nils) → FCall Tryz.prog cxG 23 [.agg (cvUn u), .agg (cvSe s), .lst (ctx.map cvI), .int .i64 call, .agg [.int .i64 site, .lst (rctx.map cvI)]] fun r => r = .ret (.lst (w.map cvI)) := fun h hf => by rw [h]; exact FCall.nil_lst hf
  have e2 : ∀ nx : Nat, ¬ nx = nx + 1 + 1 := fun nx => by omega
  by_cases h1 : sensE s = 0
  case neg =>
    rw [if_pos (.inl h1)] at hw
    refine nilr hw ?_
    clear hw nilr
    refine FCall.ofBody Tryz.func23 rfl rfl fun nx => ?_
    repeat (first | (first | (apply AOpl.step; rfl) | apply ASl.step); focus simp [cvSe, *, -Option.some.injEq]; rfl | (first | (apply AOpl.stepG; rfl) | apply ASl.stepG); (focus simp [cvSe, *]; done); focus simp [cvSe, *, -Option.some.injEq]; rfl | (first | (apply AOpl.pass; rfl) | apply ASl.pass); (focus simp [cvSe, *]; done) | (first | refine AOpl.nil ?_ | refine AWp.skip ?_ | refine AWp.exit ?_ | refine AWp.ret ?_ | refine ASl.nil ?_); try simp only [Then, InBlock, reduceIte, Nat.reduceEqDiff] | refine AWp.seq ?_ | refine AWp.reg rfl ?_ | refine AWp.block ?_ | apply AWp.condT; focus simp [cvSe, *]; done | apply AWp.condF; focus simp [cvSe, *]; done | refine AWp.regT (by kernel_rfl) (by kernel_rfl) rfl rfl ?_)
    (first | (first | (apply AOpl.callN; rfl) | apply ASl.call); (focus simp [cvSe, *, -Option.some.injEq]; rfl); kernel_rfl | (first | (apply AOpl.callNG; rfl) | apply ASl.callg); (focus simp [cvSe, *]; done); (focus simp [cvSe, *, -Option.some.injEq]; rfl); kernel_rfl)
    · exact rscheck_ok s
    intro nx2 hn2
    repeat (first | (first | (apply AOpl.step; rfl) | apply ASl.step); focus simp [*, -Option.some.injEq]; rfl | (first | (apply AOpl.stepG; rfl) | apply ASl.stepG); (focus simp [*]; done); focus simp [*, -Option.some.injEq]; rfl | (first | (apply AOpl.pass; rfl) | apply ASl.pass); (focus simp [*]; done) | (first | refine AOpl.nil ?_ | refine AWp.skip ?_ | refine AWp.exit ?_ | refine AWp.ret ?_ | refine ASl.nil ?_); try simp only [Then, InBlock, reduceIte, Nat.reduceEqDiff] | refine AWp.seq ?_ | refine AWp.reg rfl ?_ | refine AWp.block ?_ | apply AWp.condT; focus simp [*]; done | apply AWp.condF; focus simp [*]; done | refine AWp.regT (by kernel_rfl) (by kernel_rfl) rfl rfl ?_)
    (refine ⟨_, (by simp [*]; rfl), ?_⟩; (try simp only [packA]))
    all_goals rfl
  obtain ⟨k0, k2, kd0, kd3, kz⟩ := sens_k h1
  have hck := rscheck_ok s
  rw [h1] at hck
  obtain ⟨kd, kk⟩ := s
  simp only at h1 hw k0 k2 kd0 kd3 kz
  by_cases hkd : kd = 0
  · have h2 := kz hkd
    rw [if_pos (.inr h2)] at hw
    refine nilr hw ?_
    clear hw nilr kz
    subst hkd
    obtain rfl : kk = 0 := h2
    refine FCall.ofBody Tryz.func23 rfl rfl fun nx => ?_
    repeat (first | (first | (apply AOpl.step; rfl) | apply ASl.step); focus simp [cvSe, *, -Option.some.injEq]; rfl | (first | (apply AOpl.stepG; rfl) | apply ASl.stepG); (focus simp [cvSe, *]; done); focus simp [cvSe, *, -Option.some.injEq]; rfl | (first | (apply AOpl.pass; rfl) | apply ASl.pass); (focus simp [cvSe, *]; done) | (first | refine AOpl.nil ?_ | refine AWp.skip ?_ | refine AWp.exit ?_ | refine AWp.ret ?_ | refine ASl.nil ?_); try simp only [Then, InBlock, reduceIte, Nat.reduceEqDiff] | refine AWp.seq ?_ | refine AWp.reg rfl ?_ | refine AWp.block ?_ | apply AWp.condT; focus simp [cvSe, *]; done | apply AWp.condF; focus simp [cvSe, *]; done | refine AWp.regT (by kernel_rfl) (by kernel_rfl) rfl rfl ?_)
    (first | (first | (apply AOpl.callN; rfl) | apply ASl.call); (focus simp [cvSe, *, -Option.some.injEq]; rfl); kernel_rfl | (first | (apply AOpl.callNG; rfl) | apply ASl.callg); (focus simp [cvSe, *]; done); (focus simp [cvSe, *, -Option.some.injEq]; rfl); kernel_rfl)
    · exact hck
    intro nx2 hn2
    have q2 : ∀ k, ¬ nx + 1 = nx2 + k := fun k => by omega
    repeat (first | (first | (apply AOpl.step; rfl) | apply ASl.step); focus simp [*, -Option.some.injEq]; rfl | (first | (apply AOpl.stepG; rfl) | apply ASl.stepG); (focus simp [*]; done); focus simp [*, -Option.some.injEq]; rfl | (first | (apply AOpl.pass; rfl) | apply ASl.pass); (focus simp [*]; done) | (first | refine AOpl.nil ?_ | refine AWp.skip ?_ | refine AWp.exit ?_ | refine AWp.ret ?_ | refine ASl.nil ?_); try simp only [Then, InBlock, reduceIte, Nat.reduceEqDiff] | refine AWp.seq ?_ | refine AWp.reg rfl ?_ | refine AWp.block ?_ | apply AWp.condT; focus simp [*]; done | apply AWp.condF; focus simp [*]; done | refine AWp.regT (by kernel_rfl) (by kernel_rfl) rfl rfl ?_)
    (refine ⟨_, (by simp [*]; rfl), ?_⟩; (try simp only [packA]))
    all_goals rfl
  clear nilr kz
  obtain ⟨k, rfl⟩ : ∃ k : Nat, kk = k := ⟨kk.toNat, by omega⟩
  have hk2 : k ≤ 1000 := by omega
  simp only [Int.toNat_natCast] at hw
  -- where nothing is kept, the last elements are none
  replace hw : w = (if kd = 1 then lastL (ctx ++ [call]) k else match siteAt u site with
    | none => lastL ctx k
    | some p => if kd = 2 then lastL (rctx ++ [site]) k else lastL (rctx ++ [findI u.classes (clsAt u p.fn)]) k) := by
    by_cases hz : (k : Int) = 0
    · rw [if_pos (.inr hz)] at hw
      have hz' : k = 0 := by omega
      subst hz'
      have z0 : ∀ l : List Int, lastL l 0 = [] := fun l => by unfold lastL; simp
      rw [hw]
      split
      · exact (z0 _).symm
      · split
        · exact (z0 _).symm
        · split <;> exact (z0 _).symm
    · rw [if_neg (by rintro (h | h); exact h h1; exact hz h)] at hw
      exact hw
  have rl : ∀ (l : List Int), l.length ≤ 1000 → FCall1 Tryz.prog cxG 46 [.lst (l.map cvI), .int .i64 k] (.lst ((lastL l k).map cvI)) := fun l a => rlast_one l k a hk2
  by_cases h3 : kd = 1
  · rw [if_pos h3] at hw
    subst h3
    refine FCall.ofBody Tryz.func23 rfl rfl fun nx => ?_
    have e2 := e2 nx
    repeat (first | (first | (apply AOpl.step; rfl) | apply ASl.step); focus simp [cvSe, *, -Option.some.injEq]; rfl | (first | (apply AOpl.stepG; rfl) | apply ASl.stepG); (focus simp [cvSe, *]; done); focus simp [cvSe, *, -Option.some.injEq]; rfl | (first | (apply AOpl.pass; rfl) | apply ASl.pass); (focus simp [cvSe, *]; done) | (first | refine AOpl.nil ?_ | refine AWp.skip ?_ | refine AWp.exit ?_ | refine AWp.ret ?_ | refine ASl.nil ?_); try simp only [Then, InBlock, reduceIte, Nat.reduceEqDiff] | refine AWp.seq ?_ | refine AWp.reg rfl ?_ | refine AWp.block ?_ | apply AWp.condT; focus simp [cvSe, *]; done | apply AWp.condF; focus simp [cvSe, *]; done | refine AWp.regT (by kernel_rfl) (by kernel_rfl) rfl rfl ?_)
    (first | (first | (apply AOpl.callN; rfl) | apply ASl.call); (focus simp [cvSe, *, -Option.some.injEq]; rfl); kernel_rfl | (first | (apply AOpl.callNG; rfl) | apply ASl.callg); (focus simp [cvSe, *]; done); (focus simp [cvSe, *, -Option.some.injEq]; rfl); kernel_rfl)
    · exact hck
    intro nx2 hn2
    have q2 : ∀ k, ¬ nx + 1 = nx2 + k := fun k => by omega
    repeat (first | (first | (apply AOpl.step; rfl) | apply ASl.step); focus simp [*, -Option.some.injEq]; rfl | (first | (apply AOpl.stepG; rfl) | apply ASl.stepG); (focus simp [*]; done); focus simp [*, -Option.some.injEq]; rfl | (first | (apply AOpl.pass; rfl) | apply ASl.pass); (focus simp [*]; done) | (first | refine AOpl.nil ?_ | refine AWp.skip ?_ | refine AWp.exit ?_ | refine AWp.ret ?_ | refine ASl.nil ?_); try simp only [Then, InBlock, reduceIte, Nat.reduceEqDiff] | refine AWp.seq ?_ | refine AWp.reg rfl ?_ | refine AWp.block ?_ | apply AWp.condT; focus simp [*]; done | apply AWp.condF; focus simp [*]; done | refine AWp.regT (by kernel_rfl) (by kernel_rfl) rfl rfl ?_)
    (first | (first | (apply AOpl.callN; rfl) | apply ASl.call); (focus simp [*, -Option.some.injEq]; rfl); kernel_rfl | (first | (apply AOpl.callNG; rfl) | apply ASl.callg); (focus simp [*]; done); (focus simp [*, -Option.some.injEq]; rfl); kernel_rfl)
    · exact with_one ctx call (by omega)
    repeat (first | (first | (apply AOpl.step; rfl) | apply ASl.step); focus simp [*, -Option.some.injEq]; rfl | (first | (apply AOpl.stepG; rfl) | apply ASl.stepG); (focus simp [*]; done); focus simp [*, -Option.some.injEq]; rfl | (first | (apply AOpl.pass; rfl) | apply ASl.pass); (focus simp [*]; done) | (first | refine AOpl.nil ?_ | refine AWp.skip ?_ | refine AWp.exit ?_ | refine AWp.ret ?_ | refine ASl.nil ?_); try simp only [Then, InBlock, reduceIte, Nat.reduceEqDiff] | refine AWp.seq ?_ | refine AWp.reg rfl ?_ | refine AWp.block ?_ | apply AWp.condT; focus simp [*]; done | apply AWp.condF; focus simp [*]; done | refine AWp.regT (by kernel_rfl) (by kernel_rfl) rfl rfl ?_)
    (first | (first | (apply AOpl.callN; rfl) | apply ASl.call); (focus simp [*, -Option.some.injEq]; rfl); kernel_rfl | (first | (apply AOpl.callNG; rfl) | apply ASl.callg); (focus simp [*]; done); (focus simp [*, -Option.some.injEq]; rfl); kernel_rfl)
    · have := rl (ctx ++ [call]) (by simp; omega)
      simpa using this
    repeat (first | (first | (apply AOpl.step; rfl) | apply ASl.step); focus simp [*, -Option.some.injEq]; rfl | (first | (apply AOpl.stepG; rfl) | apply ASl.stepG); (focus simp [*]; done); focus simp [*, -Option.some.injEq]; rfl | (first | (apply AOpl.pass; rfl) | apply ASl.pass); (focus simp [*]; done) | (first | refine AOpl.nil ?_ | refine AWp.skip ?_ | refine AWp.exit ?_ | refine AWp.ret ?_ | refine ASl.nil ?_); try simp only [Then, InBlock, reduceIte, Nat.reduceEqDiff] | refine AWp.seq ?_ | refine AWp.reg rfl ?_ | refine AWp.block ?_ | apply AWp.condT; focus simp [*]; done | apply AWp.condF; focus simp [*]; done | refine AWp.regT (by kernel_rfl) (by kernel_rfl) rfl rfl ?_)
    (refine ⟨_, (by simp [*]; rfl), ?_⟩; (try simp only [packA]))
    all_goals (rw [hw] <;> rfl)
  rw [if_neg h3] at hw
  have hst := sites_ok u hu
  obtain ⟨T, hT⟩ : ∃ T, sitesU 0 u.funcs = T := ⟨_, rfl⟩
  rw [hT] at hst
  by_cases hsi : site < 0 ∨ (T.length : Int) ≤ site
  · have hp : siteAt u site = none := by
      unfold siteAt
      rcases hsi with h | h
      · rw [if_pos h]
      · split
        · rfl
        · rw [hT]; exact List.getElem?_eq_none (by omega)
    rw [hp] at hw
    simp only at hw
    refine FCall.ofBody Tryz.func23 rfl rfl fun nx => ?_
    have e2 := e2 nx
    rcases (show site < 0 ∨ (¬ site < 0 ∧ (T.length : Int) ≤ site) by omega) with h | ⟨h, h'⟩
    all_goals
      repeat (first | (first | (apply AOpl.step; rfl) | apply ASl.step); focus simp [cvSe, *, -Option.some.injEq]; rfl | (first | (apply AOpl.stepG; rfl) | apply ASl.stepG); (focus simp [cvSe, *]; done); focus simp [cvSe, *, -Option.some.injEq]; rfl | (first | (apply AOpl.pass; rfl) | apply ASl.pass); (focus simp [cvSe, *]; done) | (first | refine AOpl.nil ?_ | refine AWp.skip ?_ | refine AWp.exit ?_ | refine AWp.ret ?_ | refine ASl.nil ?_); try simp only [Then, InBlock, reduceIte, Nat.reduceEqDiff] | refine AWp.seq ?_ | refine AWp.reg rfl ?_ | refine AWp.block ?_ | apply AWp.condT; focus simp [cvSe, *]; done | apply AWp.condF; focus simp [cvSe, *]; done | refine AWp.regT (by kernel_rfl) (by kernel_rfl) rfl rfl ?_)
      (first | (first | (apply AOpl.callN; rfl) | apply ASl.call); (focus simp [cvSe, *, -Option.some.injEq]; rfl); kernel_rfl | (first | (apply AOpl.callNG; rfl) | apply ASl.callg); (focus simp [cvSe, *]; done); (focus simp [cvSe, *, -Option.some.injEq]; rfl); kernel_rfl)
      · exact hck
      intro nx2 hn2
      have q1 : ∀ k, ¬ nx = nx2 + k := fun k => by omega
      have q2 : ∀ k, ¬ nx + 1 = nx2 + k := fun k => by omega
      have q3 : ∀ k, ¬ nx + 1 + 1 = nx2 + k := fun k => by omega
      repeat (first | (first | (apply AOpl.step; rfl) | apply ASl.step); focus simp [*, -Option.some.injEq]; rfl | (first | (apply AOpl.stepG; rfl) | apply ASl.stepG); (focus simp [*]; done); focus simp [*, -Option.some.injEq]; rfl | (first | (apply AOpl.pass; rfl) | apply ASl.pass); (focus simp [*]; done) | (first | refine AOpl.nil ?_ | refine AWp.skip ?_ | refine AWp.exit ?_ | refine AWp.ret ?_ | refine ASl.nil ?_); try simp only [Then, InBlock, reduceIte, Nat.reduceEqDiff] | refine AWp.seq ?_ | refine AWp.reg rfl ?_ | refine AWp.block ?_ | apply AWp.condT; focus simp [*]; done | apply AWp.condF; focus simp [*]; done | refine AWp.regT (by kernel_rfl) (by kernel_rfl) rfl rfl ?_)
      (first | (first | (apply AOpl.callN; rfl) | apply ASl.call); (focus simp [*, -Option.some.injEq]; rfl); kernel_rfl | (first | (apply AOpl.callNG; rfl) | apply ASl.callg); (focus simp [*]; done); (focus simp [*, -Option.some.injEq]; rfl); kernel_rfl)
      · exact hst
      intro nx3 hn3
      repeat (first | (first | (apply AOpl.step; rfl) | apply ASl.step); focus simp [*, -Option.some.injEq]; rfl | (first | (apply AOpl.stepG; rfl) | apply ASl.stepG); (focus simp [*]; done); focus simp [*, -Option.some.injEq]; rfl | (first | (apply AOpl.pass; rfl) | apply ASl.pass); (focus simp [*]; done) | (first | refine AOpl.nil ?_ | refine AWp.skip ?_ | refine AWp.exit ?_ | refine AWp.ret ?_ | refine ASl.nil ?_); try simp only [Then, InBlock, reduceIte, Nat.reduceEqDiff] | refine AWp.seq ?_ | refine AWp.reg rfl ?_ | refine AWp.block ?_ | apply AWp.condT; focus simp [*]; done | apply AWp.condF; focus simp [*]; done | refine AWp.regT (by kernel_rfl) (by kernel_rfl) rfl rfl ?_)
      (first | (first | (apply AOpl.callN; rfl) | apply ASl.call); (focus simp [*, -Option.some.injEq]; rfl); kernel_rfl | (first | (apply AOpl.callNG; rfl) | apply ASl.callg); (focus simp [*]; done); (focus simp [*, -Option.some.injEq]; rfl); kernel_rfl)
      · exact (rl ctx (by omega)).f
      intro nx4 hn4
      repeat (first | (first | (apply AOpl.step; rfl) | apply ASl.step); focus simp [*, -Option.some.injEq]; rfl | (first | (apply AOpl.stepG; rfl) | apply ASl.stepG); (focus simp [*]; done); focus simp [*, -Option.some.injEq]; rfl | (first | (apply AOpl.pass; rfl) | apply ASl.pass); (focus simp [*]; done) | (first | refine AOpl.nil ?_ | refine AWp.skip ?_ | refine AWp.exit ?_ | refine AWp.ret ?_ | refine ASl.nil ?_); try simp only [Then, InBlock, reduceIte, Nat.reduceEqDiff] | refine AWp.seq ?_ | refine AWp.reg rfl ?_ | refine AWp.block ?_ | apply AWp.condT; focus simp [*]; done | apply AWp.condF; focus simp [*]; done | refine AWp.regT (by kernel_rfl) (by kernel_rfl) rfl rfl ?_)
      (refine ⟨_, (by simp [*]; rfl), ?_⟩; (try simp only [packA]))
      all_goals (rw [hw] <;> rfl)
  simp only [not_or] at hsi
  obtain ⟨hs1, hs2⟩ := hsi
  obtain ⟨j, rfl⟩ : ∃ j : Nat, site = j := ⟨site.toNat, by omega⟩
  have hj : j < T.length := by omega
  have hp : siteAt u (j : Int) = some T[j] := by
    unfold siteAt
    rw [if_neg (by omega), hT]
    simp [hj]
  rw [hp] at hw
  simp only at hw
  have hpf := siteAt_fn hp
  have hcA : clsAt u T[j].fn = u.funcs[T[j].fn].cls := by simp [clsAt, hpf]
  rw [hcA] at hw
  clear hp
  refine FCall.ofBody Tryz.func23 rfl rfl fun nx => ?_
  have e2 := e2 nx
  repeat (first | (first | (apply AOpl.step; rfl) | apply ASl.step); focus simp [cvSe, *, -Option.some.injEq]; rfl | (first | (apply AOpl.stepG; rfl) | apply ASl.stepG); (focus simp [cvSe, *]; done); focus simp [cvSe, *, -Option.some.injEq]; rfl | (first | (apply AOpl.pass; rfl) | apply ASl.pass); (focus simp [cvSe, *]; done) | (first | refine AOpl.nil ?_ | refine AWp.skip ?_ | refine AWp.exit ?_ | refine AWp.ret ?_ | refine ASl.nil ?_); try simp only [Then, InBlock, reduceIte, Nat.reduceEqDiff] | refine AWp.seq ?_ | refine AWp.reg rfl ?_ | refine AWp.block ?_ | apply AWp.condT; focus simp [cvSe, *]; done | apply AWp.condF; focus simp [cvSe, *]; done | refine AWp.regT (by kernel_rfl) (by kernel_rfl) rfl rfl ?_)
  (first | (first | (apply AOpl.callN; rfl) | apply ASl.call); (focus simp [cvSe, *, -Option.some.injEq]; rfl); kernel_rfl | (first | (apply AOpl.callNG; rfl) | apply ASl.callg); (focus simp [cvSe, *]; done); (focus simp [cvSe, *, -Option.some.injEq]; rfl); kernel_rfl)
  · exact hck
  intro nx2 hn2
  have q1 : ∀ k, ¬ nx = nx2 + k := fun k => by omega
  have q2 : ∀ k, ¬ nx + 1 = nx2 + k := fun k => by omega
  have q3 : ∀ k, ¬ nx + 1 + 1 = nx2 + k := fun k => by omega
  repeat (first | (first | (apply AOpl.step; rfl) | apply ASl.step); focus simp [*, -Option.some.injEq]; rfl | (first | (apply AOpl.stepG; rfl) | apply ASl.stepG); (focus simp [*]; done); focus simp [*, -Option.some.injEq]; rfl | (first | (apply AOpl.pass; rfl) | apply ASl.pass); (focus simp [*]; done) | (first | refine AOpl.nil ?_ | refine AWp.skip ?_ | refine AWp.exit ?_ | refine AWp.ret ?_ | refine ASl.nil ?_); try simp only [Then, InBlock, reduceIte, Nat.reduceEqDiff] | refine AWp.seq ?_ | refine AWp.reg rfl ?_ | refine AWp.block ?_ | apply AWp.condT; focus simp [*]; done | apply AWp.condF; focus simp [*]; done | refine AWp.regT (by kernel_rfl) (by kernel_rfl) rfl rfl ?_)
  (first | (first | (apply AOpl.callN; rfl) | apply ASl.call); (focus simp [*, -Option.some.injEq]; rfl); kernel_rfl | (first | (apply AOpl.callNG; rfl) | apply ASl.callg); (focus simp [*]; done); (focus simp [*, -Option.some.injEq]; rfl); kernel_rfl)
  · exact hst
  intro nx3 hn3
  have hs2' : ¬ T.length ≤ j := by omega
  by_cases h4 : kd = 2
  · rw [if_pos h4] at hw
    subst h4
    repeat (first | (first | (apply AOpl.step; rfl) | apply ASl.step); focus simp [*, -Option.some.injEq]; rfl | (first | (apply AOpl.stepG; rfl) | apply ASl.stepG); (focus simp [*]; done); focus simp [*, -Option.some.injEq]; rfl | (first | (apply AOpl.pass; rfl) | apply ASl.pass); (focus simp [*]; done) | (first | refine AOpl.nil ?_ | refine AWp.skip ?_ | refine AWp.exit ?_ | refine AWp.ret ?_ | refine ASl.nil ?_); try simp only [Then, InBlock, reduceIte, Nat.reduceEqDiff] | refine AWp.seq ?_ | refine AWp.reg rfl ?_ | refine AWp.block ?_ | apply AWp.condT; focus simp [*]; done | apply AWp.condF; focus simp [*]; done | refine AWp.regT (by kernel_rfl) (by kernel_rfl) rfl rfl ?_)
    (first | (first | (apply AOpl.callN; rfl) | apply ASl.call); (focus simp [*, -Option.some.injEq]; rfl); kernel_rfl | (first | (apply AOpl.callNG; rfl) | apply ASl.callg); (focus simp [*]; done); (focus simp [*, -Option.some.injEq]; rfl); kernel_rfl)
    · exact with_one rctx j (by omega)
    repeat (first | (first | (apply AOpl.step; rfl) | apply ASl.step); focus simp [*, -Option.some.injEq]; rfl | (first | (apply AOpl.stepG; rfl) | apply ASl.stepG); (focus simp [*]; done); focus simp [*, -Option.some.injEq]; rfl | (first | (apply AOpl.pass; rfl) | apply ASl.pass); (focus simp [*]; done) | (first | refine AOpl.nil ?_ | refine AWp.skip ?_ | refine AWp.exit ?_ | refine AWp.ret ?_ | refine ASl.nil ?_); try simp only [Then, InBlock, reduceIte, Nat.reduceEqDiff] | refine AWp.seq ?_ | refine AWp.reg rfl ?_ | refine AWp.block ?_ | apply AWp.condT; focus simp [*]; done | apply AWp.condF; focus simp [*]; done | refine AWp.regT (by kernel_rfl) (by kernel_rfl) rfl rfl ?_)
    (first | (first | (apply AOpl.callN; rfl) | apply ASl.call); (focus simp [*, -Option.some.injEq]; rfl); kernel_rfl | (first | (apply AOpl.callNG; rfl) | apply ASl.callg); (focus simp [*]; done); (focus simp [*, -Option.some.injEq]; rfl); kernel_rfl)
    · have := rl (rctx ++ [(j : Int)]) (by simp; omega)
      simpa using this
    repeat (first | (first | (apply AOpl.step; rfl) | apply ASl.step); focus simp [*, -Option.some.injEq]; rfl | (first | (apply AOpl.stepG; rfl) | apply ASl.stepG); (focus simp [*]; done); focus simp [*, -Option.some.injEq]; rfl | (first | (apply AOpl.pass; rfl) | apply ASl.pass); (focus simp [*]; done) | (first | refine AOpl.nil ?_ | refine AWp.skip ?_ | refine AWp.exit ?_ | refine AWp.ret ?_ | refine ASl.nil ?_); try simp only [Then, InBlock, reduceIte, Nat.reduceEqDiff] | refine AWp.seq ?_ | refine AWp.reg rfl ?_ | refine AWp.block ?_ | apply AWp.condT; focus simp [*]; done | apply AWp.condF; focus simp [*]; done | refine AWp.regT (by kernel_rfl) (by kernel_rfl) rfl rfl ?_)
    (refine ⟨_, (by simp [*]; rfl), ?_⟩; (try simp only [packA]))
    all_goals (rw [hw] <;> rfl)
  · rw [if_neg h4] at hw
    repeat (first | (first | (apply AOpl.step; rfl) | apply ASl.step); focus simp [cvUn, cvS3, cvFu, *, -Option.some.injEq]; rfl | (first | (apply AOpl.stepG; rfl) | apply ASl.stepG); (focus simp [cvUn, cvS3, cvFu, *]; done); focus simp [cvUn, cvS3, cvFu, *, -Option.some.injEq]; rfl | (first | (apply AOpl.pass; rfl) | apply ASl.pass); (focus simp [cvUn, cvS3, cvFu, *]; done) | (first | refine AOpl.nil ?_ | refine AWp.skip ?_ | refine AWp.exit ?_ | refine AWp.ret ?_ | refine ASl.nil ?_); try simp only [Then, InBlock, reduceIte, Nat.reduceEqDiff] | refine AWp.seq ?_ | refine AWp.reg rfl ?_ | refine AWp.block ?_ | apply AWp.condT; focus simp [cvUn, cvS3, cvFu, *]; done | apply AWp.condF; focus simp [cvUn, cvS3, cvFu, *]; done | refine AWp.regT (by kernel_rfl) (by kernel_rfl) rfl rfl ?_)
    (first | (first | (apply AOpl.callN; rfl) | apply ASl.call); (focus simp [cvUn, cvS3, cvFu, *, -Option.some.injEq]; rfl); kernel_rfl | (first | (apply AOpl.callNG; rfl) | apply ASl.callg); (focus simp [cvUn, cvS3, cvFu, *]; done); (focus simp [cvUn, cvS3, cvFu, *, -Option.some.injEq]; rfl); kernel_rfl)
    · exact find_one u.classes hlm _
    repeat (first | (first | (apply AOpl.step; rfl) | apply ASl.step); focus simp [*, -Option.some.injEq]; rfl | (first | (apply AOpl.stepG; rfl) | apply ASl.stepG); (focus simp [*]; done); focus simp [*, -Option.some.injEq]; rfl | (first | (apply AOpl.pass; rfl) | apply ASl.pass); (focus simp [*]; done) | (first | refine AOpl.nil ?_ | refine AWp.skip ?_ | refine AWp.exit ?_ | refine AWp.ret ?_ | refine ASl.nil ?_); try simp only [Then, InBlock, reduceIte, Nat.reduceEqDiff] | refine AWp.seq ?_ | refine AWp.reg rfl ?_ | refine AWp.block ?_ | apply AWp.condT; focus simp [*]; done | apply AWp.condF; focus simp [*]; done | refine AWp.regT (by kernel_rfl) (by kernel_rfl) rfl rfl ?_)
    (first | (first | (apply AOpl.callN; rfl) | apply ASl.call); (focus simp [*, -Option.some.injEq]; rfl); kernel_rfl | (first | (apply AOpl.callNG; rfl) | apply ASl.callg); (focus simp [*]; done); (focus simp [*, -Option.some.injEq]; rfl); kernel_rfl)
    · exact with_one rctx _ (by omega)
    repeat (first | (first | (apply AOpl.step; rfl) | apply ASl.step); focus simp [*, -Option.some.injEq]; rfl | (first | (apply AOpl.stepG; rfl) | apply ASl.stepG); (focus simp [*]; done); focus simp [*, -Option.some.injEq]; rfl | (first | (apply AOpl.pass; rfl) | apply ASl.pass); (focus simp [*]; done) | (first | refine AOpl.nil ?_ | refine AWp.skip ?_ | refine AWp.exit ?_ | refine AWp.ret ?_ | refine ASl.nil ?_); try simp only [Then, InBlock, reduceIte, Nat.reduceEqDiff] | refine AWp.seq ?_ | refine AWp.reg rfl ?_ | refine AWp.block ?_ | apply AWp.condT; focus simp [*]; done | apply AWp.condF; focus simp [*]; done | refine AWp.regT (by kernel_rfl) (by kernel_rfl) rfl rfl ?_)
    (first | (first | (apply AOpl.callN; rfl) | apply ASl.call); (focus simp [*, -Option.some.injEq]; rfl); kernel_rfl | (first | (apply AOpl.callNG; rfl) | apply ASl.callg); (focus simp [*]; done); (focus simp [*, -Option.some.injEq]; rfl); kernel_rfl)
    · have := rl (rctx ++ [findI u.classes u.funcs[T[j].fn].cls]) (by simp; omega)
      simpa using this
    repeat (first | (first | (apply AOpl.step; rfl) | apply ASl.step); focus simp [*, -Option.some.injEq]; rfl | (first | (apply AOpl.stepG; rfl) | apply ASl.stepG); (focus simp [*]; done); focus simp [*, -Option.some.injEq]; rfl | (first | (apply AOpl.pass; rfl) | apply ASl.pass); (focus simp [*]; done) | (first | refine AOpl.nil ?_ | refine AWp.skip ?_ | refine AWp.exit ?_ | refine AWp.ret ?_ | refine ASl.nil ?_); try simp only [Then, InBlock, reduceIte, Nat.reduceEqDiff] | refine AWp.seq ?_ | refine AWp.reg rfl ?_ | refine AWp.block ?_ | apply AWp.condT; focus simp [*]; done | apply AWp.condF; focus simp [*]; done | refine AWp.regT (by kernel_rfl) (by kernel_rfl) rfl rfl ?_)
    (refine ⟨_, (by simp [*]; rfl), ?_⟩; (try simp only [packA]))
    all_goals (rw [hw] <;> rfl)
def heapL22 (s : Se) (ctx : List Int) : List Int := if sensE s ≠ 0 ∨ s.k < 2 then [] else lastL ctx (s.k - 1).toNat
set_option maxRecDepth 10000 in
set_option maxHeartbeats 4000000 in
theorem heap_ok (s : Se) (ctx : List Int) (hc : ctx.length ≤ 999) : FCall Tryz.prog cxG 24 [.agg (cvSe s), .lst (ctx.map cvI)] fun r => r = .ret (.lst ((heapL22 s ctx).map cvI)) := by
  obtain ⟨w, hw⟩ : ∃ w, w = heapL22 s ctx := ⟨_, rfl⟩
  rw [← hw]
  unfold heapL22 at hw
  have nilr : w = [] → FCall Tryz.prog cxG 24 [.agg (cvSe s), .lst (ctx.map cvI)] (fun r => r = .ret .nils) → FCall Tryz.prog cxG 24 [.agg (cvSe s), .lst (ctx.map cvI)] fun r => r = .ret (.lst (w.map cvI)) := fun h hf => by rw [h]; exact FCall.nil_lst hf
  by_cases h1 : sensE s = 0
  case neg =>
    rw [if_pos (.inl h1)] at hw
    refine nilr hw ?_
    clear hw nilr
    refine FCall.ofBody Tryz.func24 rfl rfl fun nx => ?_
    repeat (first | (first | (apply AOpl.step; rfl) | apply ASl.step); focus simp [cvSe, *, -Option.some.injEq]; rfl | (first | (apply AOpl.stepG; rfl) | apply ASl.stepG); (focus simp [cvSe, *]; done); focus simp [cvSe, *, -Option.some.injEq]; rfl | (first | (apply AOpl.pass; rfl) | apply ASl.pass); (focus simp [cvSe, *]; done) | (first | refine AOpl.nil ?_ | refine AWp.skip ?_ | refine AWp.exit ?_ | refine AWp.ret ?_ | refine ASl.nil ?_); try simp only [Then, InBlock, reduceIte, Nat.reduceEqDiff] | refine AWp.seq ?_ | refine AWp.reg rfl ?_ | refine AWp.block ?_ | apply AWp.condT; focus simp [cvSe, *]; done | apply AWp.condF; focus simp [cvSe, *]; done | refine AWp.regT (by kernel_rfl) (by kernel_rfl) rfl rfl ?_)
    (first | (first | (apply AOpl.callN; rfl) | apply ASl.call); (focus simp [cvSe, *, -Option.some.injEq]; rfl); kernel_rfl | (first | (apply AOpl.callNG; rfl) | apply ASl.callg); (focus simp [cvSe, *]; done); (focus simp [cvSe, *, -Option.some.injEq]; rfl); kernel_rfl)
    · exact scheck_ok s
    intro nx2 hn2
    repeat (first | (first | (apply AOpl.step; rfl) | apply ASl.step); focus simp [*, -Option.some.injEq]; rfl | (first | (apply AOpl.stepG; rfl) | apply ASl.stepG); (focus simp [*]; done); focus simp [*, -Option.some.injEq]; rfl | (first | (apply AOpl.pass; rfl) | apply ASl.pass); (focus simp [*]; done) | (first | refine AOpl.nil ?_ | refine AWp.skip ?_ | refine AWp.exit ?_ | refine AWp.ret ?_ | refine ASl.nil ?_); try simp only [Then, InBlock, reduceIte, Nat.reduceEqDiff] | refine AWp.seq ?_ | refine AWp.reg rfl ?_ | refine AWp.block ?_ | apply AWp.condT; focus simp [*]; done | apply AWp.condF; focus simp [*]; done | refine AWp.regT (by kernel_rfl) (by kernel_rfl) rfl rfl ?_)
    (refine ⟨_, (by simp [*]; rfl), ?_⟩; (try simp only [packA]))
    all_goals rfl
  have hck := scheck_ok s
  rw [h1] at hck
  obtain ⟨k0, k2, kd0, kd3, kz⟩ := sens_k h1
  by_cases h2 : s.k < 2
  · rw [if_pos (.inr h2)] at hw
    refine nilr hw ?_
    clear hw nilr kz
    refine FCall.ofBody Tryz.func24 rfl rfl fun nx => ?_
    repeat (first | (first | (apply AOpl.step; rfl) | apply ASl.step); focus simp [cvSe, *, -Option.some.injEq]; rfl | (first | (apply AOpl.stepG; rfl) | apply ASl.stepG); (focus simp [cvSe, *]; done); focus simp [cvSe, *, -Option.some.injEq]; rfl | (first | (apply AOpl.pass; rfl) | apply ASl.pass); (focus simp [cvSe, *]; done) | (first | refine AOpl.nil ?_ | refine AWp.skip ?_ | refine AWp.exit ?_ | refine AWp.ret ?_ | refine ASl.nil ?_); try simp only [Then, InBlock, reduceIte, Nat.reduceEqDiff] | refine AWp.seq ?_ | refine AWp.reg rfl ?_ | refine AWp.block ?_ | apply AWp.condT; focus simp [cvSe, *]; done | apply AWp.condF; focus simp [cvSe, *]; done | refine AWp.regT (by kernel_rfl) (by kernel_rfl) rfl rfl ?_)
    (first | (first | (apply AOpl.callN; rfl) | apply ASl.call); (focus simp [cvSe, *, -Option.some.injEq]; rfl); kernel_rfl | (first | (apply AOpl.callNG; rfl) | apply ASl.callg); (focus simp [cvSe, *]; done); (focus simp [cvSe, *, -Option.some.injEq]; rfl); kernel_rfl)
    · exact hck
    intro nx2 hn2
    have q1 : ∀ k, ¬ nx = nx2 + k := fun k => by omega
    repeat (first | (first | (apply AOpl.step; rfl) | apply ASl.step); focus simp [*, -Option.some.injEq]; rfl | (first | (apply AOpl.stepG; rfl) | apply ASl.stepG); (focus simp [*]; done); focus simp [*, -Option.some.injEq]; rfl | (first | (apply AOpl.pass; rfl) | apply ASl.pass); (focus simp [*]; done) | (first | refine AOpl.nil ?_ | refine AWp.skip ?_ | refine AWp.exit ?_ | refine AWp.ret ?_ | refine ASl.nil ?_); try simp only [Then, InBlock, reduceIte, Nat.reduceEqDiff] | refine AWp.seq ?_ | refine AWp.reg rfl ?_ | refine AWp.block ?_ | apply AWp.condT; focus simp [*]; done | apply AWp.condF; focus simp [*]; done | refine AWp.regT (by kernel_rfl) (by kernel_rfl) rfl rfl ?_)
    (refine ⟨_, (by simp [*]; rfl), ?_⟩; (try simp only [packA]))
    all_goals rfl
  rw [if_neg (by rintro (h | h); exact h h1; exact h2 h)] at hw
  clear nilr kz
  obtain ⟨kd, kk⟩ := s
  simp only at h1 hw h2 k0 k2
  obtain rfl : kk = 2 := by omega
  have hw : w = lastL ctx 1 := hw
  have wz : IntKind.i64.wrap 1 = 1 := by rw [IntKind.wrap_i64]; rfl
  refine FCall.ofBody Tryz.func24 rfl rfl fun nx => ?_
  repeat (first | (first | (apply AOpl.step; rfl) | apply ASl.step); focus simp [cvSe, *, -Option.some.injEq]; rfl | (first | (apply AOpl.stepG; rfl) | apply ASl.stepG); (focus simp [cvSe, *]; done); focus simp [cvSe, *, -Option.some.injEq]; rfl | (first | (apply AOpl.pass; rfl) | apply ASl.pass); (focus simp [cvSe, *]; done) | (first | refine AOpl.nil ?_ | refine AWp.skip ?_ | refine AWp.exit ?_ | refine AWp.ret ?_ | refine ASl.nil ?_); try simp only [Then, InBlock, reduceIte, Nat.reduceEqDiff] | refine AWp.seq ?_ | refine AWp.reg rfl ?_ | refine AWp.block ?_ | apply AWp.condT; focus simp [cvSe, *]; done | apply AWp.condF; focus simp [cvSe, *]; done | refine AWp.regT (by kernel_rfl) (by kernel_rfl) rfl rfl ?_)
  (first | (first | (apply AOpl.callN; rfl) | apply ASl.call); (focus simp [cvSe, *, -Option.some.injEq]; rfl); kernel_rfl | (first | (apply AOpl.callNG; rfl) | apply ASl.callg); (focus simp [cvSe, *]; done); (focus simp [cvSe, *, -Option.some.injEq]; rfl); kernel_rfl)
  · exact hck
  intro nx2 hn2
  have q1 : ∀ k, ¬ nx = nx2 + k := fun k => by omega
  repeat (first | (first | (apply AOpl.step; rfl) | apply ASl.step); focus simp [*, -Option.some.injEq]; rfl | (first | (apply AOpl.stepG; rfl) | apply ASl.stepG); (focus simp [*]; done); focus simp [*, -Option.some.injEq]; rfl | (first | (apply AOpl.pass; rfl) | apply ASl.pass); (focus simp [*]; done) | (first | refine AOpl.nil ?_ | refine AWp.skip ?_ | refine AWp.exit ?_ | refine AWp.ret ?_ | refine ASl.nil ?_); try simp only [Then, InBlock, reduceIte, Nat.reduceEqDiff] | refine AWp.seq ?_ | refine AWp.reg rfl ?_ | refine AWp.block ?_ | apply AWp.condT; focus simp [*]; done | apply AWp.condF; focus simp [*]; done | refine AWp.regT (by kernel_rfl) (by kernel_rfl) rfl rfl ?_)
  (first | (first | (apply AOpl.callN; rfl) | apply ASl.call); (focus simp [*, -Option.some.injEq]; rfl); kernel_rfl | (first | (apply AOpl.callNG; rfl) | apply ASl.callg); (focus simp [*]; done); (focus simp [*, -Option.some.injEq]; rfl); kernel_rfl)
  · exact clast_nil 1 ctx (by omega) (by omega)
  intro nx4 hn4
  repeat (first | (first | (apply AOpl.step; rfl) | apply ASl.step); focus simp [*, -Option.some.injEq]; rfl | (first | (apply AOpl.stepG; rfl) | apply ASl.stepG); (focus simp [*]; done); focus simp [*, -Option.some.injEq]; rfl | (first | (apply AOpl.pass; rfl) | apply ASl.pass); (focus simp [*]; done) | (first | refine AOpl.nil ?_ | refine AWp.skip ?_ | refine AWp.exit ?_ | refine AWp.ret ?_ | refine ASl.nil ?_); try simp only [Then, InBlock, reduceIte, Nat.reduceEqDiff] | refine AWp.seq ?_ | refine AWp.reg rfl ?_ | refine AWp.block ?_ | apply AWp.condT; focus simp [*]; done | apply AWp.condF; focus simp [*]; done | refine AWp.regT (by kernel_rfl) (by kernel_rfl) rfl rfl ?_)
  (refine ⟨_, (by simp [*]; rfl), ?_⟩; (try simp only [packA]))
  all_goals (rw [hw] <;> rfl)
set_option maxRecDepth 10000 in
set_option maxHeartbeats 4000000 in
theorem rheap_ok (s : Se) (ctx : List Int) (hc : ctx.length ≤ 999) : FCall Tryz.prog cxG 25 [.agg (cvSe s), .lst (ctx.map cvI)] fun r => r = .ret (.lst ((heapL22 s ctx).map cvI)) := by
  obtain ⟨w, hw⟩ : ∃ w, w = heapL22 s ctx := ⟨_, rfl⟩
  rw [← hw]
  unfold heapL22 at hw
  have nilr : w = [] → FCall Tryz.prog cxG 25 [.agg (cvSe s), .lst (ctx.map cvI)] (fun r => r = .ret .nils) → FCall Tryz.prog cxG 25 [.agg (cvSe s), .lst (ctx.map cvI)] fun r => r = .ret (.lst (w.map cvI)) := fun h hf => by rw [h]; exact FCall.nil_lst hf
  by_cases h1 : sensE s = 0
  case neg =>
    rw [if_pos (.inl h1)] at hw
    refine nilr hw ?_
    clear hw nilr
    refine FCall.ofBody Tryz.func25 rfl rfl fun nx => ?_
    repeat (first | (first | (apply AOpl.step; rfl) | apply ASl.step); focus simp [cvSe, *, -Option.some.injEq]; rfl | (first | (apply AOpl.stepG; rfl) | apply ASl.stepG); (focus simp [cvSe, *]; done); focus simp [cvSe, *, -Option.some.injEq]; rfl | (first | (apply AOpl.pass; rfl) | apply ASl.pass); (focus simp [cvSe, *]; done) | (first | refine AOpl.nil ?_ | refine AWp.skip ?_ | refine AWp.exit ?_ | refine AWp.ret ?_ | refine ASl.nil ?_); try simp only [Then, InBlock, reduceIte, Nat.reduceEqDiff] | refine AWp.seq ?_ | refine AWp.reg rfl ?_ | refine AWp.block ?_ | apply AWp.condT; focus simp [cvSe, *]; done | apply AWp.condF; focus simp [cvSe, *]; done | refine AWp.regT (by kernel_rfl) (by kernel_rfl) rfl rfl ?_)
    (first | (first | (apply AOpl.callN; rfl) | apply ASl.call); (focus simp [cvSe, *, -Option.some.injEq]; rfl); kernel_rfl | (first | (apply AOpl.callNG; rfl) | apply ASl.callg); (focus simp [cvSe, *]; done); (focus simp [cvSe, *, -Option.some.injEq]; rfl); kernel_rfl)
    · exact rscheck_ok s
    intro nx2 hn2
    repeat (first | (first | (apply AOpl.step; rfl) | apply ASl.step); focus simp [*, -Option.some.injEq]; rfl | (first | (apply AOpl.stepG; rfl) | apply ASl.stepG); (focus simp [*]; done); focus simp [*, -Option.some.injEq]; rfl | (first | (apply AOpl.pass; rfl) | apply ASl.pass); (focus simp [*]; done) | (first | refine AOpl.nil ?_ | refine AWp.skip ?_ | refine AWp.exit ?_ | refine AWp.ret ?_ | refine ASl.nil ?_); try simp only [Then, InBlock, reduceIte, Nat.reduceEqDiff] | refine AWp.seq ?_ | refine AWp.reg rfl ?_ | refine AWp.block ?_ | apply AWp.condT; focus simp [*]; done | apply AWp.condF; focus simp [*]; done | refine AWp.regT (by kernel_rfl) (by kernel_rfl) rfl rfl ?_)
    (refine ⟨_, (by simp [*]; rfl), ?_⟩; (try simp only [packA]))
    all_goals rfl
  have hck := rscheck_ok s
  rw [h1] at hck
  obtain ⟨k0, k2, kd0, kd3, kz⟩ := sens_k h1
  by_cases h2 : s.k < 2
  · rw [if_pos (.inr h2)] at hw
    refine nilr hw ?_
    clear hw nilr kz
    refine FCall.ofBody Tryz.func25 rfl rfl fun nx => ?_
    repeat (first | (first | (apply AOpl.step; rfl) | apply ASl.step); focus simp [cvSe, *, -Option.some.injEq]; rfl | (first | (apply AOpl.stepG; rfl) | apply ASl.stepG); (focus simp [cvSe, *]; done); focus simp [cvSe, *, -Option.some.injEq]; rfl | (first | (apply AOpl.pass; rfl) | apply ASl.pass); (focus simp [cvSe, *]; done) | (first | refine AOpl.nil ?_ | refine AWp.skip ?_ | refine AWp.exit ?_ | refine AWp.ret ?_ | refine ASl.nil ?_); try simp only [Then, InBlock, reduceIte, Nat.reduceEqDiff] | refine AWp.seq ?_ | refine AWp.reg rfl ?_ | refine AWp.block ?_ | apply AWp.condT; focus simp [cvSe, *]; done | apply AWp.condF; focus simp [cvSe, *]; done | refine AWp.regT (by kernel_rfl) (by kernel_rfl) rfl rfl ?_)
    (first | (first | (apply AOpl.callN; rfl) | apply ASl.call); (focus simp [cvSe, *, -Option.some.injEq]; rfl); kernel_rfl | (first | (apply AOpl.callNG; rfl) | apply ASl.callg); (focus simp [cvSe, *]; done); (focus simp [cvSe, *, -Option.some.injEq]; rfl); kernel_rfl)
    · exact hck
    intro nx2 hn2
    have q1 : ∀ k, ¬ nx = nx2 + k := fun k => by omega
    repeat (first | (first | (apply AOpl.step; rfl) | apply ASl.step); focus simp [*, -Option.some.injEq]; rfl | (first | (apply AOpl.stepG; rfl) | apply ASl.stepG); (focus simp [*]; done); focus simp [*, -Option.some.injEq]; rfl | (first | (apply AOpl.pass; rfl) | apply ASl.pass); (focus simp [*]; done) | (first | refine AOpl.nil ?_ | refine AWp.skip ?_ | refine AWp.exit ?_ | refine AWp.ret ?_ | refine ASl.nil ?_); try simp only [Then, InBlock, reduceIte, Nat.reduceEqDiff] | refine AWp.seq ?_ | refine AWp.reg rfl ?_ | refine AWp.block ?_ | apply AWp.condT; focus simp [*]; done | apply AWp.condF; focus simp [*]; done | refine AWp.regT (by kernel_rfl) (by kernel_rfl) rfl rfl ?_)
    (refine ⟨_, (by simp [*]; rfl), ?_⟩; (try simp only [packA]))
    all_goals rfl
  rw [if_neg (by rintro (h | h); exact h h1; exact h2 h)] at hw
  clear nilr kz
  obtain ⟨kd, kk⟩ := s
  simp only at h1 hw h2 k0 k2
  obtain rfl : kk = 2 := by omega
  have hw : w = lastL ctx 1 := hw
  have wz : IntKind.i64.wrap 1 = 1 := by rw [IntKind.wrap_i64]; rfl
  refine FCall.ofBody Tryz.func25 rfl rfl fun nx => ?_
  repeat (first | (first | (apply AOpl.step; rfl) | apply ASl.step); focus simp [cvSe, *, -Option.some.injEq]; rfl | (first | (apply AOpl.stepG; rfl) | apply ASl.stepG); (focus simp [cvSe, *]; done); focus simp [cvSe, *, -Option.some.injEq]; rfl | (first | (apply AOpl.pass; rfl) | apply ASl.pass); (focus simp [cvSe, *]; done) | (first | refine AOpl.nil ?_ | refine AWp.skip ?_ | refine AWp.exit ?_ | refine AWp.ret ?_ | refine ASl.nil ?_); try simp only [Then, InBlock, reduceIte, Nat.reduceEqDiff] | refine AWp.seq ?_ | refine AWp.reg rfl ?_ | refine AWp.block ?_ | apply AWp.condT; focus simp [cvSe, *]; done | apply AWp.condF; focus simp [cvSe, *]; done | refine AWp.regT (by kernel_rfl) (by kernel_rfl) rfl rfl ?_)
  (first | (first | (apply AOpl.callN; rfl) | apply ASl.call); (focus simp [cvSe, *, -Option.some.injEq]; rfl); kernel_rfl | (first | (apply AOpl.callNG; rfl) | apply ASl.callg); (focus simp [cvSe, *]; done); (focus simp [cvSe, *, -Option.some.injEq]; rfl); kernel_rfl)
  · exact hck
  intro nx2 hn2
  have q1 : ∀ k, ¬ nx = nx2 + k := fun k => by omega
  repeat (first | (first | (apply AOpl.step; rfl) | apply ASl.step); focus simp [*, -Option.some.injEq]; rfl | (first | (apply AOpl.stepG; rfl) | apply ASl.stepG); (focus simp [*]; done); focus simp [*, -Option.some.injEq]; rfl | (first | (apply AOpl.pass; rfl) | apply ASl.pass); (focus simp [*]; done) | (first | refine AOpl.nil ?_ | refine AWp.skip ?_ | refine AWp.exit ?_ | refine AWp.ret ?_ | refine ASl.nil ?_); try simp only [Then, InBlock, reduceIte, Nat.reduceEqDiff] | refine AWp.seq ?_ | refine AWp.reg rfl ?_ | refine AWp.block ?_ | apply AWp.condT; focus simp [*]; done | apply AWp.condF; focus simp [*]; done | refine AWp.regT (by kernel_rfl) (by kernel_rfl) rfl rfl ?_)
  (first | (first | (apply AOpl.callN; rfl) | apply ASl.call); (focus simp [*, -Option.some.injEq]; rfl); kernel_rfl | (first | (apply AOpl.callNG; rfl) | apply ASl.callg); (focus simp [*]; done); (focus simp [*, -Option.some.injEq]; rfl); kernel_rfl)
  · exact (rlast_one ctx 1 (by omega) (by omega)).f
  intro nx4 hn4
  repeat (first | (first | (apply AOpl.step; rfl) | apply ASl.step); focus simp [*, -Option.some.injEq]; rfl | (first | (apply AOpl.stepG; rfl) | apply ASl.stepG); (focus simp [*]; done); focus simp [*, -Option.some.injEq]; rfl | (first | (apply AOpl.pass; rfl) | apply ASl.pass); (focus simp [*]; done) | (first | refine AOpl.nil ?_ | refine AWp.skip ?_ | refine AWp.exit ?_ | refine AWp.ret ?_ | refine ASl.nil ?_); try simp only [Then, InBlock, reduceIte, Nat.reduceEqDiff] | refine AWp.seq ?_ | refine AWp.reg rfl ?_ | refine AWp.block ?_ | apply AWp.condT; focus simp [*]; done | apply AWp.condF; focus simp [*]; done | refine AWp.regT (by kernel_rfl) (by kernel_rfl) rfl rfl ?_)
  (refine ⟨_, (by simp [*]; rfl), ?_⟩; (try simp only [packA]))
  all_goals (rw [hw] <;> rfl)
end Go.Proofs.YtdjllogimomgmaaGreatDoor
