/-
  The context of a callee, in the program; walked.
-/
import Derived.Test.YtdjllogimomgmaaGreatDoorJkK
set_option linter.unusedSimpArgs false
set_option linter.unusedVariables false
namespace Go.Proofs.YtdjllogimomgmaaGreatDoor
open Ax Tx Go.RowKit
attribute [local simp] stepS Ax.stepT Dl.on qstep astep estep rd putE over argE ofV ofS loadA pickCells isAggD faddA fieldA partA iaddA idxA sliA bnd binA intA strA unA convA bltA lenA mapOf lookA findK keyD scalD storeA mupA appA srcA srcD upd drp Dl.hp Dl.nx CV.cs CV.one buildA placesA fillA zrep tasA ifaceD eqA eqFs eqIs range2 copyA nbeq nble nblt decEq beqI bneI beqS bneS isED Int.ofNat_inj List.getElem?_map List.getElem?_eq_getElem Option.map_some ti_int ti_bool ti_str ti_i64 ti_Strs ti_Hi ti_Cds ti_Cd ti_Flds ti_Fld ti_Sgs ti_Sg ti_Ins ti_Inss ti_Ints ti_Fu ti_Fus ti_Un ti_Se ti_Hs ti_Sits ti_Sit gd gdB callA resA op1
theorem find_out {cds : List Cd} {s : Bs} {i : Nat} (hlt : i < cds.length) (hn : (cds.take i).any (fun c => decide (c.name = s)) = false) (hs : cds[i].name = s) : findI cds s = i := by
  have : findN cds s = some i := by
    refine List.findIdx?_eq_some_iff_getElem.mpr ⟨hlt, by simp [hs], fun j hj => ?_⟩
    have h3 := List.any_eq_false.mp hn cds[j] (by rw [List.mem_take_iff_getElem]; exact ⟨j, by omega, rfl⟩)
    simpa using h3
  simp only [findI, this]
theorem find_no {cds : List Cd} {s : Bs} (hn : cds.any (fun c => decide (c.name = s)) = false) : findI cds s = -1 := by
  have : findN cds s = none := by
    refine List.findIdx?_eq_none_iff.mpr fun c hc => ?_
    have := List.any_eq_false.mp hn c hc
    simpa using this
  simp only [findI, this]
set_option maxRecDepth 10000 in
set_option maxHeartbeats 8000000 in
theorem index_ok (u : Un) (hB : HiB u.classes) (f b5 b11 : Nat) (hf : f < u.funcs.length) (H : Heap) (nx : Nat) (h5 : H b5 = some (.cells (cvUn u))) (h11 : H b11 = some (.cells [.int .i64 f])) :
    ACall Tryz.prog cxG 44 [.lst (u.classes.map cvCd), .fn (.func 45) [] [.ptr b5 0, .ptr b11 0]] H nx fun r H' _ => H' = H ∧ r = .ret (.int .i64 (findI u.classes u.funcs[f].cls)) := by
  have hl := hB.len
  refine ACall.ofBody' Tryz.func44 rfl rfl ?_
  repeat (first | (first | (apply AOpl.step; rfl) | apply ASl.step); focus simp [*, -Option.some.injEq]; rfl | (first | (apply AOpl.stepG; rfl) | apply ASl.stepG); (focus simp [*]; done); focus simp [*, -Option.some.injEq]; rfl | (first | (apply AOpl.pass; rfl) | apply ASl.pass); (focus simp [*]; done) | (first | refine AOpl.nil ?_ | refine AWp.skip ?_ | refine AWp.exit ?_ | refine AWp.ret ?_ | refine ASl.nil ?_); try simp only [Then, InBlock, reduceIte, Nat.reduceEqDiff] | refine AWp.seq ?_ | refine AWp.reg rfl ?_ | refine AWp.block ?_ | apply AWp.condT; focus simp [*]; done | apply AWp.condF; focus simp [*]; done | refine AWp.regT (by kernel_rfl) (by kernel_rfl) rfl rfl ?_)
  refine AWp.countO u.classes.length [4, 5, 8] 9 (fun i e H1 _ => e 8 = .int .i64 i ∧ H1 = H ∧ (u.classes.take i).any (fun c => decide (c.name = u.funcs[f].cls)) = false) ⟨(by first | (simp (disch := omega) [putE, over, ofV, ofS, *]; done) | (simp (disch := omega) [putE, over, ofV, ofS, *]; rfl)), rfl, rfl⟩ ?_
  rintro i v H1 nx1 hi hn1 ⟨h8, rfl, ha⟩
  repeat (first | (first | (apply AOpl.step; rfl) | apply ASl.step); focus simp [*, -Option.some.injEq]; rfl | (first | (apply AOpl.stepG; rfl) | apply ASl.stepG); (focus simp [*]; done); focus simp [*, -Option.some.injEq]; rfl | (first | (apply AOpl.pass; rfl) | apply ASl.pass); (focus simp [*]; done) | (first | refine AOpl.nil ?_ | refine AWp.skip ?_ | refine AWp.exit ?_ | refine AWp.ret ?_ | refine ASl.nil ?_); try simp only [Then, InBlock, reduceIte, Nat.reduceEqDiff] | refine AWp.seq ?_ | refine AWp.reg rfl ?_ | refine AWp.block ?_ | apply AWp.condT; focus simp [*]; done | apply AWp.condF; focus simp [*]; done | refine AWp.regT (by kernel_rfl) (by kernel_rfl) rfl rfl ?_)
  (((apply AWp.cond'); (focus (simp [*, -Ax.CV.bool.injEq]; rfl))) <;> (intro hb) <;> (try simp only [decide_eq_true_eq, decide_eq_false_iff_not, Bool.not_eq_true', Bool.not_eq_false', Bool.not_eq_true, Bool.not_eq_false] at hb))
  · have hlt : i < u.classes.length := hb
    have hwi := wrap_up hlt (show u.classes.length ≤ maxLen by simp only [maxLen]; omega)
    clear hb
    repeat (first | (first | (apply AOpl.step; rfl) | apply ASl.step); focus simp [*, -Option.some.injEq]; rfl | (first | (apply AOpl.stepG; rfl) | apply ASl.stepG); (focus simp [*]; done); focus simp [*, -Option.some.injEq]; rfl | (first | (apply AOpl.pass; rfl) | apply ASl.pass); (focus simp [*]; done) | (first | refine AOpl.nil ?_ | refine AWp.skip ?_ | refine AWp.exit ?_ | refine AWp.ret ?_ | refine ASl.nil ?_); try simp only [Then, InBlock, reduceIte, Nat.reduceEqDiff] | refine AWp.seq ?_ | refine AWp.reg rfl ?_ | refine AWp.block ?_ | apply AWp.condT; focus simp [*]; done | apply AWp.condF; focus simp [*]; done | refine AWp.regT (by kernel_rfl) (by kernel_rfl) rfl rfl ?_)
    ((apply AOpl.call); (focus rfl); (focus (simp [*, -Option.some.injEq]; rfl)); (focus (kernel_rfl)))
    refine (pushFn_ok u u.classes[i] f b5 b11 hf H1 nx1 h5 h11).mono ?_
    rintro r H' nx' ⟨rfl, rfl⟩
    simp only
    by_cases hc : u.classes[i].name = u.funcs[f].cls
    · have hd : decide (u.classes[i].name = u.funcs[f].cls) = true := by simp [hc]
      rw [hd]
      have hf2 := find_out hlt ha hc
      clear hc hd ha
      repeat (first | (first | (apply AOpl.step; rfl) | apply ASl.step); focus simp [*, -Option.some.injEq]; rfl | (first | (apply AOpl.stepG; rfl) | apply ASl.stepG); (focus simp [*]; done); focus simp [*, -Option.some.injEq]; rfl | (first | (apply AOpl.pass; rfl) | apply ASl.pass); (focus simp [*]; done) | (first | refine AOpl.nil ?_ | refine AWp.skip ?_ | refine AWp.exit ?_ | refine AWp.ret ?_ | refine ASl.nil ?_); try simp only [Then, InBlock, reduceIte, Nat.reduceEqDiff] | refine AWp.seq ?_ | refine AWp.reg rfl ?_ | refine AWp.block ?_ | apply AWp.condT; focus simp [*]; done | apply AWp.condF; focus simp [*]; done | refine AWp.regT (by kernel_rfl) (by kernel_rfl) rfl rfl ?_)
      (refine ⟨_, (by simp [*]; rfl), ?_⟩; (try simp only [packA]))
      exact ⟨by trivial, by rw [hf2]⟩
    · have hd : decide (u.classes[i].name = u.funcs[f].cls) = false := by simp [hc]
      rw [hd]
      have ha2 := any_take (p := fun c : Cd => decide (c.name = u.funcs[f].cls)) hlt ha hd
      clear hc hd ha
      repeat (first | (first | (apply AOpl.step; rfl) | apply ASl.step); focus simp [*, -Option.some.injEq]; rfl | (first | (apply AOpl.stepG; rfl) | apply ASl.stepG); (focus simp [*]; done); focus simp [*, -Option.some.injEq]; rfl | (first | (apply AOpl.pass; rfl) | apply ASl.pass); (focus simp [*]; done) | (first | refine AOpl.nil ?_ | refine AWp.skip ?_ | refine AWp.exit ?_ | refine AWp.ret ?_ | refine ASl.nil ?_); try simp only [Then, InBlock, reduceIte, Nat.reduceEqDiff] | refine AWp.seq ?_ | refine AWp.reg rfl ?_ | refine AWp.block ?_ | apply AWp.condT; focus simp [*]; done | apply AWp.condF; focus simp [*]; done | refine AWp.regT (by kernel_rfl) (by kernel_rfl) rfl rfl ?_)
      exact ⟨by ((repeat (first | exact Keeps.base _ _ _ _ | (with_reducible exact Keeps.refl _ _ _) | (refine Keeps.put rfl ?_) | (refine Keeps.over' rfl rfl ?_)))), hlt, (by first | (simp (disch := omega) [putE, over, ofV, ofS, *]; done) | (simp (disch := omega) [putE, over, ofV, ofS, *]; rfl)), by trivial, ha2⟩
  · have hi' : i = u.classes.length := by omega
    rw [hi', List.take_length] at ha
    have hf2 := find_no ha
    clear ha hb
    repeat (first | (first | (apply AOpl.step; rfl) | apply ASl.step); focus simp [*, -Option.some.injEq]; rfl | (first | (apply AOpl.stepG; rfl) | apply ASl.stepG); (focus simp [*]; done); focus simp [*, -Option.some.injEq]; rfl | (first | (apply AOpl.pass; rfl) | apply ASl.pass); (focus simp [*]; done) | (first | refine AOpl.nil ?_ | refine AWp.skip ?_ | refine AWp.exit ?_ | refine AWp.ret ?_ | refine ASl.nil ?_); try simp only [Then, InBlock, reduceIte, Nat.reduceEqDiff] | refine AWp.seq ?_ | refine AWp.reg rfl ?_ | refine AWp.block ?_ | apply AWp.condT; focus simp [*]; done | apply AWp.condF; focus simp [*]; done | refine AWp.regT (by kernel_rfl) (by kernel_rfl) rfl rfl ?_)
    (refine ⟨_, (by simp [*]; rfl), ?_⟩; (try simp only [packA]))
    exact ⟨by trivial, by rw [hf2]⟩
theorem sitesU_fn : ∀ (l : List Fu) (i : Nat) (p : S3), p ∈ sitesU i l → p.fn < i + l.length
  | [], i, p, h => by simp [sitesU] at h
  | f :: l, i, p, h => by
    simp only [sitesU, List.mem_append] at h
    rcases h with h | h
    · have : ∀ (j : Nat) (c : List Ins), p ∈ sitesC i j c → p.fn = i := by
        intro j c
        induction c generalizing j with
        | nil => intro h; simp [sitesC] at h
        | cons x c ih =>
          intro h
          simp only [sitesC] at h
          split at h
          · rcases List.mem_cons.mp h with rfl | h
            · rfl
            · exact ih _ h
          · exact ih _ h
      have := this _ _ h
      simp only [List.length_cons]; omega
    · have := sitesU_fn l (i + 1) p h
      simp only [List.length_cons]; omega
theorem siteAt_fn {u : Un} {site : Int} {p : S3} (h : siteAt u site = some p) : p.fn < u.funcs.length := by
  unfold siteAt at h
  split at h
  · cases h
  · have := sitesU_fn _ _ _ (List.mem_of_getElem? h); omega
def clsAt (u : Un) (i : Nat) : Bs := match u.funcs[i]? with
  | some f => f.cls
  | none => []
def pushL (u : Un) (s : Se) (ctx : List Int) (call site : Int) (rctx : List Int) : List Int :=
  if sensE s ≠ 0 ∨ s.k = 0 then [] else if s.kind = 1 then lastL (ctx ++ [call]) s.k.toNat else match siteAt u site with
    | none => lastL ctx s.k.toNat
    | some p => if s.kind = 2 then lastL (rctx ++ [site]) s.k.toNat else lastL (rctx ++ [findI u.classes (clsAt u p.fn)]) s.k.toNat
theorem clast_nil (k : Nat) (l : List Int) (hl : l.length ≤ 1000) (hk : k ≤ 1000) : FCall Tryz.prog cxG 42 [.int .i64 k, .lst (l.map cvI), .nils] fun r => r = .ret (.lst ((lastL l k).map cvI)) := by
  have h := clast_ok k l [] hl (by simp) hk
  rw [List.append_nil] at h
  exact FCall.imp (fun M vs hv => by
    obtain ⟨v1, r1, rfl, a1, b1⟩ := hv.cons_inv
    obtain ⟨v2, r2, rfl, a2, b2⟩ := b1.cons_inv
    obtain ⟨v3, r3, rfl, a3, b3⟩ := b2.cons_inv
    exact .cons a1 (.cons a2 (.cons (RV.nil_lst a3) b3))) h
theorem sens_k {s : Se} (h : sensE s = 0) : 0 ≤ s.k ∧ s.k ≤ 2 ∧ 0 ≤ s.kind ∧ s.kind ≤ 3 ∧ (s.kind = 0 → s.k = 0) := by
  unfold sensE at h
  split at h
  · cases h
  · split at h
    · cases h
    · split at h
      · cases h
      · omega
end Go.Proofs.YtdjllogimomgmaaGreatDoor
namespace Go.Proofs.YtdjllogimomgmaaGreatDoor
open Ax Tx Go.RowKit
attribute [local simp] stepS Ax.stepT Dl.on qstep astep estep rd putE over argE ofV ofS loadA pickCells isAggD faddA fieldA partA iaddA idxA sliA bnd binA intA strA unA convA bltA lenA mapOf lookA findK keyD scalD storeA mupA appA srcA srcD upd drp Dl.hp Dl.nx CV.cs CV.one buildA placesA fillA zrep tasA ifaceD eqA eqFs eqIs range2 copyA nbeq nble nblt decEq beqI bneI beqS bneS isED Int.ofNat_inj List.getElem?_map List.getElem?_eq_getElem Option.map_some ti_int ti_bool ti_str ti_i64 ti_Strs ti_Hi ti_Cds ti_Cd ti_Flds ti_Fld ti_Sgs ti_Sg ti_Ins ti_Inss ti_Ints ti_Fu ti_Fus ti_Un ti_Se ti_Hs ti_Sits ti_Sit gd gdB callA resA op1
set_option maxRecDepth 10000 in
set_option maxHeartbeats 16000000 in
theorem push_ok (u : Un) (hu : UnB1 u) (s : Se) (ctx : List Int) (hc : ctx.length ≤ 999) (call site : Int) (hs : site ≤ maxLen) (rctx : List Int) (hr : rctx.length ≤ 999) :
    FCall Tryz.prog cxG 22 [.agg (cvUn u), .agg (cvSe s), .lst (ctx.map cvI), .int .i64 call, .agg [.int .i64 site, .lst (rctx.map cvI)]] fun r => r = .ret (.lst ((pushL u s ctx call site rctx).map cvI)) := by
  obtain ⟨w, hw⟩ : ∃ w, w = pushL u s ctx call site rctx := ⟨_, rfl⟩
  rw [← hw]
  unfold pushL at hw
  have nilr : w = [] → FCall Tryz.prog cxG 22 [.agg (cvUn u), .agg (cvSe s), .lst (ctx.map cvI), .int .i64 call, .agg [.int .i64 site, .lst (rctx.map cvI)]] (fun r => r = .ret .nils) → FCall Tryz.prog cxG 22 [.agg (cvUn u), .agg (cvSe s), .lst (ctx.map cvI), .int .i64 call, .agg [.int .i64 site, .lst (rctx.map cvI)]] fun r => r = .ret (.lst (w.map cvI)) := fun h hf => by rw [h]; exact FCall.nil_lst hf
  have e2 : ∀ nx : Nat, ¬ nx = nx + 1 + 1 := fun nx => by omega
  by_cases h1 : sensE s = 0
  case neg =>
    rw [if_pos (.inl h1)] at hw
    refine nilr hw ?_
    clear hw nilr
    refine FCall.ofBody Tryz.func22 rfl rfl fun nx => ?_
    repeat (first | (first | (apply AOpl.step; rfl) | apply ASl.step); focus simp [cvSe, *, -Option.some.injEq]; rfl | (first | (apply AOpl.stepG; rfl) | apply ASl.stepG); (focus simp [cvSe, *]; done); focus simp [cvSe, *, -Option.some.injEq]; rfl | (first | (apply AOpl.pass; rfl) | apply ASl.pass); (focus simp [cvSe, *]; done) | (first | refine AOpl.nil ?_ | refine AWp.skip ?_ | refine AWp.exit ?_ | refine AWp.ret ?_ | refine ASl.nil ?_); try simp only [Then, InBlock, reduceIte, Nat.reduceEqDiff] | refine AWp.seq ?_ | refine AWp.reg rfl ?_ | refine AWp.block ?_ | apply AWp.condT; focus simp [cvSe, *]; done | apply AWp.condF; focus simp [cvSe, *]; done | refine AWp.regT (by kernel_rfl) (by kernel_rfl) rfl rfl ?_)
    (first | (first | (apply AOpl.callN; rfl) | apply ASl.call); (focus simp [cvSe, *, -Option.some.injEq]; rfl); kernel_rfl | (first | (apply AOpl.callNG; rfl) | apply ASl.callg); (focus simp [cvSe, *]; done); (focus simp [cvSe, *, -Option.some.injEq]; rfl); kernel_rfl)
    · exact scheck_ok s
    intro nx2 hn2
    repeat (first | (first | (apply AOpl.step; rfl) | apply ASl.step); focus simp [*, -Option.some.injEq]; rfl | (first | (apply AOpl.stepG; rfl) | apply ASl.stepG); (focus simp [*]; done); focus simp [*, -Option.some.injEq]; rfl | (first | (apply AOpl.pass; rfl) | apply ASl.pass); (focus simp [*]; done) | (first | refine AOpl.nil ?_ | refine AWp.skip ?_ | refine AWp.exit ?_ | refine AWp.ret ?_ | refine ASl.nil ?_); try simp only [Then, InBlock, reduceIte, Nat.reduceEqDiff] | refine AWp.seq ?_ | refine AWp.reg rfl ?_ | refine AWp.block ?_ | apply AWp.condT; focus simp [*]; done | apply AWp.condF; focus simp [*]; done | refine AWp.regT (by kernel_rfl) (by kernel_rfl) rfl rfl ?_)
    (refine ⟨_, (by simp [*]; rfl), ?_⟩; (try simp only [packA]))
    all_goals rfl
  obtain ⟨k0, k2, kd0, kd3, kz⟩ := sens_k h1
  by_cases h2 : s.k = 0
  · rw [if_pos (.inr h2)] at hw
    refine nilr hw ?_
    clear hw nilr
    have hck := scheck_ok s
    obtain ⟨sk, kk⟩ := s
    simp only at h2
    subst h2
    refine FCall.ofBody Tryz.func22 rfl rfl fun nx => ?_
    repeat (first | (first | (apply AOpl.step; rfl) | apply ASl.step); focus simp [cvSe, *, -Option.some.injEq]; rfl | (first | (apply AOpl.stepG; rfl) | apply ASl.stepG); (focus simp [cvSe, *]; done); focus simp [cvSe, *, -Option.some.injEq]; rfl | (first | (apply AOpl.pass; rfl) | apply ASl.pass); (focus simp [cvSe, *]; done) | (first | refine AOpl.nil ?_ | refine AWp.skip ?_ | refine AWp.exit ?_ | refine AWp.ret ?_ | refine ASl.nil ?_); try simp only [Then, InBlock, reduceIte, Nat.reduceEqDiff] | refine AWp.seq ?_ | refine AWp.reg rfl ?_ | refine AWp.block ?_ | apply AWp.condT; focus simp [cvSe, *]; done | apply AWp.condF; focus simp [cvSe, *]; done | refine AWp.regT (by kernel_rfl) (by kernel_rfl) rfl rfl ?_)
    (first | (first | (apply AOpl.callN; rfl) | apply ASl.call); (focus simp [cvSe, *, -Option.some.injEq]; rfl); kernel_rfl | (first | (apply AOpl.callNG; rfl) | apply ASl.callg); (focus simp [cvSe, *]; done); (focus simp [cvSe, *, -Option.some.injEq]; rfl); kernel_rfl)
    · exact hck
    intro nx2 hn2
    have q2 : ∀ k, ¬ nx + 1 = nx2 + k := fun k => by omega
    repeat (first | (first | (apply AOpl.step; rfl) | apply ASl.step); focus simp [*, -Option.some.injEq]; rfl | (first | (apply AOpl.stepG; rfl) | apply ASl.stepG); (focus simp [*]; done); focus simp [*, -Option.some.injEq]; rfl | (first | (apply AOpl.pass; rfl) | apply ASl.pass); (focus simp [*]; done) | (first | refine AOpl.nil ?_ | refine AWp.skip ?_ | refine AWp.exit ?_ | refine AWp.ret ?_ | refine ASl.nil ?_); try simp only [Then, InBlock, reduceIte, Nat.reduceEqDiff] | refine AWp.seq ?_ | refine AWp.reg rfl ?_ | refine AWp.block ?_ | apply AWp.condT; focus simp [*]; done | apply AWp.condF; focus simp [*]; done | refine AWp.regT (by kernel_rfl) (by kernel_rfl) rfl rfl ?_)
    (refine ⟨_, (by simp [*]; rfl), ?_⟩; (try simp only [packA]))
    all_goals rfl
  rw [if_neg (by rintro (h | h); exact h h1; exact h2 h)] at hw
  clear nilr
  have hck := scheck_ok s
  rw [h1] at hck
  obtain ⟨kd, kk⟩ := s
  simp only at h1 h2 hw k0 k2 kd0 kd3 kz
  obtain ⟨k, rfl⟩ : ∃ k : Nat, kk = k := ⟨kk.toNat, by omega⟩
  simp only [Int.toNat_natCast] at hw
  have hk2 : k ≤ 1000 := by omega
  have hk3 : ¬ k = 0 := by omega
  have cl : ∀ (l m : List Int), l.length ≤ 1000 → m.length ≤ 1000 → FCall Tryz.prog cxG 42 [.int .i64 k, .lst (l.map cvI), .lst (m.map cvI)] fun r => r = .ret (.lst ((lastL (l ++ m) k).map cvI)) := fun l m a b => clast_ok k l m a b hk2
  by_cases h3 : kd = 1
  · rw [if_pos h3] at hw
    subst h3
    refine FCall.ofBody Tryz.func22 rfl rfl fun nx => ?_
    have e2 := e2 nx
    repeat (first | (first | (apply AOpl.step; rfl) | apply ASl.step); focus simp [cvSe, *, -Option.some.injEq]; rfl | (first | (apply AOpl.stepG; rfl) | apply ASl.stepG); (focus simp [cvSe, *]; done); focus simp [cvSe, *, -Option.some.injEq]; rfl | (first | (apply AOpl.pass; rfl) | apply ASl.pass); (focus simp [cvSe, *]; done) | (first | refine AOpl.nil ?_ | refine AWp.skip ?_ | refine AWp.exit ?_ | refine AWp.ret ?_ | refine ASl.nil ?_); try simp only [Then, InBlock, reduceIte, Nat.reduceEqDiff] | refine AWp.seq ?_ | refine AWp.reg rfl ?_ | refine AWp.block ?_ | apply AWp.condT; focus simp [cvSe, *]; done | apply AWp.condF; focus simp [cvSe, *]; done | refine AWp.regT (by kernel_rfl) (by kernel_rfl) rfl rfl ?_)
    (first | (first | (apply AOpl.callN; rfl) | apply ASl.call); (focus simp [cvSe, *, -Option.some.injEq]; rfl); kernel_rfl | (first | (apply AOpl.callNG; rfl) | apply ASl.callg); (focus simp [cvSe, *]; done); (focus simp [cvSe, *, -Option.some.injEq]; rfl); kernel_rfl)
    · exact hck
    intro nx2 hn2
    have q2 : ∀ k, ¬ nx + 1 = nx2 + k := fun k => by omega
    repeat (first | (first | (apply AOpl.step; rfl) | apply ASl.step); focus simp [*, -Option.some.injEq]; rfl | (first | (apply AOpl.stepG; rfl) | apply ASl.stepG); (focus simp [*]; done); focus simp [*, -Option.some.injEq]; rfl | (first | (apply AOpl.pass; rfl) | apply ASl.pass); (focus simp [*]; done) | (first | refine AOpl.nil ?_ | refine AWp.skip ?_ | refine AWp.exit ?_ | refine AWp.ret ?_ | refine ASl.nil ?_); try simp only [Then, InBlock, reduceIte, Nat.reduceEqDiff] | refine AWp.seq ?_ | refine AWp.reg rfl ?_ | refine AWp.block ?_ | apply AWp.condT; focus simp [*]; done | apply AWp.condF; focus simp [*]; done | refine AWp.regT (by kernel_rfl) (by kernel_rfl) rfl rfl ?_)
    refine AOpl.frzT 28 (b := nx2) (cs := [.int .i64 call]) (o := 0) (m := 1) (k := 1) (by first | (simp (disch := omega) [putE, over, ofV, ofS, *]; done) | (simp (disch := omega) [putE, over, ofV, ofS, *]; rfl)) (by simp [upd]) (by simp) ?_
    (first | (first | (apply AOpl.callN; rfl) | apply ASl.call); (focus simp [*, -Option.some.injEq]; rfl); kernel_rfl | (first | (apply AOpl.callNG; rfl) | apply ASl.callg); (focus simp [*]; done); (focus simp [*, -Option.some.injEq]; rfl); kernel_rfl)
    · exact cl ctx [call] (by omega) (by simp)
    intro nx3 hn3
    repeat (first | (first | (apply AOpl.step; rfl) | apply ASl.step); focus simp [*, -Option.some.injEq]; rfl | (first | (apply AOpl.stepG; rfl) | apply ASl.stepG); (focus simp [*]; done); focus simp [*, -Option.some.injEq]; rfl | (first | (apply AOpl.pass; rfl) | apply ASl.pass); (focus simp [*]; done) | (first | refine AOpl.nil ?_ | refine AWp.skip ?_ | refine AWp.exit ?_ | refine AWp.ret ?_ | refine ASl.nil ?_); try simp only [Then, InBlock, reduceIte, Nat.reduceEqDiff] | refine AWp.seq ?_ | refine AWp.reg rfl ?_ | refine AWp.block ?_ | apply AWp.condT; focus simp [*]; done | apply AWp.condF; focus simp [*]; done | refine AWp.regT (by kernel_rfl) (by kernel_rfl) rfl rfl ?_)
    (refine ⟨_, (by simp [*]; rfl), ?_⟩; (try simp only [packA]))
    all_goals (rw [hw] <;> rfl)
  rw [if_neg h3] at hw
  have how := owner_ok u hu site hs
  cases hp : siteAt u site with
  | none =>
    rw [hp] at hw how
    simp only [ownI] at hw how
    refine FCall.ofBody Tryz.func22 rfl rfl fun nx => ?_
    have e2 := e2 nx
    repeat (first | (first | (apply AOpl.step; rfl) | apply ASl.step); focus simp [cvSe, *, -Option.some.injEq]; rfl | (first | (apply AOpl.stepG; rfl) | apply ASl.stepG); (focus simp [cvSe, *]; done); focus simp [cvSe, *, -Option.some.injEq]; rfl | (first | (apply AOpl.pass; rfl) | apply ASl.pass); (focus simp [cvSe, *]; done) | (first | refine AOpl.nil ?_ | refine AWp.skip ?_ | refine AWp.exit ?_ | refine AWp.ret ?_ | refine ASl.nil ?_); try simp only [Then, InBlock, reduceIte, Nat.reduceEqDiff] | refine AWp.seq ?_ | refine AWp.reg rfl ?_ | refine AWp.block ?_ | apply AWp.condT; focus simp [cvSe, *]; done | apply AWp.condF; focus simp [cvSe, *]; done | refine AWp.regT (by kernel_rfl) (by kernel_rfl) rfl rfl ?_)
    (first | (first | (apply AOpl.callN; rfl) | apply ASl.call); (focus simp [cvSe, *, -Option.some.injEq]; rfl); kernel_rfl | (first | (apply AOpl.callNG; rfl) | apply ASl.callg); (focus simp [cvSe, *]; done); (focus simp [cvSe, *, -Option.some.injEq]; rfl); kernel_rfl)
    · exact hck
    intro nx2 hn2
    have q1 : ∀ k, ¬ nx = nx2 + k := fun k => by omega
    have q2 : ∀ k, ¬ nx + 1 = nx2 + k := fun k => by omega
    have q3 : ∀ k, ¬ nx + 1 + 1 = nx2 + k := fun k => by omega
    repeat (first | (first | (apply AOpl.step; rfl) | apply ASl.step); focus simp [*, -Option.some.injEq]; rfl | (first | (apply AOpl.stepG; rfl) | apply ASl.stepG); (focus simp [*]; done); focus simp [*, -Option.some.injEq]; rfl | (first | (apply AOpl.pass; rfl) | apply ASl.pass); (focus simp [*]; done) | (first | refine AOpl.nil ?_ | refine AWp.skip ?_ | refine AWp.exit ?_ | refine AWp.ret ?_ | refine ASl.nil ?_); try simp only [Then, InBlock, reduceIte, Nat.reduceEqDiff] | refine AWp.seq ?_ | refine AWp.reg rfl ?_ | refine AWp.block ?_ | apply AWp.condT; focus simp [*]; done | apply AWp.condF; focus simp [*]; done | refine AWp.regT (by kernel_rfl) (by kernel_rfl) rfl rfl ?_)
    (first | (first | (apply AOpl.callN; rfl) | apply ASl.call); (focus simp [*, -Option.some.injEq]; rfl); kernel_rfl | (first | (apply AOpl.callNG; rfl) | apply ASl.callg); (focus simp [*]; done); (focus simp [*, -Option.some.injEq]; rfl); kernel_rfl)
    · exact how
    intro nx3 hn3
    have r1 : ∀ k, ¬ nx = nx3 + k := fun k => by omega
    have r2 : ∀ k, ¬ nx + 1 = nx3 + k := fun k => by omega
    have r20 : ¬ nx + 1 = nx3 := by omega
    repeat (first | (first | (apply AOpl.step; rfl) | apply ASl.step); focus simp [*, -Option.some.injEq]; rfl | (first | (apply AOpl.stepG; rfl) | apply ASl.stepG); (focus simp [*]; done); focus simp [*, -Option.some.injEq]; rfl | (first | (apply AOpl.pass; rfl) | apply ASl.pass); (focus simp [*]; done) | (first | refine AOpl.nil ?_ | refine AWp.skip ?_ | refine AWp.exit ?_ | refine AWp.ret ?_ | refine ASl.nil ?_); try simp only [Then, InBlock, reduceIte, Nat.reduceEqDiff] | refine AWp.seq ?_ | refine AWp.reg rfl ?_ | refine AWp.block ?_ | apply AWp.condT; focus simp [*]; done | apply AWp.condF; focus simp [*]; done | refine AWp.regT (by kernel_rfl) (by kernel_rfl) rfl rfl ?_)
    (first | (first | (apply AOpl.callN; rfl) | apply ASl.call); (focus simp [*, -Option.some.injEq]; rfl); kernel_rfl | (first | (apply AOpl.callNG; rfl) | apply ASl.callg); (focus simp [*]; done); (focus simp [*, -Option.some.injEq]; rfl); kernel_rfl)
    · exact clast_nil k ctx (by omega) hk2
    intro nx4 hn4
    repeat (first | (first | (apply AOpl.step; rfl) | apply ASl.step); focus simp [*, -Option.some.injEq]; rfl | (first | (apply AOpl.stepG; rfl) | apply ASl.stepG); (focus simp [*]; done); focus simp [*, -Option.some.injEq]; rfl | (first | (apply AOpl.pass; rfl) | apply ASl.pass); (focus simp [*]; done) | (first | refine AOpl.nil ?_ | refine AWp.skip ?_ | refine AWp.exit ?_ | refine AWp.ret ?_ | refine ASl.nil ?_); try simp only [Then, InBlock, reduceIte, Nat.reduceEqDiff] | refine AWp.seq ?_ | refine AWp.reg rfl ?_ | refine AWp.block ?_ | apply AWp.condT; focus simp [*]; done | apply AWp.condF; focus simp [*]; done | refine AWp.regT (by kernel_rfl) (by kernel_rfl) rfl rfl ?_)
    (refine ⟨_, (by simp [*]; rfl), ?_⟩; (try simp only [packA]))
    all_goals (rw [hw] <;> rfl)
  | some p =>
    rw [hp] at hw how
    simp only [ownI] at hw how
    have hpf := siteAt_fn hp
    have hpn : ¬ (p.fn : Int) = -1 := by omega
    have hcA : clsAt u p.fn = u.funcs[p.fn].cls := by simp [clsAt, hpf]
    rw [hcA] at hw
    refine FCall.ofBody Tryz.func22 rfl rfl fun nx => ?_
    have e2 := e2 nx
    repeat (first | (first | (apply AOpl.step; rfl) | apply ASl.step); focus simp [cvSe, *, -Option.some.injEq]; rfl | (first | (apply AOpl.stepG; rfl) | apply ASl.stepG); (focus simp [cvSe, *]; done); focus simp [cvSe, *, -Option.some.injEq]; rfl | (first | (apply AOpl.pass; rfl) | apply ASl.pass); (focus simp [cvSe, *]; done) | (first | refine AOpl.nil ?_ | refine AWp.skip ?_ | refine AWp.exit ?_ | refine AWp.ret ?_ | refine ASl.nil ?_); try simp only [Then, InBlock, reduceIte, Nat.reduceEqDiff] | refine AWp.seq ?_ | refine AWp.reg rfl ?_ | refine AWp.block ?_ | apply AWp.condT; focus simp [cvSe, *]; done | apply AWp.condF; focus simp [cvSe, *]; done | refine AWp.regT (by kernel_rfl) (by kernel_rfl) rfl rfl ?_)
    (first | (first | (apply AOpl.callN; rfl) | apply ASl.call); (focus simp [cvSe, *, -Option.some.injEq]; rfl); kernel_rfl | (first | (apply AOpl.callNG; rfl) | apply ASl.callg); (focus simp [cvSe, *]; done); (focus simp [cvSe, *, -Option.some.injEq]; rfl); kernel_rfl)
    · exact hck
    intro nx2 hn2
    have q1 : ∀ k, ¬ nx = nx2 + k := fun k => by omega
    have q2 : ∀ k, ¬ nx + 1 = nx2 + k := fun k => by omega
    have q3 : ∀ k, ¬ nx + 1 + 1 = nx2 + k := fun k => by omega
    repeat (first | (first | (apply AOpl.step; rfl) | apply ASl.step); focus simp [*, -Option.some.injEq]; rfl | (first | (apply AOpl.stepG; rfl) | apply ASl.stepG); (focus simp [*]; done); focus simp [*, -Option.some.injEq]; rfl | (first | (apply AOpl.pass; rfl) | apply ASl.pass); (focus simp [*]; done) | (first | refine AOpl.nil ?_ | refine AWp.skip ?_ | refine AWp.exit ?_ | refine AWp.ret ?_ | refine ASl.nil ?_); try simp only [Then, InBlock, reduceIte, Nat.reduceEqDiff] | refine AWp.seq ?_ | refine AWp.reg rfl ?_ | refine AWp.block ?_ | apply AWp.condT; focus simp [*]; done | apply AWp.condF; focus simp [*]; done | refine AWp.regT (by kernel_rfl) (by kernel_rfl) rfl rfl ?_)
    (first | (first | (apply AOpl.callN; rfl) | apply ASl.call); (focus simp [*, -Option.some.injEq]; rfl); kernel_rfl | (first | (apply AOpl.callNG; rfl) | apply ASl.callg); (focus simp [*]; done); (focus simp [*, -Option.some.injEq]; rfl); kernel_rfl)
    · exact how
    intro nx3 hn3
    have r1 : ∀ k, ¬ nx = nx3 + k := fun k => by omega
    have r10 : ¬ nx = nx3 := by omega
    have r2 : ∀ k, ¬ nx + 1 = nx3 + k := fun k => by omega
    have r20 : ¬ nx + 1 = nx3 := by omega
    have r3 : ∀ k, ¬ nx + 1 + 1 = nx3 + k := fun k => by omega
    have r30 : ¬ nx + 1 + 1 = nx3 := by omega
    by_cases h4 : kd = 2
    · rw [if_pos h4] at hw
      subst h4
      repeat (first | (first | (apply AOpl.step; rfl) | apply ASl.step); focus simp [*, -Option.some.injEq]; rfl | (first | (apply AOpl.stepG; rfl) | apply ASl.stepG); (focus simp [*]; done); focus simp [*, -Option.some.injEq]; rfl | (first | (apply AOpl.pass; rfl) | apply ASl.pass); (focus simp [*]; done) | (first | refine AOpl.nil ?_ | refine AWp.skip ?_ | refine AWp.exit ?_ | refine AWp.ret ?_ | refine ASl.nil ?_); try simp only [Then, InBlock, reduceIte, Nat.reduceEqDiff] | refine AWp.seq ?_ | refine AWp.reg rfl ?_ | refine AWp.block ?_ | apply AWp.condT; focus simp [*]; done | apply AWp.condF; focus simp [*]; done | refine AWp.regT (by kernel_rfl) (by kernel_rfl) rfl rfl ?_)
      refine AOpl.frzT 49 (b := nx3 + 1) (cs := [.int .i64 site]) (o := 0) (m := 1) (k := 1) (by first | (simp (disch := omega) [putE, over, ofV, ofS, *]; done) | (simp (disch := omega) [putE, over, ofV, ofS, *]; rfl)) (by simp [upd]) (by simp) ?_
      (first | (first | (apply AOpl.callN; rfl) | apply ASl.call); (focus simp [*, -Option.some.injEq]; rfl); kernel_rfl | (first | (apply AOpl.callNG; rfl) | apply ASl.callg); (focus simp [*]; done); (focus simp [*, -Option.some.injEq]; rfl); kernel_rfl)
      · exact cl rctx [site] (by omega) (by simp)
      intro nx4 hn4
      repeat (first | (first | (apply AOpl.step; rfl) | apply ASl.step); focus simp [*, -Option.some.injEq]; rfl | (first | (apply AOpl.stepG; rfl) | apply ASl.stepG); (focus simp [*]; done); focus simp [*, -Option.some.injEq]; rfl | (first | (apply AOpl.pass; rfl) | apply ASl.pass); (focus simp [*]; done) | (first | refine AOpl.nil ?_ | refine AWp.skip ?_ | refine AWp.exit ?_ | refine AWp.ret ?_ | refine ASl.nil ?_); try simp only [Then, InBlock, reduceIte, Nat.reduceEqDiff] | refine AWp.seq ?_ | refine AWp.reg rfl ?_ | refine AWp.block ?_ | apply AWp.condT; focus simp [*]; done | apply AWp.condF; focus simp [*]; done | refine AWp.regT (by kernel_rfl) (by kernel_rfl) rfl rfl ?_)
      (refine ⟨_, (by simp [*]; rfl), ?_⟩; (try simp only [packA]))
      all_goals (rw [hw] <;> rfl)
    · rw [if_neg h4] at hw
      repeat (first | (first | (apply AOpl.step; rfl) | apply ASl.step); focus simp [cvUn, *, -Option.some.injEq]; rfl | (first | (apply AOpl.stepG; rfl) | apply ASl.stepG); (focus simp [cvUn, *]; done); focus simp [cvUn, *, -Option.some.injEq]; rfl | (first | (apply AOpl.pass; rfl) | apply ASl.pass); (focus simp [cvUn, *]; done) | (first | refine AOpl.nil ?_ | refine AWp.skip ?_ | refine AWp.exit ?_ | refine AWp.ret ?_ | refine ASl.nil ?_); try simp only [Then, InBlock, reduceIte, Nat.reduceEqDiff] | refine AWp.seq ?_ | refine AWp.reg rfl ?_ | refine AWp.block ?_ | apply AWp.condT; focus simp [cvUn, *]; done | apply AWp.condF; focus simp [cvUn, *]; done | refine AWp.regT (by kernel_rfl) (by kernel_rfl) rfl rfl ?_)
      ((apply AOpl.call); (focus rfl); (focus (simp [cvUn, *, -Option.some.injEq]; rfl)); (focus (kernel_rfl)))
      refine (index_ok u hu.hb p.fn nx nx3 hpf _ _ (by simp [upd, cvUn, *]) (by simp [upd, *])).mono ?_
      rintro r H' nx' ⟨rfl, rfl⟩
      simp only
      repeat (first | (first | (apply AOpl.step; rfl) | apply ASl.step); focus simp [cvUn, *, -Option.some.injEq]; rfl | (first | (apply AOpl.stepG; rfl) | apply ASl.stepG); (focus simp [cvUn, *]; done); focus simp [cvUn, *, -Option.some.injEq]; rfl | (first | (apply AOpl.pass; rfl) | apply ASl.pass); (focus simp [cvUn, *]; done) | (first | refine AOpl.nil ?_ | refine AWp.skip ?_ | refine AWp.exit ?_ | refine AWp.ret ?_ | refine ASl.nil ?_); try simp only [Then, InBlock, reduceIte, Nat.reduceEqDiff] | refine AWp.seq ?_ | refine AWp.reg rfl ?_ | refine AWp.block ?_ | apply AWp.condT; focus simp [cvUn, *]; done | apply AWp.condF; focus simp [cvUn, *]; done | refine AWp.regT (by kernel_rfl) (by kernel_rfl) rfl rfl ?_)
      refine AOpl.frzT 61 (b := nx') (cs := [.int .i64 (findI u.classes u.funcs[p.fn].cls)]) (o := 0) (m := 1) (k := 1) (by first | (simp (disch := omega) [putE, over, ofV, ofS, *]; done) | (simp (disch := omega) [putE, over, ofV, ofS, *]; rfl)) (by simp [upd]) (by simp) ?_
      (first | (first | (apply AOpl.callN; rfl) | apply ASl.call); (focus simp [*, -Option.some.injEq]; rfl); kernel_rfl | (first | (apply AOpl.callNG; rfl) | apply ASl.callg); (focus simp [*]; done); (focus simp [*, -Option.some.injEq]; rfl); kernel_rfl)
      · exact cl rctx [_] (by omega) (by simp)
      intro nx4 hn4
      repeat (first | (first | (apply AOpl.step; rfl) | apply ASl.step); focus simp [*, -Option.some.injEq]; rfl | (first | (apply AOpl.stepG; rfl) | apply ASl.stepG); (focus simp [*]; done); focus simp [*, -Option.some.injEq]; rfl | (first | (apply AOpl.pass; rfl) | apply ASl.pass); (focus simp [*]; done) | (first | refine AOpl.nil ?_ | refine AWp.skip ?_ | refine AWp.exit ?_ | refine AWp.ret ?_ | refine ASl.nil ?_); try simp only [Then, InBlock, reduceIte, Nat.reduceEqDiff] | refine AWp.seq ?_ | refine AWp.reg rfl ?_ | refine AWp.block ?_ | apply AWp.condT; focus simp [*]; done | apply AWp.condF; focus simp [*]; done | refine AWp.regT (by kernel_rfl) (by kernel_rfl) rfl rfl ?_)
      (refine ⟨_, (by simp [*]; rfl), ?_⟩; (try simp only [packA]))
      all_goals (rw [hw] <;> rfl)
end Go.Proofs.YtdjllogimomgmaaGreatDoor
