/-
  The methods of a class, a class, a hierarchy, as the reference checks them; walked.
-/
import Derived.Test.YtdjllogimomgmaaGreatDoorJkB
set_option linter.unusedSimpArgs false
set_option linter.unusedVariables false
namespace Go.Proofs.YtdjllogimomgmaaGreatDoor
open Ax Tx Go.RowKit
attribute [local simp] stepS Ax.stepT Dl.on qstep astep estep rd putE over argE ofV ofS loadA pickCells isAggD faddA fieldA partA iaddA idxA sliA bnd binA intA strA unA convA bltA lenA mapOf lookA findK keyD scalD storeA mupA appA srcA srcD upd drp Dl.hp Dl.nx CV.cs CV.one buildA placesA fillA zrep tasA ifaceD eqA eqFs eqIs range2 copyA nbeq nble nblt decEq beqI bneI beqS bneS isED Int.ofNat_inj List.getElem?_map List.getElem?_eq_getElem Option.map_some ti_int ti_bool ti_str ti_i64 ti_Strs ti_Hi ti_Cds ti_Cd ti_Flds ti_Fld ti_Sgs ti_Sg gd gdB callA resA op1
theorem types_one (cds : List Cd) (hl : cds.length ≤ 1000) (s : Sg) (hs : s.params.length ≤ 1000) : FCall1 Tryz.prog cxG 207 [.agg [.lst (cds.map cvCd)], .agg (cvSg s)] (.int .i64 (typesE cds s)) := (types_ok cds hl s hs).one cxG_pu (by simp [puL, puV, puR_mapR puL_Cd, puL_Sg]) rfl
theorem over_one (cds : List Cd) (hB : HiB cds) (cls : Bs) (s : Sg) : FCall1 Tryz.prog cxG 208 [.agg [.lst (cds.map cvCd)], .str cls, .agg (cvSg s)] (.bool (overB cds cls s)) := (over_ok cds hB cls s).one cxG_pu (by simp [puL, puV, puR_mapR puL_Cd, puL_Sg]) rfl
def methodsE (cds : List Cd) (cls : Bs) : List Sg → List Sg → Int
  | _, [] => 0
  | pre, m :: l => if identB m.name = false then 5 else if pre.any (fun x => decide (x.name = m.name)) = true then 7 else if 6 < m.params.length then 3 else if typesE cds m ≠ 0 then typesE cds m else if overB cds cls m = true then 11 else methodsE cds cls (pre ++ [m]) l
def methodsI (cds : List Cd) (c : Cd) : Int := methodsE cds c.name [] c.methods
set_option maxRecDepth 10000 in
set_option maxHeartbeats 8000000 in
theorem methods_ok (cds : List Cd) (hB : HiB cds) (i : Nat) (hi : i < cds.length) : FCall Tryz.prog cxG 187 [.agg [.lst (cds.map cvCd)], .int .i64 i] fun r => r = .ret (.int .i64 (methodsI cds cds[i])) := by
  have hl := hB.len
  have hml := hB.ml _ (List.getElem_mem hi)
  have hpl := hB.pl _ (List.getElem_mem hi)
  refine FCall.ofBody Tryz.func187 rfl rfl fun nx => ?_
  repeat (first | (first | (apply AOpl.step; rfl) | apply ASl.step); focus simp [cvCd, *, -Option.some.injEq]; rfl | (first | (apply AOpl.stepG; rfl) | apply ASl.stepG); (focus simp [cvCd, *]; done); focus simp [cvCd, *, -Option.some.injEq]; rfl | (first | (apply AOpl.pass; rfl) | apply ASl.pass); (focus simp [cvCd, *]; done) | (first | refine AOpl.nil ?_ | refine AWp.skip ?_ | refine AWp.exit ?_ | refine AWp.ret ?_ | refine ASl.nil ?_); try simp only [Then, InBlock, reduceIte, Nat.reduceEqDiff] | refine AWp.seq ?_ | refine AWp.reg rfl ?_ | refine AWp.block ?_ | apply AWp.condT; focus simp [cvCd, *]; done | apply AWp.condF; focus simp [cvCd, *]; done | refine AWp.regT (by kernel_rfl) (by kernel_rfl) rfl rfl ?_)
  obtain ⟨c, hc⟩ : ∃ c, cds[i] = c := ⟨_, rfl⟩
  rw [hc] at hml hpl ⊢
  refine AWp.countO c.methods.length [4, 6, 7, 8] 9 (fun j e H _ => e 6 = .int .i64 j ∧ H nx = some (.cells [.lst (cds.map cvCd)]) ∧ methodsE cds c.name (c.methods.take j) (c.methods.drop j) = methodsI cds c) ⟨(by first | (simp (disch := omega) [putE, over, ofV, ofS, *]; done) | (simp (disch := omega) [putE, over, ofV, ofS, *]; rfl)), by simp [upd], rfl⟩ ?_
  rintro j v H nx1 hj hn1 ⟨h6, hH, hw⟩
  have q1 : ∀ k, ¬ nx = nx1 + k := fun k => by omega
  repeat (first | (first | (apply AOpl.step; rfl) | apply ASl.step); focus simp [hc, *, -Option.some.injEq]; rfl | (first | (apply AOpl.stepG; rfl) | apply ASl.stepG); (focus simp [hc, *]; done); focus simp [hc, *, -Option.some.injEq]; rfl | (first | (apply AOpl.pass; rfl) | apply ASl.pass); (focus simp [hc, *]; done) | (first | refine AOpl.nil ?_ | refine AWp.skip ?_ | refine AWp.exit ?_ | refine AWp.ret ?_ | refine ASl.nil ?_); try simp only [Then, InBlock, reduceIte, Nat.reduceEqDiff] | refine AWp.seq ?_ | refine AWp.reg rfl ?_ | refine AWp.block ?_ | apply AWp.condT; focus simp [hc, *]; done | apply AWp.condF; focus simp [hc, *]; done | refine AWp.regT (by kernel_rfl) (by kernel_rfl) rfl rfl ?_)
  (((apply AWp.cond'); (focus (simp [*, -Ax.CV.bool.injEq]; rfl))) <;> (intro hb) <;> (try simp only [decide_eq_true_eq, decide_eq_false_iff_not, Bool.not_eq_true', Bool.not_eq_false', Bool.not_eq_true, Bool.not_eq_false] at hb))
  · have hlj : j < c.methods.length := hb
    have hwj := wrap_up hlj (show c.methods.length ≤ maxLen by simp only [maxLen]; omega)
    have htk := take_succ_at hlj
    have hpj := hpl _ (List.getElem_mem hlj)
    rw [dropAt hlj] at hw
    generalize hm : c.methods[j] = m at *
    simp only [methodsE] at hw
    repeat (first | (first | (apply AOpl.step; rfl) | apply ASl.step); focus simp [cvSg, *, -Option.some.injEq]; rfl | (first | (apply AOpl.stepG; rfl) | apply ASl.stepG); (focus simp [cvSg, *]; done); focus simp [cvSg, *, -Option.some.injEq]; rfl | (first | (apply AOpl.pass; rfl) | apply ASl.pass); (focus simp [cvSg, *]; done) | (first | refine AOpl.nil ?_ | refine AWp.skip ?_ | refine AWp.exit ?_ | refine AWp.ret ?_ | refine ASl.nil ?_); try simp only [Then, InBlock, reduceIte, Nat.reduceEqDiff] | refine AWp.seq ?_ | refine AWp.reg rfl ?_ | refine AWp.block ?_ | apply AWp.condT; focus simp [cvSg, *]; done | apply AWp.condF; focus simp [cvSg, *]; done | refine AWp.regT (by kernel_rfl) (by kernel_rfl) rfl rfl ?_)
    (first | (first | (apply AOpl.callN; rfl) | apply ASl.call); (focus simp [*, -Option.some.injEq]; rfl); kernel_rfl | (first | (apply AOpl.callNG; rfl) | apply ASl.callg); (focus simp [*]; done); (focus simp [*, -Option.some.injEq]; rfl); kernel_rfl)
    · exact ident_ok m.name
    intro nx2 hn2
    cases h1 : identB m.name
    · simp only [h1, if_true] at hw
      repeat (first | (first | (apply AOpl.step; rfl) | apply ASl.step); focus simp [*, -Option.some.injEq]; rfl | (first | (apply AOpl.stepG; rfl) | apply ASl.stepG); (focus simp [*]; done); focus simp [*, -Option.some.injEq]; rfl | (first | (apply AOpl.pass; rfl) | apply ASl.pass); (focus simp [*]; done) | (first | refine AOpl.nil ?_ | refine AWp.skip ?_ | refine AWp.exit ?_ | refine AWp.ret ?_ | refine ASl.nil ?_); try simp only [Then, InBlock, reduceIte, Nat.reduceEqDiff] | refine AWp.seq ?_ | refine AWp.reg rfl ?_ | refine AWp.block ?_ | apply AWp.condT; focus simp [*]; done | apply AWp.condF; focus simp [*]; done | refine AWp.regT (by kernel_rfl) (by kernel_rfl) rfl rfl ?_)
      (refine ⟨_, (by simp [*]; rfl), ?_⟩; (try simp only [packA]))
      all_goals rw [← hw]
    simp only [h1, if_false, Bool.true_eq_false] at hw
    repeat (first | (first | (apply AOpl.step; rfl) | apply ASl.step); focus simp [*, -Option.some.injEq]; rfl | (first | (apply AOpl.stepG; rfl) | apply ASl.stepG); (focus simp [*]; done); focus simp [*, -Option.some.injEq]; rfl | (first | (apply AOpl.pass; rfl) | apply ASl.pass); (focus simp [*]; done) | (first | refine AOpl.nil ?_ | refine AWp.skip ?_ | refine AWp.exit ?_ | refine AWp.ret ?_ | refine ASl.nil ?_); try simp only [Then, InBlock, reduceIte, Nat.reduceEqDiff] | refine AWp.seq ?_ | refine AWp.reg rfl ?_ | refine AWp.block ?_ | apply AWp.condT; focus simp [*]; done | apply AWp.condF; focus simp [*]; done | refine AWp.regT (by kernel_rfl) (by kernel_rfl) rfl rfl ?_)
    refine AWp.countO j [4, 7] 9 (fun k e H _ => e 7 = .int .i64 k ∧ H nx = some (.cells [.lst (cds.map cvCd)]) ∧ (c.methods.take k).any (fun x => decide (x.name = m.name)) = false) ⟨(by first | (simp (disch := omega) [putE, over, ofV, ofS, *]; done) | (simp (disch := omega) [putE, over, ofV, ofS, *]; rfl)), hH, rfl⟩ ?_
    rintro k v2 H2 nx3 hk hn3 ⟨h7, hH2, ha⟩
    have q3 : ∀ k, ¬ nx = nx3 + k := fun k => by omega
    repeat (first | (first | (apply AOpl.step; rfl) | apply ASl.step); focus simp [*, -Option.some.injEq]; rfl | (first | (apply AOpl.stepG; rfl) | apply ASl.stepG); (focus simp [*]; done); focus simp [*, -Option.some.injEq]; rfl | (first | (apply AOpl.pass; rfl) | apply ASl.pass); (focus simp [*]; done) | (first | refine AOpl.nil ?_ | refine AWp.skip ?_ | refine AWp.exit ?_ | refine AWp.ret ?_ | refine ASl.nil ?_); try simp only [Then, InBlock, reduceIte, Nat.reduceEqDiff] | refine AWp.seq ?_ | refine AWp.reg rfl ?_ | refine AWp.block ?_ | apply AWp.condT; focus simp [*]; done | apply AWp.condF; focus simp [*]; done | refine AWp.regT (by kernel_rfl) (by kernel_rfl) rfl rfl ?_)
    (((apply AWp.cond'); (focus (simp [*, -Ax.CV.bool.injEq]; rfl))) <;> (intro hb) <;> (try simp only [decide_eq_true_eq, decide_eq_false_iff_not, Bool.not_eq_true', Bool.not_eq_false', Bool.not_eq_true, Bool.not_eq_false] at hb))
    · have hkj : k < j := hb
      have hkl : k < c.methods.length := by omega
      have hwk := wrap_up hkj (show j ≤ maxLen by simp only [maxLen]; omega)
      repeat (first | (first | (apply AOpl.step; rfl) | apply ASl.step); focus simp [cvSg, *, -Option.some.injEq]; rfl | (first | (apply AOpl.stepG; rfl) | apply ASl.stepG); (focus simp [cvSg, *]; done); focus simp [cvSg, *, -Option.some.injEq]; rfl | (first | (apply AOpl.pass; rfl) | apply ASl.pass); (focus simp [cvSg, *]; done) | (first | refine AOpl.nil ?_ | refine AWp.skip ?_ | refine AWp.exit ?_ | refine AWp.ret ?_ | refine ASl.nil ?_); try simp only [Then, InBlock, reduceIte, Nat.reduceEqDiff] | refine AWp.seq ?_ | refine AWp.reg rfl ?_ | refine AWp.block ?_ | apply AWp.condT; focus simp [cvSg, *]; done | apply AWp.condF; focus simp [cvSg, *]; done | refine AWp.regT (by kernel_rfl) (by kernel_rfl) rfl rfl ?_)
      (((apply AWp.cond'); (focus (simp [*, -Ax.CV.bool.injEq]; rfl))) <;> (intro hb) <;> (try simp only [decide_eq_true_eq, decide_eq_false_iff_not, Bool.not_eq_true', Bool.not_eq_false', Bool.not_eq_true, Bool.not_eq_false] at hb))
      · have ht : (c.methods.take j).any (fun x => decide (x.name = m.name)) = true := List.any_eq_true.mpr ⟨c.methods[k], by rw [List.mem_take_iff_getElem]; exact ⟨k, by omega, rfl⟩, by simp [hb]⟩
        simp only [ht, if_true] at hw
        repeat (first | (first | (apply AOpl.step; rfl) | apply ASl.step); focus simp [*, -Option.some.injEq]; rfl | (first | (apply AOpl.stepG; rfl) | apply ASl.stepG); (focus simp [*]; done); focus simp [*, -Option.some.injEq]; rfl | (first | (apply AOpl.pass; rfl) | apply ASl.pass); (focus simp [*]; done) | (first | refine AOpl.nil ?_ | refine AWp.skip ?_ | refine AWp.exit ?_ | refine AWp.ret ?_ | refine ASl.nil ?_); try simp only [Then, InBlock, reduceIte, Nat.reduceEqDiff] | refine AWp.seq ?_ | refine AWp.reg rfl ?_ | refine AWp.block ?_ | apply AWp.condT; focus simp [*]; done | apply AWp.condF; focus simp [*]; done | refine AWp.regT (by kernel_rfl) (by kernel_rfl) rfl rfl ?_)
        (refine ⟨_, (by simp [*]; rfl), ?_⟩; (try simp only [packA]))
        all_goals rw [← hw]
      · repeat (first | (first | (apply AOpl.step; rfl) | apply ASl.step); focus simp [*, -Option.some.injEq]; rfl | (first | (apply AOpl.stepG; rfl) | apply ASl.stepG); (focus simp [*]; done); focus simp [*, -Option.some.injEq]; rfl | (first | (apply AOpl.pass; rfl) | apply ASl.pass); (focus simp [*]; done) | (first | refine AOpl.nil ?_ | refine AWp.skip ?_ | refine AWp.exit ?_ | refine AWp.ret ?_ | refine ASl.nil ?_); try simp only [Then, InBlock, reduceIte, Nat.reduceEqDiff] | refine AWp.seq ?_ | refine AWp.reg rfl ?_ | refine AWp.block ?_ | apply AWp.condT; focus simp [*]; done | apply AWp.condF; focus simp [*]; done | refine AWp.regT (by kernel_rfl) (by kernel_rfl) rfl rfl ?_)
        exact ⟨by ((repeat (first | exact Keeps.base _ _ _ _ | (with_reducible exact Keeps.refl _ _ _) | (refine Keeps.put rfl ?_) | (refine Keeps.over' rfl rfl ?_)))), hkj, (by first | (simp (disch := omega) [putE, over, ofV, ofS, *]; done) | (simp (disch := omega) [putE, over, ofV, ofS, *]; rfl)), hH2, any_take hkl ha (by simp [hb])⟩
    · have hk' : k = j := by omega
      subst hk'
      simp only [ha, if_false, Bool.false_eq_true] at hw
      repeat (first | (first | (apply AOpl.step; rfl) | apply ASl.step); focus simp [cvSg, *, -Option.some.injEq]; rfl | (first | (apply AOpl.stepG; rfl) | apply ASl.stepG); (focus simp [cvSg, *]; done); focus simp [cvSg, *, -Option.some.injEq]; rfl | (first | (apply AOpl.pass; rfl) | apply ASl.pass); (focus simp [cvSg, *]; done) | (first | refine AOpl.nil ?_ | refine AWp.skip ?_ | refine AWp.exit ?_ | refine AWp.ret ?_ | refine ASl.nil ?_); try simp only [Then, InBlock, reduceIte, Nat.reduceEqDiff] | refine AWp.seq ?_ | refine AWp.reg rfl ?_ | refine AWp.block ?_ | apply AWp.condT; focus simp [cvSg, *]; done | apply AWp.condF; focus simp [cvSg, *]; done | refine AWp.regT (by kernel_rfl) (by kernel_rfl) rfl rfl ?_)
      (((apply AWp.cond'); (focus (simp [*, -Ax.CV.bool.injEq]; rfl))) <;> (intro hb) <;> (try simp only [decide_eq_true_eq, decide_eq_false_iff_not, Bool.not_eq_true', Bool.not_eq_false', Bool.not_eq_true, Bool.not_eq_false] at hb))
      · have hp : 6 < m.params.length := by omega
        simp only [hp, if_true] at hw
        repeat (first | (first | (apply AOpl.step; rfl) | apply ASl.step); focus simp [*, -Option.some.injEq]; rfl | (first | (apply AOpl.stepG; rfl) | apply ASl.stepG); (focus simp [*]; done); focus simp [*, -Option.some.injEq]; rfl | (first | (apply AOpl.pass; rfl) | apply ASl.pass); (focus simp [*]; done) | (first | refine AOpl.nil ?_ | refine AWp.skip ?_ | refine AWp.exit ?_ | refine AWp.ret ?_ | refine ASl.nil ?_); try simp only [Then, InBlock, reduceIte, Nat.reduceEqDiff] | refine AWp.seq ?_ | refine AWp.reg rfl ?_ | refine AWp.block ?_ | apply AWp.condT; focus simp [*]; done | apply AWp.condF; focus simp [*]; done | refine AWp.regT (by kernel_rfl) (by kernel_rfl) rfl rfl ?_)
        (refine ⟨_, (by simp [*]; rfl), ?_⟩; (try simp only [packA]))
        all_goals rw [← hw]
      have hp : ¬ 6 < m.params.length := by omega
      simp only [hp, if_false] at hw
      repeat (first | (first | (apply AOpl.step; rfl) | apply ASl.step); focus simp [*, -Option.some.injEq]; rfl | (first | (apply AOpl.stepG; rfl) | apply ASl.stepG); (focus simp [*]; done); focus simp [*, -Option.some.injEq]; rfl | (first | (apply AOpl.pass; rfl) | apply ASl.pass); (focus simp [*]; done) | (first | refine AOpl.nil ?_ | refine AWp.skip ?_ | refine AWp.exit ?_ | refine AWp.ret ?_ | refine ASl.nil ?_); try simp only [Then, InBlock, reduceIte, Nat.reduceEqDiff] | refine AWp.seq ?_ | refine AWp.reg rfl ?_ | refine AWp.block ?_ | apply AWp.condT; focus simp [*]; done | apply AWp.condF; focus simp [*]; done | refine AWp.regT (by kernel_rfl) (by kernel_rfl) rfl rfl ?_)
      (first | (first | (apply AOpl.callN; rfl) | apply ASl.call); (focus simp [*, -Option.some.injEq]; rfl); kernel_rfl | (first | (apply AOpl.callNG; rfl) | apply ASl.callg); (focus simp [*]; done); (focus simp [*, -Option.some.injEq]; rfl); kernel_rfl)
      · exact types_one cds hl m hpj
      repeat (first | (first | (apply AOpl.step; rfl) | apply ASl.step); focus simp [*, -Option.some.injEq]; rfl | (first | (apply AOpl.stepG; rfl) | apply ASl.stepG); (focus simp [*]; done); focus simp [*, -Option.some.injEq]; rfl | (first | (apply AOpl.pass; rfl) | apply ASl.pass); (focus simp [*]; done) | (first | refine AOpl.nil ?_ | refine AWp.skip ?_ | refine AWp.exit ?_ | refine AWp.ret ?_ | refine ASl.nil ?_); try simp only [Then, InBlock, reduceIte, Nat.reduceEqDiff] | refine AWp.seq ?_ | refine AWp.reg rfl ?_ | refine AWp.block ?_ | apply AWp.condT; focus simp [*]; done | apply AWp.condF; focus simp [*]; done | refine AWp.regT (by kernel_rfl) (by kernel_rfl) rfl rfl ?_)
      by_cases h3 : typesE cds m = 0
      · simp only [h3, ne_eq, not_true, if_false] at hw
        repeat (first | (first | (apply AOpl.step; rfl) | apply ASl.step); focus simp [*, -Option.some.injEq]; rfl | (first | (apply AOpl.stepG; rfl) | apply ASl.stepG); (focus simp [*]; done); focus simp [*, -Option.some.injEq]; rfl | (first | (apply AOpl.pass; rfl) | apply ASl.pass); (focus simp [*]; done) | (first | refine AOpl.nil ?_ | refine AWp.skip ?_ | refine AWp.exit ?_ | refine AWp.ret ?_ | refine ASl.nil ?_); try simp only [Then, InBlock, reduceIte, Nat.reduceEqDiff] | refine AWp.seq ?_ | refine AWp.reg rfl ?_ | refine AWp.block ?_ | apply AWp.condT; focus simp [*]; done | apply AWp.condF; focus simp [*]; done | refine AWp.regT (by kernel_rfl) (by kernel_rfl) rfl rfl ?_)
        (first | (first | (apply AOpl.callN; rfl) | apply ASl.call); (focus simp [cvCd, *, -Option.some.injEq]; rfl); kernel_rfl | (first | (apply AOpl.callNG; rfl) | apply ASl.callg); (focus simp [cvCd, *]; done); (focus simp [cvCd, *, -Option.some.injEq]; rfl); kernel_rfl)
        · exact over_one cds hB c.name m
        repeat (first | (first | (apply AOpl.step; rfl) | apply ASl.step); focus simp [*, -Option.some.injEq]; rfl | (first | (apply AOpl.stepG; rfl) | apply ASl.stepG); (focus simp [*]; done); focus simp [*, -Option.some.injEq]; rfl | (first | (apply AOpl.pass; rfl) | apply ASl.pass); (focus simp [*]; done) | (first | refine AOpl.nil ?_ | refine AWp.skip ?_ | refine AWp.exit ?_ | refine AWp.ret ?_ | refine ASl.nil ?_); try simp only [Then, InBlock, reduceIte, Nat.reduceEqDiff] | refine AWp.seq ?_ | refine AWp.reg rfl ?_ | refine AWp.block ?_ | apply AWp.condT; focus simp [*]; done | apply AWp.condF; focus simp [*]; done | refine AWp.regT (by kernel_rfl) (by kernel_rfl) rfl rfl ?_)
        cases h4 : overB cds c.name m
        · simp only [h4, Bool.false_eq_true, if_false] at hw
          repeat (first | (first | (apply AOpl.step; rfl) | apply ASl.step); focus simp [*, -Option.some.injEq]; rfl | (first | (apply AOpl.stepG; rfl) | apply ASl.stepG); (focus simp [*]; done); focus simp [*, -Option.some.injEq]; rfl | (first | (apply AOpl.pass; rfl) | apply ASl.pass); (focus simp [*]; done) | (first | refine AOpl.nil ?_ | refine AWp.skip ?_ | refine AWp.exit ?_ | refine AWp.ret ?_ | refine ASl.nil ?_); try simp only [Then, InBlock, reduceIte, Nat.reduceEqDiff] | refine AWp.seq ?_ | refine AWp.reg rfl ?_ | refine AWp.block ?_ | apply AWp.condT; focus simp [*]; done | apply AWp.condF; focus simp [*]; done | refine AWp.regT (by kernel_rfl) (by kernel_rfl) rfl rfl ?_)
          exact ⟨by ((repeat (first | exact Keeps.base _ _ _ _ | (with_reducible exact Keeps.refl _ _ _) | (refine Keeps.put rfl ?_) | (refine Keeps.over' rfl rfl ?_)))), hlj, (by first | (simp (disch := omega) [putE, over, ofV, ofS, *]; done) | (simp (disch := omega) [putE, over, ofV, ofS, *]; rfl)), hH2, by rw [htk]; exact hw⟩
        · simp only [h4, if_true] at hw
          repeat (first | (first | (apply AOpl.step; rfl) | apply ASl.step); focus simp [*, -Option.some.injEq]; rfl | (first | (apply AOpl.stepG; rfl) | apply ASl.stepG); (focus simp [*]; done); focus simp [*, -Option.some.injEq]; rfl | (first | (apply AOpl.pass; rfl) | apply ASl.pass); (focus simp [*]; done) | (first | refine AOpl.nil ?_ | refine AWp.skip ?_ | refine AWp.exit ?_ | refine AWp.ret ?_ | refine ASl.nil ?_); try simp only [Then, InBlock, reduceIte, Nat.reduceEqDiff] | refine AWp.seq ?_ | refine AWp.reg rfl ?_ | refine AWp.block ?_ | apply AWp.condT; focus simp [*]; done | apply AWp.condF; focus simp [*]; done | refine AWp.regT (by kernel_rfl) (by kernel_rfl) rfl rfl ?_)
          (refine ⟨_, (by simp [*]; rfl), ?_⟩; (try simp only [packA]))
          all_goals rw [← hw]
      · simp only [h3, ne_eq, not_false_eq_true, if_true] at hw
        have hw' := hw.symm
        clear hw
        repeat (first | (first | (apply AOpl.step; rfl) | apply ASl.step); focus simp [*, -Option.some.injEq]; rfl | (first | (apply AOpl.stepG; rfl) | apply ASl.stepG); (focus simp [*]; done); focus simp [*, -Option.some.injEq]; rfl | (first | (apply AOpl.pass; rfl) | apply ASl.pass); (focus simp [*]; done) | (first | refine AOpl.nil ?_ | refine AWp.skip ?_ | refine AWp.exit ?_ | refine AWp.ret ?_ | refine ASl.nil ?_); try simp only [Then, InBlock, reduceIte, Nat.reduceEqDiff] | refine AWp.seq ?_ | refine AWp.reg rfl ?_ | refine AWp.block ?_ | apply AWp.condT; focus simp [*]; done | apply AWp.condF; focus simp [*]; done | refine AWp.regT (by kernel_rfl) (by kernel_rfl) rfl rfl ?_)
        (refine ⟨_, (by simp [*]; rfl), ?_⟩; (try simp only [packA]))
        all_goals rw [hw']
  · rw [dropEnd hj hb] at hw
    repeat (first | (first | (apply AOpl.step; rfl) | apply ASl.step); focus simp [*, -Option.some.injEq]; rfl | (first | (apply AOpl.stepG; rfl) | apply ASl.stepG); (focus simp [*]; done); focus simp [*, -Option.some.injEq]; rfl | (first | (apply AOpl.pass; rfl) | apply ASl.pass); (focus simp [*]; done) | (first | refine AOpl.nil ?_ | refine AWp.skip ?_ | refine AWp.exit ?_ | refine AWp.ret ?_ | refine ASl.nil ?_); try simp only [Then, InBlock, reduceIte, Nat.reduceEqDiff] | refine AWp.seq ?_ | refine AWp.reg rfl ?_ | refine AWp.block ?_ | apply AWp.condT; focus simp [*]; done | apply AWp.condF; focus simp [*]; done | refine AWp.regT (by kernel_rfl) (by kernel_rfl) rfl rfl ?_)
    (refine ⟨_, (by simp [*]; rfl), ?_⟩; (try simp only [packA]))
    all_goals rw [← hw]
    all_goals rfl
def classE (cds : List Cd) (i : Nat) (c : Cd) : Int :=
  if identB c.name = false then 5 else if findI cds c.name ≠ i then 7 else if c.super ≠ [] ∧ findI cds c.super < 0 then 6 else if (chainC cds c.name).2 = true then 10 else if (16 : Int) < c.fields.length ∨ (16 : Int) < c.methods.length then 3
  else if fieldsI cds c ≠ 0 then fieldsI cds c else methodsI cds c
theorem chain_one (cds : List Cd) (hl : cds.length ≤ 1000) (s : Bs) : FCall Tryz.prog cxG 185 [.agg [.lst (cds.map cvCd)], .str s] fun r => r = .ret (.tup [.lst ((chainC cds s).1.map cvB), .bool (chainC cds s).2]) := chain_ok cds hl s
set_option maxRecDepth 10000 in
set_option maxHeartbeats 8000000 in
theorem class_ok (cds : List Cd) (hB : HiB cds) (i : Nat) (hi : i < cds.length) : FCall Tryz.prog cxG 161 [.agg [.lst (cds.map cvCd)], .int .i64 i] fun r => r = .ret (.int .i64 (classE cds i cds[i])) := by
  have hl := hB.len
  have hlm : cds.length ≤ maxLen := by simp only [maxLen]; omega
  obtain ⟨w, hw⟩ : ∃ w, w = classE cds i cds[i] := ⟨_, rfl⟩
  rw [← hw]
  have hF := fields_ok cds hB i hi
  have hM := methods_ok cds hB i hi
  refine FCall.ofBody Tryz.func161 rfl rfl fun nx => ?_
  generalize hc : cds[i] = c at *
  unfold classE at hw
  repeat (first | (first | (apply AOpl.step; rfl) | apply ASl.step); focus simp [cvCd, *, -Option.some.injEq]; rfl | (first | (apply AOpl.stepG; rfl) | apply ASl.stepG); (focus simp [cvCd, *]; done); focus simp [cvCd, *, -Option.some.injEq]; rfl | (first | (apply AOpl.pass; rfl) | apply ASl.pass); (focus simp [cvCd, *]; done) | (first | refine AOpl.nil ?_ | refine AWp.skip ?_ | refine AWp.exit ?_ | refine AWp.ret ?_ | refine ASl.nil ?_); try simp only [Then, InBlock, reduceIte, Nat.reduceEqDiff] | refine AWp.seq ?_ | refine AWp.reg rfl ?_ | refine AWp.block ?_ | apply AWp.condT; focus simp [cvCd, *]; done | apply AWp.condF; focus simp [cvCd, *]; done | refine AWp.regT (by kernel_rfl) (by kernel_rfl) rfl rfl ?_)
  (first | (first | (apply AOpl.callN; rfl) | apply ASl.call); (focus simp [*, -Option.some.injEq]; rfl); kernel_rfl | (first | (apply AOpl.callNG; rfl) | apply ASl.callg); (focus simp [*]; done); (focus simp [*, -Option.some.injEq]; rfl); kernel_rfl)
  · exact ident_ok c.name
  intro nx2 hn2
  cases h1 : identB c.name
  · simp only [h1, if_true] at hw
    repeat (first | (first | (apply AOpl.step; rfl) | apply ASl.step); focus simp [*, -Option.some.injEq]; rfl | (first | (apply AOpl.stepG; rfl) | apply ASl.stepG); (focus simp [*]; done); focus simp [*, -Option.some.injEq]; rfl | (first | (apply AOpl.pass; rfl) | apply ASl.pass); (focus simp [*]; done) | (first | refine AOpl.nil ?_ | refine AWp.skip ?_ | refine AWp.exit ?_ | refine AWp.ret ?_ | refine ASl.nil ?_); try simp only [Then, InBlock, reduceIte, Nat.reduceEqDiff] | refine AWp.seq ?_ | refine AWp.reg rfl ?_ | refine AWp.block ?_ | apply AWp.condT; focus simp [*]; done | apply AWp.condF; focus simp [*]; done | refine AWp.regT (by kernel_rfl) (by kernel_rfl) rfl rfl ?_)
    (refine ⟨_, (by simp [*]; rfl), ?_⟩; (try simp only [packA]))
    all_goals rw [hw]
  simp only [h1, if_false, Bool.true_eq_false] at hw
  have q1 : ∀ k, ¬ nx = nx2 + k := fun k => by omega
  repeat (first | (first | (apply AOpl.step; rfl) | apply ASl.step); focus simp [*, -Option.some.injEq]; rfl | (first | (apply AOpl.stepG; rfl) | apply ASl.stepG); (focus simp [*]; done); focus simp [*, -Option.some.injEq]; rfl | (first | (apply AOpl.pass; rfl) | apply ASl.pass); (focus simp [*]; done) | (first | refine AOpl.nil ?_ | refine AWp.skip ?_ | refine AWp.exit ?_ | refine AWp.ret ?_ | refine ASl.nil ?_); try simp only [Then, InBlock, reduceIte, Nat.reduceEqDiff] | refine AWp.seq ?_ | refine AWp.reg rfl ?_ | refine AWp.block ?_ | apply AWp.condT; focus simp [*]; done | apply AWp.condF; focus simp [*]; done | refine AWp.regT (by kernel_rfl) (by kernel_rfl) rfl rfl ?_)
  (first | (first | (apply AOpl.callN; rfl) | apply ASl.call); (focus simp [*, -Option.some.injEq]; rfl); kernel_rfl | (first | (apply AOpl.callNG; rfl) | apply ASl.callg); (focus simp [*]; done); (focus simp [*, -Option.some.injEq]; rfl); kernel_rfl)
  · exact find_ok cds hlm c.name
  intro nx3 hn3
  by_cases h2 : findI cds c.name = i
  case neg =>
    simp only [h2, ne_eq, not_false_eq_true, if_true] at hw
    repeat (first | (first | (apply AOpl.step; rfl) | apply ASl.step); focus simp [*, -Option.some.injEq]; rfl | (first | (apply AOpl.stepG; rfl) | apply ASl.stepG); (focus simp [*]; done); focus simp [*, -Option.some.injEq]; rfl | (first | (apply AOpl.pass; rfl) | apply ASl.pass); (focus simp [*]; done) | (first | refine AOpl.nil ?_ | refine AWp.skip ?_ | refine AWp.exit ?_ | refine AWp.ret ?_ | refine ASl.nil ?_); try simp only [Then, InBlock, reduceIte, Nat.reduceEqDiff] | refine AWp.seq ?_ | refine AWp.reg rfl ?_ | refine AWp.block ?_ | apply AWp.condT; focus simp [*]; done | apply AWp.condF; focus simp [*]; done | refine AWp.regT (by kernel_rfl) (by kernel_rfl) rfl rfl ?_)
    (refine ⟨_, (by simp [*]; rfl), ?_⟩; (try simp only [packA]))
    all_goals rw [hw]
  simp only [h2, ne_eq, not_true, if_false] at hw
  rw [h2]
  by_cases h3 : c.super = []
  · simp only [h3, ne_eq, not_true, false_and, if_false] at hw
    repeat (first | (first | (apply AOpl.step; rfl) | apply ASl.step); focus simp [*, -Option.some.injEq]; rfl | (first | (apply AOpl.stepG; rfl) | apply ASl.stepG); (focus simp [*]; done); focus simp [*, -Option.some.injEq]; rfl | (first | (apply AOpl.pass; rfl) | apply ASl.pass); (focus simp [*]; done) | (first | refine AOpl.nil ?_ | refine AWp.skip ?_ | refine AWp.exit ?_ | refine AWp.ret ?_ | refine ASl.nil ?_); try simp only [Then, InBlock, reduceIte, Nat.reduceEqDiff] | refine AWp.seq ?_ | refine AWp.reg rfl ?_ | refine AWp.block ?_ | apply AWp.condT; focus simp [*]; done | apply AWp.condF; focus simp [*]; done | refine AWp.regT (by kernel_rfl) (by kernel_rfl) rfl rfl ?_)
    (first | (first | (apply AOpl.callN; rfl) | apply ASl.call); (focus simp [*, -Option.some.injEq]; rfl); kernel_rfl | (first | (apply AOpl.callNG; rfl) | apply ASl.callg); (focus simp [*]; done); (focus simp [*, -Option.some.injEq]; rfl); kernel_rfl)
    · exact chain_one cds hl c.name
    intro nx4 hn4
    cases h5 : (chainC cds c.name).2
    case true =>
      simp only [h5, if_true] at hw
      repeat (first | (first | (apply AOpl.step; rfl) | apply ASl.step); focus simp [*, -Option.some.injEq]; rfl | (first | (apply AOpl.stepG; rfl) | apply ASl.stepG); (focus simp [*]; done); focus simp [*, -Option.some.injEq]; rfl | (first | (apply AOpl.pass; rfl) | apply ASl.pass); (focus simp [*]; done) | (first | refine AOpl.nil ?_ | refine AWp.skip ?_ | refine AWp.exit ?_ | refine AWp.ret ?_ | refine ASl.nil ?_); try simp only [Then, InBlock, reduceIte, Nat.reduceEqDiff] | refine AWp.seq ?_ | refine AWp.reg rfl ?_ | refine AWp.block ?_ | apply AWp.condT; focus simp [*]; done | apply AWp.condF; focus simp [*]; done | refine AWp.regT (by kernel_rfl) (by kernel_rfl) rfl rfl ?_)
      (refine ⟨_, (by simp [*]; rfl), ?_⟩; (try simp only [packA]))
      all_goals rw [hw]
    simp only [h5, if_false, Bool.false_eq_true] at hw
    by_cases h6 : (16 : Int) < c.fields.length
    · simp only [h6, true_or, if_true] at hw
      repeat (first | (first | (apply AOpl.step; rfl) | apply ASl.step); focus simp [*, -Option.some.injEq]; rfl | (first | (apply AOpl.stepG; rfl) | apply ASl.stepG); (focus simp [*]; done); focus simp [*, -Option.some.injEq]; rfl | (first | (apply AOpl.pass; rfl) | apply ASl.pass); (focus simp [*]; done) | (first | refine AOpl.nil ?_ | refine AWp.skip ?_ | refine AWp.exit ?_ | refine AWp.ret ?_ | refine ASl.nil ?_); try simp only [Then, InBlock, reduceIte, Nat.reduceEqDiff] | refine AWp.seq ?_ | refine AWp.reg rfl ?_ | refine AWp.block ?_ | apply AWp.condT; focus simp [*]; done | apply AWp.condF; focus simp [*]; done | refine AWp.regT (by kernel_rfl) (by kernel_rfl) rfl rfl ?_)
      (refine ⟨_, (by simp [*]; rfl), ?_⟩; (try simp only [packA]))
      all_goals rw [hw]
    by_cases h7 : (16 : Int) < c.methods.length
    · simp only [h7, or_true, if_true] at hw
      repeat (first | (first | (apply AOpl.step; rfl) | apply ASl.step); focus simp [*, -Option.some.injEq]; rfl | (first | (apply AOpl.stepG; rfl) | apply ASl.stepG); (focus simp [*]; done); focus simp [*, -Option.some.injEq]; rfl | (first | (apply AOpl.pass; rfl) | apply ASl.pass); (focus simp [*]; done) | (first | refine AOpl.nil ?_ | refine AWp.skip ?_ | refine AWp.exit ?_ | refine AWp.ret ?_ | refine ASl.nil ?_); try simp only [Then, InBlock, reduceIte, Nat.reduceEqDiff] | refine AWp.seq ?_ | refine AWp.reg rfl ?_ | refine AWp.block ?_ | apply AWp.condT; focus simp [*]; done | apply AWp.condF; focus simp [*]; done | refine AWp.regT (by kernel_rfl) (by kernel_rfl) rfl rfl ?_)
      (refine ⟨_, (by simp [*]; rfl), ?_⟩; (try simp only [packA]))
      all_goals rw [hw]
    simp only [h6, h7, or_self, if_false] at hw
    repeat (first | (first | (apply AOpl.step; rfl) | apply ASl.step); focus simp [*, -Option.some.injEq]; rfl | (first | (apply AOpl.stepG; rfl) | apply ASl.stepG); (focus simp [*]; done); focus simp [*, -Option.some.injEq]; rfl | (first | (apply AOpl.pass; rfl) | apply ASl.pass); (focus simp [*]; done) | (first | refine AOpl.nil ?_ | refine AWp.skip ?_ | refine AWp.exit ?_ | refine AWp.ret ?_ | refine ASl.nil ?_); try simp only [Then, InBlock, reduceIte, Nat.reduceEqDiff] | refine AWp.seq ?_ | refine AWp.reg rfl ?_ | refine AWp.block ?_ | apply AWp.condT; focus simp [*]; done | apply AWp.condF; focus simp [*]; done | refine AWp.regT (by kernel_rfl) (by kernel_rfl) rfl rfl ?_)
    (first | (first | (apply AOpl.callN; rfl) | apply ASl.call); (focus simp [*, -Option.some.injEq]; rfl); kernel_rfl | (first | (apply AOpl.callNG; rfl) | apply ASl.callg); (focus simp [*]; done); (focus simp [*, -Option.some.injEq]; rfl); kernel_rfl)
    · exact hF
    intro nx6 hn6
    by_cases h8 : fieldsI cds c = 0
    · simp only [h8, ne_eq, not_true, if_false] at hw
      repeat (first | (first | (apply AOpl.step; rfl) | apply ASl.step); focus simp [*, -Option.some.injEq]; rfl | (first | (apply AOpl.stepG; rfl) | apply ASl.stepG); (focus simp [*]; done); focus simp [*, -Option.some.injEq]; rfl | (first | (apply AOpl.pass; rfl) | apply ASl.pass); (focus simp [*]; done) | (first | refine AOpl.nil ?_ | refine AWp.skip ?_ | refine AWp.exit ?_ | refine AWp.ret ?_ | refine ASl.nil ?_); try simp only [Then, InBlock, reduceIte, Nat.reduceEqDiff] | refine AWp.seq ?_ | refine AWp.reg rfl ?_ | refine AWp.block ?_ | apply AWp.condT; focus simp [*]; done | apply AWp.condF; focus simp [*]; done | refine AWp.regT (by kernel_rfl) (by kernel_rfl) rfl rfl ?_)
      (first | (first | (apply AOpl.callN; rfl) | apply ASl.call); (focus simp [*, -Option.some.injEq]; rfl); kernel_rfl | (first | (apply AOpl.callNG; rfl) | apply ASl.callg); (focus simp [*]; done); (focus simp [*, -Option.some.injEq]; rfl); kernel_rfl)
      · exact hM
      intro nx7 hn7
      repeat (first | (first | (apply AOpl.step; rfl) | apply ASl.step); focus simp [*, -Option.some.injEq]; rfl | (first | (apply AOpl.stepG; rfl) | apply ASl.stepG); (focus simp [*]; done); focus simp [*, -Option.some.injEq]; rfl | (first | (apply AOpl.pass; rfl) | apply ASl.pass); (focus simp [*]; done) | (first | refine AOpl.nil ?_ | refine AWp.skip ?_ | refine AWp.exit ?_ | refine AWp.ret ?_ | refine ASl.nil ?_); try simp only [Then, InBlock, reduceIte, Nat.reduceEqDiff] | refine AWp.seq ?_ | refine AWp.reg rfl ?_ | refine AWp.block ?_ | apply AWp.condT; focus simp [*]; done | apply AWp.condF; focus simp [*]; done | refine AWp.regT (by kernel_rfl) (by kernel_rfl) rfl rfl ?_)
      (refine ⟨_, (by simp [*]; rfl), ?_⟩; (try simp only [packA]))
      all_goals rw [hw]
    · simp only [h8, ne_eq, not_false_eq_true, if_true] at hw
      repeat (first | (first | (apply AOpl.step; rfl) | apply ASl.step); focus simp [*, -Option.some.injEq]; rfl | (first | (apply AOpl.stepG; rfl) | apply ASl.stepG); (focus simp [*]; done); focus simp [*, -Option.some.injEq]; rfl | (first | (apply AOpl.pass; rfl) | apply ASl.pass); (focus simp [*]; done) | (first | refine AOpl.nil ?_ | refine AWp.skip ?_ | refine AWp.exit ?_ | refine AWp.ret ?_ | refine ASl.nil ?_); try simp only [Then, InBlock, reduceIte, Nat.reduceEqDiff] | refine AWp.seq ?_ | refine AWp.reg rfl ?_ | refine AWp.block ?_ | apply AWp.condT; focus simp [*]; done | apply AWp.condF; focus simp [*]; done | refine AWp.regT (by kernel_rfl) (by kernel_rfl) rfl rfl ?_)
      (refine ⟨_, (by simp [*]; rfl), ?_⟩; (try simp only [packA]))
      all_goals rw [hw]
  · repeat (first | (first | (apply AOpl.step; rfl) | apply ASl.step); focus simp [*, -Option.some.injEq]; rfl | (first | (apply AOpl.stepG; rfl) | apply ASl.stepG); (focus simp [*]; done); focus simp [*, -Option.some.injEq]; rfl | (first | (apply AOpl.pass; rfl) | apply ASl.pass); (focus simp [*]; done) | (first | refine AOpl.nil ?_ | refine AWp.skip ?_ | refine AWp.exit ?_ | refine AWp.ret ?_ | refine ASl.nil ?_); try simp only [Then, InBlock, reduceIte, Nat.reduceEqDiff] | refine AWp.seq ?_ | refine AWp.reg rfl ?_ | refine AWp.block ?_ | apply AWp.condT; focus simp [*]; done | apply AWp.condF; focus simp [*]; done | refine AWp.regT (by kernel_rfl) (by kernel_rfl) rfl rfl ?_)
    (first | (first | (apply AOpl.callN; rfl) | apply ASl.call); (focus simp [*, -Option.some.injEq]; rfl); kernel_rfl | (first | (apply AOpl.callNG; rfl) | apply ASl.callg); (focus simp [*]; done); (focus simp [*, -Option.some.injEq]; rfl); kernel_rfl)
    · exact find_ok cds hlm c.super
    intro nx4 hn4
    by_cases h4 : findI cds c.super < 0
    · simp only [h3, h4, ne_eq, not_false_eq_true, and_self, if_true] at hw
      repeat (first | (first | (apply AOpl.step; rfl) | apply ASl.step); focus simp [*, -Option.some.injEq]; rfl | (first | (apply AOpl.stepG; rfl) | apply ASl.stepG); (focus simp [*]; done); focus simp [*, -Option.some.injEq]; rfl | (first | (apply AOpl.pass; rfl) | apply ASl.pass); (focus simp [*]; done) | (first | refine AOpl.nil ?_ | refine AWp.skip ?_ | refine AWp.exit ?_ | refine AWp.ret ?_ | refine ASl.nil ?_); try simp only [Then, InBlock, reduceIte, Nat.reduceEqDiff] | refine AWp.seq ?_ | refine AWp.reg rfl ?_ | refine AWp.block ?_ | apply AWp.condT; focus simp [*]; done | apply AWp.condF; focus simp [*]; done | refine AWp.regT (by kernel_rfl) (by kernel_rfl) rfl rfl ?_)
      (refine ⟨_, (by simp [*]; rfl), ?_⟩; (try simp only [packA]))
      all_goals rw [hw]
    simp only [h4, and_false, if_false] at hw
    repeat (first | (first | (apply AOpl.step; rfl) | apply ASl.step); focus simp [*, -Option.some.injEq]; rfl | (first | (apply AOpl.stepG; rfl) | apply ASl.stepG); (focus simp [*]; done); focus simp [*, -Option.some.injEq]; rfl | (first | (apply AOpl.pass; rfl) | apply ASl.pass); (focus simp [*]; done) | (first | refine AOpl.nil ?_ | refine AWp.skip ?_ | refine AWp.exit ?_ | refine AWp.ret ?_ | refine ASl.nil ?_); try simp only [Then, InBlock, reduceIte, Nat.reduceEqDiff] | refine AWp.seq ?_ | refine AWp.reg rfl ?_ | refine AWp.block ?_ | apply AWp.condT; focus simp [*]; done | apply AWp.condF; focus simp [*]; done | refine AWp.regT (by kernel_rfl) (by kernel_rfl) rfl rfl ?_)
    (first | (first | (apply AOpl.callN; rfl) | apply ASl.call); (focus simp [*, -Option.some.injEq]; rfl); kernel_rfl | (first | (apply AOpl.callNG; rfl) | apply ASl.callg); (focus simp [*]; done); (focus simp [*, -Option.some.injEq]; rfl); kernel_rfl)
    · exact chain_one cds hl c.name
    intro nx5 hn5
    cases h5 : (chainC cds c.name).2
    case true =>
      simp only [h5, if_true] at hw
      repeat (first | (first | (apply AOpl.step; rfl) | apply ASl.step); focus simp [*, -Option.some.injEq]; rfl | (first | (apply AOpl.stepG; rfl) | apply ASl.stepG); (focus simp [*]; done); focus simp [*, -Option.some.injEq]; rfl | (first | (apply AOpl.pass; rfl) | apply ASl.pass); (focus simp [*]; done) | (first | refine AOpl.nil ?_ | refine AWp.skip ?_ | refine AWp.exit ?_ | refine AWp.ret ?_ | refine ASl.nil ?_); try simp only [Then, InBlock, reduceIte, Nat.reduceEqDiff] | refine AWp.seq ?_ | refine AWp.reg rfl ?_ | refine AWp.block ?_ | apply AWp.condT; focus simp [*]; done | apply AWp.condF; focus simp [*]; done | refine AWp.regT (by kernel_rfl) (by kernel_rfl) rfl rfl ?_)
      (refine ⟨_, (by simp [*]; rfl), ?_⟩; (try simp only [packA]))
      all_goals rw [hw]
    simp only [h5, if_false, Bool.false_eq_true] at hw
    by_cases h6 : (16 : Int) < c.fields.length
    · simp only [h6, true_or, if_true] at hw
      repeat (first | (first | (apply AOpl.step; rfl) | apply ASl.step); focus simp [*, -Option.some.injEq]; rfl | (first | (apply AOpl.stepG; rfl) | apply ASl.stepG); (focus simp [*]; done); focus simp [*, -Option.some.injEq]; rfl | (first | (apply AOpl.pass; rfl) | apply ASl.pass); (focus simp [*]; done) | (first | refine AOpl.nil ?_ | refine AWp.skip ?_ | refine AWp.exit ?_ | refine AWp.ret ?_ | refine ASl.nil ?_); try simp only [Then, InBlock, reduceIte, Nat.reduceEqDiff] | refine AWp.seq ?_ | refine AWp.reg rfl ?_ | refine AWp.block ?_ | apply AWp.condT; focus simp [*]; done | apply AWp.condF; focus simp [*]; done | refine AWp.regT (by kernel_rfl) (by kernel_rfl) rfl rfl ?_)
      (refine ⟨_, (by simp [*]; rfl), ?_⟩; (try simp only [packA]))
      all_goals rw [hw]
    by_cases h7 : (16 : Int) < c.methods.length
    · simp only [h7, or_true, if_true] at hw
      repeat (first | (first | (apply AOpl.step; rfl) | apply ASl.step); focus simp [*, -Option.some.injEq]; rfl | (first | (apply AOpl.stepG; rfl) | apply ASl.stepG); (focus simp [*]; done); focus simp [*, -Option.some.injEq]; rfl | (first | (apply AOpl.pass; rfl) | apply ASl.pass); (focus simp [*]; done) | (first | refine AOpl.nil ?_ | refine AWp.skip ?_ | refine AWp.exit ?_ | refine AWp.ret ?_ | refine ASl.nil ?_); try simp only [Then, InBlock, reduceIte, Nat.reduceEqDiff] | refine AWp.seq ?_ | refine AWp.reg rfl ?_ | refine AWp.block ?_ | apply AWp.condT; focus simp [*]; done | apply AWp.condF; focus simp [*]; done | refine AWp.regT (by kernel_rfl) (by kernel_rfl) rfl rfl ?_)
      (refine ⟨_, (by simp [*]; rfl), ?_⟩; (try simp only [packA]))
      all_goals rw [hw]
    simp only [h6, h7, or_self, if_false] at hw
    repeat (first | (first | (apply AOpl.step; rfl) | apply ASl.step); focus simp [*, -Option.some.injEq]; rfl | (first | (apply AOpl.stepG; rfl) | apply ASl.stepG); (focus simp [*]; done); focus simp [*, -Option.some.injEq]; rfl | (first | (apply AOpl.pass; rfl) | apply ASl.pass); (focus simp [*]; done) | (first | refine AOpl.nil ?_ | refine AWp.skip ?_ | refine AWp.exit ?_ | refine AWp.ret ?_ | refine ASl.nil ?_); try simp only [Then, InBlock, reduceIte, Nat.reduceEqDiff] | refine AWp.seq ?_ | refine AWp.reg rfl ?_ | refine AWp.block ?_ | apply AWp.condT; focus simp [*]; done | apply AWp.condF; focus simp [*]; done | refine AWp.regT (by kernel_rfl) (by kernel_rfl) rfl rfl ?_)
    (first | (first | (apply AOpl.callN; rfl) | apply ASl.call); (focus simp [*, -Option.some.injEq]; rfl); kernel_rfl | (first | (apply AOpl.callNG; rfl) | apply ASl.callg); (focus simp [*]; done); (focus simp [*, -Option.some.injEq]; rfl); kernel_rfl)
    · exact hF
    intro nx6 hn6
    by_cases h8 : fieldsI cds c = 0
    · simp only [h8, ne_eq, not_true, if_false] at hw
      repeat (first | (first | (apply AOpl.step; rfl) | apply ASl.step); focus simp [*, -Option.some.injEq]; rfl | (first | (apply AOpl.stepG; rfl) | apply ASl.stepG); (focus simp [*]; done); focus simp [*, -Option.some.injEq]; rfl | (first | (apply AOpl.pass; rfl) | apply ASl.pass); (focus simp [*]; done) | (first | refine AOpl.nil ?_ | refine AWp.skip ?_ | refine AWp.exit ?_ | refine AWp.ret ?_ | refine ASl.nil ?_); try simp only [Then, InBlock, reduceIte, Nat.reduceEqDiff] | refine AWp.seq ?_ | refine AWp.reg rfl ?_ | refine AWp.block ?_ | apply AWp.condT; focus simp [*]; done | apply AWp.condF; focus simp [*]; done | refine AWp.regT (by kernel_rfl) (by kernel_rfl) rfl rfl ?_)
      (first | (first | (apply AOpl.callN; rfl) | apply ASl.call); (focus simp [*, -Option.some.injEq]; rfl); kernel_rfl | (first | (apply AOpl.callNG; rfl) | apply ASl.callg); (focus simp [*]; done); (focus simp [*, -Option.some.injEq]; rfl); kernel_rfl)
      · exact hM
      intro nx7 hn7
      repeat (first | (first | (apply AOpl.step; rfl) | apply ASl.step); focus simp [*, -Option.some.injEq]; rfl | (first | (apply AOpl.stepG; rfl) | apply ASl.stepG); (focus simp [*]; done); focus simp [*, -Option.some.injEq]; rfl | (first | (apply AOpl.pass; rfl) | apply ASl.pass); (focus simp [*]; done) | (first | refine AOpl.nil ?_ | refine AWp.skip ?_ | refine AWp.exit ?_ | refine AWp.ret ?_ | refine ASl.nil ?_); try simp only [Then, InBlock, reduceIte, Nat.reduceEqDiff] | refine AWp.seq ?_ | refine AWp.reg rfl ?_ | refine AWp.block ?_ | apply AWp.condT; focus simp [*]; done | apply AWp.condF; focus simp [*]; done | refine AWp.regT (by kernel_rfl) (by kernel_rfl) rfl rfl ?_)
      (refine ⟨_, (by simp [*]; rfl), ?_⟩; (try simp only [packA]))
      all_goals rw [hw]
    · simp only [h8, ne_eq, not_false_eq_true, if_true] at hw
      repeat (first | (first | (apply AOpl.step; rfl) | apply ASl.step); focus simp [*, -Option.some.injEq]; rfl | (first | (apply AOpl.stepG; rfl) | apply ASl.stepG); (focus simp [*]; done); focus simp [*, -Option.some.injEq]; rfl | (first | (apply AOpl.pass; rfl) | apply ASl.pass); (focus simp [*]; done) | (first | refine AOpl.nil ?_ | refine AWp.skip ?_ | refine AWp.exit ?_ | refine AWp.ret ?_ | refine ASl.nil ?_); try simp only [Then, InBlock, reduceIte, Nat.reduceEqDiff] | refine AWp.seq ?_ | refine AWp.reg rfl ?_ | refine AWp.block ?_ | apply AWp.condT; focus simp [*]; done | apply AWp.condF; focus simp [*]; done | refine AWp.regT (by kernel_rfl) (by kernel_rfl) rfl rfl ?_)
      (refine ⟨_, (by simp [*]; rfl), ?_⟩; (try simp only [packA]))
      all_goals rw [hw]
end Go.Proofs.YtdjllogimomgmaaGreatDoor
