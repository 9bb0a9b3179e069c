/-
  Static methods; fields at instructions; walked.
-/
import Derived.Test.YtdjllogimomgmaaGreatDoorJkE
set_option linter.unusedSimpArgs false
set_option linter.unusedVariables false
namespace Go.Proofs.YtdjllogimomgmaaGreatDoor
open Ax Tx Go.RowKit
attribute [local simp] stepS Ax.stepT Dl.on qstep astep estep rd putE over argE ofV ofS loadA pickCells isAggD faddA fieldA partA iaddA idxA sliA bnd binA intA strA unA convA bltA lenA mapOf lookA findK keyD scalD storeA mupA appA srcA srcD upd drp Dl.hp Dl.nx CV.cs CV.one buildA placesA fillA zrep tasA ifaceD eqA eqFs eqIs range2 copyA nbeq nble nblt decEq beqI bneI beqS bneS isED Int.ofNat_inj List.getElem?_map List.getElem?_eq_getElem Option.map_some ti_int ti_bool ti_str ti_i64 ti_Strs ti_Hi ti_Cds ti_Cd ti_Flds ti_Fld ti_Sgs ti_Sg ti_Ins ti_Inss ti_Ints ti_Fu gd gdB callA resA op1
def declV (cds : List Cd) (cls m : Bs) : CV := match lookC cds cls m with
  | none => .tup [.agg zSg, .bool false]
  | some (c, s) => .tup [.agg (cvSg s), .bool (decide (c = cls) && s.static)]
set_option maxRecDepth 10000 in
set_option maxHeartbeats 4000000 in
theorem decl_ok (cds : List Cd) (hB : HiB cds) (cls m : Bs) : FCall Tryz.prog cxG 212 [.agg [.lst (cds.map cvCd)], .str cls, .str m] fun r => r = .ret (declV cds cls m) := by
  have hL := look_ok cds hB cls m
  obtain ⟨w, hw⟩ : ∃ w, w = declV cds cls m := ⟨_, rfl⟩
  rw [← hw]
  unfold declV at hw
  refine FCall.ofBody Tryz.func212 rfl rfl fun nx => ?_
  cases hl : lookC cds cls m with
  | none =>
    rw [hl] at hL hw
    simp only [cvLook, zSg] at hL hw
    repeat (first | (first | (apply AOpl.step; rfl) | apply ASl.step); focus simp [*, -Option.some.injEq]; rfl | (first | (apply AOpl.stepG; rfl) | apply ASl.stepG); (focus simp [*]; done); focus simp [*, -Option.some.injEq]; rfl | (first | (apply AOpl.pass; rfl) | apply ASl.pass); (focus simp [*]; done) | (first | refine AOpl.nil ?_ | refine AWp.skip ?_ | refine AWp.exit ?_ | refine AWp.ret ?_ | refine ASl.nil ?_); try simp only [Then, InBlock, reduceIte, Nat.reduceEqDiff] | refine AWp.seq ?_ | refine AWp.reg rfl ?_ | refine AWp.block ?_ | apply AWp.condT; focus simp [*]; done | apply AWp.condF; focus simp [*]; done | refine AWp.regT (by kernel_rfl) (by kernel_rfl) rfl rfl ?_)
    (first | (first | (apply AOpl.callN; rfl) | apply ASl.call); (focus simp [*, -Option.some.injEq]; rfl); kernel_rfl | (first | (apply AOpl.callNG; rfl) | apply ASl.callg); (focus simp [*]; done); (focus simp [*, -Option.some.injEq]; rfl); kernel_rfl)
    · exact hL
    intro nx2 hn2
    have q1 : ∀ k, ¬ nx = nx2 + k := fun k => by omega
    have q2 : ¬ nx + 1 = nx2 := by omega
    have q4 : ¬ nx2 = nx + 1 := by omega
    have q3 : ∀ k, ¬ nx + 1 = nx2 + k := fun k => by omega
    repeat (first | (first | (apply AOpl.step; rfl) | apply ASl.step); focus simp [*, -Option.some.injEq]; rfl | (first | (apply AOpl.stepG; rfl) | apply ASl.stepG); (focus simp [*]; done); focus simp [*, -Option.some.injEq]; rfl | (first | (apply AOpl.pass; rfl) | apply ASl.pass); (focus simp [*]; done) | (first | refine AOpl.nil ?_ | refine AWp.skip ?_ | refine AWp.exit ?_ | refine AWp.ret ?_ | refine ASl.nil ?_); try simp only [Then, InBlock, reduceIte, Nat.reduceEqDiff] | refine AWp.seq ?_ | refine AWp.reg rfl ?_ | refine AWp.block ?_ | apply AWp.condT; focus simp [*]; done | apply AWp.condF; focus simp [*]; done)
    refine AWp.regTB [9] (fun b => b = nx2) (by kernel_rfl) (by kernel_rfl) rfl rfl (fun b hb => by subst hb; omega) ?_
    repeat (first | ((apply ASlK.stepG); (focus rfl); (focus (simp [*, -Option.some.injEq]; rfl)); (focus (first | (intro h; exact Bool.noConfusion (show false = true from h)) | (intro hk0 H1 hk1; have hk2 := hk1 _ rfl; simp [*] at hk2; simp [*, -Option.some.injEq]; done) | (intro hk0 H1 hk1; have hk2 := hk1 _ rfl; simp [*] at hk2; simp [*, -Option.some.injEq]))); (focus (first | (intro _ _; rfl) | (intro b hb; replace hb : b = _ := hb; simp [hb, *]; done)))) | ((apply ASlK.stepG); (focus simp [*]; done); (focus (simp [*, -Option.some.injEq]; rfl)); (focus (first | (intro h; exact Bool.noConfusion (show false = true from h)) | (intro hk0 H1 hk1; have hk2 := hk1 _ rfl; simp [*] at hk2; simp [*, -Option.some.injEq]; done) | (intro hk0 H1 hk1; have hk2 := hk1 _ rfl; simp [*] at hk2; simp [*, -Option.some.injEq]))); (focus (first | (intro _ _; rfl) | (intro b hb; replace hb : b = _ := hb; simp [hb, *]; done)))) | ((apply ASlK.pass); (focus simp [*]; done)) | ((refine ASlK.nil ?_); (try simp only [Then, InBlock, reduceIte, Nat.reduceEqDiff])))
    repeat (first | (first | (apply AOpl.step; rfl) | apply ASl.step); focus simp [*, -Option.some.injEq]; rfl | (first | (apply AOpl.stepG; rfl) | apply ASl.stepG); (focus simp [*]; done); focus simp [*, -Option.some.injEq]; rfl | (first | (apply AOpl.pass; rfl) | apply ASl.pass); (focus simp [*]; done) | (first | refine AOpl.nil ?_ | refine AWp.skip ?_ | refine AWp.exit ?_ | refine AWp.ret ?_ | refine ASl.nil ?_); try simp only [Then, InBlock, reduceIte, Nat.reduceEqDiff] | refine AWp.seq ?_ | refine AWp.reg rfl ?_ | refine AWp.block ?_ | apply AWp.condT; focus simp [*]; done | apply AWp.condF; focus simp [*]; done | refine AWp.regT (by kernel_rfl) (by kernel_rfl) rfl rfl ?_)
    (refine ⟨_, (by simp [ti_Sg, *]; rfl), ?_⟩; (try simp only [packA]))
    all_goals (rw [hw])
  | some p =>
    obtain ⟨c, s⟩ := p
    rw [hl] at hL hw
    simp only [cvLook, cvSg] at hL hw
    by_cases h1 : c = cls
    · repeat (first | (first | (apply AOpl.step; rfl) | apply ASl.step); focus simp [*, -Option.some.injEq]; rfl | (first | (apply AOpl.stepG; rfl) | apply ASl.stepG); (focus simp [*]; done); focus simp [*, -Option.some.injEq]; rfl | (first | (apply AOpl.pass; rfl) | apply ASl.pass); (focus simp [*]; done) | (first | refine AOpl.nil ?_ | refine AWp.skip ?_ | refine AWp.exit ?_ | refine AWp.ret ?_ | refine ASl.nil ?_); try simp only [Then, InBlock, reduceIte, Nat.reduceEqDiff] | refine AWp.seq ?_ | refine AWp.reg rfl ?_ | refine AWp.block ?_ | apply AWp.condT; focus simp [*]; done | apply AWp.condF; focus simp [*]; done | refine AWp.regT (by kernel_rfl) (by kernel_rfl) rfl rfl ?_)
      (first | (first | (apply AOpl.callN; rfl) | apply ASl.call); (focus simp [*, -Option.some.injEq]; rfl); kernel_rfl | (first | (apply AOpl.callNG; rfl) | apply ASl.callg); (focus simp [*]; done); (focus simp [*, -Option.some.injEq]; rfl); kernel_rfl)
      · exact hL
      intro nx2 hn2
      have q1 : ∀ k, ¬ nx = nx2 + k := fun k => by omega
      have q2 : ¬ nx + 1 = nx2 := by omega
      have q4 : ¬ nx2 = nx + 1 := by omega
      have q3 : ∀ k, ¬ nx + 1 = nx2 + k := fun k => by omega
      repeat (first | (first | (apply AOpl.step; rfl) | apply ASl.step); focus simp [*, -Option.some.injEq]; rfl | (first | (apply AOpl.stepG; rfl) | apply ASl.stepG); (focus simp [*]; done); focus simp [*, -Option.some.injEq]; rfl | (first | (apply AOpl.pass; rfl) | apply ASl.pass); (focus simp [*]; done) | (first | refine AOpl.nil ?_ | refine AWp.skip ?_ | refine AWp.exit ?_ | refine AWp.ret ?_ | refine ASl.nil ?_); try simp only [Then, InBlock, reduceIte, Nat.reduceEqDiff] | refine AWp.seq ?_ | refine AWp.reg rfl ?_ | refine AWp.block ?_ | apply AWp.condT; focus simp [*]; done | apply AWp.condF; focus simp [*]; done)
      refine AWp.regTB [9] (fun b => b = nx2) (by kernel_rfl) (by kernel_rfl) rfl rfl (fun b hb => by subst hb; omega) ?_
      repeat (first | ((apply ASlK.stepG); (focus rfl); (focus (simp [*, -Option.some.injEq]; rfl)); (focus (first | (intro h; exact Bool.noConfusion (show false = true from h)) | (intro hk0 H1 hk1; have hk2 := hk1 _ rfl; simp [*] at hk2; simp [*, -Option.some.injEq]; done) | (intro hk0 H1 hk1; have hk2 := hk1 _ rfl; simp [*] at hk2; simp [*, -Option.some.injEq]))); (focus (first | (intro _ _; rfl) | (intro b hb; replace hb : b = _ := hb; simp [hb, *]; done)))) | ((apply ASlK.stepG); (focus simp [*]; done); (focus (simp [*, -Option.some.injEq]; rfl)); (focus (first | (intro h; exact Bool.noConfusion (show false = true from h)) | (intro hk0 H1 hk1; have hk2 := hk1 _ rfl; simp [*] at hk2; simp [*, -Option.some.injEq]; done) | (intro hk0 H1 hk1; have hk2 := hk1 _ rfl; simp [*] at hk2; simp [*, -Option.some.injEq]))); (focus (first | (intro _ _; rfl) | (intro b hb; replace hb : b = _ := hb; simp [hb, *]; done)))) | ((apply ASlK.pass); (focus simp [*]; done)) | ((refine ASlK.nil ?_); (try simp only [Then, InBlock, reduceIte, Nat.reduceEqDiff])))
      repeat (first | (first | (apply AOpl.step; rfl) | apply ASl.step); focus simp [*, -Option.some.injEq]; rfl | (first | (apply AOpl.stepG; rfl) | apply ASl.stepG); (focus simp [*]; done); focus simp [*, -Option.some.injEq]; rfl | (first | (apply AOpl.pass; rfl) | apply ASl.pass); (focus simp [*]; done) | (first | refine AOpl.nil ?_ | refine AWp.skip ?_ | refine AWp.exit ?_ | refine AWp.ret ?_ | refine ASl.nil ?_); try simp only [Then, InBlock, reduceIte, Nat.reduceEqDiff] | refine AWp.seq ?_ | refine AWp.reg rfl ?_ | refine AWp.block ?_ | apply AWp.condT; focus simp [*]; done | apply AWp.condF; focus simp [*]; done | refine AWp.regT (by kernel_rfl) (by kernel_rfl) rfl rfl ?_)
      (refine ⟨_, (by simp [ti_Sg, *]; rfl), ?_⟩; (try simp only [packA]))
      all_goals (rw [hw]; simp [h1])
    · repeat (first | (first | (apply AOpl.step; rfl) | apply ASl.step); focus simp [*, -Option.some.injEq]; rfl | (first | (apply AOpl.stepG; rfl) | apply ASl.stepG); (focus simp [*]; done); focus simp [*, -Option.some.injEq]; rfl | (first | (apply AOpl.pass; rfl) | apply ASl.pass); (focus simp [*]; done) | (first | refine AOpl.nil ?_ | refine AWp.skip ?_ | refine AWp.exit ?_ | refine AWp.ret ?_ | refine ASl.nil ?_); try simp only [Then, InBlock, reduceIte, Nat.reduceEqDiff] | refine AWp.seq ?_ | refine AWp.reg rfl ?_ | refine AWp.block ?_ | apply AWp.condT; focus simp [*]; done | apply AWp.condF; focus simp [*]; done | refine AWp.regT (by kernel_rfl) (by kernel_rfl) rfl rfl ?_)
      (first | (first | (apply AOpl.callN; rfl) | apply ASl.call); (focus simp [*, -Option.some.injEq]; rfl); kernel_rfl | (first | (apply AOpl.callNG; rfl) | apply ASl.callg); (focus simp [*]; done); (focus simp [*, -Option.some.injEq]; rfl); kernel_rfl)
      · exact hL
      intro nx2 hn2
      have q1 : ∀ k, ¬ nx = nx2 + k := fun k => by omega
      have q2 : ¬ nx + 1 = nx2 := by omega
      have q4 : ¬ nx2 = nx + 1 := by omega
      have q3 : ∀ k, ¬ nx + 1 = nx2 + k := fun k => by omega
      repeat (first | (first | (apply AOpl.step; rfl) | apply ASl.step); focus simp [*, -Option.some.injEq]; rfl | (first | (apply AOpl.stepG; rfl) | apply ASl.stepG); (focus simp [*]; done); focus simp [*, -Option.some.injEq]; rfl | (first | (apply AOpl.pass; rfl) | apply ASl.pass); (focus simp [*]; done) | (first | refine AOpl.nil ?_ | refine AWp.skip ?_ | refine AWp.exit ?_ | refine AWp.ret ?_ | refine ASl.nil ?_); try simp only [Then, InBlock, reduceIte, Nat.reduceEqDiff] | refine AWp.seq ?_ | refine AWp.reg rfl ?_ | refine AWp.block ?_ | apply AWp.condT; focus simp [*]; done | apply AWp.condF; focus simp [*]; done)
      refine AWp.regTB [9] (fun b => b = nx2) (by kernel_rfl) (by kernel_rfl) rfl rfl (fun b hb => by subst hb; omega) ?_
      repeat (first | ((apply ASlK.stepG); (focus rfl); (focus (simp [*, -Option.some.injEq]; rfl)); (focus (first | (intro h; exact Bool.noConfusion (show false = true from h)) | (intro hk0 H1 hk1; have hk2 := hk1 _ rfl; simp [*] at hk2; simp [*, -Option.some.injEq]; done) | (intro hk0 H1 hk1; have hk2 := hk1 _ rfl; simp [*] at hk2; simp [*, -Option.some.injEq]))); (focus (first | (intro _ _; rfl) | (intro b hb; replace hb : b = _ := hb; simp [hb, *]; done)))) | ((apply ASlK.stepG); (focus simp [*]; done); (focus (simp [*, -Option.some.injEq]; rfl)); (focus (first | (intro h; exact Bool.noConfusion (show false = true from h)) | (intro hk0 H1 hk1; have hk2 := hk1 _ rfl; simp [*] at hk2; simp [*, -Option.some.injEq]; done) | (intro hk0 H1 hk1; have hk2 := hk1 _ rfl; simp [*] at hk2; simp [*, -Option.some.injEq]))); (focus (first | (intro _ _; rfl) | (intro b hb; replace hb : b = _ := hb; simp [hb, *]; done)))) | ((apply ASlK.pass); (focus simp [*]; done)) | ((refine ASlK.nil ?_); (try simp only [Then, InBlock, reduceIte, Nat.reduceEqDiff])))
      repeat (first | (first | (apply AOpl.step; rfl) | apply ASl.step); focus simp [*, -Option.some.injEq]; rfl | (first | (apply AOpl.stepG; rfl) | apply ASl.stepG); (focus simp [*]; done); focus simp [*, -Option.some.injEq]; rfl | (first | (apply AOpl.pass; rfl) | apply ASl.pass); (focus simp [*]; done) | (first | refine AOpl.nil ?_ | refine AWp.skip ?_ | refine AWp.exit ?_ | refine AWp.ret ?_ | refine ASl.nil ?_); try simp only [Then, InBlock, reduceIte, Nat.reduceEqDiff] | refine AWp.seq ?_ | refine AWp.reg rfl ?_ | refine AWp.block ?_ | apply AWp.condT; focus simp [*]; done | apply AWp.condF; focus simp [*]; done | refine AWp.regT (by kernel_rfl) (by kernel_rfl) rfl rfl ?_)
      (refine ⟨_, (by simp [ti_Sg, *]; rfl), ?_⟩; (try simp only [packA]))
      all_goals (rw [hw]; simp [h1])
def fieldT (cds : List Cd) (s f : Bs) : Bs := match fieldV cds s f with
  | .tup [_, .str t, _] => t
  | _ => []
theorem field_two (cds : List Cd) (hB : HiB cds) (s f : Bs) : ∃ a, FCall Tryz.prog cxG 206 [.agg [.lst (cds.map cvCd)], .str s, .str f] fun r => r = .ret (.tup [.str a, .str (fieldT cds s f), .bool (fieldO cds s f)]) := by
  obtain ⟨a, t, h⟩ := fieldV_form cds s f
  have h0 := field_ok cds hB.len hB.fl s f
  have ht : fieldT cds s f = t := by simp only [fieldT, h]
  rw [h] at h0
  rw [ht]
  exact ⟨a, h0⟩
def vtyp (f : Fu) (a : Int) : Bs := match f.vars[a.toNat]? with
  | some v => v.typ
  | none => []
theorem vtyp_at {f : Fu} {k : Nat} (h : k < f.vars.length) : vtyp f (k : Int) = f.vars[k].typ := by simp [vtyp, h]
def accessE (cds : List Cd) (f : Fu) (x : Ins) : Int :=
  if isC cds (vtyp f x.a) = false then 8 else if fieldO cds (vtyp f x.a) x.name = false then 6
  else if x.op = 7 then (if fitsT cds (fieldT cds (vtyp f x.a) x.name) (vtyp f x.dst) = true then 0 else 8) else (if fitsT cds (vtyp f x.b) (fieldT cds (vtyp f x.a) x.name) = true then 0 else 8)
set_option maxRecDepth 10000 in
set_option maxHeartbeats 8000000 in
theorem access_ok (cds : List Cd) (hB : HiB cds) (f : Fu) (x : Ins) (ho : x.op = 7 ∨ x.op = 8) (ha : ∃ k : Nat, x.a = k ∧ k < f.vars.length) (hd : x.op = 7 → ∃ k : Nat, x.dst = k ∧ k < f.vars.length) (hb : x.op = 8 → ∃ k : Nat, x.b = k ∧ k < f.vars.length) :
    FCall Tryz.prog cxG 194 [.agg [.lst (cds.map cvCd)], .agg (cvFu f), .agg (cvIns x)] fun r => r = .ret (.int .i64 (accessE cds f x)) := by
  obtain ⟨w, hw⟩ : ∃ w, w = accessE cds f x := ⟨_, rfl⟩
  rw [← hw]
  unfold accessE at hw
  obtain ⟨ka, hka, hla⟩ := ha
  refine FCall.ofBody Tryz.func194 rfl rfl fun nx => ?_
  have e2 : ¬ nx = nx + 1 + 1 := by omega
  rw [hka, vtyp_at hla] at hw
  repeat (first | (first | (apply AOpl.step; rfl) | apply ASl.step); focus simp [cvFu, cvIns, cvFld, *, -Option.some.injEq]; rfl | (first | (apply AOpl.stepG; rfl) | apply ASl.stepG); (focus simp [cvFu, cvIns, cvFld, *]; done); focus simp [cvFu, cvIns, cvFld, *, -Option.some.injEq]; rfl | (first | (apply AOpl.pass; rfl) | apply ASl.pass); (focus simp [cvFu, cvIns, cvFld, *]; done) | (first | refine AOpl.nil ?_ | refine AWp.skip ?_ | refine AWp.exit ?_ | refine AWp.ret ?_ | refine ASl.nil ?_); try simp only [Then, InBlock, reduceIte, Nat.reduceEqDiff] | refine AWp.seq ?_ | refine AWp.reg rfl ?_ | refine AWp.block ?_ | apply AWp.condT; focus simp [cvFu, cvIns, cvFld, *]; done | apply AWp.condF; focus simp [cvFu, cvIns, cvFld, *]; done | refine AWp.regT (by kernel_rfl) (by kernel_rfl) rfl rfl ?_)
  (first | (first | (apply AOpl.callN; rfl) | apply ASl.call); (focus simp [*, -Option.some.injEq]; rfl); kernel_rfl | (first | (apply AOpl.callNG; rfl) | apply ASl.callg); (focus simp [*]; done); (focus simp [*, -Option.some.injEq]; rfl); kernel_rfl)
  · exact isClass_ok cds hB.len _
  intro nx2 hn2
  have q1 : ∀ k, ¬ nx = nx2 + k := fun k => by omega
  cases h1 : isC cds f.vars[ka].typ
  · simp only [h1, if_true] at hw
    repeat (first | (first | (apply AOpl.step; rfl) | apply ASl.step); focus simp [*, -Option.some.injEq]; rfl | (first | (apply AOpl.stepG; rfl) | apply ASl.stepG); (focus simp [*]; done); focus simp [*, -Option.some.injEq]; rfl | (first | (apply AOpl.pass; rfl) | apply ASl.pass); (focus simp [*]; done) | (first | refine AOpl.nil ?_ | refine AWp.skip ?_ | refine AWp.exit ?_ | refine AWp.ret ?_ | refine ASl.nil ?_); try simp only [Then, InBlock, reduceIte, Nat.reduceEqDiff] | refine AWp.seq ?_ | refine AWp.reg rfl ?_ | refine AWp.block ?_ | apply AWp.condT; focus simp [*]; done | apply AWp.condF; focus simp [*]; done | refine AWp.regT (by kernel_rfl) (by kernel_rfl) rfl rfl ?_)
    (refine ⟨_, (by simp [*]; rfl), ?_⟩; (try simp only [packA]))
    all_goals rw [hw]
  simp only [h1, Bool.true_eq_false, if_false] at hw
  obtain ⟨fa, hF⟩ := field_two cds hB f.vars[ka].typ x.name
  repeat (first | (first | (apply AOpl.step; rfl) | apply ASl.step); focus simp [cvFu, cvIns, *, -Option.some.injEq]; rfl | (first | (apply AOpl.stepG; rfl) | apply ASl.stepG); (focus simp [cvFu, cvIns, *]; done); focus simp [cvFu, cvIns, *, -Option.some.injEq]; rfl | (first | (apply AOpl.pass; rfl) | apply ASl.pass); (focus simp [cvFu, cvIns, *]; done) | (first | refine AOpl.nil ?_ | refine AWp.skip ?_ | refine AWp.exit ?_ | refine AWp.ret ?_ | refine ASl.nil ?_); try simp only [Then, InBlock, reduceIte, Nat.reduceEqDiff] | refine AWp.seq ?_ | refine AWp.reg rfl ?_ | refine AWp.block ?_ | apply AWp.condT; focus simp [cvFu, cvIns, *]; done | apply AWp.condF; focus simp [cvFu, cvIns, *]; done | refine AWp.regT (by kernel_rfl) (by kernel_rfl) rfl rfl ?_)
  (first | (first | (apply AOpl.callN; rfl) | apply ASl.call); (focus simp [*, -Option.some.injEq]; rfl); kernel_rfl | (first | (apply AOpl.callNG; rfl) | apply ASl.callg); (focus simp [*]; done); (focus simp [*, -Option.some.injEq]; rfl); kernel_rfl)
  · exact hF
  intro nx3 hn3
  cases h2 : fieldO cds f.vars[ka].typ x.name
  · simp only [h2, if_true] at hw
    repeat (first | (first | (apply AOpl.step; rfl) | apply ASl.step); focus simp [*, -Option.some.injEq]; rfl | (first | (apply AOpl.stepG; rfl) | apply ASl.stepG); (focus simp [*]; done); focus simp [*, -Option.some.injEq]; rfl | (first | (apply AOpl.pass; rfl) | apply ASl.pass); (focus simp [*]; done) | (first | refine AOpl.nil ?_ | refine AWp.skip ?_ | refine AWp.exit ?_ | refine AWp.ret ?_ | refine ASl.nil ?_); try simp only [Then, InBlock, reduceIte, Nat.reduceEqDiff] | refine AWp.seq ?_ | refine AWp.reg rfl ?_ | refine AWp.block ?_ | apply AWp.condT; focus simp [*]; done | apply AWp.condF; focus simp [*]; done | refine AWp.regT (by kernel_rfl) (by kernel_rfl) rfl rfl ?_)
    (refine ⟨_, (by simp [*]; rfl), ?_⟩; (try simp only [packA]))
    all_goals rw [hw]
  simp only [h2, Bool.true_eq_false, if_false] at hw
  rcases ho with ho | ho
  · obtain ⟨kd, hkd, hld⟩ := hd ho
    rw [hkd, vtyp_at hld] at hw
    simp only [ho, if_true] at hw
    clear hd hb
    repeat (first | (first | (apply AOpl.step; rfl) | apply ASl.step); focus simp [cvFu, cvIns, cvFld, *, -Option.some.injEq]; rfl | (first | (apply AOpl.stepG; rfl) | apply ASl.stepG); (focus simp [cvFu, cvIns, cvFld, *]; done); focus simp [cvFu, cvIns, cvFld, *, -Option.some.injEq]; rfl | (first | (apply AOpl.pass; rfl) | apply ASl.pass); (focus simp [cvFu, cvIns, cvFld, *]; done) | (first | refine AOpl.nil ?_ | refine AWp.skip ?_ | refine AWp.exit ?_ | refine AWp.ret ?_ | refine ASl.nil ?_); try simp only [Then, InBlock, reduceIte, Nat.reduceEqDiff] | refine AWp.seq ?_ | refine AWp.reg rfl ?_ | refine AWp.block ?_ | apply AWp.condT; focus simp [cvFu, cvIns, cvFld, *]; done | apply AWp.condF; focus simp [cvFu, cvIns, cvFld, *]; done | refine AWp.regT (by kernel_rfl) (by kernel_rfl) rfl rfl ?_)
    (first | (first | (apply AOpl.callN; rfl) | apply ASl.call); (focus simp [cvFu, cvIns, cvFld, *, -Option.some.injEq]; rfl); kernel_rfl | (first | (apply AOpl.callNG; rfl) | apply ASl.callg); (focus simp [cvFu, cvIns, cvFld, *]; done); (focus simp [cvFu, cvIns, cvFld, *, -Option.some.injEq]; rfl); kernel_rfl)
    · exact fitsT_one cds hB.len _ _
    cases h3 : fitsT cds (fieldT cds f.vars[ka].typ x.name) f.vars[kd].typ
    · simp only [h3, Bool.false_eq_true, if_false] at hw
      repeat (first | (first | (apply AOpl.step; rfl) | apply ASl.step); focus simp [cvFu, cvIns, cvFld, *, -Option.some.injEq]; rfl | (first | (apply AOpl.stepG; rfl) | apply ASl.stepG); (focus simp [cvFu, cvIns, cvFld, *]; done); focus simp [cvFu, cvIns, cvFld, *, -Option.some.injEq]; rfl | (first | (apply AOpl.pass; rfl) | apply ASl.pass); (focus simp [cvFu, cvIns, cvFld, *]; done) | (first | refine AOpl.nil ?_ | refine AWp.skip ?_ | refine AWp.exit ?_ | refine AWp.ret ?_ | refine ASl.nil ?_); try simp only [Then, InBlock, reduceIte, Nat.reduceEqDiff] | refine AWp.seq ?_ | refine AWp.reg rfl ?_ | refine AWp.block ?_ | apply AWp.condT; focus simp [cvFu, cvIns, cvFld, *]; done | apply AWp.condF; focus simp [cvFu, cvIns, cvFld, *]; done | refine AWp.regT (by kernel_rfl) (by kernel_rfl) rfl rfl ?_)
      (refine ⟨_, (by simp [*]; rfl), ?_⟩; (try simp only [packA]))
      all_goals rw [hw]
    · simp only [h3, if_true] at hw
      repeat (first | (first | (apply AOpl.step; rfl) | apply ASl.step); focus simp [cvFu, cvIns, cvFld, *, -Option.some.injEq]; rfl | (first | (apply AOpl.stepG; rfl) | apply ASl.stepG); (focus simp [cvFu, cvIns, cvFld, *]; done); focus simp [cvFu, cvIns, cvFld, *, -Option.some.injEq]; rfl | (first | (apply AOpl.pass; rfl) | apply ASl.pass); (focus simp [cvFu, cvIns, cvFld, *]; done) | (first | refine AOpl.nil ?_ | refine AWp.skip ?_ | refine AWp.exit ?_ | refine AWp.ret ?_ | refine ASl.nil ?_); try simp only [Then, InBlock, reduceIte, Nat.reduceEqDiff] | refine AWp.seq ?_ | refine AWp.reg rfl ?_ | refine AWp.block ?_ | apply AWp.condT; focus simp [cvFu, cvIns, cvFld, *]; done | apply AWp.condF; focus simp [cvFu, cvIns, cvFld, *]; done | refine AWp.regT (by kernel_rfl) (by kernel_rfl) rfl rfl ?_)
      (refine ⟨_, (by simp [*]; rfl), ?_⟩; (try simp only [packA]))
      all_goals rw [hw]
  · obtain ⟨kd, hkd, hld⟩ := hb ho
    rw [hkd, vtyp_at hld] at hw
    have e7 : ¬ (8 : Int) = 7 := by decide
    simp only [ho, e7, if_false] at hw
    clear hd hb
    repeat (first | (first | (apply AOpl.step; rfl) | apply ASl.step); focus simp [cvFu, cvIns, cvFld, *, -Option.some.injEq]; rfl | (first | (apply AOpl.stepG; rfl) | apply ASl.stepG); (focus simp [cvFu, cvIns, cvFld, *]; done); focus simp [cvFu, cvIns, cvFld, *, -Option.some.injEq]; rfl | (first | (apply AOpl.pass; rfl) | apply ASl.pass); (focus simp [cvFu, cvIns, cvFld, *]; done) | (first | refine AOpl.nil ?_ | refine AWp.skip ?_ | refine AWp.exit ?_ | refine AWp.ret ?_ | refine ASl.nil ?_); try simp only [Then, InBlock, reduceIte, Nat.reduceEqDiff] | refine AWp.seq ?_ | refine AWp.reg rfl ?_ | refine AWp.block ?_ | apply AWp.condT; focus simp [cvFu, cvIns, cvFld, *]; done | apply AWp.condF; focus simp [cvFu, cvIns, cvFld, *]; done | refine AWp.regT (by kernel_rfl) (by kernel_rfl) rfl rfl ?_)
    (first | (first | (apply AOpl.callN; rfl) | apply ASl.call); (focus simp [cvFu, cvIns, cvFld, *, -Option.some.injEq]; rfl); kernel_rfl | (first | (apply AOpl.callNG; rfl) | apply ASl.callg); (focus simp [cvFu, cvIns, cvFld, *]; done); (focus simp [cvFu, cvIns, cvFld, *, -Option.some.injEq]; rfl); kernel_rfl)
    · exact fitsT_one cds hB.len _ _
    cases h3 : fitsT cds f.vars[kd].typ (fieldT cds f.vars[ka].typ x.name)
    · simp only [h3, Bool.false_eq_true, if_false] at hw
      repeat (first | (first | (apply AOpl.step; rfl) | apply ASl.step); focus simp [cvFu, cvIns, cvFld, *, -Option.some.injEq]; rfl | (first | (apply AOpl.stepG; rfl) | apply ASl.stepG); (focus simp [cvFu, cvIns, cvFld, *]; done); focus simp [cvFu, cvIns, cvFld, *, -Option.some.injEq]; rfl | (first | (apply AOpl.pass; rfl) | apply ASl.pass); (focus simp [cvFu, cvIns, cvFld, *]; done) | (first | refine AOpl.nil ?_ | refine AWp.skip ?_ | refine AWp.exit ?_ | refine AWp.ret ?_ | refine ASl.nil ?_); try simp only [Then, InBlock, reduceIte, Nat.reduceEqDiff] | refine AWp.seq ?_ | refine AWp.reg rfl ?_ | refine AWp.block ?_ | apply AWp.condT; focus simp [cvFu, cvIns, cvFld, *]; done | apply AWp.condF; focus simp [cvFu, cvIns, cvFld, *]; done | refine AWp.regT (by kernel_rfl) (by kernel_rfl) rfl rfl ?_)
      (refine ⟨_, (by simp [*]; rfl), ?_⟩; (try simp only [packA]))
      all_goals rw [hw]
    · simp only [h3, if_true] at hw
      repeat (first | (first | (apply AOpl.step; rfl) | apply ASl.step); focus simp [cvFu, cvIns, cvFld, *, -Option.some.injEq]; rfl | (first | (apply AOpl.stepG; rfl) | apply ASl.stepG); (focus simp [cvFu, cvIns, cvFld, *]; done); focus simp [cvFu, cvIns, cvFld, *, -Option.some.injEq]; rfl | (first | (apply AOpl.pass; rfl) | apply ASl.pass); (focus simp [cvFu, cvIns, cvFld, *]; done) | (first | refine AOpl.nil ?_ | refine AWp.skip ?_ | refine AWp.exit ?_ | refine AWp.ret ?_ | refine ASl.nil ?_); try simp only [Then, InBlock, reduceIte, Nat.reduceEqDiff] | refine AWp.seq ?_ | refine AWp.reg rfl ?_ | refine AWp.block ?_ | apply AWp.condT; focus simp [cvFu, cvIns, cvFld, *]; done | apply AWp.condF; focus simp [cvFu, cvIns, cvFld, *]; done | refine AWp.regT (by kernel_rfl) (by kernel_rfl) rfl rfl ?_)
      (refine ⟨_, (by simp [*]; rfl), ?_⟩; (try simp only [packA]))
      all_goals rw [hw]
end Go.Proofs.YtdjllogimomgmaaGreatDoor
namespace Go.Proofs.YtdjllogimomgmaaGreatDoor
open Ax Tx Go.RowKit
attribute [local simp] stepS Ax.stepT Dl.on qstep astep estep rd putE over argE ofV ofS loadA pickCells isAggD faddA fieldA partA iaddA idxA sliA bnd binA intA strA unA convA bltA lenA mapOf lookA findK keyD scalD storeA mupA appA srcA srcD upd drp Dl.hp Dl.nx CV.cs CV.one buildA placesA fillA zrep tasA ifaceD eqA eqFs eqIs range2 copyA nbeq nble nblt decEq beqI bneI beqS bneS isED Int.ofNat_inj List.getElem?_map List.getElem?_eq_getElem Option.map_some ti_int ti_bool ti_str ti_i64 ti_Strs ti_Hi ti_Cds ti_Cd ti_Flds ti_Fld ti_Sgs ti_Sg ti_Ins ti_Inss ti_Ints ti_Fu gd gdB callA resA op1
def sigOf (cds : List Cd) (f : Fu) (x : Ins) : Option Sg := if x.op = 9 then (match lookC cds (vtyp f x.a) x.name with
    | some (_, s) => if s.static = true then none else some s
    | none => none) else (match lookC cds x.cls x.name with
    | some (c, s) => if c = x.cls ∧ s.static = true then some s else none
    | none => none)
def badArgs (cds : List Cd) (f : Fu) : List Int → List Bs → Bool
  | a :: l, p :: m => !fitsT cds (vtyp f a) p || badArgs cds f l m
  | _, _ => false
def callE (cds : List Cd) (f : Fu) (x : Ins) : Int :=
  if x.op = 9 ∧ (isC cds (vtyp f x.a) = false ∨ vtyp f x.a ≠ x.cls) then 8 else match sigOf cds f x with
    | none => 6
    | some s => if s.params.length ≠ x.args.length then 9 else if badArgs cds f x.args s.params = true then 8 else if x.dst ≠ -1 ∧ (s.result = [] ∨ fitsT cds s.result (vtyp f x.dst) = false) then 8 else 0
set_option maxRecDepth 10000 in
set_option maxHeartbeats 16000000 in
theorem call_ok (cds : List Cd) (hB : HiB cds) (f : Fu) (x : Ins) (hl : x.args.length ≤ 1000) (ha : x.op = 9 → ∃ k : Nat, x.a = k ∧ k < f.vars.length) (hr : ∀ a ∈ x.args, ∃ k : Nat, a = k ∧ k < f.vars.length) (hd : x.dst ≠ -1 → ∃ k : Nat, x.dst = k ∧ k < f.vars.length) :
    FCall Tryz.prog cxG 195 [.agg [.lst (cds.map cvCd)], .agg (cvFu f), .agg (cvIns x)] fun r => r = .ret (.int .i64 (callE cds f x)) := by
  obtain ⟨w, hw⟩ : ∃ w, w = callE cds f x := ⟨_, rfl⟩
  rw [← hw]
  unfold callE at hw
  refine FCall.ofBody Tryz.func195 rfl rfl fun nx => ?_
  have e2 : ¬ nx = nx + 1 + 1 := by omega
  have e3 : ¬ nx = nx + 1 + 1 + 1 := by omega
  have e4 : ¬ nx + 1 = nx + 1 + 1 + 1 := by omega
  repeat (first | (first | (apply AOpl.step; rfl) | apply ASl.step); focus simp [cvFu, cvIns, cvFld, cvSg, *, -Option.some.injEq]; rfl | (first | (apply AOpl.stepG; rfl) | apply ASl.stepG); (focus simp [cvFu, cvIns, cvFld, cvSg, *]; done); focus simp [cvFu, cvIns, cvFld, cvSg, *, -Option.some.injEq]; rfl | (first | (apply AOpl.pass; rfl) | apply ASl.pass); (focus simp [cvFu, cvIns, cvFld, cvSg, *]; done) | (first | refine AOpl.nil ?_ | refine AWp.skip ?_ | refine AWp.exit ?_ | refine AWp.ret ?_ | refine ASl.nil ?_); try simp only [Then, InBlock, reduceIte, Nat.reduceEqDiff] | refine AWp.seq ?_ | refine AWp.reg rfl ?_ | refine AWp.block ?_ | apply AWp.condT; focus simp [cvFu, cvIns, cvFld, cvSg, *]; done | apply AWp.condF; focus simp [cvFu, cvIns, cvFld, cvSg, *]; done | refine AWp.regT (by kernel_rfl) (by kernel_rfl) rfl rfl ?_)
  refine AWp.cutO [6, 8, 9] 11 (fun e H _ => H nx = some (.cells [.lst (cds.map cvCd)]) ∧ H (nx + 1) = some (.cells (cvFu f)) ∧ H (nx + 1 + 1) = some (.cells (cvIns x)) ∧ ¬ (x.op = 9 ∧ (isC cds (vtyp f x.a) = false ∨ vtyp f x.a ≠ x.cls)) ∧ ((sigOf cds f x = none ∧ e 8 = .bool false) ∨ ∃ s, sigOf cds f x = some s ∧ e 8 = .bool true ∧ H (nx + 1 + 1 + 1) = some (.cells (cvSg s)))) ?_ ?_
  · by_cases h9 : x.op = 9
    · obtain ⟨ka, hka, hla⟩ := ha h9
      rw [hka, vtyp_at hla] at hw ⊢
      have hS : sigOf cds f x = (match lookC cds f.vars[ka].typ x.name with
        | some (_, s) => if s.static = true then none else some s
        | none => none) := by unfold sigOf; rw [if_pos h9, hka, vtyp_at hla]
      repeat (first | (first | (apply AOpl.step; rfl) | apply ASl.step); focus simp [cvFld, *, -Option.some.injEq]; rfl | (first | (apply AOpl.stepG; rfl) | apply ASl.stepG); (focus simp [cvFld, *]; done); focus simp [cvFld, *, -Option.some.injEq]; rfl | (first | (apply AOpl.pass; rfl) | apply ASl.pass); (focus simp [cvFld, *]; done) | (first | refine AOpl.nil ?_ | refine AWp.skip ?_ | refine AWp.exit ?_ | refine AWp.ret ?_ | refine ASl.nil ?_); try simp only [Then, InBlock, reduceIte, Nat.reduceEqDiff] | refine AWp.seq ?_ | refine AWp.reg rfl ?_ | refine AWp.block ?_ | apply AWp.condT; focus simp [cvFld, *]; done | apply AWp.condF; focus simp [cvFld, *]; done | refine AWp.regT (by kernel_rfl) (by kernel_rfl) rfl rfl ?_)
      (first | (first | (apply AOpl.callN; rfl) | apply ASl.call); (focus simp [cvFld, *, -Option.some.injEq]; rfl); kernel_rfl | (first | (apply AOpl.callNG; rfl) | apply ASl.callg); (focus simp [cvFld, *]; done); (focus simp [cvFld, *, -Option.some.injEq]; rfl); kernel_rfl)
      · exact isClass_ok cds hB.len _
      intro nx2 hn2
      cases h1 : isC cds f.vars[ka].typ
      · simp only [h9, h1, true_and, true_or, if_true] at hw
        repeat (first | (first | (apply AOpl.step; rfl) | apply ASl.step); focus simp [*, -Option.some.injEq]; rfl | (first | (apply AOpl.stepG; rfl) | apply ASl.stepG); (focus simp [*]; done); focus simp [*, -Option.some.injEq]; rfl | (first | (apply AOpl.pass; rfl) | apply ASl.pass); (focus simp [*]; done) | (first | refine AOpl.nil ?_ | refine AWp.skip ?_ | refine AWp.exit ?_ | refine AWp.ret ?_ | refine ASl.nil ?_); try simp only [Then, InBlock, reduceIte, Nat.reduceEqDiff] | refine AWp.seq ?_ | refine AWp.reg rfl ?_ | refine AWp.block ?_ | apply AWp.condT; focus simp [*]; done | apply AWp.condF; focus simp [*]; done | refine AWp.regT (by kernel_rfl) (by kernel_rfl) rfl rfl ?_)
        (refine ⟨_, (by simp [*]; rfl), ?_⟩; (try simp only [packA]))
        all_goals rw [hw]
      have q1 : ∀ k, ¬ nx = nx2 + k := fun k => by omega
      by_cases h2 : f.vars[ka].typ = x.cls
      case neg =>
        simp only [h9, h1, h2, true_and, Bool.true_eq_false, false_or, ne_eq, not_false_eq_true, if_true] at hw
        repeat (first | (first | (apply AOpl.step; rfl) | apply ASl.step); focus simp [cvFld, *, -Option.some.injEq]; rfl | (first | (apply AOpl.stepG; rfl) | apply ASl.stepG); (focus simp [cvFld, *]; done); focus simp [cvFld, *, -Option.some.injEq]; rfl | (first | (apply AOpl.pass; rfl) | apply ASl.pass); (focus simp [cvFld, *]; done) | (first | refine AOpl.nil ?_ | refine AWp.skip ?_ | refine AWp.exit ?_ | refine AWp.ret ?_ | refine ASl.nil ?_); try simp only [Then, InBlock, reduceIte, Nat.reduceEqDiff] | refine AWp.seq ?_ | refine AWp.reg rfl ?_ | refine AWp.block ?_ | apply AWp.condT; focus simp [cvFld, *]; done | apply AWp.condF; focus simp [cvFld, *]; done | refine AWp.regT (by kernel_rfl) (by kernel_rfl) rfl rfl ?_)
        (refine ⟨_, (by simp [*]; rfl), ?_⟩; (try simp only [packA]))
        all_goals rw [hw]
      have hcond : ¬ (x.op = 9 ∧ (isC cds f.vars[ka].typ = false ∨ f.vars[ka].typ ≠ x.cls)) := by
        rintro ⟨_, h | h⟩
        · exact absurd h (by simp [h1])
        · exact h h2
      have hL := look_ok cds hB f.vars[ka].typ x.name
      have h2c := h2
      rw [h2] at hL hS
      have q2 : ∀ k, ¬ nx + 1 = nx2 + k := fun k => by omega
      have q3 : ∀ k, ¬ nx + 1 + 1 = nx2 + k := fun k => by omega
      cases hl2 : lookC cds x.cls x.name with
      | none =>
        rw [hl2] at hL hS
        simp only [cvLook, zSg] at hL
        simp only at hS
        clear hcond ha
        repeat (first | (first | (apply AOpl.step; rfl) | apply ASl.step); focus simp [cvFld, *, -Option.some.injEq]; rfl | (first | (apply AOpl.stepG; rfl) | apply ASl.stepG); (focus simp [cvFld, *]; done); focus simp [cvFld, *, -Option.some.injEq]; rfl | (first | (apply AOpl.pass; rfl) | apply ASl.pass); (focus simp [cvFld, *]; done) | (first | refine AOpl.nil ?_ | refine AWp.skip ?_ | refine AWp.exit ?_ | refine AWp.ret ?_ | refine ASl.nil ?_); try simp only [Then, InBlock, reduceIte, Nat.reduceEqDiff] | refine AWp.seq ?_ | refine AWp.reg rfl ?_ | refine AWp.block ?_ | apply AWp.condT; focus simp [cvFld, *]; done | apply AWp.condF; focus simp [cvFld, *]; done | refine AWp.regT (by kernel_rfl) (by kernel_rfl) rfl rfl ?_)
        (first | (first | (apply AOpl.callN; rfl) | apply ASl.call); (focus simp [*, -Option.some.injEq]; rfl); kernel_rfl | (first | (apply AOpl.callNG; rfl) | apply ASl.callg); (focus simp [*]; done); (focus simp [*, -Option.some.injEq]; rfl); kernel_rfl)
        · exact hL
        intro nx3 hn3
        repeat (first | (first | (apply AOpl.step; rfl) | apply ASl.step); focus simp [*, -Option.some.injEq]; rfl | (first | (apply AOpl.stepG; rfl) | apply ASl.stepG); (focus simp [*]; done); focus simp [*, -Option.some.injEq]; rfl | (first | (apply AOpl.pass; rfl) | apply ASl.pass); (focus simp [*]; done) | (first | refine AOpl.nil ?_ | refine AWp.skip ?_ | refine AWp.exit ?_ | refine AWp.ret ?_ | refine ASl.nil ?_); try simp only [Then, InBlock, reduceIte, Nat.reduceEqDiff] | refine AWp.seq ?_ | refine AWp.reg rfl ?_ | refine AWp.block ?_ | apply AWp.condT; focus simp [*]; done | apply AWp.condF; focus simp [*]; done | refine AWp.regT (by kernel_rfl) (by kernel_rfl) rfl rfl ?_)
        refine ⟨by ((repeat (first | exact Keeps.base _ _ _ _ | (with_reducible exact Keeps.refl _ _ _) | (refine Keeps.put rfl ?_) | (refine Keeps.over' rfl rfl ?_)))), by simp [upd, e2, e3, e4], by simp [upd, cvFu, e2, e3, e4], by simp [upd, cvIns, e2, e3, e4, h9, hka], ?_, .inl ⟨hS, (by first | (simp (disch := omega) [putE, over, ofV, ofS, *]; done) | (simp (disch := omega) [putE, over, ofV, ofS, *]; rfl))⟩⟩
        rintro ⟨_, h | h⟩
        · exact absurd h (by simp [h1])
        · exact h h2c
      | some q =>
        obtain ⟨c, s⟩ := q
        rw [hl2] at hL hS
        simp only [cvLook, cvSg] at hL
        simp only at hS
        clear hcond ha
        repeat (first | (first | (apply AOpl.step; rfl) | apply ASl.step); focus simp [cvFld, *, -Option.some.injEq]; rfl | (first | (apply AOpl.stepG; rfl) | apply ASl.stepG); (focus simp [cvFld, *]; done); focus simp [cvFld, *, -Option.some.injEq]; rfl | (first | (apply AOpl.pass; rfl) | apply ASl.pass); (focus simp [cvFld, *]; done) | (first | refine AOpl.nil ?_ | refine AWp.skip ?_ | refine AWp.exit ?_ | refine AWp.ret ?_ | refine ASl.nil ?_); try simp only [Then, InBlock, reduceIte, Nat.reduceEqDiff] | refine AWp.seq ?_ | refine AWp.reg rfl ?_ | refine AWp.block ?_ | apply AWp.condT; focus simp [cvFld, *]; done | apply AWp.condF; focus simp [cvFld, *]; done | refine AWp.regT (by kernel_rfl) (by kernel_rfl) rfl rfl ?_)
        (first | (first | (apply AOpl.callN; rfl) | apply ASl.call); (focus simp [*, -Option.some.injEq]; rfl); kernel_rfl | (first | (apply AOpl.callNG; rfl) | apply ASl.callg); (focus simp [*]; done); (focus simp [*, -Option.some.injEq]; rfl); kernel_rfl)
        · exact hL
        intro nx3 hn3
        cases hs : s.static
        · simp only [hs, Bool.false_eq_true, if_false] at hS
          repeat (first | (first | (apply AOpl.step; rfl) | apply ASl.step); focus simp [*, -Option.some.injEq]; rfl | (first | (apply AOpl.stepG; rfl) | apply ASl.stepG); (focus simp [*]; done); focus simp [*, -Option.some.injEq]; rfl | (first | (apply AOpl.pass; rfl) | apply ASl.pass); (focus simp [*]; done) | (first | refine AOpl.nil ?_ | refine AWp.skip ?_ | refine AWp.exit ?_ | refine AWp.ret ?_ | refine ASl.nil ?_); try simp only [Then, InBlock, reduceIte, Nat.reduceEqDiff] | refine AWp.seq ?_ | refine AWp.reg rfl ?_ | refine AWp.block ?_ | apply AWp.condT; focus simp [*]; done | apply AWp.condF; focus simp [*]; done | refine AWp.regT (by kernel_rfl) (by kernel_rfl) rfl rfl ?_)
          refine ⟨by ((repeat (first | exact Keeps.base _ _ _ _ | (with_reducible exact Keeps.refl _ _ _) | (refine Keeps.put rfl ?_) | (refine Keeps.over' rfl rfl ?_)))), by simp [upd, e2, e3, e4], by simp [upd, cvFu, e2, e3, e4], by simp [upd, cvIns, e2, e3, e4, h9, hka], ?_, .inr ⟨s, hS, (by first | (simp (disch := omega) [putE, over, ofV, ofS, *]; done) | (simp (disch := omega) [putE, over, ofV, ofS, *]; rfl)), by simp [upd, cvSg, hs]⟩⟩
          rintro ⟨_, h | h⟩
          · exact absurd h (by simp [h1])
          · exact h h2c
        · simp only [hs, if_true] at hS
          repeat (first | (first | (apply AOpl.step; rfl) | apply ASl.step); focus simp [*, -Option.some.injEq]; rfl | (first | (apply AOpl.stepG; rfl) | apply ASl.stepG); (focus simp [*]; done); focus simp [*, -Option.some.injEq]; rfl | (first | (apply AOpl.pass; rfl) | apply ASl.pass); (focus simp [*]; done) | (first | refine AOpl.nil ?_ | refine AWp.skip ?_ | refine AWp.exit ?_ | refine AWp.ret ?_ | refine ASl.nil ?_); try simp only [Then, InBlock, reduceIte, Nat.reduceEqDiff] | refine AWp.seq ?_ | refine AWp.reg rfl ?_ | refine AWp.block ?_ | apply AWp.condT; focus simp [*]; done | apply AWp.condF; focus simp [*]; done | refine AWp.regT (by kernel_rfl) (by kernel_rfl) rfl rfl ?_)
          refine ⟨by ((repeat (first | exact Keeps.base _ _ _ _ | (with_reducible exact Keeps.refl _ _ _) | (refine Keeps.put rfl ?_) | (refine Keeps.over' rfl rfl ?_)))), by simp [upd, e2, e3, e4], by simp [upd, cvFu, e2, e3, e4], by simp [upd, cvIns, e2, e3, e4, h9, hka], ?_, .inl ⟨hS, (by first | (simp (disch := omega) [putE, over, ofV, ofS, *]; done) | (simp (disch := omega) [putE, over, ofV, ofS, *]; rfl))⟩⟩
          rintro ⟨_, h | h⟩
          · exact absurd h (by simp [h1])
          · exact h h2c
    · have hS : sigOf cds f x = (match lookC cds x.cls x.name with
        | some (c, s) => if c = x.cls ∧ s.static = true then some s else none
        | none => none) := by unfold sigOf; rw [if_neg h9]
      have hD := decl_ok cds hB x.cls x.name
      unfold declV at hD
      have hcond : ¬ (x.op = 9 ∧ (isC cds (vtyp f x.a) = false ∨ vtyp f x.a ≠ x.cls)) := fun h => h9 h.1
      clear ha
      cases hl2 : lookC cds x.cls x.name with
      | none =>
        rw [hl2] at hD hS
        simp only [zSg] at hD hS
        repeat (first | (first | (apply AOpl.step; rfl) | apply ASl.step); focus simp [*, -Option.some.injEq]; rfl | (first | (apply AOpl.stepG; rfl) | apply ASl.stepG); (focus simp [*]; done); focus simp [*, -Option.some.injEq]; rfl | (first | (apply AOpl.pass; rfl) | apply ASl.pass); (focus simp [*]; done) | (first | refine AOpl.nil ?_ | refine AWp.skip ?_ | refine AWp.exit ?_ | refine AWp.ret ?_ | refine ASl.nil ?_); try simp only [Then, InBlock, reduceIte, Nat.reduceEqDiff] | refine AWp.seq ?_ | refine AWp.reg rfl ?_ | refine AWp.block ?_ | apply AWp.condT; focus simp [*]; done | apply AWp.condF; focus simp [*]; done | refine AWp.regT (by kernel_rfl) (by kernel_rfl) rfl rfl ?_)
        (first | (first | (apply AOpl.callN; rfl) | apply ASl.call); (focus simp [*, -Option.some.injEq]; rfl); kernel_rfl | (first | (apply AOpl.callNG; rfl) | apply ASl.callg); (focus simp [*]; done); (focus simp [*, -Option.some.injEq]; rfl); kernel_rfl)
        · exact hD
        intro nx3 hn3
        repeat (first | (first | (apply AOpl.step; rfl) | apply ASl.step); focus simp [*, -Option.some.injEq]; rfl | (first | (apply AOpl.stepG; rfl) | apply ASl.stepG); (focus simp [*]; done); focus simp [*, -Option.some.injEq]; rfl | (first | (apply AOpl.pass; rfl) | apply ASl.pass); (focus simp [*]; done) | (first | refine AOpl.nil ?_ | refine AWp.skip ?_ | refine AWp.exit ?_ | refine AWp.ret ?_ | refine ASl.nil ?_); try simp only [Then, InBlock, reduceIte, Nat.reduceEqDiff] | refine AWp.seq ?_ | refine AWp.reg rfl ?_ | refine AWp.block ?_ | apply AWp.condT; focus simp [*]; done | apply AWp.condF; focus simp [*]; done | refine AWp.regT (by kernel_rfl) (by kernel_rfl) rfl rfl ?_)
        exact ⟨by ((repeat (first | exact Keeps.base _ _ _ _ | (with_reducible exact Keeps.refl _ _ _) | (refine Keeps.put rfl ?_) | (refine Keeps.over' rfl rfl ?_)))), by simp [upd, e2, e3, e4], by simp [upd, cvFu, e2, e3, e4], by simp [upd, cvIns, e2, e3, e4], hcond, .inl ⟨hS, (by first | (simp (disch := omega) [putE, over, ofV, ofS, *]; done) | (simp (disch := omega) [putE, over, ofV, ofS, *]; rfl))⟩⟩
      | some q =>
        obtain ⟨c, s⟩ := q
        rw [hl2] at hD hS
        simp only [cvSg] at hD hS
        repeat (first | (first | (apply AOpl.step; rfl) | apply ASl.step); focus simp [*, -Option.some.injEq]; rfl | (first | (apply AOpl.stepG; rfl) | apply ASl.stepG); (focus simp [*]; done); focus simp [*, -Option.some.injEq]; rfl | (first | (apply AOpl.pass; rfl) | apply ASl.pass); (focus simp [*]; done) | (first | refine AOpl.nil ?_ | refine AWp.skip ?_ | refine AWp.exit ?_ | refine AWp.ret ?_ | refine ASl.nil ?_); try simp only [Then, InBlock, reduceIte, Nat.reduceEqDiff] | refine AWp.seq ?_ | refine AWp.reg rfl ?_ | refine AWp.block ?_ | apply AWp.condT; focus simp [*]; done | apply AWp.condF; focus simp [*]; done | refine AWp.regT (by kernel_rfl) (by kernel_rfl) rfl rfl ?_)
        (first | (first | (apply AOpl.callN; rfl) | apply ASl.call); (focus simp [*, -Option.some.injEq]; rfl); kernel_rfl | (first | (apply AOpl.callNG; rfl) | apply ASl.callg); (focus simp [*]; done); (focus simp [*, -Option.some.injEq]; rfl); kernel_rfl)
        · exact hD
        intro nx3 hn3
        by_cases hq : c = x.cls ∧ s.static = true
        · rw [if_pos hq] at hS
          have hb : (decide (c = x.cls) && s.static) = true := by simp [hq.1, hq.2]
          rw [hb]
          clear hq hb
          repeat (first | (first | (apply AOpl.step; rfl) | apply ASl.step); focus simp [*, -Option.some.injEq]; rfl | (first | (apply AOpl.stepG; rfl) | apply ASl.stepG); (focus simp [*]; done); focus simp [*, -Option.some.injEq]; rfl | (first | (apply AOpl.pass; rfl) | apply ASl.pass); (focus simp [*]; done) | (first | refine AOpl.nil ?_ | refine AWp.skip ?_ | refine AWp.exit ?_ | refine AWp.ret ?_ | refine ASl.nil ?_); try simp only [Then, InBlock, reduceIte, Nat.reduceEqDiff] | refine AWp.seq ?_ | refine AWp.reg rfl ?_ | refine AWp.block ?_ | apply AWp.condT; focus simp [*]; done | apply AWp.condF; focus simp [*]; done | refine AWp.regT (by kernel_rfl) (by kernel_rfl) rfl rfl ?_)
          exact ⟨by ((repeat (first | exact Keeps.base _ _ _ _ | (with_reducible exact Keeps.refl _ _ _) | (refine Keeps.put rfl ?_) | (refine Keeps.over' rfl rfl ?_)))), by simp [upd, e2, e3, e4], by simp [upd, cvFu, e2, e3, e4], by simp [upd, cvIns, e2, e3, e4], hcond, .inr ⟨s, hS, (by first | (simp (disch := omega) [putE, over, ofV, ofS, *]; done) | (simp (disch := omega) [putE, over, ofV, ofS, *]; rfl)), by simp [upd, cvSg]⟩⟩
        · rw [if_neg hq] at hS
          have hb : (decide (c = x.cls) && s.static) = false := by
            cases h : (decide (c = x.cls) && s.static) with
            | false => rfl
            | true => simp only [Bool.and_eq_true, decide_eq_true_eq] at h; exact absurd h hq
          rw [hb]
          clear hq hb
          repeat (first | (first | (apply AOpl.step; rfl) | apply ASl.step); focus simp [*, -Option.some.injEq]; rfl | (first | (apply AOpl.stepG; rfl) | apply ASl.stepG); (focus simp [*]; done); focus simp [*, -Option.some.injEq]; rfl | (first | (apply AOpl.pass; rfl) | apply ASl.pass); (focus simp [*]; done) | (first | refine AOpl.nil ?_ | refine AWp.skip ?_ | refine AWp.exit ?_ | refine AWp.ret ?_ | refine ASl.nil ?_); try simp only [Then, InBlock, reduceIte, Nat.reduceEqDiff] | refine AWp.seq ?_ | refine AWp.reg rfl ?_ | refine AWp.block ?_ | apply AWp.condT; focus simp [*]; done | apply AWp.condF; focus simp [*]; done | refine AWp.regT (by kernel_rfl) (by kernel_rfl) rfl rfl ?_)
          exact ⟨by ((repeat (first | exact Keeps.base _ _ _ _ | (with_reducible exact Keeps.refl _ _ _) | (refine Keeps.put rfl ?_) | (refine Keeps.over' rfl rfl ?_)))), by simp [upd, e2, e3, e4], by simp [upd, cvFu, e2, e3, e4], by simp [upd, cvIns, e2, e3, e4], hcond, .inl ⟨hS, (by first | (simp (disch := omega) [putE, over, ofV, ofS, *]; done) | (simp (disch := omega) [putE, over, ofV, ofS, *]; rfl))⟩⟩
  · rintro v H nx2 hn2 ⟨hA, hF, hX, hcond, hS⟩
    simp only [cvFu] at hF
    simp only [cvIns] at hX
    simp only [hcond, if_false] at hw
    clear hcond ha
    have q1 : ∀ k, ¬ nx = nx2 + k := fun k => by omega
    rcases hS with ⟨hS, h8⟩ | ⟨s, hS, h8, hG⟩
    · simp only [hS] at hw
      repeat (first | (first | (apply AOpl.step; rfl) | apply ASl.step); focus simp [*, -Option.some.injEq]; rfl | (first | (apply AOpl.stepG; rfl) | apply ASl.stepG); (focus simp [*]; done); focus simp [*, -Option.some.injEq]; rfl | (first | (apply AOpl.pass; rfl) | apply ASl.pass); (focus simp [*]; done) | (first | refine AOpl.nil ?_ | refine AWp.skip ?_ | refine AWp.exit ?_ | refine AWp.ret ?_ | refine ASl.nil ?_); try simp only [Then, InBlock, reduceIte, Nat.reduceEqDiff] | refine AWp.seq ?_ | refine AWp.reg rfl ?_ | refine AWp.block ?_ | apply AWp.condT; focus simp [*]; done | apply AWp.condF; focus simp [*]; done | refine AWp.regT (by kernel_rfl) (by kernel_rfl) rfl rfl ?_)
      (refine ⟨_, (by simp [*]; rfl), ?_⟩; (try simp only [packA]))
      all_goals rw [hw]
    simp only [hS] at hw
    simp only [cvSg] at hG
    by_cases g1 : s.params.length = x.args.length
    case neg =>
      simp only [g1, ne_eq, not_false_eq_true, if_true] at hw
      repeat (first | (first | (apply AOpl.step; rfl) | apply ASl.step); focus simp [*, -Option.some.injEq]; rfl | (first | (apply AOpl.stepG; rfl) | apply ASl.stepG); (focus simp [*]; done); focus simp [*, -Option.some.injEq]; rfl | (first | (apply AOpl.pass; rfl) | apply ASl.pass); (focus simp [*]; done) | (first | refine AOpl.nil ?_ | refine AWp.skip ?_ | refine AWp.exit ?_ | refine AWp.ret ?_ | refine ASl.nil ?_); try simp only [Then, InBlock, reduceIte, Nat.reduceEqDiff] | refine AWp.seq ?_ | refine AWp.reg rfl ?_ | refine AWp.block ?_ | apply AWp.condT; focus simp [*]; done | apply AWp.condF; focus simp [*]; done | refine AWp.regT (by kernel_rfl) (by kernel_rfl) rfl rfl ?_)
      (refine ⟨_, (by simp [*]; rfl), ?_⟩; (try simp only [packA]))
      all_goals rw [hw]
    simp only [g1, ne_eq, not_true, if_false] at hw
    repeat (first | (first | (apply AOpl.step; rfl) | apply ASl.step); focus simp [*, -Option.some.injEq]; rfl | (first | (apply AOpl.stepG; rfl) | apply ASl.stepG); (focus simp [*]; done); focus simp [*, -Option.some.injEq]; rfl | (first | (apply AOpl.pass; rfl) | apply ASl.pass); (focus simp [*]; done) | (first | refine AOpl.nil ?_ | refine AWp.skip ?_ | refine AWp.exit ?_ | refine AWp.ret ?_ | refine ASl.nil ?_); try simp only [Then, InBlock, reduceIte, Nat.reduceEqDiff] | refine AWp.seq ?_ | refine AWp.reg rfl ?_ | refine AWp.block ?_ | apply AWp.condT; focus simp [*]; done | apply AWp.condF; focus simp [*]; done | refine AWp.regT (by kernel_rfl) (by kernel_rfl) rfl rfl ?_)
    refine AWp.countO x.args.length [6, 10] 11 (fun i e H _ => e 10 = .int .i64 i ∧ H nx = some (.cells [.lst (cds.map cvCd)]) ∧ H (nx + 1) = some (.cells (cvFu f)) ∧ H (nx + 1 + 1) = some (.cells (cvIns x)) ∧ H (nx + 1 + 1 + 1) = some (.cells (cvSg s)) ∧ badArgs cds f (x.args.drop i) (s.params.drop i) = badArgs cds f x.args s.params) ⟨(by first | (simp (disch := omega) [putE, over, ofV, ofS, *]; done) | (simp (disch := omega) [putE, over, ofV, ofS, *]; rfl)), hA, by simp [hF, cvFu], by simp [hX, cvIns], by simp [hG, cvSg], rfl⟩ ?_
    clear hA hF hX hG h8
    rintro i v2 H2 nx3 hi hn3 ⟨h10, hA, hF, hX, hG, ht⟩
    simp only [cvFu] at hF
    simp only [cvIns] at hX
    simp only [cvSg] at hG
    repeat (first | (first | (apply AOpl.step; rfl) | apply ASl.step); focus simp [*, -Option.some.injEq]; rfl | (first | (apply AOpl.stepG; rfl) | apply ASl.stepG); (focus simp [*]; done); focus simp [*, -Option.some.injEq]; rfl | (first | (apply AOpl.pass; rfl) | apply ASl.pass); (focus simp [*]; done) | (first | refine AOpl.nil ?_ | refine AWp.skip ?_ | refine AWp.exit ?_ | refine AWp.ret ?_ | refine ASl.nil ?_); try simp only [Then, InBlock, reduceIte, Nat.reduceEqDiff] | refine AWp.seq ?_ | refine AWp.reg rfl ?_ | refine AWp.block ?_ | apply AWp.condT; focus simp [*]; done | apply AWp.condF; focus simp [*]; done | refine AWp.regT (by kernel_rfl) (by kernel_rfl) rfl rfl ?_)
    (((apply AWp.cond'); (focus (simp [*, -Ax.CV.bool.injEq]; rfl))) <;> (intro hb) <;> (try simp only [decide_eq_true_eq, decide_eq_false_iff_not, Bool.not_eq_true', Bool.not_eq_false', Bool.not_eq_true, Bool.not_eq_false] at hb))
    · have hlt : i < x.args.length := hb
      have hlp : i < s.params.length := by omega
      have hwi := wrap_up hlt (show x.args.length ≤ maxLen by simp only [maxLen]; omega)
      obtain ⟨k, hk, hkl⟩ := hr _ (List.getElem_mem hlt)
      rw [dropAt hlt, dropAt hlp, badArgs, hk, vtyp_at hkl] at ht
      repeat (first | (first | (apply AOpl.step; rfl) | apply ASl.step); focus simp [cvFld, cvI, cvB, *, -Option.some.injEq]; rfl | (first | (apply AOpl.stepG; rfl) | apply ASl.stepG); (focus simp [cvFld, cvI, cvB, *]; done); focus simp [cvFld, cvI, cvB, *, -Option.some.injEq]; rfl | (first | (apply AOpl.pass; rfl) | apply ASl.pass); (focus simp [cvFld, cvI, cvB, *]; done) | (first | refine AOpl.nil ?_ | refine AWp.skip ?_ | refine AWp.exit ?_ | refine AWp.ret ?_ | refine ASl.nil ?_); try simp only [Then, InBlock, reduceIte, Nat.reduceEqDiff] | refine AWp.seq ?_ | refine AWp.reg rfl ?_ | refine AWp.block ?_ | apply AWp.condT; focus simp [cvFld, cvI, cvB, *]; done | apply AWp.condF; focus simp [cvFld, cvI, cvB, *]; done | refine AWp.regT (by kernel_rfl) (by kernel_rfl) rfl rfl ?_)
      (first | (first | (apply AOpl.callN; rfl) | apply ASl.call); (focus simp [cvFld, cvI, cvB, *, -Option.some.injEq]; rfl); kernel_rfl | (first | (apply AOpl.callNG; rfl) | apply ASl.callg); (focus simp [cvFld, cvI, cvB, *]; done); (focus simp [cvFld, cvI, cvB, *, -Option.some.injEq]; rfl); kernel_rfl)
      · exact fitsT_one cds hB.len _ _
      cases g2 : fitsT cds f.vars[k].typ s.params[i]
      · simp only [g2, Bool.not_false, Bool.true_or] at ht
        have ht' := ht.symm
        simp only [ht', if_true] at hw
        clear ht ht'
        repeat (first | (first | (apply AOpl.step; rfl) | apply ASl.step); focus simp [*, -Option.some.injEq]; rfl | (first | (apply AOpl.stepG; rfl) | apply ASl.stepG); (focus simp [*]; done); focus simp [*, -Option.some.injEq]; rfl | (first | (apply AOpl.pass; rfl) | apply ASl.pass); (focus simp [*]; done) | (first | refine AOpl.nil ?_ | refine AWp.skip ?_ | refine AWp.exit ?_ | refine AWp.ret ?_ | refine ASl.nil ?_); try simp only [Then, InBlock, reduceIte, Nat.reduceEqDiff] | refine AWp.seq ?_ | refine AWp.reg rfl ?_ | refine AWp.block ?_ | apply AWp.condT; focus simp [*]; done | apply AWp.condF; focus simp [*]; done | refine AWp.regT (by kernel_rfl) (by kernel_rfl) rfl rfl ?_)
        (refine ⟨_, (by simp [*]; rfl), ?_⟩; (try simp only [packA]))
        all_goals rw [hw]
      · simp only [g2, Bool.not_true, Bool.false_or] at ht
        repeat (first | (first | (apply AOpl.step; rfl) | apply ASl.step); focus simp [*, -Option.some.injEq]; rfl | (first | (apply AOpl.stepG; rfl) | apply ASl.stepG); (focus simp [*]; done); focus simp [*, -Option.some.injEq]; rfl | (first | (apply AOpl.pass; rfl) | apply ASl.pass); (focus simp [*]; done) | (first | refine AOpl.nil ?_ | refine AWp.skip ?_ | refine AWp.exit ?_ | refine AWp.ret ?_ | refine ASl.nil ?_); try simp only [Then, InBlock, reduceIte, Nat.reduceEqDiff] | refine AWp.seq ?_ | refine AWp.reg rfl ?_ | refine AWp.block ?_ | apply AWp.condT; focus simp [*]; done | apply AWp.condF; focus simp [*]; done | refine AWp.regT (by kernel_rfl) (by kernel_rfl) rfl rfl ?_)
        exact ⟨by ((repeat (first | exact Keeps.base _ _ _ _ | (with_reducible exact Keeps.refl _ _ _) | (refine Keeps.put rfl ?_) | (refine Keeps.over' rfl rfl ?_)))), hlt, (by first | (simp (disch := omega) [putE, over, ofV, ofS, *]; done) | (simp (disch := omega) [putE, over, ofV, ofS, *]; rfl)), hA, by simp [hF, cvFu], by simp [hX, cvIns], by simp [hG, cvSg], ht⟩
    · have hi' : i = x.args.length := by omega
      have e0 : badArgs cds f x.args s.params = false := by rw [← ht, hi', List.drop_length]; rfl
      simp only [e0, Bool.false_eq_true, if_false] at hw
      clear ht e0
      by_cases g3 : x.dst = -1
      · simp only [g3, ne_eq, not_true, false_and, if_false] at hw
        repeat (first | (first | (apply AOpl.step; rfl) | apply ASl.step); focus simp [*, -Option.some.injEq]; rfl | (first | (apply AOpl.stepG; rfl) | apply ASl.stepG); (focus simp [*]; done); focus simp [*, -Option.some.injEq]; rfl | (first | (apply AOpl.pass; rfl) | apply ASl.pass); (focus simp [*]; done) | (first | refine AOpl.nil ?_ | refine AWp.skip ?_ | refine AWp.exit ?_ | refine AWp.ret ?_ | refine ASl.nil ?_); try simp only [Then, InBlock, reduceIte, Nat.reduceEqDiff] | refine AWp.seq ?_ | refine AWp.reg rfl ?_ | refine AWp.block ?_ | apply AWp.condT; focus simp [*]; done | apply AWp.condF; focus simp [*]; done | refine AWp.regT (by kernel_rfl) (by kernel_rfl) rfl rfl ?_)
        (refine ⟨_, (by simp [*]; rfl), ?_⟩; (try simp only [packA]))
        all_goals rw [hw]
      obtain ⟨k, hk, hkl⟩ := hd g3
      rw [hk, vtyp_at hkl] at hw
      by_cases g4 : s.result = []
      · have g3' := g3
        simp only [← hk, g3, g4, ne_eq, not_false_eq_true, true_or, and_self, if_true] at hw
        repeat (first | (first | (apply AOpl.step; rfl) | apply ASl.step); focus simp [*, -Option.some.injEq]; rfl | (first | (apply AOpl.stepG; rfl) | apply ASl.stepG); (focus simp [*]; done); focus simp [*, -Option.some.injEq]; rfl | (first | (apply AOpl.pass; rfl) | apply ASl.pass); (focus simp [*]; done) | (first | refine AOpl.nil ?_ | refine AWp.skip ?_ | refine AWp.exit ?_ | refine AWp.ret ?_ | refine ASl.nil ?_); try simp only [Then, InBlock, reduceIte, Nat.reduceEqDiff] | refine AWp.seq ?_ | refine AWp.reg rfl ?_ | refine AWp.block ?_ | apply AWp.condT; focus simp [*]; done | apply AWp.condF; focus simp [*]; done | refine AWp.regT (by kernel_rfl) (by kernel_rfl) rfl rfl ?_)
        (refine ⟨_, (by simp [*]; rfl), ?_⟩; (try simp only [packA]))
        all_goals rw [hw]
      repeat (first | (first | (apply AOpl.step; rfl) | apply ASl.step); focus simp [cvFld, *, -Option.some.injEq]; rfl | (first | (apply AOpl.stepG; rfl) | apply ASl.stepG); (focus simp [cvFld, *]; done); focus simp [cvFld, *, -Option.some.injEq]; rfl | (first | (apply AOpl.pass; rfl) | apply ASl.pass); (focus simp [cvFld, *]; done) | (first | refine AOpl.nil ?_ | refine AWp.skip ?_ | refine AWp.exit ?_ | refine AWp.ret ?_ | refine ASl.nil ?_); try simp only [Then, InBlock, reduceIte, Nat.reduceEqDiff] | refine AWp.seq ?_ | refine AWp.reg rfl ?_ | refine AWp.block ?_ | apply AWp.condT; focus simp [cvFld, *]; done | apply AWp.condF; focus simp [cvFld, *]; done | refine AWp.regT (by kernel_rfl) (by kernel_rfl) rfl rfl ?_)
      (first | (first | (apply AOpl.callN; rfl) | apply ASl.call); (focus simp [cvFld, *, -Option.some.injEq]; rfl); kernel_rfl | (first | (apply AOpl.callNG; rfl) | apply ASl.callg); (focus simp [cvFld, *]; done); (focus simp [cvFld, *, -Option.some.injEq]; rfl); kernel_rfl)
      · exact fitsT_one cds hB.len _ _
      cases g5 : fitsT cds s.result f.vars[k].typ
      · simp only [← hk, g3, g4, g5, ne_eq, not_false_eq_true, or_true, and_self, if_true] at hw
        repeat (first | (first | (apply AOpl.step; rfl) | apply ASl.step); focus simp [*, -Option.some.injEq]; rfl | (first | (apply AOpl.stepG; rfl) | apply ASl.stepG); (focus simp [*]; done); focus simp [*, -Option.some.injEq]; rfl | (first | (apply AOpl.pass; rfl) | apply ASl.pass); (focus simp [*]; done) | (first | refine AOpl.nil ?_ | refine AWp.skip ?_ | refine AWp.exit ?_ | refine AWp.ret ?_ | refine ASl.nil ?_); try simp only [Then, InBlock, reduceIte, Nat.reduceEqDiff] | refine AWp.seq ?_ | refine AWp.reg rfl ?_ | refine AWp.block ?_ | apply AWp.condT; focus simp [*]; done | apply AWp.condF; focus simp [*]; done | refine AWp.regT (by kernel_rfl) (by kernel_rfl) rfl rfl ?_)
        (refine ⟨_, (by simp [*]; rfl), ?_⟩; (try simp only [packA]))
        all_goals rw [hw]
      · simp only [← hk, g3, g4, g5, Bool.true_eq_false, or_self, and_false, if_false] at hw
        repeat (first | (first | (apply AOpl.step; rfl) | apply ASl.step); focus simp [*, -Option.some.injEq]; rfl | (first | (apply AOpl.stepG; rfl) | apply ASl.stepG); (focus simp [*]; done); focus simp [*, -Option.some.injEq]; rfl | (first | (apply AOpl.pass; rfl) | apply ASl.pass); (focus simp [*]; done) | (first | refine AOpl.nil ?_ | refine AWp.skip ?_ | refine AWp.exit ?_ | refine AWp.ret ?_ | refine ASl.nil ?_); try simp only [Then, InBlock, reduceIte, Nat.reduceEqDiff] | refine AWp.seq ?_ | refine AWp.reg rfl ?_ | refine AWp.block ?_ | apply AWp.condT; focus simp [*]; done | apply AWp.condF; focus simp [*]; done | refine AWp.regT (by kernel_rfl) (by kernel_rfl) rfl rfl ?_)
        (refine ⟨_, (by simp [*]; rfl), ?_⟩; (try simp only [packA]))
        all_goals rw [hw]
end Go.Proofs.YtdjllogimomgmaaGreatDoor
