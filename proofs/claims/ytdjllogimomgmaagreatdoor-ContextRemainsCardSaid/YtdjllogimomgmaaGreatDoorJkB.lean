/-
  Methods found by the reference; the fields of a class; walked.
-/
import Derived.Test.YtdjllogimomgmaaGreatDoorJkA
set_option linter.unusedSimpArgs false
set_option linter.unusedVariables false
namespace Go.Proofs.YtdjllogimomgmaaGreatDoor
open Ax Tx Go.RowKit
attribute [local simp] stepS Ax.stepT Dl.on qstep astep estep rd putE over argE ofV ofS loadA pickCells isAggD faddA fieldA partA iaddA idxA sliA bnd binA intA strA unA convA bltA lenA mapOf lookA findK keyD scalD storeA mupA appA srcA srcD upd drp Dl.hp Dl.nx CV.cs CV.one buildA placesA fillA zrep tasA ifaceD eqA eqFs eqIs range2 copyA nbeq nble nblt decEq beqI bneI beqS bneS isED Int.ofNat_inj List.getElem?_map List.getElem?_eq_getElem Option.map_some ti_int ti_bool ti_str ti_i64 ti_Strs ti_Hi ti_Cds ti_Cd ti_Flds ti_Fld ti_Sgs ti_Sg gd gdB callA resA op1
def zSg : List CV := [.str [], .bool false, .nils, .str []]
def lookW (cds : List Cd) (f : Bs) : List Bs → Option (Bs × Sg)
  | [] => none
  | c :: l => match clsOf cds c with
    | none => none
    | some d => match d.methods.find? (fun x => decide (x.name = f)) with
      | some x => some (c, x)
      | none => lookW cds f l
def lookC (cds : List Cd) (s f : Bs) : Option (Bs × Sg) := lookW cds f (supC cds s)
def cvLook : Option (Bs × Sg) → CV
  | none => .tup [.str [], .agg zSg, .bool false]
  | some (c, x) => .tup [.str c, .agg (cvSg x), .bool true]
set_option maxRecDepth 10000 in
set_option maxHeartbeats 4000000 in
theorem look_ok (cds : List Cd) (hB : HiB cds) (s f : Bs) : FCall Tryz.prog cxG 211 [.agg [.lst (cds.map cvCd)], .str s, .str f] fun r => r = .ret (cvLook (lookC cds s f)) := by
  have hl := hB.len
  have hlm : cds.length ≤ maxLen := by simp only [maxLen]; omega
  have hsl := supC_len hl s
  refine FCall.ofBody Tryz.func211 rfl rfl fun nx => ?_
  repeat (first | (first | (apply AOpl.step; rfl) | apply ASl.step); focus simp [*, -Option.some.injEq]; rfl | (first | (apply AOpl.stepG; rfl) | apply ASl.stepG); (focus simp [*]; done); focus simp [*, -Option.some.injEq]; rfl | (first | (apply AOpl.pass; rfl) | apply ASl.pass); (focus simp [*]; done) | (first | refine AOpl.nil ?_ | refine AWp.skip ?_ | refine AWp.exit ?_ | refine AWp.ret ?_ | refine ASl.nil ?_); try simp only [Then, InBlock, reduceIte, Nat.reduceEqDiff] | refine AWp.seq ?_ | refine AWp.reg rfl ?_ | refine AWp.block ?_ | apply AWp.condT; focus simp [*]; done | apply AWp.condF; focus simp [*]; done | refine AWp.regT (by kernel_rfl) (by kernel_rfl) rfl rfl ?_)
  (first | (first | (apply AOpl.callN; rfl) | apply ASl.call); (focus simp [*, -Option.some.injEq]; rfl); kernel_rfl | (first | (apply AOpl.callNG; rfl) | apply ASl.callg); (focus simp [*]; done); (focus simp [*, -Option.some.injEq]; rfl); kernel_rfl)
  · exact supers_ok cds hl s
  intro nx0 hn0
  repeat (first | (first | (apply AOpl.step; rfl) | apply ASl.step); focus simp [*, -Option.some.injEq]; rfl | (first | (apply AOpl.stepG; rfl) | apply ASl.stepG); (focus simp [*]; done); focus simp [*, -Option.some.injEq]; rfl | (first | (apply AOpl.pass; rfl) | apply ASl.pass); (focus simp [*]; done) | (first | refine AOpl.nil ?_ | refine AWp.skip ?_ | refine AWp.exit ?_ | refine AWp.ret ?_ | refine ASl.nil ?_); try simp only [Then, InBlock, reduceIte, Nat.reduceEqDiff] | refine AWp.seq ?_ | refine AWp.reg rfl ?_ | refine AWp.block ?_ | apply AWp.condT; focus simp [*]; done | apply AWp.condF; focus simp [*]; done | refine AWp.regT (by kernel_rfl) (by kernel_rfl) rfl rfl ?_)
  refine AWp.countO (supC cds s).length [6, 8, 10, 11, 12] 13 (fun i e H _ => e 10 = .int .i64 i ∧ H nx = some (.cells [.lst (cds.map cvCd)]) ∧ H (nx + 1) = some (.cells zSg) ∧ lookW cds f ((supC cds s).drop i) = lookC cds s f) ⟨(by first | (simp (disch := omega) [putE, over, ofV, ofS, *]; done) | (simp (disch := omega) [putE, over, ofV, ofS, *]; rfl)), by simp [upd], by simp [upd, zSg], rfl⟩ ?_
  rintro i v H nx1 hi hn1 ⟨h10, hH, hZ, hw⟩
  have q1 : ∀ k, ¬ nx = nx1 + k := fun k => by omega
  have q2 : ∀ k, ¬ nx + 1 = nx1 + k := fun k => by omega
  simp only [zSg] at hZ
  repeat (first | (first | (apply AOpl.step; rfl) | apply ASl.step); focus simp [*, -Option.some.injEq]; rfl | (first | (apply AOpl.stepG; rfl) | apply ASl.stepG); (focus simp [*]; done); focus simp [*, -Option.some.injEq]; rfl | (first | (apply AOpl.pass; rfl) | apply ASl.pass); (focus simp [*]; done) | (first | refine AOpl.nil ?_ | refine AWp.skip ?_ | refine AWp.exit ?_ | refine AWp.ret ?_ | refine ASl.nil ?_); try simp only [Then, InBlock, reduceIte, Nat.reduceEqDiff] | refine AWp.seq ?_ | refine AWp.reg rfl ?_ | refine AWp.block ?_ | apply AWp.condT; focus simp [*]; done | apply AWp.condF; focus simp [*]; done | refine AWp.regT (by kernel_rfl) (by kernel_rfl) rfl rfl ?_)
  (((apply AWp.cond'); (focus (simp [*, -Ax.CV.bool.injEq]; rfl))) <;> (intro hb) <;> (try simp only [decide_eq_true_eq, decide_eq_false_iff_not, Bool.not_eq_true', Bool.not_eq_false', Bool.not_eq_true, Bool.not_eq_false] at hb))
  · have hlt : i < (supC cds s).length := hb
    have hwi := wrap_up hlt (show (supC cds s).length ≤ maxLen by simp only [maxLen]; omega)
    obtain ⟨k, hk⟩ := supC_found (List.getElem_mem hlt)
    obtain ⟨hkl, -⟩ := findN_some hk
    have hv : findI cds (supC cds s)[i] = (k : Int) := by simp only [findI, hk]
    have hml := hB.ml _ (List.getElem_mem hkl)
    rw [dropAt hlt] at hw
    simp only [lookW, clsOf_at hk hkl] at hw
    repeat (first | (first | (apply AOpl.step; rfl) | apply ASl.step); focus simp [*, -Option.some.injEq]; rfl | (first | (apply AOpl.stepG; rfl) | apply ASl.stepG); (focus simp [*]; done); focus simp [*, -Option.some.injEq]; rfl | (first | (apply AOpl.pass; rfl) | apply ASl.pass); (focus simp [*]; done) | (first | refine AOpl.nil ?_ | refine AWp.skip ?_ | refine AWp.exit ?_ | refine AWp.ret ?_ | refine ASl.nil ?_); try simp only [Then, InBlock, reduceIte, Nat.reduceEqDiff] | refine AWp.seq ?_ | refine AWp.reg rfl ?_ | refine AWp.block ?_ | apply AWp.condT; focus simp [*]; done | apply AWp.condF; focus simp [*]; done | refine AWp.regT (by kernel_rfl) (by kernel_rfl) rfl rfl ?_)
    (first | (first | (apply AOpl.callN; rfl) | apply ASl.call); (focus simp [*, -Option.some.injEq]; rfl); kernel_rfl | (first | (apply AOpl.callNG; rfl) | apply ASl.callg); (focus simp [*]; done); (focus simp [*, -Option.some.injEq]; rfl); kernel_rfl)
    · exact find_one cds hlm _
    repeat (first | (first | (apply AOpl.step; rfl) | apply ASl.step); focus simp [cvCd, *, -Option.some.injEq]; rfl | (first | (apply AOpl.stepG; rfl) | apply ASl.stepG); (focus simp [cvCd, *]; done); focus simp [cvCd, *, -Option.some.injEq]; rfl | (first | (apply AOpl.pass; rfl) | apply ASl.pass); (focus simp [cvCd, *]; done) | (first | refine AOpl.nil ?_ | refine AWp.skip ?_ | refine AWp.exit ?_ | refine AWp.ret ?_ | refine ASl.nil ?_); try simp only [Then, InBlock, reduceIte, Nat.reduceEqDiff] | refine AWp.seq ?_ | refine AWp.reg rfl ?_ | refine AWp.block ?_ | apply AWp.condT; focus simp [cvCd, *]; done | apply AWp.condF; focus simp [cvCd, *]; done | refine AWp.regT (by kernel_rfl) (by kernel_rfl) rfl rfl ?_)
    refine AWp.countO cds[k].methods.length [6, 8, 12] 13 (fun j e H _ => e 12 = .int .i64 j ∧ H nx = some (.cells [.lst (cds.map cvCd)]) ∧ H (nx + 1) = some (.cells zSg) ∧ H (nx1 + 10) = some (.cells (cvCd cds[k])) ∧ (cds[k].methods.drop j).find? (fun x => decide (x.name = f)) = cds[k].methods.find? (fun x => decide (x.name = f))) ⟨(by first | (simp (disch := omega) [putE, over, ofV, ofS, *]; done) | (simp (disch := omega) [putE, over, ofV, ofS, *]; rfl)), by simp [upd, q1, hH], by simp [upd, q1, hZ, zSg], by simp [upd, cvCd], rfl⟩ ?_
    rintro j v2 H2 nx2 hj hn2 ⟨h12, hH2, hZ2, hC, hw2⟩
    simp only [cvCd] at hC
    simp only [zSg] at hZ2
    have q3 : ¬ nx1 + 10 = nx + 1 := by omega
    repeat (first | (first | (apply AOpl.step; rfl) | apply ASl.step); focus simp [*, -Option.some.injEq]; rfl | (first | (apply AOpl.stepG; rfl) | apply ASl.stepG); (focus simp [*]; done); focus simp [*, -Option.some.injEq]; rfl | (first | (apply AOpl.pass; rfl) | apply ASl.pass); (focus simp [*]; done) | (first | refine AOpl.nil ?_ | refine AWp.skip ?_ | refine AWp.exit ?_ | refine AWp.ret ?_ | refine ASl.nil ?_); try simp only [Then, InBlock, reduceIte, Nat.reduceEqDiff] | refine AWp.seq ?_ | refine AWp.reg rfl ?_ | refine AWp.block ?_ | apply AWp.condT; focus simp [*]; done | apply AWp.condF; focus simp [*]; done | refine AWp.regT (by kernel_rfl) (by kernel_rfl) rfl rfl ?_)
    (((apply AWp.cond'); (focus (simp [*, -Ax.CV.bool.injEq]; rfl))) <;> (intro hb) <;> (try simp only [decide_eq_true_eq, decide_eq_false_iff_not, Bool.not_eq_true', Bool.not_eq_false', Bool.not_eq_true, Bool.not_eq_false] at hb))
    · have hlj : j < cds[k].methods.length := hb
      have hwj := wrap_up hlj (show cds[k].methods.length ≤ maxLen by simp only [maxLen]; omega)
      rw [dropAt hlj] at hw2
      repeat (first | (first | (apply AOpl.step; rfl) | apply ASl.step); focus simp [cvSg, *, -Option.some.injEq]; rfl | (first | (apply AOpl.stepG; rfl) | apply ASl.stepG); (focus simp [cvSg, *]; done); focus simp [cvSg, *, -Option.some.injEq]; rfl | (first | (apply AOpl.pass; rfl) | apply ASl.pass); (focus simp [cvSg, *]; done) | (first | refine AOpl.nil ?_ | refine AWp.skip ?_ | refine AWp.exit ?_ | refine AWp.ret ?_ | refine ASl.nil ?_); try simp only [Then, InBlock, reduceIte, Nat.reduceEqDiff] | refine AWp.seq ?_ | refine AWp.reg rfl ?_ | refine AWp.block ?_ | apply AWp.condT; focus simp [cvSg, *]; done | apply AWp.condF; focus simp [cvSg, *]; done | refine AWp.regT (by kernel_rfl) (by kernel_rfl) rfl rfl ?_)
      (((apply AWp.cond'); (focus (simp [*, -Ax.CV.bool.injEq]; rfl))) <;> (intro hb) <;> (try simp only [decide_eq_true_eq, decide_eq_false_iff_not, Bool.not_eq_true', Bool.not_eq_false', Bool.not_eq_true, Bool.not_eq_false] at hb))
      · simp only [List.find?_cons, hb, decide_true, decide_false] at hw2
        simp only [← hw2] at hw
        repeat (first | (first | (apply AOpl.step; rfl) | apply ASl.step); focus simp [cvSg, *, -Option.some.injEq]; rfl | (first | (apply AOpl.stepG; rfl) | apply ASl.stepG); (focus simp [cvSg, *]; done); focus simp [cvSg, *, -Option.some.injEq]; rfl | (first | (apply AOpl.pass; rfl) | apply ASl.pass); (focus simp [cvSg, *]; done) | (first | refine AOpl.nil ?_ | refine AWp.skip ?_ | refine AWp.exit ?_ | refine AWp.ret ?_ | refine ASl.nil ?_); try simp only [Then, InBlock, reduceIte, Nat.reduceEqDiff] | refine AWp.seq ?_ | refine AWp.reg rfl ?_ | refine AWp.block ?_ | apply AWp.condT; focus simp [cvSg, *]; done | apply AWp.condF; focus simp [cvSg, *]; done | refine AWp.regT (by kernel_rfl) (by kernel_rfl) rfl rfl ?_)
        (refine ⟨_, (by simp [ti_Sg, *]; rfl), ?_⟩; (try simp only [packA]))
        all_goals rw [← hw]
        simp [cvLook, cvSg, hb]
      · simp only [List.find?_cons, hb, decide_true, decide_false] at hw2
        repeat (first | (first | (apply AOpl.step; rfl) | apply ASl.step); focus simp [cvSg, *, -Option.some.injEq]; rfl | (first | (apply AOpl.stepG; rfl) | apply ASl.stepG); (focus simp [cvSg, *]; done); focus simp [cvSg, *, -Option.some.injEq]; rfl | (first | (apply AOpl.pass; rfl) | apply ASl.pass); (focus simp [cvSg, *]; done) | (first | refine AOpl.nil ?_ | refine AWp.skip ?_ | refine AWp.exit ?_ | refine AWp.ret ?_ | refine ASl.nil ?_); try simp only [Then, InBlock, reduceIte, Nat.reduceEqDiff] | refine AWp.seq ?_ | refine AWp.reg rfl ?_ | refine AWp.block ?_ | apply AWp.condT; focus simp [cvSg, *]; done | apply AWp.condF; focus simp [cvSg, *]; done | refine AWp.regT (by kernel_rfl) (by kernel_rfl) rfl rfl ?_)
        exact ⟨by ((repeat (first | exact Keeps.base _ _ _ _ | (with_reducible exact Keeps.refl _ _ _) | (refine Keeps.put rfl ?_) | (refine Keeps.over' rfl rfl ?_)))), hlj, (by first | (simp (disch := omega) [putE, over, ofV, ofS, *]; done) | (simp (disch := omega) [putE, over, ofV, ofS, *]; rfl)), hH2, by simp [hZ2, zSg], by simp [hC, cvCd], hw2⟩
    · rw [dropEnd hj hb] at hw2
      simp only [← hw2, List.find?_nil] at hw
      repeat (first | (first | (apply AOpl.step; rfl) | apply ASl.step); focus simp [*, -Option.some.injEq]; rfl | (first | (apply AOpl.stepG; rfl) | apply ASl.stepG); (focus simp [*]; done); focus simp [*, -Option.some.injEq]; rfl | (first | (apply AOpl.pass; rfl) | apply ASl.pass); (focus simp [*]; done) | (first | refine AOpl.nil ?_ | refine AWp.skip ?_ | refine AWp.exit ?_ | refine AWp.ret ?_ | refine ASl.nil ?_); try simp only [Then, InBlock, reduceIte, Nat.reduceEqDiff] | refine AWp.seq ?_ | refine AWp.reg rfl ?_ | refine AWp.block ?_ | apply AWp.condT; focus simp [*]; done | apply AWp.condF; focus simp [*]; done | refine AWp.regT (by kernel_rfl) (by kernel_rfl) rfl rfl ?_)
      exact ⟨by ((repeat (first | exact Keeps.base _ _ _ _ | (with_reducible exact Keeps.refl _ _ _) | (refine Keeps.put rfl ?_) | (refine Keeps.over' rfl rfl ?_)))), hlt, (by first | (simp (disch := omega) [putE, over, ofV, ofS, *]; done) | (simp (disch := omega) [putE, over, ofV, ofS, *]; rfl)), hH2, by simp [hZ2, zSg], hw⟩
  · rw [dropEnd hi hb] at hw
    repeat (first | (first | (apply AOpl.step; rfl) | apply ASl.step); focus simp [*, -Option.some.injEq]; rfl | (first | (apply AOpl.stepG; rfl) | apply ASl.stepG); (focus simp [*]; done); focus simp [*, -Option.some.injEq]; rfl | (first | (apply AOpl.pass; rfl) | apply ASl.pass); (focus simp [*]; done) | (first | refine AOpl.nil ?_ | refine AWp.skip ?_ | refine AWp.exit ?_ | refine AWp.ret ?_ | refine ASl.nil ?_); try simp only [Then, InBlock, reduceIte, Nat.reduceEqDiff] | refine AWp.seq ?_ | refine AWp.reg rfl ?_ | refine AWp.block ?_ | apply AWp.condT; focus simp [*]; done | apply AWp.condF; focus simp [*]; done | refine AWp.regT (by kernel_rfl) (by kernel_rfl) rfl rfl ?_)
    (refine ⟨_, (by simp [ti_Sg, *]; rfl), ?_⟩; (try simp only [packA]))
    rw [← hw]; simp [lookW, cvLook, zSg]
/-! the fields of a class -/
def fieldO (cds : List Cd) (s f : Bs) : Bool := match fieldV cds s f with
  | .tup [_, _, .bool b] => b
  | _ => false
theorem fieldW_form (cds : List Cd) (f : Bs) : ∀ l : List Bs, ∃ a t b, fieldW cds f l = .tup [.str a, .str t, .bool b]
  | [] => ⟨_, _, _, rfl⟩
  | c :: l => by
    simp only [fieldW]
    split
    · exact ⟨_, _, _, rfl⟩
    · split
      · exact ⟨_, _, _, rfl⟩
      · exact fieldW_form cds f l
theorem fieldV_form (cds : List Cd) (s f : Bs) : ∃ a t, fieldV cds s f = .tup [.str a, .str t, .bool (fieldO cds s f)] := by
  obtain ⟨a, t, b, h⟩ := fieldW_form cds f (supC cds s)
  refine ⟨a, t, ?_⟩
  have h' : fieldV cds s f = .tup [.str a, .str t, .bool b] := h
  rw [h']; simp only [fieldO, h']
theorem field_one (cds : List Cd) (hB : HiB cds) (s f : Bs) : ∃ a t, FCall1 Tryz.prog cxG 206 [.agg [.lst (cds.map cvCd)], .str s, .str f] (.tup [.str a, .str t, .bool (fieldO cds s f)]) := by
  obtain ⟨a, t, h⟩ := fieldV_form cds s f
  have h0 := field_ok cds hB.len hB.fl s f
  rw [h] at h0
  exact ⟨a, t, h0.one cxG_pu (by simp [puL, puV, puR_mapR puL_Cd]) (by simp [puV, puL])⟩
def fieldsE (cds : List Cd) (sup : Bs) : List Fld → List Fld → Int
  | _, [] => 0
  | pre, f :: l => if identB f.name = false then 5 else if typeB cds f.typ = false then 8 else if pre.any (fun x => decide (x.name = f.name)) = true then 7 else if fieldO cds sup f.name = true ∧ sup ≠ [] then 7 else fieldsE cds sup (pre ++ [f]) l
def fieldsI (cds : List Cd) (c : Cd) : Int := fieldsE cds c.super [] c.fields
set_option maxRecDepth 10000 in
set_option maxHeartbeats 4000000 in
theorem fields_ok (cds : List Cd) (hB : HiB cds) (i : Nat) (hi : i < cds.length) : FCall Tryz.prog cxG 186 [.agg [.lst (cds.map cvCd)], .int .i64 i] fun r => r = .ret (.int .i64 (fieldsI cds cds[i])) := by
  have hl := hB.len
  have hfl := hB.fl _ (List.getElem_mem hi)
  refine FCall.ofBody Tryz.func186 rfl rfl fun nx => ?_
  repeat (first | (first | (apply AOpl.step; rfl) | apply ASl.step); focus simp [cvCd, *, -Option.some.injEq]; rfl | (first | (apply AOpl.stepG; rfl) | apply ASl.stepG); (focus simp [cvCd, *]; done); focus simp [cvCd, *, -Option.some.injEq]; rfl | (first | (apply AOpl.pass; rfl) | apply ASl.pass); (focus simp [cvCd, *]; done) | (first | refine AOpl.nil ?_ | refine AWp.skip ?_ | refine AWp.exit ?_ | refine AWp.ret ?_ | refine ASl.nil ?_); try simp only [Then, InBlock, reduceIte, Nat.reduceEqDiff] | refine AWp.seq ?_ | refine AWp.reg rfl ?_ | refine AWp.block ?_ | apply AWp.condT; focus simp [cvCd, *]; done | apply AWp.condF; focus simp [cvCd, *]; done | refine AWp.regT (by kernel_rfl) (by kernel_rfl) rfl rfl ?_)
  obtain ⟨c, hc⟩ : ∃ c, cds[i] = c := ⟨_, rfl⟩
  rw [hc] at hfl ⊢
  refine AWp.countO c.fields.length [4, 6, 7, 8, 9, 10] 11 (fun j e H _ => e 6 = .int .i64 j ∧ H nx = some (.cells [.lst (cds.map cvCd)]) ∧ fieldsE cds c.super (c.fields.take j) (c.fields.drop j) = fieldsI cds c) ⟨(by first | (simp (disch := omega) [putE, over, ofV, ofS, *]; done) | (simp (disch := omega) [putE, over, ofV, ofS, *]; rfl)), by simp [upd], rfl⟩ ?_
  rintro j v H nx1 hj hn1 ⟨h6, hH, hw⟩
  have q1 : ∀ k, ¬ nx = nx1 + k := fun k => by omega
  repeat (first | (first | (apply AOpl.step; rfl) | apply ASl.step); focus simp [hc, *, -Option.some.injEq]; rfl | (first | (apply AOpl.stepG; rfl) | apply ASl.stepG); (focus simp [hc, *]; done); focus simp [hc, *, -Option.some.injEq]; rfl | (first | (apply AOpl.pass; rfl) | apply ASl.pass); (focus simp [hc, *]; done) | (first | refine AOpl.nil ?_ | refine AWp.skip ?_ | refine AWp.exit ?_ | refine AWp.ret ?_ | refine ASl.nil ?_); try simp only [Then, InBlock, reduceIte, Nat.reduceEqDiff] | refine AWp.seq ?_ | refine AWp.reg rfl ?_ | refine AWp.block ?_ | apply AWp.condT; focus simp [hc, *]; done | apply AWp.condF; focus simp [hc, *]; done | refine AWp.regT (by kernel_rfl) (by kernel_rfl) rfl rfl ?_)
  (((apply AWp.cond'); (focus (simp [*, -Ax.CV.bool.injEq]; rfl))) <;> (intro hb) <;> (try simp only [decide_eq_true_eq, decide_eq_false_iff_not, Bool.not_eq_true', Bool.not_eq_false', Bool.not_eq_true, Bool.not_eq_false] at hb))
  · have hlj : j < c.fields.length := hb
    have hwj := wrap_up hlj (show c.fields.length ≤ maxLen by simp only [maxLen]; omega)
    have htk := take_succ_at hlj
    rw [dropAt hlj] at hw
    generalize hm : c.fields[j] = m at *
    simp only [fieldsE] at hw
    repeat (first | (first | (apply AOpl.step; rfl) | apply ASl.step); focus simp [cvFld, *, -Option.some.injEq]; rfl | (first | (apply AOpl.stepG; rfl) | apply ASl.stepG); (focus simp [cvFld, *]; done); focus simp [cvFld, *, -Option.some.injEq]; rfl | (first | (apply AOpl.pass; rfl) | apply ASl.pass); (focus simp [cvFld, *]; done) | (first | refine AOpl.nil ?_ | refine AWp.skip ?_ | refine AWp.exit ?_ | refine AWp.ret ?_ | refine ASl.nil ?_); try simp only [Then, InBlock, reduceIte, Nat.reduceEqDiff] | refine AWp.seq ?_ | refine AWp.reg rfl ?_ | refine AWp.block ?_ | apply AWp.condT; focus simp [cvFld, *]; done | apply AWp.condF; focus simp [cvFld, *]; done | refine AWp.regT (by kernel_rfl) (by kernel_rfl) rfl rfl ?_)
    (first | (first | (apply AOpl.callN; rfl) | apply ASl.call); (focus simp [*, -Option.some.injEq]; rfl); kernel_rfl | (first | (apply AOpl.callNG; rfl) | apply ASl.callg); (focus simp [*]; done); (focus simp [*, -Option.some.injEq]; rfl); kernel_rfl)
    · exact ident_ok m.name
    intro nx2 hn2
    cases h1 : identB m.name
    · simp only [h1, if_true] at hw
      repeat (first | (first | (apply AOpl.step; rfl) | apply ASl.step); focus simp [*, -Option.some.injEq]; rfl | (first | (apply AOpl.stepG; rfl) | apply ASl.stepG); (focus simp [*]; done); focus simp [*, -Option.some.injEq]; rfl | (first | (apply AOpl.pass; rfl) | apply ASl.pass); (focus simp [*]; done) | (first | refine AOpl.nil ?_ | refine AWp.skip ?_ | refine AWp.exit ?_ | refine AWp.ret ?_ | refine ASl.nil ?_); try simp only [Then, InBlock, reduceIte, Nat.reduceEqDiff] | refine AWp.seq ?_ | refine AWp.reg rfl ?_ | refine AWp.block ?_ | apply AWp.condT; focus simp [*]; done | apply AWp.condF; focus simp [*]; done | refine AWp.regT (by kernel_rfl) (by kernel_rfl) rfl rfl ?_)
      (refine ⟨_, (by simp [*]; rfl), ?_⟩; (try simp only [packA]))
      all_goals rw [← hw]
    simp only [h1, if_false, Bool.true_eq_false] at hw
    repeat (first | (first | (apply AOpl.step; rfl) | apply ASl.step); focus simp [cvFld, *, -Option.some.injEq]; rfl | (first | (apply AOpl.stepG; rfl) | apply ASl.stepG); (focus simp [cvFld, *]; done); focus simp [cvFld, *, -Option.some.injEq]; rfl | (first | (apply AOpl.pass; rfl) | apply ASl.pass); (focus simp [cvFld, *]; done) | (first | refine AOpl.nil ?_ | refine AWp.skip ?_ | refine AWp.exit ?_ | refine AWp.ret ?_ | refine ASl.nil ?_); try simp only [Then, InBlock, reduceIte, Nat.reduceEqDiff] | refine AWp.seq ?_ | refine AWp.reg rfl ?_ | refine AWp.block ?_ | apply AWp.condT; focus simp [cvFld, *]; done | apply AWp.condF; focus simp [cvFld, *]; done | refine AWp.regT (by kernel_rfl) (by kernel_rfl) rfl rfl ?_)
    (first | (first | (apply AOpl.callN; rfl) | apply ASl.call); (focus simp [*, -Option.some.injEq]; rfl); kernel_rfl | (first | (apply AOpl.callNG; rfl) | apply ASl.callg); (focus simp [*]; done); (focus simp [*, -Option.some.injEq]; rfl); kernel_rfl)
    · exact type_one cds hl m.typ
    cases h2 : typeB cds m.typ
    · simp only [h2, if_true] at hw
      repeat (first | (first | (apply AOpl.step; rfl) | apply ASl.step); focus simp [*, -Option.some.injEq]; rfl | (first | (apply AOpl.stepG; rfl) | apply ASl.stepG); (focus simp [*]; done); focus simp [*, -Option.some.injEq]; rfl | (first | (apply AOpl.pass; rfl) | apply ASl.pass); (focus simp [*]; done) | (first | refine AOpl.nil ?_ | refine AWp.skip ?_ | refine AWp.exit ?_ | refine AWp.ret ?_ | refine ASl.nil ?_); try simp only [Then, InBlock, reduceIte, Nat.reduceEqDiff] | refine AWp.seq ?_ | refine AWp.reg rfl ?_ | refine AWp.block ?_ | apply AWp.condT; focus simp [*]; done | apply AWp.condF; focus simp [*]; done | refine AWp.regT (by kernel_rfl) (by kernel_rfl) rfl rfl ?_)
      (refine ⟨_, (by simp [*]; rfl), ?_⟩; (try simp only [packA]))
      all_goals rw [← hw]
    simp only [h2, if_false, Bool.true_eq_false] at hw
    repeat (first | (first | (apply AOpl.step; rfl) | apply ASl.step); focus simp [*, -Option.some.injEq]; rfl | (first | (apply AOpl.stepG; rfl) | apply ASl.stepG); (focus simp [*]; done); focus simp [*, -Option.some.injEq]; rfl | (first | (apply AOpl.pass; rfl) | apply ASl.pass); (focus simp [*]; done) | (first | refine AOpl.nil ?_ | refine AWp.skip ?_ | refine AWp.exit ?_ | refine AWp.ret ?_ | refine ASl.nil ?_); try simp only [Then, InBlock, reduceIte, Nat.reduceEqDiff] | refine AWp.seq ?_ | refine AWp.reg rfl ?_ | refine AWp.block ?_ | apply AWp.condT; focus simp [*]; done | apply AWp.condF; focus simp [*]; done | refine AWp.regT (by kernel_rfl) (by kernel_rfl) rfl rfl ?_)
    refine AWp.countO j [4, 7] 11 (fun k e H _ => e 7 = .int .i64 k ∧ H nx = some (.cells [.lst (cds.map cvCd)]) ∧ (c.fields.take k).any (fun x => decide (x.name = m.name)) = false) ⟨(by first | (simp (disch := omega) [putE, over, ofV, ofS, *]; done) | (simp (disch := omega) [putE, over, ofV, ofS, *]; rfl)), hH, rfl⟩ ?_
    rintro k v2 H2 nx3 hk hn3 ⟨h7, hH2, ha⟩
    have q3 : ∀ k, ¬ nx = nx3 + k := fun k => by omega
    repeat (first | (first | (apply AOpl.step; rfl) | apply ASl.step); focus simp [*, -Option.some.injEq]; rfl | (first | (apply AOpl.stepG; rfl) | apply ASl.stepG); (focus simp [*]; done); focus simp [*, -Option.some.injEq]; rfl | (first | (apply AOpl.pass; rfl) | apply ASl.pass); (focus simp [*]; done) | (first | refine AOpl.nil ?_ | refine AWp.skip ?_ | refine AWp.exit ?_ | refine AWp.ret ?_ | refine ASl.nil ?_); try simp only [Then, InBlock, reduceIte, Nat.reduceEqDiff] | refine AWp.seq ?_ | refine AWp.reg rfl ?_ | refine AWp.block ?_ | apply AWp.condT; focus simp [*]; done | apply AWp.condF; focus simp [*]; done | refine AWp.regT (by kernel_rfl) (by kernel_rfl) rfl rfl ?_)
    (((apply AWp.cond'); (focus (simp [*, -Ax.CV.bool.injEq]; rfl))) <;> (intro hb) <;> (try simp only [decide_eq_true_eq, decide_eq_false_iff_not, Bool.not_eq_true', Bool.not_eq_false', Bool.not_eq_true, Bool.not_eq_false] at hb))
    · have hkj : k < j := hb
      have hkl : k < c.fields.length := by omega
      have hwk := wrap_up hkj (show j ≤ maxLen by simp only [maxLen]; omega)
      repeat (first | (first | (apply AOpl.step; rfl) | apply ASl.step); focus simp [cvFld, *, -Option.some.injEq]; rfl | (first | (apply AOpl.stepG; rfl) | apply ASl.stepG); (focus simp [cvFld, *]; done); focus simp [cvFld, *, -Option.some.injEq]; rfl | (first | (apply AOpl.pass; rfl) | apply ASl.pass); (focus simp [cvFld, *]; done) | (first | refine AOpl.nil ?_ | refine AWp.skip ?_ | refine AWp.exit ?_ | refine AWp.ret ?_ | refine ASl.nil ?_); try simp only [Then, InBlock, reduceIte, Nat.reduceEqDiff] | refine AWp.seq ?_ | refine AWp.reg rfl ?_ | refine AWp.block ?_ | apply AWp.condT; focus simp [cvFld, *]; done | apply AWp.condF; focus simp [cvFld, *]; done | refine AWp.regT (by kernel_rfl) (by kernel_rfl) rfl rfl ?_)
      (((apply AWp.cond'); (focus (simp [*, -Ax.CV.bool.injEq]; rfl))) <;> (intro hb) <;> (try simp only [decide_eq_true_eq, decide_eq_false_iff_not, Bool.not_eq_true', Bool.not_eq_false', Bool.not_eq_true, Bool.not_eq_false] at hb))
      · have ht : (c.fields.take j).any (fun x => decide (x.name = m.name)) = true := List.any_eq_true.mpr ⟨c.fields[k], by rw [List.mem_take_iff_getElem]; exact ⟨k, by omega, rfl⟩, by simp [hb]⟩
        simp only [ht, if_true] at hw
        repeat (first | (first | (apply AOpl.step; rfl) | apply ASl.step); focus simp [*, -Option.some.injEq]; rfl | (first | (apply AOpl.stepG; rfl) | apply ASl.stepG); (focus simp [*]; done); focus simp [*, -Option.some.injEq]; rfl | (first | (apply AOpl.pass; rfl) | apply ASl.pass); (focus simp [*]; done) | (first | refine AOpl.nil ?_ | refine AWp.skip ?_ | refine AWp.exit ?_ | refine AWp.ret ?_ | refine ASl.nil ?_); try simp only [Then, InBlock, reduceIte, Nat.reduceEqDiff] | refine AWp.seq ?_ | refine AWp.reg rfl ?_ | refine AWp.block ?_ | apply AWp.condT; focus simp [*]; done | apply AWp.condF; focus simp [*]; done | refine AWp.regT (by kernel_rfl) (by kernel_rfl) rfl rfl ?_)
        (refine ⟨_, (by simp [*]; rfl), ?_⟩; (try simp only [packA]))
        all_goals rw [← hw]
      · repeat (first | (first | (apply AOpl.step; rfl) | apply ASl.step); focus simp [*, -Option.some.injEq]; rfl | (first | (apply AOpl.stepG; rfl) | apply ASl.stepG); (focus simp [*]; done); focus simp [*, -Option.some.injEq]; rfl | (first | (apply AOpl.pass; rfl) | apply ASl.pass); (focus simp [*]; done) | (first | refine AOpl.nil ?_ | refine AWp.skip ?_ | refine AWp.exit ?_ | refine AWp.ret ?_ | refine ASl.nil ?_); try simp only [Then, InBlock, reduceIte, Nat.reduceEqDiff] | refine AWp.seq ?_ | refine AWp.reg rfl ?_ | refine AWp.block ?_ | apply AWp.condT; focus simp [*]; done | apply AWp.condF; focus simp [*]; done | refine AWp.regT (by kernel_rfl) (by kernel_rfl) rfl rfl ?_)
        exact ⟨by ((repeat (first | exact Keeps.base _ _ _ _ | (with_reducible exact Keeps.refl _ _ _) | (refine Keeps.put rfl ?_) | (refine Keeps.over' rfl rfl ?_)))), hkj, (by first | (simp (disch := omega) [putE, over, ofV, ofS, *]; done) | (simp (disch := omega) [putE, over, ofV, ofS, *]; rfl)), hH2, any_take hkl ha (by simp [hb])⟩
    · have hk' : k = j := by omega
      subst hk'
      simp only [ha, if_false, Bool.false_eq_true] at hw
      obtain ⟨fa, ft, ho⟩ := field_one cds hB c.super m.name
      repeat (first | (first | (apply AOpl.step; rfl) | apply ASl.step); focus simp [cvFld, cvCd, *, -Option.some.injEq]; rfl | (first | (apply AOpl.stepG; rfl) | apply ASl.stepG); (focus simp [cvFld, cvCd, *]; done); focus simp [cvFld, cvCd, *, -Option.some.injEq]; rfl | (first | (apply AOpl.pass; rfl) | apply ASl.pass); (focus simp [cvFld, cvCd, *]; done) | (first | refine AOpl.nil ?_ | refine AWp.skip ?_ | refine AWp.exit ?_ | refine AWp.ret ?_ | refine ASl.nil ?_); try simp only [Then, InBlock, reduceIte, Nat.reduceEqDiff] | refine AWp.seq ?_ | refine AWp.reg rfl ?_ | refine AWp.block ?_ | apply AWp.condT; focus simp [cvFld, cvCd, *]; done | apply AWp.condF; focus simp [cvFld, cvCd, *]; done | refine AWp.regT (by kernel_rfl) (by kernel_rfl) rfl rfl ?_)
      (first | (first | (apply AOpl.callN; rfl) | apply ASl.call); (focus simp [cvCd, *, -Option.some.injEq]; rfl); kernel_rfl | (first | (apply AOpl.callNG; rfl) | apply ASl.callg); (focus simp [cvCd, *]; done); (focus simp [cvCd, *, -Option.some.injEq]; rfl); kernel_rfl)
      · exact ho
      repeat (first | (first | (apply AOpl.step; rfl) | apply ASl.step); focus simp [*, -Option.some.injEq]; rfl | (first | (apply AOpl.stepG; rfl) | apply ASl.stepG); (focus simp [*]; done); focus simp [*, -Option.some.injEq]; rfl | (first | (apply AOpl.pass; rfl) | apply ASl.pass); (focus simp [*]; done) | (first | refine AOpl.nil ?_ | refine AWp.skip ?_ | refine AWp.exit ?_ | refine AWp.ret ?_ | refine ASl.nil ?_); try simp only [Then, InBlock, reduceIte, Nat.reduceEqDiff] | refine AWp.seq ?_ | refine AWp.reg rfl ?_ | refine AWp.block ?_ | apply AWp.condT; focus simp [*]; done | apply AWp.condF; focus simp [*]; done | refine AWp.regT (by kernel_rfl) (by kernel_rfl) rfl rfl ?_)
      cases h3 : fieldO cds c.super m.name
      · simp only [h3, false_and, if_false, Bool.false_eq_true] at hw
        repeat (first | (first | (apply AOpl.step; rfl) | apply ASl.step); focus simp [*, -Option.some.injEq]; rfl | (first | (apply AOpl.stepG; rfl) | apply ASl.stepG); (focus simp [*]; done); focus simp [*, -Option.some.injEq]; rfl | (first | (apply AOpl.pass; rfl) | apply ASl.pass); (focus simp [*]; done) | (first | refine AOpl.nil ?_ | refine AWp.skip ?_ | refine AWp.exit ?_ | refine AWp.ret ?_ | refine ASl.nil ?_); try simp only [Then, InBlock, reduceIte, Nat.reduceEqDiff] | refine AWp.seq ?_ | refine AWp.reg rfl ?_ | refine AWp.block ?_ | apply AWp.condT; focus simp [*]; done | apply AWp.condF; focus simp [*]; done | refine AWp.regT (by kernel_rfl) (by kernel_rfl) rfl rfl ?_)
        exact ⟨by ((repeat (first | exact Keeps.base _ _ _ _ | (with_reducible exact Keeps.refl _ _ _) | (refine Keeps.put rfl ?_) | (refine Keeps.over' rfl rfl ?_)))), hlj, (by first | (simp (disch := omega) [putE, over, ofV, ofS, *]; done) | (simp (disch := omega) [putE, over, ofV, ofS, *]; rfl)), hH2, by rw [htk]; exact hw⟩
      · by_cases h4 : c.super = []
        · simp only [h4, ne_eq, not_true, and_false, if_false] at hw
          repeat (first | (first | (apply AOpl.step; rfl) | apply ASl.step); focus simp [cvCd, *, -Option.some.injEq]; rfl | (first | (apply AOpl.stepG; rfl) | apply ASl.stepG); (focus simp [cvCd, *]; done); focus simp [cvCd, *, -Option.some.injEq]; rfl | (first | (apply AOpl.pass; rfl) | apply ASl.pass); (focus simp [cvCd, *]; done) | (first | refine AOpl.nil ?_ | refine AWp.skip ?_ | refine AWp.exit ?_ | refine AWp.ret ?_ | refine ASl.nil ?_); try simp only [Then, InBlock, reduceIte, Nat.reduceEqDiff] | refine AWp.seq ?_ | refine AWp.reg rfl ?_ | refine AWp.block ?_ | apply AWp.condT; focus simp [cvCd, *]; done | apply AWp.condF; focus simp [cvCd, *]; done | refine AWp.regT (by kernel_rfl) (by kernel_rfl) rfl rfl ?_)
          exact ⟨by ((repeat (first | exact Keeps.base _ _ _ _ | (with_reducible exact Keeps.refl _ _ _) | (refine Keeps.put rfl ?_) | (refine Keeps.over' rfl rfl ?_)))), hlj, (by first | (simp (disch := omega) [putE, over, ofV, ofS, *]; done) | (simp (disch := omega) [putE, over, ofV, ofS, *]; rfl)), hH2, by rw [htk, h4]; exact hw⟩
        · simp only [h3, h4, ne_eq, not_false_eq_true, and_self, if_true] at hw
          repeat (first | (first | (apply AOpl.step; rfl) | apply ASl.step); focus simp [cvCd, *, -Option.some.injEq]; rfl | (first | (apply AOpl.stepG; rfl) | apply ASl.stepG); (focus simp [cvCd, *]; done); focus simp [cvCd, *, -Option.some.injEq]; rfl | (first | (apply AOpl.pass; rfl) | apply ASl.pass); (focus simp [cvCd, *]; done) | (first | refine AOpl.nil ?_ | refine AWp.skip ?_ | refine AWp.exit ?_ | refine AWp.ret ?_ | refine ASl.nil ?_); try simp only [Then, InBlock, reduceIte, Nat.reduceEqDiff] | refine AWp.seq ?_ | refine AWp.reg rfl ?_ | refine AWp.block ?_ | apply AWp.condT; focus simp [cvCd, *]; done | apply AWp.condF; focus simp [cvCd, *]; done | refine AWp.regT (by kernel_rfl) (by kernel_rfl) rfl rfl ?_)
          (refine ⟨_, (by simp [*]; rfl), ?_⟩; (try simp only [packA]))
          all_goals rw [← hw]
  · rw [dropEnd hj hb] at hw
    repeat (first | (first | (apply AOpl.step; rfl) | apply ASl.step); focus simp [*, -Option.some.injEq]; rfl | (first | (apply AOpl.stepG; rfl) | apply ASl.stepG); (focus simp [*]; done); focus simp [*, -Option.some.injEq]; rfl | (first | (apply AOpl.pass; rfl) | apply ASl.pass); (focus simp [*]; done) | (first | refine AOpl.nil ?_ | refine AWp.skip ?_ | refine AWp.exit ?_ | refine AWp.ret ?_ | refine ASl.nil ?_); try simp only [Then, InBlock, reduceIte, Nat.reduceEqDiff] | refine AWp.seq ?_ | refine AWp.reg rfl ?_ | refine AWp.block ?_ | apply AWp.condT; focus simp [*]; done | apply AWp.condF; focus simp [*]; done | refine AWp.regT (by kernel_rfl) (by kernel_rfl) rfl rfl ?_)
    (refine ⟨_, (by simp [*]; rfl), ?_⟩; (try simp only [packA]))
    rw [← hw]; rfl
end Go.Proofs.YtdjllogimomgmaaGreatDoor
