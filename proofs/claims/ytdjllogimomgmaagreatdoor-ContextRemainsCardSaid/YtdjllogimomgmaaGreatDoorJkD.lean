/-
  A hierarchy as the reference checks it; the words and forms of operations; walked.
-/
import Derived.Test.YtdjllogimomgmaaGreatDoorJkC
set_option linter.unusedSimpArgs false
set_option linter.unusedVariables false
namespace Go.Proofs.YtdjllogimomgmaaGreatDoor
open Ax Tx Go.RowKit
attribute [local simp] stepS Ax.stepT Dl.on qstep astep estep rd putE over argE ofV ofS loadA pickCells isAggD faddA fieldA partA iaddA idxA sliA bnd binA intA strA unA convA bltA lenA mapOf lookA findK keyD scalD storeA mupA appA srcA srcD upd drp Dl.hp Dl.nx CV.cs CV.one buildA placesA fillA zrep tasA ifaceD eqA eqFs eqIs range2 copyA nbeq nble nblt decEq beqI bneI beqS bneS isED Int.ofNat_inj List.getElem?_map List.getElem?_eq_getElem Option.map_some ti_int ti_bool ti_str ti_i64 ti_Strs ti_Hi ti_Cds ti_Cd ti_Flds ti_Fld ti_Sgs ti_Sg gd gdB callA resA op1
def checkE (cds : List Cd) : Nat → List Cd → Int × Int
  | _, [] => (0, 0)
  | i, c :: l => if classE cds i c = 0 then checkE cds (i + 1) l else (i, classE cds i c)
def checkI (cds : List Cd) : Int × Int := if (64 : Int) < cds.length then (-1, 3) else checkE cds 0 cds
set_option maxRecDepth 10000 in
set_option maxHeartbeats 4000000 in
theorem hcheck_ok (cds : List Cd) (hB : HiB cds) : FCall Tryz.prog cxG 132 [.agg [.lst (cds.map cvCd)]] fun r => r = .ret (.tup [.int .i64 (checkI cds).1, .int .i64 (checkI cds).2]) := by
  obtain ⟨w, hw⟩ : ∃ w, w = checkI cds := ⟨_, rfl⟩
  rw [← hw]
  unfold checkI at hw
  have hl := hB.len
  refine FCall.ofBody Tryz.func132 rfl rfl fun nx => ?_
  by_cases h1 : (64 : Int) < cds.length
  · simp only [h1, if_true] at hw
    repeat (first | (first | (apply AOpl.step; rfl) | apply ASl.step); focus simp [*, -Option.some.injEq]; rfl | (first | (apply AOpl.stepG; rfl) | apply ASl.stepG); (focus simp [*]; done); focus simp [*, -Option.some.injEq]; rfl | (first | (apply AOpl.pass; rfl) | apply ASl.pass); (focus simp [*]; done) | (first | refine AOpl.nil ?_ | refine AWp.skip ?_ | refine AWp.exit ?_ | refine AWp.ret ?_ | refine ASl.nil ?_); try simp only [Then, InBlock, reduceIte, Nat.reduceEqDiff] | refine AWp.seq ?_ | refine AWp.reg rfl ?_ | refine AWp.block ?_ | apply AWp.condT; focus simp [*]; done | apply AWp.condF; focus simp [*]; done | refine AWp.regT (by kernel_rfl) (by kernel_rfl) rfl rfl ?_)
    (refine ⟨_, (by simp [*]; rfl), ?_⟩; (try simp only [packA]))
    all_goals rw [hw]
  simp only [h1, if_false] at hw
  repeat (first | (first | (apply AOpl.step; rfl) | apply ASl.step); focus simp [*, -Option.some.injEq]; rfl | (first | (apply AOpl.stepG; rfl) | apply ASl.stepG); (focus simp [*]; done); focus simp [*, -Option.some.injEq]; rfl | (first | (apply AOpl.pass; rfl) | apply ASl.pass); (focus simp [*]; done) | (first | refine AOpl.nil ?_ | refine AWp.skip ?_ | refine AWp.exit ?_ | refine AWp.ret ?_ | refine ASl.nil ?_); try simp only [Then, InBlock, reduceIte, Nat.reduceEqDiff] | refine AWp.seq ?_ | refine AWp.reg rfl ?_ | refine AWp.block ?_ | apply AWp.condT; focus simp [*]; done | apply AWp.condF; focus simp [*]; done | refine AWp.regT (by kernel_rfl) (by kernel_rfl) rfl rfl ?_)
  refine AWp.countO cds.length [2, 3, 4, 5] 6 (fun i e H _ => e 4 = .int .i64 i ∧ H nx = some (.cells [.lst (cds.map cvCd)]) ∧ w = checkE cds i (cds.drop i)) ⟨(by first | (simp (disch := omega) [putE, over, ofV, ofS, *]; done) | (simp (disch := omega) [putE, over, ofV, ofS, *]; rfl)), by simp [upd], hw⟩ ?_
  clear hw
  rintro i v H nx1 hi hn1 ⟨h4, hH, hw⟩
  repeat (first | (first | (apply AOpl.step; rfl) | apply ASl.step); focus simp [*, -Option.some.injEq]; rfl | (first | (apply AOpl.stepG; rfl) | apply ASl.stepG); (focus simp [*]; done); focus simp [*, -Option.some.injEq]; rfl | (first | (apply AOpl.pass; rfl) | apply ASl.pass); (focus simp [*]; done) | (first | refine AOpl.nil ?_ | refine AWp.skip ?_ | refine AWp.exit ?_ | refine AWp.ret ?_ | refine ASl.nil ?_); try simp only [Then, InBlock, reduceIte, Nat.reduceEqDiff] | refine AWp.seq ?_ | refine AWp.reg rfl ?_ | refine AWp.block ?_ | apply AWp.condT; focus simp [*]; done | apply AWp.condF; focus simp [*]; done | refine AWp.regT (by kernel_rfl) (by kernel_rfl) rfl rfl ?_)
  (((apply AWp.cond'); (focus (simp [*, -Ax.CV.bool.injEq]; rfl))) <;> (intro hb) <;> (try simp only [decide_eq_true_eq, decide_eq_false_iff_not, Bool.not_eq_true', Bool.not_eq_false', Bool.not_eq_true, Bool.not_eq_false] at hb))
  · have hlt : i < cds.length := hb
    have hwi := wrap_up hlt (show cds.length ≤ maxLen by simp only [maxLen]; omega)
    rw [dropAt hlt, checkE] at hw
    repeat (first | (first | (apply AOpl.step; rfl) | apply ASl.step); focus simp [*, -Option.some.injEq]; rfl | (first | (apply AOpl.stepG; rfl) | apply ASl.stepG); (focus simp [*]; done); focus simp [*, -Option.some.injEq]; rfl | (first | (apply AOpl.pass; rfl) | apply ASl.pass); (focus simp [*]; done) | (first | refine AOpl.nil ?_ | refine AWp.skip ?_ | refine AWp.exit ?_ | refine AWp.ret ?_ | refine ASl.nil ?_); try simp only [Then, InBlock, reduceIte, Nat.reduceEqDiff] | refine AWp.seq ?_ | refine AWp.reg rfl ?_ | refine AWp.block ?_ | apply AWp.condT; focus simp [*]; done | apply AWp.condF; focus simp [*]; done | refine AWp.regT (by kernel_rfl) (by kernel_rfl) rfl rfl ?_)
    (first | (first | (apply AOpl.callN; rfl) | apply ASl.call); (focus simp [*, -Option.some.injEq]; rfl); kernel_rfl | (first | (apply AOpl.callNG; rfl) | apply ASl.callg); (focus simp [*]; done); (focus simp [*, -Option.some.injEq]; rfl); kernel_rfl)
    · exact class_ok cds hB i hlt
    intro nx2 hn2
    by_cases h2 : classE cds i cds[i] = 0
    · simp only [h2, if_true] at hw
      repeat (first | (first | (apply AOpl.step; rfl) | apply ASl.step); focus simp [*, -Option.some.injEq]; rfl | (first | (apply AOpl.stepG; rfl) | apply ASl.stepG); (focus simp [*]; done); focus simp [*, -Option.some.injEq]; rfl | (first | (apply AOpl.pass; rfl) | apply ASl.pass); (focus simp [*]; done) | (first | refine AOpl.nil ?_ | refine AWp.skip ?_ | refine AWp.exit ?_ | refine AWp.ret ?_ | refine ASl.nil ?_); try simp only [Then, InBlock, reduceIte, Nat.reduceEqDiff] | refine AWp.seq ?_ | refine AWp.reg rfl ?_ | refine AWp.block ?_ | apply AWp.condT; focus simp [*]; done | apply AWp.condF; focus simp [*]; done | refine AWp.regT (by kernel_rfl) (by kernel_rfl) rfl rfl ?_)
      exact ⟨by ((repeat (first | exact Keeps.base _ _ _ _ | (with_reducible exact Keeps.refl _ _ _) | (refine Keeps.put rfl ?_) | (refine Keeps.over' rfl rfl ?_)))), hlt, (by first | (simp (disch := omega) [putE, over, ofV, ofS, *]; done) | (simp (disch := omega) [putE, over, ofV, ofS, *]; rfl)), hH, hw⟩
    · simp only [h2, if_false] at hw
      repeat (first | (first | (apply AOpl.step; rfl) | apply ASl.step); focus simp [*, -Option.some.injEq]; rfl | (first | (apply AOpl.stepG; rfl) | apply ASl.stepG); (focus simp [*]; done); focus simp [*, -Option.some.injEq]; rfl | (first | (apply AOpl.pass; rfl) | apply ASl.pass); (focus simp [*]; done) | (first | refine AOpl.nil ?_ | refine AWp.skip ?_ | refine AWp.exit ?_ | refine AWp.ret ?_ | refine ASl.nil ?_); try simp only [Then, InBlock, reduceIte, Nat.reduceEqDiff] | refine AWp.seq ?_ | refine AWp.reg rfl ?_ | refine AWp.block ?_ | apply AWp.condT; focus simp [*]; done | apply AWp.condF; focus simp [*]; done | refine AWp.regT (by kernel_rfl) (by kernel_rfl) rfl rfl ?_)
      (refine ⟨_, (by simp [*]; rfl), ?_⟩; (try simp only [packA]))
      all_goals rw [hw]
  · rw [dropEnd hi hb, checkE] at hw
    repeat (first | (first | (apply AOpl.step; rfl) | apply ASl.step); focus simp [*, -Option.some.injEq]; rfl | (first | (apply AOpl.stepG; rfl) | apply ASl.stepG); (focus simp [*]; done); focus simp [*, -Option.some.injEq]; rfl | (first | (apply AOpl.pass; rfl) | apply ASl.pass); (focus simp [*]; done) | (first | refine AOpl.nil ?_ | refine AWp.skip ?_ | refine AWp.exit ?_ | refine AWp.ret ?_ | refine ASl.nil ?_); try simp only [Then, InBlock, reduceIte, Nat.reduceEqDiff] | refine AWp.seq ?_ | refine AWp.reg rfl ?_ | refine AWp.block ?_ | apply AWp.condT; focus simp [*]; done | apply AWp.condF; focus simp [*]; done | refine AWp.regT (by kernel_rfl) (by kernel_rfl) rfl rfl ?_)
    (refine ⟨_, (by simp [*]; rfl), ?_⟩; (try simp only [packA]))
    all_goals rw [hw]
def nmL : List Bs := [[110, 111, 112], [99, 111, 110, 115, 116], [110, 117, 108, 108], [99, 111, 112, 121], [98, 105, 110], [105, 110, 112, 117, 116], [110, 101, 119], [108, 111, 97, 100], [115, 116, 111, 114, 101], [99, 97, 108, 108], [115, 116, 97, 116, 105, 99], [98, 114, 97, 110, 99, 104], [106, 117, 109, 112], [114, 101, 116, 117, 114, 110], [116, 104, 114, 111, 119], [99, 97, 116, 99, 104], [115, 104, 105, 102, 116]]
def fmL : List Bs := [[], [100, 110], [100], [100, 97], [100, 97, 111, 98], [100], [100, 99], [100, 97, 109], [97, 109, 98], [100, 97, 99, 109, 108], [100, 99, 109, 108], [97, 103], [103], [97], [97], [100, 99], [100, 97, 110]]
def hasT (k : Nat) (c : UInt8) : Bool := ((fmL[k]?).getD []).any fun x => x == c || (c == 110 && x == 111)
def letL : List UInt8 := [100, 97, 98, 110, 99, 109, 108, 103]
set_option maxRecDepth 10000 in
theorem has_tab : ∀ k : Nat, k < 17 → ∀ c ∈ letL, FCall1 Tryz.prog cxG 68 [.int .i64 k, .int .u8 c.toNat] (.bool (hasT k c)) := by
  intro k hk c hc
  simp only [letL, List.mem_cons, List.not_mem_nil, or_false] at hc
  match k, hk with
  | 0, _ =>
    rcases hc with rfl | rfl | rfl | rfl | rfl | rfl | rfl | rfl <;> exact FCall1.run (runFS_sound (P := Tryz.prog) (G := cxG) (sp := cxSp) (lf := 1000) (fun c hc => cxSp_ok hc) 60) cxG_pu rfl (by kernel_rfl) (by kernel_rfl)
  | 1, _ =>
    rcases hc with rfl | rfl | rfl | rfl | rfl | rfl | rfl | rfl <;> exact FCall1.run (runFS_sound (P := Tryz.prog) (G := cxG) (sp := cxSp) (lf := 1000) (fun c hc => cxSp_ok hc) 60) cxG_pu rfl (by kernel_rfl) (by kernel_rfl)
  | 2, _ =>
    rcases hc with rfl | rfl | rfl | rfl | rfl | rfl | rfl | rfl <;> exact FCall1.run (runFS_sound (P := Tryz.prog) (G := cxG) (sp := cxSp) (lf := 1000) (fun c hc => cxSp_ok hc) 60) cxG_pu rfl (by kernel_rfl) (by kernel_rfl)
  | 3, _ =>
    rcases hc with rfl | rfl | rfl | rfl | rfl | rfl | rfl | rfl <;> exact FCall1.run (runFS_sound (P := Tryz.prog) (G := cxG) (sp := cxSp) (lf := 1000) (fun c hc => cxSp_ok hc) 60) cxG_pu rfl (by kernel_rfl) (by kernel_rfl)
  | 4, _ =>
    rcases hc with rfl | rfl | rfl | rfl | rfl | rfl | rfl | rfl <;> exact FCall1.run (runFS_sound (P := Tryz.prog) (G := cxG) (sp := cxSp) (lf := 1000) (fun c hc => cxSp_ok hc) 60) cxG_pu rfl (by kernel_rfl) (by kernel_rfl)
  | 5, _ =>
    rcases hc with rfl | rfl | rfl | rfl | rfl | rfl | rfl | rfl <;> exact FCall1.run (runFS_sound (P := Tryz.prog) (G := cxG) (sp := cxSp) (lf := 1000) (fun c hc => cxSp_ok hc) 60) cxG_pu rfl (by kernel_rfl) (by kernel_rfl)
  | 6, _ =>
    rcases hc with rfl | rfl | rfl | rfl | rfl | rfl | rfl | rfl <;> exact FCall1.run (runFS_sound (P := Tryz.prog) (G := cxG) (sp := cxSp) (lf := 1000) (fun c hc => cxSp_ok hc) 60) cxG_pu rfl (by kernel_rfl) (by kernel_rfl)
  | 7, _ =>
    rcases hc with rfl | rfl | rfl | rfl | rfl | rfl | rfl | rfl <;> exact FCall1.run (runFS_sound (P := Tryz.prog) (G := cxG) (sp := cxSp) (lf := 1000) (fun c hc => cxSp_ok hc) 60) cxG_pu rfl (by kernel_rfl) (by kernel_rfl)
  | 8, _ =>
    rcases hc with rfl | rfl | rfl | rfl | rfl | rfl | rfl | rfl <;> exact FCall1.run (runFS_sound (P := Tryz.prog) (G := cxG) (sp := cxSp) (lf := 1000) (fun c hc => cxSp_ok hc) 60) cxG_pu rfl (by kernel_rfl) (by kernel_rfl)
  | 9, _ =>
    rcases hc with rfl | rfl | rfl | rfl | rfl | rfl | rfl | rfl <;> exact FCall1.run (runFS_sound (P := Tryz.prog) (G := cxG) (sp := cxSp) (lf := 1000) (fun c hc => cxSp_ok hc) 60) cxG_pu rfl (by kernel_rfl) (by kernel_rfl)
  | 10, _ =>
    rcases hc with rfl | rfl | rfl | rfl | rfl | rfl | rfl | rfl <;> exact FCall1.run (runFS_sound (P := Tryz.prog) (G := cxG) (sp := cxSp) (lf := 1000) (fun c hc => cxSp_ok hc) 60) cxG_pu rfl (by kernel_rfl) (by kernel_rfl)
  | 11, _ =>
    rcases hc with rfl | rfl | rfl | rfl | rfl | rfl | rfl | rfl <;> exact FCall1.run (runFS_sound (P := Tryz.prog) (G := cxG) (sp := cxSp) (lf := 1000) (fun c hc => cxSp_ok hc) 60) cxG_pu rfl (by kernel_rfl) (by kernel_rfl)
  | 12, _ =>
    rcases hc with rfl | rfl | rfl | rfl | rfl | rfl | rfl | rfl <;> exact FCall1.run (runFS_sound (P := Tryz.prog) (G := cxG) (sp := cxSp) (lf := 1000) (fun c hc => cxSp_ok hc) 60) cxG_pu rfl (by kernel_rfl) (by kernel_rfl)
  | 13, _ =>
    rcases hc with rfl | rfl | rfl | rfl | rfl | rfl | rfl | rfl <;> exact FCall1.run (runFS_sound (P := Tryz.prog) (G := cxG) (sp := cxSp) (lf := 1000) (fun c hc => cxSp_ok hc) 60) cxG_pu rfl (by kernel_rfl) (by kernel_rfl)
  | 14, _ =>
    rcases hc with rfl | rfl | rfl | rfl | rfl | rfl | rfl | rfl <;> exact FCall1.run (runFS_sound (P := Tryz.prog) (G := cxG) (sp := cxSp) (lf := 1000) (fun c hc => cxSp_ok hc) 60) cxG_pu rfl (by kernel_rfl) (by kernel_rfl)
  | 15, _ =>
    rcases hc with rfl | rfl | rfl | rfl | rfl | rfl | rfl | rfl <;> exact FCall1.run (runFS_sound (P := Tryz.prog) (G := cxG) (sp := cxSp) (lf := 1000) (fun c hc => cxSp_ok hc) 60) cxG_pu rfl (by kernel_rfl) (by kernel_rfl)
  | 16, _ =>
    rcases hc with rfl | rfl | rfl | rfl | rfl | rfl | rfl | rfl <;> exact FCall1.run (runFS_sound (P := Tryz.prog) (G := cxG) (sp := cxSp) (lf := 1000) (fun c hc => cxSp_ok hc) 60) cxG_pu rfl (by kernel_rfl) (by kernel_rfl)
  | k + 17, h => exact absurd h (by omega)
set_option maxRecDepth 10000 in
theorem name_tab : ∀ k : Nat, k < 17 → FCall1 Tryz.prog cxG 96 [.int .i64 k] (.str ((nmL[k]?).getD [])) := by
  intro k hk
  match k, hk with
  | 0, _ => exact FCall1.run (runFS_sound (P := Tryz.prog) (G := cxG) (sp := cxSp) (lf := 1000) (fun c hc => cxSp_ok hc) 60) cxG_pu rfl (by kernel_rfl) (by kernel_rfl)
  | 1, _ => exact FCall1.run (runFS_sound (P := Tryz.prog) (G := cxG) (sp := cxSp) (lf := 1000) (fun c hc => cxSp_ok hc) 60) cxG_pu rfl (by kernel_rfl) (by kernel_rfl)
  | 2, _ => exact FCall1.run (runFS_sound (P := Tryz.prog) (G := cxG) (sp := cxSp) (lf := 1000) (fun c hc => cxSp_ok hc) 60) cxG_pu rfl (by kernel_rfl) (by kernel_rfl)
  | 3, _ => exact FCall1.run (runFS_sound (P := Tryz.prog) (G := cxG) (sp := cxSp) (lf := 1000) (fun c hc => cxSp_ok hc) 60) cxG_pu rfl (by kernel_rfl) (by kernel_rfl)
  | 4, _ => exact FCall1.run (runFS_sound (P := Tryz.prog) (G := cxG) (sp := cxSp) (lf := 1000) (fun c hc => cxSp_ok hc) 60) cxG_pu rfl (by kernel_rfl) (by kernel_rfl)
  | 5, _ => exact FCall1.run (runFS_sound (P := Tryz.prog) (G := cxG) (sp := cxSp) (lf := 1000) (fun c hc => cxSp_ok hc) 60) cxG_pu rfl (by kernel_rfl) (by kernel_rfl)
  | 6, _ => exact FCall1.run (runFS_sound (P := Tryz.prog) (G := cxG) (sp := cxSp) (lf := 1000) (fun c hc => cxSp_ok hc) 60) cxG_pu rfl (by kernel_rfl) (by kernel_rfl)
  | 7, _ => exact FCall1.run (runFS_sound (P := Tryz.prog) (G := cxG) (sp := cxSp) (lf := 1000) (fun c hc => cxSp_ok hc) 60) cxG_pu rfl (by kernel_rfl) (by kernel_rfl)
  | 8, _ => exact FCall1.run (runFS_sound (P := Tryz.prog) (G := cxG) (sp := cxSp) (lf := 1000) (fun c hc => cxSp_ok hc) 60) cxG_pu rfl (by kernel_rfl) (by kernel_rfl)
  | 9, _ => exact FCall1.run (runFS_sound (P := Tryz.prog) (G := cxG) (sp := cxSp) (lf := 1000) (fun c hc => cxSp_ok hc) 60) cxG_pu rfl (by kernel_rfl) (by kernel_rfl)
  | 10, _ => exact FCall1.run (runFS_sound (P := Tryz.prog) (G := cxG) (sp := cxSp) (lf := 1000) (fun c hc => cxSp_ok hc) 60) cxG_pu rfl (by kernel_rfl) (by kernel_rfl)
  | 11, _ => exact FCall1.run (runFS_sound (P := Tryz.prog) (G := cxG) (sp := cxSp) (lf := 1000) (fun c hc => cxSp_ok hc) 60) cxG_pu rfl (by kernel_rfl) (by kernel_rfl)
  | 12, _ => exact FCall1.run (runFS_sound (P := Tryz.prog) (G := cxG) (sp := cxSp) (lf := 1000) (fun c hc => cxSp_ok hc) 60) cxG_pu rfl (by kernel_rfl) (by kernel_rfl)
  | 13, _ => exact FCall1.run (runFS_sound (P := Tryz.prog) (G := cxG) (sp := cxSp) (lf := 1000) (fun c hc => cxSp_ok hc) 60) cxG_pu rfl (by kernel_rfl) (by kernel_rfl)
  | 14, _ => exact FCall1.run (runFS_sound (P := Tryz.prog) (G := cxG) (sp := cxSp) (lf := 1000) (fun c hc => cxSp_ok hc) 60) cxG_pu rfl (by kernel_rfl) (by kernel_rfl)
  | 15, _ => exact FCall1.run (runFS_sound (P := Tryz.prog) (G := cxG) (sp := cxSp) (lf := 1000) (fun c hc => cxSp_ok hc) 60) cxG_pu rfl (by kernel_rfl) (by kernel_rfl)
  | 16, _ => exact FCall1.run (runFS_sound (P := Tryz.prog) (G := cxG) (sp := cxSp) (lf := 1000) (fun c hc => cxSp_ok hc) 60) cxG_pu rfl (by kernel_rfl) (by kernel_rfl)
  | k + 17, h => exact absurd h (by omega)
def opIn (op : Int) : Bool := decide (0 ≤ op) && decide (op < 17)
theorem opIn_nat {op : Int} (h : opIn op = true) : ∃ k : Nat, op = k ∧ k < 17 := by
  simp only [opIn, Bool.and_eq_true, decide_eq_true_eq] at h
  exact ⟨op.toNat, by omega, by omega⟩
theorem name_out (op : Int) (h : opIn op = false) : FCall Tryz.prog cxG 96 [.int .i64 op] fun r => r = .ret (.str []) := by
  refine FCall.ofBody Tryz.func96 rfl rfl fun nx => ?_
  simp only [opIn, Bool.and_eq_false_iff, decide_eq_false_iff_not] at h
  by_cases h1 : op < 0
  · repeat (first | (first | (apply AOpl.step; rfl) | apply ASl.step); focus simp [*, -Option.some.injEq]; rfl | (first | (apply AOpl.stepG; rfl) | apply ASl.stepG); (focus simp [*]; done); focus simp [*, -Option.some.injEq]; rfl | (first | (apply AOpl.pass; rfl) | apply ASl.pass); (focus simp [*]; done) | (first | refine AOpl.nil ?_ | refine AWp.skip ?_ | refine AWp.exit ?_ | refine AWp.ret ?_ | refine ASl.nil ?_); try simp only [Then, InBlock, reduceIte, Nat.reduceEqDiff] | refine AWp.seq ?_ | refine AWp.reg rfl ?_ | refine AWp.block ?_ | apply AWp.condT; focus simp [*]; done | apply AWp.condF; focus simp [*]; done | refine AWp.regT (by kernel_rfl) (by kernel_rfl) rfl rfl ?_)
    (refine ⟨_, (by simp [*]; rfl), ?_⟩; (try simp only [packA]))
  · have h2 : (17 : Int) ≤ op := by omega
    clear h
    repeat (first | (first | (apply AOpl.step; rfl) | apply ASl.step); focus simp [*, -Option.some.injEq]; rfl | (first | (apply AOpl.stepG; rfl) | apply ASl.stepG); (focus simp [*]; done); focus simp [*, -Option.some.injEq]; rfl | (first | (apply AOpl.pass; rfl) | apply ASl.pass); (focus simp [*]; done) | (first | refine AOpl.nil ?_ | refine AWp.skip ?_ | refine AWp.exit ?_ | refine AWp.ret ?_ | refine ASl.nil ?_); try simp only [Then, InBlock, reduceIte, Nat.reduceEqDiff] | refine AWp.seq ?_ | refine AWp.reg rfl ?_ | refine AWp.block ?_ | apply AWp.condT; focus simp [*]; done | apply AWp.condF; focus simp [*]; done | refine AWp.regT (by kernel_rfl) (by kernel_rfl) rfl rfl ?_)
    (refine ⟨_, (by simp [*]; rfl), ?_⟩; (try simp only [packA]))
def hasB (op : Int) (c : UInt8) : Bool := hasT op.toNat c
theorem has_ok (op : Int) (h : opIn op = true) (c : UInt8) (hc : c ∈ letL) : FCall1 Tryz.prog cxG 68 [.int .i64 op, .int .u8 c.toNat] (.bool (hasB op c)) := by
  obtain ⟨k, rfl, hk⟩ := opIn_nat h
  exact has_tab k hk c hc
def nameB (op : Int) : Bs := if opIn op = true then (nmL[op.toNat]?).getD [] else []
theorem name_ok (op : Int) : FCall Tryz.prog cxG 96 [.int .i64 op] fun r => r = .ret (.str (nameB op)) := by
  cases h : opIn op
  · simp only [nameB, h, Bool.false_eq_true, if_false]; exact name_out op h
  · simp only [nameB, h, if_true]
    obtain ⟨k, rfl, hk⟩ := opIn_nat h
    exact fun H nx => (name_tab k hk H nx).mono fun r H' nx' ⟨a, b, c⟩ => ⟨b, a⟩
theorem nameB_empty {op : Int} : nameB op = [] ↔ opIn op = false := by
  unfold nameB
  cases h : opIn op
  · simp
  · simp only [if_true, Bool.true_eq_false, iff_false]
    obtain ⟨k, rfl, hk⟩ := opIn_nat h
    simp only [Int.toNat_natCast]
    revert hk
    match k with
    | 0 => intro _ h; simp [nmL] at h
    | 1 => intro _ h; simp [nmL] at h
    | 2 => intro _ h; simp [nmL] at h
    | 3 => intro _ h; simp [nmL] at h
    | 4 => intro _ h; simp [nmL] at h
    | 5 => intro _ h; simp [nmL] at h
    | 6 => intro _ h; simp [nmL] at h
    | 7 => intro _ h; simp [nmL] at h
    | 8 => intro _ h; simp [nmL] at h
    | 9 => intro _ h; simp [nmL] at h
    | 10 => intro _ h; simp [nmL] at h
    | 11 => intro _ h; simp [nmL] at h
    | 12 => intro _ h; simp [nmL] at h
    | 13 => intro _ h; simp [nmL] at h
    | 14 => intro _ h; simp [nmL] at h
    | 15 => intro _ h; simp [nmL] at h
    | 16 => intro _ h; simp [nmL] at h
    | k + 17 => intro h; omega
theorem letA {c : UInt8} (h : letL.contains c = true) : c ∈ letL := by simpa using h
/-! classes and types -/
def isC (cds : List Cd) (t : Bs) : Bool := decide (0 ≤ findI cds t)
theorem isClass_ok (cds : List Cd) (hl : cds.length ≤ 1000) (t : Bs) : FCall Tryz.prog cxG 192 [.agg [.lst (cds.map cvCd)], .str t] fun r => r = .ret (.bool (isC cds t)) := by
  have hlm : cds.length ≤ maxLen := by simp only [maxLen]; omega
  refine FCall.ofBody Tryz.func192 rfl rfl fun nx => ?_
  repeat (first | (first | (apply AOpl.step; rfl) | apply ASl.step); focus simp [*, -Option.some.injEq]; rfl | (first | (apply AOpl.stepG; rfl) | apply ASl.stepG); (focus simp [*]; done); focus simp [*, -Option.some.injEq]; rfl | (first | (apply AOpl.pass; rfl) | apply ASl.pass); (focus simp [*]; done) | (first | refine AOpl.nil ?_ | refine AWp.skip ?_ | refine AWp.exit ?_ | refine AWp.ret ?_ | refine ASl.nil ?_); try simp only [Then, InBlock, reduceIte, Nat.reduceEqDiff] | refine AWp.seq ?_ | refine AWp.reg rfl ?_ | refine AWp.block ?_ | apply AWp.condT; focus simp [*]; done | apply AWp.condF; focus simp [*]; done | refine AWp.regT (by kernel_rfl) (by kernel_rfl) rfl rfl ?_)
  (first | (first | (apply AOpl.callN; rfl) | apply ASl.call); (focus simp [*, -Option.some.injEq]; rfl); kernel_rfl | (first | (apply AOpl.callNG; rfl) | apply ASl.callg); (focus simp [*]; done); (focus simp [*, -Option.some.injEq]; rfl); kernel_rfl)
  · exact find_ok cds hlm t
  intro nx2 hn2
  repeat (first | (first | (apply AOpl.step; rfl) | apply ASl.step); focus simp [*, -Option.some.injEq]; rfl | (first | (apply AOpl.stepG; rfl) | apply ASl.stepG); (focus simp [*]; done); focus simp [*, -Option.some.injEq]; rfl | (first | (apply AOpl.pass; rfl) | apply ASl.pass); (focus simp [*]; done) | (first | refine AOpl.nil ?_ | refine AWp.skip ?_ | refine AWp.exit ?_ | refine AWp.ret ?_ | refine ASl.nil ?_); try simp only [Then, InBlock, reduceIte, Nat.reduceEqDiff] | refine AWp.seq ?_ | refine AWp.reg rfl ?_ | refine AWp.block ?_ | apply AWp.condT; focus simp [*]; done | apply AWp.condF; focus simp [*]; done | refine AWp.regT (by kernel_rfl) (by kernel_rfl) rfl rfl ?_)
  (refine ⟨_, (by simp [*]; rfl), ?_⟩; (try simp only [packA]))
  all_goals simp [isC]
def nullS : Bs := [110, 117, 108, 108]
def fitsT (cds : List Cd) (a b : Bs) : Bool := if a = b then true else if a = nullS then decide (b ≠ intS) else isC cds a && isC cds b && subB cds a b
theorem fitsT_ok (cds : List Cd) (hl : cds.length ≤ 1000) (a b : Bs) : FCall Tryz.prog cxG 193 [.agg [.lst (cds.map cvCd)], .str a, .str b] fun r => r = .ret (.bool (fitsT cds a b)) := by
  obtain ⟨w, hw⟩ : ∃ w, w = fitsT cds a b := ⟨_, rfl⟩
  rw [← hw]
  unfold fitsT at hw
  refine FCall.ofBody Tryz.func193 rfl rfl fun nx => ?_
  by_cases h1 : a = b
  · simp only [h1, if_true] at hw
    repeat (first | (first | (apply AOpl.step; rfl) | apply ASl.step); focus simp [*, -Option.some.injEq]; rfl | (first | (apply AOpl.stepG; rfl) | apply ASl.stepG); (focus simp [*]; done); focus simp [*, -Option.some.injEq]; rfl | (first | (apply AOpl.pass; rfl) | apply ASl.pass); (focus simp [*]; done) | (first | refine AOpl.nil ?_ | refine AWp.skip ?_ | refine AWp.exit ?_ | refine AWp.ret ?_ | refine ASl.nil ?_); try simp only [Then, InBlock, reduceIte, Nat.reduceEqDiff] | refine AWp.seq ?_ | refine AWp.reg rfl ?_ | refine AWp.block ?_ | apply AWp.condT; focus simp [*]; done | apply AWp.condF; focus simp [*]; done | refine AWp.regT (by kernel_rfl) (by kernel_rfl) rfl rfl ?_)
    (refine ⟨_, (by simp [*]; rfl), ?_⟩; (try simp only [packA]))
    all_goals rw [hw]
  simp only [h1, if_false] at hw
  by_cases h2 : a = [110, 117, 108, 108]
  · simp only [h2, nullS, if_true, intS] at hw
    have h1' : ¬ [110, 117, 108, 108] = b := by rw [← h2]; exact h1
    clear h1
    repeat (first | (first | (apply AOpl.step; rfl) | apply ASl.step); focus simp [*, -Option.some.injEq]; rfl | (first | (apply AOpl.stepG; rfl) | apply ASl.stepG); (focus simp [*]; done); focus simp [*, -Option.some.injEq]; rfl | (first | (apply AOpl.pass; rfl) | apply ASl.pass); (focus simp [*]; done) | (first | refine AOpl.nil ?_ | refine AWp.skip ?_ | refine AWp.exit ?_ | refine AWp.ret ?_ | refine ASl.nil ?_); try simp only [Then, InBlock, reduceIte, Nat.reduceEqDiff] | refine AWp.seq ?_ | refine AWp.reg rfl ?_ | refine AWp.block ?_ | apply AWp.condT; focus simp [*]; done | apply AWp.condF; focus simp [*]; done | refine AWp.regT (by kernel_rfl) (by kernel_rfl) rfl rfl ?_)
    (refine ⟨_, (by simp [*]; rfl), ?_⟩; (try simp only [packA]))
    all_goals (rw [hw]; by_cases h3 : b = [105, 110, 116] <;> simp [h3])
  simp only [h2, nullS, if_false] at hw
  repeat (first | (first | (apply AOpl.step; rfl) | apply ASl.step); focus simp [*, -Option.some.injEq]; rfl | (first | (apply AOpl.stepG; rfl) | apply ASl.stepG); (focus simp [*]; done); focus simp [*, -Option.some.injEq]; rfl | (first | (apply AOpl.pass; rfl) | apply ASl.pass); (focus simp [*]; done) | (first | refine AOpl.nil ?_ | refine AWp.skip ?_ | refine AWp.exit ?_ | refine AWp.ret ?_ | refine ASl.nil ?_); try simp only [Then, InBlock, reduceIte, Nat.reduceEqDiff] | refine AWp.seq ?_ | refine AWp.reg rfl ?_ | refine AWp.block ?_ | apply AWp.condT; focus simp [*]; done | apply AWp.condF; focus simp [*]; done | refine AWp.regT (by kernel_rfl) (by kernel_rfl) rfl rfl ?_)
  (first | (first | (apply AOpl.callN; rfl) | apply ASl.call); (focus simp [*, -Option.some.injEq]; rfl); kernel_rfl | (first | (apply AOpl.callNG; rfl) | apply ASl.callg); (focus simp [*]; done); (focus simp [*, -Option.some.injEq]; rfl); kernel_rfl)
  · exact isClass_ok cds hl a
  intro nx2 hn2
  cases h3 : isC cds a
  · simp only [h3, Bool.false_and] at hw
    repeat (first | (first | (apply AOpl.step; rfl) | apply ASl.step); focus simp [*, -Option.some.injEq]; rfl | (first | (apply AOpl.stepG; rfl) | apply ASl.stepG); (focus simp [*]; done); focus simp [*, -Option.some.injEq]; rfl | (first | (apply AOpl.pass; rfl) | apply ASl.pass); (focus simp [*]; done) | (first | refine AOpl.nil ?_ | refine AWp.skip ?_ | refine AWp.exit ?_ | refine AWp.ret ?_ | refine ASl.nil ?_); try simp only [Then, InBlock, reduceIte, Nat.reduceEqDiff] | refine AWp.seq ?_ | refine AWp.reg rfl ?_ | refine AWp.block ?_ | apply AWp.condT; focus simp [*]; done | apply AWp.condF; focus simp [*]; done | refine AWp.regT (by kernel_rfl) (by kernel_rfl) rfl rfl ?_)
    (refine ⟨_, (by simp [*]; rfl), ?_⟩; (try simp only [packA]))
    all_goals rw [hw]
  simp only [h3, Bool.true_and] at hw
  repeat (first | (first | (apply AOpl.step; rfl) | apply ASl.step); focus simp [*, -Option.some.injEq]; rfl | (first | (apply AOpl.stepG; rfl) | apply ASl.stepG); (focus simp [*]; done); focus simp [*, -Option.some.injEq]; rfl | (first | (apply AOpl.pass; rfl) | apply ASl.pass); (focus simp [*]; done) | (first | refine AOpl.nil ?_ | refine AWp.skip ?_ | refine AWp.exit ?_ | refine AWp.ret ?_ | refine ASl.nil ?_); try simp only [Then, InBlock, reduceIte, Nat.reduceEqDiff] | refine AWp.seq ?_ | refine AWp.reg rfl ?_ | refine AWp.block ?_ | apply AWp.condT; focus simp [*]; done | apply AWp.condF; focus simp [*]; done | refine AWp.regT (by kernel_rfl) (by kernel_rfl) rfl rfl ?_)
  (first | (first | (apply AOpl.callN; rfl) | apply ASl.call); (focus simp [*, -Option.some.injEq]; rfl); kernel_rfl | (first | (apply AOpl.callNG; rfl) | apply ASl.callg); (focus simp [*]; done); (focus simp [*, -Option.some.injEq]; rfl); kernel_rfl)
  · exact isClass_ok cds hl b
  intro nx3 hn3
  cases h4 : isC cds b
  · simp only [h4, Bool.false_and] at hw
    repeat (first | (first | (apply AOpl.step; rfl) | apply ASl.step); focus simp [*, -Option.some.injEq]; rfl | (first | (apply AOpl.stepG; rfl) | apply ASl.stepG); (focus simp [*]; done); focus simp [*, -Option.some.injEq]; rfl | (first | (apply AOpl.pass; rfl) | apply ASl.pass); (focus simp [*]; done) | (first | refine AOpl.nil ?_ | refine AWp.skip ?_ | refine AWp.exit ?_ | refine AWp.ret ?_ | refine ASl.nil ?_); try simp only [Then, InBlock, reduceIte, Nat.reduceEqDiff] | refine AWp.seq ?_ | refine AWp.reg rfl ?_ | refine AWp.block ?_ | apply AWp.condT; focus simp [*]; done | apply AWp.condF; focus simp [*]; done | refine AWp.regT (by kernel_rfl) (by kernel_rfl) rfl rfl ?_)
    (refine ⟨_, (by simp [*]; rfl), ?_⟩; (try simp only [packA]))
    all_goals rw [hw]
  simp only [h4, Bool.true_and] at hw
  repeat (first | (first | (apply AOpl.step; rfl) | apply ASl.step); focus simp [*, -Option.some.injEq]; rfl | (first | (apply AOpl.stepG; rfl) | apply ASl.stepG); (focus simp [*]; done); focus simp [*, -Option.some.injEq]; rfl | (first | (apply AOpl.pass; rfl) | apply ASl.pass); (focus simp [*]; done) | (first | refine AOpl.nil ?_ | refine AWp.skip ?_ | refine AWp.exit ?_ | refine AWp.ret ?_ | refine ASl.nil ?_); try simp only [Then, InBlock, reduceIte, Nat.reduceEqDiff] | refine AWp.seq ?_ | refine AWp.reg rfl ?_ | refine AWp.block ?_ | apply AWp.condT; focus simp [*]; done | apply AWp.condF; focus simp [*]; done | refine AWp.regT (by kernel_rfl) (by kernel_rfl) rfl rfl ?_)
  (first | (first | (apply AOpl.callN; rfl) | apply ASl.call); (focus simp [*, -Option.some.injEq]; rfl); kernel_rfl | (first | (apply AOpl.callNG; rfl) | apply ASl.callg); (focus simp [*]; done); (focus simp [*, -Option.some.injEq]; rfl); kernel_rfl)
  · exact isSub_ok cds hl a b
  intro nx4 hn4
  repeat (first | (first | (apply AOpl.step; rfl) | apply ASl.step); focus simp [*, -Option.some.injEq]; rfl | (first | (apply AOpl.stepG; rfl) | apply ASl.stepG); (focus simp [*]; done); focus simp [*, -Option.some.injEq]; rfl | (first | (apply AOpl.pass; rfl) | apply ASl.pass); (focus simp [*]; done) | (first | refine AOpl.nil ?_ | refine AWp.skip ?_ | refine AWp.exit ?_ | refine AWp.ret ?_ | refine ASl.nil ?_); try simp only [Then, InBlock, reduceIte, Nat.reduceEqDiff] | refine AWp.seq ?_ | refine AWp.reg rfl ?_ | refine AWp.block ?_ | apply AWp.condT; focus simp [*]; done | apply AWp.condF; focus simp [*]; done | refine AWp.regT (by kernel_rfl) (by kernel_rfl) rfl rfl ?_)
  (refine ⟨_, (by simp [*]; rfl), ?_⟩; (try simp only [packA]))
  all_goals rw [hw]
theorem fitsT_one (cds : List Cd) (hl : cds.length ≤ 1000) (a b : Bs) : FCall1 Tryz.prog cxG 193 [.agg [.lst (cds.map cvCd)], .str a, .str b] (.bool (fitsT cds a b)) := (fitsT_ok cds hl a b).one cxG_pu (by simp [puL, puV, puR_mapR puL_Cd]) rfl
end Go.Proofs.YtdjllogimomgmaaGreatDoor
namespace Go.Proofs.YtdjllogimomgmaaGreatDoor
open Ax Tx Go.RowKit
attribute [local simp] stepS Ax.stepT Dl.on qstep astep estep rd putE over argE ofV ofS loadA pickCells isAggD faddA fieldA partA iaddA idxA sliA bnd binA intA strA unA convA bltA lenA mapOf lookA findK keyD scalD storeA mupA appA srcA srcD upd drp Dl.hp Dl.nx CV.cs CV.one buildA placesA fillA zrep tasA ifaceD eqA eqFs eqIs range2 copyA nbeq nble nblt decEq beqI bneI beqS bneS isED Int.ofNat_inj List.getElem?_map List.getElem?_eq_getElem Option.map_some ti_int ti_bool ti_str ti_i64 ti_Strs ti_Hi ti_Cds ti_Cd ti_Flds ti_Fld ti_Sgs ti_Sg ti_Ins ti_Inss ti_Ints ti_Fu gd gdB callA resA op1
theorem puL_Ins (x : Ins) : puL (cvIns x) = true := by simp [cvIns, puL, puV, puR_mapR (fun a : Int => (rfl : puL (cvI a) = true))]
theorem puL_Fu (x : Fu) : puL (cvFu x) = true := by simp [cvFu, puL, puV, puR_mapR puL_Fld, puR_mapR puL_Ins]
def unusedB (x : Ins) : Bool := (hasB x.op 100 || decide (x.dst = 0)) && (hasB x.op 97 || decide (x.a = 0)) && (hasB x.op 98 || decide (x.b = 0)) && (hasB x.op 110 || decide (x.n = 0)) && (hasB x.op 99 || decide (x.cls = [])) && (hasB x.op 109 || decide (x.name = [])) && (hasB x.op 108 || decide (x.args.length = 0)) && (hasB x.op 103 || decide (x.goto = 0))
set_option maxRecDepth 10000 in
set_option maxHeartbeats 4000000 in
theorem unused_ok (x : Ins) (ho : opIn x.op = true) : FCall Tryz.prog cxG 165 [.agg (cvIns x)] fun r => r = .ret (.bool (unusedB x)) := by
  have hh : ∀ c, letL.contains c = true → FCall Tryz.prog cxG 68 [.int .i64 x.op, .int .u8 c.toNat] fun r => r = .ret (.bool (hasB x.op c)) := fun c hc => (has_ok x.op ho c (letA hc)).f
  refine FCall.ofBody Tryz.func165 rfl rfl fun nx => ?_
  repeat (first | (first | (apply AOpl.step; rfl) | apply ASl.step); focus simp [cvIns, *, -Option.some.injEq]; rfl | (first | (apply AOpl.stepG; rfl) | apply ASl.stepG); (focus simp [cvIns, *]; done); focus simp [cvIns, *, -Option.some.injEq]; rfl | (first | (apply AOpl.pass; rfl) | apply ASl.pass); (focus simp [cvIns, *]; done) | (first | refine AOpl.nil ?_ | refine AWp.skip ?_ | refine AWp.exit ?_ | refine AWp.ret ?_ | refine ASl.nil ?_); try simp only [Then, InBlock, reduceIte, Nat.reduceEqDiff] | refine AWp.seq ?_ | refine AWp.reg rfl ?_ | refine AWp.block ?_ | apply AWp.condT; focus simp [cvIns, *]; done | apply AWp.condF; focus simp [cvIns, *]; done | refine AWp.regT (by kernel_rfl) (by kernel_rfl) rfl rfl ?_)
  (first | (first | (apply AOpl.callN; rfl) | apply ASl.call); (focus simp [*, -Option.some.injEq]; rfl); kernel_rfl | (first | (apply AOpl.callNG; rfl) | apply ASl.callg); (focus simp [*]; done); (focus simp [*, -Option.some.injEq]; rfl); kernel_rfl)
  · exact hh 100 rfl
  intro nx1 hn1
  repeat (first | (first | (apply AOpl.step; rfl) | apply ASl.step); focus simp [*, -Option.some.injEq]; rfl | (first | (apply AOpl.stepG; rfl) | apply ASl.stepG); (focus simp [*]; done); focus simp [*, -Option.some.injEq]; rfl | (first | (apply AOpl.pass; rfl) | apply ASl.pass); (focus simp [*]; done) | (first | refine AOpl.nil ?_ | refine AWp.skip ?_ | refine AWp.exit ?_ | refine AWp.ret ?_ | refine ASl.nil ?_); try simp only [Then, InBlock, reduceIte, Nat.reduceEqDiff] | refine AWp.seq ?_ | refine AWp.reg rfl ?_ | refine AWp.block ?_ | apply AWp.condT; focus simp [*]; done | apply AWp.condF; focus simp [*]; done | refine AWp.regT (by kernel_rfl) (by kernel_rfl) rfl rfl ?_ | (first | (apply AOpl.pickOr; rfl) | (apply AOpl.pickAnd; rfl)); (focus (simp [*, -Ax.CV.bool.injEq]; rfl)); (focus (intro hq; (try simp only [Bool.not_eq_true', Bool.not_eq_false', decide_eq_true_eq, decide_eq_false_iff_not, Bool.and_eq_true, Bool.or_eq_false_iff] at hq); simp [*, -Ax.CV.bool.injEq]; rfl)) | (first | (apply AOpl.pickOrC; rfl) | (apply AOpl.pickAndC; rfl)); (focus (simp [*, -Ax.CV.bool.injEq, -Option.some.injEq]; rfl)); (focus (intro hq; (try simp only [Bool.not_eq_true', Bool.not_eq_false', decide_eq_true_eq, decide_eq_false_iff_not, Bool.and_eq_true, Bool.or_eq_false_iff] at hq); simp [*, -Ax.CV.bool.injEq]; rfl)); (focus (intro hp hq; (try simp only [Bool.not_eq_true', Bool.not_eq_false', decide_eq_true_eq, decide_eq_false_iff_not, Bool.and_eq_true, Bool.or_eq_false_iff] at hp hq); simp [*, -Ax.CV.bool.injEq]; rfl)) | (apply AOpl.passC; rfl); focus simp [*, -Ax.CV.bool.injEq]; done | (apply AOpl.lookC; rfl); (focus (simp [*, -Ax.CV.bool.injEq, -Option.some.injEq]; rfl)); focus intro _; simp [*, -Option.some.injEq]; rfl)
  ((apply AOpl.callC); (focus rfl); (focus (simp [*, -Ax.CV.bool.injEq, -Option.some.injEq]; rfl)); (focus (intro _; simp [*, -Option.some.injEq]; rfl)); (focus (kernel_rfl)))
  · intro _; exact hh 97 rfl
  intro nx2 hn2
  repeat (first | (first | (apply AOpl.step; rfl) | apply ASl.step); focus simp [*, -Option.some.injEq]; rfl | (first | (apply AOpl.stepG; rfl) | apply ASl.stepG); (focus simp [*]; done); focus simp [*, -Option.some.injEq]; rfl | (first | (apply AOpl.pass; rfl) | apply ASl.pass); (focus simp [*]; done) | (first | refine AOpl.nil ?_ | refine AWp.skip ?_ | refine AWp.exit ?_ | refine AWp.ret ?_ | refine ASl.nil ?_); try simp only [Then, InBlock, reduceIte, Nat.reduceEqDiff] | refine AWp.seq ?_ | refine AWp.reg rfl ?_ | refine AWp.block ?_ | apply AWp.condT; focus simp [*]; done | apply AWp.condF; focus simp [*]; done | refine AWp.regT (by kernel_rfl) (by kernel_rfl) rfl rfl ?_ | (first | (apply AOpl.pickOr; rfl) | (apply AOpl.pickAnd; rfl)); (focus (simp [*, -Ax.CV.bool.injEq]; rfl)); (focus (intro hq; (try simp only [Bool.not_eq_true', Bool.not_eq_false', decide_eq_true_eq, decide_eq_false_iff_not, Bool.and_eq_true, Bool.or_eq_false_iff] at hq); simp [*, -Ax.CV.bool.injEq]; rfl)) | (first | (apply AOpl.pickOrC; rfl) | (apply AOpl.pickAndC; rfl)); (focus (simp [*, -Ax.CV.bool.injEq, -Option.some.injEq]; rfl)); (focus (intro hq; (try simp only [Bool.not_eq_true', Bool.not_eq_false', decide_eq_true_eq, decide_eq_false_iff_not, Bool.and_eq_true, Bool.or_eq_false_iff] at hq); simp [*, -Ax.CV.bool.injEq]; rfl)); (focus (intro hp hq; (try simp only [Bool.not_eq_true', Bool.not_eq_false', decide_eq_true_eq, decide_eq_false_iff_not, Bool.and_eq_true, Bool.or_eq_false_iff] at hp hq); simp [*, -Ax.CV.bool.injEq]; rfl)) | (apply AOpl.passC; rfl); focus simp [*, -Ax.CV.bool.injEq]; done | (apply AOpl.lookC; rfl); (focus (simp [*, -Ax.CV.bool.injEq, -Option.some.injEq]; rfl)); focus intro _; simp [*, -Option.some.injEq]; rfl)
  ((apply AOpl.callC); (focus rfl); (focus (simp [*, -Ax.CV.bool.injEq, -Option.some.injEq]; rfl)); (focus (intro _; simp [*, -Option.some.injEq]; rfl)); (focus (kernel_rfl)))
  · intro _; exact hh 98 rfl
  intro nx3 hn3
  repeat (first | (first | (apply AOpl.step; rfl) | apply ASl.step); focus simp [*, -Option.some.injEq]; rfl | (first | (apply AOpl.stepG; rfl) | apply ASl.stepG); (focus simp [*]; done); focus simp [*, -Option.some.injEq]; rfl | (first | (apply AOpl.pass; rfl) | apply ASl.pass); (focus simp [*]; done) | (first | refine AOpl.nil ?_ | refine AWp.skip ?_ | refine AWp.exit ?_ | refine AWp.ret ?_ | refine ASl.nil ?_); try simp only [Then, InBlock, reduceIte, Nat.reduceEqDiff] | refine AWp.seq ?_ | refine AWp.reg rfl ?_ | refine AWp.block ?_ | apply AWp.condT; focus simp [*]; done | apply AWp.condF; focus simp [*]; done | refine AWp.regT (by kernel_rfl) (by kernel_rfl) rfl rfl ?_ | (first | (apply AOpl.pickOr; rfl) | (apply AOpl.pickAnd; rfl)); (focus (simp [*, -Ax.CV.bool.injEq]; rfl)); (focus (intro hq; (try simp only [Bool.not_eq_true', Bool.not_eq_false', decide_eq_true_eq, decide_eq_false_iff_not, Bool.and_eq_true, Bool.or_eq_false_iff] at hq); simp [*, -Ax.CV.bool.injEq]; rfl)) | (first | (apply AOpl.pickOrC; rfl) | (apply AOpl.pickAndC; rfl)); (focus (simp [*, -Ax.CV.bool.injEq, -Option.some.injEq]; rfl)); (focus (intro hq; (try simp only [Bool.not_eq_true', Bool.not_eq_false', decide_eq_true_eq, decide_eq_false_iff_not, Bool.and_eq_true, Bool.or_eq_false_iff] at hq); simp [*, -Ax.CV.bool.injEq]; rfl)); (focus (intro hp hq; (try simp only [Bool.not_eq_true', Bool.not_eq_false', decide_eq_true_eq, decide_eq_false_iff_not, Bool.and_eq_true, Bool.or_eq_false_iff] at hp hq); simp [*, -Ax.CV.bool.injEq]; rfl)) | (apply AOpl.passC; rfl); focus simp [*, -Ax.CV.bool.injEq]; done | (apply AOpl.lookC; rfl); (focus (simp [*, -Ax.CV.bool.injEq, -Option.some.injEq]; rfl)); focus intro _; simp [*, -Option.some.injEq]; rfl)
  ((apply AOpl.callC); (focus rfl); (focus (simp [*, -Ax.CV.bool.injEq, -Option.some.injEq]; rfl)); (focus (intro _; simp [*, -Option.some.injEq]; rfl)); (focus (kernel_rfl)))
  · intro _; exact hh 110 rfl
  intro nx4 hn4
  repeat (first | (first | (apply AOpl.step; rfl) | apply ASl.step); focus simp [*, -Option.some.injEq]; rfl | (first | (apply AOpl.stepG; rfl) | apply ASl.stepG); (focus simp [*]; done); focus simp [*, -Option.some.injEq]; rfl | (first | (apply AOpl.pass; rfl) | apply ASl.pass); (focus simp [*]; done) | (first | refine AOpl.nil ?_ | refine AWp.skip ?_ | refine AWp.exit ?_ | refine AWp.ret ?_ | refine ASl.nil ?_); try simp only [Then, InBlock, reduceIte, Nat.reduceEqDiff] | refine AWp.seq ?_ | refine AWp.reg rfl ?_ | refine AWp.block ?_ | apply AWp.condT; focus simp [*]; done | apply AWp.condF; focus simp [*]; done | refine AWp.regT (by kernel_rfl) (by kernel_rfl) rfl rfl ?_ | (first | (apply AOpl.pickOr; rfl) | (apply AOpl.pickAnd; rfl)); (focus (simp [*, -Ax.CV.bool.injEq]; rfl)); (focus (intro hq; (try simp only [Bool.not_eq_true', Bool.not_eq_false', decide_eq_true_eq, decide_eq_false_iff_not, Bool.and_eq_true, Bool.or_eq_false_iff] at hq); simp [*, -Ax.CV.bool.injEq]; rfl)) | (first | (apply AOpl.pickOrC; rfl) | (apply AOpl.pickAndC; rfl)); (focus (simp [*, -Ax.CV.bool.injEq, -Option.some.injEq]; rfl)); (focus (intro hq; (try simp only [Bool.not_eq_true', Bool.not_eq_false', decide_eq_true_eq, decide_eq_false_iff_not, Bool.and_eq_true, Bool.or_eq_false_iff] at hq); simp [*, -Ax.CV.bool.injEq]; rfl)); (focus (intro hp hq; (try simp only [Bool.not_eq_true', Bool.not_eq_false', decide_eq_true_eq, decide_eq_false_iff_not, Bool.and_eq_true, Bool.or_eq_false_iff] at hp hq); simp [*, -Ax.CV.bool.injEq]; rfl)) | (apply AOpl.passC; rfl); focus simp [*, -Ax.CV.bool.injEq]; done | (apply AOpl.lookC; rfl); (focus (simp [*, -Ax.CV.bool.injEq, -Option.some.injEq]; rfl)); focus intro _; simp [*, -Option.some.injEq]; rfl)
  ((apply AOpl.callC); (focus rfl); (focus (simp [*, -Ax.CV.bool.injEq, -Option.some.injEq]; rfl)); (focus (intro _; simp [*, -Option.some.injEq]; rfl)); (focus (kernel_rfl)))
  · intro _; exact hh 99 rfl
  intro nx5 hn5
  repeat (first | (first | (apply AOpl.step; rfl) | apply ASl.step); focus simp [*, -Option.some.injEq]; rfl | (first | (apply AOpl.stepG; rfl) | apply ASl.stepG); (focus simp [*]; done); focus simp [*, -Option.some.injEq]; rfl | (first | (apply AOpl.pass; rfl) | apply ASl.pass); (focus simp [*]; done) | (first | refine AOpl.nil ?_ | refine AWp.skip ?_ | refine AWp.exit ?_ | refine AWp.ret ?_ | refine ASl.nil ?_); try simp only [Then, InBlock, reduceIte, Nat.reduceEqDiff] | refine AWp.seq ?_ | refine AWp.reg rfl ?_ | refine AWp.block ?_ | apply AWp.condT; focus simp [*]; done | apply AWp.condF; focus simp [*]; done | refine AWp.regT (by kernel_rfl) (by kernel_rfl) rfl rfl ?_ | (first | (apply AOpl.pickOr; rfl) | (apply AOpl.pickAnd; rfl)); (focus (simp [*, -Ax.CV.bool.injEq]; rfl)); (focus (intro hq; (try simp only [Bool.not_eq_true', Bool.not_eq_false', decide_eq_true_eq, decide_eq_false_iff_not, Bool.and_eq_true, Bool.or_eq_false_iff] at hq); simp [*, -Ax.CV.bool.injEq]; rfl)) | (first | (apply AOpl.pickOrC; rfl) | (apply AOpl.pickAndC; rfl)); (focus (simp [*, -Ax.CV.bool.injEq, -Option.some.injEq]; rfl)); (focus (intro hq; (try simp only [Bool.not_eq_true', Bool.not_eq_false', decide_eq_true_eq, decide_eq_false_iff_not, Bool.and_eq_true, Bool.or_eq_false_iff] at hq); simp [*, -Ax.CV.bool.injEq]; rfl)); (focus (intro hp hq; (try simp only [Bool.not_eq_true', Bool.not_eq_false', decide_eq_true_eq, decide_eq_false_iff_not, Bool.and_eq_true, Bool.or_eq_false_iff] at hp hq); simp [*, -Ax.CV.bool.injEq]; rfl)) | (apply AOpl.passC; rfl); focus simp [*, -Ax.CV.bool.injEq]; done | (apply AOpl.lookC; rfl); (focus (simp [*, -Ax.CV.bool.injEq, -Option.some.injEq]; rfl)); focus intro _; simp [*, -Option.some.injEq]; rfl)
  ((apply AOpl.callC); (focus rfl); (focus (simp [*, -Ax.CV.bool.injEq, -Option.some.injEq]; rfl)); (focus (intro _; simp [*, -Option.some.injEq]; rfl)); (focus (kernel_rfl)))
  · intro _; exact hh 109 rfl
  intro nx6 hn6
  repeat (first | (first | (apply AOpl.step; rfl) | apply ASl.step); focus simp [*, -Option.some.injEq]; rfl | (first | (apply AOpl.stepG; rfl) | apply ASl.stepG); (focus simp [*]; done); focus simp [*, -Option.some.injEq]; rfl | (first | (apply AOpl.pass; rfl) | apply ASl.pass); (focus simp [*]; done) | (first | refine AOpl.nil ?_ | refine AWp.skip ?_ | refine AWp.exit ?_ | refine AWp.ret ?_ | refine ASl.nil ?_); try simp only [Then, InBlock, reduceIte, Nat.reduceEqDiff] | refine AWp.seq ?_ | refine AWp.reg rfl ?_ | refine AWp.block ?_ | apply AWp.condT; focus simp [*]; done | apply AWp.condF; focus simp [*]; done | refine AWp.regT (by kernel_rfl) (by kernel_rfl) rfl rfl ?_ | (first | (apply AOpl.pickOr; rfl) | (apply AOpl.pickAnd; rfl)); (focus (simp [*, -Ax.CV.bool.injEq]; rfl)); (focus (intro hq; (try simp only [Bool.not_eq_true', Bool.not_eq_false', decide_eq_true_eq, decide_eq_false_iff_not, Bool.and_eq_true, Bool.or_eq_false_iff] at hq); simp [*, -Ax.CV.bool.injEq]; rfl)) | (first | (apply AOpl.pickOrC; rfl) | (apply AOpl.pickAndC; rfl)); (focus (simp [*, -Ax.CV.bool.injEq, -Option.some.injEq]; rfl)); (focus (intro hq; (try simp only [Bool.not_eq_true', Bool.not_eq_false', decide_eq_true_eq, decide_eq_false_iff_not, Bool.and_eq_true, Bool.or_eq_false_iff] at hq); simp [*, -Ax.CV.bool.injEq]; rfl)); (focus (intro hp hq; (try simp only [Bool.not_eq_true', Bool.not_eq_false', decide_eq_true_eq, decide_eq_false_iff_not, Bool.and_eq_true, Bool.or_eq_false_iff] at hp hq); simp [*, -Ax.CV.bool.injEq]; rfl)) | (apply AOpl.passC; rfl); focus simp [*, -Ax.CV.bool.injEq]; done | (apply AOpl.lookC; rfl); (focus (simp [*, -Ax.CV.bool.injEq, -Option.some.injEq]; rfl)); focus intro _; simp [*, -Option.some.injEq]; rfl)
  ((apply AOpl.callC); (focus rfl); (focus (simp [*, -Ax.CV.bool.injEq, -Option.some.injEq]; rfl)); (focus (intro _; simp [*, -Option.some.injEq]; rfl)); (focus (kernel_rfl)))
  · intro _; exact hh 108 rfl
  intro nx7 hn7
  repeat (first | (first | (apply AOpl.step; rfl) | apply ASl.step); focus simp [*, -Option.some.injEq]; rfl | (first | (apply AOpl.stepG; rfl) | apply ASl.stepG); (focus simp [*]; done); focus simp [*, -Option.some.injEq]; rfl | (first | (apply AOpl.pass; rfl) | apply ASl.pass); (focus simp [*]; done) | (first | refine AOpl.nil ?_ | refine AWp.skip ?_ | refine AWp.exit ?_ | refine AWp.ret ?_ | refine ASl.nil ?_); try simp only [Then, InBlock, reduceIte, Nat.reduceEqDiff] | refine AWp.seq ?_ | refine AWp.reg rfl ?_ | refine AWp.block ?_ | apply AWp.condT; focus simp [*]; done | apply AWp.condF; focus simp [*]; done | refine AWp.regT (by kernel_rfl) (by kernel_rfl) rfl rfl ?_ | (first | (apply AOpl.pickOr; rfl) | (apply AOpl.pickAnd; rfl)); (focus (simp [*, -Ax.CV.bool.injEq]; rfl)); (focus (intro hq; (try simp only [Bool.not_eq_true', Bool.not_eq_false', decide_eq_true_eq, decide_eq_false_iff_not, Bool.and_eq_true, Bool.or_eq_false_iff] at hq); simp [*, -Ax.CV.bool.injEq]; rfl)) | (first | (apply AOpl.pickOrC; rfl) | (apply AOpl.pickAndC; rfl)); (focus (simp [*, -Ax.CV.bool.injEq, -Option.some.injEq]; rfl)); (focus (intro hq; (try simp only [Bool.not_eq_true', Bool.not_eq_false', decide_eq_true_eq, decide_eq_false_iff_not, Bool.and_eq_true, Bool.or_eq_false_iff] at hq); simp [*, -Ax.CV.bool.injEq]; rfl)); (focus (intro hp hq; (try simp only [Bool.not_eq_true', Bool.not_eq_false', decide_eq_true_eq, decide_eq_false_iff_not, Bool.and_eq_true, Bool.or_eq_false_iff] at hp hq); simp [*, -Ax.CV.bool.injEq]; rfl)) | (apply AOpl.passC; rfl); focus simp [*, -Ax.CV.bool.injEq]; done | (apply AOpl.lookC; rfl); (focus (simp [*, -Ax.CV.bool.injEq, -Option.some.injEq]; rfl)); focus intro _; simp [*, -Option.some.injEq]; rfl)
  ((apply AOpl.callC); (focus rfl); (focus (simp [*, -Ax.CV.bool.injEq, -Option.some.injEq]; rfl)); (focus (intro _; simp [*, -Option.some.injEq]; rfl)); (focus (kernel_rfl)))
  · intro _; exact hh 103 rfl
  intro nx8 hn8
  repeat (first | (first | (apply AOpl.step; rfl) | apply ASl.step); focus simp [*, -Option.some.injEq]; rfl | (first | (apply AOpl.stepG; rfl) | apply ASl.stepG); (focus simp [*]; done); focus simp [*, -Option.some.injEq]; rfl | (first | (apply AOpl.pass; rfl) | apply ASl.pass); (focus simp [*]; done) | (first | refine AOpl.nil ?_ | refine AWp.skip ?_ | refine AWp.exit ?_ | refine AWp.ret ?_ | refine ASl.nil ?_); try simp only [Then, InBlock, reduceIte, Nat.reduceEqDiff] | refine AWp.seq ?_ | refine AWp.reg rfl ?_ | refine AWp.block ?_ | apply AWp.condT; focus simp [*]; done | apply AWp.condF; focus simp [*]; done | refine AWp.regT (by kernel_rfl) (by kernel_rfl) rfl rfl ?_ | (first | (apply AOpl.pickOr; rfl) | (apply AOpl.pickAnd; rfl)); (focus (simp [*, -Ax.CV.bool.injEq]; rfl)); (focus (intro hq; (try simp only [Bool.not_eq_true', Bool.not_eq_false', decide_eq_true_eq, decide_eq_false_iff_not, Bool.and_eq_true, Bool.or_eq_false_iff] at hq); simp [*, -Ax.CV.bool.injEq]; rfl)) | (first | (apply AOpl.pickOrC; rfl) | (apply AOpl.pickAndC; rfl)); (focus (simp [*, -Ax.CV.bool.injEq, -Option.some.injEq]; rfl)); (focus (intro hq; (try simp only [Bool.not_eq_true', Bool.not_eq_false', decide_eq_true_eq, decide_eq_false_iff_not, Bool.and_eq_true, Bool.or_eq_false_iff] at hq); simp [*, -Ax.CV.bool.injEq]; rfl)); (focus (intro hp hq; (try simp only [Bool.not_eq_true', Bool.not_eq_false', decide_eq_true_eq, decide_eq_false_iff_not, Bool.and_eq_true, Bool.or_eq_false_iff] at hp hq); simp [*, -Ax.CV.bool.injEq]; rfl)) | (apply AOpl.passC; rfl); focus simp [*, -Ax.CV.bool.injEq]; done | (apply AOpl.lookC; rfl); (focus (simp [*, -Ax.CV.bool.injEq, -Option.some.injEq]; rfl)); focus intro _; simp [*, -Option.some.injEq]; rfl)
  (refine ⟨_, (by simp [*]; rfl), ?_⟩; (try simp only [packA]))
  all_goals simp [unusedB]
def usesL (x : Ins) : List Int := (if hasB x.op 97 = true ∧ ¬ (x.op = 13 ∧ x.a = -1) then [x.a] else []) ++ (if hasB x.op 98 = true then [x.b] else []) ++ (if hasB x.op 108 = true then x.args else [])
theorem cvI_len (a : Int) : (cvI a).length = 1 := rfl
theorem cvI_one (a : Int) : (cvI a).all CV.one = true := rfl
theorem OwnL.of1 {H : Heap} {nx b : Nat} {a : Int} (h : H b = some (.cells [.int .i64 a])) (hb : b < nx) : OwnL cvI 1 H nx (.sl b 0 1 1) [a] := .inr ⟨b, rfl, h, hb⟩
theorem OwnL.of2 {H : Heap} {nx b : Nat} {a c : Int} (h : H b = some (.cells [.int .i64 a, .int .i64 c])) (hb : b < nx) : OwnL cvI 1 H nx (.sl b 0 2 1) [a, c] := .inr ⟨b, rfl, h, hb⟩
set_option maxRecDepth 10000 in
set_option maxHeartbeats 8000000 in
theorem uses_ok (x : Ins) (ho : opIn x.op = true) (hl : x.args.length ≤ 1000) : FCall Tryz.prog cxG 191 [.agg (cvIns x)] fun r => r = .ret (.lst ((usesL x).map cvI)) := by
  have hh : ∀ c, letL.contains c = true → FCall Tryz.prog cxG 68 [.int .i64 x.op, .int .u8 c.toNat] fun r => r = .ret (.bool (hasB x.op c)) := fun c hc => (has_ok x.op ho c (letA hc)).f
  obtain ⟨L, hL⟩ : ∃ L, L = usesL x := ⟨_, rfl⟩
  rw [← hL]
  unfold usesL at hL
  refine FCall.ofBodyL cvI_len Tryz.func191 rfl rfl fun nx => ?_
  repeat (first | (first | (apply AOpl.step; rfl) | apply ASl.step); focus simp [cvIns, *, -Option.some.injEq]; rfl | (first | (apply AOpl.stepG; rfl) | apply ASl.stepG); (focus simp [cvIns, *]; done); focus simp [cvIns, *, -Option.some.injEq]; rfl | (first | (apply AOpl.pass; rfl) | apply ASl.pass); (focus simp [cvIns, *]; done) | (first | refine AOpl.nil ?_ | refine AWp.skip ?_ | refine AWp.exit ?_ | refine AWp.ret ?_ | refine ASl.nil ?_); try simp only [Then, InBlock, reduceIte, Nat.reduceEqDiff] | refine AWp.seq ?_ | refine AWp.reg rfl ?_ | refine AWp.block ?_ | apply AWp.condT; focus simp [cvIns, *]; done | apply AWp.condF; focus simp [cvIns, *]; done | refine AWp.regT (by kernel_rfl) (by kernel_rfl) rfl rfl ?_)
  (first | (first | (apply AOpl.callN; rfl) | apply ASl.call); (focus simp [*, -Option.some.injEq]; rfl); kernel_rfl | (first | (apply AOpl.callNG; rfl) | apply ASl.callg); (focus simp [*]; done); (focus simp [*, -Option.some.injEq]; rfl); kernel_rfl)
  · exact hh 97 rfl
  intro nx1 hn1
  have q1 : ∀ k, ¬ nx = nx1 + k := fun k => by omega
  have q10 : ¬ nx = nx1 := by omega
  cases ha : hasB x.op 97
  case false =>
    repeat (first | (first | (apply AOpl.step; rfl) | apply ASl.step); focus simp [*, -Option.some.injEq]; rfl | (first | (apply AOpl.stepG; rfl) | apply ASl.stepG); (focus simp [*]; done); focus simp [*, -Option.some.injEq]; rfl | (first | (apply AOpl.pass; rfl) | apply ASl.pass); (focus simp [*]; done) | (first | refine AOpl.nil ?_ | refine AWp.skip ?_ | refine AWp.exit ?_ | refine AWp.ret ?_ | refine ASl.nil ?_); try simp only [Then, InBlock, reduceIte, Nat.reduceEqDiff] | refine AWp.seq ?_ | refine AWp.reg rfl ?_ | refine AWp.block ?_ | apply AWp.condT; focus simp [*]; done | apply AWp.condF; focus simp [*]; done | refine AWp.regT (by kernel_rfl) (by kernel_rfl) rfl rfl ?_)
    (first | (first | (apply AOpl.callN; rfl) | apply ASl.call); (focus simp [*, -Option.some.injEq]; rfl); kernel_rfl | (first | (apply AOpl.callNG; rfl) | apply ASl.callg); (focus simp [*]; done); (focus simp [*, -Option.some.injEq]; rfl); kernel_rfl)
    · exact hh 98 rfl
    intro nx2 hn2
    
    have q2 : ∀ k, ¬ nx = nx2 + k := fun k => by omega
    have q20 : ¬ nx = nx2 := by omega
    cases hb0 : hasB x.op 98
    case false =>
      repeat (first | (first | (apply AOpl.step; rfl) | apply ASl.step); focus simp [*, -Option.some.injEq]; rfl | (first | (apply AOpl.stepG; rfl) | apply ASl.stepG); (focus simp [*]; done); focus simp [*, -Option.some.injEq]; rfl | (first | (apply AOpl.pass; rfl) | apply ASl.pass); (focus simp [*]; done) | (first | refine AOpl.nil ?_ | refine AWp.skip ?_ | refine AWp.exit ?_ | refine AWp.ret ?_ | refine ASl.nil ?_); try simp only [Then, InBlock, reduceIte, Nat.reduceEqDiff] | refine AWp.seq ?_ | refine AWp.reg rfl ?_ | refine AWp.block ?_ | apply AWp.condT; focus simp [*]; done | apply AWp.condF; focus simp [*]; done | refine AWp.regT (by kernel_rfl) (by kernel_rfl) rfl rfl ?_)
      (first | (first | (apply AOpl.callN; rfl) | apply ASl.call); (focus simp [*, -Option.some.injEq]; rfl); kernel_rfl | (first | (apply AOpl.callNG; rfl) | apply ASl.callg); (focus simp [*]; done); (focus simp [*, -Option.some.injEq]; rfl); kernel_rfl)
      · exact hh 108 rfl
      intro nx3 hn3
      have q3 : ∀ k, ¬ nx = nx3 + k := fun k => by omega
      have q30 : ¬ nx = nx3 := by omega
      cases hl0 : hasB x.op 108
      case false =>
        repeat (first | (first | (apply AOpl.step; rfl) | apply ASl.step); focus simp [*, -Option.some.injEq]; rfl | (first | (apply AOpl.stepG; rfl) | apply ASl.stepG); (focus simp [*]; done); focus simp [*, -Option.some.injEq]; rfl | (first | (apply AOpl.pass; rfl) | apply ASl.pass); (focus simp [*]; done) | (first | refine AOpl.nil ?_ | refine AWp.skip ?_ | refine AWp.exit ?_ | refine AWp.ret ?_ | refine ASl.nil ?_); try simp only [Then, InBlock, reduceIte, Nat.reduceEqDiff] | refine AWp.seq ?_ | refine AWp.reg rfl ?_ | refine AWp.block ?_ | apply AWp.condT; focus simp [*]; done | apply AWp.condF; focus simp [*]; done | refine AWp.regT (by kernel_rfl) (by kernel_rfl) rfl rfl ?_)
        (refine ⟨_, (by simp [*]; rfl), ?_⟩; (try simp only [packA]))
        refine ⟨_, rfl, ?_⟩
        rw [hL]
        simp only [ha, hb0, hl0, Bool.false_eq_true, if_true, if_false, false_and, true_and, and_true, and_false, not_true, not_false_eq_true, List.append_nil, List.nil_append, List.cons_append]
        exact Or.inl ⟨rfl, rfl⟩
      case true =>
        repeat (first | (first | (apply AOpl.step; rfl) | apply ASl.step); focus simp [*, -Option.some.injEq]; rfl | (first | (apply AOpl.stepG; rfl) | apply ASl.stepG); (focus simp [*]; done); focus simp [*, -Option.some.injEq]; rfl | (first | (apply AOpl.pass; rfl) | apply ASl.pass); (focus simp [*]; done) | (first | refine AOpl.nil ?_ | refine AWp.skip ?_ | refine AWp.exit ?_ | refine AWp.ret ?_ | refine ASl.nil ?_); try simp only [Then, InBlock, reduceIte, Nat.reduceEqDiff] | refine AWp.seq ?_ | refine AWp.reg rfl ?_ | refine AWp.block ?_ | apply AWp.condT; focus simp [*]; done | apply AWp.condF; focus simp [*]; done | refine AWp.regT (by kernel_rfl) (by kernel_rfl) rfl rfl ?_)
        refine AOpl.appLst (k := 1) (cv := cvI) (l := []) (l2 := x.args) ti_Ints ti_int rfl rfl (by omega) (by simp) cvI_len cvI_one rfl rfl (by first | (simp [rd, putE]; done) | (simp [rd, putE]; rfl)) (by first | (simp [rd, putE]; done) | (simp [rd, putE]; rfl)) (Or.inl ⟨rfl, rfl⟩) (by simp; omega) ?_
        intro c' H' nx' ho' hnn hfr
        repeat (first | (first | (apply AOpl.step; rfl) | apply ASl.step); focus simp [*, -Option.some.injEq]; rfl | (first | (apply AOpl.stepG; rfl) | apply ASl.stepG); (focus simp [*]; done); focus simp [*, -Option.some.injEq]; rfl | (first | (apply AOpl.pass; rfl) | apply ASl.pass); (focus simp [*]; done) | (first | refine AOpl.nil ?_ | refine AWp.skip ?_ | refine AWp.exit ?_ | refine AWp.ret ?_ | refine ASl.nil ?_); try simp only [Then, InBlock, reduceIte, Nat.reduceEqDiff] | refine AWp.seq ?_ | refine AWp.reg rfl ?_ | refine AWp.block ?_ | apply AWp.condT; focus simp [*]; done | apply AWp.condF; focus simp [*]; done | refine AWp.regT (by kernel_rfl) (by kernel_rfl) rfl rfl ?_)
        (refine ⟨_, (by simp [*]; rfl), ?_⟩; (try simp only [packA]))
        refine ⟨_, rfl, ?_⟩
        rw [hL]
        simp only [ha, hb0, hl0, Bool.false_eq_true, if_true, if_false, false_and, true_and, and_true, and_false, not_true, not_false_eq_true, List.append_nil, List.nil_append, List.cons_append]
        exact ho'
    case true =>
      repeat (first | (first | (apply AOpl.step; rfl) | apply ASl.step); focus simp [*, -Option.some.injEq]; rfl | (first | (apply AOpl.stepG; rfl) | apply ASl.stepG); (focus simp [*]; done); focus simp [*, -Option.some.injEq]; rfl | (first | (apply AOpl.pass; rfl) | apply ASl.pass); (focus simp [*]; done) | (first | refine AOpl.nil ?_ | refine AWp.skip ?_ | refine AWp.exit ?_ | refine AWp.ret ?_ | refine ASl.nil ?_); try simp only [Then, InBlock, reduceIte, Nat.reduceEqDiff] | refine AWp.seq ?_ | refine AWp.reg rfl ?_ | refine AWp.block ?_ | apply AWp.condT; focus simp [*]; done | apply AWp.condF; focus simp [*]; done | refine AWp.regT (by kernel_rfl) (by kernel_rfl) rfl rfl ?_)
      (first | (first | (apply AOpl.callN; rfl) | apply ASl.call); (focus simp [*, -Option.some.injEq]; rfl); kernel_rfl | (first | (apply AOpl.callNG; rfl) | apply ASl.callg); (focus simp [*]; done); (focus simp [*, -Option.some.injEq]; rfl); kernel_rfl)
      · exact hh 108 rfl
      intro nx3 hn3
      have q3 : ∀ k, ¬ nx = nx3 + k := fun k => by omega
      have q30 : ¬ nx = nx3 := by omega
      have r3 : ∀ k, ¬ nx2 + 1 = nx3 + k := fun k => by omega
      have r30 : ¬ nx2 + 1 = nx3 := by omega
      cases hl0 : hasB x.op 108
      case false =>
        repeat (first | (first | (apply AOpl.step; rfl) | apply ASl.step); focus simp [*, -Option.some.injEq]; rfl | (first | (apply AOpl.stepG; rfl) | apply ASl.stepG); (focus simp [*]; done); focus simp [*, -Option.some.injEq]; rfl | (first | (apply AOpl.pass; rfl) | apply ASl.pass); (focus simp [*]; done) | (first | refine AOpl.nil ?_ | refine AWp.skip ?_ | refine AWp.exit ?_ | refine AWp.ret ?_ | refine ASl.nil ?_); try simp only [Then, InBlock, reduceIte, Nat.reduceEqDiff] | refine AWp.seq ?_ | refine AWp.reg rfl ?_ | refine AWp.block ?_ | apply AWp.condT; focus simp [*]; done | apply AWp.condF; focus simp [*]; done | refine AWp.regT (by kernel_rfl) (by kernel_rfl) rfl rfl ?_)
        (refine ⟨_, (by simp [*]; rfl), ?_⟩; (try simp only [packA]))
        refine ⟨_, rfl, ?_⟩
        rw [hL]
        simp only [ha, hb0, hl0, Bool.false_eq_true, if_true, if_false, false_and, true_and, and_true, and_false, not_true, not_false_eq_true, List.append_nil, List.nil_append, List.cons_append]
        exact OwnL.of1 (by simp [upd, drp]) (by omega)
      case true =>
        repeat (first | (first | (apply AOpl.step; rfl) | apply ASl.step); focus simp [*, -Option.some.injEq]; rfl | (first | (apply AOpl.stepG; rfl) | apply ASl.stepG); (focus simp [*]; done); focus simp [*, -Option.some.injEq]; rfl | (first | (apply AOpl.pass; rfl) | apply ASl.pass); (focus simp [*]; done) | (first | refine AOpl.nil ?_ | refine AWp.skip ?_ | refine AWp.exit ?_ | refine AWp.ret ?_ | refine ASl.nil ?_); try simp only [Then, InBlock, reduceIte, Nat.reduceEqDiff] | refine AWp.seq ?_ | refine AWp.reg rfl ?_ | refine AWp.block ?_ | apply AWp.condT; focus simp [*]; done | apply AWp.condF; focus simp [*]; done | refine AWp.regT (by kernel_rfl) (by kernel_rfl) rfl rfl ?_)
        refine AOpl.appLst (k := 1) (cv := cvI) (l := [x.b]) (l2 := x.args) ti_Ints ti_int rfl rfl (by omega) (by simp) cvI_len cvI_one rfl rfl (by first | (simp [rd, putE]; done) | (simp [rd, putE]; rfl)) (by first | (simp [rd, putE]; done) | (simp [rd, putE]; rfl)) (OwnL.of1 (by simp [upd, drp]) (by omega)) (by simp; omega) ?_
        intro c' H' nx' ho' hnn hfr
        repeat (first | (first | (apply AOpl.step; rfl) | apply ASl.step); focus simp [*, -Option.some.injEq]; rfl | (first | (apply AOpl.stepG; rfl) | apply ASl.stepG); (focus simp [*]; done); focus simp [*, -Option.some.injEq]; rfl | (first | (apply AOpl.pass; rfl) | apply ASl.pass); (focus simp [*]; done) | (first | refine AOpl.nil ?_ | refine AWp.skip ?_ | refine AWp.exit ?_ | refine AWp.ret ?_ | refine ASl.nil ?_); try simp only [Then, InBlock, reduceIte, Nat.reduceEqDiff] | refine AWp.seq ?_ | refine AWp.reg rfl ?_ | refine AWp.block ?_ | apply AWp.condT; focus simp [*]; done | apply AWp.condF; focus simp [*]; done | refine AWp.regT (by kernel_rfl) (by kernel_rfl) rfl rfl ?_)
        (refine ⟨_, (by simp [*]; rfl), ?_⟩; (try simp only [packA]))
        refine ⟨_, rfl, ?_⟩
        rw [hL]
        simp only [ha, hb0, hl0, Bool.false_eq_true, if_true, if_false, false_and, true_and, and_true, and_false, not_true, not_false_eq_true, List.append_nil, List.nil_append, List.cons_append]
        exact ho'
  case true =>
    by_cases h13 : x.op = 13
    · simp only [h13] at hh hL ha
      by_cases hm : x.a = -1
      · repeat (first | (first | (apply AOpl.step; rfl) | apply ASl.step); focus simp [*, -Option.some.injEq]; rfl | (first | (apply AOpl.stepG; rfl) | apply ASl.stepG); (focus simp [*]; done); focus simp [*, -Option.some.injEq]; rfl | (first | (apply AOpl.pass; rfl) | apply ASl.pass); (focus simp [*]; done) | (first | refine AOpl.nil ?_ | refine AWp.skip ?_ | refine AWp.exit ?_ | refine AWp.ret ?_ | refine ASl.nil ?_); try simp only [Then, InBlock, reduceIte, Nat.reduceEqDiff] | refine AWp.seq ?_ | refine AWp.reg rfl ?_ | refine AWp.block ?_ | apply AWp.condT; focus simp [*]; done | apply AWp.condF; focus simp [*]; done | refine AWp.regT (by kernel_rfl) (by kernel_rfl) rfl rfl ?_)
        (first | (first | (apply AOpl.callN; rfl) | apply ASl.call); (focus simp [*, -Option.some.injEq]; rfl); kernel_rfl | (first | (apply AOpl.callNG; rfl) | apply ASl.callg); (focus simp [*]; done); (focus simp [*, -Option.some.injEq]; rfl); kernel_rfl)
        · exact hh 98 rfl
        intro nx2 hn2
        
        have q2 : ∀ k, ¬ nx = nx2 + k := fun k => by omega
        have q20 : ¬ nx = nx2 := by omega
        cases hb0 : hasB 13 98
        case false =>
          repeat (first | (first | (apply AOpl.step; rfl) | apply ASl.step); focus simp [*, -Option.some.injEq]; rfl | (first | (apply AOpl.stepG; rfl) | apply ASl.stepG); (focus simp [*]; done); focus simp [*, -Option.some.injEq]; rfl | (first | (apply AOpl.pass; rfl) | apply ASl.pass); (focus simp [*]; done) | (first | refine AOpl.nil ?_ | refine AWp.skip ?_ | refine AWp.exit ?_ | refine AWp.ret ?_ | refine ASl.nil ?_); try simp only [Then, InBlock, reduceIte, Nat.reduceEqDiff] | refine AWp.seq ?_ | refine AWp.reg rfl ?_ | refine AWp.block ?_ | apply AWp.condT; focus simp [*]; done | apply AWp.condF; focus simp [*]; done | refine AWp.regT (by kernel_rfl) (by kernel_rfl) rfl rfl ?_)
          (first | (first | (apply AOpl.callN; rfl) | apply ASl.call); (focus simp [*, -Option.some.injEq]; rfl); kernel_rfl | (first | (apply AOpl.callNG; rfl) | apply ASl.callg); (focus simp [*]; done); (focus simp [*, -Option.some.injEq]; rfl); kernel_rfl)
          · exact hh 108 rfl
          intro nx3 hn3
          have q3 : ∀ k, ¬ nx = nx3 + k := fun k => by omega
          have q30 : ¬ nx = nx3 := by omega
          cases hl0 : hasB 13 108
          case false =>
            repeat (first | (first | (apply AOpl.step; rfl) | apply ASl.step); focus simp [*, -Option.some.injEq]; rfl | (first | (apply AOpl.stepG; rfl) | apply ASl.stepG); (focus simp [*]; done); focus simp [*, -Option.some.injEq]; rfl | (first | (apply AOpl.pass; rfl) | apply ASl.pass); (focus simp [*]; done) | (first | refine AOpl.nil ?_ | refine AWp.skip ?_ | refine AWp.exit ?_ | refine AWp.ret ?_ | refine ASl.nil ?_); try simp only [Then, InBlock, reduceIte, Nat.reduceEqDiff] | refine AWp.seq ?_ | refine AWp.reg rfl ?_ | refine AWp.block ?_ | apply AWp.condT; focus simp [*]; done | apply AWp.condF; focus simp [*]; done | refine AWp.regT (by kernel_rfl) (by kernel_rfl) rfl rfl ?_)
            (refine ⟨_, (by simp [*]; rfl), ?_⟩; (try simp only [packA]))
            refine ⟨_, rfl, ?_⟩
            rw [hL]
            simp only [ha, hm, hb0, hl0, Bool.false_eq_true, if_true, if_false, false_and, true_and, and_true, and_false, not_true, not_false_eq_true, List.append_nil, List.nil_append, List.cons_append]
            exact Or.inl ⟨rfl, rfl⟩
          case true =>
            repeat (first | (first | (apply AOpl.step; rfl) | apply ASl.step); focus simp [*, -Option.some.injEq]; rfl | (first | (apply AOpl.stepG; rfl) | apply ASl.stepG); (focus simp [*]; done); focus simp [*, -Option.some.injEq]; rfl | (first | (apply AOpl.pass; rfl) | apply ASl.pass); (focus simp [*]; done) | (first | refine AOpl.nil ?_ | refine AWp.skip ?_ | refine AWp.exit ?_ | refine AWp.ret ?_ | refine ASl.nil ?_); try simp only [Then, InBlock, reduceIte, Nat.reduceEqDiff] | refine AWp.seq ?_ | refine AWp.reg rfl ?_ | refine AWp.block ?_ | apply AWp.condT; focus simp [*]; done | apply AWp.condF; focus simp [*]; done | refine AWp.regT (by kernel_rfl) (by kernel_rfl) rfl rfl ?_)
            refine AOpl.appLst (k := 1) (cv := cvI) (l := []) (l2 := x.args) ti_Ints ti_int rfl rfl (by omega) (by simp) cvI_len cvI_one rfl rfl (by first | (simp [rd, putE]; done) | (simp [rd, putE]; rfl)) (by first | (simp [rd, putE]; done) | (simp [rd, putE]; rfl)) (Or.inl ⟨rfl, rfl⟩) (by simp; omega) ?_
            intro c' H' nx' ho' hnn hfr
            repeat (first | (first | (apply AOpl.step; rfl) | apply ASl.step); focus simp [*, -Option.some.injEq]; rfl | (first | (apply AOpl.stepG; rfl) | apply ASl.stepG); (focus simp [*]; done); focus simp [*, -Option.some.injEq]; rfl | (first | (apply AOpl.pass; rfl) | apply ASl.pass); (focus simp [*]; done) | (first | refine AOpl.nil ?_ | refine AWp.skip ?_ | refine AWp.exit ?_ | refine AWp.ret ?_ | refine ASl.nil ?_); try simp only [Then, InBlock, reduceIte, Nat.reduceEqDiff] | refine AWp.seq ?_ | refine AWp.reg rfl ?_ | refine AWp.block ?_ | apply AWp.condT; focus simp [*]; done | apply AWp.condF; focus simp [*]; done | refine AWp.regT (by kernel_rfl) (by kernel_rfl) rfl rfl ?_)
            (refine ⟨_, (by simp [*]; rfl), ?_⟩; (try simp only [packA]))
            refine ⟨_, rfl, ?_⟩
            rw [hL]
            simp only [ha, hm, hb0, hl0, Bool.false_eq_true, if_true, if_false, false_and, true_and, and_true, and_false, not_true, not_false_eq_true, List.append_nil, List.nil_append, List.cons_append]
            exact ho'
        case true =>
          repeat (first | (first | (apply AOpl.step; rfl) | apply ASl.step); focus simp [*, -Option.some.injEq]; rfl | (first | (apply AOpl.stepG; rfl) | apply ASl.stepG); (focus simp [*]; done); focus simp [*, -Option.some.injEq]; rfl | (first | (apply AOpl.pass; rfl) | apply ASl.pass); (focus simp [*]; done) | (first | refine AOpl.nil ?_ | refine AWp.skip ?_ | refine AWp.exit ?_ | refine AWp.ret ?_ | refine ASl.nil ?_); try simp only [Then, InBlock, reduceIte, Nat.reduceEqDiff] | refine AWp.seq ?_ | refine AWp.reg rfl ?_ | refine AWp.block ?_ | apply AWp.condT; focus simp [*]; done | apply AWp.condF; focus simp [*]; done | refine AWp.regT (by kernel_rfl) (by kernel_rfl) rfl rfl ?_)
          (first | (first | (apply AOpl.callN; rfl) | apply ASl.call); (focus simp [*, -Option.some.injEq]; rfl); kernel_rfl | (first | (apply AOpl.callNG; rfl) | apply ASl.callg); (focus simp [*]; done); (focus simp [*, -Option.some.injEq]; rfl); kernel_rfl)
          · exact hh 108 rfl
          intro nx3 hn3
          have q3 : ∀ k, ¬ nx = nx3 + k := fun k => by omega
          have q30 : ¬ nx = nx3 := by omega
          have r3 : ∀ k, ¬ nx2 + 1 = nx3 + k := fun k => by omega
          have r30 : ¬ nx2 + 1 = nx3 := by omega
          cases hl0 : hasB 13 108
          case false =>
            repeat (first | (first | (apply AOpl.step; rfl) | apply ASl.step); focus simp [*, -Option.some.injEq]; rfl | (first | (apply AOpl.stepG; rfl) | apply ASl.stepG); (focus simp [*]; done); focus simp [*, -Option.some.injEq]; rfl | (first | (apply AOpl.pass; rfl) | apply ASl.pass); (focus simp [*]; done) | (first | refine AOpl.nil ?_ | refine AWp.skip ?_ | refine AWp.exit ?_ | refine AWp.ret ?_ | refine ASl.nil ?_); try simp only [Then, InBlock, reduceIte, Nat.reduceEqDiff] | refine AWp.seq ?_ | refine AWp.reg rfl ?_ | refine AWp.block ?_ | apply AWp.condT; focus simp [*]; done | apply AWp.condF; focus simp [*]; done | refine AWp.regT (by kernel_rfl) (by kernel_rfl) rfl rfl ?_)
            (refine ⟨_, (by simp [*]; rfl), ?_⟩; (try simp only [packA]))
            refine ⟨_, rfl, ?_⟩
            rw [hL]
            simp only [ha, hm, hb0, hl0, Bool.false_eq_true, if_true, if_false, false_and, true_and, and_true, and_false, not_true, not_false_eq_true, List.append_nil, List.nil_append, List.cons_append]
            exact OwnL.of1 (by simp [upd, drp]) (by omega)
          case true =>
            repeat (first | (first | (apply AOpl.step; rfl) | apply ASl.step); focus simp [*, -Option.some.injEq]; rfl | (first | (apply AOpl.stepG; rfl) | apply ASl.stepG); (focus simp [*]; done); focus simp [*, -Option.some.injEq]; rfl | (first | (apply AOpl.pass; rfl) | apply ASl.pass); (focus simp [*]; done) | (first | refine AOpl.nil ?_ | refine AWp.skip ?_ | refine AWp.exit ?_ | refine AWp.ret ?_ | refine ASl.nil ?_); try simp only [Then, InBlock, reduceIte, Nat.reduceEqDiff] | refine AWp.seq ?_ | refine AWp.reg rfl ?_ | refine AWp.block ?_ | apply AWp.condT; focus simp [*]; done | apply AWp.condF; focus simp [*]; done | refine AWp.regT (by kernel_rfl) (by kernel_rfl) rfl rfl ?_)
            refine AOpl.appLst (k := 1) (cv := cvI) (l := [x.b]) (l2 := x.args) ti_Ints ti_int rfl rfl (by omega) (by simp) cvI_len cvI_one rfl rfl (by first | (simp [rd, putE]; done) | (simp [rd, putE]; rfl)) (by first | (simp [rd, putE]; done) | (simp [rd, putE]; rfl)) (OwnL.of1 (by simp [upd, drp]) (by omega)) (by simp; omega) ?_
            intro c' H' nx' ho' hnn hfr
            repeat (first | (first | (apply AOpl.step; rfl) | apply ASl.step); focus simp [*, -Option.some.injEq]; rfl | (first | (apply AOpl.stepG; rfl) | apply ASl.stepG); (focus simp [*]; done); focus simp [*, -Option.some.injEq]; rfl | (first | (apply AOpl.pass; rfl) | apply ASl.pass); (focus simp [*]; done) | (first | refine AOpl.nil ?_ | refine AWp.skip ?_ | refine AWp.exit ?_ | refine AWp.ret ?_ | refine ASl.nil ?_); try simp only [Then, InBlock, reduceIte, Nat.reduceEqDiff] | refine AWp.seq ?_ | refine AWp.reg rfl ?_ | refine AWp.block ?_ | apply AWp.condT; focus simp [*]; done | apply AWp.condF; focus simp [*]; done | refine AWp.regT (by kernel_rfl) (by kernel_rfl) rfl rfl ?_)
            (refine ⟨_, (by simp [*]; rfl), ?_⟩; (try simp only [packA]))
            refine ⟨_, rfl, ?_⟩
            rw [hL]
            simp only [ha, hm, hb0, hl0, Bool.false_eq_true, if_true, if_false, false_and, true_and, and_true, and_false, not_true, not_false_eq_true, List.append_nil, List.nil_append, List.cons_append]
            exact ho'
      · repeat (first | (first | (apply AOpl.step; rfl) | apply ASl.step); focus simp [*, -Option.some.injEq]; rfl | (first | (apply AOpl.stepG; rfl) | apply ASl.stepG); (focus simp [*]; done); focus simp [*, -Option.some.injEq]; rfl | (first | (apply AOpl.pass; rfl) | apply ASl.pass); (focus simp [*]; done) | (first | refine AOpl.nil ?_ | refine AWp.skip ?_ | refine AWp.exit ?_ | refine AWp.ret ?_ | refine ASl.nil ?_); try simp only [Then, InBlock, reduceIte, Nat.reduceEqDiff] | refine AWp.seq ?_ | refine AWp.reg rfl ?_ | refine AWp.block ?_ | apply AWp.condT; focus simp [*]; done | apply AWp.condF; focus simp [*]; done | refine AWp.regT (by kernel_rfl) (by kernel_rfl) rfl rfl ?_)
        (first | (first | (apply AOpl.callN; rfl) | apply ASl.call); (focus simp [*, -Option.some.injEq]; rfl); kernel_rfl | (first | (apply AOpl.callNG; rfl) | apply ASl.callg); (focus simp [*]; done); (focus simp [*, -Option.some.injEq]; rfl); kernel_rfl)
        · exact hh 98 rfl
        intro nx2 hn2
        
        have q2 : ∀ k, ¬ nx = nx2 + k := fun k => by omega
        have q20 : ¬ nx = nx2 := by omega
        have r2 : ∀ k, ¬ nx1 + 1 = nx2 + k := fun k => by omega
        have r20 : ¬ nx1 + 1 = nx2 := by omega
        cases hb0 : hasB 13 98
        case false =>
          repeat (first | (first | (apply AOpl.step; rfl) | apply ASl.step); focus simp [*, -Option.some.injEq]; rfl | (first | (apply AOpl.stepG; rfl) | apply ASl.stepG); (focus simp [*]; done); focus simp [*, -Option.some.injEq]; rfl | (first | (apply AOpl.pass; rfl) | apply ASl.pass); (focus simp [*]; done) | (first | refine AOpl.nil ?_ | refine AWp.skip ?_ | refine AWp.exit ?_ | refine AWp.ret ?_ | refine ASl.nil ?_); try simp only [Then, InBlock, reduceIte, Nat.reduceEqDiff] | refine AWp.seq ?_ | refine AWp.reg rfl ?_ | refine AWp.block ?_ | apply AWp.condT; focus simp [*]; done | apply AWp.condF; focus simp [*]; done | refine AWp.regT (by kernel_rfl) (by kernel_rfl) rfl rfl ?_)
          (first | (first | (apply AOpl.callN; rfl) | apply ASl.call); (focus simp [*, -Option.some.injEq]; rfl); kernel_rfl | (first | (apply AOpl.callNG; rfl) | apply ASl.callg); (focus simp [*]; done); (focus simp [*, -Option.some.injEq]; rfl); kernel_rfl)
          · exact hh 108 rfl
          intro nx3 hn3
          have q3 : ∀ k, ¬ nx = nx3 + k := fun k => by omega
          have q30 : ¬ nx = nx3 := by omega
          have r3 : ∀ k, ¬ nx1 + 1 = nx3 + k := fun k => by omega
          have r30 : ¬ nx1 + 1 = nx3 := by omega
          cases hl0 : hasB 13 108
          case false =>
            repeat (first | (first | (apply AOpl.step; rfl) | apply ASl.step); focus simp [*, -Option.some.injEq]; rfl | (first | (apply AOpl.stepG; rfl) | apply ASl.stepG); (focus simp [*]; done); focus simp [*, -Option.some.injEq]; rfl | (first | (apply AOpl.pass; rfl) | apply ASl.pass); (focus simp [*]; done) | (first | refine AOpl.nil ?_ | refine AWp.skip ?_ | refine AWp.exit ?_ | refine AWp.ret ?_ | refine ASl.nil ?_); try simp only [Then, InBlock, reduceIte, Nat.reduceEqDiff] | refine AWp.seq ?_ | refine AWp.reg rfl ?_ | refine AWp.block ?_ | apply AWp.condT; focus simp [*]; done | apply AWp.condF; focus simp [*]; done | refine AWp.regT (by kernel_rfl) (by kernel_rfl) rfl rfl ?_)
            (refine ⟨_, (by simp [*]; rfl), ?_⟩; (try simp only [packA]))
            refine ⟨_, rfl, ?_⟩
            rw [hL]
            simp only [ha, hm, hb0, hl0, Bool.false_eq_true, if_true, if_false, false_and, true_and, and_true, and_false, not_true, not_false_eq_true, List.append_nil, List.nil_append, List.cons_append]
            exact OwnL.of1 (by simp [upd, drp]) (by omega)
          case true =>
            repeat (first | (first | (apply AOpl.step; rfl) | apply ASl.step); focus simp [*, -Option.some.injEq]; rfl | (first | (apply AOpl.stepG; rfl) | apply ASl.stepG); (focus simp [*]; done); focus simp [*, -Option.some.injEq]; rfl | (first | (apply AOpl.pass; rfl) | apply ASl.pass); (focus simp [*]; done) | (first | refine AOpl.nil ?_ | refine AWp.skip ?_ | refine AWp.exit ?_ | refine AWp.ret ?_ | refine ASl.nil ?_); try simp only [Then, InBlock, reduceIte, Nat.reduceEqDiff] | refine AWp.seq ?_ | refine AWp.reg rfl ?_ | refine AWp.block ?_ | apply AWp.condT; focus simp [*]; done | apply AWp.condF; focus simp [*]; done | refine AWp.regT (by kernel_rfl) (by kernel_rfl) rfl rfl ?_)
            refine AOpl.appLst (k := 1) (cv := cvI) (l := [x.a]) (l2 := x.args) ti_Ints ti_int rfl rfl (by omega) (by simp) cvI_len cvI_one rfl rfl (by first | (simp [rd, putE]; done) | (simp [rd, putE]; rfl)) (by first | (simp [rd, putE]; done) | (simp [rd, putE]; rfl)) (OwnL.of1 (by simp [upd, drp]) (by omega)) (by simp; omega) ?_
            intro c' H' nx' ho' hnn hfr
            repeat (first | (first | (apply AOpl.step; rfl) | apply ASl.step); focus simp [*, -Option.some.injEq]; rfl | (first | (apply AOpl.stepG; rfl) | apply ASl.stepG); (focus simp [*]; done); focus simp [*, -Option.some.injEq]; rfl | (first | (apply AOpl.pass; rfl) | apply ASl.pass); (focus simp [*]; done) | (first | refine AOpl.nil ?_ | refine AWp.skip ?_ | refine AWp.exit ?_ | refine AWp.ret ?_ | refine ASl.nil ?_); try simp only [Then, InBlock, reduceIte, Nat.reduceEqDiff] | refine AWp.seq ?_ | refine AWp.reg rfl ?_ | refine AWp.block ?_ | apply AWp.condT; focus simp [*]; done | apply AWp.condF; focus simp [*]; done | refine AWp.regT (by kernel_rfl) (by kernel_rfl) rfl rfl ?_)
            (refine ⟨_, (by simp [*]; rfl), ?_⟩; (try simp only [packA]))
            refine ⟨_, rfl, ?_⟩
            rw [hL]
            simp only [ha, hm, hb0, hl0, Bool.false_eq_true, if_true, if_false, false_and, true_and, and_true, and_false, not_true, not_false_eq_true, List.append_nil, List.nil_append, List.cons_append]
            exact ho'
        case true =>
          repeat (first | (first | (apply AOpl.step; rfl) | apply ASl.step); focus simp [*, -Option.some.injEq]; rfl | (first | (apply AOpl.stepG; rfl) | apply ASl.stepG); (focus simp [*]; done); focus simp [*, -Option.some.injEq]; rfl | (first | (apply AOpl.pass; rfl) | apply ASl.pass); (focus simp [*]; done) | (first | refine AOpl.nil ?_ | refine AWp.skip ?_ | refine AWp.exit ?_ | refine AWp.ret ?_ | refine ASl.nil ?_); try simp only [Then, InBlock, reduceIte, Nat.reduceEqDiff] | refine AWp.seq ?_ | refine AWp.reg rfl ?_ | refine AWp.block ?_ | apply AWp.condT; focus simp [*]; done | apply AWp.condF; focus simp [*]; done | refine AWp.regT (by kernel_rfl) (by kernel_rfl) rfl rfl ?_)
          (first | (first | (apply AOpl.callN; rfl) | apply ASl.call); (focus simp [*, -Option.some.injEq]; rfl); kernel_rfl | (first | (apply AOpl.callNG; rfl) | apply ASl.callg); (focus simp [*]; done); (focus simp [*, -Option.some.injEq]; rfl); kernel_rfl)
          · exact hh 108 rfl
          intro nx3 hn3
          have q3 : ∀ k, ¬ nx = nx3 + k := fun k => by omega
          have q30 : ¬ nx = nx3 := by omega
          have r3 : ∀ k, ¬ nx2 + 1 = nx3 + k := fun k => by omega
          have r30 : ¬ nx2 + 1 = nx3 := by omega
          cases hl0 : hasB 13 108
          case false =>
            repeat (first | (first | (apply AOpl.step; rfl) | apply ASl.step); focus simp [*, -Option.some.injEq]; rfl | (first | (apply AOpl.stepG; rfl) | apply ASl.stepG); (focus simp [*]; done); focus simp [*, -Option.some.injEq]; rfl | (first | (apply AOpl.pass; rfl) | apply ASl.pass); (focus simp [*]; done) | (first | refine AOpl.nil ?_ | refine AWp.skip ?_ | refine AWp.exit ?_ | refine AWp.ret ?_ | refine ASl.nil ?_); try simp only [Then, InBlock, reduceIte, Nat.reduceEqDiff] | refine AWp.seq ?_ | refine AWp.reg rfl ?_ | refine AWp.block ?_ | apply AWp.condT; focus simp [*]; done | apply AWp.condF; focus simp [*]; done | refine AWp.regT (by kernel_rfl) (by kernel_rfl) rfl rfl ?_)
            (refine ⟨_, (by simp [*]; rfl), ?_⟩; (try simp only [packA]))
            refine ⟨_, rfl, ?_⟩
            rw [hL]
            simp only [ha, hm, hb0, hl0, Bool.false_eq_true, if_true, if_false, false_and, true_and, and_true, and_false, not_true, not_false_eq_true, List.append_nil, List.nil_append, List.cons_append]
            exact OwnL.of2 (by simp [upd, drp]) (by omega)
          case true =>
            repeat (first | (first | (apply AOpl.step; rfl) | apply ASl.step); focus simp [*, -Option.some.injEq]; rfl | (first | (apply AOpl.stepG; rfl) | apply ASl.stepG); (focus simp [*]; done); focus simp [*, -Option.some.injEq]; rfl | (first | (apply AOpl.pass; rfl) | apply ASl.pass); (focus simp [*]; done) | (first | refine AOpl.nil ?_ | refine AWp.skip ?_ | refine AWp.exit ?_ | refine AWp.ret ?_ | refine ASl.nil ?_); try simp only [Then, InBlock, reduceIte, Nat.reduceEqDiff] | refine AWp.seq ?_ | refine AWp.reg rfl ?_ | refine AWp.block ?_ | apply AWp.condT; focus simp [*]; done | apply AWp.condF; focus simp [*]; done | refine AWp.regT (by kernel_rfl) (by kernel_rfl) rfl rfl ?_)
            refine AOpl.appLst (k := 1) (cv := cvI) (l := [x.a, x.b]) (l2 := x.args) ti_Ints ti_int rfl rfl (by omega) (by simp) cvI_len cvI_one rfl rfl (by first | (simp [rd, putE]; done) | (simp [rd, putE]; rfl)) (by first | (simp [rd, putE]; done) | (simp [rd, putE]; rfl)) (OwnL.of2 (by simp [upd, drp]) (by omega)) (by simp; omega) ?_
            intro c' H' nx' ho' hnn hfr
            repeat (first | (first | (apply AOpl.step; rfl) | apply ASl.step); focus simp [*, -Option.some.injEq]; rfl | (first | (apply AOpl.stepG; rfl) | apply ASl.stepG); (focus simp [*]; done); focus simp [*, -Option.some.injEq]; rfl | (first | (apply AOpl.pass; rfl) | apply ASl.pass); (focus simp [*]; done) | (first | refine AOpl.nil ?_ | refine AWp.skip ?_ | refine AWp.exit ?_ | refine AWp.ret ?_ | refine ASl.nil ?_); try simp only [Then, InBlock, reduceIte, Nat.reduceEqDiff] | refine AWp.seq ?_ | refine AWp.reg rfl ?_ | refine AWp.block ?_ | apply AWp.condT; focus simp [*]; done | apply AWp.condF; focus simp [*]; done | refine AWp.regT (by kernel_rfl) (by kernel_rfl) rfl rfl ?_)
            (refine ⟨_, (by simp [*]; rfl), ?_⟩; (try simp only [packA]))
            refine ⟨_, rfl, ?_⟩
            rw [hL]
            simp only [ha, hm, hb0, hl0, Bool.false_eq_true, if_true, if_false, false_and, true_and, and_true, and_false, not_true, not_false_eq_true, List.append_nil, List.nil_append, List.cons_append]
            exact ho'
    · repeat (first | (first | (apply AOpl.step; rfl) | apply ASl.step); focus simp [*, -Option.some.injEq]; rfl | (first | (apply AOpl.stepG; rfl) | apply ASl.stepG); (focus simp [*]; done); focus simp [*, -Option.some.injEq]; rfl | (first | (apply AOpl.pass; rfl) | apply ASl.pass); (focus simp [*]; done) | (first | refine AOpl.nil ?_ | refine AWp.skip ?_ | refine AWp.exit ?_ | refine AWp.ret ?_ | refine ASl.nil ?_); try simp only [Then, InBlock, reduceIte, Nat.reduceEqDiff] | refine AWp.seq ?_ | refine AWp.reg rfl ?_ | refine AWp.block ?_ | apply AWp.condT; focus simp [*]; done | apply AWp.condF; focus simp [*]; done | refine AWp.regT (by kernel_rfl) (by kernel_rfl) rfl rfl ?_)
      (first | (first | (apply AOpl.callN; rfl) | apply ASl.call); (focus simp [*, -Option.some.injEq]; rfl); kernel_rfl | (first | (apply AOpl.callNG; rfl) | apply ASl.callg); (focus simp [*]; done); (focus simp [*, -Option.some.injEq]; rfl); kernel_rfl)
      · exact hh 98 rfl
      intro nx2 hn2
      
      have q2 : ∀ k, ¬ nx = nx2 + k := fun k => by omega
      have q20 : ¬ nx = nx2 := by omega
      have r2 : ∀ k, ¬ nx1 + 1 = nx2 + k := fun k => by omega
      have r20 : ¬ nx1 + 1 = nx2 := by omega
      cases hb0 : hasB x.op 98
      case false =>
        repeat (first | (first | (apply AOpl.step; rfl) | apply ASl.step); focus simp [*, -Option.some.injEq]; rfl | (first | (apply AOpl.stepG; rfl) | apply ASl.stepG); (focus simp [*]; done); focus simp [*, -Option.some.injEq]; rfl | (first | (apply AOpl.pass; rfl) | apply ASl.pass); (focus simp [*]; done) | (first | refine AOpl.nil ?_ | refine AWp.skip ?_ | refine AWp.exit ?_ | refine AWp.ret ?_ | refine ASl.nil ?_); try simp only [Then, InBlock, reduceIte, Nat.reduceEqDiff] | refine AWp.seq ?_ | refine AWp.reg rfl ?_ | refine AWp.block ?_ | apply AWp.condT; focus simp [*]; done | apply AWp.condF; focus simp [*]; done | refine AWp.regT (by kernel_rfl) (by kernel_rfl) rfl rfl ?_)
        (first | (first | (apply AOpl.callN; rfl) | apply ASl.call); (focus simp [*, -Option.some.injEq]; rfl); kernel_rfl | (first | (apply AOpl.callNG; rfl) | apply ASl.callg); (focus simp [*]; done); (focus simp [*, -Option.some.injEq]; rfl); kernel_rfl)
        · exact hh 108 rfl
        intro nx3 hn3
        have q3 : ∀ k, ¬ nx = nx3 + k := fun k => by omega
        have q30 : ¬ nx = nx3 := by omega
        have r3 : ∀ k, ¬ nx1 + 1 = nx3 + k := fun k => by omega
        have r30 : ¬ nx1 + 1 = nx3 := by omega
        cases hl0 : hasB x.op 108
        case false =>
          repeat (first | (first | (apply AOpl.step; rfl) | apply ASl.step); focus simp [*, -Option.some.injEq]; rfl | (first | (apply AOpl.stepG; rfl) | apply ASl.stepG); (focus simp [*]; done); focus simp [*, -Option.some.injEq]; rfl | (first | (apply AOpl.pass; rfl) | apply ASl.pass); (focus simp [*]; done) | (first | refine AOpl.nil ?_ | refine AWp.skip ?_ | refine AWp.exit ?_ | refine AWp.ret ?_ | refine ASl.nil ?_); try simp only [Then, InBlock, reduceIte, Nat.reduceEqDiff] | refine AWp.seq ?_ | refine AWp.reg rfl ?_ | refine AWp.block ?_ | apply AWp.condT; focus simp [*]; done | apply AWp.condF; focus simp [*]; done | refine AWp.regT (by kernel_rfl) (by kernel_rfl) rfl rfl ?_)
          (refine ⟨_, (by simp [*]; rfl), ?_⟩; (try simp only [packA]))
          refine ⟨_, rfl, ?_⟩
          rw [hL]
          simp only [ha, h13, hb0, hl0, Bool.false_eq_true, if_true, if_false, false_and, true_and, and_true, and_false, not_true, not_false_eq_true, List.append_nil, List.nil_append, List.cons_append]
          exact OwnL.of1 (by simp [upd, drp]) (by omega)
        case true =>
          repeat (first | (first | (apply AOpl.step; rfl) | apply ASl.step); focus simp [*, -Option.some.injEq]; rfl | (first | (apply AOpl.stepG; rfl) | apply ASl.stepG); (focus simp [*]; done); focus simp [*, -Option.some.injEq]; rfl | (first | (apply AOpl.pass; rfl) | apply ASl.pass); (focus simp [*]; done) | (first | refine AOpl.nil ?_ | refine AWp.skip ?_ | refine AWp.exit ?_ | refine AWp.ret ?_ | refine ASl.nil ?_); try simp only [Then, InBlock, reduceIte, Nat.reduceEqDiff] | refine AWp.seq ?_ | refine AWp.reg rfl ?_ | refine AWp.block ?_ | apply AWp.condT; focus simp [*]; done | apply AWp.condF; focus simp [*]; done | refine AWp.regT (by kernel_rfl) (by kernel_rfl) rfl rfl ?_)
          refine AOpl.appLst (k := 1) (cv := cvI) (l := [x.a]) (l2 := x.args) ti_Ints ti_int rfl rfl (by omega) (by simp) cvI_len cvI_one rfl rfl (by first | (simp [rd, putE]; done) | (simp [rd, putE]; rfl)) (by first | (simp [rd, putE]; done) | (simp [rd, putE]; rfl)) (OwnL.of1 (by simp [upd, drp]) (by omega)) (by simp; omega) ?_
          intro c' H' nx' ho' hnn hfr
          repeat (first | (first | (apply AOpl.step; rfl) | apply ASl.step); focus simp [*, -Option.some.injEq]; rfl | (first | (apply AOpl.stepG; rfl) | apply ASl.stepG); (focus simp [*]; done); focus simp [*, -Option.some.injEq]; rfl | (first | (apply AOpl.pass; rfl) | apply ASl.pass); (focus simp [*]; done) | (first | refine AOpl.nil ?_ | refine AWp.skip ?_ | refine AWp.exit ?_ | refine AWp.ret ?_ | refine ASl.nil ?_); try simp only [Then, InBlock, reduceIte, Nat.reduceEqDiff] | refine AWp.seq ?_ | refine AWp.reg rfl ?_ | refine AWp.block ?_ | apply AWp.condT; focus simp [*]; done | apply AWp.condF; focus simp [*]; done | refine AWp.regT (by kernel_rfl) (by kernel_rfl) rfl rfl ?_)
          (refine ⟨_, (by simp [*]; rfl), ?_⟩; (try simp only [packA]))
          refine ⟨_, rfl, ?_⟩
          rw [hL]
          simp only [ha, h13, hb0, hl0, Bool.false_eq_true, if_true, if_false, false_and, true_and, and_true, and_false, not_true, not_false_eq_true, List.append_nil, List.nil_append, List.cons_append]
          exact ho'
      case true =>
        repeat (first | (first | (apply AOpl.step; rfl) | apply ASl.step); focus simp [*, -Option.some.injEq]; rfl | (first | (apply AOpl.stepG; rfl) | apply ASl.stepG); (focus simp [*]; done); focus simp [*, -Option.some.injEq]; rfl | (first | (apply AOpl.pass; rfl) | apply ASl.pass); (focus simp [*]; done) | (first | refine AOpl.nil ?_ | refine AWp.skip ?_ | refine AWp.exit ?_ | refine AWp.ret ?_ | refine ASl.nil ?_); try simp only [Then, InBlock, reduceIte, Nat.reduceEqDiff] | refine AWp.seq ?_ | refine AWp.reg rfl ?_ | refine AWp.block ?_ | apply AWp.condT; focus simp [*]; done | apply AWp.condF; focus simp [*]; done | refine AWp.regT (by kernel_rfl) (by kernel_rfl) rfl rfl ?_)
        (first | (first | (apply AOpl.callN; rfl) | apply ASl.call); (focus simp [*, -Option.some.injEq]; rfl); kernel_rfl | (first | (apply AOpl.callNG; rfl) | apply ASl.callg); (focus simp [*]; done); (focus simp [*, -Option.some.injEq]; rfl); kernel_rfl)
        · exact hh 108 rfl
        intro nx3 hn3
        have q3 : ∀ k, ¬ nx = nx3 + k := fun k => by omega
        have q30 : ¬ nx = nx3 := by omega
        have r3 : ∀ k, ¬ nx2 + 1 = nx3 + k := fun k => by omega
        have r30 : ¬ nx2 + 1 = nx3 := by omega
        cases hl0 : hasB x.op 108
        case false =>
          repeat (first | (first | (apply AOpl.step; rfl) | apply ASl.step); focus simp [*, -Option.some.injEq]; rfl | (first | (apply AOpl.stepG; rfl) | apply ASl.stepG); (focus simp [*]; done); focus simp [*, -Option.some.injEq]; rfl | (first | (apply AOpl.pass; rfl) | apply ASl.pass); (focus simp [*]; done) | (first | refine AOpl.nil ?_ | refine AWp.skip ?_ | refine AWp.exit ?_ | refine AWp.ret ?_ | refine ASl.nil ?_); try simp only [Then, InBlock, reduceIte, Nat.reduceEqDiff] | refine AWp.seq ?_ | refine AWp.reg rfl ?_ | refine AWp.block ?_ | apply AWp.condT; focus simp [*]; done | apply AWp.condF; focus simp [*]; done | refine AWp.regT (by kernel_rfl) (by kernel_rfl) rfl rfl ?_)
          (refine ⟨_, (by simp [*]; rfl), ?_⟩; (try simp only [packA]))
          refine ⟨_, rfl, ?_⟩
          rw [hL]
          simp only [ha, h13, hb0, hl0, Bool.false_eq_true, if_true, if_false, false_and, true_and, and_true, and_false, not_true, not_false_eq_true, List.append_nil, List.nil_append, List.cons_append]
          exact OwnL.of2 (by simp [upd, drp]) (by omega)
        case true =>
          repeat (first | (first | (apply AOpl.step; rfl) | apply ASl.step); focus simp [*, -Option.some.injEq]; rfl | (first | (apply AOpl.stepG; rfl) | apply ASl.stepG); (focus simp [*]; done); focus simp [*, -Option.some.injEq]; rfl | (first | (apply AOpl.pass; rfl) | apply ASl.pass); (focus simp [*]; done) | (first | refine AOpl.nil ?_ | refine AWp.skip ?_ | refine AWp.exit ?_ | refine AWp.ret ?_ | refine ASl.nil ?_); try simp only [Then, InBlock, reduceIte, Nat.reduceEqDiff] | refine AWp.seq ?_ | refine AWp.reg rfl ?_ | refine AWp.block ?_ | apply AWp.condT; focus simp [*]; done | apply AWp.condF; focus simp [*]; done | refine AWp.regT (by kernel_rfl) (by kernel_rfl) rfl rfl ?_)
          refine AOpl.appLst (k := 1) (cv := cvI) (l := [x.a, x.b]) (l2 := x.args) ti_Ints ti_int rfl rfl (by omega) (by simp) cvI_len cvI_one rfl rfl (by first | (simp [rd, putE]; done) | (simp [rd, putE]; rfl)) (by first | (simp [rd, putE]; done) | (simp [rd, putE]; rfl)) (OwnL.of2 (by simp [upd, drp]) (by omega)) (by simp; omega) ?_
          intro c' H' nx' ho' hnn hfr
          repeat (first | (first | (apply AOpl.step; rfl) | apply ASl.step); focus simp [*, -Option.some.injEq]; rfl | (first | (apply AOpl.stepG; rfl) | apply ASl.stepG); (focus simp [*]; done); focus simp [*, -Option.some.injEq]; rfl | (first | (apply AOpl.pass; rfl) | apply ASl.pass); (focus simp [*]; done) | (first | refine AOpl.nil ?_ | refine AWp.skip ?_ | refine AWp.exit ?_ | refine AWp.ret ?_ | refine ASl.nil ?_); try simp only [Then, InBlock, reduceIte, Nat.reduceEqDiff] | refine AWp.seq ?_ | refine AWp.reg rfl ?_ | refine AWp.block ?_ | apply AWp.condT; focus simp [*]; done | apply AWp.condF; focus simp [*]; done | refine AWp.regT (by kernel_rfl) (by kernel_rfl) rfl rfl ?_)
          (refine ⟨_, (by simp [*]; rfl), ?_⟩; (try simp only [packA]))
          refine ⟨_, rfl, ?_⟩
          rw [hL]
          simp only [ha, h13, hb0, hl0, Bool.false_eq_true, if_true, if_false, false_and, true_and, and_true, and_false, not_true, not_false_eq_true, List.append_nil, List.nil_append, List.cons_append]
          exact ho'
end Go.Proofs.YtdjllogimomgmaaGreatDoor
