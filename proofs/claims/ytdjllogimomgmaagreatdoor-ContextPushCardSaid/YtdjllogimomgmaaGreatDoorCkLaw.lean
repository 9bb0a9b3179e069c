/-
  The law ContextPush.
-/
import Derived.Test.YtdjllogimomgmaaGreatDoorJkM
import Derived.Test.YtdjllogimomgmaaGreatDoorCxAwake2
set_option linter.unusedSimpArgs false
set_option linter.unusedVariables false
namespace Go.Proofs.YtdjllogimomgmaaGreatDoor
open Ax Tx
theorem ti_Ca : ti Tryz.prog 59 = some ⟨.struct #[⟨ "Ctx", 49, 0, false, "", "", 0⟩, ⟨ "Call", 3, 1, false, "", "", 24⟩, ⟨ "Recv", 57, 2, false, "", "", 32⟩], 4, .agg #[.slice none 0 0, .int .i64 0, .int .i64 0, .slice none 0 0], 64⟩ := by kernel_rfl
end Go.Proofs.YtdjllogimomgmaaGreatDoor
namespace Go.Proofs.YtdjllogimomgmaaGreatDoor
open Ax Tx Go.RowKit
attribute [local simp] stepS Ax.stepT Dl.on qstep astep estep rd putE over argE ofV ofS loadA pickCells isAggD faddA fieldA partA iaddA idxA sliA bnd binA intA strA unA convA bltA lenA mapOf lookA findK keyD scalD storeA mupA appA srcA srcD upd drp Dl.hp Dl.nx CV.cs CV.one buildA placesA fillA zrep tasA ifaceD eqA eqFs eqIs range2 copyA nbeq nble nblt decEq beqI bneI beqS bneS isED Int.ofNat_inj List.getElem?_map List.getElem?_eq_getElem Option.map_some ti_int ti_bool ti_str ti_i64 ti_Strs ti_Hi ti_Cds ti_Cd ti_Flds ti_Fld ti_Sgs ti_Sg ti_Ins ti_Inss ti_Ints ti_Fu ti_Fus ti_Un ti_Se ti_Hs ti_Sits ti_Sit ti_Ca gd gdB callA resA op1
theorem sameInts_one (a : List Int) (ha : a.length ≤ 1000) : FCall1 Tryz.prog cxG 21 [.lst (a.map cvI), .lst (a.map cvI)] (.bool true) := by
  have h := sameInts_ok a a (by simp only [maxLen]; omega)
  rw [decide_eq_true rfl] at h
  exact h.one cxG_pu (by simp [puL, puV, puIs]) rfl
theorem pu_SeL (s : Se) : puL (cvSe s) = true := rfl
theorem pu_UnL (u : Un) : puL (cvUn u) = true := by simp [cvUn, puV, puL, puR_mapR puL_Cd, puR_mapR puL_Fu]
theorem lastL_len (l : List Int) (k : Nat) : (lastL l k).length ≤ l.length := by unfold lastL; rw [List.length_drop]; omega
theorem pushL_len (u : Un) (s : Se) (ctx : List Int) (call site : Int) (rctx : List Int) : (pushL u s ctx call site rctx).length ≤ ctx.length + rctx.length + 1 := by
  unfold pushL
  split
  · simp
  · split
    · have := lastL_len (ctx ++ [call]) s.k.toNat; simp at this; omega
    · split
      · have := lastL_len ctx s.k.toNat; omega
      · split
        · have := lastL_len (rctx ++ [site]) s.k.toNat; simp at this; omega
        · rename_i p _ _
          have := lastL_len (rctx ++ [findI u.classes (clsAt u p.fn)]) s.k.toNat; simp at this; omega
set_option maxRecDepth 10000 in
set_option maxHeartbeats 16000000 in
theorem law_ContextPush (u : Un) (hu : UnB u) (s : Se) (hs : SeB s) (c : Ca) (hc : CaB c) : FCall Tryz.prog cxG 5 [.agg (cvUn u), .agg (cvSe s), .agg (cvCa c)] fun r => r = .ret (.bool true) := by
  have hsite : c.recv.site ≤ (maxLen : Int) := by have := hc.2.2.1; simp only [In64] at this; simp only [maxLen]; omega
  refine FCall.ofBody Tryz.func5 rfl rfl fun nx => ?_
  have e2 : ¬ nx = nx + 1 + 1 := by omega
  repeat (first | (first | (apply AOpl.step; rfl) | apply ASl.step); focus simp [cvUn, cvSe, cvCa, *, -Option.some.injEq]; rfl | (first | (apply AOpl.stepG; rfl) | apply ASl.stepG); (focus simp [cvUn, cvSe, cvCa, *]; done); focus simp [cvUn, cvSe, cvCa, *, -Option.some.injEq]; rfl | (first | (apply AOpl.pass; rfl) | apply ASl.pass); (focus simp [cvUn, cvSe, cvCa, *]; done) | (first | refine AOpl.nil ?_ | refine AWp.skip ?_ | refine AWp.exit ?_ | refine AWp.ret ?_ | refine ASl.nil ?_); try simp only [Then, InBlock, reduceIte, Nat.reduceEqDiff] | refine AWp.seq ?_ | refine AWp.reg rfl ?_ | refine AWp.block ?_ | apply AWp.condT; focus simp [cvUn, cvSe, cvCa, *]; done | apply AWp.condF; focus simp [cvUn, cvSe, cvCa, *]; done | refine AWp.regT (by kernel_rfl) (by kernel_rfl) rfl rfl ?_)
  (first | (first | (apply AOpl.callN; rfl) | apply ASl.call); (focus simp [cvUn, cvSe, cvCa, *, -Option.some.injEq]; rfl); kernel_rfl | (first | (apply AOpl.callNG; rfl) | apply ASl.callg); (focus simp [cvUn, cvSe, cvCa, *]; done); (focus simp [cvUn, cvSe, cvCa, *, -Option.some.injEq]; rfl); kernel_rfl)
  · exact small_ok u hu
  intro nx1 hn1
  have q1 : ∀ k, ¬ nx = nx1 + k := fun k => by omega
  have q2 : ∀ k, ¬ nx + 1 = nx1 + k := fun k => by omega
  have q3 : ∀ k, ¬ nx + 1 + 1 = nx1 + k := fun k => by omega
  cases h1 : smallB u
  · repeat (first | (first | (apply AOpl.step; rfl) | apply ASl.step); focus simp [*, -Option.some.injEq]; rfl | (first | (apply AOpl.stepG; rfl) | apply ASl.stepG); (focus simp [*]; done); focus simp [*, -Option.some.injEq]; rfl | (first | (apply AOpl.pass; rfl) | apply ASl.pass); (focus simp [*]; done) | (first | refine AOpl.nil ?_ | refine AWp.skip ?_ | refine AWp.exit ?_ | refine AWp.ret ?_ | refine ASl.nil ?_); try simp only [Then, InBlock, reduceIte, Nat.reduceEqDiff] | refine AWp.seq ?_ | refine AWp.reg rfl ?_ | refine AWp.block ?_ | apply AWp.condT; focus simp [*]; done | apply AWp.condF; focus simp [*]; done | refine AWp.regT (by kernel_rfl) (by kernel_rfl) rfl rfl ?_)
    (first | (first | (apply AOpl.callN; rfl) | apply ASl.call); (focus simp [*, -Option.some.injEq]; rfl); kernel_rfl | (first | (apply AOpl.callNG; rfl) | apply ASl.callg); (focus simp [*]; done); (focus simp [*, -Option.some.injEq]; rfl); kernel_rfl)
    · exact awake22_ok
    intro nx2 hn2
    repeat (first | (first | (apply AOpl.step; rfl) | apply ASl.step); focus simp [*, -Option.some.injEq]; rfl | (first | (apply AOpl.stepG; rfl) | apply ASl.stepG); (focus simp [*]; done); focus simp [*, -Option.some.injEq]; rfl | (first | (apply AOpl.pass; rfl) | apply ASl.pass); (focus simp [*]; done) | (first | refine AOpl.nil ?_ | refine AWp.skip ?_ | refine AWp.exit ?_ | refine AWp.ret ?_ | refine ASl.nil ?_); try simp only [Then, InBlock, reduceIte, Nat.reduceEqDiff] | refine AWp.seq ?_ | refine AWp.reg rfl ?_ | refine AWp.block ?_ | apply AWp.condT; focus simp [*]; done | apply AWp.condF; focus simp [*]; done | refine AWp.regT (by kernel_rfl) (by kernel_rfl) rfl rfl ?_)
    (refine ⟨_, (by simp [*]; rfl), ?_⟩; (try simp only [packA]))
  by_cases h2 : (20 : Int) < c.ctx.length
  · repeat (first | (first | (apply AOpl.step; rfl) | apply ASl.step); focus simp [*, -Option.some.injEq]; rfl | (first | (apply AOpl.stepG; rfl) | apply ASl.stepG); (focus simp [*]; done); focus simp [*, -Option.some.injEq]; rfl | (first | (apply AOpl.pass; rfl) | apply ASl.pass); (focus simp [*]; done) | (first | refine AOpl.nil ?_ | refine AWp.skip ?_ | refine AWp.exit ?_ | refine AWp.ret ?_ | refine ASl.nil ?_); try simp only [Then, InBlock, reduceIte, Nat.reduceEqDiff] | refine AWp.seq ?_ | refine AWp.reg rfl ?_ | refine AWp.block ?_ | apply AWp.condT; focus simp [*]; done | apply AWp.condF; focus simp [*]; done | refine AWp.regT (by kernel_rfl) (by kernel_rfl) rfl rfl ?_)
    (first | (first | (apply AOpl.callN; rfl) | apply ASl.call); (focus simp [*, -Option.some.injEq]; rfl); kernel_rfl | (first | (apply AOpl.callNG; rfl) | apply ASl.callg); (focus simp [*]; done); (focus simp [*, -Option.some.injEq]; rfl); kernel_rfl)
    · exact awake22_ok
    intro nx2 hn2
    repeat (first | (first | (apply AOpl.step; rfl) | apply ASl.step); focus simp [*, -Option.some.injEq]; rfl | (first | (apply AOpl.stepG; rfl) | apply ASl.stepG); (focus simp [*]; done); focus simp [*, -Option.some.injEq]; rfl | (first | (apply AOpl.pass; rfl) | apply ASl.pass); (focus simp [*]; done) | (first | refine AOpl.nil ?_ | refine AWp.skip ?_ | refine AWp.exit ?_ | refine AWp.ret ?_ | refine ASl.nil ?_); try simp only [Then, InBlock, reduceIte, Nat.reduceEqDiff] | refine AWp.seq ?_ | refine AWp.reg rfl ?_ | refine AWp.block ?_ | apply AWp.condT; focus simp [*]; done | apply AWp.condF; focus simp [*]; done | refine AWp.regT (by kernel_rfl) (by kernel_rfl) rfl rfl ?_)
    (refine ⟨_, (by simp [*]; rfl), ?_⟩; (try simp only [packA]))
  by_cases h3 : (20 : Int) < c.recv.ctx.length
  · repeat (first | (first | (apply AOpl.step; rfl) | apply ASl.step); focus simp [*, -Option.some.injEq]; rfl | (first | (apply AOpl.stepG; rfl) | apply ASl.stepG); (focus simp [*]; done); focus simp [*, -Option.some.injEq]; rfl | (first | (apply AOpl.pass; rfl) | apply ASl.pass); (focus simp [*]; done) | (first | refine AOpl.nil ?_ | refine AWp.skip ?_ | refine AWp.exit ?_ | refine AWp.ret ?_ | refine ASl.nil ?_); try simp only [Then, InBlock, reduceIte, Nat.reduceEqDiff] | refine AWp.seq ?_ | refine AWp.reg rfl ?_ | refine AWp.block ?_ | apply AWp.condT; focus simp [*]; done | apply AWp.condF; focus simp [*]; done | refine AWp.regT (by kernel_rfl) (by kernel_rfl) rfl rfl ?_)
    (first | (first | (apply AOpl.callN; rfl) | apply ASl.call); (focus simp [*, -Option.some.injEq]; rfl); kernel_rfl | (first | (apply AOpl.callNG; rfl) | apply ASl.callg); (focus simp [*]; done); (focus simp [*, -Option.some.injEq]; rfl); kernel_rfl)
    · exact awake22_ok
    intro nx2 hn2
    repeat (first | (first | (apply AOpl.step; rfl) | apply ASl.step); focus simp [*, -Option.some.injEq]; rfl | (first | (apply AOpl.stepG; rfl) | apply ASl.stepG); (focus simp [*]; done); focus simp [*, -Option.some.injEq]; rfl | (first | (apply AOpl.pass; rfl) | apply ASl.pass); (focus simp [*]; done) | (first | refine AOpl.nil ?_ | refine AWp.skip ?_ | refine AWp.exit ?_ | refine AWp.ret ?_ | refine ASl.nil ?_); try simp only [Then, InBlock, reduceIte, Nat.reduceEqDiff] | refine AWp.seq ?_ | refine AWp.reg rfl ?_ | refine AWp.block ?_ | apply AWp.condT; focus simp [*]; done | apply AWp.condF; focus simp [*]; done | refine AWp.regT (by kernel_rfl) (by kernel_rfl) rfl rfl ?_)
    (refine ⟨_, (by simp [*]; rfl), ?_⟩; (try simp only [packA]))
  have hf : fitU u = true := by unfold smallB at h1; rw [Bool.and_eq_true] at h1; exact h1.1
  have hu1 := (fit_bounds hu hf).1
  have p1 := (push_ok u hu1 s c.ctx (by omega) c.call c.recv.site hsite c.recv.ctx (by omega)).one cxG_pu (by simp [puL, pu_UnL, pu_SeL, puV, puIs]) (by simp only [puV]; exact puIs _)
  have p2 := (rpush_ok u hu1 s c.ctx (by omega) c.call c.recv.site hsite c.recv.ctx (by omega)).one cxG_pu (by simp [puL, pu_UnL, pu_SeL, puV, puIs]) (by simp only [puV]; exact puIs _)
  have p3 := (heap_ok s c.ctx (by omega)).one cxG_pu (by simp [puL, pu_SeL, puV, puIs]) (by simp only [puV]; exact puIs _)
  have p4 := (rheap_ok s c.ctx (by omega)).one cxG_pu (by simp [puL, pu_SeL, puV, puIs]) (by simp only [puV]; exact puIs _)
  have l1 := pushL_len u s c.ctx c.call c.recv.site c.recv.ctx
  have l2 : (heapL22 s c.ctx).length ≤ c.ctx.length := by
    unfold heapL22; split
    · simp
    · exact lastL_len _ _
  generalize pushL u s c.ctx c.call c.recv.site c.recv.ctx = L1 at *
  generalize heapL22 s c.ctx = L2 at *
  repeat (first | (first | (apply AOpl.step; rfl) | apply ASl.step); focus simp [*, -Option.some.injEq]; rfl | (first | (apply AOpl.stepG; rfl) | apply ASl.stepG); (focus simp [*]; done); focus simp [*, -Option.some.injEq]; rfl | (first | (apply AOpl.pass; rfl) | apply ASl.pass); (focus simp [*]; done) | (first | refine AOpl.nil ?_ | refine AWp.skip ?_ | refine AWp.exit ?_ | refine AWp.ret ?_ | refine ASl.nil ?_); try simp only [Then, InBlock, reduceIte, Nat.reduceEqDiff] | refine AWp.seq ?_ | refine AWp.reg rfl ?_ | refine AWp.block ?_ | apply AWp.condT; focus simp [*]; done | apply AWp.condF; focus simp [*]; done | refine AWp.regT (by kernel_rfl) (by kernel_rfl) rfl rfl ?_)
  (first | (first | (apply AOpl.callN; rfl) | apply ASl.call); (focus simp [*, -Option.some.injEq]; rfl); kernel_rfl | (first | (apply AOpl.callNG; rfl) | apply ASl.callg); (focus simp [*]; done); (focus simp [*, -Option.some.injEq]; rfl); kernel_rfl)
  · exact awake22_ok.one cxG_pu rfl rfl
  repeat (first | (first | (apply AOpl.step; rfl) | apply ASl.step); focus simp [*, -Option.some.injEq]; rfl | (first | (apply AOpl.stepG; rfl) | apply ASl.stepG); (focus simp [*]; done); focus simp [*, -Option.some.injEq]; rfl | (first | (apply AOpl.pass; rfl) | apply ASl.pass); (focus simp [*]; done) | (first | refine AOpl.nil ?_ | refine AWp.skip ?_ | refine AWp.exit ?_ | refine AWp.ret ?_ | refine ASl.nil ?_); try simp only [Then, InBlock, reduceIte, Nat.reduceEqDiff] | refine AWp.seq ?_ | refine AWp.reg rfl ?_ | refine AWp.block ?_ | apply AWp.condT; focus simp [*]; done | apply AWp.condF; focus simp [*]; done | refine AWp.regT (by kernel_rfl) (by kernel_rfl) rfl rfl ?_)
  (first | (first | (apply AOpl.callN; rfl) | apply ASl.call); (focus simp [*, -Option.some.injEq]; rfl); kernel_rfl | (first | (apply AOpl.callNG; rfl) | apply ASl.callg); (focus simp [*]; done); (focus simp [*, -Option.some.injEq]; rfl); kernel_rfl)
  · exact (scheck_ok s).one cxG_pu (by simp [puL, puV, pu_SeL]) rfl
  repeat (first | (first | (apply AOpl.step; rfl) | apply ASl.step); focus simp [*, -Option.some.injEq]; rfl | (first | (apply AOpl.stepG; rfl) | apply ASl.stepG); (focus simp [*]; done); focus simp [*, -Option.some.injEq]; rfl | (first | (apply AOpl.pass; rfl) | apply ASl.pass); (focus simp [*]; done) | (first | refine AOpl.nil ?_ | refine AWp.skip ?_ | refine AWp.exit ?_ | refine AWp.ret ?_ | refine ASl.nil ?_); try simp only [Then, InBlock, reduceIte, Nat.reduceEqDiff] | refine AWp.seq ?_ | refine AWp.reg rfl ?_ | refine AWp.block ?_ | apply AWp.condT; focus simp [*]; done | apply AWp.condF; focus simp [*]; done | refine AWp.regT (by kernel_rfl) (by kernel_rfl) rfl rfl ?_)
  (first | (first | (apply AOpl.callN; rfl) | apply ASl.call); (focus simp [*, -Option.some.injEq]; rfl); kernel_rfl | (first | (apply AOpl.callNG; rfl) | apply ASl.callg); (focus simp [*]; done); (focus simp [*, -Option.some.injEq]; rfl); kernel_rfl)
  · exact (rscheck_ok s).one cxG_pu (by simp [puL, puV, pu_SeL]) rfl
  repeat (first | (first | (apply AOpl.step; rfl) | apply ASl.step); focus simp [cvUn, cvSe, cvCa, *, -Option.some.injEq]; rfl | (first | (apply AOpl.stepG; rfl) | apply ASl.stepG); (focus simp [cvUn, cvSe, cvCa, *]; done); focus simp [cvUn, cvSe, cvCa, *, -Option.some.injEq]; rfl | (first | (apply AOpl.pass; rfl) | apply ASl.pass); (focus simp [cvUn, cvSe, cvCa, *]; done) | (first | refine AOpl.nil ?_ | refine AWp.skip ?_ | refine AWp.exit ?_ | refine AWp.ret ?_ | refine ASl.nil ?_); try simp only [Then, InBlock, reduceIte, Nat.reduceEqDiff] | refine AWp.seq ?_ | refine AWp.reg rfl ?_ | refine AWp.block ?_ | apply AWp.condT; focus simp [cvUn, cvSe, cvCa, *]; done | apply AWp.condF; focus simp [cvUn, cvSe, cvCa, *]; done | refine AWp.regT (by kernel_rfl) (by kernel_rfl) rfl rfl ?_)
  (first | (first | (apply AOpl.callN; rfl) | apply ASl.call); (focus simp [cvUn, cvSe, cvCa, *, -Option.some.injEq]; rfl); kernel_rfl | (first | (apply AOpl.callNG; rfl) | apply ASl.callg); (focus simp [cvUn, cvSe, cvCa, *]; done); (focus simp [cvUn, cvSe, cvCa, *, -Option.some.injEq]; rfl); kernel_rfl)
  · exact p1
  repeat (first | (first | (apply AOpl.step; rfl) | apply ASl.step); focus simp [cvUn, cvSe, cvCa, *, -Option.some.injEq]; rfl | (first | (apply AOpl.stepG; rfl) | apply ASl.stepG); (focus simp [cvUn, cvSe, cvCa, *]; done); focus simp [cvUn, cvSe, cvCa, *, -Option.some.injEq]; rfl | (first | (apply AOpl.pass; rfl) | apply ASl.pass); (focus simp [cvUn, cvSe, cvCa, *]; done) | (first | refine AOpl.nil ?_ | refine AWp.skip ?_ | refine AWp.exit ?_ | refine AWp.ret ?_ | refine ASl.nil ?_); try simp only [Then, InBlock, reduceIte, Nat.reduceEqDiff] | refine AWp.seq ?_ | refine AWp.reg rfl ?_ | refine AWp.block ?_ | apply AWp.condT; focus simp [cvUn, cvSe, cvCa, *]; done | apply AWp.condF; focus simp [cvUn, cvSe, cvCa, *]; done | refine AWp.regT (by kernel_rfl) (by kernel_rfl) rfl rfl ?_)
  (first | (first | (apply AOpl.callN; rfl) | apply ASl.call); (focus simp [cvUn, cvSe, cvCa, *, -Option.some.injEq]; rfl); kernel_rfl | (first | (apply AOpl.callNG; rfl) | apply ASl.callg); (focus simp [cvUn, cvSe, cvCa, *]; done); (focus simp [cvUn, cvSe, cvCa, *, -Option.some.injEq]; rfl); kernel_rfl)
  · exact p2
  repeat (first | (first | (apply AOpl.step; rfl) | apply ASl.step); focus simp [*, -Option.some.injEq]; rfl | (first | (apply AOpl.stepG; rfl) | apply ASl.stepG); (focus simp [*]; done); focus simp [*, -Option.some.injEq]; rfl | (first | (apply AOpl.pass; rfl) | apply ASl.pass); (focus simp [*]; done) | (first | refine AOpl.nil ?_ | refine AWp.skip ?_ | refine AWp.exit ?_ | refine AWp.ret ?_ | refine ASl.nil ?_); try simp only [Then, InBlock, reduceIte, Nat.reduceEqDiff] | refine AWp.seq ?_ | refine AWp.reg rfl ?_ | refine AWp.block ?_ | apply AWp.condT; focus simp [*]; done | apply AWp.condF; focus simp [*]; done | refine AWp.regT (by kernel_rfl) (by kernel_rfl) rfl rfl ?_)
  (first | (first | (apply AOpl.callN; rfl) | apply ASl.call); (focus simp [*, -Option.some.injEq]; rfl); kernel_rfl | (first | (apply AOpl.callNG; rfl) | apply ASl.callg); (focus simp [*]; done); (focus simp [*, -Option.some.injEq]; rfl); kernel_rfl)
  · exact sameInts_one L1 (by omega)
  repeat (first | (first | (apply AOpl.step; rfl) | apply ASl.step); focus simp [cvUn, cvSe, cvCa, *, -Option.some.injEq]; rfl | (first | (apply AOpl.stepG; rfl) | apply ASl.stepG); (focus simp [cvUn, cvSe, cvCa, *]; done); focus simp [cvUn, cvSe, cvCa, *, -Option.some.injEq]; rfl | (first | (apply AOpl.pass; rfl) | apply ASl.pass); (focus simp [cvUn, cvSe, cvCa, *]; done) | (first | refine AOpl.nil ?_ | refine AWp.skip ?_ | refine AWp.exit ?_ | refine AWp.ret ?_ | refine ASl.nil ?_); try simp only [Then, InBlock, reduceIte, Nat.reduceEqDiff] | refine AWp.seq ?_ | refine AWp.reg rfl ?_ | refine AWp.block ?_ | apply AWp.condT; focus simp [cvUn, cvSe, cvCa, *]; done | apply AWp.condF; focus simp [cvUn, cvSe, cvCa, *]; done | refine AWp.regT (by kernel_rfl) (by kernel_rfl) rfl rfl ?_)
  (first | (first | (apply AOpl.callN; rfl) | apply ASl.call); (focus simp [cvUn, cvSe, cvCa, *, -Option.some.injEq]; rfl); kernel_rfl | (first | (apply AOpl.callNG; rfl) | apply ASl.callg); (focus simp [cvUn, cvSe, cvCa, *]; done); (focus simp [cvUn, cvSe, cvCa, *, -Option.some.injEq]; rfl); kernel_rfl)
  · exact p3
  repeat (first | (first | (apply AOpl.step; rfl) | apply ASl.step); focus simp [cvUn, cvSe, cvCa, *, -Option.some.injEq]; rfl | (first | (apply AOpl.stepG; rfl) | apply ASl.stepG); (focus simp [cvUn, cvSe, cvCa, *]; done); focus simp [cvUn, cvSe, cvCa, *, -Option.some.injEq]; rfl | (first | (apply AOpl.pass; rfl) | apply ASl.pass); (focus simp [cvUn, cvSe, cvCa, *]; done) | (first | refine AOpl.nil ?_ | refine AWp.skip ?_ | refine AWp.exit ?_ | refine AWp.ret ?_ | refine ASl.nil ?_); try simp only [Then, InBlock, reduceIte, Nat.reduceEqDiff] | refine AWp.seq ?_ | refine AWp.reg rfl ?_ | refine AWp.block ?_ | apply AWp.condT; focus simp [cvUn, cvSe, cvCa, *]; done | apply AWp.condF; focus simp [cvUn, cvSe, cvCa, *]; done | refine AWp.regT (by kernel_rfl) (by kernel_rfl) rfl rfl ?_)
  (first | (first | (apply AOpl.callN; rfl) | apply ASl.call); (focus simp [cvUn, cvSe, cvCa, *, -Option.some.injEq]; rfl); kernel_rfl | (first | (apply AOpl.callNG; rfl) | apply ASl.callg); (focus simp [cvUn, cvSe, cvCa, *]; done); (focus simp [cvUn, cvSe, cvCa, *, -Option.some.injEq]; rfl); kernel_rfl)
  · exact p4
  repeat (first | (first | (apply AOpl.step; rfl) | apply ASl.step); focus simp [*, -Option.some.injEq]; rfl | (first | (apply AOpl.stepG; rfl) | apply ASl.stepG); (focus simp [*]; done); focus simp [*, -Option.some.injEq]; rfl | (first | (apply AOpl.pass; rfl) | apply ASl.pass); (focus simp [*]; done) | (first | refine AOpl.nil ?_ | refine AWp.skip ?_ | refine AWp.exit ?_ | refine AWp.ret ?_ | refine ASl.nil ?_); try simp only [Then, InBlock, reduceIte, Nat.reduceEqDiff] | refine AWp.seq ?_ | refine AWp.reg rfl ?_ | refine AWp.block ?_ | apply AWp.condT; focus simp [*]; done | apply AWp.condF; focus simp [*]; done | refine AWp.regT (by kernel_rfl) (by kernel_rfl) rfl rfl ?_)
  (first | (first | (apply AOpl.callN; rfl) | apply ASl.call); (focus simp [*, -Option.some.injEq]; rfl); kernel_rfl | (first | (apply AOpl.callNG; rfl) | apply ASl.callg); (focus simp [*]; done); (focus simp [*, -Option.some.injEq]; rfl); kernel_rfl)
  · exact sameInts_one L2 (by omega)
  repeat (first | (first | (apply AOpl.step; rfl) | apply ASl.step); focus simp [*, -Option.some.injEq]; rfl | (first | (apply AOpl.stepG; rfl) | apply ASl.stepG); (focus simp [*]; done); focus simp [*, -Option.some.injEq]; rfl | (first | (apply AOpl.pass; rfl) | apply ASl.pass); (focus simp [*]; done) | (first | refine AOpl.nil ?_ | refine AWp.skip ?_ | refine AWp.exit ?_ | refine AWp.ret ?_ | refine ASl.nil ?_); try simp only [Then, InBlock, reduceIte, Nat.reduceEqDiff] | refine AWp.seq ?_ | refine AWp.reg rfl ?_ | refine AWp.block ?_ | apply AWp.condT; focus simp [*]; done | apply AWp.condF; focus simp [*]; done | refine AWp.regT (by kernel_rfl) (by kernel_rfl) rfl rfl ?_)
  (refine ⟨_, (by simp [*]; rfl), ?_⟩; (try simp only [packA]))
end Go.Proofs.YtdjllogimomgmaaGreatDoor
