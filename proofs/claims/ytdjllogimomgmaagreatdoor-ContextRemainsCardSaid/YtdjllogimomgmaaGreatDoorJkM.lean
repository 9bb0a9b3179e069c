/-
  The context of a callee in the reference; contexts of objects; lists compared; walked.
-/
import Derived.Test.YtdjllogimomgmaaGreatDoorJkL
set_option linter.unusedSimpArgs false
set_option linter.unusedVariables false
namespace Go.Proofs.YtdjllogimomgmaaGreatDoor
open Ax Tx Go.RowKit
attribute [local simp] stepS Ax.stepT Dl.on qstep astep estep rd putE over argE ofV ofS loadA pickCells isAggD faddA fieldA partA iaddA idxA sliA bnd binA intA strA unA convA bltA lenA mapOf lookA findK keyD scalD storeA mupA appA srcA srcD upd drp Dl.hp Dl.nx CV.cs CV.one buildA placesA fillA zrep tasA ifaceD eqA eqFs eqIs range2 copyA nbeq nble nblt decEq beqI bneI beqS bneS isED Int.ofNat_inj List.getElem?_map List.getElem?_eq_getElem Option.map_some ti_int ti_bool ti_str ti_i64 ti_Strs ti_Hi ti_Cds ti_Cd ti_Flds ti_Fld ti_Sgs ti_Sg ti_Ins ti_Inss ti_Ints ti_Fu ti_Fus ti_Un ti_Se ti_Hs ti_Sits ti_Sit gd gdB callA resA op1
theorem puIs (l : List Int) : puR (l.map cvI) = true := puR_mapR (fun _ => rfl) l
theorem with_one (l : List Int) (x : Int) (hl : l.length ≤ 1000) : FCall1 Tryz.prog cxG 47 [.lst (l.map cvI), .int .i64 x] (.lst ((l ++ [x]).map cvI)) := (with_ok l x hl).one cxG_pu (by simp [puL, puV, puIs]) (by simp only [puV]; exact puIs _)
theorem rlast_one (l : List Int) (k : Nat) (hl : l.length ≤ 1000) (hk : k ≤ 1000) : FCall1 Tryz.prog cxG 46 [.lst (l.map cvI), .int .i64 k] (.lst ((lastL l k).map cvI)) := (rlast_ok l k hl hk).one cxG_pu (by simp [puL, puV, puIs]) (by simp only [puV]; exact puIs _)
def heapL22 (s : Se) (ctx : List Int) : List Int := if sensE s ≠ 0 ∨ s.k < 2 then [] else lastL ctx (s.k - 1).toNat
set_option maxRecDepth 10000 in
set_option maxHeartbeats 4000000 in
theorem heap_ok (s : Se) (ctx : List Int) (hc : ctx.length ≤ 999) : FCall Tryz.prog cxG 24 [.agg (cvSe s), .lst (ctx.map cvI)] fun r => r = .ret (.lst ((heapL22 s ctx).map cvI)) := by
  obtain ⟨w, hw⟩ : ∃ w, w = heapL22 s ctx := ⟨_, rfl⟩
  rw [← hw]
  unfold heapL22 at hw
  have nilr : w = [] → FCall Tryz.prog cxG 24 [.agg (cvSe s), .lst (ctx.map cvI)] (fun r => r = .ret .nils) → FCall Tryz.prog cxG 24 [.agg (cvSe s), .lst (ctx.map cvI)] fun r => r = .ret (.lst (w.map cvI)) := fun h hf => by rw [h]; exact FCall.nil_lst hf
  by_cases h1 : sensE s = 0
  case neg =>
    rw [if_pos (.inl h1)] at hw
    refine nilr hw ?_
    clear hw nilr
    refine FCall.ofBody Tryz.func24 rfl rfl fun nx => ?_
    repeat (first | (first | (apply AOpl.step; rfl) | apply ASl.step); focus simp [cvSe, *, -Option.some.injEq]; rfl | (first | (apply AOpl.stepG; rfl) | apply ASl.stepG); (focus simp [cvSe, *]; done); focus simp [cvSe, *, -Option.some.injEq]; rfl | (first | (apply AOpl.pass; rfl) | apply ASl.pass); (focus simp [cvSe, *]; done) | (first | refine AOpl.nil ?_ | refine AWp.skip ?_ | refine AWp.exit ?_ | refine AWp.ret ?_ | refine ASl.nil ?_); try simp only [Then, InBlock, reduceIte, Nat.reduceEqDiff] | refine AWp.seq ?_ | refine AWp.reg rfl ?_ | refine AWp.block ?_ | apply AWp.condT; focus simp [cvSe, *]; done | apply AWp.condF; focus simp [cvSe, *]; done | refine AWp.regT (by kernel_rfl) (by kernel_rfl) rfl rfl ?_)
    (first | (first | (apply AOpl.callN; rfl) | apply ASl.call); (focus simp [cvSe, *, -Option.some.injEq]; rfl); kernel_rfl | (first | (apply AOpl.callNG; rfl) | apply ASl.callg); (focus simp [cvSe, *]; done); (focus simp [cvSe, *, -Option.some.injEq]; rfl); kernel_rfl)
    · exact scheck_ok s
    intro nx2 hn2
    repeat (first | (first | (apply AOpl.step; rfl) | apply ASl.step); focus simp [*, -Option.some.injEq]; rfl | (first | (apply AOpl.stepG; rfl) | apply ASl.stepG); (focus simp [*]; done); focus simp [*, -Option.some.injEq]; rfl | (first | (apply AOpl.pass; rfl) | apply ASl.pass); (focus simp [*]; done) | (first | refine AOpl.nil ?_ | refine AWp.skip ?_ | refine AWp.exit ?_ | refine AWp.ret ?_ | refine ASl.nil ?_); try simp only [Then, InBlock, reduceIte, Nat.reduceEqDiff] | refine AWp.seq ?_ | refine AWp.reg rfl ?_ | refine AWp.block ?_ | apply AWp.condT; focus simp [*]; done | apply AWp.condF; focus simp [*]; done | refine AWp.regT (by kernel_rfl) (by kernel_rfl) rfl rfl ?_)
    (refine ⟨_, (by simp [*]; rfl), ?_⟩; (try simp only [packA]))
    all_goals rfl
  have hck := scheck_ok s
  rw [h1] at hck
  obtain ⟨k0, k2, kd0, kd3, kz⟩ := sens_k h1
  by_cases h2 : s.k < 2
  · rw [if_pos (.inr h2)] at hw
    refine nilr hw ?_
    clear hw nilr kz
    refine FCall.ofBody Tryz.func24 rfl rfl fun nx => ?_
    repeat (first | (first | (apply AOpl.step; rfl) | apply ASl.step); focus simp [cvSe, *, -Option.some.injEq]; rfl | (first | (apply AOpl.stepG; rfl) | apply ASl.stepG); (focus simp [cvSe, *]; done); focus simp [cvSe, *, -Option.some.injEq]; rfl | (first | (apply AOpl.pass; rfl) | apply ASl.pass); (focus simp [cvSe, *]; done) | (first | refine AOpl.nil ?_ | refine AWp.skip ?_ | refine AWp.exit ?_ | refine AWp.ret ?_ | refine ASl.nil ?_); try simp only [Then, InBlock, reduceIte, Nat.reduceEqDiff] | refine AWp.seq ?_ | refine AWp.reg rfl ?_ | refine AWp.block ?_ | apply AWp.condT; focus simp [cvSe, *]; done | apply AWp.condF; focus simp [cvSe, *]; done | refine AWp.regT (by kernel_rfl) (by kernel_rfl) rfl rfl ?_)
    (first | (first | (apply AOpl.callN; rfl) | apply ASl.call); (focus simp [cvSe, *, -Option.some.injEq]; rfl); kernel_rfl | (first | (apply AOpl.callNG; rfl) | apply ASl.callg); (focus simp [cvSe, *]; done); (focus simp [cvSe, *, -Option.some.injEq]; rfl); kernel_rfl)
    · exact hck
    intro nx2 hn2
    have q1 : ∀ k, ¬ nx = nx2 + k := fun k => by omega
    repeat (first | (first | (apply AOpl.step; rfl) | apply ASl.step); focus simp [*, -Option.some.injEq]; rfl | (first | (apply AOpl.stepG; rfl) | apply ASl.stepG); (focus simp [*]; done); focus simp [*, -Option.some.injEq]; rfl | (first | (apply AOpl.pass; rfl) | apply ASl.pass); (focus simp [*]; done) | (first | refine AOpl.nil ?_ | refine AWp.skip ?_ | refine AWp.exit ?_ | refine AWp.ret ?_ | refine ASl.nil ?_); try simp only [Then, InBlock, reduceIte, Nat.reduceEqDiff] | refine AWp.seq ?_ | refine AWp.reg rfl ?_ | refine AWp.block ?_ | apply AWp.condT; focus simp [*]; done | apply AWp.condF; focus simp [*]; done | refine AWp.regT (by kernel_rfl) (by kernel_rfl) rfl rfl ?_)
    (refine ⟨_, (by simp [*]; rfl), ?_⟩; (try simp only [packA]))
    all_goals rfl
  rw [if_neg (by rintro (h | h); exact h h1; exact h2 h)] at hw
  clear nilr kz
  obtain ⟨kd, kk⟩ := s
  simp only at h1 hw h2 k0 k2
  obtain rfl : kk = 2 := by omega
  have hw : w = lastL ctx 1 := hw
  have wz : IntKind.i64.wrap 1 = 1 := by rw [IntKind.wrap_i64]; rfl
  refine FCall.ofBody Tryz.func24 rfl rfl fun nx => ?_
  repeat (first | (first | (apply AOpl.step; rfl) | apply ASl.step); focus simp [cvSe, *, -Option.some.injEq]; rfl | (first | (apply AOpl.stepG; rfl) | apply ASl.stepG); (focus simp [cvSe, *]; done); focus simp [cvSe, *, -Option.some.injEq]; rfl | (first | (apply AOpl.pass; rfl) | apply ASl.pass); (focus simp [cvSe, *]; done) | (first | refine AOpl.nil ?_ | refine AWp.skip ?_ | refine AWp.exit ?_ | refine AWp.ret ?_ | refine ASl.nil ?_); try simp only [Then, InBlock, reduceIte, Nat.reduceEqDiff] | refine AWp.seq ?_ | refine AWp.reg rfl ?_ | refine AWp.block ?_ | apply AWp.condT; focus simp [cvSe, *]; done | apply AWp.condF; focus simp [cvSe, *]; done | refine AWp.regT (by kernel_rfl) (by kernel_rfl) rfl rfl ?_)
  (first | (first | (apply AOpl.callN; rfl) | apply ASl.call); (focus simp [cvSe, *, -Option.some.injEq]; rfl); kernel_rfl | (first | (apply AOpl.callNG; rfl) | apply ASl.callg); (focus simp [cvSe, *]; done); (focus simp [cvSe, *, -Option.some.injEq]; rfl); kernel_rfl)
  · exact hck
  intro nx2 hn2
  have q1 : ∀ k, ¬ nx = nx2 + k := fun k => by omega
  repeat (first | (first | (apply AOpl.step; rfl) | apply ASl.step); focus simp [*, -Option.some.injEq]; rfl | (first | (apply AOpl.stepG; rfl) | apply ASl.stepG); (focus simp [*]; done); focus simp [*, -Option.some.injEq]; rfl | (first | (apply AOpl.pass; rfl) | apply ASl.pass); (focus simp [*]; done) | (first | refine AOpl.nil ?_ | refine AWp.skip ?_ | refine AWp.exit ?_ | refine AWp.ret ?_ | refine ASl.nil ?_); try simp only [Then, InBlock, reduceIte, Nat.reduceEqDiff] | refine AWp.seq ?_ | refine AWp.reg rfl ?_ | refine AWp.block ?_ | apply AWp.condT; focus simp [*]; done | apply AWp.condF; focus simp [*]; done | refine AWp.regT (by kernel_rfl) (by kernel_rfl) rfl rfl ?_)
  (first | (first | (apply AOpl.callN; rfl) | apply ASl.call); (focus simp [*, -Option.some.injEq]; rfl); kernel_rfl | (first | (apply AOpl.callNG; rfl) | apply ASl.callg); (focus simp [*]; done); (focus simp [*, -Option.some.injEq]; rfl); kernel_rfl)
  · exact clast_nil 1 ctx (by omega) (by omega)
  intro nx4 hn4
  repeat (first | (first | (apply AOpl.step; rfl) | apply ASl.step); focus simp [*, -Option.some.injEq]; rfl | (first | (apply AOpl.stepG; rfl) | apply ASl.stepG); (focus simp [*]; done); focus simp [*, -Option.some.injEq]; rfl | (first | (apply AOpl.pass; rfl) | apply ASl.pass); (focus simp [*]; done) | (first | refine AOpl.nil ?_ | refine AWp.skip ?_ | refine AWp.exit ?_ | refine AWp.ret ?_ | refine ASl.nil ?_); try simp only [Then, InBlock, reduceIte, Nat.reduceEqDiff] | refine AWp.seq ?_ | refine AWp.reg rfl ?_ | refine AWp.block ?_ | apply AWp.condT; focus simp [*]; done | apply AWp.condF; focus simp [*]; done | refine AWp.regT (by kernel_rfl) (by kernel_rfl) rfl rfl ?_)
  (refine ⟨_, (by simp [*]; rfl), ?_⟩; (try simp only [packA]))
  all_goals (rw [hw] <;> rfl)
end Go.Proofs.YtdjllogimomgmaaGreatDoor
