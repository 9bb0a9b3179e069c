/-
  The law ContextRemains.
-/
import Derived.Test.YtdjllogimomgmaaGreatDoorCkLaw
set_option linter.unusedSimpArgs false
set_option linter.unusedVariables false
namespace Go.Proofs.YtdjllogimomgmaaGreatDoor
open Ax Tx
theorem lastL_short (l : List Int) (k : Nat) : (lastL l k).length ≤ k := by unfold lastL; rw [List.length_drop]; omega
theorem preL_of {a b : List Int} {m : Nat} (h : a = b.drop m) : preL a b = true := by
  subst h
  unfold preL
  rw [decide_eq_true_eq, List.length_drop]
  refine ⟨by omega, ?_⟩
  by_cases hm : m ≤ b.length
  · rw [show b.length - (b.length - m) = m by omega]
  · rw [List.drop_of_length_le (by omega), List.drop_of_length_le (by omega)]
theorem preL_nil (b : List Int) : preL [] b = true := preL_of (m := b.length) (by rw [List.drop_of_length_le (Nat.le_refl _)])
theorem preL_last (l : List Int) {m n : Nat} (h : m ≤ n) : preL (lastL l m) (lastL l n) = true := by
  refine preL_of (m := (lastL l n).length - m) ?_
  unfold lastL
  rw [List.length_drop, List.drop_drop]
  congr 1
  omega
theorem preL_lastL (l : List Int) (n : Nat) : preL (lastL l n) l = true := preL_of rfl
theorem last_cut (c : List Int) (x : Int) (t : Nat) : lastL (lastL c t ++ [x]) t = lastL (c ++ [x]) t := by
  match t with
  | 0 => unfold lastL; rw [List.drop_of_length_le (by omega), List.drop_of_length_le (by omega)]
  | 1 => rw [lastL_app2 _ _ _ (by simp), lastL_app2 _ _ _ (by simp)]
  | t + 2 =>
    rw [lastL_app _ _ _ (by simp), lastL_app _ _ _ (by simp)]
    congr 1
    show lastL (lastL c (t + 2)) (t + 1) = lastL c (t + 1)
    unfold lastL
    rw [List.length_drop, List.drop_drop]
    congr 1
    omega
theorem last_last (c : List Int) (t : Nat) : lastL (lastL c t) t = lastL c t := by
  unfold lastL
  rw [List.length_drop, List.drop_drop]
  congr 1
  omega
theorem push_cut (u : Un) (s : Se) (t : Nat) (ht : s.k = t) (ctx : List Int) (call site : Int) (rctx : List Int) : pushL u s (lastL ctx t) call site (lastL rctx t) = pushL u s ctx call site rctx := by
  unfold pushL
  have e : s.k.toNat = t := by rw [ht]; rfl
  rw [e]
  split
  · rfl
  · split
    · exact last_cut _ _ _
    · cases siteAt u site with
      | none => exact last_last _ _
      | some p => show (if _ then _ else _) = (if _ then _ else _); rw [last_cut, last_cut]
theorem push_pre (u : Un) (kd : Int) (t k : Nat) (h : t ≤ k) (hs : sensE ⟨kd, t⟩ = 0 ∨ t = 0) (hk : sensE ⟨kd, k⟩ = 0) (ctx : List Int) (call site : Int) (rctx : List Int) : preL (pushL u ⟨kd, t⟩ ctx call site rctx) (pushL u ⟨kd, k⟩ ctx call site rctx) = true := by
  by_cases ht : t = 0
  · have : pushL u ⟨kd, t⟩ ctx call site rctx = [] := by unfold pushL; rw [if_pos (.inr (by simp [ht]))]
    rw [this]; exact preL_nil _
  · have hs' : sensE ⟨kd, t⟩ = 0 := by rcases hs with h | h; exact h; exact absurd h ht
    unfold pushL
    have n1 : ¬ (sensE ⟨kd, (t : Int)⟩ ≠ 0 ∨ (t : Int) = 0) := by rintro (h' | h'); exact h' hs'; omega
    have n2 : ¬ (sensE ⟨kd, (k : Int)⟩ ≠ 0 ∨ (k : Int) = 0) := by rintro (h' | h'); exact h' hk; omega
    rw [if_neg n1, if_neg n2]
    simp only [Int.toNat_natCast]
    by_cases k1 : kd = 1
    · rw [if_pos k1, if_pos k1]; exact preL_last _ h
    · rw [if_neg k1, if_neg k1]
      cases siteAt u site with
      | none => exact preL_last _ h
      | some p =>
        show preL (if _ then _ else _) (if _ then _ else _) = true
        by_cases k2 : kd = 2
        · rw [if_pos k2, if_pos k2]; exact preL_last _ h
        · rw [if_neg k2, if_neg k2]; exact preL_last _ h
theorem pushL_short (u : Un) (kd : Int) (t : Nat) (ctx : List Int) (call site : Int) (rctx : List Int) : (pushL u ⟨kd, t⟩ ctx call site rctx).length ≤ t := by
  unfold pushL
  simp only [Int.toNat_natCast]
  split
  · simp
  · split
    · exact lastL_short _ _
    · cases siteAt u site with
      | none => exact lastL_short _ _
      | some p =>
        show (if _ then _ else _ : List Int).length ≤ t
        split
        · exact lastL_short _ _
        · exact lastL_short _ _
end Go.Proofs.YtdjllogimomgmaaGreatDoor
namespace Go.Proofs.YtdjllogimomgmaaGreatDoor
open Ax Tx Go.RowKit
attribute [local simp] stepS Ax.stepT Dl.on qstep astep estep rd putE over argE ofV ofS loadA pickCells isAggD faddA fieldA partA iaddA idxA bnd binA intA strA unA convA lenA mapOf lookA findK keyD scalD storeA mupA appA srcA srcD upd drp Dl.hp Dl.nx CV.cs CV.one buildA placesA fillA zrep tasA ifaceD eqA eqFs eqIs range2 copyA nbeq nble nblt decEq beqI bneI beqS bneS isED Int.ofNat_inj List.getElem?_map List.getElem?_eq_getElem Option.map_some ti_int ti_bool ti_str ti_i64 ti_Strs ti_Hi ti_Cds ti_Cd ti_Flds ti_Fld ti_Sgs ti_Sg ti_Ins ti_Inss ti_Ints ti_Fu ti_Fus ti_Un ti_Se ti_Hs ti_Sits ti_Sit ti_Ca gd gdB callA resA op1
def maxI (x y : Int) : Int := if y > x then y else x
theorem maxI_at (l : List Int) (t : Nat) (hl : l.length ≤ 1000) (ht : t ≤ 1000) : maxI 0 (IntKind.i64.wrap ((l.length : Int) - t)) = ((l.length - t : Nat) : Int) := by
  rw [IntKind.wrap_i64]
  unfold maxI
  split <;> omega
set_option maxRecDepth 10000 in
set_option maxHeartbeats 16000000 in
theorem law_ContextRemains (u : Un) (hu : UnB u) (s : Se) (hs : SeB s) (c : Ca) (hc : CaB c) : FCall Tryz.prog cxG 8 [.agg (cvUn u), .agg (cvSe s), .agg (cvCa c)] fun r => r = .ret (.bool true) := by
  have hsite : c.recv.site ≤ (maxLen : Int) := by have := hc.2.2.1; simp only [In64] at this; simp only [maxLen]; omega
  have bl : ∀ (H : Heap) (t : TypeId) (x : CV), bltA Tryz.prog H .len [t] [x] = lenA Tryz.prog H t x := fun _ _ _ => rfl
  have bm : ∀ (H : Heap) (t : List TypeId) (k k' : IntKind) (x y : Int), bltA Tryz.prog H .max t [.int k x, .int k' y] = some (.int k (maxI x y)) := fun _ _ _ _ _ _ => rfl
  refine FCall.ofBody Tryz.func8 rfl rfl fun nx => ?_
  have e2 : ¬ nx = nx + 1 + 1 := by omega
  repeat (first | (first | (apply AOpl.step; rfl) | apply ASl.step); focus simp [cvUn, cvSe, cvCa, *, -Option.some.injEq]; rfl | (first | (apply AOpl.stepG; rfl) | apply ASl.stepG); (focus simp [cvUn, cvSe, cvCa, *]; done); focus simp [cvUn, cvSe, cvCa, *, -Option.some.injEq]; rfl | (first | (apply AOpl.pass; rfl) | apply ASl.pass); (focus simp [cvUn, cvSe, cvCa, *]; done) | (first | refine AOpl.nil ?_ | refine AWp.skip ?_ | refine AWp.exit ?_ | refine AWp.ret ?_ | refine ASl.nil ?_); try simp only [Then, InBlock, reduceIte, Nat.reduceEqDiff] | refine AWp.seq ?_ | refine AWp.reg rfl ?_ | refine AWp.block ?_ | apply AWp.condT; focus simp [cvUn, cvSe, cvCa, *]; done | apply AWp.condF; focus simp [cvUn, cvSe, cvCa, *]; done | refine AWp.regT (by kernel_rfl) (by kernel_rfl) rfl rfl ?_)
  (first | (first | (apply AOpl.callN; rfl) | apply ASl.call); (focus simp [cvUn, cvSe, cvCa, *, -Option.some.injEq]; rfl); kernel_rfl | (first | (apply AOpl.callNG; rfl) | apply ASl.callg); (focus simp [cvUn, cvSe, cvCa, *]; done); (focus simp [cvUn, cvSe, cvCa, *, -Option.some.injEq]; rfl); kernel_rfl)
  · exact small_ok u hu
  intro nx1 hn1
  cases h1 : smallB u
  · repeat (first | (first | (apply AOpl.step; rfl) | apply ASl.step); focus simp [*, -Option.some.injEq]; rfl | (first | (apply AOpl.stepG; rfl) | apply ASl.stepG); (focus simp [*]; done); focus simp [*, -Option.some.injEq]; rfl | (first | (apply AOpl.pass; rfl) | apply ASl.pass); (focus simp [*]; done) | (first | refine AOpl.nil ?_ | refine AWp.skip ?_ | refine AWp.exit ?_ | refine AWp.ret ?_ | refine ASl.nil ?_); try simp only [Then, InBlock, reduceIte, Nat.reduceEqDiff] | refine AWp.seq ?_ | refine AWp.reg rfl ?_ | refine AWp.block ?_ | apply AWp.condT; focus simp [*]; done | apply AWp.condF; focus simp [*]; done | refine AWp.regT (by kernel_rfl) (by kernel_rfl) rfl rfl ?_)
    (first | (first | (apply AOpl.callN; rfl) | apply ASl.call); (focus simp [*, -Option.some.injEq]; rfl); kernel_rfl | (first | (apply AOpl.callNG; rfl) | apply ASl.callg); (focus simp [*]; done); (focus simp [*, -Option.some.injEq]; rfl); kernel_rfl)
    · exact awake22_ok
    intro nx2 hn2
    repeat (first | (first | (apply AOpl.step; rfl) | apply ASl.step); focus simp [*, -Option.some.injEq]; rfl | (first | (apply AOpl.stepG; rfl) | apply ASl.stepG); (focus simp [*]; done); focus simp [*, -Option.some.injEq]; rfl | (first | (apply AOpl.pass; rfl) | apply ASl.pass); (focus simp [*]; done) | (first | refine AOpl.nil ?_ | refine AWp.skip ?_ | refine AWp.exit ?_ | refine AWp.ret ?_ | refine ASl.nil ?_); try simp only [Then, InBlock, reduceIte, Nat.reduceEqDiff] | refine AWp.seq ?_ | refine AWp.reg rfl ?_ | refine AWp.block ?_ | apply AWp.condT; focus simp [*]; done | apply AWp.condF; focus simp [*]; done | refine AWp.regT (by kernel_rfl) (by kernel_rfl) rfl rfl ?_)
    (refine ⟨_, (by simp [*]; rfl), ?_⟩; (try simp only [packA]))
  by_cases h2 : (20 : Int) < c.ctx.length
  · repeat (first | (first | (apply AOpl.step; rfl) | apply ASl.step); focus simp [*, -Option.some.injEq]; rfl | (first | (apply AOpl.stepG; rfl) | apply ASl.stepG); (focus simp [*]; done); focus simp [*, -Option.some.injEq]; rfl | (first | (apply AOpl.pass; rfl) | apply ASl.pass); (focus simp [*]; done) | (first | refine AOpl.nil ?_ | refine AWp.skip ?_ | refine AWp.exit ?_ | refine AWp.ret ?_ | refine ASl.nil ?_); try simp only [Then, InBlock, reduceIte, Nat.reduceEqDiff] | refine AWp.seq ?_ | refine AWp.reg rfl ?_ | refine AWp.block ?_ | apply AWp.condT; focus simp [*]; done | apply AWp.condF; focus simp [*]; done | refine AWp.regT (by kernel_rfl) (by kernel_rfl) rfl rfl ?_)
    (first | (first | (apply AOpl.callN; rfl) | apply ASl.call); (focus simp [*, -Option.some.injEq]; rfl); kernel_rfl | (first | (apply AOpl.callNG; rfl) | apply ASl.callg); (focus simp [*]; done); (focus simp [*, -Option.some.injEq]; rfl); kernel_rfl)
    · exact awake22_ok
    intro nx2 hn2
    repeat (first | (first | (apply AOpl.step; rfl) | apply ASl.step); focus simp [*, -Option.some.injEq]; rfl | (first | (apply AOpl.stepG; rfl) | apply ASl.stepG); (focus simp [*]; done); focus simp [*, -Option.some.injEq]; rfl | (first | (apply AOpl.pass; rfl) | apply ASl.pass); (focus simp [*]; done) | (first | refine AOpl.nil ?_ | refine AWp.skip ?_ | refine AWp.exit ?_ | refine AWp.ret ?_ | refine ASl.nil ?_); try simp only [Then, InBlock, reduceIte, Nat.reduceEqDiff] | refine AWp.seq ?_ | refine AWp.reg rfl ?_ | refine AWp.block ?_ | apply AWp.condT; focus simp [*]; done | apply AWp.condF; focus simp [*]; done | refine AWp.regT (by kernel_rfl) (by kernel_rfl) rfl rfl ?_)
    (refine ⟨_, (by simp [*]; rfl), ?_⟩; (try simp only [packA]))
  by_cases h3 : (20 : Int) < c.recv.ctx.length
  · repeat (first | (first | (apply AOpl.step; rfl) | apply ASl.step); focus simp [*, -Option.some.injEq]; rfl | (first | (apply AOpl.stepG; rfl) | apply ASl.stepG); (focus simp [*]; done); focus simp [*, -Option.some.injEq]; rfl | (first | (apply AOpl.pass; rfl) | apply ASl.pass); (focus simp [*]; done) | (first | refine AOpl.nil ?_ | refine AWp.skip ?_ | refine AWp.exit ?_ | refine AWp.ret ?_ | refine ASl.nil ?_); try simp only [Then, InBlock, reduceIte, Nat.reduceEqDiff] | refine AWp.seq ?_ | refine AWp.reg rfl ?_ | refine AWp.block ?_ | apply AWp.condT; focus simp [*]; done | apply AWp.condF; focus simp [*]; done | refine AWp.regT (by kernel_rfl) (by kernel_rfl) rfl rfl ?_)
    (first | (first | (apply AOpl.callN; rfl) | apply ASl.call); (focus simp [*, -Option.some.injEq]; rfl); kernel_rfl | (first | (apply AOpl.callNG; rfl) | apply ASl.callg); (focus simp [*]; done); (focus simp [*, -Option.some.injEq]; rfl); kernel_rfl)
    · exact awake22_ok
    intro nx2 hn2
    repeat (first | (first | (apply AOpl.step; rfl) | apply ASl.step); focus simp [*, -Option.some.injEq]; rfl | (first | (apply AOpl.stepG; rfl) | apply ASl.stepG); (focus simp [*]; done); focus simp [*, -Option.some.injEq]; rfl | (first | (apply AOpl.pass; rfl) | apply ASl.pass); (focus simp [*]; done) | (first | refine AOpl.nil ?_ | refine AWp.skip ?_ | refine AWp.exit ?_ | refine AWp.ret ?_ | refine ASl.nil ?_); try simp only [Then, InBlock, reduceIte, Nat.reduceEqDiff] | refine AWp.seq ?_ | refine AWp.reg rfl ?_ | refine AWp.block ?_ | apply AWp.condT; focus simp [*]; done | apply AWp.condF; focus simp [*]; done | refine AWp.regT (by kernel_rfl) (by kernel_rfl) rfl rfl ?_)
    (refine ⟨_, (by simp [*]; rfl), ?_⟩; (try simp only [packA]))
  have hck := scheck_ok s
  repeat (first | (first | (apply AOpl.step; rfl) | apply ASl.step); focus simp [*, -Option.some.injEq]; rfl | (first | (apply AOpl.stepG; rfl) | apply ASl.stepG); (focus simp [*]; done); focus simp [*, -Option.some.injEq]; rfl | (first | (apply AOpl.pass; rfl) | apply ASl.pass); (focus simp [*]; done) | (first | refine AOpl.nil ?_ | refine AWp.skip ?_ | refine AWp.exit ?_ | refine AWp.ret ?_ | refine ASl.nil ?_); try simp only [Then, InBlock, reduceIte, Nat.reduceEqDiff] | refine AWp.seq ?_ | refine AWp.reg rfl ?_ | refine AWp.block ?_ | apply AWp.condT; focus simp [*]; done | apply AWp.condF; focus simp [*]; done | refine AWp.regT (by kernel_rfl) (by kernel_rfl) rfl rfl ?_)
  (first | (first | (apply AOpl.callN; rfl) | apply ASl.call); (focus simp [*, -Option.some.injEq]; rfl); kernel_rfl | (first | (apply AOpl.callNG; rfl) | apply ASl.callg); (focus simp [*]; done); (focus simp [*, -Option.some.injEq]; rfl); kernel_rfl)
  · exact hck
  intro nx2 hn2
  by_cases h4 : sensE s = 0
  case neg =>
    repeat (first | (first | (apply AOpl.step; rfl) | apply ASl.step); focus simp [*, -Option.some.injEq]; rfl | (first | (apply AOpl.stepG; rfl) | apply ASl.stepG); (focus simp [*]; done); focus simp [*, -Option.some.injEq]; rfl | (first | (apply AOpl.pass; rfl) | apply ASl.pass); (focus simp [*]; done) | (first | refine AOpl.nil ?_ | refine AWp.skip ?_ | refine AWp.exit ?_ | refine AWp.ret ?_ | refine ASl.nil ?_); try simp only [Then, InBlock, reduceIte, Nat.reduceEqDiff] | refine AWp.seq ?_ | refine AWp.reg rfl ?_ | refine AWp.block ?_ | apply AWp.condT; focus simp [*]; done | apply AWp.condF; focus simp [*]; done | refine AWp.regT (by kernel_rfl) (by kernel_rfl) rfl rfl ?_)
    (first | (first | (apply AOpl.callN; rfl) | apply ASl.call); (focus simp [*, -Option.some.injEq]; rfl); kernel_rfl | (first | (apply AOpl.callNG; rfl) | apply ASl.callg); (focus simp [*]; done); (focus simp [*, -Option.some.injEq]; rfl); kernel_rfl)
    · exact awake22_ok
    intro nx3 hn3
    repeat (first | (first | (apply AOpl.step; rfl) | apply ASl.step); focus simp [*, -Option.some.injEq]; rfl | (first | (apply AOpl.stepG; rfl) | apply ASl.stepG); (focus simp [*]; done); focus simp [*, -Option.some.injEq]; rfl | (first | (apply AOpl.pass; rfl) | apply ASl.pass); (focus simp [*]; done) | (first | refine AOpl.nil ?_ | refine AWp.skip ?_ | refine AWp.exit ?_ | refine AWp.ret ?_ | refine ASl.nil ?_); try simp only [Then, InBlock, reduceIte, Nat.reduceEqDiff] | refine AWp.seq ?_ | refine AWp.reg rfl ?_ | refine AWp.block ?_ | apply AWp.condT; focus simp [*]; done | apply AWp.condF; focus simp [*]; done | refine AWp.regT (by kernel_rfl) (by kernel_rfl) rfl rfl ?_)
    (refine ⟨_, (by simp [*]; rfl), ?_⟩; (try simp only [packA]))
  by_cases h5 : s.k < 1
  · repeat (first | (first | (apply AOpl.step; rfl) | apply ASl.step); focus simp [*, -Option.some.injEq]; rfl | (first | (apply AOpl.stepG; rfl) | apply ASl.stepG); (focus simp [*]; done); focus simp [*, -Option.some.injEq]; rfl | (first | (apply AOpl.pass; rfl) | apply ASl.pass); (focus simp [*]; done) | (first | refine AOpl.nil ?_ | refine AWp.skip ?_ | refine AWp.exit ?_ | refine AWp.ret ?_ | refine ASl.nil ?_); try simp only [Then, InBlock, reduceIte, Nat.reduceEqDiff] | refine AWp.seq ?_ | refine AWp.reg rfl ?_ | refine AWp.block ?_ | apply AWp.condT; focus simp [*]; done | apply AWp.condF; focus simp [*]; done | refine AWp.regT (by kernel_rfl) (by kernel_rfl) rfl rfl ?_)
    (first | (first | (apply AOpl.callN; rfl) | apply ASl.call); (focus simp [*, -Option.some.injEq]; rfl); kernel_rfl | (first | (apply AOpl.callNG; rfl) | apply ASl.callg); (focus simp [*]; done); (focus simp [*, -Option.some.injEq]; rfl); kernel_rfl)
    · exact awake22_ok
    intro nx3 hn3
    repeat (first | (first | (apply AOpl.step; rfl) | apply ASl.step); focus simp [*, -Option.some.injEq]; rfl | (first | (apply AOpl.stepG; rfl) | apply ASl.stepG); (focus simp [*]; done); focus simp [*, -Option.some.injEq]; rfl | (first | (apply AOpl.pass; rfl) | apply ASl.pass); (focus simp [*]; done) | (first | refine AOpl.nil ?_ | refine AWp.skip ?_ | refine AWp.exit ?_ | refine AWp.ret ?_ | refine ASl.nil ?_); try simp only [Then, InBlock, reduceIte, Nat.reduceEqDiff] | refine AWp.seq ?_ | refine AWp.reg rfl ?_ | refine AWp.block ?_ | apply AWp.condT; focus simp [*]; done | apply AWp.condF; focus simp [*]; done | refine AWp.regT (by kernel_rfl) (by kernel_rfl) rfl rfl ?_)
    (refine ⟨_, (by simp [*]; rfl), ?_⟩; (try simp only [packA]))
  have hf : fitU u = true := by unfold smallB at h1; rw [Bool.and_eq_true] at h1; exact h1.1
  have hu1 := (fit_bounds hu hf).1
  obtain ⟨kd, kk⟩ := s
  simp only at h4 h5 hck
  obtain ⟨k0, k2, kd0, kd3, kz⟩ := sens_k h4
  simp only at k0 k2 kd0 kd3 kz
  obtain ⟨t, rfl, ht⟩ : ∃ t : Nat, kk = (t : Int) + 1 ∧ t ≤ 1 := ⟨(kk - 1).toNat, by omega, by omega⟩
  have wt : IntKind.i64.wrap (t : Int) = (t : Int) := by rw [IntKind.wrap_i64]; omega
  have hm1 := maxI_at c.ctx t (by omega) (by omega)
  have hm2 := maxI_at c.recv.ctx t (by omega) (by omega)
  have sl1 : ∀ H, sliA Tryz.prog H 49 (.lst (c.ctx.map cvI)) (some (.int .i64 ((c.ctx.length - t : Nat) : Int))) none = some (.lst ((lastL c.ctx t).map cvI)) := fun H => sliI_lo _ _ (by omega)
  have sl2 : ∀ H, sliA Tryz.prog H 49 (.lst (c.recv.ctx.map cvI)) (some (.int .i64 ((c.recv.ctx.length - t : Nat) : Int))) none = some (.lst ((lastL c.recv.ctx t).map cvI)) := fun H => sliI_lo _ _ (by omega)
  have hl1 := lastL_short c.ctx t
  have hl2 := lastL_short c.recv.ctx t
  have p1 := push_ok u hu1 ⟨kd, (t : Int) + 1⟩ c.ctx (by omega) c.call c.recv.site hsite c.recv.ctx (by omega)
  have p2 := push_ok u hu1 ⟨kd, t⟩ c.ctx (by omega) c.call c.recv.site hsite c.recv.ctx (by omega)
  have p3 := push_ok u hu1 ⟨kd, t⟩ (lastL c.ctx t) (by omega) c.call c.recv.site hsite (lastL c.recv.ctx t) (by omega)
  rw [push_cut u ⟨kd, t⟩ t rfl] at p3
  have l1 : (pushL u ⟨kd, (t : Int) + 1⟩ c.ctx c.call c.recv.site c.recv.ctx).length ≤ t + 1 := pushL_short u kd (t + 1) _ _ _ _
  have l2 := pushL_short u kd t c.ctx c.call c.recv.site c.recv.ctx
  have hpre : preL (pushL u ⟨kd, t⟩ c.ctx c.call c.recv.site c.recv.ctx) (pushL u ⟨kd, (t : Int) + 1⟩ c.ctx c.call c.recv.site c.recv.ctx) = true := by
    refine push_pre u kd t (t + 1) (by omega) ?_ h4 _ _ _ _
    by_cases hz : t = 0
    · exact .inr hz
    · left; unfold sensE at h4 ⊢; simp only at h4 ⊢
      rw [if_neg (by omega), if_neg (by omega), if_neg (by omega)]
  have g4 := (heap_ok ⟨kd, t⟩ (lastL c.ctx t) (by omega)).one cxG_pu (by simp [puL, pu_SeL, puV, puIs]) (by simp only [puV]; exact puIs _)
  have e4 : heapL22 ⟨kd, t⟩ (lastL c.ctx t) = [] := by unfold heapL22; rw [if_pos (.inr (by show (t : Int) < 2; omega))]
  rw [e4] at g4
  have g5 := (heap_ok ⟨kd, (t : Int) + 1⟩ c.ctx (by omega)).one cxG_pu (by simp [puL, pu_SeL, puV, puIs]) (by simp only [puV]; exact puIs _)
  have l5 : (heapL22 ⟨kd, (t : Int) + 1⟩ c.ctx).length ≤ c.ctx.length := by
    unfold heapL22; split
    · simp
    · exact lastL_len _ _
  have hp5 : preL (heapL22 ⟨kd, (t : Int) + 1⟩ c.ctx) c.ctx = true := by
    unfold heapL22; split
    · exact preL_nil _
    · exact preL_lastL _ _
  generalize pushL u ⟨kd, (t : Int) + 1⟩ c.ctx c.call c.recv.site c.recv.ctx = L1 at *
  generalize pushL u ⟨kd, t⟩ c.ctx c.call c.recv.site c.recv.ctx = L2 at *
  generalize heapL22 ⟨kd, (t : Int) + 1⟩ c.ctx = L3 at *
  have g1 := cPrefix_ok L2 L1 (by simp only [maxLen]; omega)
  rw [hpre] at g1
  have g1 := g1.one cxG_pu (by simp [puL, puV, puIs]) rfl
  have g2 := sameInts_one L2 (by omega)
  have g3 := cPrefix_ok [] L3 (by simp only [maxLen]; omega)
  rw [preL_nil] at g3
  have g3 := g3.one cxG_pu (by simp [puL, puV, puR, puIs]) rfl
  have g6 := cPrefix_ok L3 c.ctx (by simp only [maxLen]; omega)
  rw [hp5] at g6
  have g6 := g6.one cxG_pu (by simp [puL, puV, puIs]) rfl
  have d3 : (L1.length : Int) ≤ (t : Int) + 1 := by omega
  have d4 : (L2.length : Int) ≤ (t : Int) := by omega
  have d1 : ¬ (t : Int) + 1 < (L1.length : Int) := by omega
  have d2 : ¬ (t : Int) < (L2.length : Int) := by omega
  repeat (first | (first | (apply AOpl.step; rfl) | apply ASl.step); focus simp [*, -Option.some.injEq]; rfl | (first | (apply AOpl.stepG; rfl) | apply ASl.stepG); (focus simp [*]; done); focus simp [*, -Option.some.injEq]; rfl | (first | (apply AOpl.pass; rfl) | apply ASl.pass); (focus simp [*]; done) | (first | refine AOpl.nil ?_ | refine AWp.skip ?_ | refine AWp.exit ?_ | refine AWp.ret ?_ | refine ASl.nil ?_); try simp only [Then, InBlock, reduceIte, Nat.reduceEqDiff] | refine AWp.seq ?_ | refine AWp.reg rfl ?_ | refine AWp.block ?_ | apply AWp.condT; focus simp [*]; done | apply AWp.condF; focus simp [*]; done | refine AWp.regT (by kernel_rfl) (by kernel_rfl) rfl rfl ?_)
  (first | (first | (apply AOpl.callN; rfl) | apply ASl.call); (focus simp [*, -Option.some.injEq]; rfl); kernel_rfl | (first | (apply AOpl.callNG; rfl) | apply ASl.callg); (focus simp [*]; done); (focus simp [*, -Option.some.injEq]; rfl); kernel_rfl)
  · exact awake22_ok
  intro nx3 hn3
  have q1 : ∀ k, ¬ nx = nx3 + k := fun k => by omega
  have q2 : ∀ k, ¬ nx + 1 = nx3 + k := fun k => by omega
  have q3 : ∀ k, ¬ nx + 1 + 1 = nx3 + k := fun k => by omega
  have q4 : ¬ nx = nx3 := by omega
  have q5 : ¬ nx + 1 = nx3 := by omega
  have q6 : ¬ nx + 1 + 1 = nx3 := by omega
  repeat (first | (first | (apply AOpl.step; rfl) | apply ASl.step); focus simp [cvUn, cvSe, cvCa, *, -Option.some.injEq]; rfl | (first | (apply AOpl.stepG; rfl) | apply ASl.stepG); (focus simp [cvUn, cvSe, cvCa, *]; done); focus simp [cvUn, cvSe, cvCa, *, -Option.some.injEq]; rfl | (first | (apply AOpl.pass; rfl) | apply ASl.pass); (focus simp [cvUn, cvSe, cvCa, *]; done) | (first | refine AOpl.nil ?_ | refine AWp.skip ?_ | refine AWp.exit ?_ | refine AWp.ret ?_ | refine ASl.nil ?_); try simp only [Then, InBlock, reduceIte, Nat.reduceEqDiff] | refine AWp.seq ?_ | refine AWp.reg rfl ?_ | refine AWp.block ?_ | apply AWp.condT; focus simp [cvUn, cvSe, cvCa, *]; done | apply AWp.condF; focus simp [cvUn, cvSe, cvCa, *]; done | refine AWp.regT (by kernel_rfl) (by kernel_rfl) rfl rfl ?_)
  (first | (first | (apply AOpl.callN; rfl) | apply ASl.call); (focus simp [cvUn, cvSe, cvCa, *, -Option.some.injEq]; rfl); kernel_rfl | (first | (apply AOpl.callNG; rfl) | apply ASl.callg); (focus simp [cvUn, cvSe, cvCa, *]; done); (focus simp [cvUn, cvSe, cvCa, *, -Option.some.injEq]; rfl); kernel_rfl)
  · exact p1
  intro nx4 hn4
  repeat (first | (first | (apply AOpl.step; rfl) | apply ASl.step); focus simp [cvUn, cvSe, cvCa, *, -Option.some.injEq]; rfl | (first | (apply AOpl.stepG; rfl) | apply ASl.stepG); (focus simp [cvUn, cvSe, cvCa, *]; done); focus simp [cvUn, cvSe, cvCa, *, -Option.some.injEq]; rfl | (first | (apply AOpl.pass; rfl) | apply ASl.pass); (focus simp [cvUn, cvSe, cvCa, *]; done) | (first | refine AOpl.nil ?_ | refine AWp.skip ?_ | refine AWp.exit ?_ | refine AWp.ret ?_ | refine ASl.nil ?_); try simp only [Then, InBlock, reduceIte, Nat.reduceEqDiff] | refine AWp.seq ?_ | refine AWp.reg rfl ?_ | refine AWp.block ?_ | apply AWp.condT; focus simp [cvUn, cvSe, cvCa, *]; done | apply AWp.condF; focus simp [cvUn, cvSe, cvCa, *]; done | refine AWp.regT (by kernel_rfl) (by kernel_rfl) rfl rfl ?_)
  (first | (first | (apply AOpl.callN; rfl) | apply ASl.call); (focus simp [cvUn, cvSe, cvCa, *, -Option.some.injEq]; rfl); kernel_rfl | (first | (apply AOpl.callNG; rfl) | apply ASl.callg); (focus simp [cvUn, cvSe, cvCa, *]; done); (focus simp [cvUn, cvSe, cvCa, *, -Option.some.injEq]; rfl); kernel_rfl)
  · exact p2
  intro nx5 hn5
  have r1 : ∀ k, ¬ nx = nx5 + k := fun k => by omega
  have r2 : ∀ k, ¬ nx + 1 = nx5 + k := fun k => by omega
  have r3 : ∀ k, ¬ nx + 1 + 1 = nx5 + k := fun k => by omega
  have r4 : ¬ nx = nx5 := by omega
  have r5 : ¬ nx + 1 = nx5 := by omega
  have r6 : ¬ nx + 1 + 1 = nx5 := by omega
  have r7 : ¬ nx3 = nx5 := by omega
  have r8 : ∀ k, ¬ nx3 = nx5 + k := fun k => by omega
  repeat (first | (first | (apply AOpl.step; rfl) | apply ASl.step); focus simp [cvUn, cvSe, cvCa, *, -Option.some.injEq]; rfl | (first | (apply AOpl.stepG; rfl) | apply ASl.stepG); (focus simp [cvUn, cvSe, cvCa, *]; done); focus simp [cvUn, cvSe, cvCa, *, -Option.some.injEq]; rfl | (first | (apply AOpl.pass; rfl) | apply ASl.pass); (focus simp [cvUn, cvSe, cvCa, *]; done) | (first | refine AOpl.nil ?_ | refine AWp.skip ?_ | refine AWp.exit ?_ | refine AWp.ret ?_ | refine ASl.nil ?_); try simp only [Then, InBlock, reduceIte, Nat.reduceEqDiff] | refine AWp.seq ?_ | refine AWp.reg rfl ?_ | refine AWp.block ?_ | apply AWp.condT; focus simp [cvUn, cvSe, cvCa, *]; done | apply AWp.condF; focus simp [cvUn, cvSe, cvCa, *]; done | refine AWp.regT (by kernel_rfl) (by kernel_rfl) rfl rfl ?_)
  (first | (first | (apply AOpl.callN; rfl) | apply ASl.call); (focus simp [cvUn, cvSe, cvCa, *, -Option.some.injEq]; rfl); kernel_rfl | (first | (apply AOpl.callNG; rfl) | apply ASl.callg); (focus simp [cvUn, cvSe, cvCa, *]; done); (focus simp [cvUn, cvSe, cvCa, *, -Option.some.injEq]; rfl); kernel_rfl)
  · exact p3
  intro nx6 hn6
  repeat (first | (first | (apply AOpl.step; rfl) | apply ASl.step); focus simp [*, -Option.some.injEq]; rfl | (first | (apply AOpl.stepG; rfl) | apply ASl.stepG); (focus simp [*]; done); focus simp [*, -Option.some.injEq]; rfl | (first | (apply AOpl.pass; rfl) | apply ASl.pass); (focus simp [*]; done) | (first | refine AOpl.nil ?_ | refine AWp.skip ?_ | refine AWp.exit ?_ | refine AWp.ret ?_ | refine ASl.nil ?_); try simp only [Then, InBlock, reduceIte, Nat.reduceEqDiff] | refine AWp.seq ?_ | refine AWp.reg rfl ?_ | refine AWp.block ?_ | apply AWp.condT; focus simp [*]; done | apply AWp.condF; focus simp [*]; done | refine AWp.regT (by kernel_rfl) (by kernel_rfl) rfl rfl ?_)
  (first | (first | (apply AOpl.callN; rfl) | apply ASl.call); (focus simp [*, -Option.some.injEq]; rfl); kernel_rfl | (first | (apply AOpl.callNG; rfl) | apply ASl.callg); (focus simp [*]; done); (focus simp [*, -Option.some.injEq]; rfl); kernel_rfl)
  · exact g1
  repeat (first | (first | (apply AOpl.step; rfl) | apply ASl.step); focus simp [*, -Option.some.injEq]; rfl | (first | (apply AOpl.stepG; rfl) | apply ASl.stepG); (focus simp [*]; done); focus simp [*, -Option.some.injEq]; rfl | (first | (apply AOpl.pass; rfl) | apply ASl.pass); (focus simp [*]; done) | (first | refine AOpl.nil ?_ | refine AWp.skip ?_ | refine AWp.exit ?_ | refine AWp.ret ?_ | refine ASl.nil ?_); try simp only [Then, InBlock, reduceIte, Nat.reduceEqDiff] | refine AWp.seq ?_ | refine AWp.reg rfl ?_ | refine AWp.block ?_ | apply AWp.condT; focus simp [*]; done | apply AWp.condF; focus simp [*]; done | refine AWp.regT (by kernel_rfl) (by kernel_rfl) rfl rfl ?_)
  (first | (first | (apply AOpl.callN; rfl) | apply ASl.call); (focus simp [*, -Option.some.injEq]; rfl); kernel_rfl | (first | (apply AOpl.callNG; rfl) | apply ASl.callg); (focus simp [*]; done); (focus simp [*, -Option.some.injEq]; rfl); kernel_rfl)
  · exact g2
  repeat (first | (first | (apply AOpl.step; rfl) | apply ASl.step); focus simp [cvUn, cvSe, cvCa, *, -Option.some.injEq]; rfl | (first | (apply AOpl.stepG; rfl) | apply ASl.stepG); (focus simp [cvUn, cvSe, cvCa, *]; done); focus simp [cvUn, cvSe, cvCa, *, -Option.some.injEq]; rfl | (first | (apply AOpl.pass; rfl) | apply ASl.pass); (focus simp [cvUn, cvSe, cvCa, *]; done) | (first | refine AOpl.nil ?_ | refine AWp.skip ?_ | refine AWp.exit ?_ | refine AWp.ret ?_ | refine ASl.nil ?_); try simp only [Then, InBlock, reduceIte, Nat.reduceEqDiff] | refine AWp.seq ?_ | refine AWp.reg rfl ?_ | refine AWp.block ?_ | apply AWp.condT; focus simp [cvUn, cvSe, cvCa, *]; done | apply AWp.condF; focus simp [cvUn, cvSe, cvCa, *]; done | refine AWp.regT (by kernel_rfl) (by kernel_rfl) rfl rfl ?_)
  (first | (first | (apply AOpl.callN; rfl) | apply ASl.call); (focus simp [cvUn, cvSe, cvCa, *, -Option.some.injEq]; rfl); kernel_rfl | (first | (apply AOpl.callNG; rfl) | apply ASl.callg); (focus simp [cvUn, cvSe, cvCa, *]; done); (focus simp [cvUn, cvSe, cvCa, *, -Option.some.injEq]; rfl); kernel_rfl)
  · exact g4
  repeat (first | (first | (apply AOpl.step; rfl) | apply ASl.step); focus simp [cvUn, cvSe, cvCa, *, -Option.some.injEq]; rfl | (first | (apply AOpl.stepG; rfl) | apply ASl.stepG); (focus simp [cvUn, cvSe, cvCa, *]; done); focus simp [cvUn, cvSe, cvCa, *, -Option.some.injEq]; rfl | (first | (apply AOpl.pass; rfl) | apply ASl.pass); (focus simp [cvUn, cvSe, cvCa, *]; done) | (first | refine AOpl.nil ?_ | refine AWp.skip ?_ | refine AWp.exit ?_ | refine AWp.ret ?_ | refine ASl.nil ?_); try simp only [Then, InBlock, reduceIte, Nat.reduceEqDiff] | refine AWp.seq ?_ | refine AWp.reg rfl ?_ | refine AWp.block ?_ | apply AWp.condT; focus simp [cvUn, cvSe, cvCa, *]; done | apply AWp.condF; focus simp [cvUn, cvSe, cvCa, *]; done | refine AWp.regT (by kernel_rfl) (by kernel_rfl) rfl rfl ?_)
  (first | (first | (apply AOpl.callN; rfl) | apply ASl.call); (focus simp [cvUn, cvSe, cvCa, *, -Option.some.injEq]; rfl); kernel_rfl | (first | (apply AOpl.callNG; rfl) | apply ASl.callg); (focus simp [cvUn, cvSe, cvCa, *]; done); (focus simp [cvUn, cvSe, cvCa, *, -Option.some.injEq]; rfl); kernel_rfl)
  · exact g5
  repeat (first | (first | (apply AOpl.step; rfl) | apply ASl.step); focus simp [*, -Option.some.injEq]; rfl | (first | (apply AOpl.stepG; rfl) | apply ASl.stepG); (focus simp [*]; done); focus simp [*, -Option.some.injEq]; rfl | (first | (apply AOpl.pass; rfl) | apply ASl.pass); (focus simp [*]; done) | (first | refine AOpl.nil ?_ | refine AWp.skip ?_ | refine AWp.exit ?_ | refine AWp.ret ?_ | refine ASl.nil ?_); try simp only [Then, InBlock, reduceIte, Nat.reduceEqDiff] | refine AWp.seq ?_ | refine AWp.reg rfl ?_ | refine AWp.block ?_ | apply AWp.condT; focus simp [*]; done | apply AWp.condF; focus simp [*]; done | refine AWp.regT (by kernel_rfl) (by kernel_rfl) rfl rfl ?_)
  (first | (first | (apply AOpl.callN; rfl) | apply ASl.call); (focus simp [*, -Option.some.injEq]; rfl); kernel_rfl | (first | (apply AOpl.callNG; rfl) | apply ASl.callg); (focus simp [*]; done); (focus simp [*, -Option.some.injEq]; rfl); kernel_rfl)
  · exact g3
  repeat (first | (first | (apply AOpl.step; rfl) | apply ASl.step); focus simp [cvUn, cvSe, cvCa, *, -Option.some.injEq]; rfl | (first | (apply AOpl.stepG; rfl) | apply ASl.stepG); (focus simp [cvUn, cvSe, cvCa, *]; done); focus simp [cvUn, cvSe, cvCa, *, -Option.some.injEq]; rfl | (first | (apply AOpl.pass; rfl) | apply ASl.pass); (focus simp [cvUn, cvSe, cvCa, *]; done) | (first | refine AOpl.nil ?_ | refine AWp.skip ?_ | refine AWp.exit ?_ | refine AWp.ret ?_ | refine ASl.nil ?_); try simp only [Then, InBlock, reduceIte, Nat.reduceEqDiff] | refine AWp.seq ?_ | refine AWp.reg rfl ?_ | refine AWp.block ?_ | apply AWp.condT; focus simp [cvUn, cvSe, cvCa, *]; done | apply AWp.condF; focus simp [cvUn, cvSe, cvCa, *]; done | refine AWp.regT (by kernel_rfl) (by kernel_rfl) rfl rfl ?_)
  (first | (first | (apply AOpl.callN; rfl) | apply ASl.call); (focus simp [cvUn, cvSe, cvCa, *, -Option.some.injEq]; rfl); kernel_rfl | (first | (apply AOpl.callNG; rfl) | apply ASl.callg); (focus simp [cvUn, cvSe, cvCa, *]; done); (focus simp [cvUn, cvSe, cvCa, *, -Option.some.injEq]; rfl); kernel_rfl)
  · exact g5
  repeat (first | (first | (apply AOpl.step; rfl) | apply ASl.step); focus simp [*, -Option.some.injEq]; rfl | (first | (apply AOpl.stepG; rfl) | apply ASl.stepG); (focus simp [*]; done); focus simp [*, -Option.some.injEq]; rfl | (first | (apply AOpl.pass; rfl) | apply ASl.pass); (focus simp [*]; done) | (first | refine AOpl.nil ?_ | refine AWp.skip ?_ | refine AWp.exit ?_ | refine AWp.ret ?_ | refine ASl.nil ?_); try simp only [Then, InBlock, reduceIte, Nat.reduceEqDiff] | refine AWp.seq ?_ | refine AWp.reg rfl ?_ | refine AWp.block ?_ | apply AWp.condT; focus simp [*]; done | apply AWp.condF; focus simp [*]; done | refine AWp.regT (by kernel_rfl) (by kernel_rfl) rfl rfl ?_)
  (first | (first | (apply AOpl.callN; rfl) | apply ASl.call); (focus simp [*, -Option.some.injEq]; rfl); kernel_rfl | (first | (apply AOpl.callNG; rfl) | apply ASl.callg); (focus simp [*]; done); (focus simp [*, -Option.some.injEq]; rfl); kernel_rfl)
  · exact g6
  repeat (first | (first | (apply AOpl.step; rfl) | apply ASl.step); focus simp [*, -Option.some.injEq]; rfl | (first | (apply AOpl.stepG; rfl) | apply ASl.stepG); (focus simp [*]; done); focus simp [*, -Option.some.injEq]; rfl | (first | (apply AOpl.pass; rfl) | apply ASl.pass); (focus simp [*]; done) | (first | refine AOpl.nil ?_ | refine AWp.skip ?_ | refine AWp.exit ?_ | refine AWp.ret ?_ | refine ASl.nil ?_); try simp only [Then, InBlock, reduceIte, Nat.reduceEqDiff] | refine AWp.seq ?_ | refine AWp.reg rfl ?_ | refine AWp.block ?_ | apply AWp.condT; focus simp [*]; done | apply AWp.condF; focus simp [*]; done | refine AWp.regT (by kernel_rfl) (by kernel_rfl) rfl rfl ?_)
  (refine ⟨_, (by simp [*]; rfl), ?_⟩; (try simp only [packA]))
end Go.Proofs.YtdjllogimomgmaaGreatDoor
