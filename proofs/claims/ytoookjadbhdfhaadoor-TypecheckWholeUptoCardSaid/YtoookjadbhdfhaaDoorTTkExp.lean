/-
  field, binary, call of the checker, which is only read; walked.
-/
import Derived.Test.YtoookjadbhdfhaaDoorTJpBf
set_option linter.unusedSectionVars false
set_option linter.unusedSimpArgs false
set_option linter.unnecessarySimpa false
set_option linter.unusedVariables false
set_option linter.unusedSimpArgs false
set_option linter.unusedVariables false
namespace Go.Proofs.YtoookjadbhdfhaaDoor
open Lx Ax Go.RowKit
attribute [local simp] stepS Ax.stepT Dl.on qstep astep estep rd putE over argE ofV ofS loadA pickCells isAggD faddA fieldA partA iaddA idxA sliA bnd binA intA strA unA convA bltA lenA mapOf findK keyD scalD storeA appA srcA srcD upd drp Dl.hp Dl.nx CV.cs CV.one buildA placesA fillA zrep tasA ifaceD eqA eqFs eqIs range2 copyA nbeq nble nblt decEq beqI bneI beqS bneS isED Int.ofNat_inj List.getElem?_map List.getElem?_eq_getElem Option.map_some ti_int ti_bool ti_str ti_i64 ti_Strs ti_Cds ti_Cd ti_Flds ti_Fld ti_Sgs ti_Sg ti_Hi ti_Exs ti_Ex ti_Chk ti_Flt ti_Errno gd gdB callA resA op1
attribute [local simp] nu1 nu2 nu3 nu4 nu5 nu6 nu7 nu8 nu9 nu10 nu11 nu12 nu13 upd_upd
section
variable (h:List Cd) (cls res:Bytes) (sc:List Fld) (at':Int)
/-- What field gives for an object of which the type is known. -/
def fldT1 (t:Tk Bytes)(f:Bytes):Tk Bytes:=match t with
 | .error e=>.error e
 | .ok c=>fldT h c f
set_option maxRecDepth 10000 in
set_option maxHeartbeats 8000000 in
theorem tk_fld (hc:HC h)(e:Ex)(f:Bytes)(ih:ExOk h cls res sc at' e):FRes Tryd.prog tkG 50 [ckV h cls res sc at',.agg (cvE e),.str f] (tkB (fldT1 h (exT9 h cls sc e) f)):=by
 refine FRes.ofBody tkG_pu (by simp [puL,puV,puE,ckV_pu]) (tkB_pu _) Tryd.func50 rfl rfl fun nx=>?_
 unfold ExOk at ih;cases hx:exT9 h cls sc e with
 | error x =>
   rw [hx] at ih;have ih':FRes Tryd.prog tkG 31 [ckV h cls res sc at',.agg (cvE e)] (.pan (fltV x)):=ih;clear ih hx;rw [Xy] at *
   repeat (first | (first | (apply Xf;rfl) | apply Xj);focus simp [ckV, *,-Option.some.injEq];rfl | (first | (apply Xa;rfl) | apply Xb);(focus simp [ckV, *];done);focus simp [ckV, *,-Option.some.injEq];rfl | (first | (apply Xg;rfl) | apply Xk);(focus simp [ckV, *];done) | (first | refine Xl ?_ | refine Xi ?_ | refine Xh ?_ | refine Xo ?_ | refine Xq ?_);try simp only [Xw,Xx,reduceIte,Nat.reduceEqDiff] | refine Xn ?_ | refine Xp rfl ?_ | refine Xc ?_ | apply Xd;focus simp [ckV, *];done | apply Xe;focus simp [ckV, *];done | refine Ya rfl rfl ?_)
   ((apply AOpl.callP);(focus rfl);(focus (first | rfl | (simp [*];done)));(focus simp [*,-Option.some.injEq];rfl);kernel_rfl)
   ·exact ih' _
   rfl
 | ok c =>
   rw [hx] at ih;have ih':FRes Tryd.prog tkG 31 [ckV h cls res sc at',.agg (cvE e)] (.ret (.str c)):=ih;have hcl:=tk_isClass h hc.le c;have hfi:=tk_Field h hc.hb c f;clear ih hx;rw [Xy] at *;obtain⟨w,hw⟩:∃ w,fldT1 h (.ok c) f=w:=⟨_,rfl⟩;rw [hw];simp only [fldT1,fldT] at hw
   repeat (first | (first | (apply Xf;rfl) | apply Xj);focus simp [ckV, *,-Option.some.injEq];rfl | (first | (apply Xa;rfl) | apply Xb);(focus simp [ckV, *];done);focus simp [ckV, *,-Option.some.injEq];rfl | (first | (apply Xg;rfl) | apply Xk);(focus simp [ckV, *];done) | (first | refine Xl ?_ | refine Xi ?_ | refine Xh ?_ | refine Xo ?_ | refine Xq ?_);try simp only [Xw,Xx,reduceIte,Nat.reduceEqDiff] | refine Xn ?_ | refine Xp rfl ?_ | refine Xc ?_ | apply Xd;focus simp [ckV, *];done | apply Xe;focus simp [ckV, *];done | refine Ya rfl rfl ?_)
   ((apply Xr);(focus rfl);(focus (first | rfl | (simp [*];done)));(focus simp [*,-Option.some.injEq];rfl);kernel_rfl)
   ·exact ih' _
   repeat (first | (first | (apply Xf;rfl) | apply Xj);focus simp [*,-Option.some.injEq];rfl | (first | (apply Xa;rfl) | apply Xb);(focus simp [*];done);focus simp [*,-Option.some.injEq];rfl | (first | (apply Xg;rfl) | apply Xk);(focus simp [*];done) | (first | refine Xl ?_ | refine Xi ?_ | refine Xh ?_ | refine Xo ?_ | refine Xq ?_);try simp only [Xw,Xx,reduceIte,Nat.reduceEqDiff] | refine Xn ?_ | refine Xp rfl ?_ | refine Xc ?_ | apply Xd;focus simp [*];done | apply Xe;focus simp [*];done | refine Ya rfl rfl ?_)
   ((apply Xr);(focus rfl);(focus (first | rfl | (simp [*];done)));(focus simp [*,-Option.some.injEq];rfl);kernel_rfl)
   ·exact hcl _
   cases h1:clsB h c with
   | false =>
     rw [if_pos h1] at hw;rw [← hw];clear hw h1
     repeat (first | (first | (apply Xf;rfl) | apply Xj);focus simp [*,-Option.some.injEq];rfl | (first | (apply Xa;rfl) | apply Xb);(focus simp [*];done);focus simp [*,-Option.some.injEq];rfl | (first | (apply Xg;rfl) | apply Xk);(focus simp [*];done) | (first | refine Xl ?_ | refine Xi ?_ | refine Xh ?_ | refine Xo ?_ | refine Xq ?_);try simp only [Xw,Xx,reduceIte,Nat.reduceEqDiff] | refine Xn ?_ | refine Xp rfl ?_ | refine Xc ?_ | apply Xd;focus simp [*];done | apply Xe;focus simp [*];done | refine Ya rfl rfl ?_)
     ((apply AOpl.callP);(focus rfl);(focus (first | rfl | (simp [*];done)));(focus simp [*,-Option.some.injEq];rfl);kernel_rfl)
     ·exact need_no 8 _
     rfl
   | true =>
     rw [if_neg (by rw [h1];simp)] at hw;clear h1 hcl
     repeat (first | (first | (apply Xf;rfl) | apply Xj);focus simp [*,-Option.some.injEq];rfl | (first | (apply Xa;rfl) | apply Xb);(focus simp [*];done);focus simp [*,-Option.some.injEq];rfl | (first | (apply Xg;rfl) | apply Xk);(focus simp [*];done) | (first | refine Xl ?_ | refine Xi ?_ | refine Xh ?_ | refine Xo ?_ | refine Xq ?_);try simp only [Xw,Xx,reduceIte,Nat.reduceEqDiff] | refine Xn ?_ | refine Xp rfl ?_ | refine Xc ?_ | apply Xd;focus simp [*];done | apply Xe;focus simp [*];done | refine Ya rfl rfl ?_)
     ((apply Xr);(focus rfl);(focus (first | rfl | (simp [*];done)));(focus simp [*,-Option.some.injEq];rfl);kernel_rfl)
     ·exact need_ok 8 _
     cases h2:fieldF h c f with
     | none =>
       rw [h2] at hw hfi;have hfi':FCall1 Tryd.prog tkG 64 [.agg [.lst (h.map cvD)],.str c,.str f] (.tup [.str [],.str [],.bool false]):=hfi;simp only at hw;rw [← hw];clear hw h2 hfi
       repeat (first | (first | (apply Xf;rfl) | apply Xj);focus simp [*,-Option.some.injEq];rfl | (first | (apply Xa;rfl) | apply Xb);(focus simp [*];done);focus simp [*,-Option.some.injEq];rfl | (first | (apply Xg;rfl) | apply Xk);(focus simp [*];done) | (first | refine Xl ?_ | refine Xi ?_ | refine Xh ?_ | refine Xo ?_ | refine Xq ?_);try simp only [Xw,Xx,reduceIte,Nat.reduceEqDiff] | refine Xn ?_ | refine Xp rfl ?_ | refine Xc ?_ | apply Xd;focus simp [*];done | apply Xe;focus simp [*];done | refine Ya rfl rfl ?_)
       ((apply Xr);(focus rfl);(focus (first | rfl | (simp [*];done)));(focus simp [*,-Option.some.injEq];rfl);kernel_rfl)
       ·exact hfi' _
       repeat (first | (first | (apply Xf;rfl) | apply Xj);focus simp [*,-Option.some.injEq];rfl | (first | (apply Xa;rfl) | apply Xb);(focus simp [*];done);focus simp [*,-Option.some.injEq];rfl | (first | (apply Xg;rfl) | apply Xk);(focus simp [*];done) | (first | refine Xl ?_ | refine Xi ?_ | refine Xh ?_ | refine Xo ?_ | refine Xq ?_);try simp only [Xw,Xx,reduceIte,Nat.reduceEqDiff] | refine Xn ?_ | refine Xp rfl ?_ | refine Xc ?_ | apply Xd;focus simp [*];done | apply Xe;focus simp [*];done | refine Ya rfl rfl ?_)
       ((apply AOpl.callP);(focus rfl);(focus (first | rfl | (simp [*];done)));(focus simp [*,-Option.some.injEq];rfl);kernel_rfl)
       ·exact need_no 6 _
       rfl
     | some p =>
       obtain⟨c1,t⟩:=p;rw [h2] at hw hfi;have hfi':FCall1 Tryd.prog tkG 64 [.agg [.lst (h.map cvD)],.str c,.str f] (.tup [.str c1,.str t,.bool true]):=hfi;simp only at hw;rw [← hw];clear hw h2 hfi
       repeat (first | (first | (apply Xf;rfl) | apply Xj);focus simp [*,-Option.some.injEq];rfl | (first | (apply Xa;rfl) | apply Xb);(focus simp [*];done);focus simp [*,-Option.some.injEq];rfl | (first | (apply Xg;rfl) | apply Xk);(focus simp [*];done) | (first | refine Xl ?_ | refine Xi ?_ | refine Xh ?_ | refine Xo ?_ | refine Xq ?_);try simp only [Xw,Xx,reduceIte,Nat.reduceEqDiff] | refine Xn ?_ | refine Xp rfl ?_ | refine Xc ?_ | apply Xd;focus simp [*];done | apply Xe;focus simp [*];done | refine Ya rfl rfl ?_)
       ((apply Xr);(focus rfl);(focus (first | rfl | (simp [*];done)));(focus simp [*,-Option.some.injEq];rfl);kernel_rfl)
       ·exact hfi' _
       repeat (first | (first | (apply Xf;rfl) | apply Xj);focus simp [*,-Option.some.injEq];rfl | (first | (apply Xa;rfl) | apply Xb);(focus simp [*];done);focus simp [*,-Option.some.injEq];rfl | (first | (apply Xg;rfl) | apply Xk);(focus simp [*];done) | (first | refine Xl ?_ | refine Xi ?_ | refine Xh ?_ | refine Xo ?_ | refine Xq ?_);try simp only [Xw,Xx,reduceIte,Nat.reduceEqDiff] | refine Xn ?_ | refine Xp rfl ?_ | refine Xc ?_ | apply Xd;focus simp [*];done | apply Xe;focus simp [*];done | refine Ya rfl rfl ?_)
       ((apply Xr);(focus rfl);(focus (first | rfl | (simp [*];done)));(focus simp [*,-Option.some.injEq];rfl);kernel_rfl)
       ·exact need_ok 6 _
       repeat (first | (first | (apply Xf;rfl) | apply Xj);focus simp [*,-Option.some.injEq];rfl | (first | (apply Xa;rfl) | apply Xb);(focus simp [*];done);focus simp [*,-Option.some.injEq];rfl | (first | (apply Xg;rfl) | apply Xk);(focus simp [*];done) | (first | refine Xl ?_ | refine Xi ?_ | refine Xh ?_ | refine Xo ?_ | refine Xq ?_);try simp only [Xw,Xx,reduceIte,Nat.reduceEqDiff] | refine Xn ?_ | refine Xp rfl ?_ | refine Xc ?_ | apply Xd;focus simp [*];done | apply Xe;focus simp [*];done | refine Ya rfl rfl ?_)
       (refine⟨_,(by simp [*];rfl),?_⟩;(try simp only [packA]))
       all_goals rfl
set_option maxRecDepth 10000 in
set_option maxHeartbeats 8000000 in
theorem tk_binary (hc:HC h)(k n:Int)(o m:Bytes)(a b:Ex)(iha:ExOk h cls res sc at' a)(ihb:ExOk h cls res sc at' b):FRes Tryd.prog tkG 48 [ckV h cls res sc at',.agg (cvE (.mk k n o m [a,b]))] (tkB (binOf h n (tysT h cls sc [a,b]))):=by
 refine FRes.ofBody tkG_pu (by simp [puL,puV,puE,ckV_pu]) (tkB_pu _) Tryd.func48 rfl rfl fun nx=>?_
 unfold ExOk at iha ihb;obtain⟨w,hw⟩:∃ w,binOf h n (tysT h cls sc [a,b])=w:=⟨_,rfl⟩;rw [hw];rw [tysT,tysT,tysT] at hw;cases hxa:exT9 h cls sc a with
 | error x =>
   rw [hxa] at iha hw;have iha':FRes Tryd.prog tkG 31 [ckV h cls res sc at',.agg (cvE a)] (.pan (fltV x)):=iha;simp only [binOf] at hw;rw [← hw];clear iha ihb hxa hw;rw [Xy a] at *
   repeat (first | (first | (apply Xf;rfl) | apply Xj);focus simp [ckV,cvE_mk,Xy a, *,-Option.some.injEq];rfl | (first | (apply Xa;rfl) | apply Xb);(focus simp [ckV,cvE_mk,Xy a, *];done);focus simp [ckV,cvE_mk,Xy a, *,-Option.some.injEq];rfl | (first | (apply Xg;rfl) | apply Xk);(focus simp [ckV,cvE_mk,Xy a, *];done) | (first | refine Xl ?_ | refine Xi ?_ | refine Xh ?_ | refine Xo ?_ | refine Xq ?_);try simp only [Xw,Xx,reduceIte,Nat.reduceEqDiff] | refine Xn ?_ | refine Xp rfl ?_ | refine Xc ?_ | apply Xd;focus simp [ckV,cvE_mk,Xy a, *];done | apply Xe;focus simp [ckV,cvE_mk,Xy a, *];done | refine Ya rfl rfl ?_)
   ((apply AOpl.callP);(focus rfl);(focus (first | rfl | (simp [*];done)));(focus simp [*,-Option.some.injEq];rfl);kernel_rfl)
   ·exact iha' _
   rfl
 | ok ta =>
   rw [hxa] at iha hw;have iha':FRes Tryd.prog tkG 31 [ckV h cls res sc at',.agg (cvE a)] (.ret (.str ta)):=iha;clear iha hxa;cases hxb:exT9 h cls sc b with
   | error x =>
     rw [hxb] at ihb hw;have ihb':FRes Tryd.prog tkG 31 [ckV h cls res sc at',.agg (cvE b)] (.pan (fltV x)):=ihb;simp only [binOf] at hw;rw [← hw];clear ihb hxb hw;rw [Xy a,] at iha';rw [Xy b] at ihb'
     repeat (first | (first | (apply Xf;rfl) | apply Xj);focus simp [ckV,cvE_mk,Xy a,Xy b, *,-Option.some.injEq];rfl | (first | (apply Xa;rfl) | apply Xb);(focus simp [ckV,cvE_mk,Xy a,Xy b, *];done);focus simp [ckV,cvE_mk,Xy a,Xy b, *,-Option.some.injEq];rfl | (first | (apply Xg;rfl) | apply Xk);(focus simp [ckV,cvE_mk,Xy a,Xy b, *];done) | (first | refine Xl ?_ | refine Xi ?_ | refine Xh ?_ | refine Xo ?_ | refine Xq ?_);try simp only [Xw,Xx,reduceIte,Nat.reduceEqDiff] | refine Xn ?_ | refine Xp rfl ?_ | refine Xc ?_ | apply Xd;focus simp [ckV,cvE_mk,Xy a,Xy b, *];done | apply Xe;focus simp [ckV,cvE_mk,Xy a,Xy b, *];done | refine Ya rfl rfl ?_)
     ((apply Xr);(focus rfl);(focus (first | rfl | (simp [*];done)));(focus simp [*,-Option.some.injEq];rfl);kernel_rfl)
     ·exact iha' _
     repeat (first | (first | (apply Xf;rfl) | apply Xj);focus simp [ckV,cvE_mk,Xy a,Xy b, *,-Option.some.injEq];rfl | (first | (apply Xa;rfl) | apply Xb);(focus simp [ckV,cvE_mk,Xy a,Xy b, *];done);focus simp [ckV,cvE_mk,Xy a,Xy b, *,-Option.some.injEq];rfl | (first | (apply Xg;rfl) | apply Xk);(focus simp [ckV,cvE_mk,Xy a,Xy b, *];done) | (first | refine Xl ?_ | refine Xi ?_ | refine Xh ?_ | refine Xo ?_ | refine Xq ?_);try simp only [Xw,Xx,reduceIte,Nat.reduceEqDiff] | refine Xn ?_ | refine Xp rfl ?_ | refine Xc ?_ | apply Xd;focus simp [ckV,cvE_mk,Xy a,Xy b, *];done | apply Xe;focus simp [ckV,cvE_mk,Xy a,Xy b, *];done | refine Ya rfl rfl ?_)
     ((apply AOpl.callP);(focus rfl);(focus (first | rfl | (simp [*];done)));(focus simp [*,-Option.some.injEq];rfl);kernel_rfl)
     ·exact ihb' _
     rfl
   | ok tb =>
     rw [hxb] at ihb hw;have ihb':FRes Tryd.prog tkG 31 [ckV h cls res sc at',.agg (cvE b)] (.ret (.str tb)):=ihb;clear ihb hxb;have hab:=tk_Assignable h hc.len ta tb;have hba:=tk_Assignable h hc.len tb ta;simp only [binOf] at hw;rw [Xy a] at iha';rw [Xy b] at ihb'
     repeat (first | (first | (apply Xf;rfl) | apply Xj);focus simp [ckV,cvE_mk,Xy a,Xy b, *,-Option.some.injEq];rfl | (first | (apply Xa;rfl) | apply Xb);(focus simp [ckV,cvE_mk,Xy a,Xy b, *];done);focus simp [ckV,cvE_mk,Xy a,Xy b, *,-Option.some.injEq];rfl | (first | (apply Xg;rfl) | apply Xk);(focus simp [ckV,cvE_mk,Xy a,Xy b, *];done) | (first | refine Xl ?_ | refine Xi ?_ | refine Xh ?_ | refine Xo ?_ | refine Xq ?_);try simp only [Xw,Xx,reduceIte,Nat.reduceEqDiff] | refine Xn ?_ | refine Xp rfl ?_ | refine Xc ?_ | apply Xd;focus simp [ckV,cvE_mk,Xy a,Xy b, *];done | apply Xe;focus simp [ckV,cvE_mk,Xy a,Xy b, *];done | refine Ya rfl rfl ?_)
     ((apply Xr);(focus rfl);(focus (first | rfl | (simp [*];done)));(focus simp [*,-Option.some.injEq];rfl);kernel_rfl)
     ·exact iha' _
     repeat (first | (first | (apply Xf;rfl) | apply Xj);focus simp [ckV,cvE_mk,Xy a,Xy b, *,-Option.some.injEq];rfl | (first | (apply Xa;rfl) | apply Xb);(focus simp [ckV,cvE_mk,Xy a,Xy b, *];done);focus simp [ckV,cvE_mk,Xy a,Xy b, *,-Option.some.injEq];rfl | (first | (apply Xg;rfl) | apply Xk);(focus simp [ckV,cvE_mk,Xy a,Xy b, *];done) | (first | refine Xl ?_ | refine Xi ?_ | refine Xh ?_ | refine Xo ?_ | refine Xq ?_);try simp only [Xw,Xx,reduceIte,Nat.reduceEqDiff] | refine Xn ?_ | refine Xp rfl ?_ | refine Xc ?_ | apply Xd;focus simp [ckV,cvE_mk,Xy a,Xy b, *];done | apply Xe;focus simp [ckV,cvE_mk,Xy a,Xy b, *];done | refine Ya rfl rfl ?_)
     ((apply Xr);(focus rfl);(focus (first | rfl | (simp [*];done)));(focus simp [*,-Option.some.injEq];rfl);kernel_rfl)
     ·exact ihb' _
     clear iha' ihb'
     by_cases h5:n=5
     case neg =>
      have hbt:binT h n ta tb=(ta == intB && tb == intB):=by unfold binT;rw [if_neg (fun h=>h5 h.1)]
      rw [hbt] at hw;simp only [beqS,intB] at hw;clear hbt
      repeat (first | (first | (apply Xf;rfl) | apply Xj);focus simp [ckV, *,-Option.some.injEq];rfl | (first | (apply Xa;rfl) | apply Xb);(focus simp [ckV, *];done);focus simp [ckV, *,-Option.some.injEq];rfl | (first | (apply Xg;rfl) | apply Xk);(focus simp [ckV, *];done) | (first | refine Xl ?_ | refine Xi ?_ | refine Xh ?_ | refine Xo ?_ | refine Xq ?_);try simp only [Xw,Xx,reduceIte,Nat.reduceEqDiff] | refine Xn ?_ | refine Xp rfl ?_ | refine Xc ?_ | apply Xd;focus simp [ckV, *];done | apply Xe;focus simp [ckV, *];done | refine Ya rfl rfl ?_ | (first | (apply AOpl.pickOrZ;rfl) | (apply AOpl.pickAndZ;rfl));(focus (simp [ckV, *,-Ax.CV.bool.injEq];rfl));(focus (intro hq;(try simp only [Bool.not_eq_true',Bool.not_eq_false',decide_eq_true_eq,decide_eq_false_iff_not,Bool.and_eq_true,Bool.or_eq_false_iff] at hq);simp [ckV, *,-Ax.CV.bool.injEq];rfl));intro z hz | (first | (apply AOpl.pickOrGZ;rfl) | (apply AOpl.pickAndGZ;rfl));(focus simp [ckV, *];done);(focus (simp [ckV, *,-Ax.CV.bool.injEq];rfl));(focus (intro hq;(try simp only [Bool.not_eq_true',Bool.not_eq_false',decide_eq_true_eq,decide_eq_false_iff_not,Bool.and_eq_true,Bool.or_eq_false_iff] at hq);simp [ckV, *,-Ax.CV.bool.injEq];rfl));intro z hz | (first | (apply AOpl.pickOrCZ;rfl) | (apply AOpl.pickAndCZ;rfl));(focus (simp [ckV, *,-Ax.CV.bool.injEq,-Option.some.injEq];rfl));(focus (intro hq;(try simp only [Bool.not_eq_true',Bool.not_eq_false',decide_eq_true_eq,decide_eq_false_iff_not,Bool.and_eq_true,Bool.or_eq_false_iff] at hq);simp [ckV, *,-Ax.CV.bool.injEq];rfl));(focus (intro hp hq;(try simp only [Bool.not_eq_true',Bool.not_eq_false',decide_eq_true_eq,decide_eq_false_iff_not,Bool.and_eq_true,Bool.or_eq_false_iff] at hp hq);simp [ckV, *,-Ax.CV.bool.injEq];rfl));intro z hz | (apply AOpl.passC;rfl);focus simp [ckV, *,-Ax.CV.bool.injEq];done | (apply AOpl.lookC;rfl);(focus (simp [ckV, *,-Ax.CV.bool.injEq,-Option.some.injEq];rfl));focus intro _;simp [ckV, *,-Option.some.injEq];rfl)
      cases z with
      | true =>
        rw [hz,if_pos rfl] at hw;rw [← hw];clear hw
        repeat (first | (first | (apply Xf;rfl) | apply Xj);focus simp [*,-Option.some.injEq];rfl | (first | (apply Xa;rfl) | apply Xb);(focus simp [*];done);focus simp [*,-Option.some.injEq];rfl | (first | (apply Xg;rfl) | apply Xk);(focus simp [*];done) | (first | refine Xl ?_ | refine Xi ?_ | refine Xh ?_ | refine Xo ?_ | refine Xq ?_);try simp only [Xw,Xx,reduceIte,Nat.reduceEqDiff] | refine Xn ?_ | refine Xp rfl ?_ | refine Xc ?_ | apply Xd;focus simp [*];done | apply Xe;focus simp [*];done | refine Ya rfl rfl ?_)
        ((apply Xr);(focus rfl);(focus (first | rfl | (simp [*];done)));(focus simp [*,-Option.some.injEq];rfl);kernel_rfl)
        ·exact need_ok 8 _
        repeat (first | (first | (apply Xf;rfl) | apply Xj);focus simp [*,-Option.some.injEq];rfl | (first | (apply Xa;rfl) | apply Xb);(focus simp [*];done);focus simp [*,-Option.some.injEq];rfl | (first | (apply Xg;rfl) | apply Xk);(focus simp [*];done) | (first | refine Xl ?_ | refine Xi ?_ | refine Xh ?_ | refine Xo ?_ | refine Xq ?_);try simp only [Xw,Xx,reduceIte,Nat.reduceEqDiff] | refine Xn ?_ | refine Xp rfl ?_ | refine Xc ?_ | apply Xd;focus simp [*];done | apply Xe;focus simp [*];done | refine Ya rfl rfl ?_)
        (refine⟨_,(by simp [*];rfl),?_⟩;(try simp only [packA]))
        all_goals rfl
      | false =>
        rw [hz,if_neg (by simp)] at hw;rw [← hw];clear hw
        repeat (first | (first | (apply Xf;rfl) | apply Xj);focus simp [*,-Option.some.injEq];rfl | (first | (apply Xa;rfl) | apply Xb);(focus simp [*];done);focus simp [*,-Option.some.injEq];rfl | (first | (apply Xg;rfl) | apply Xk);(focus simp [*];done) | (first | refine Xl ?_ | refine Xi ?_ | refine Xh ?_ | refine Xo ?_ | refine Xq ?_);try simp only [Xw,Xx,reduceIte,Nat.reduceEqDiff] | refine Xn ?_ | refine Xp rfl ?_ | refine Xc ?_ | apply Xd;focus simp [*];done | apply Xe;focus simp [*];done | refine Ya rfl rfl ?_)
        ((apply AOpl.callP);(focus rfl);(focus (first | rfl | (simp [*];done)));(focus simp [*,-Option.some.injEq];rfl);kernel_rfl)
        ·exact need_no 8 _
        rfl
     subst h5
     by_cases hai:ta=intB
     ·by_cases hbi:tb=intB
      ·have hbt:binT h 5 ta tb=true:=by unfold binT;rw [if_neg (fun h=>h.2.1 hai),hai,hbi];rfl
       rw [hbt,if_pos rfl] at hw;rw [← hw];simp only [intB] at hai hbi;subst hai hbi;clear hw hbt
       repeat (first | (first | (apply Xf;rfl) | apply Xj);focus simp [ckV, *,-Option.some.injEq];rfl | (first | (apply Xa;rfl) | apply Xb);(focus simp [ckV, *];done);focus simp [ckV, *,-Option.some.injEq];rfl | (first | (apply Xg;rfl) | apply Xk);(focus simp [ckV, *];done) | (first | refine Xl ?_ | refine Xi ?_ | refine Xh ?_ | refine Xo ?_ | refine Xq ?_);try simp only [Xw,Xx,reduceIte,Nat.reduceEqDiff] | refine Xn ?_ | refine Xp rfl ?_ | refine Xc ?_ | apply Xd;focus simp [ckV, *];done | apply Xe;focus simp [ckV, *];done | refine Ya rfl rfl ?_)
       ((apply Xr);(focus rfl);(focus (first | rfl | (simp [*];done)));(focus simp [*,-Option.some.injEq];rfl);kernel_rfl)
       ·exact need_ok 8 _
       repeat (first | (first | (apply Xf;rfl) | apply Xj);focus simp [*,-Option.some.injEq];rfl | (first | (apply Xa;rfl) | apply Xb);(focus simp [*];done);focus simp [*,-Option.some.injEq];rfl | (first | (apply Xg;rfl) | apply Xk);(focus simp [*];done) | (first | refine Xl ?_ | refine Xi ?_ | refine Xh ?_ | refine Xo ?_ | refine Xq ?_);try simp only [Xw,Xx,reduceIte,Nat.reduceEqDiff] | refine Xn ?_ | refine Xp rfl ?_ | refine Xc ?_ | apply Xd;focus simp [*];done | apply Xe;focus simp [*];done | refine Ya rfl rfl ?_)
       (refine⟨_,(by simp [*];rfl),?_⟩;(try simp only [packA]))
       all_goals rfl
      ·have hbt:binT h 5 ta tb=false:=by
        unfold binT;rw [if_neg (fun h=>h.2.1 hai)];have:(tb == intB)=false:=by simpa using hbi
        rw [this,Bool.and_false]
       rw [hbt,if_neg (by simp)] at hw;rw [← hw];simp only [intB] at hai hbi;subst hai;clear hw hbt
       repeat (first | (first | (apply Xf;rfl) | apply Xj);focus simp [ckV, *,-Option.some.injEq];rfl | (first | (apply Xa;rfl) | apply Xb);(focus simp [ckV, *];done);focus simp [ckV, *,-Option.some.injEq];rfl | (first | (apply Xg;rfl) | apply Xk);(focus simp [ckV, *];done) | (first | refine Xl ?_ | refine Xi ?_ | refine Xh ?_ | refine Xo ?_ | refine Xq ?_);try simp only [Xw,Xx,reduceIte,Nat.reduceEqDiff] | refine Xn ?_ | refine Xp rfl ?_ | refine Xc ?_ | apply Xd;focus simp [ckV, *];done | apply Xe;focus simp [ckV, *];done | refine Ya rfl rfl ?_)
       ((apply AOpl.callP);(focus rfl);(focus (first | rfl | (simp [*];done)));(focus simp [*,-Option.some.injEq];rfl);kernel_rfl)
       ·exact need_no 8 _
       rfl
     by_cases hbi:tb=intB
     ·have hbt:binT h 5 ta tb=false:=by
       unfold binT;rw [if_neg (fun h=>h.2.2 hbi),hbi,beqS,beqS];simp [hai]
      rw [hbt,if_neg (by simp)] at hw;rw [← hw];simp only [intB] at hai hbi;subst hbi;clear hbt hw
      repeat (first | (first | (apply Xf;rfl) | apply Xj);focus simp [ckV, *,-Option.some.injEq];rfl | (first | (apply Xa;rfl) | apply Xb);(focus simp [ckV, *];done);focus simp [ckV, *,-Option.some.injEq];rfl | (first | (apply Xg;rfl) | apply Xk);(focus simp [ckV, *];done) | (first | refine Xl ?_ | refine Xi ?_ | refine Xh ?_ | refine Xo ?_ | refine Xq ?_);try simp only [Xw,Xx,reduceIte,Nat.reduceEqDiff] | refine Xn ?_ | refine Xp rfl ?_ | refine Xc ?_ | apply Xd;focus simp [ckV, *];done | apply Xe;focus simp [ckV, *];done | refine Ya rfl rfl ?_)
      ((apply AOpl.callP);(focus rfl);(focus (first | rfl | (simp [*];done)));(focus simp [*,-Option.some.injEq];rfl);kernel_rfl)
      ·exact need_no 8 _
      rfl
     have hbt:binT h 5 ta tb=((decide (ta=nullB) && decide (tb=nullB)) || asgB h ta tb || asgB h tb ta):=by
      unfold binT;rw [if_pos ⟨rfl,hai,hbi⟩,beqS,beqS]
     simp only [intB,nullB] at hai hbi hbt;generalize asgB h ta tb=y1 at *;generalize asgB h tb ta=y2 at *
     repeat (first | (first | (apply Xf;rfl) | apply Xj);focus simp [ckV, *,-Option.some.injEq];rfl | (first | (apply Xa;rfl) | apply Xb);(focus simp [ckV, *];done);focus simp [ckV, *,-Option.some.injEq];rfl | (first | (apply Xg;rfl) | apply Xk);(focus simp [ckV, *];done) | (first | refine Xl ?_ | refine Xi ?_ | refine Xh ?_ | refine Xo ?_ | refine Xq ?_);try simp only [Xw,Xx,reduceIte,Nat.reduceEqDiff] | refine Xn ?_ | refine Xp rfl ?_ | refine Xc ?_ | apply Xd;focus simp [ckV, *];done | apply Xe;focus simp [ckV, *];done | refine Ya rfl rfl ?_ | (first | (apply AOpl.pickOrZ;rfl) | (apply AOpl.pickAndZ;rfl));(focus (simp [ckV, *,-Ax.CV.bool.injEq];rfl));(focus (intro hq;(try simp only [Bool.not_eq_true',Bool.not_eq_false',decide_eq_true_eq,decide_eq_false_iff_not,Bool.and_eq_true,Bool.or_eq_false_iff] at hq);simp [ckV, *,-Ax.CV.bool.injEq];rfl));intro z hz | (first | (apply AOpl.pickOrGZ;rfl) | (apply AOpl.pickAndGZ;rfl));(focus simp [ckV, *];done);(focus (simp [ckV, *,-Ax.CV.bool.injEq];rfl));(focus (intro hq;(try simp only [Bool.not_eq_true',Bool.not_eq_false',decide_eq_true_eq,decide_eq_false_iff_not,Bool.and_eq_true,Bool.or_eq_false_iff] at hq);simp [ckV, *,-Ax.CV.bool.injEq];rfl));intro z hz | (first | (apply AOpl.pickOrCZ;rfl) | (apply AOpl.pickAndCZ;rfl));(focus (simp [ckV, *,-Ax.CV.bool.injEq,-Option.some.injEq];rfl));(focus (intro hq;(try simp only [Bool.not_eq_true',Bool.not_eq_false',decide_eq_true_eq,decide_eq_false_iff_not,Bool.and_eq_true,Bool.or_eq_false_iff] at hq);simp [ckV, *,-Ax.CV.bool.injEq];rfl));(focus (intro hp hq;(try simp only [Bool.not_eq_true',Bool.not_eq_false',decide_eq_true_eq,decide_eq_false_iff_not,Bool.and_eq_true,Bool.or_eq_false_iff] at hp hq);simp [ckV, *,-Ax.CV.bool.injEq];rfl));intro z hz | (apply AOpl.passC;rfl);focus simp [ckV, *,-Ax.CV.bool.injEq];done | (apply AOpl.lookC;rfl);(focus (simp [ckV, *,-Ax.CV.bool.injEq,-Option.some.injEq];rfl));focus intro _;simp [ckV, *,-Option.some.injEq];rfl)
     ((apply AOpl.callC);(focus rfl);(focus (simp [*,-Ax.CV.bool.injEq,-Option.some.injEq];rfl));(focus (intro _;simp [*,-Option.some.injEq];rfl));(focus (kernel_rfl)))
     ·intro _;exact hab.f
     intro nx3 hn3
     repeat (first | (first | (apply Xf;rfl) | apply Xj);focus simp [*,-Option.some.injEq];rfl | (first | (apply Xa;rfl) | apply Xb);(focus simp [*];done);focus simp [*,-Option.some.injEq];rfl | (first | (apply Xg;rfl) | apply Xk);(focus simp [*];done) | (first | refine Xl ?_ | refine Xi ?_ | refine Xh ?_ | refine Xo ?_ | refine Xq ?_);try simp only [Xw,Xx,reduceIte,Nat.reduceEqDiff] | refine Xn ?_ | refine Xp rfl ?_ | refine Xc ?_ | apply Xd;focus simp [*];done | apply Xe;focus simp [*];done | refine Ya rfl rfl ?_ | (first | (apply AOpl.pickOrZ;rfl) | (apply AOpl.pickAndZ;rfl));(focus (simp [*,-Ax.CV.bool.injEq];rfl));(focus (intro hq;(try simp only [Bool.not_eq_true',Bool.not_eq_false',decide_eq_true_eq,decide_eq_false_iff_not,Bool.and_eq_true,Bool.or_eq_false_iff] at hq);simp [*,-Ax.CV.bool.injEq];rfl));intro z hz | (first | (apply AOpl.pickOrGZ;rfl) | (apply AOpl.pickAndGZ;rfl));(focus simp [*];done);(focus (simp [*,-Ax.CV.bool.injEq];rfl));(focus (intro hq;(try simp only [Bool.not_eq_true',Bool.not_eq_false',decide_eq_true_eq,decide_eq_false_iff_not,Bool.and_eq_true,Bool.or_eq_false_iff] at hq);simp [*,-Ax.CV.bool.injEq];rfl));intro z hz | (first | (apply AOpl.pickOrCZ;rfl) | (apply AOpl.pickAndCZ;rfl));(focus (simp [*,-Ax.CV.bool.injEq,-Option.some.injEq];rfl));(focus (intro hq;(try simp only [Bool.not_eq_true',Bool.not_eq_false',decide_eq_true_eq,decide_eq_false_iff_not,Bool.and_eq_true,Bool.or_eq_false_iff] at hq);simp [*,-Ax.CV.bool.injEq];rfl));(focus (intro hp hq;(try simp only [Bool.not_eq_true',Bool.not_eq_false',decide_eq_true_eq,decide_eq_false_iff_not,Bool.and_eq_true,Bool.or_eq_false_iff] at hp hq);simp [*,-Ax.CV.bool.injEq];rfl));intro z hz | (apply AOpl.passC;rfl);focus simp [*,-Ax.CV.bool.injEq];done | (apply AOpl.lookC;rfl);(focus (simp [*,-Ax.CV.bool.injEq,-Option.some.injEq];rfl));focus intro _;simp [*,-Option.some.injEq];rfl)
     ((apply AOpl.callC);(focus rfl);(focus (simp [*,-Ax.CV.bool.injEq,-Option.some.injEq];rfl));(focus (intro _;simp [*,-Option.some.injEq];rfl));(focus (kernel_rfl)))
     ·intro _;exact hba.f
     intro nx4 hn4
     repeat (first | (first | (apply Xf;rfl) | apply Xj);focus simp [*,-Option.some.injEq];rfl | (first | (apply Xa;rfl) | apply Xb);(focus simp [*];done);focus simp [*,-Option.some.injEq];rfl | (first | (apply Xg;rfl) | apply Xk);(focus simp [*];done) | (first | refine Xl ?_ | refine Xi ?_ | refine Xh ?_ | refine Xo ?_ | refine Xq ?_);try simp only [Xw,Xx,reduceIte,Nat.reduceEqDiff] | refine Xn ?_ | refine Xp rfl ?_ | refine Xc ?_ | apply Xd;focus simp [*];done | apply Xe;focus simp [*];done | refine Ya rfl rfl ?_ | (first | (apply AOpl.pickOrZ;rfl) | (apply AOpl.pickAndZ;rfl));(focus (simp [*,-Ax.CV.bool.injEq];rfl));(focus (intro hq;(try simp only [Bool.not_eq_true',Bool.not_eq_false',decide_eq_true_eq,decide_eq_false_iff_not,Bool.and_eq_true,Bool.or_eq_false_iff] at hq);simp [*,-Ax.CV.bool.injEq];rfl));intro z hz | (first | (apply AOpl.pickOrGZ;rfl) | (apply AOpl.pickAndGZ;rfl));(focus simp [*];done);(focus (simp [*,-Ax.CV.bool.injEq];rfl));(focus (intro hq;(try simp only [Bool.not_eq_true',Bool.not_eq_false',decide_eq_true_eq,decide_eq_false_iff_not,Bool.and_eq_true,Bool.or_eq_false_iff] at hq);simp [*,-Ax.CV.bool.injEq];rfl));intro z hz | (first | (apply AOpl.pickOrCZ;rfl) | (apply AOpl.pickAndCZ;rfl));(focus (simp [*,-Ax.CV.bool.injEq,-Option.some.injEq];rfl));(focus (intro hq;(try simp only [Bool.not_eq_true',Bool.not_eq_false',decide_eq_true_eq,decide_eq_false_iff_not,Bool.and_eq_true,Bool.or_eq_false_iff] at hq);simp [*,-Ax.CV.bool.injEq];rfl));(focus (intro hp hq;(try simp only [Bool.not_eq_true',Bool.not_eq_false',decide_eq_true_eq,decide_eq_false_iff_not,Bool.and_eq_true,Bool.or_eq_false_iff] at hp hq);simp [*,-Ax.CV.bool.injEq];rfl));intro z hz | (apply AOpl.passC;rfl);focus simp [*,-Ax.CV.bool.injEq];done | (apply AOpl.lookC;rfl);(focus (simp [*,-Ax.CV.bool.injEq,-Option.some.injEq];rfl));focus intro _;simp [*,-Option.some.injEq];rfl)
     rename_i z1 hz1 z2 hz2;have hbz:binT h 5 ta tb=z:=by
      rw [hbt,← hz,← hz2,← hz1]
      by_cases p:ta=[110,117,108,108] <;> by_cases q:tb=[110,117,108,108] <;> simp [p,q]
     rw [hbz] at hw;clear hz1 hz2 hz hbz hbt;cases z with
     | true =>
       rw [if_pos rfl] at hw;rw [← hw];clear hw
       repeat (first | (first | (apply Xf;rfl) | apply Xj);focus simp [*,-Option.some.injEq];rfl | (first | (apply Xa;rfl) | apply Xb);(focus simp [*];done);focus simp [*,-Option.some.injEq];rfl | (first | (apply Xg;rfl) | apply Xk);(focus simp [*];done) | (first | refine Xl ?_ | refine Xi ?_ | refine Xh ?_ | refine Xo ?_ | refine Xq ?_);try simp only [Xw,Xx,reduceIte,Nat.reduceEqDiff] | refine Xn ?_ | refine Xp rfl ?_ | refine Xc ?_ | apply Xd;focus simp [*];done | apply Xe;focus simp [*];done | refine Ya rfl rfl ?_)
       ((apply Xr);(focus rfl);(focus (first | rfl | (simp [*];done)));(focus simp [*,-Option.some.injEq];rfl);kernel_rfl)
       ·exact need_ok 8 _
       repeat (first | (first | (apply Xf;rfl) | apply Xj);focus simp [*,-Option.some.injEq];rfl | (first | (apply Xa;rfl) | apply Xb);(focus simp [*];done);focus simp [*,-Option.some.injEq];rfl | (first | (apply Xg;rfl) | apply Xk);(focus simp [*];done) | (first | refine Xl ?_ | refine Xi ?_ | refine Xh ?_ | refine Xo ?_ | refine Xq ?_);try simp only [Xw,Xx,reduceIte,Nat.reduceEqDiff] | refine Xn ?_ | refine Xp rfl ?_ | refine Xc ?_ | apply Xd;focus simp [*];done | apply Xe;focus simp [*];done | refine Ya rfl rfl ?_)
       (refine⟨_,(by simp [*];rfl),?_⟩;(try simp only [packA]))
       all_goals rfl
     | false =>
       rw [if_neg (by simp)] at hw;rw [← hw];clear hw
       repeat (first | (first | (apply Xf;rfl) | apply Xj);focus simp [*,-Option.some.injEq];rfl | (first | (apply Xa;rfl) | apply Xb);(focus simp [*];done);focus simp [*,-Option.some.injEq];rfl | (first | (apply Xg;rfl) | apply Xk);(focus simp [*];done) | (first | refine Xl ?_ | refine Xi ?_ | refine Xh ?_ | refine Xo ?_ | refine Xq ?_);try simp only [Xw,Xx,reduceIte,Nat.reduceEqDiff] | refine Xn ?_ | refine Xp rfl ?_ | refine Xc ?_ | apply Xd;focus simp [*];done | apply Xe;focus simp [*];done | refine Ya rfl rfl ?_)
       ((apply AOpl.callP);(focus rfl);(focus (first | rfl | (simp [*];done)));(focus simp [*,-Option.some.injEq];rfl);kernel_rfl)
       ·exact need_no 8 _
       rfl
/-- What call gives, once the types of the arguments are known. -/
def calT1 (c m:Bytes)(st:Bool)(args:List Ex):Tk Bytes:=match sigT h c m st args.length with
 | .error e=>.error e
 | .ok g=>match argT h cls sc g.params args with
   | .error e=>.error e
   | .ok _=>.ok g.result
set_option maxRecDepth 10000 in
set_option maxHeartbeats 8000000 in
theorem tk_call (hc:HC h)(c m:Bytes)(st:Bool)(args:List Ex)(hal:args.length≤lim)(ih:∀ e∈args,ExOk h cls res sc at' e):FRes Tryd.prog tkG 51 [ckV h cls res sc at',.str c,.str m,.bool st,.lst (args.map cvE)] (tkB (calT1 h cls sc c m st args)):=by
 refine FRes.ofBody tkG_pu (by simp [puL,puV,puEs,ckV_pu]) (tkB_pu _) Tryd.func51 rfl rfl fun nx=>?_
 have hlk:=tk_Lookup h hc.hb c m;obtain⟨w,hw⟩:∃ w,calT1 h cls sc c m st args=w:=⟨_,rfl⟩;rw [hw];unfold calT1 sigT at hw;cases h1:lookF h c m with
 | none =>
   rw [h1] at hw hlk;have hlk':FCall1 Tryd.prog tkG 65 [cvH h,.str c,.str m] (.tup [.str [],.agg [.str [],.bool false,.nils,.str []],.bool false]):=hlk;simp only at hw;rw [← hw];clear hw h1 hlk
   repeat (first | (first | (apply Xf;rfl) | apply Xj);focus simp [ckV, *,-Option.some.injEq];rfl | (first | (apply Xa;rfl) | apply Xb);(focus simp [ckV, *];done);focus simp [ckV, *,-Option.some.injEq];rfl | (first | (apply Xg;rfl) | apply Xk);(focus simp [ckV, *];done) | (first | refine Xl ?_ | refine Xi ?_ | refine Xh ?_ | refine Xo ?_ | refine Xq ?_);try simp only [Xw,Xx,reduceIte,Nat.reduceEqDiff] | refine Xn ?_ | refine Xp rfl ?_ | refine Xc ?_ | apply Xd;focus simp [ckV, *];done | apply Xe;focus simp [ckV, *];done | refine Ya rfl rfl ?_)
   ((apply Xr);(focus rfl);(focus (first | rfl | (simp [*];done)));(focus simp [*,-Option.some.injEq];rfl);kernel_rfl)
   ·exact hlk' _
   repeat (first | (first | (apply Xf;rfl) | apply Xj);focus simp [*,-Option.some.injEq];rfl | (first | (apply Xa;rfl) | apply Xb);(focus simp [*];done);focus simp [*,-Option.some.injEq];rfl | (first | (apply Xg;rfl) | apply Xk);(focus simp [*];done) | (first | refine Xl ?_ | refine Xi ?_ | refine Xh ?_ | refine Xo ?_ | refine Xq ?_);try simp only [Xw,Xx,reduceIte,Nat.reduceEqDiff] | refine Xn ?_ | refine Xp rfl ?_ | refine Xc ?_ | apply Xd;focus simp [*];done | apply Xe;focus simp [*];done | refine Ya rfl rfl ?_)
   ((apply AOpl.callP);(focus rfl);(focus (first | rfl | (simp [*];done)));(focus simp [*,-Option.some.injEq];rfl);kernel_rfl)
   ·exact need_no 6 _
   rfl
 | some p =>
 obtain⟨c1,g⟩:=p;rw [h1] at hw hlk;have hlk':FCall1 Tryd.prog tkG 65 [cvH h,.str c,.str m] (.tup [.str c1,.agg [.str g.name,.bool g.static,.lst (g.params.map cvN),.str g.result],.bool true]):=hlk;simp only at hw;clear h1 hlk
 by_cases h2:g.static=st
 case neg =>
  rw [if_neg h2] at hw;rw [← hw];clear hw;have h2':(g.static == st)=false:=by simpa using h2
  repeat (first | (first | (apply Xf;rfl) | apply Xj);focus simp [ckV, *,-Option.some.injEq];rfl | (first | (apply Xa;rfl) | apply Xb);(focus simp [ckV, *];done);focus simp [ckV, *,-Option.some.injEq];rfl | (first | (apply Xg;rfl) | apply Xk);(focus simp [ckV, *];done) | (first | refine Xl ?_ | refine Xi ?_ | refine Xh ?_ | refine Xo ?_ | refine Xq ?_);try simp only [Xw,Xx,reduceIte,Nat.reduceEqDiff] | refine Xn ?_ | refine Xp rfl ?_ | refine Xc ?_ | apply Xd;focus simp [ckV, *];done | apply Xe;focus simp [ckV, *];done | refine Ya rfl rfl ?_)
  ((apply Xr);(focus rfl);(focus (first | rfl | (simp [*];done)));(focus simp [*,-Option.some.injEq];rfl);kernel_rfl)
  ·exact hlk' _
  repeat (first | (first | (apply Xf;rfl) | apply Xj);focus simp [*,-Option.some.injEq];rfl | (first | (apply Xa;rfl) | apply Xb);(focus simp [*];done);focus simp [*,-Option.some.injEq];rfl | (first | (apply Xg;rfl) | apply Xk);(focus simp [*];done) | (first | refine Xl ?_ | refine Xi ?_ | refine Xh ?_ | refine Xo ?_ | refine Xq ?_);try simp only [Xw,Xx,reduceIte,Nat.reduceEqDiff] | refine Xn ?_ | refine Xp rfl ?_ | refine Xc ?_ | apply Xd;focus simp [*];done | apply Xe;focus simp [*];done | refine Ya rfl rfl ?_)
  ((apply AOpl.callP);(focus rfl);(focus (first | rfl | (simp [*];done)));(focus simp [*,-Option.some.injEq];rfl);kernel_rfl)
  ·exact need_no 6 _
  rfl
 rw [if_pos h2] at hw;subst h2
 by_cases h3:args.length=g.params.length
 case neg =>
  rw [if_neg h3] at hw;rw [← hw];clear hw;have h3':¬ (args.length:Int)=g.params.length:=by omega
  repeat (first | (first | (apply Xf;rfl) | apply Xj);focus simp [ckV, *,-Option.some.injEq];rfl | (first | (apply Xa;rfl) | apply Xb);(focus simp [ckV, *];done);focus simp [ckV, *,-Option.some.injEq];rfl | (first | (apply Xg;rfl) | apply Xk);(focus simp [ckV, *];done) | (first | refine Xl ?_ | refine Xi ?_ | refine Xh ?_ | refine Xo ?_ | refine Xq ?_);try simp only [Xw,Xx,reduceIte,Nat.reduceEqDiff] | refine Xn ?_ | refine Xp rfl ?_ | refine Xc ?_ | apply Xd;focus simp [ckV, *];done | apply Xe;focus simp [ckV, *];done | refine Ya rfl rfl ?_)
  ((apply Xr);(focus rfl);(focus (first | rfl | (simp [*];done)));(focus simp [*,-Option.some.injEq];rfl);kernel_rfl)
  ·exact hlk' _
  repeat (first | (first | (apply Xf;rfl) | apply Xj);focus simp [*,-Option.some.injEq];rfl | (first | (apply Xa;rfl) | apply Xb);(focus simp [*];done);focus simp [*,-Option.some.injEq];rfl | (first | (apply Xg;rfl) | apply Xk);(focus simp [*];done) | (first | refine Xl ?_ | refine Xi ?_ | refine Xh ?_ | refine Xo ?_ | refine Xq ?_);try simp only [Xw,Xx,reduceIte,Nat.reduceEqDiff] | refine Xn ?_ | refine Xp rfl ?_ | refine Xc ?_ | apply Xd;focus simp [*];done | apply Xe;focus simp [*];done | refine Ya rfl rfl ?_)
  ((apply Xr);(focus rfl);(focus (first | rfl | (simp [*];done)));(focus simp [*,-Option.some.injEq];rfl);kernel_rfl)
  ·exact need_ok 6 _
  repeat (first | (first | (apply Xf;rfl) | apply Xj);focus simp [*,-Option.some.injEq];rfl | (first | (apply Xa;rfl) | apply Xb);(focus simp [*];done);focus simp [*,-Option.some.injEq];rfl | (first | (apply Xg;rfl) | apply Xk);(focus simp [*];done) | (first | refine Xl ?_ | refine Xi ?_ | refine Xh ?_ | refine Xo ?_ | refine Xq ?_);try simp only [Xw,Xx,reduceIte,Nat.reduceEqDiff] | refine Xn ?_ | refine Xp rfl ?_ | refine Xc ?_ | apply Xd;focus simp [*];done | apply Xe;focus simp [*];done | refine Ya rfl rfl ?_)
  ((apply AOpl.callP);(focus rfl);(focus (first | rfl | (simp [*];done)));(focus simp [*,-Option.some.injEq];rfl);kernel_rfl)
  ·exact need_no 9 _
  rfl
 rw [if_pos h3] at hw;simp only at hw
 repeat (first | (first | (apply Xf;rfl) | apply Xj);focus simp [ckV, *,-Option.some.injEq];rfl | (first | (apply Xa;rfl) | apply Xb);(focus simp [ckV, *];done);focus simp [ckV, *,-Option.some.injEq];rfl | (first | (apply Xg;rfl) | apply Xk);(focus simp [ckV, *];done) | (first | refine Xl ?_ | refine Xi ?_ | refine Xh ?_ | refine Xo ?_ | refine Xq ?_);try simp only [Xw,Xx,reduceIte,Nat.reduceEqDiff] | refine Xn ?_ | refine Xp rfl ?_ | refine Xc ?_ | apply Xd;focus simp [ckV, *];done | apply Xe;focus simp [ckV, *];done | refine Ya rfl rfl ?_)
 ((apply Xr);(focus rfl);(focus (first | rfl | (simp [*];done)));(focus simp [*,-Option.some.injEq];rfl);kernel_rfl)
 ·exact hlk' _
 repeat (first | (first | (apply Xf;rfl) | apply Xj);focus simp [*,-Option.some.injEq];rfl | (first | (apply Xa;rfl) | apply Xb);(focus simp [*];done);focus simp [*,-Option.some.injEq];rfl | (first | (apply Xg;rfl) | apply Xk);(focus simp [*];done) | (first | refine Xl ?_ | refine Xi ?_ | refine Xh ?_ | refine Xo ?_ | refine Xq ?_);try simp only [Xw,Xx,reduceIte,Nat.reduceEqDiff] | refine Xn ?_ | refine Xp rfl ?_ | refine Xc ?_ | apply Xd;focus simp [*];done | apply Xe;focus simp [*];done | refine Ya rfl rfl ?_)
 ((apply Xr);(focus rfl);(focus (first | rfl | (simp [*];done)));(focus simp [*,-Option.some.injEq];rfl);kernel_rfl)
 ·exact need_ok 6 _
 repeat (first | (first | (apply Xf;rfl) | apply Xj);focus simp [*,-Option.some.injEq];rfl | (first | (apply Xa;rfl) | apply Xb);(focus simp [*];done);focus simp [*,-Option.some.injEq];rfl | (first | (apply Xg;rfl) | apply Xk);(focus simp [*];done) | (first | refine Xl ?_ | refine Xi ?_ | refine Xh ?_ | refine Xo ?_ | refine Xq ?_);try simp only [Xw,Xx,reduceIte,Nat.reduceEqDiff] | refine Xn ?_ | refine Xp rfl ?_ | refine Xc ?_ | apply Xd;focus simp [*];done | apply Xe;focus simp [*];done | refine Ya rfl rfl ?_)
 ((apply Xr);(focus rfl);(focus (first | rfl | (simp [*];done)));(focus simp [*,-Option.some.injEq];rfl);kernel_rfl)
 ·exact need_ok 9 _
 repeat (first | (first | (apply Xf;rfl) | apply Xj);focus simp [*,-Option.some.injEq];rfl | (first | (apply Xa;rfl) | apply Xb);(focus simp [*];done);focus simp [*,-Option.some.injEq];rfl | (first | (apply Xg;rfl) | apply Xk);(focus simp [*];done) | (first | refine Xl ?_ | refine Xi ?_ | refine Xh ?_ | refine Xo ?_ | refine Xq ?_);try simp only [Xw,Xx,reduceIte,Nat.reduceEqDiff] | refine Xn ?_ | refine Xp rfl ?_ | refine Xc ?_ | apply Xd;focus simp [*];done | apply Xe;focus simp [*];done | refine Ya rfl rfl ?_)
 clear hlk';have hgl:g.params.length≤lim:=by omega
 obtain⟨W,hW⟩:∃ W,argT h cls sc g.params args=W:=⟨_,rfl⟩;rw [hW] at hw;refine AWp.countO g.params.length [14,15,44] 45 (fun i e H1 nx1=>e 44=.int .i64 i∧H1 nx=some (.cells [.str g.name,.bool g.static,.lst (g.params.map cvN),.str g.result])∧argT h cls sc (g.params.drop i) (args.drop i)=W) ⟨(by first | (simp (disch:=omega) [putE,over,ofV,ofS, *];done) | (simp (disch:=omega) [putE,over,ofV,ofS, *];rfl)),by simp [upd],hW⟩ ?_;clear hW;rintro i v H1 nx1 hi hn1 ⟨h44,hS,hf⟩;have q1:=far (show nx<nx1 by omega)
 repeat (first | (first | (apply Xf;rfl) | apply Xj);focus simp [*,-Option.some.injEq];rfl | (first | (apply Xa;rfl) | apply Xb);(focus simp [*];done);focus simp [*,-Option.some.injEq];rfl | (first | (apply Xg;rfl) | apply Xk);(focus simp [*];done) | (first | refine Xl ?_ | refine Xi ?_ | refine Xh ?_ | refine Xo ?_ | refine Xq ?_);try simp only [Xw,Xx,reduceIte,Nat.reduceEqDiff] | refine Xn ?_ | refine Xp rfl ?_ | refine Xc ?_ | apply Xd;focus simp [*];done | apply Xe;focus simp [*];done)
 (((apply AWp.cond');(focus (simp [*,-Ax.CV.bool.injEq];rfl))) <;> (intro hb) <;> (try simp only [decide_eq_true_eq,decide_eq_false_iff_not,Bool.not_eq_true',Bool.not_eq_false',Bool.not_eq_true,Bool.not_eq_false] at hb))
 ·have hlt:i<g.params.length:=hb;have hlt':i<args.length:=by omega
  have hwi:=lim_wrap hlt hgl;clear hb;rw [List.drop_eq_getElem_cons hlt,List.drop_eq_getElem_cons hlt',Lx.argT] at hf;have has:=tk_assign h cls res sc at' hc args[i] g.params[i] (ih _ (List.getElem_mem hlt'));cases hx:asgT h (exT9 h cls sc args[i]) g.params[i] with
  | error x =>
    rw [hx] at hf has;have has':FRes Tryd.prog tkG 61 [ckV h cls res sc at',.agg (cvE args[i]),.str g.params[i]] (.pan (fltV x)):=has;simp only at hf;rw [← hf] at hw;simp only at hw;rw [← hw];clear hf hw hx has ih;rw [Xy args[i]] at has'
    repeat (first | (first | (apply Xf;rfl) | apply Xj);focus simp [Xy args[i],cvN,ckV, *,-Option.some.injEq];rfl | (first | (apply Xa;rfl) | apply Xb);(focus simp [Xy args[i],cvN,ckV, *];done);focus simp [Xy args[i],cvN,ckV, *,-Option.some.injEq];rfl | (first | (apply Xg;rfl) | apply Xk);(focus simp [Xy args[i],cvN,ckV, *];done) | (first | refine Xl ?_ | refine Xi ?_ | refine Xh ?_ | refine Xo ?_ | refine Xq ?_);try simp only [Xw,Xx,reduceIte,Nat.reduceEqDiff] | refine Xn ?_ | refine Xp rfl ?_ | refine Xc ?_ | apply Xd;focus simp [Xy args[i],cvN,ckV, *];done | apply Xe;focus simp [Xy args[i],cvN,ckV, *];done)
    (refine AWp.regDT (by kernel_rfl) (by kernel_rfl) rfl ?_;intro nxq hnq)
    repeat (first | apply Xt;(focus simp [cvN, *,-Option.some.injEq];rfl) | apply Xs;(focus simp [cvN, *];done);(focus simp [cvN, *,-Option.some.injEq];rfl) | apply Xu;(focus simp [cvN, *];done) | refine Xv ?_;try simp only [Xw,Xx,reduceIte,Nat.reduceEqDiff])
    ((apply AQq.pan);(focus (first | rfl | (simp [ckV, *];done)));(focus simp [ckV, *,-Option.some.injEq];rfl);kernel_rfl)
    ·exact has' _
    ·repeat (first | exact AQt.nil | (apply AQt.look;(focus simp [*,-Option.some.injEq];rfl)) | (apply AQt.lookG;(focus simp [*];done);(focus simp [*,-Option.some.injEq];rfl)) | (apply AQt.pass;(focus simp [*];done)) | refine AQt.dead (by kernel_rfl) ?_)
    intro e2;rfl
  | ok u =>
    rw [hx] at hf has;have has':FRes Tryd.prog tkG 61 [ckV h cls res sc at',.agg (cvE args[i]),.str g.params[i]] (.ret (.tup [])):=has;simp only at hf;clear hw hx has ih;rw [Xy args[i]] at has'
    repeat (first | (first | (apply Xf;rfl) | apply Xj);focus simp [Xy args[i],cvN,ckV, *,-Option.some.injEq];rfl | (first | (apply Xa;rfl) | apply Xb);(focus simp [Xy args[i],cvN,ckV, *];done);focus simp [Xy args[i],cvN,ckV, *,-Option.some.injEq];rfl | (first | (apply Xg;rfl) | apply Xk);(focus simp [Xy args[i],cvN,ckV, *];done) | (first | refine Xl ?_ | refine Xi ?_ | refine Xh ?_ | refine Xo ?_ | refine Xq ?_);try simp only [Xw,Xx,reduceIte,Nat.reduceEqDiff] | refine Xn ?_ | refine Xp rfl ?_ | refine Xc ?_ | apply Xd;focus simp [Xy args[i],cvN,ckV, *];done | apply Xe;focus simp [Xy args[i],cvN,ckV, *];done)
    (refine AWp.regDT (by kernel_rfl) (by kernel_rfl) rfl ?_;intro nxq hnq)
    repeat (first | apply Xt;(focus simp [cvN, *,-Option.some.injEq];rfl) | apply Xs;(focus simp [cvN, *];done);(focus simp [cvN, *,-Option.some.injEq];rfl) | apply Xu;(focus simp [cvN, *];done) | refine Xv ?_;try simp only [Xw,Xx,reduceIte,Nat.reduceEqDiff])
    ((apply AQq.callG);(focus (first | rfl | (simp [ckV, *];done)));(focus simp [ckV, *,-Option.some.injEq];rfl);kernel_rfl)
    ·exact has' _
    repeat (first | apply Xt;(focus simp [*,-Option.some.injEq];rfl) | apply Xs;(focus simp [*];done);(focus simp [*,-Option.some.injEq];rfl) | apply Xu;(focus simp [*];done) | refine Xv ?_;try simp only [Xw,Xx,reduceIte,Nat.reduceEqDiff])
    repeat (first | (first | (apply Xf;rfl) | apply Xj);focus simp [*,-Option.some.injEq];rfl | (first | (apply Xa;rfl) | apply Xb);(focus simp [*];done);focus simp [*,-Option.some.injEq];rfl | (first | (apply Xg;rfl) | apply Xk);(focus simp [*];done) | (first | refine Xl ?_ | refine Xi ?_ | refine Xh ?_ | refine Xo ?_ | refine Xq ?_);try simp only [Xw,Xx,reduceIte,Nat.reduceEqDiff] | refine Xn ?_ | refine Xp rfl ?_ | refine Xc ?_ | apply Xd;focus simp [*];done | apply Xe;focus simp [*];done | refine Ya rfl rfl ?_)
    exact⟨by ((repeat (first | exact Keeps.base _ _ _ _ | (with_reducible exact Keeps.refl _ _ _) | (refine Keeps.put rfl ?_) | (refine Keeps.over' rfl rfl ?_)))),hlt,(by first | (simp (disch:=omega) [putE,over,ofV,ofS, *];done) | (simp (disch:=omega) [putE,over,ofV,ofS, *];rfl)),by simp [upd, *],hf⟩
 ·have hi':g.params.length≤i:=by omega
  rw [List.drop_eq_nil_of_le hi',List.drop_eq_nil_of_le (by omega),Lx.argT] at hf
  ·rw [← hf] at hw;simp only at hw;rw [← hw];clear hf hw ih
   repeat (first | (first | (apply Xf;rfl) | apply Xj);focus simp [*,-Option.some.injEq];rfl | (first | (apply Xa;rfl) | apply Xb);(focus simp [*];done);focus simp [*,-Option.some.injEq];rfl | (first | (apply Xg;rfl) | apply Xk);(focus simp [*];done) | (first | refine Xl ?_ | refine Xi ?_ | refine Xh ?_ | refine Xo ?_ | refine Xq ?_);try simp only [Xw,Xx,reduceIte,Nat.reduceEqDiff] | refine Xn ?_ | refine Xp rfl ?_ | refine Xc ?_ | apply Xd;focus simp [*];done | apply Xe;focus simp [*];done | refine Ya rfl rfl ?_)
   (refine⟨_,(by simp [*];rfl),?_⟩;(try simp only [packA]))
   all_goals rfl
  ·intro _ _ _ _ e _;cases e
end
end Go.Proofs.YtoookjadbhdfhaaDoor
