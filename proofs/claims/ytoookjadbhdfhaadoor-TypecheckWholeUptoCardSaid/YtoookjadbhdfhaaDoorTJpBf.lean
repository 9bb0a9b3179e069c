/-
  kids, assign, field, binary of the checker, which is only read; walked.
-/
import Derived.Test.YtoookjadbhdfhaaDoorTJpBe
import Derived.Test.YtoookjadbhdfhaaDoorTJpAt
set_option linter.unusedSectionVars false
set_option linter.unusedSimpArgs false
set_option linter.unnecessarySimpa false
set_option linter.unusedVariables false
set_option linter.unusedSimpArgs false
set_option linter.unusedVariables false
namespace Go.Proofs.YtoookjadbhdfhaaDoor
section
open Lx Ax Go.RowKit
attribute [local simp] stepS Ax.stepT Dl.on qstep astep estep rd putE over argE ofV ofS loadA pickCells isAggD faddA fieldA partA iaddA idxA sliA bnd binA intA strA unA convA bltA lenA mapOf findK keyD scalD storeA appA srcA srcD upd drp Dl.hp Dl.nx CV.cs CV.one buildA placesA fillA zrep tasA ifaceD eqA eqFs eqIs range2 copyA nbeq nble nblt decEq beqI bneI beqS bneS isED Int.ofNat_inj List.getElem?_map List.getElem?_eq_getElem Option.map_some ti_int ti_bool ti_str ti_i64 ti_Strs ti_Cds ti_Cd ti_Flds ti_Fld ti_Sgs ti_Sg ti_Hi ti_Exs ti_Ex ti_Chk ti_Flt ti_Errno gd gdB callA resA op1
attribute [local simp] nu1 nu2 nu3 nu4 nu5 nu6 nu7 nu8 nu9 nu10 nu11 nu12 nu13 upd_upd
set_option maxRecDepth 10000 in
set_option maxHeartbeats 8000000 in
theorem tk_kids (e:Ex):FRes Tryd.prog tkG 47 [.agg (cvE e)] (tkU (needT (kidsT e.kind e.kids.length) 1)):=by
 refine FRes.ofBody tkG_pu (by simp [puL,puV,puE]) (tkU_pu _) Tryd.func47 rfl rfl fun nx=>?_
 obtain⟨k,n,o,m,ks⟩:=e;have hk0:(Ex.mk k n o m ks).kind=k:=rfl;have hks:(Ex.mk k n o m ks).kids=ks:=rfl;rw [hk0,hks];clear hk0 hks;obtain⟨w,hw⟩:∃ w,needT (kidsT k ks.length) 1=w:=⟨_,rfl⟩;rw [hw];unfold kidsT at hw
 by_cases h6:k=6
 ·rw [if_pos h6] at hw;subst h6
  by_cases hn:(ks.length:Int)=2
  ·have hb:(ks.length == 2)=true:=by rw [beq_iff_eq];omega
   rw [hb] at hw;rw [← hw];clear hw hb
   repeat (first | (first | (apply Xf;rfl) | apply Xj);focus simp [cvE_mk, *,-Option.some.injEq];rfl | (first | (apply Xa;rfl) | apply Xb);(focus simp [cvE_mk, *];done);focus simp [cvE_mk, *,-Option.some.injEq];rfl | (first | (apply Xg;rfl) | apply Xk);(focus simp [cvE_mk, *];done) | (first | refine Xl ?_ | refine Xi ?_ | refine Xh ?_ | refine Xo ?_ | refine Xq ?_);try simp only [Xw,Xx,reduceIte,Nat.reduceEqDiff] | refine Xn ?_ | refine Xp rfl ?_ | refine Xc ?_ | apply Xd;focus simp [cvE_mk, *];done | apply Xe;focus simp [cvE_mk, *];done | refine Ya rfl rfl ?_)
   ((apply Xr);(focus rfl);(focus (first | rfl | (simp [*];done)));(focus simp [*,-Option.some.injEq];rfl);kernel_rfl)
   ·exact need_ok 1 _
   repeat (first | (first | (apply Xf;rfl) | apply Xj);focus simp [*,-Option.some.injEq];rfl | (first | (apply Xa;rfl) | apply Xb);(focus simp [*];done);focus simp [*,-Option.some.injEq];rfl | (first | (apply Xg;rfl) | apply Xk);(focus simp [*];done) | (first | refine Xl ?_ | refine Xi ?_ | refine Xh ?_ | refine Xo ?_ | refine Xq ?_);try simp only [Xw,Xx,reduceIte,Nat.reduceEqDiff] | refine Xn ?_ | refine Xp rfl ?_ | refine Xc ?_ | apply Xd;focus simp [*];done | apply Xe;focus simp [*];done | refine Ya rfl rfl ?_)
   (refine⟨_,(by simp [*];rfl),?_⟩;(try simp only [packA]))
   all_goals rfl
  ·have hb:(ks.length == 2)=false:=by rw [beq_eq_false_iff_ne];omega
   rw [hb] at hw;rw [← hw];clear hw hb
   repeat (first | (first | (apply Xf;rfl) | apply Xj);focus simp [cvE_mk, *,-Option.some.injEq];rfl | (first | (apply Xa;rfl) | apply Xb);(focus simp [cvE_mk, *];done);focus simp [cvE_mk, *,-Option.some.injEq];rfl | (first | (apply Xg;rfl) | apply Xk);(focus simp [cvE_mk, *];done) | (first | refine Xl ?_ | refine Xi ?_ | refine Xh ?_ | refine Xo ?_ | refine Xq ?_);try simp only [Xw,Xx,reduceIte,Nat.reduceEqDiff] | refine Xn ?_ | refine Xp rfl ?_ | refine Xc ?_ | apply Xd;focus simp [cvE_mk, *];done | apply Xe;focus simp [cvE_mk, *];done | refine Ya rfl rfl ?_)
   ((apply AOpl.callP);(focus rfl);(focus (first | rfl | (simp [*];done)));(focus simp [*,-Option.some.injEq];rfl);kernel_rfl)
   ·exact need_no 1 _
   rfl
 rw [if_neg h6] at hw
 by_cases h8:k=8
 ·rw [if_pos h8] at hw;subst h8
  by_cases hn:(ks.length:Int)=1
  ·have hb:(ks.length == 1)=true:=by rw [beq_iff_eq];omega
   rw [hb] at hw;rw [← hw];clear hw hb
   repeat (first | (first | (apply Xf;rfl) | apply Xj);focus simp [cvE_mk, *,-Option.some.injEq];rfl | (first | (apply Xa;rfl) | apply Xb);(focus simp [cvE_mk, *];done);focus simp [cvE_mk, *,-Option.some.injEq];rfl | (first | (apply Xg;rfl) | apply Xk);(focus simp [cvE_mk, *];done) | (first | refine Xl ?_ | refine Xi ?_ | refine Xh ?_ | refine Xo ?_ | refine Xq ?_);try simp only [Xw,Xx,reduceIte,Nat.reduceEqDiff] | refine Xn ?_ | refine Xp rfl ?_ | refine Xc ?_ | apply Xd;focus simp [cvE_mk, *];done | apply Xe;focus simp [cvE_mk, *];done | refine Ya rfl rfl ?_)
   ((apply Xr);(focus rfl);(focus (first | rfl | (simp [*];done)));(focus simp [*,-Option.some.injEq];rfl);kernel_rfl)
   ·exact need_ok 1 _
   repeat (first | (first | (apply Xf;rfl) | apply Xj);focus simp [*,-Option.some.injEq];rfl | (first | (apply Xa;rfl) | apply Xb);(focus simp [*];done);focus simp [*,-Option.some.injEq];rfl | (first | (apply Xg;rfl) | apply Xk);(focus simp [*];done) | (first | refine Xl ?_ | refine Xi ?_ | refine Xh ?_ | refine Xo ?_ | refine Xq ?_);try simp only [Xw,Xx,reduceIte,Nat.reduceEqDiff] | refine Xn ?_ | refine Xp rfl ?_ | refine Xc ?_ | apply Xd;focus simp [*];done | apply Xe;focus simp [*];done | refine Ya rfl rfl ?_)
   (refine⟨_,(by simp [*];rfl),?_⟩;(try simp only [packA]))
   all_goals rfl
  ·have hb:(ks.length == 1)=false:=by rw [beq_eq_false_iff_ne];omega
   rw [hb] at hw;rw [← hw];clear hw hb
   repeat (first | (first | (apply Xf;rfl) | apply Xj);focus simp [cvE_mk, *,-Option.some.injEq];rfl | (first | (apply Xa;rfl) | apply Xb);(focus simp [cvE_mk, *];done);focus simp [cvE_mk, *,-Option.some.injEq];rfl | (first | (apply Xg;rfl) | apply Xk);(focus simp [cvE_mk, *];done) | (first | refine Xl ?_ | refine Xi ?_ | refine Xh ?_ | refine Xo ?_ | refine Xq ?_);try simp only [Xw,Xx,reduceIte,Nat.reduceEqDiff] | refine Xn ?_ | refine Xp rfl ?_ | refine Xc ?_ | apply Xd;focus simp [cvE_mk, *];done | apply Xe;focus simp [cvE_mk, *];done | refine Ya rfl rfl ?_)
   ((apply AOpl.callP);(focus rfl);(focus (first | rfl | (simp [*];done)));(focus simp [*,-Option.some.injEq];rfl);kernel_rfl)
   ·exact need_no 1 _
   rfl
 rw [if_neg h8] at hw
 by_cases h9:k=9
 ·rw [if_pos h9] at hw;subst h9
  by_cases hn:(1:Int)≤ks.length
  ·have hb:decide (1≤ks.length)=true:=decide_eq_true (by omega);rw [hb] at hw;rw [← hw];clear hw hb
   repeat (first | (first | (apply Xf;rfl) | apply Xj);focus simp [cvE_mk, *,-Option.some.injEq];rfl | (first | (apply Xa;rfl) | apply Xb);(focus simp [cvE_mk, *];done);focus simp [cvE_mk, *,-Option.some.injEq];rfl | (first | (apply Xg;rfl) | apply Xk);(focus simp [cvE_mk, *];done) | (first | refine Xl ?_ | refine Xi ?_ | refine Xh ?_ | refine Xo ?_ | refine Xq ?_);try simp only [Xw,Xx,reduceIte,Nat.reduceEqDiff] | refine Xn ?_ | refine Xp rfl ?_ | refine Xc ?_ | apply Xd;focus simp [cvE_mk, *];done | apply Xe;focus simp [cvE_mk, *];done | refine Ya rfl rfl ?_)
   ((apply Xr);(focus rfl);(focus (first | rfl | (simp [*];done)));(focus simp [*,-Option.some.injEq];rfl);kernel_rfl)
   ·exact need_ok 1 _
   repeat (first | (first | (apply Xf;rfl) | apply Xj);focus simp [*,-Option.some.injEq];rfl | (first | (apply Xa;rfl) | apply Xb);(focus simp [*];done);focus simp [*,-Option.some.injEq];rfl | (first | (apply Xg;rfl) | apply Xk);(focus simp [*];done) | (first | refine Xl ?_ | refine Xi ?_ | refine Xh ?_ | refine Xo ?_ | refine Xq ?_);try simp only [Xw,Xx,reduceIte,Nat.reduceEqDiff] | refine Xn ?_ | refine Xp rfl ?_ | refine Xc ?_ | apply Xd;focus simp [*];done | apply Xe;focus simp [*];done | refine Ya rfl rfl ?_)
   (refine⟨_,(by simp [*];rfl),?_⟩;(try simp only [packA]))
   all_goals rfl
  ·have hb:decide (1≤ks.length)=false:=decide_eq_false (by omega);rw [hb] at hw;rw [← hw];clear hw hb
   repeat (first | (first | (apply Xf;rfl) | apply Xj);focus simp [cvE_mk, *,-Option.some.injEq];rfl | (first | (apply Xa;rfl) | apply Xb);(focus simp [cvE_mk, *];done);focus simp [cvE_mk, *,-Option.some.injEq];rfl | (first | (apply Xg;rfl) | apply Xk);(focus simp [cvE_mk, *];done) | (first | refine Xl ?_ | refine Xi ?_ | refine Xh ?_ | refine Xo ?_ | refine Xq ?_);try simp only [Xw,Xx,reduceIte,Nat.reduceEqDiff] | refine Xn ?_ | refine Xp rfl ?_ | refine Xc ?_ | apply Xd;focus simp [cvE_mk, *];done | apply Xe;focus simp [cvE_mk, *];done | refine Ya rfl rfl ?_)
   ((apply AOpl.callP);(focus rfl);(focus (first | rfl | (simp [*];done)));(focus simp [*,-Option.some.injEq];rfl);kernel_rfl)
   ·exact need_no 1 _
   rfl
 rw [if_neg h9] at hw
 by_cases h10:k=10
 ·rw [if_pos h10] at hw;subst h10;rw [← hw];clear hw
  repeat (first | (first | (apply Xf;rfl) | apply Xj);focus simp [cvE_mk, *,-Option.some.injEq];rfl | (first | (apply Xa;rfl) | apply Xb);(focus simp [cvE_mk, *];done);focus simp [cvE_mk, *,-Option.some.injEq];rfl | (first | (apply Xg;rfl) | apply Xk);(focus simp [cvE_mk, *];done) | (first | refine Xl ?_ | refine Xi ?_ | refine Xh ?_ | refine Xo ?_ | refine Xq ?_);try simp only [Xw,Xx,reduceIte,Nat.reduceEqDiff] | refine Xn ?_ | refine Xp rfl ?_ | refine Xc ?_ | apply Xd;focus simp [cvE_mk, *];done | apply Xe;focus simp [cvE_mk, *];done | refine Ya rfl rfl ?_)
  (refine⟨_,(by simp [*];rfl),?_⟩;(try simp only [packA]))
  all_goals rfl
 rw [if_neg h10] at hw
 by_cases hn:ks.length=0
 ·have hb:(ks.length == 0)=true:=by simpa using hn
  have hnil:ks=[]:=List.length_eq_zero_iff.mp hn;clear hn;subst hnil;rw [hb] at hw;rw [← hw];clear hw hb
  repeat (first | (first | (apply Xf;rfl) | apply Xj);focus simp [cvE_mk, *,-Option.some.injEq];rfl | (first | (apply Xa;rfl) | apply Xb);(focus simp [cvE_mk, *];done);focus simp [cvE_mk, *,-Option.some.injEq];rfl | (first | (apply Xg;rfl) | apply Xk);(focus simp [cvE_mk, *];done) | (first | refine Xl ?_ | refine Xi ?_ | refine Xh ?_ | refine Xo ?_ | refine Xq ?_);try simp only [Xw,Xx,reduceIte,Nat.reduceEqDiff] | refine Xn ?_ | refine Xp rfl ?_ | refine Xc ?_ | apply Xd;focus simp [cvE_mk, *];done | apply Xe;focus simp [cvE_mk, *];done | refine Ya rfl rfl ?_)
  ((apply Xr);(focus rfl);(focus (first | rfl | (simp [*];done)));(focus simp [*,-Option.some.injEq];rfl);kernel_rfl)
  ·exact need_ok 1 _
  repeat (first | (first | (apply Xf;rfl) | apply Xj);focus simp [*,-Option.some.injEq];rfl | (first | (apply Xa;rfl) | apply Xb);(focus simp [*];done);focus simp [*,-Option.some.injEq];rfl | (first | (apply Xg;rfl) | apply Xk);(focus simp [*];done) | (first | refine Xl ?_ | refine Xi ?_ | refine Xh ?_ | refine Xo ?_ | refine Xq ?_);try simp only [Xw,Xx,reduceIte,Nat.reduceEqDiff] | refine Xn ?_ | refine Xp rfl ?_ | refine Xc ?_ | apply Xd;focus simp [*];done | apply Xe;focus simp [*];done | refine Ya rfl rfl ?_)
  (refine⟨_,(by simp [*];rfl),?_⟩;(try simp only [packA]))
  all_goals rfl
 ·have hb:(ks.length == 0)=false:=by simpa using hn
  have hnil:¬ ks=[]:=fun e=>hn (by rw [e];rfl)
  rw [hb] at hw;rw [← hw];clear hw hb
  repeat (first | (first | (apply Xf;rfl) | apply Xj);focus simp [cvE_mk, *,-Option.some.injEq];rfl | (first | (apply Xa;rfl) | apply Xb);(focus simp [cvE_mk, *];done);focus simp [cvE_mk, *,-Option.some.injEq];rfl | (first | (apply Xg;rfl) | apply Xk);(focus simp [cvE_mk, *];done) | (first | refine Xl ?_ | refine Xi ?_ | refine Xh ?_ | refine Xo ?_ | refine Xq ?_);try simp only [Xw,Xx,reduceIte,Nat.reduceEqDiff] | refine Xn ?_ | refine Xp rfl ?_ | refine Xc ?_ | apply Xd;focus simp [cvE_mk, *];done | apply Xe;focus simp [cvE_mk, *];done | refine Ya rfl rfl ?_)
  ((apply AOpl.callP);(focus rfl);(focus (first | rfl | (simp [*];done)));(focus simp [*,-Option.some.injEq];rfl);kernel_rfl)
  ·exact need_no 1 _
  rfl
end
section
open Lx Ax Go.RowKit
attribute [local simp] stepS Ax.stepT Dl.on qstep astep estep rd putE over argE ofV ofS loadA pickCells isAggD faddA fieldA partA iaddA idxA sliA bnd binA intA strA unA convA bltA lenA mapOf findK keyD scalD storeA appA srcA srcD upd drp Dl.hp Dl.nx CV.cs CV.one buildA placesA fillA zrep tasA ifaceD eqA eqFs eqIs range2 copyA nbeq nble nblt decEq beqI bneI beqS bneS isED Int.ofNat_inj List.getElem?_map List.getElem?_eq_getElem Option.map_some ti_int ti_bool ti_str ti_i64 ti_Strs ti_Cds ti_Cd ti_Flds ti_Fld ti_Sgs ti_Sg ti_Hi ti_Exs ti_Ex ti_Chk ti_Flt ti_Errno gd gdB callA resA op1
attribute [local simp] nu1 nu2 nu3 nu4 nu5 nu6 nu7 nu8 nu9 nu10 nu11 nu12 nu13 upd_upd
/-- A hierarchy of which the checker knows that it is in order. -/
structure HC (h:List Cd):Prop where
 hb:HB h
 len:h.length+1≤lim
theorem HC.le {h:List Cd}(hc:HC h):h.length≤lim:=by have:=hc.len;omega
section
variable (h:List Cd) (cls res:Bytes) (sc:List Fld) (at':Int)
/-- What expr does with an expression. -/
def ExOk (e:Ex):Prop:=FRes Tryd.prog tkG 31 [ckV h cls res sc at',.agg (cvE e)] (tkB (exT9 h cls sc e))
set_option maxRecDepth 10000 in
set_option maxHeartbeats 8000000 in
theorem tk_assign (hc:HC h)(e:Ex)(to:Bytes)(ih:ExOk h cls res sc at' e):FRes Tryd.prog tkG 61 [ckV h cls res sc at',.agg (cvE e),.str to] (tkU (asgT h (exT9 h cls sc e) to)):=by
 refine FRes.ofBody tkG_pu (by simp [puL,puV,puE,ckV_pu]) (tkU_pu _) Tryd.func61 rfl rfl fun nx=>?_
 unfold ExOk at ih;cases hx:exT9 h cls sc e with
 | error x =>
   rw [hx] at ih;have ih':FRes Tryd.prog tkG 31 [ckV h cls res sc at',.agg (cvE e)] (.pan (fltV x)):=ih;clear ih hx;rw [Xy] at *
   repeat (first | (first | (apply Xf;rfl) | apply Xj);focus simp [ckV, *,-Option.some.injEq];rfl | (first | (apply Xa;rfl) | apply Xb);(focus simp [ckV, *];done);focus simp [ckV, *,-Option.some.injEq];rfl | (first | (apply Xg;rfl) | apply Xk);(focus simp [ckV, *];done) | (first | refine Xl ?_ | refine Xi ?_ | refine Xh ?_ | refine Xo ?_ | refine Xq ?_);try simp only [Xw,Xx,reduceIte,Nat.reduceEqDiff] | refine Xn ?_ | refine Xp rfl ?_ | refine Xc ?_ | apply Xd;focus simp [ckV, *];done | apply Xe;focus simp [ckV, *];done)
   (refine AWp.regDT (by kernel_rfl) (by kernel_rfl) rfl ?_;intro nxq hnq)
   repeat (first | apply Xt;(focus simp [*,-Option.some.injEq];rfl) | apply Xs;(focus simp [*];done);(focus simp [*,-Option.some.injEq];rfl) | apply Xu;(focus simp [*];done) | refine Xv ?_;try simp only [Xw,Xx,reduceIte,Nat.reduceEqDiff])
   ((apply AQq.pan);(focus (first | rfl | (simp [*];done)));(focus simp [*,-Option.some.injEq];rfl);kernel_rfl)
   ·exact ih' _
   ·repeat (first | exact AQt.nil | (apply AQt.look;(focus simp [*,-Option.some.injEq];rfl)) | (apply AQt.lookG;(focus simp [*];done);(focus simp [*,-Option.some.injEq];rfl)) | (apply AQt.pass;(focus simp [*];done)) | refine AQt.dead (by kernel_rfl) ?_)
   rintro e2;rfl
 | ok a =>
   rw [hx] at ih;have ih':FRes Tryd.prog tkG 31 [ckV h cls res sc at',.agg (cvE e)] (.ret (.str a)):=ih;have hasg:=tk_Assignable h hc.len a to;clear ih hx;rw [Xy] at *;have hw:asgT h (.ok a) to=needT (asgB h a to) 8:=rfl;rw [hw];clear hw;generalize asgB h a to=z at *
   repeat (first | (first | (apply Xf;rfl) | apply Xj);focus simp [ckV, *,-Option.some.injEq];rfl | (first | (apply Xa;rfl) | apply Xb);(focus simp [ckV, *];done);focus simp [ckV, *,-Option.some.injEq];rfl | (first | (apply Xg;rfl) | apply Xk);(focus simp [ckV, *];done) | (first | refine Xl ?_ | refine Xi ?_ | refine Xh ?_ | refine Xo ?_ | refine Xq ?_);try simp only [Xw,Xx,reduceIte,Nat.reduceEqDiff] | refine Xn ?_ | refine Xp rfl ?_ | refine Xc ?_ | apply Xd;focus simp [ckV, *];done | apply Xe;focus simp [ckV, *];done)
   (refine AWp.regDT (by kernel_rfl) (by kernel_rfl) rfl ?_;intro nxq hnq)
   repeat (first | apply Xt;(focus simp [*,-Option.some.injEq];rfl) | apply Xs;(focus simp [*];done);(focus simp [*,-Option.some.injEq];rfl) | apply Xu;(focus simp [*];done) | refine Xv ?_;try simp only [Xw,Xx,reduceIte,Nat.reduceEqDiff])
   ((apply AQq.callG);(focus (first | rfl | (simp [*];done)));(focus simp [*,-Option.some.injEq];rfl);kernel_rfl)
   ·exact ih' _
   repeat (first | apply Xt;(focus simp [*,-Option.some.injEq];rfl) | apply Xs;(focus simp [*];done);(focus simp [*,-Option.some.injEq];rfl) | apply Xu;(focus simp [*];done) | refine Xv ?_;try simp only [Xw,Xx,reduceIte,Nat.reduceEqDiff])
   ((apply AQq.callG);(focus (first | rfl | (simp [*];done)));(focus simp [*,-Option.some.injEq];rfl);kernel_rfl)
   ·exact hasg _
   repeat (first | apply Xt;(focus simp [*,-Option.some.injEq];rfl) | apply Xs;(focus simp [*];done);(focus simp [*,-Option.some.injEq];rfl) | apply Xu;(focus simp [*];done) | refine Xv ?_;try simp only [Xw,Xx,reduceIte,Nat.reduceEqDiff])
   cases z with
   | true =>
     ((apply AQq.callG);(focus (first | rfl | (simp [*];done)));(focus simp [*,-Option.some.injEq];rfl);kernel_rfl)
     ·exact need_ok 8 _
     repeat (first | apply Xt;(focus simp [*,-Option.some.injEq];rfl) | apply Xs;(focus simp [*];done);(focus simp [*,-Option.some.injEq];rfl) | apply Xu;(focus simp [*];done) | refine Xv ?_;try simp only [Xw,Xx,reduceIte,Nat.reduceEqDiff])
     repeat (first | (first | (apply Xf;rfl) | apply Xj);focus simp [*,-Option.some.injEq];rfl | (first | (apply Xa;rfl) | apply Xb);(focus simp [*];done);focus simp [*,-Option.some.injEq];rfl | (first | (apply Xg;rfl) | apply Xk);(focus simp [*];done) | (first | refine Xl ?_ | refine Xi ?_ | refine Xh ?_ | refine Xo ?_ | refine Xq ?_);try simp only [Xw,Xx,reduceIte,Nat.reduceEqDiff] | refine Xn ?_ | refine Xp rfl ?_ | refine Xc ?_ | apply Xd;focus simp [*];done | apply Xe;focus simp [*];done | refine Ya rfl rfl ?_)
     (refine⟨_,(by simp [*];rfl),?_⟩;(try simp only [packA]))
     all_goals rfl
   | false =>
     ((apply AQq.pan);(focus (first | rfl | (simp [*];done)));(focus simp [*,-Option.some.injEq];rfl);kernel_rfl)
     ·exact need_no 8 _
     ·repeat (first | exact AQt.nil | (apply AQt.look;(focus simp [*,-Option.some.injEq];rfl)) | (apply AQt.lookG;(focus simp [*];done);(focus simp [*,-Option.some.injEq];rfl)) | (apply AQt.pass;(focus simp [*];done)) | refine AQt.dead (by kernel_rfl) ?_)
     rintro e2;rfl
end
end
end Go.Proofs.YtoookjadbhdfhaaDoor
