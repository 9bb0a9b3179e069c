/-
  Check of hier, isClass, Type, Assignable; walked.
-/
import Derived.Test.YtoookjadbhdfhaaDoorTTkCls3
set_option linter.unusedSectionVars false
set_option linter.unusedSimpArgs false
set_option linter.unnecessarySimpa false
set_option linter.unusedVariables false
set_option linter.unusedSimpArgs false
set_option linter.unusedVariables false
namespace Go.Proofs.YtoookjadbhdfhaaDoor
open Lx Ax Go.RowKit
attribute [local simp] stepS Ax.stepT Dl.on qstep astep estep rd putE over argE ofV ofS loadA pickCells isAggD faddA fieldA partA iaddA idxA sliA bnd binA intA strA unA convA bltA lenA mapOf findK keyD scalD storeA appA srcA srcD upd drp Dl.hp Dl.nx CV.cs CV.one buildA placesA fillA zrep tasA ifaceD eqA eqFs eqIs range2 copyA nbeq nble nblt decEq beqI bneI beqS bneS isED Int.ofNat_inj List.getElem?_map List.getElem?_eq_getElem Option.map_some ti_int ti_bool ti_str ti_i64 ti_Strs ti_Cds ti_Cd ti_Flds ti_Fld ti_Sgs ti_Sg ti_Tb ti_Hi ti_Ints ti_Errno gd gdB callA resA op1
attribute [local simp] nu1 nu2 nu3 nu4 nu5 nu6 nu7 nu8 nu9 nu10 nu11 nu12 nu13 upd_upd
set_option maxRecDepth 10000 in
set_option maxHeartbeats 8000000 in
theorem tk_Check (h:List Cd)(hB:HB h):FCall1 Tryd.prog tkG 10 [cvH h] (.tup [.int .i64 (checkF h).1,.int .i64 ((checkF h).2:Nat)]):=by
 refine FCall.one tkG_pu (by simp [puL,puV,puH]) rfl ?_;refine FCall.ofBody Tryd.func10 rfl rfl fun nx=>?_
 have hl:=hB.len;obtain⟨w,hw⟩:∃ w,checkF h=w:=⟨_,rfl⟩;rw [hw];unfold checkF at hw
 by_cases h1:64<h.length
 ·rw [if_pos h1] at hw;rw [← hw];clear hw;have h1':(64:Int)<h.length:=by omega
  repeat (first | (first | (apply Xf;rfl) | apply Xj);focus simp [cvH, *,-Option.some.injEq];rfl | (first | (apply Xa;rfl) | apply Xb);(focus simp [cvH, *];done);focus simp [cvH, *,-Option.some.injEq];rfl | (first | (apply Xg;rfl) | apply Xk);(focus simp [cvH, *];done) | (first | refine Xl ?_ | refine Xi ?_ | refine Xh ?_ | refine Xo ?_ | refine Xq ?_);try simp only [Xw,Xx,reduceIte,Nat.reduceEqDiff] | refine Xn ?_ | refine Xp rfl ?_ | refine Xc ?_ | apply Xd;focus simp [cvH, *];done | apply Xe;focus simp [cvH, *];done | refine Ya rfl rfl ?_)
  (refine⟨_,(by simp [*];rfl),?_⟩;(try simp only [packA]))
  all_goals rfl
 rw [if_neg h1] at hw;have h1':¬ (64:Int)<h.length:=by omega
 repeat (first | (first | (apply Xf;rfl) | apply Xj);focus simp [cvH, *,-Option.some.injEq];rfl | (first | (apply Xa;rfl) | apply Xb);(focus simp [cvH, *];done);focus simp [cvH, *,-Option.some.injEq];rfl | (first | (apply Xg;rfl) | apply Xk);(focus simp [cvH, *];done) | (first | refine Xl ?_ | refine Xi ?_ | refine Xh ?_ | refine Xo ?_ | refine Xq ?_);try simp only [Xw,Xx,reduceIte,Nat.reduceEqDiff] | refine Xn ?_ | refine Xp rfl ?_ | refine Xc ?_ | apply Xd;focus simp [cvH, *];done | apply Xe;focus simp [cvH, *];done | refine Ya rfl rfl ?_)
 ((apply Xr);(focus rfl);(focus (first | rfl | (simp [cvH, *];done)));(focus simp [cvH, *,-Option.some.injEq];rfl);kernel_rfl)
 ·exact tk_tableOf h hl _
 repeat (first | (first | (apply Xf;rfl) | apply Xj);focus simp [cvTb, *,-Option.some.injEq];rfl | (first | (apply Xa;rfl) | apply Xb);(focus simp [cvTb, *];done);focus simp [cvTb, *,-Option.some.injEq];rfl | (first | (apply Xg;rfl) | apply Xk);(focus simp [cvTb, *];done) | (first | refine Xl ?_ | refine Xi ?_ | refine Xh ?_ | refine Xo ?_ | refine Xq ?_);try simp only [Xw,Xx,reduceIte,Nat.reduceEqDiff] | refine Xn ?_ | refine Xp rfl ?_ | refine Xc ?_ | apply Xd;focus simp [cvTb, *];done | apply Xe;focus simp [cvTb, *];done | refine Ya rfl rfl ?_)
 clear h1 h1';refine AWp.countO h.length [2,3,5,6,16] 17 (fun i e H1 nx1=>e 16=.int .i64 i∧H1 (nx+1)=some (.cells [.lst (h.map cvD),.fmp ((frN h h.length).map .str) (frV h h.length)])∧checkW h i (h.drop i)=w) ⟨(by first | (simp (disch:=omega) [putE,over,ofV,ofS, *];done) | (simp (disch:=omega) [putE,over,ofV,ofS, *];rfl)),by simp [upd],hw⟩ ?_;clear hw;rintro i v H1 nx1 hi hn1 ⟨h16,hT,hf⟩;have q2:=far (show nx+1<nx1 by omega)
 repeat (first | (first | (apply Xf;rfl) | apply Xj);focus simp [*,-Option.some.injEq];rfl | (first | (apply Xa;rfl) | apply Xb);(focus simp [*];done);focus simp [*,-Option.some.injEq];rfl | (first | (apply Xg;rfl) | apply Xk);(focus simp [*];done) | (first | refine Xl ?_ | refine Xi ?_ | refine Xh ?_ | refine Xo ?_ | refine Xq ?_);try simp only [Xw,Xx,reduceIte,Nat.reduceEqDiff] | refine Xn ?_ | refine Xp rfl ?_ | refine Xc ?_ | apply Xd;focus simp [*];done | apply Xe;focus simp [*];done | refine Ya rfl rfl ?_)
 (((apply AWp.cond');(focus (simp [*,-Ax.CV.bool.injEq];rfl))) <;> (intro hb) <;> (try simp only [decide_eq_true_eq,decide_eq_false_iff_not,Bool.not_eq_true',Bool.not_eq_false',Bool.not_eq_true,Bool.not_eq_false] at hb))
 ·have hlt:i<h.length:=hb;have hwi:=lim_wrap hlt hl;clear hb;have hx:=tk_class h hB i hlt;rw [List.drop_eq_getElem_cons hlt,checkW] at hf
  by_cases hz:clsE h i h[i]=0
  ·rw [if_neg (by rw [hz];simp)] at hf;rw [hz,show ((0:Nat):Int)=0 from rfl] at hx;clear hz
   repeat (first | (first | (apply Xf;rfl) | apply Xj);focus simp [*,-Option.some.injEq];rfl | (first | (apply Xa;rfl) | apply Xb);(focus simp [*];done);focus simp [*,-Option.some.injEq];rfl | (first | (apply Xg;rfl) | apply Xk);(focus simp [*];done) | (first | refine Xl ?_ | refine Xi ?_ | refine Xh ?_ | refine Xo ?_ | refine Xq ?_);try simp only [Xw,Xx,reduceIte,Nat.reduceEqDiff] | refine Xn ?_ | refine Xp rfl ?_ | refine Xc ?_ | apply Xd;focus simp [*];done | apply Xe;focus simp [*];done | refine Ya rfl rfl ?_)
   ((apply Xr);(focus rfl);(focus (first | rfl | (simp [cvTb, *];done)));(focus simp [cvTb, *,-Option.some.injEq];rfl);kernel_rfl)
   ·exact hx _
   repeat (first | (first | (apply Xf;rfl) | apply Xj);focus simp [*,-Option.some.injEq];rfl | (first | (apply Xa;rfl) | apply Xb);(focus simp [*];done);focus simp [*,-Option.some.injEq];rfl | (first | (apply Xg;rfl) | apply Xk);(focus simp [*];done) | (first | refine Xl ?_ | refine Xi ?_ | refine Xh ?_ | refine Xo ?_ | refine Xq ?_);try simp only [Xw,Xx,reduceIte,Nat.reduceEqDiff] | refine Xn ?_ | refine Xp rfl ?_ | refine Xc ?_ | apply Xd;focus simp [*];done | apply Xe;focus simp [*];done | refine Ya rfl rfl ?_)
   exact⟨by ((repeat (first | exact Keeps.base _ _ _ _ | (with_reducible exact Keeps.refl _ _ _) | (refine Keeps.put rfl ?_) | (refine Keeps.over' rfl rfl ?_)))),hlt,(by first | (simp (disch:=omega) [putE,over,ofV,ofS, *];done) | (simp (disch:=omega) [putE,over,ofV,ofS, *];rfl)),by simp [upd, *],hf⟩
  ·rw [if_pos hz] at hf;subst hf;generalize clsE h i h[i]=F at *
   repeat (first | (first | (apply Xf;rfl) | apply Xj);focus simp [*,-Option.some.injEq];rfl | (first | (apply Xa;rfl) | apply Xb);(focus simp [*];done);focus simp [*,-Option.some.injEq];rfl | (first | (apply Xg;rfl) | apply Xk);(focus simp [*];done) | (first | refine Xl ?_ | refine Xi ?_ | refine Xh ?_ | refine Xo ?_ | refine Xq ?_);try simp only [Xw,Xx,reduceIte,Nat.reduceEqDiff] | refine Xn ?_ | refine Xp rfl ?_ | refine Xc ?_ | apply Xd;focus simp [*];done | apply Xe;focus simp [*];done | refine Ya rfl rfl ?_)
   ((apply Xr);(focus rfl);(focus (first | rfl | (simp [cvTb, *];done)));(focus simp [cvTb, *,-Option.some.injEq];rfl);kernel_rfl)
   ·exact hx _
   repeat (first | (first | (apply Xf;rfl) | apply Xj);focus simp [*,-Option.some.injEq];rfl | (first | (apply Xa;rfl) | apply Xb);(focus simp [*];done);focus simp [*,-Option.some.injEq];rfl | (first | (apply Xg;rfl) | apply Xk);(focus simp [*];done) | (first | refine Xl ?_ | refine Xi ?_ | refine Xh ?_ | refine Xo ?_ | refine Xq ?_);try simp only [Xw,Xx,reduceIte,Nat.reduceEqDiff] | refine Xn ?_ | refine Xp rfl ?_ | refine Xc ?_ | apply Xd;focus simp [*];done | apply Xe;focus simp [*];done | refine Ya rfl rfl ?_)
   (refine⟨_,(by simp [*];rfl),?_⟩;(try simp only [packA]))
 ·have hi':h.length≤i:=by omega
  rw [List.drop_eq_nil_of_le hi',checkW] at hf;subst hf;clear hb hi'
  repeat (first | (first | (apply Xf;rfl) | apply Xj);focus simp [*,-Option.some.injEq];rfl | (first | (apply Xa;rfl) | apply Xb);(focus simp [*];done);focus simp [*,-Option.some.injEq];rfl | (first | (apply Xg;rfl) | apply Xk);(focus simp [*];done) | (first | refine Xl ?_ | refine Xi ?_ | refine Xh ?_ | refine Xo ?_ | refine Xq ?_);try simp only [Xw,Xx,reduceIte,Nat.reduceEqDiff] | refine Xn ?_ | refine Xp rfl ?_ | refine Xc ?_ | apply Xd;focus simp [*];done | apply Xe;focus simp [*];done | refine Ya rfl rfl ?_)
  (refine⟨_,(by simp [*];rfl),?_⟩;(try simp only [packA]))
  all_goals rfl
set_option maxRecDepth 10000 in
set_option maxHeartbeats 4000000 in
theorem tk_Type (h:List Cd)(hl:h.length≤lim)(s:Bytes):FCall1 Tryd.prog tkG 28 [cvH h,.str s] (.bool (typB h s)):=by
 refine FCall.one tkG_pu (by simp [puL,puV,puH]) rfl ?_;refine FCall.ofBody Tryd.func28 rfl rfl fun nx=>?_
 obtain⟨w,hw⟩:∃ w,w=typB h s:=⟨_,rfl⟩;rw [← hw];unfold typB intB at hw
 by_cases h1:s=[105,110,116]
 ·subst h1;have:w=true:=by rw [hw];rfl
  subst this;clear hw
  repeat (first | (first | (apply Xf;rfl) | apply Xj);focus simp [*,-Option.some.injEq];rfl | (first | (apply Xa;rfl) | apply Xb);(focus simp [*];done);focus simp [*,-Option.some.injEq];rfl | (first | (apply Xg;rfl) | apply Xk);(focus simp [*];done) | (first | refine Xl ?_ | refine Xi ?_ | refine Xh ?_ | refine Xo ?_ | refine Xq ?_);try simp only [Xw,Xx,reduceIte,Nat.reduceEqDiff] | refine Xn ?_ | refine Xp rfl ?_ | refine Xc ?_ | apply Xd;focus simp [*];done | apply Xe;focus simp [*];done | refine Ya rfl rfl ?_)
  (refine⟨_,(by simp [*];rfl),?_⟩;(try simp only [packA]))
 ·have hb:(s == [105,110,116])=false:=by simpa using h1
  rw [hb,Bool.false_or] at hw;clear hb
  repeat (first | (first | (apply Xf;rfl) | apply Xj);focus simp [cvH, *,-Option.some.injEq];rfl | (first | (apply Xa;rfl) | apply Xb);(focus simp [cvH, *];done);focus simp [cvH, *,-Option.some.injEq];rfl | (first | (apply Xg;rfl) | apply Xk);(focus simp [cvH, *];done) | (first | refine Xl ?_ | refine Xi ?_ | refine Xh ?_ | refine Xo ?_ | refine Xq ?_);try simp only [Xw,Xx,reduceIte,Nat.reduceEqDiff] | refine Xn ?_ | refine Xp rfl ?_ | refine Xc ?_ | apply Xd;focus simp [cvH, *];done | apply Xe;focus simp [cvH, *];done | refine Ya rfl rfl ?_)
  ((apply Xr);(focus rfl);(focus (first | rfl | (simp [cvH, *];done)));(focus simp [cvH, *,-Option.some.injEq];rfl);kernel_rfl)
  ·exact tk_Find h hl s _
  repeat (first | (first | (apply Xf;rfl) | apply Xj);focus simp [*,-Option.some.injEq];rfl | (first | (apply Xa;rfl) | apply Xb);(focus simp [*];done);focus simp [*,-Option.some.injEq];rfl | (first | (apply Xg;rfl) | apply Xk);(focus simp [*];done) | (first | refine Xl ?_ | refine Xi ?_ | refine Xh ?_ | refine Xo ?_ | refine Xq ?_);try simp only [Xw,Xx,reduceIte,Nat.reduceEqDiff] | refine Xn ?_ | refine Xp rfl ?_ | refine Xc ?_ | apply Xd;focus simp [*];done | apply Xe;focus simp [*];done | refine Ya rfl rfl ?_)
  (refine⟨_,(by simp [*];rfl),?_⟩;(try simp only [packA]))
  all_goals (rw [hw] <;> rfl)
set_option maxRecDepth 10000 in
set_option maxHeartbeats 4000000 in
theorem tk_isClass (h:List Cd)(hl:h.length≤lim)(s:Bytes):FCall1 Tryd.prog tkG 49 [cvH h,.str s] (.bool (clsB h s)):=by
 refine FCall.one tkG_pu (by simp [puL,puV,puH]) rfl ?_;refine FCall.ofBody Tryd.func49 rfl rfl fun nx=>?_
 obtain⟨w,hw⟩:∃ w,w=clsB h s:=⟨_,rfl⟩;rw [← hw];unfold clsB intB at hw
 by_cases h1:s=[105,110,116]
 ·subst h1;have:w=false:=by rw [hw];rfl
  subst this;clear hw
  repeat (first | (first | (apply Xf;rfl) | apply Xj);focus simp [*,-Option.some.injEq];rfl | (first | (apply Xa;rfl) | apply Xb);(focus simp [*];done);focus simp [*,-Option.some.injEq];rfl | (first | (apply Xg;rfl) | apply Xk);(focus simp [*];done) | (first | refine Xl ?_ | refine Xi ?_ | refine Xh ?_ | refine Xo ?_ | refine Xq ?_);try simp only [Xw,Xx,reduceIte,Nat.reduceEqDiff] | refine Xn ?_ | refine Xp rfl ?_ | refine Xc ?_ | apply Xd;focus simp [*];done | apply Xe;focus simp [*];done | refine Ya rfl rfl ?_)
  (refine⟨_,(by simp [*];rfl),?_⟩;(try simp only [packA]))
 ·have hb:(s != [105,110,116])=true:=by simpa using h1
  rw [hb,Bool.true_and] at hw;clear hb
  repeat (first | (first | (apply Xf;rfl) | apply Xj);focus simp [cvH, *,-Option.some.injEq];rfl | (first | (apply Xa;rfl) | apply Xb);(focus simp [cvH, *];done);focus simp [cvH, *,-Option.some.injEq];rfl | (first | (apply Xg;rfl) | apply Xk);(focus simp [cvH, *];done) | (first | refine Xl ?_ | refine Xi ?_ | refine Xh ?_ | refine Xo ?_ | refine Xq ?_);try simp only [Xw,Xx,reduceIte,Nat.reduceEqDiff] | refine Xn ?_ | refine Xp rfl ?_ | refine Xc ?_ | apply Xd;focus simp [cvH, *];done | apply Xe;focus simp [cvH, *];done | refine Ya rfl rfl ?_)
  ((apply Xr);(focus rfl);(focus (first | rfl | (simp [cvH, *];done)));(focus simp [cvH, *,-Option.some.injEq];rfl);kernel_rfl)
  ·exact tk_Find h hl s _
  repeat (first | (first | (apply Xf;rfl) | apply Xj);focus simp [*,-Option.some.injEq];rfl | (first | (apply Xa;rfl) | apply Xb);(focus simp [*];done);focus simp [*,-Option.some.injEq];rfl | (first | (apply Xg;rfl) | apply Xk);(focus simp [*];done) | (first | refine Xl ?_ | refine Xi ?_ | refine Xh ?_ | refine Xo ?_ | refine Xq ?_);try simp only [Xw,Xx,reduceIte,Nat.reduceEqDiff] | refine Xn ?_ | refine Xp rfl ?_ | refine Xc ?_ | apply Xd;focus simp [*];done | apply Xe;focus simp [*];done | refine Ya rfl rfl ?_)
  (refine⟨_,(by simp [*];rfl),?_⟩;(try simp only [packA]))
  all_goals (rw [hw] <;> rfl)
set_option maxRecDepth 10000 in
set_option maxHeartbeats 4000000 in
theorem tk_Assignable (h:List Cd)(hl:h.length+1≤lim)(a b:Bytes):FCall1 Tryd.prog tkG 63 [cvH h,.str a,.str b] (.bool (asgB h a b)):=by
 refine FCall.one tkG_pu (by simp [puL,puV,puH]) rfl ?_;refine FCall.ofBody Tryd.func63 rfl rfl fun nx=>?_
 have hca:=tk_isClass h (by omega) a;have hcb:=tk_isClass h (by omega) b;have hsub:=tk_IsSub h hl a b;obtain⟨w,hw⟩:∃ w,asgB h a b=w:=⟨_,rfl⟩;rw [hw];unfold asgB intB nullB at hw
 by_cases h1:b=[105,110,116]
 ·rw [if_pos h1] at hw;rw [beqS] at hw;rw [← hw];clear hw
  repeat (first | (first | (apply Xf;rfl) | apply Xj);focus simp [*,-Option.some.injEq];rfl | (first | (apply Xa;rfl) | apply Xb);(focus simp [*];done);focus simp [*,-Option.some.injEq];rfl | (first | (apply Xg;rfl) | apply Xk);(focus simp [*];done) | (first | refine Xl ?_ | refine Xi ?_ | refine Xh ?_ | refine Xo ?_ | refine Xq ?_);try simp only [Xw,Xx,reduceIte,Nat.reduceEqDiff] | refine Xn ?_ | refine Xp rfl ?_ | refine Xc ?_ | apply Xd;focus simp [*];done | apply Xe;focus simp [*];done | refine Ya rfl rfl ?_)
  (refine⟨_,(by simp [*];rfl),?_⟩;(try simp only [packA]))
 rw [if_neg h1] at hw;cases h2:clsB h b with
 | false =>
   rw [if_pos h2] at hw;rw [h2] at hcb;rw [← hw];clear hw h2
   repeat (first | (first | (apply Xf;rfl) | apply Xj);focus simp [cvH, *,-Option.some.injEq];rfl | (first | (apply Xa;rfl) | apply Xb);(focus simp [cvH, *];done);focus simp [cvH, *,-Option.some.injEq];rfl | (first | (apply Xg;rfl) | apply Xk);(focus simp [cvH, *];done) | (first | refine Xl ?_ | refine Xi ?_ | refine Xh ?_ | refine Xo ?_ | refine Xq ?_);try simp only [Xw,Xx,reduceIte,Nat.reduceEqDiff] | refine Xn ?_ | refine Xp rfl ?_ | refine Xc ?_ | apply Xd;focus simp [cvH, *];done | apply Xe;focus simp [cvH, *];done | refine Ya rfl rfl ?_)
   ((apply Xr);(focus rfl);(focus (first | rfl | (simp [cvH, *];done)));(focus simp [cvH, *,-Option.some.injEq];rfl);kernel_rfl)
   ·exact hcb _
   repeat (first | (first | (apply Xf;rfl) | apply Xj);focus simp [*,-Option.some.injEq];rfl | (first | (apply Xa;rfl) | apply Xb);(focus simp [*];done);focus simp [*,-Option.some.injEq];rfl | (first | (apply Xg;rfl) | apply Xk);(focus simp [*];done) | (first | refine Xl ?_ | refine Xi ?_ | refine Xh ?_ | refine Xo ?_ | refine Xq ?_);try simp only [Xw,Xx,reduceIte,Nat.reduceEqDiff] | refine Xn ?_ | refine Xp rfl ?_ | refine Xc ?_ | apply Xd;focus simp [*];done | apply Xe;focus simp [*];done | refine Ya rfl rfl ?_)
   (refine⟨_,(by simp [*];rfl),?_⟩;(try simp only [packA]))
 | true =>
   rw [if_neg (by rw [h2];simp)] at hw;rw [h2] at hcb;clear h2
   by_cases h3:a=b
   ·have hb3:(a == b)=true:=by simp [h3]
    rw [hb3,Bool.true_or,Bool.true_or] at hw;rw [← hw];clear hw hb3
    repeat (first | (first | (apply Xf;rfl) | apply Xj);focus simp [cvH, *,-Option.some.injEq];rfl | (first | (apply Xa;rfl) | apply Xb);(focus simp [cvH, *];done);focus simp [cvH, *,-Option.some.injEq];rfl | (first | (apply Xg;rfl) | apply Xk);(focus simp [cvH, *];done) | (first | refine Xl ?_ | refine Xi ?_ | refine Xh ?_ | refine Xo ?_ | refine Xq ?_);try simp only [Xw,Xx,reduceIte,Nat.reduceEqDiff] | refine Xn ?_ | refine Xp rfl ?_ | refine Xc ?_ | apply Xd;focus simp [cvH, *];done | apply Xe;focus simp [cvH, *];done | refine Ya rfl rfl ?_)
    ((apply Xr);(focus rfl);(focus (first | rfl | (simp [cvH, *];done)));(focus simp [cvH, *,-Option.some.injEq];rfl);kernel_rfl)
    ·exact hcb _
    repeat (first | (first | (apply Xf;rfl) | apply Xj);focus simp [*,-Option.some.injEq];rfl | (first | (apply Xa;rfl) | apply Xb);(focus simp [*];done);focus simp [*,-Option.some.injEq];rfl | (first | (apply Xg;rfl) | apply Xk);(focus simp [*];done) | (first | refine Xl ?_ | refine Xi ?_ | refine Xh ?_ | refine Xo ?_ | refine Xq ?_);try simp only [Xw,Xx,reduceIte,Nat.reduceEqDiff] | refine Xn ?_ | refine Xp rfl ?_ | refine Xc ?_ | apply Xd;focus simp [*];done | apply Xe;focus simp [*];done | refine Ya rfl rfl ?_)
    (refine⟨_,(by simp [*];rfl),?_⟩;(try simp only [packA]))
   ·have hb3:(a == b)=false:=by simpa using h3
    rw [hb3,Bool.false_or] at hw
    by_cases h4:a=[110,117,108,108]
    ·have hb4:(a == [110,117,108,108])=true:=by simp [h4]
     rw [hb4,Bool.true_or] at hw;rw [← hw];clear hw hb3 hb4
     repeat (first | (first | (apply Xf;rfl) | apply Xj);focus simp [cvH, *,-Option.some.injEq];rfl | (first | (apply Xa;rfl) | apply Xb);(focus simp [cvH, *];done);focus simp [cvH, *,-Option.some.injEq];rfl | (first | (apply Xg;rfl) | apply Xk);(focus simp [cvH, *];done) | (first | refine Xl ?_ | refine Xi ?_ | refine Xh ?_ | refine Xo ?_ | refine Xq ?_);try simp only [Xw,Xx,reduceIte,Nat.reduceEqDiff] | refine Xn ?_ | refine Xp rfl ?_ | refine Xc ?_ | apply Xd;focus simp [cvH, *];done | apply Xe;focus simp [cvH, *];done | refine Ya rfl rfl ?_)
     ((apply Xr);(focus rfl);(focus (first | rfl | (simp [cvH, *];done)));(focus simp [cvH, *,-Option.some.injEq];rfl);kernel_rfl)
     ·exact hcb _
     subst h4
     repeat (first | (first | (apply Xf;rfl) | apply Xj);focus simp [*,-Option.some.injEq];rfl | (first | (apply Xa;rfl) | apply Xb);(focus simp [*];done);focus simp [*,-Option.some.injEq];rfl | (first | (apply Xg;rfl) | apply Xk);(focus simp [*];done) | (first | refine Xl ?_ | refine Xi ?_ | refine Xh ?_ | refine Xo ?_ | refine Xq ?_);try simp only [Xw,Xx,reduceIte,Nat.reduceEqDiff] | refine Xn ?_ | refine Xp rfl ?_ | refine Xc ?_ | apply Xd;focus simp [*];done | apply Xe;focus simp [*];done | refine Ya rfl rfl ?_)
     (refine⟨_,(by simp [*];rfl),?_⟩;(try simp only [packA]))
    ·have hb4:(a == [110,117,108,108])=false:=by simpa using h4
     rw [hb4,Bool.false_or] at hw;clear hb3 hb4;cases h5:clsB h a with
     | false =>
       rw [h5,Bool.false_and] at hw;rw [h5] at hca;rw [← hw];clear hw h5
       repeat (first | (first | (apply Xf;rfl) | apply Xj);focus simp [cvH, *,-Option.some.injEq];rfl | (first | (apply Xa;rfl) | apply Xb);(focus simp [cvH, *];done);focus simp [cvH, *,-Option.some.injEq];rfl | (first | (apply Xg;rfl) | apply Xk);(focus simp [cvH, *];done) | (first | refine Xl ?_ | refine Xi ?_ | refine Xh ?_ | refine Xo ?_ | refine Xq ?_);try simp only [Xw,Xx,reduceIte,Nat.reduceEqDiff] | refine Xn ?_ | refine Xp rfl ?_ | refine Xc ?_ | apply Xd;focus simp [cvH, *];done | apply Xe;focus simp [cvH, *];done | refine Ya rfl rfl ?_)
       ((apply Xr);(focus rfl);(focus (first | rfl | (simp [cvH, *];done)));(focus simp [cvH, *,-Option.some.injEq];rfl);kernel_rfl)
       ·exact hcb _
       repeat (first | (first | (apply Xf;rfl) | apply Xj);focus simp [cvH, *,-Option.some.injEq];rfl | (first | (apply Xa;rfl) | apply Xb);(focus simp [cvH, *];done);focus simp [cvH, *,-Option.some.injEq];rfl | (first | (apply Xg;rfl) | apply Xk);(focus simp [cvH, *];done) | (first | refine Xl ?_ | refine Xi ?_ | refine Xh ?_ | refine Xo ?_ | refine Xq ?_);try simp only [Xw,Xx,reduceIte,Nat.reduceEqDiff] | refine Xn ?_ | refine Xp rfl ?_ | refine Xc ?_ | apply Xd;focus simp [cvH, *];done | apply Xe;focus simp [cvH, *];done | refine Ya rfl rfl ?_)
       ((apply Xr);(focus rfl);(focus (first | rfl | (simp [cvH, *];done)));(focus simp [cvH, *,-Option.some.injEq];rfl);kernel_rfl)
       ·exact hca _
       repeat (first | (first | (apply Xf;rfl) | apply Xj);focus simp [*,-Option.some.injEq];rfl | (first | (apply Xa;rfl) | apply Xb);(focus simp [*];done);focus simp [*,-Option.some.injEq];rfl | (first | (apply Xg;rfl) | apply Xk);(focus simp [*];done) | (first | refine Xl ?_ | refine Xi ?_ | refine Xh ?_ | refine Xo ?_ | refine Xq ?_);try simp only [Xw,Xx,reduceIte,Nat.reduceEqDiff] | refine Xn ?_ | refine Xp rfl ?_ | refine Xc ?_ | apply Xd;focus simp [*];done | apply Xe;focus simp [*];done | refine Ya rfl rfl ?_)
       (refine⟨_,(by simp [*];rfl),?_⟩;(try simp only [packA]))
     | true =>
       rw [h5,Bool.true_and] at hw;rw [h5] at hca;rw [hw] at hsub;clear hw h5
       repeat (first | (first | (apply Xf;rfl) | apply Xj);focus simp [cvH, *,-Option.some.injEq];rfl | (first | (apply Xa;rfl) | apply Xb);(focus simp [cvH, *];done);focus simp [cvH, *,-Option.some.injEq];rfl | (first | (apply Xg;rfl) | apply Xk);(focus simp [cvH, *];done) | (first | refine Xl ?_ | refine Xi ?_ | refine Xh ?_ | refine Xo ?_ | refine Xq ?_);try simp only [Xw,Xx,reduceIte,Nat.reduceEqDiff] | refine Xn ?_ | refine Xp rfl ?_ | refine Xc ?_ | apply Xd;focus simp [cvH, *];done | apply Xe;focus simp [cvH, *];done | refine Ya rfl rfl ?_)
       ((apply Xr);(focus rfl);(focus (first | rfl | (simp [cvH, *];done)));(focus simp [cvH, *,-Option.some.injEq];rfl);kernel_rfl)
       ·exact hcb _
       repeat (first | (first | (apply Xf;rfl) | apply Xj);focus simp [cvH, *,-Option.some.injEq];rfl | (first | (apply Xa;rfl) | apply Xb);(focus simp [cvH, *];done);focus simp [cvH, *,-Option.some.injEq];rfl | (first | (apply Xg;rfl) | apply Xk);(focus simp [cvH, *];done) | (first | refine Xl ?_ | refine Xi ?_ | refine Xh ?_ | refine Xo ?_ | refine Xq ?_);try simp only [Xw,Xx,reduceIte,Nat.reduceEqDiff] | refine Xn ?_ | refine Xp rfl ?_ | refine Xc ?_ | apply Xd;focus simp [cvH, *];done | apply Xe;focus simp [cvH, *];done | refine Ya rfl rfl ?_)
       ((apply Xr);(focus rfl);(focus (first | rfl | (simp [cvH, *];done)));(focus simp [cvH, *,-Option.some.injEq];rfl);kernel_rfl)
       ·exact hca _
       repeat (first | (first | (apply Xf;rfl) | apply Xj);focus simp [cvH, *,-Option.some.injEq];rfl | (first | (apply Xa;rfl) | apply Xb);(focus simp [cvH, *];done);focus simp [cvH, *,-Option.some.injEq];rfl | (first | (apply Xg;rfl) | apply Xk);(focus simp [cvH, *];done) | (first | refine Xl ?_ | refine Xi ?_ | refine Xh ?_ | refine Xo ?_ | refine Xq ?_);try simp only [Xw,Xx,reduceIte,Nat.reduceEqDiff] | refine Xn ?_ | refine Xp rfl ?_ | refine Xc ?_ | apply Xd;focus simp [cvH, *];done | apply Xe;focus simp [cvH, *];done | refine Ya rfl rfl ?_)
       ((apply Xr);(focus rfl);(focus (first | rfl | (simp [cvH, *];done)));(focus simp [cvH, *,-Option.some.injEq];rfl);kernel_rfl)
       ·exact hsub _
       repeat (first | (first | (apply Xf;rfl) | apply Xj);focus simp [*,-Option.some.injEq];rfl | (first | (apply Xa;rfl) | apply Xb);(focus simp [*];done);focus simp [*,-Option.some.injEq];rfl | (first | (apply Xg;rfl) | apply Xk);(focus simp [*];done) | (first | refine Xl ?_ | refine Xi ?_ | refine Xh ?_ | refine Xo ?_ | refine Xq ?_);try simp only [Xw,Xx,reduceIte,Nat.reduceEqDiff] | refine Xn ?_ | refine Xp rfl ?_ | refine Xc ?_ | apply Xd;focus simp [*];done | apply Xe;focus simp [*];done | refine Ya rfl rfl ?_)
       (refine⟨_,(by simp [*];rfl),?_⟩;(try simp only [packA]))
end Go.Proofs.YtoookjadbhdfhaaDoor
