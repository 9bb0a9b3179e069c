/-
  Methods of the checker; walked.
-/
import Derived.Test.YtoookjadbhdfhaaDoorTJpBs
set_option linter.unusedSectionVars false
set_option linter.unusedSimpArgs false
set_option linter.unnecessarySimpa false
set_option linter.unusedVariables false
set_option linter.unusedSimpArgs false
set_option linter.unusedVariables false
namespace Go.Proofs.YtoookjadbhdfhaaDoor
open Lx Ax Go.RowKit
attribute [local simp] stepS Ax.stepT Dl.on qstep astep estep rd putE over argE ofV ofS loadA pickCells isAggD faddA fieldA partA iaddA idxA sliA bnd binA intA strA unA convA bltA lenA mapOf findK keyD scalD storeA appA srcA srcD upd drp Dl.hp Dl.nx CV.cs CV.one buildA placesA fillA zrep tasA ifaceD eqA eqFs eqIs range2 copyA nbeq nble nblt decEq beqI bneI beqS bneS isED Int.ofNat_inj List.getElem?_map List.getElem?_eq_getElem Option.map_some ti_int ti_bool ti_str ti_i64 ti_Strs ti_Flds ti_Fld ti_Cds ti_Cd ti_Sgs ti_Sg ti_Hi ti_Exs ti_Ex ti_Sts ti_St ti_Chk ti_Flt ti_Errno ti_Me ti_Mes gd gdB callA resA op1
attribute [local simp] nu1 nu2 nu3 nu4 nu5 nu6 nu7 nu8 nu9 nu10 nu11 nu12 nu13 upd_upd
section
variable (h:List Cd)
set_option maxRecDepth 10000 in
set_option maxHeartbeats 4000000 in
theorem tk_clo (hc:HC h)(cls res:Bytes)(B:Nat)(m:Me)(hnm:NmSs m.body)(H:Heap)(nx:Nat)(c:CV)(sc:List Fld)(a:Int)(hlen:sc.length+stsSz m.body≤lim)(hi:CkI h cls res B H nx c sc a)(X Y:Nat)(hX:H X=some (.cells [.ptr B 0]))(hY:H Y=some (.cells [.str m.name,.bool m.static,.lst (m.params.map cvF),.str m.result,.lst (m.body.map cvS)])) :
  ACall Tryd.prog tkG 26 [.ptr X 0,.ptr Y 0] H nx (StQ h cls res B H nx c (blQ (blT h cls res sc m.body) sc)):=by
 refine ACall.of_body Tryd.func26 rfl ?_;have hbl:=tk_blockAll h cls res B hc m.body hnm H nx c sc a hlen hi
 repeat (first | (first | (apply Xf;rfl) | apply Xj);focus simp [*,-Option.some.injEq];rfl | (first | (apply Xa;rfl) | apply Xb);(focus simp [*];done);focus simp [*,-Option.some.injEq];rfl | (first | (apply Xg;rfl) | apply Xk);(focus simp [*];done) | (first | refine Xl ?_ | refine Xi ?_ | refine Xh ?_ | refine Xo ?_ | refine Xq ?_);try simp only [Xw,Xx,reduceIte,Nat.reduceEqDiff] | refine Xn ?_ | refine Xp rfl ?_ | refine Xc ?_ | apply Xd;focus simp [*];done | apply Xe;focus simp [*];done | refine Ya rfl rfl ?_)
 ((apply AOpl.callG);(focus rfl);(focus (first | rfl | (simp [*];done)));(focus simp [*,-Option.some.injEq];rfl);kernel_rfl)
 refine hbl.mono ?_;rintro r H2 nx2 hq;cases hbt:blT h cls res sc m.body with
 | error x =>
   rw [hbt] at hq;obtain⟨rfl,sc',c',a',P3⟩:=hq;exact⟨rfl,sc',c',a',P3⟩
 | ok u =>
   rw [hbt] at hq;obtain⟨rfl,c',a',P3⟩:=hq;simp only;clear hbl hbt hX hY
   repeat (first | (first | (apply Xf;rfl) | apply Xj);focus simp [*,-Option.some.injEq];rfl | (first | (apply Xa;rfl) | apply Xb);(focus simp [*];done);focus simp [*,-Option.some.injEq];rfl | (first | (apply Xg;rfl) | apply Xk);(focus simp [*];done) | (first | refine Xl ?_ | refine Xi ?_ | refine Xh ?_ | refine Xo ?_ | refine Xq ?_);try simp only [Xw,Xx,reduceIte,Nat.reduceEqDiff] | refine Xn ?_ | refine Xp rfl ?_ | refine Xc ?_ | apply Xd;focus simp [*];done | apply Xe;focus simp [*];done | refine Ya rfl rfl ?_)
   (refine⟨_,(by simp [*];rfl),?_⟩;(try simp only [packA]))
   exact⟨rfl,c',a',P3⟩
def blE (t:Tk Unit):Nat:=match t with
 | .error e=>e
 | .ok _=>0
theorem tk_run (hc:HC h)(cls res:Bytes)(B:Nat)(m:Me)(hnm:NmSs m.body)(H:Heap)(nx:Nat)(c:CV)(sc:List Fld)(a:Int)(hlen:sc.length+stsSz m.body≤lim)(hi:CkI h cls res B H nx c sc a)(X Y:Nat)(hX:H X=some (.cells [.ptr B 0]))(hY:H Y=some (.cells [.str m.name,.bool m.static,.lst (m.params.map cvF),.str m.result,.lst (m.body.map cvS)]))(p:CV) :
  ACall Tryd.prog tkG 25 [p,.fn (.func 26) [] [.ptr X 0,.ptr Y 0]] H nx fun r H' nx'=>r=.ret (.int .i64 (blE (blT h cls res sc m.body):Nat))∧∃ sc' c' a',CkP h cls res B H nx c sc' H' nx' c' a':=by
 refine tc_run (by kernel_rfl) ((tk_clo h hc cls res B m hnm H nx c sc a hlen hi X Y hX hY).mono ?_);intro r H' nx' hq;cases hbt:blT h cls res sc m.body with
 | error x =>
   rw [hbt] at hq;obtain⟨rfl,sc',c',a',P3⟩:=hq;exact⟨x,rfl,rfl,sc',c',a',P3⟩
 | ok u =>
   rw [hbt] at hq;obtain⟨rfl,c',a',P3⟩:=hq;exact⟨rfl,sc,c',a',P3⟩
theorem stsDepth_le {l:List St}{n:Nat}(h:∀ s∈l,stDepth s≤n):stsDepth l≤n:=by
 induction l with
 | nil=>simp [stsDepth]
 | cons a l ih =>
   have h1:=h a (by simp);have h2:=ih fun s hs=>h s (by simp [hs])
   rw [stsDepth];omega
theorem stsDepth_mem {l:List St}{s:St}(h:s∈l):stDepth s≤stsDepth l:=by
 induction l with
 | nil=>cases h
 | cons a l ih =>
   rw [stsDepth];rcases List.mem_cons.mp h with rfl | h
   ·omega
   ·have:=ih h;omega
set_option maxRecDepth 10000 in
set_option maxHeartbeats 16000000 in
theorem tk_meth (hc:HC h)(c0:Bytes)(m:Me)(hnm:NmSs m.body)(hpn:∀ f∈m.params,f.name.length≤maxLen)(hlm:m.params.length+stsSz m.body≤lim) :
  FCall Tryd.prog tkG 12 [cvH h,.str c0,.agg (cvM m)] fun r=>∃ k:Int,r=.ret (.tup [.int .i64 k,.int .i64 (methE h c0 m:Nat)]):=by
 refine FCall.ofBody Tryd.func12 rfl rfl fun nx=>?_
 have hbl:m.body.length≤lim:=by have:=stsSz_len m.body;omega
 have hcnt:=tk_count lim m.body (by omega) (by omega);have hdep:=fun s (hs:stSz s≤lim)=>tk_stDepth lim s hs hs
 have hret:=tk_Returns lim m.body (by omega) (by omega);obtain⟨w,hw⟩:∃ w,methE h c0 m=w:=⟨_,rfl⟩;rw [hw];unfold methE at hw
 repeat (first | (first | (apply Xf;rfl) | apply Xj);focus simp [cvM,cvH, *,-Option.some.injEq];rfl | (first | (apply Xa;rfl) | apply Xb);(focus simp [cvM,cvH, *];done);focus simp [cvM,cvH, *,-Option.some.injEq];rfl | (first | (apply Xg;rfl) | apply Xk);(focus simp [cvM,cvH, *];done) | (first | refine Xl ?_ | refine Xi ?_ | refine Xh ?_ | refine Xo ?_ | refine Xq ?_);try simp only [Xw,Xx,reduceIte,Nat.reduceEqDiff] | refine Xn ?_ | refine Xp rfl ?_ | refine Xc ?_ | apply Xd;focus simp [cvM,cvH, *];done | apply Xe;focus simp [cvM,cvH, *];done | refine Ya rfl rfl ?_)
 ((apply Xr);(focus rfl);(focus (first | rfl | (simp [*];done)));(focus simp [*,-Option.some.injEq];rfl);kernel_rfl)
 ·exact hcnt _
 clear hcnt
 by_cases h1:200<stsCount m.body
 ·rw [if_pos h1] at hw;rw [← hw];clear hw;have h1':(200:Int)<stsCount m.body:=by omega
  repeat (first | (first | (apply Xf;rfl) | apply Xj);focus simp [*,-Option.some.injEq];rfl | (first | (apply Xa;rfl) | apply Xb);(focus simp [*];done);focus simp [*,-Option.some.injEq];rfl | (first | (apply Xg;rfl) | apply Xk);(focus simp [*];done) | (first | refine Xl ?_ | refine Xi ?_ | refine Xh ?_ | refine Xo ?_ | refine Xq ?_);try simp only [Xw,Xx,reduceIte,Nat.reduceEqDiff] | refine Xn ?_ | refine Xp rfl ?_ | refine Xc ?_ | apply Xd;focus simp [*];done | apply Xe;focus simp [*];done | refine Ya rfl rfl ?_)
  (refine⟨_,(by simp [*];rfl),?_⟩;(try simp only [packA]))
  exact⟨_,rfl⟩
 rw [if_neg h1] at hw;have h1':¬ (200:Int)<stsCount m.body:=by omega
 repeat (first | (first | (apply Xf;rfl) | apply Xj);focus simp [*,-Option.some.injEq];rfl | (first | (apply Xa;rfl) | apply Xb);(focus simp [*];done);focus simp [*,-Option.some.injEq];rfl | (first | (apply Xg;rfl) | apply Xk);(focus simp [*];done) | (first | refine Xl ?_ | refine Xi ?_ | refine Xh ?_ | refine Xo ?_ | refine Xq ?_);try simp only [Xw,Xx,reduceIte,Nat.reduceEqDiff] | refine Xn ?_ | refine Xp rfl ?_ | refine Xc ?_ | apply Xd;focus simp [*];done | apply Xe;focus simp [*];done | refine Ya rfl rfl ?_)
 clear h1 h1';refine AWp.countO m.body.length [6,7,9,21] 22 (fun i e H1 nx1=>e 21=.int .i64 i∧H1 nx=some (.cells [.lst (h.map cvD)])∧H1 (nx+1)=some (.cells [.str m.name,.bool m.static,.lst (m.params.map cvF),.str m.result,.lst (m.body.map cvS)])∧∀ s∈m.body.take i,stDepth s≤32) ⟨(by first | (simp (disch:=omega) [putE,over,ofV,ofS, *];done) | (simp (disch:=omega) [putE,over,ofV,ofS, *];rfl)),by simp [upd],by simp [upd],by simp⟩ ?_;rintro i v H1 nx1 hi hn1 ⟨h21,hA,hY,hd⟩;have q1:=far (show nx<nx1 by omega);have q2:=far (show nx+1<nx1 by omega)
 repeat (first | (first | (apply Xf;rfl) | apply Xj);focus simp [*,-Option.some.injEq];rfl | (first | (apply Xa;rfl) | apply Xb);(focus simp [*];done);focus simp [*,-Option.some.injEq];rfl | (first | (apply Xg;rfl) | apply Xk);(focus simp [*];done) | (first | refine Xl ?_ | refine Xi ?_ | refine Xh ?_ | refine Xo ?_ | refine Xq ?_);try simp only [Xw,Xx,reduceIte,Nat.reduceEqDiff] | refine Xn ?_ | refine Xp rfl ?_ | refine Xc ?_ | apply Xd;focus simp [*];done | apply Xe;focus simp [*];done | refine Ya rfl rfl ?_)
 (((apply AWp.cond');(focus (simp [*,-Ax.CV.bool.injEq];rfl))) <;> (intro hb) <;> (try simp only [decide_eq_true_eq,decide_eq_false_iff_not,Bool.not_eq_true',Bool.not_eq_false',Bool.not_eq_true,Bool.not_eq_false] at hb))
 ·have hlt:i<m.body.length:=hb;have hwi:=lim_wrap hlt hbl;clear hb;have hx:=hdep m.body[i] (by have:=stsSz_mem (List.getElem_mem hlt);omega);have hmem:=stsDepth_mem (List.getElem_mem hlt);have htk:=take_snoc hlt;generalize hse:m.body[i]=s at *;rw [cvS_eq s] at hx;clear hdep hret
  by_cases h2:32<stDepth s
  ·rw [if_pos (by omega)] at hw;rw [← hw];clear hw hmem hd htk;have h2':(32:Int)<stDepth s:=by omega
   repeat (first | (first | (apply Xf;rfl) | apply Xj);focus simp [cvS_eq s, *,-Option.some.injEq];rfl | (first | (apply Xa;rfl) | apply Xb);(focus simp [cvS_eq s, *];done);focus simp [cvS_eq s, *,-Option.some.injEq];rfl | (first | (apply Xg;rfl) | apply Xk);(focus simp [cvS_eq s, *];done) | (first | refine Xl ?_ | refine Xi ?_ | refine Xh ?_ | refine Xo ?_ | refine Xq ?_);try simp only [Xw,Xx,reduceIte,Nat.reduceEqDiff] | refine Xn ?_ | refine Xp rfl ?_ | refine Xc ?_ | apply Xd;focus simp [cvS_eq s, *];done | apply Xe;focus simp [cvS_eq s, *];done | refine Ya rfl rfl ?_)
   ((apply Xr);(focus rfl);(focus (first | rfl | (simp [cvS_eq s, *];done)));(focus simp [cvS_eq s, *,-Option.some.injEq];rfl);kernel_rfl)
   ·exact hx _
   repeat (first | (first | (apply Xf;rfl) | apply Xj);focus simp [*,-Option.some.injEq];rfl | (first | (apply Xa;rfl) | apply Xb);(focus simp [*];done);focus simp [*,-Option.some.injEq];rfl | (first | (apply Xg;rfl) | apply Xk);(focus simp [*];done) | (first | refine Xl ?_ | refine Xi ?_ | refine Xh ?_ | refine Xo ?_ | refine Xq ?_);try simp only [Xw,Xx,reduceIte,Nat.reduceEqDiff] | refine Xn ?_ | refine Xp rfl ?_ | refine Xc ?_ | apply Xd;focus simp [*];done | apply Xe;focus simp [*];done | refine Ya rfl rfl ?_)
   (refine⟨_,(by simp [*];rfl),?_⟩;(try simp only [packA]))
   exact⟨_,rfl⟩
  ·have h2':¬ (32:Int)<stDepth s:=by omega
   have hd2:∀ x∈m.body.take (i+1),stDepth x≤32:=by
    rw [htk];intro x hx;rcases List.mem_append.mp hx with hx | hx
    ·exact hd x hx
    ·simp only [List.mem_singleton] at hx;subst hx;omega
   clear hw hmem hd htk
   repeat (first | (first | (apply Xf;rfl) | apply Xj);focus simp [cvS_eq s, *,-Option.some.injEq];rfl | (first | (apply Xa;rfl) | apply Xb);(focus simp [cvS_eq s, *];done);focus simp [cvS_eq s, *,-Option.some.injEq];rfl | (first | (apply Xg;rfl) | apply Xk);(focus simp [cvS_eq s, *];done) | (first | refine Xl ?_ | refine Xi ?_ | refine Xh ?_ | refine Xo ?_ | refine Xq ?_);try simp only [Xw,Xx,reduceIte,Nat.reduceEqDiff] | refine Xn ?_ | refine Xp rfl ?_ | refine Xc ?_ | apply Xd;focus simp [cvS_eq s, *];done | apply Xe;focus simp [cvS_eq s, *];done | refine Ya rfl rfl ?_)
   ((apply Xr);(focus rfl);(focus (first | rfl | (simp [cvS_eq s, *];done)));(focus simp [cvS_eq s, *,-Option.some.injEq];rfl);kernel_rfl)
   ·exact hx _
   repeat (first | (first | (apply Xf;rfl) | apply Xj);focus simp [*,-Option.some.injEq];rfl | (first | (apply Xa;rfl) | apply Xb);(focus simp [*];done);focus simp [*,-Option.some.injEq];rfl | (first | (apply Xg;rfl) | apply Xk);(focus simp [*];done) | (first | refine Xl ?_ | refine Xi ?_ | refine Xh ?_ | refine Xo ?_ | refine Xq ?_);try simp only [Xw,Xx,reduceIte,Nat.reduceEqDiff] | refine Xn ?_ | refine Xp rfl ?_ | refine Xc ?_ | apply Xd;focus simp [*];done | apply Xe;focus simp [*];done | refine Ya rfl rfl ?_)
   exact⟨by ((repeat (first | exact Keeps.base _ _ _ _ | (with_reducible exact Keeps.refl _ _ _) | (refine Keeps.put rfl ?_) | (refine Keeps.over' rfl rfl ?_)))),hlt,(by first | (simp (disch:=omega) [putE,over,ofV,ofS, *];done) | (simp (disch:=omega) [putE,over,ofV,ofS, *];rfl)),by simp [upd, *],by simp [upd, *],hd2⟩
 have hi':i=m.body.length:=by omega
 rw [hi',List.take_length] at hd;have hd32:=stsDepth_le hd;rw [if_neg (by omega)] at hw;clear hb hi' hi h21 hd hd32 hdep;cases hst:m.static with
 | false =>
   rw [hst] at hw hY;rw [if_neg (by simp)] at hw;have hst':=hst
   repeat (first | (first | (apply Xf;rfl) | apply Xj);focus simp [*,-Option.some.injEq];rfl | (first | (apply Xa;rfl) | apply Xb);(focus simp [*];done);focus simp [*,-Option.some.injEq];rfl | (first | (apply Xg;rfl) | apply Xk);(focus simp [*];done) | (first | refine Xl ?_ | refine Xi ?_ | refine Xh ?_ | refine Xo ?_ | refine Xq ?_);try simp only [Xw,Xx,reduceIte,Nat.reduceEqDiff] | refine Xn ?_ | refine Xp rfl ?_ | refine Xc ?_ | apply Xd;focus simp [*];done | apply Xe;focus simp [*];done | refine Ya rfl rfl ?_)
   clear hst;obtain⟨W,hW⟩:∃ W,parT [] m.params=W:=⟨_,rfl⟩;rw [hW] at hw;refine AWp.countO m.params.length [6,7,12,43] 44 (fun i e H2 nx2=>e 43=.int .i64 i∧∃ sc c a,CkI h c0 m.result nx1 H2 nx2 c sc a∧H2 (nx1+1)=some (.cells [.ptr nx1 0])∧H2 (nx+1)=some (.cells [.str m.name,.bool false,.lst (m.params.map cvF),.str m.result,.lst (m.body.map cvS)])∧(∀ x k,c=.sl x 0 k 2→nx1+1+1≤x)∧sc.length=i∧parT sc (m.params.drop i)=W) ⟨(by first | (simp (disch:=omega) [putE,over,ofV,ofS, *];done) | (simp (disch:=omega) [putE,over,ofV,ofS, *];rfl)),[],.nils,-1,⟨by simp [upd],OwnR.nil,by omega,(fun _ h=>by cases h)⟩,by simp [upd],by simp [upd, *],(fun _ _ h=>by cases h),rfl,hW⟩ ?_;clear hW hY hA q1 q2;rintro i v2 H2 nx2 hi hn2 ⟨h43,sc,c,a,ck,hX,hY,hlow,hsl,hf⟩;have q1:=far (show nx1+1<nx2 by omega);have q2:=far (show nx+1<nx2 by omega);have q3:=far ck.lt;have hb0:=ck.blk
   repeat (first | (first | (apply Xf;rfl) | apply Xj);focus simp [*,-Option.some.injEq];rfl | (first | (apply Xa;rfl) | apply Xb);(focus simp [*];done);focus simp [*,-Option.some.injEq];rfl | (first | (apply Xg;rfl) | apply Xk);(focus simp [*];done) | (first | refine Xl ?_ | refine Xi ?_ | refine Xh ?_ | refine Xo ?_ | refine Xq ?_);try simp only [Xw,Xx,reduceIte,Nat.reduceEqDiff] | refine Xn ?_ | refine Xp rfl ?_ | refine Xc ?_ | apply Xd;focus simp [*];done | apply Xe;focus simp [*];done | refine Ya rfl rfl ?_)
   (((apply AWp.cond');(focus (simp [*,-Ax.CV.bool.injEq];rfl))) <;> (intro hb) <;> (try simp only [decide_eq_true_eq,decide_eq_false_iff_not,Bool.not_eq_true',Bool.not_eq_false',Bool.not_eq_true,Bool.not_eq_false] at hb))
   ·have hlt:i<m.params.length:=hb;have hwi:=lim_wrap hlt (by omega);clear hb;rw [List.drop_eq_getElem_cons hlt,parT] at hf;have hid:=tk_ident m.params[i].name (hpn _ (List.getElem_mem hlt));have hhs:=tk_has h c0 m.result sc a (by omega) m.params[i].name;generalize hpe:m.params[i]=p at *;obtain⟨pn,pt⟩:=p;simp only at hid hhs hf;cases e1:isIdent pn with
    | false =>
      rw [if_pos e1] at hf;rw [e1] at hid;rw [← hf] at hw;simp only at hw;rw [← hw];clear hw hf e1 hret
      repeat (first | (first | (apply Xf;rfl) | apply Xj);focus simp [cvF, *,-Option.some.injEq];rfl | (first | (apply Xa;rfl) | apply Xb);(focus simp [cvF, *];done);focus simp [cvF, *,-Option.some.injEq];rfl | (first | (apply Xg;rfl) | apply Xk);(focus simp [cvF, *];done) | (first | refine Xl ?_ | refine Xi ?_ | refine Xh ?_ | refine Xo ?_ | refine Xq ?_);try simp only [Xw,Xx,reduceIte,Nat.reduceEqDiff] | refine Xn ?_ | refine Xp rfl ?_ | refine Xc ?_ | apply Xd;focus simp [cvF, *];done | apply Xe;focus simp [cvF, *];done | refine Ya rfl rfl ?_)
      ((apply Xr);(focus rfl);(focus (first | rfl | (simp [*];done)));(focus simp [*,-Option.some.injEq];rfl);kernel_rfl)
      ·exact hid _
      repeat (first | (first | (apply Xf;rfl) | apply Xj);focus simp [*,-Option.some.injEq];rfl | (first | (apply Xa;rfl) | apply Xb);(focus simp [*];done);focus simp [*,-Option.some.injEq];rfl | (first | (apply Xg;rfl) | apply Xk);(focus simp [*];done) | (first | refine Xl ?_ | refine Xi ?_ | refine Xh ?_ | refine Xo ?_ | refine Xq ?_);try simp only [Xw,Xx,reduceIte,Nat.reduceEqDiff] | refine Xn ?_ | refine Xp rfl ?_ | refine Xc ?_ | apply Xd;focus simp [*];done | apply Xe;focus simp [*];done | refine Ya rfl rfl ?_)
      (refine⟨_,(by simp [*];rfl),?_⟩;(try simp only [packA]))
      exact⟨_,rfl⟩
    | true =>
    rw [if_neg (by rw [e1];simp)] at hf;rw [e1] at hid;clear e1;have P1:=ck.same (H1:=upd H2 nx2 (.cells [.str pn,.str pt])) (by rw [upd_miss _ _ _ _ (by omega)];exact hb0) (Nat.le_succ nx2) (fun x hx _=>upd_miss _ _ _ _ (by omega))
    by_cases e2:varF sc pn=none
    case neg =>
     rw [if_pos e2] at hf;have hsm:(varF sc pn).isSome=true:=by cases hv:varF sc pn <;> simp_all
     rw [hsm] at hhs;rw [← hf] at hw;simp only at hw;rw [← hw];clear hw hf e2 hret hsm
     repeat (first | (first | (apply Xf;rfl) | apply Xj);focus simp [cvF, *,-Option.some.injEq];rfl | (first | (apply Xa;rfl) | apply Xb);(focus simp [cvF, *];done);focus simp [cvF, *,-Option.some.injEq];rfl | (first | (apply Xg;rfl) | apply Xk);(focus simp [cvF, *];done) | (first | refine Xl ?_ | refine Xi ?_ | refine Xh ?_ | refine Xo ?_ | refine Xq ?_);try simp only [Xw,Xx,reduceIte,Nat.reduceEqDiff] | refine Xn ?_ | refine Xp rfl ?_ | refine Xc ?_ | apply Xd;focus simp [cvF, *];done | apply Xe;focus simp [cvF, *];done | refine Ya rfl rfl ?_)
     ((apply Xr);(focus rfl);(focus (first | rfl | (simp [*];done)));(focus simp [*,-Option.some.injEq];rfl);kernel_rfl)
     ·exact hid _
     repeat (first | (first | (apply Xf;rfl) | apply Xj);focus simp [*,-Option.some.injEq];rfl | (first | (apply Xa;rfl) | apply Xb);(focus simp [*];done);focus simp [*,-Option.some.injEq];rfl | (first | (apply Xg;rfl) | apply Xk);(focus simp [*];done) | (first | refine Xl ?_ | refine Xi ?_ | refine Xh ?_ | refine Xo ?_ | refine Xq ?_);try simp only [Xw,Xx,reduceIte,Nat.reduceEqDiff] | refine Xn ?_ | refine Xp rfl ?_ | refine Xc ?_ | apply Xd;focus simp [*];done | apply Xe;focus simp [*];done | refine Ya rfl rfl ?_)
     ((apply Xr);(focus rfl);(focus (first | rfl | (simp [*];done)));(focus simp [*,-Option.some.injEq];rfl);kernel_rfl)
     ·exact FCall1.lend tkG_pu hhs (by simp [puL,puV,ckV_pu]) rfl (P1.ck.ln _)
     repeat (first | (first | (apply Xf;rfl) | apply Xj);focus simp [*,-Option.some.injEq];rfl | (first | (apply Xa;rfl) | apply Xb);(focus simp [*];done);focus simp [*,-Option.some.injEq];rfl | (first | (apply Xg;rfl) | apply Xk);(focus simp [*];done) | (first | refine Xl ?_ | refine Xi ?_ | refine Xh ?_ | refine Xo ?_ | refine Xq ?_);try simp only [Xw,Xx,reduceIte,Nat.reduceEqDiff] | refine Xn ?_ | refine Xp rfl ?_ | refine Xc ?_ | apply Xd;focus simp [*];done | apply Xe;focus simp [*];done | refine Ya rfl rfl ?_)
     (refine⟨_,(by simp [*];rfl),?_⟩;(try simp only [packA]))
     exact⟨_,rfl⟩
    rw [if_neg (by simp [e2])] at hf;rw [e2] at hhs;have hhs':FCall1 Tryd.prog tkG 24 [ckV h c0 m.result sc a,.str pn] (.bool false):=hhs;clear e2 hhs hw hret
    repeat (first | (first | (apply Xf;rfl) | apply Xj);focus simp [cvF, *,-Option.some.injEq];rfl | (first | (apply Xa;rfl) | apply Xb);(focus simp [cvF, *];done);focus simp [cvF, *,-Option.some.injEq];rfl | (first | (apply Xg;rfl) | apply Xk);(focus simp [cvF, *];done) | (first | refine Xl ?_ | refine Xi ?_ | refine Xh ?_ | refine Xo ?_ | refine Xq ?_);try simp only [Xw,Xx,reduceIte,Nat.reduceEqDiff] | refine Xn ?_ | refine Xp rfl ?_ | refine Xc ?_ | apply Xd;focus simp [cvF, *];done | apply Xe;focus simp [cvF, *];done | refine Ya rfl rfl ?_)
    ((apply Xr);(focus rfl);(focus (first | rfl | (simp [*];done)));(focus simp [*,-Option.some.injEq];rfl);kernel_rfl)
    ·exact hid _
    repeat (first | (first | (apply Xf;rfl) | apply Xj);focus simp [*,-Option.some.injEq];rfl | (first | (apply Xa;rfl) | apply Xb);(focus simp [*];done);focus simp [*,-Option.some.injEq];rfl | (first | (apply Xg;rfl) | apply Xk);(focus simp [*];done) | (first | refine Xl ?_ | refine Xi ?_ | refine Xh ?_ | refine Xo ?_ | refine Xq ?_);try simp only [Xw,Xx,reduceIte,Nat.reduceEqDiff] | refine Xn ?_ | refine Xp rfl ?_ | refine Xc ?_ | apply Xd;focus simp [*];done | apply Xe;focus simp [*];done | refine Ya rfl rfl ?_)
    ((apply Xr);(focus rfl);(focus (first | rfl | (simp [*];done)));(focus simp [*,-Option.some.injEq];rfl);kernel_rfl)
    ·exact FCall1.lend tkG_pu hhs' (by simp [puL,puV,ckV_pu]) rfl (P1.ck.ln _)
    clear hhs' hid
    repeat (first | (first | (apply Xf;rfl) | apply Xj);focus simp [*,-Option.some.injEq];rfl | (first | (apply Xa;rfl) | apply Xb);(focus simp [*];done);focus simp [*,-Option.some.injEq];rfl | (first | (apply Xg;rfl) | apply Xk);(focus simp [*];done) | (first | refine Xl ?_ | refine Xi ?_ | refine Xh ?_ | refine Xo ?_ | refine Xq ?_);try simp only [Xw,Xx,reduceIte,Nat.reduceEqDiff] | refine Xn ?_ | refine Xp rfl ?_ | refine Xc ?_ | apply Xd;focus simp [*];done | apply Xe;focus simp [*];done)
    refine AWp.regTB [0] (fun b=>b=nx1+1) (by kernel_rfl) (by kernel_rfl) rfl rfl (fun b hb=>by subst hb;omega) ?_
    repeat (first | ((apply ASlK.stepG);(focus rfl);(focus (simp [*,-Option.some.injEq];rfl));(focus (first | (intro h;exact Bool.noConfusion (show false=true from h)) | (intro hk0 H1 hk1;have hk2:=hk1 _ rfl;clear hk1;simp [*] at hk2;simp [*,-Option.some.injEq];rfl) | (intro hk0 H1 hk1;have hk2:=hk1 _ rfl;simp [*] at hk2;simp [*,-Option.some.injEq];done) | (intro hk0 H1 hk1;have hk2:=hk1 _ rfl;simp [*] at hk2;simp [*,-Option.some.injEq])));(focus (first | (intro _ _;rfl) | (intro b hb;replace hb:b=_:=hb;simp [hb, *];done)))) | ((apply ASlK.stepG);(focus simp [*];done);(focus (simp [*,-Option.some.injEq];rfl));(focus (first | (intro h;exact Bool.noConfusion (show false=true from h)) | (intro hk0 H1 hk1;have hk2:=hk1 _ rfl;clear hk1;simp [*] at hk2;simp [*,-Option.some.injEq];rfl) | (intro hk0 H1 hk1;have hk2:=hk1 _ rfl;simp [*] at hk2;simp [*,-Option.some.injEq];done) | (intro hk0 H1 hk1;have hk2:=hk1 _ rfl;simp [*] at hk2;simp [*,-Option.some.injEq])));(focus (first | (intro _ _;rfl) | (intro b hb;replace hb:b=_:=hb;simp [hb, *];done)))) | ((apply ASlK.pass);(focus simp [*];done)) | ((refine ASlK.nil ?_);(try simp only [Xw,Xx,reduceIte,Nat.reduceEqDiff])))
    refine ASlK.appQ cvF_len cvF_one ti_Flds ti_Fld (⟨pn,pt⟩:Fld) (ck.own.keep (by omega) fun x hx _=>by rw [upd_miss _ _ _ _ (by omega),upd_miss _ _ _ _ (by omega)]) (by simp only [lim] at hlm;omega) (fun b hb=>by
     have hb':b=nx1+1:=hb;subst hb';exact⟨by omega,fun b' hcb e=>by have:=hlow b' _ hcb;omega⟩) ?_ (hxb:=by simp [upd,cvF])
    intro H3 hN hfr;have hb3:H3 nx1=some (.cells [.lst (h.map cvD),.str c0,.str m.result,c,.int .i64 a]):=by
     rw [hfr nx1 (by omega) (fun b' hcb e=>ck.ne _ (by rw [e];exact hcb)),upd_miss _ _ _ _ (by omega),upd_miss _ _ _ _ (by omega)];exact hb0
    have hX3:H3 (nx1+1)=some (.cells [.ptr nx1 0]):=by
     rw [hfr (nx1+1) (by omega) (fun b' hcb e=>by have:=hlow b' _ hcb;omega),upd_miss _ _ _ _ (by omega),upd_miss _ _ _ _ (by omega)];exact hX
    have hY3:H3 (nx+1)=some (.cells [.str m.name,.bool false,.lst (m.params.map cvF),.str m.result,.lst (m.body.map cvS)]):=by
     rw [hfr (nx+1) (by omega) (fun b' hcb e=>by have:=hlow b' _ hcb;omega),upd_miss _ _ _ _ (by omega),upd_miss _ _ _ _ (by omega)];exact hY
    repeat (first | ((apply ASlK.stepG);(focus rfl);(focus (simp [*,-Option.some.injEq];rfl));(focus (first | (intro h;exact Bool.noConfusion (show false=true from h)) | (intro hk0 H1 hk1;have hk2:=hk1 _ rfl;clear hk1;simp [*] at hk2;simp [*,-Option.some.injEq];rfl) | (intro hk0 H1 hk1;have hk2:=hk1 _ rfl;simp [*] at hk2;simp [*,-Option.some.injEq];done) | (intro hk0 H1 hk1;have hk2:=hk1 _ rfl;simp [*] at hk2;simp [*,-Option.some.injEq])));(focus (first | (intro _ _;rfl) | (intro b hb;replace hb:b=_:=hb;simp [hb, *];done)))) | ((apply ASlK.stepG);(focus simp [*];done);(focus (simp [*,-Option.some.injEq];rfl));(focus (first | (intro h;exact Bool.noConfusion (show false=true from h)) | (intro hk0 H1 hk1;have hk2:=hk1 _ rfl;clear hk1;simp [*] at hk2;simp [*,-Option.some.injEq];rfl) | (intro hk0 H1 hk1;have hk2:=hk1 _ rfl;simp [*] at hk2;simp [*,-Option.some.injEq];done) | (intro hk0 H1 hk1;have hk2:=hk1 _ rfl;simp [*] at hk2;simp [*,-Option.some.injEq])));(focus (first | (intro _ _;rfl) | (intro b hb;replace hb:b=_:=hb;simp [hb, *];done)))) | ((apply ASlK.pass);(focus simp [*];done)) | ((refine ASlK.nil ?_);(try simp only [Xw,Xx,reduceIte,Nat.reduceEqDiff])))
    repeat (first | (first | (apply Xf;rfl) | apply Xj);focus simp [*,-Option.some.injEq];rfl | (first | (apply Xa;rfl) | apply Xb);(focus simp [*];done);focus simp [*,-Option.some.injEq];rfl | (first | (apply Xg;rfl) | apply Xk);(focus simp [*];done) | (first | refine Xl ?_ | refine Xi ?_ | refine Xh ?_ | refine Xo ?_ | refine Xq ?_);try simp only [Xw,Xx,reduceIte,Nat.reduceEqDiff] | refine Xn ?_ | refine Xp rfl ?_ | refine Xc ?_ | apply Xd;focus simp [*];done | apply Xe;focus simp [*];done | refine Ya rfl rfl ?_)
    refine⟨by ((repeat (first | exact Keeps.base _ _ _ _ | (with_reducible exact Keeps.refl _ _ _) | (refine Keeps.put rfl ?_) | (refine Keeps.over' rfl rfl ?_)))),hlt,(by first | (simp (disch:=omega) [putE,over,ofV,ofS, *];done) | (simp (disch:=omega) [putE,over,ofV,ofS, *];rfl)),sc++[⟨pn,pt⟩],_,a,⟨upd_hit _ _ _,OwnR.isN0 (by rw [upd_miss _ _ _ _ (by omega)];exact hN) (by omega) _ (by simp [hsl]),by omega,(fun k hk=>by cases hk;omega)⟩,by rw [upd_miss _ _ _ _ (by omega)];exact hX3,by rw [upd_miss _ _ _ _ (by omega)];exact hY3,(fun x k hk=>by cases hk;omega),by simp [hsl],hf⟩
   ·have hi':i=m.params.length:=by omega
    subst hi';rw [List.drop_eq_nil_of_le (Nat.le_refl _),parT] at hf;rw [← hf] at hw;simp only at hw;clear hf hb hi h43;have hrun:=tk_run h hc c0 m.result nx1 m hnm H2 nx2 c sc a (by omega) ck (nx1+1) (nx+1) hX (by rw [hst'];exact hY) (.ptr nx1 0)
    repeat (first | (first | (apply Xf;rfl) | apply Xj);focus simp [*,-Option.some.injEq];rfl | (first | (apply Xa;rfl) | apply Xb);(focus simp [*];done);focus simp [*,-Option.some.injEq];rfl | (first | (apply Xg;rfl) | apply Xk);(focus simp [*];done) | (first | refine Xl ?_ | refine Xi ?_ | refine Xh ?_ | refine Xo ?_ | refine Xq ?_);try simp only [Xw,Xx,reduceIte,Nat.reduceEqDiff] | refine Xn ?_ | refine Xp rfl ?_ | refine Xc ?_ | apply Xd;focus simp [*];done | apply Xe;focus simp [*];done | refine Ya rfl rfl ?_)
    ((apply AOpl.callG);(focus rfl);(focus (first | rfl | (simp [*];done)));(focus simp [*,-Option.some.injEq];rfl);kernel_rfl)
    refine hrun.mono ?_;rintro r H3 nx3 ⟨rfl,sc',c',a',P3⟩;simp only;clear hrun;have hX3:H3 (nx1+1)=some (.cells [.ptr nx1 0]):=by rw [P3.fr (nx1+1) (by omega) (by omega) (fun k hk=>by have:=hlow _ _ hk;omega)];exact hX
    have hY3:H3 (nx+1)=some (.cells [.str m.name,.bool false,.lst (m.params.map cvF),.str m.result,.lst (m.body.map cvS)]):=by rw [P3.fr (nx+1) (by omega) (by omega) (fun k hk=>by have:=hlow _ _ hk;omega)];exact hY
    have hb3:=P3.ck.blk;clear P3 hX hY hb0 ck hlow q1 q2 q3;cases hbt:blT h c0 m.result sc m.body with
    | error x =>
      have hx0:¬ x=0:=fun e=>by subst e;exact blT_ne hbt
      rw [hbt] at hw;simp only at hw;subst hw;have e1:blE (.error x)=x:=rfl;rw [e1];clear e1 hbt hret
      repeat (first | (first | (apply Xf;rfl) | apply Xj);focus simp [*,-Option.some.injEq];rfl | (first | (apply Xa;rfl) | apply Xb);(focus simp [*];done);focus simp [*,-Option.some.injEq];rfl | (first | (apply Xg;rfl) | apply Xk);(focus simp [*];done) | (first | refine Xl ?_ | refine Xi ?_ | refine Xh ?_ | refine Xo ?_ | refine Xq ?_);try simp only [Xw,Xx,reduceIte,Nat.reduceEqDiff] | refine Xn ?_ | refine Xp rfl ?_ | refine Xc ?_ | apply Xd;focus simp [*];done | apply Xe;focus simp [*];done | refine Ya rfl rfl ?_)
      (refine⟨_,(by simp [*];rfl),?_⟩;(try simp only [packA]))
      exact⟨_,rfl⟩
    | ok u =>
      rw [hbt] at hw;simp only at hw;have e1:((blE (.ok u):Nat):Int)=0:=rfl;rw [e1];clear e1 hbt
      by_cases hr:m.result=[]
      ·rw [if_neg (fun h=>h.1 hr)] at hw;rw [← hw];clear hw hret
       repeat (first | (first | (apply Xf;rfl) | apply Xj);focus simp [*,-Option.some.injEq];rfl | (first | (apply Xa;rfl) | apply Xb);(focus simp [*];done);focus simp [*,-Option.some.injEq];rfl | (first | (apply Xg;rfl) | apply Xk);(focus simp [*];done) | (first | refine Xl ?_ | refine Xi ?_ | refine Xh ?_ | refine Xo ?_ | refine Xq ?_);try simp only [Xw,Xx,reduceIte,Nat.reduceEqDiff] | refine Xn ?_ | refine Xp rfl ?_ | refine Xc ?_ | apply Xd;focus simp [*];done | apply Xe;focus simp [*];done | refine Ya rfl rfl ?_)
       (refine⟨_,(by simp [*];rfl),?_⟩;(try simp only [packA]))
       exact⟨_,rfl⟩
      cases hrt:retsT m.body with
      | false =>
        rw [if_pos ⟨hr,hrt⟩] at hw;rw [hrt] at hret;rw [← hw];clear hw hrt
        repeat (first | (first | (apply Xf;rfl) | apply Xj);focus simp [*,-Option.some.injEq];rfl | (first | (apply Xa;rfl) | apply Xb);(focus simp [*];done);focus simp [*,-Option.some.injEq];rfl | (first | (apply Xg;rfl) | apply Xk);(focus simp [*];done) | (first | refine Xl ?_ | refine Xi ?_ | refine Xh ?_ | refine Xo ?_ | refine Xq ?_);try simp only [Xw,Xx,reduceIte,Nat.reduceEqDiff] | refine Xn ?_ | refine Xp rfl ?_ | refine Xc ?_ | apply Xd;focus simp [*];done | apply Xe;focus simp [*];done | refine Ya rfl rfl ?_)
        ((apply Xr);(focus rfl);(focus (first | rfl | (simp [*];done)));(focus simp [*,-Option.some.injEq];rfl);kernel_rfl)
        ·exact hret _
        repeat (first | (first | (apply Xf;rfl) | apply Xj);focus simp [*,-Option.some.injEq];rfl | (first | (apply Xa;rfl) | apply Xb);(focus simp [*];done);focus simp [*,-Option.some.injEq];rfl | (first | (apply Xg;rfl) | apply Xk);(focus simp [*];done) | (first | refine Xl ?_ | refine Xi ?_ | refine Xh ?_ | refine Xo ?_ | refine Xq ?_);try simp only [Xw,Xx,reduceIte,Nat.reduceEqDiff] | refine Xn ?_ | refine Xp rfl ?_ | refine Xc ?_ | apply Xd;focus simp [*];done | apply Xe;focus simp [*];done | refine Ya rfl rfl ?_)
        (refine⟨_,(by simp [*];rfl),?_⟩;(try simp only [packA]))
        exact⟨_,rfl⟩
      | true =>
        rw [if_neg (fun h=>by rw [hrt] at h;cases h.2)] at hw;rw [hrt] at hret;rw [← hw];clear hw hrt
        repeat (first | (first | (apply Xf;rfl) | apply Xj);focus simp [*,-Option.some.injEq];rfl | (first | (apply Xa;rfl) | apply Xb);(focus simp [*];done);focus simp [*,-Option.some.injEq];rfl | (first | (apply Xg;rfl) | apply Xk);(focus simp [*];done) | (first | refine Xl ?_ | refine Xi ?_ | refine Xh ?_ | refine Xo ?_ | refine Xq ?_);try simp only [Xw,Xx,reduceIte,Nat.reduceEqDiff] | refine Xn ?_ | refine Xp rfl ?_ | refine Xc ?_ | apply Xd;focus simp [*];done | apply Xe;focus simp [*];done | refine Ya rfl rfl ?_)
        ((apply Xr);(focus rfl);(focus (first | rfl | (simp [*];done)));(focus simp [*,-Option.some.injEq];rfl);kernel_rfl)
        ·exact hret _
        repeat (first | (first | (apply Xf;rfl) | apply Xj);focus simp [*,-Option.some.injEq];rfl | (first | (apply Xa;rfl) | apply Xb);(focus simp [*];done);focus simp [*,-Option.some.injEq];rfl | (first | (apply Xg;rfl) | apply Xk);(focus simp [*];done) | (first | refine Xl ?_ | refine Xi ?_ | refine Xh ?_ | refine Xo ?_ | refine Xq ?_);try simp only [Xw,Xx,reduceIte,Nat.reduceEqDiff] | refine Xn ?_ | refine Xp rfl ?_ | refine Xc ?_ | apply Xd;focus simp [*];done | apply Xe;focus simp [*];done | refine Ya rfl rfl ?_)
        (refine⟨_,(by simp [*];rfl),?_⟩;(try simp only [packA]))
        exact⟨_,rfl⟩
 | true =>
   rw [hst] at hw hY;rw [if_pos rfl] at hw;have hst':=hst
   repeat (first | (first | (apply Xf;rfl) | apply Xj);focus simp [*,-Option.some.injEq];rfl | (first | (apply Xa;rfl) | apply Xb);(focus simp [*];done);focus simp [*,-Option.some.injEq];rfl | (first | (apply Xg;rfl) | apply Xk);(focus simp [*];done) | (first | refine Xl ?_ | refine Xi ?_ | refine Xh ?_ | refine Xo ?_ | refine Xq ?_);try simp only [Xw,Xx,reduceIte,Nat.reduceEqDiff] | refine Xn ?_ | refine Xp rfl ?_ | refine Xc ?_ | apply Xd;focus simp [*];done | apply Xe;focus simp [*];done | refine Ya rfl rfl ?_)
   clear hst;obtain⟨W,hW⟩:∃ W,parT [] m.params=W:=⟨_,rfl⟩;rw [hW] at hw;refine AWp.countO m.params.length [6,7,12,43] 44 (fun i e H2 nx2=>e 43=.int .i64 i∧∃ sc c a,CkI h [] m.result nx1 H2 nx2 c sc a∧H2 (nx1+1)=some (.cells [.ptr nx1 0])∧H2 (nx+1)=some (.cells [.str m.name,.bool true,.lst (m.params.map cvF),.str m.result,.lst (m.body.map cvS)])∧(∀ x k,c=.sl x 0 k 2→nx1+1+1≤x)∧sc.length=i∧parT sc (m.params.drop i)=W) ⟨(by first | (simp (disch:=omega) [putE,over,ofV,ofS, *];done) | (simp (disch:=omega) [putE,over,ofV,ofS, *];rfl)),[],.nils,-1,⟨by simp [upd],OwnR.nil,by omega,(fun _ h=>by cases h)⟩,by simp [upd],by simp [upd, *],(fun _ _ h=>by cases h),rfl,hW⟩ ?_;clear hW hY hA q1 q2;rintro i v2 H2 nx2 hi hn2 ⟨h43,sc,c,a,ck,hX,hY,hlow,hsl,hf⟩;have q1:=far (show nx1+1<nx2 by omega);have q2:=far (show nx+1<nx2 by omega);have q3:=far ck.lt;have hb0:=ck.blk
   repeat (first | (first | (apply Xf;rfl) | apply Xj);focus simp [*,-Option.some.injEq];rfl | (first | (apply Xa;rfl) | apply Xb);(focus simp [*];done);focus simp [*,-Option.some.injEq];rfl | (first | (apply Xg;rfl) | apply Xk);(focus simp [*];done) | (first | refine Xl ?_ | refine Xi ?_ | refine Xh ?_ | refine Xo ?_ | refine Xq ?_);try simp only [Xw,Xx,reduceIte,Nat.reduceEqDiff] | refine Xn ?_ | refine Xp rfl ?_ | refine Xc ?_ | apply Xd;focus simp [*];done | apply Xe;focus simp [*];done | refine Ya rfl rfl ?_)
   (((apply AWp.cond');(focus (simp [*,-Ax.CV.bool.injEq];rfl))) <;> (intro hb) <;> (try simp only [decide_eq_true_eq,decide_eq_false_iff_not,Bool.not_eq_true',Bool.not_eq_false',Bool.not_eq_true,Bool.not_eq_false] at hb))
   ·have hlt:i<m.params.length:=hb;have hwi:=lim_wrap hlt (by omega);clear hb;rw [List.drop_eq_getElem_cons hlt,parT] at hf;have hid:=tk_ident m.params[i].name (hpn _ (List.getElem_mem hlt));have hhs:=tk_has h [] m.result sc a (by omega) m.params[i].name;generalize hpe:m.params[i]=p at *;obtain⟨pn,pt⟩:=p;simp only at hid hhs hf;cases e1:isIdent pn with
    | false =>
      rw [if_pos e1] at hf;rw [e1] at hid;rw [← hf] at hw;simp only at hw;rw [← hw];clear hw hf e1 hret
      repeat (first | (first | (apply Xf;rfl) | apply Xj);focus simp [cvF, *,-Option.some.injEq];rfl | (first | (apply Xa;rfl) | apply Xb);(focus simp [cvF, *];done);focus simp [cvF, *,-Option.some.injEq];rfl | (first | (apply Xg;rfl) | apply Xk);(focus simp [cvF, *];done) | (first | refine Xl ?_ | refine Xi ?_ | refine Xh ?_ | refine Xo ?_ | refine Xq ?_);try simp only [Xw,Xx,reduceIte,Nat.reduceEqDiff] | refine Xn ?_ | refine Xp rfl ?_ | refine Xc ?_ | apply Xd;focus simp [cvF, *];done | apply Xe;focus simp [cvF, *];done | refine Ya rfl rfl ?_)
      ((apply Xr);(focus rfl);(focus (first | rfl | (simp [*];done)));(focus simp [*,-Option.some.injEq];rfl);kernel_rfl)
      ·exact hid _
      repeat (first | (first | (apply Xf;rfl) | apply Xj);focus simp [*,-Option.some.injEq];rfl | (first | (apply Xa;rfl) | apply Xb);(focus simp [*];done);focus simp [*,-Option.some.injEq];rfl | (first | (apply Xg;rfl) | apply Xk);(focus simp [*];done) | (first | refine Xl ?_ | refine Xi ?_ | refine Xh ?_ | refine Xo ?_ | refine Xq ?_);try simp only [Xw,Xx,reduceIte,Nat.reduceEqDiff] | refine Xn ?_ | refine Xp rfl ?_ | refine Xc ?_ | apply Xd;focus simp [*];done | apply Xe;focus simp [*];done | refine Ya rfl rfl ?_)
      (refine⟨_,(by simp [*];rfl),?_⟩;(try simp only [packA]))
      exact⟨_,rfl⟩
    | true =>
    rw [if_neg (by rw [e1];simp)] at hf;rw [e1] at hid;clear e1;have P1:=ck.same (H1:=upd H2 nx2 (.cells [.str pn,.str pt])) (by rw [upd_miss _ _ _ _ (by omega)];exact hb0) (Nat.le_succ nx2) (fun x hx _=>upd_miss _ _ _ _ (by omega))
    by_cases e2:varF sc pn=none
    case neg =>
     rw [if_pos e2] at hf;have hsm:(varF sc pn).isSome=true:=by cases hv:varF sc pn <;> simp_all
     rw [hsm] at hhs;rw [← hf] at hw;simp only at hw;rw [← hw];clear hw hf e2 hret hsm
     repeat (first | (first | (apply Xf;rfl) | apply Xj);focus simp [cvF, *,-Option.some.injEq];rfl | (first | (apply Xa;rfl) | apply Xb);(focus simp [cvF, *];done);focus simp [cvF, *,-Option.some.injEq];rfl | (first | (apply Xg;rfl) | apply Xk);(focus simp [cvF, *];done) | (first | refine Xl ?_ | refine Xi ?_ | refine Xh ?_ | refine Xo ?_ | refine Xq ?_);try simp only [Xw,Xx,reduceIte,Nat.reduceEqDiff] | refine Xn ?_ | refine Xp rfl ?_ | refine Xc ?_ | apply Xd;focus simp [cvF, *];done | apply Xe;focus simp [cvF, *];done | refine Ya rfl rfl ?_)
     ((apply Xr);(focus rfl);(focus (first | rfl | (simp [*];done)));(focus simp [*,-Option.some.injEq];rfl);kernel_rfl)
     ·exact hid _
     repeat (first | (first | (apply Xf;rfl) | apply Xj);focus simp [*,-Option.some.injEq];rfl | (first | (apply Xa;rfl) | apply Xb);(focus simp [*];done);focus simp [*,-Option.some.injEq];rfl | (first | (apply Xg;rfl) | apply Xk);(focus simp [*];done) | (first | refine Xl ?_ | refine Xi ?_ | refine Xh ?_ | refine Xo ?_ | refine Xq ?_);try simp only [Xw,Xx,reduceIte,Nat.reduceEqDiff] | refine Xn ?_ | refine Xp rfl ?_ | refine Xc ?_ | apply Xd;focus simp [*];done | apply Xe;focus simp [*];done | refine Ya rfl rfl ?_)
     ((apply Xr);(focus rfl);(focus (first | rfl | (simp [*];done)));(focus simp [*,-Option.some.injEq];rfl);kernel_rfl)
     ·exact FCall1.lend tkG_pu hhs (by simp [puL,puV,ckV_pu]) rfl (P1.ck.ln _)
     repeat (first | (first | (apply Xf;rfl) | apply Xj);focus simp [*,-Option.some.injEq];rfl | (first | (apply Xa;rfl) | apply Xb);(focus simp [*];done);focus simp [*,-Option.some.injEq];rfl | (first | (apply Xg;rfl) | apply Xk);(focus simp [*];done) | (first | refine Xl ?_ | refine Xi ?_ | refine Xh ?_ | refine Xo ?_ | refine Xq ?_);try simp only [Xw,Xx,reduceIte,Nat.reduceEqDiff] | refine Xn ?_ | refine Xp rfl ?_ | refine Xc ?_ | apply Xd;focus simp [*];done | apply Xe;focus simp [*];done | refine Ya rfl rfl ?_)
     (refine⟨_,(by simp [*];rfl),?_⟩;(try simp only [packA]))
     exact⟨_,rfl⟩
    rw [if_neg (by simp [e2])] at hf;rw [e2] at hhs;have hhs':FCall1 Tryd.prog tkG 24 [ckV h [] m.result sc a,.str pn] (.bool false):=hhs;clear e2 hhs hw hret
    repeat (first | (first | (apply Xf;rfl) | apply Xj);focus simp [cvF, *,-Option.some.injEq];rfl | (first | (apply Xa;rfl) | apply Xb);(focus simp [cvF, *];done);focus simp [cvF, *,-Option.some.injEq];rfl | (first | (apply Xg;rfl) | apply Xk);(focus simp [cvF, *];done) | (first | refine Xl ?_ | refine Xi ?_ | refine Xh ?_ | refine Xo ?_ | refine Xq ?_);try simp only [Xw,Xx,reduceIte,Nat.reduceEqDiff] | refine Xn ?_ | refine Xp rfl ?_ | refine Xc ?_ | apply Xd;focus simp [cvF, *];done | apply Xe;focus simp [cvF, *];done | refine Ya rfl rfl ?_)
    ((apply Xr);(focus rfl);(focus (first | rfl | (simp [*];done)));(focus simp [*,-Option.some.injEq];rfl);kernel_rfl)
    ·exact hid _
    repeat (first | (first | (apply Xf;rfl) | apply Xj);focus simp [*,-Option.some.injEq];rfl | (first | (apply Xa;rfl) | apply Xb);(focus simp [*];done);focus simp [*,-Option.some.injEq];rfl | (first | (apply Xg;rfl) | apply Xk);(focus simp [*];done) | (first | refine Xl ?_ | refine Xi ?_ | refine Xh ?_ | refine Xo ?_ | refine Xq ?_);try simp only [Xw,Xx,reduceIte,Nat.reduceEqDiff] | refine Xn ?_ | refine Xp rfl ?_ | refine Xc ?_ | apply Xd;focus simp [*];done | apply Xe;focus simp [*];done | refine Ya rfl rfl ?_)
    ((apply Xr);(focus rfl);(focus (first | rfl | (simp [*];done)));(focus simp [*,-Option.some.injEq];rfl);kernel_rfl)
    ·exact FCall1.lend tkG_pu hhs' (by simp [puL,puV,ckV_pu]) rfl (P1.ck.ln _)
    clear hhs' hid
    repeat (first | (first | (apply Xf;rfl) | apply Xj);focus simp [*,-Option.some.injEq];rfl | (first | (apply Xa;rfl) | apply Xb);(focus simp [*];done);focus simp [*,-Option.some.injEq];rfl | (first | (apply Xg;rfl) | apply Xk);(focus simp [*];done) | (first | refine Xl ?_ | refine Xi ?_ | refine Xh ?_ | refine Xo ?_ | refine Xq ?_);try simp only [Xw,Xx,reduceIte,Nat.reduceEqDiff] | refine Xn ?_ | refine Xp rfl ?_ | refine Xc ?_ | apply Xd;focus simp [*];done | apply Xe;focus simp [*];done)
    refine AWp.regTB [0] (fun b=>b=nx1+1) (by kernel_rfl) (by kernel_rfl) rfl rfl (fun b hb=>by subst hb;omega) ?_
    repeat (first | ((apply ASlK.stepG);(focus rfl);(focus (simp [*,-Option.some.injEq];rfl));(focus (first | (intro h;exact Bool.noConfusion (show false=true from h)) | (intro hk0 H1 hk1;have hk2:=hk1 _ rfl;clear hk1;simp [*] at hk2;simp [*,-Option.some.injEq];rfl) | (intro hk0 H1 hk1;have hk2:=hk1 _ rfl;simp [*] at hk2;simp [*,-Option.some.injEq];done) | (intro hk0 H1 hk1;have hk2:=hk1 _ rfl;simp [*] at hk2;simp [*,-Option.some.injEq])));(focus (first | (intro _ _;rfl) | (intro b hb;replace hb:b=_:=hb;simp [hb, *];done)))) | ((apply ASlK.stepG);(focus simp [*];done);(focus (simp [*,-Option.some.injEq];rfl));(focus (first | (intro h;exact Bool.noConfusion (show false=true from h)) | (intro hk0 H1 hk1;have hk2:=hk1 _ rfl;clear hk1;simp [*] at hk2;simp [*,-Option.some.injEq];rfl) | (intro hk0 H1 hk1;have hk2:=hk1 _ rfl;simp [*] at hk2;simp [*,-Option.some.injEq];done) | (intro hk0 H1 hk1;have hk2:=hk1 _ rfl;simp [*] at hk2;simp [*,-Option.some.injEq])));(focus (first | (intro _ _;rfl) | (intro b hb;replace hb:b=_:=hb;simp [hb, *];done)))) | ((apply ASlK.pass);(focus simp [*];done)) | ((refine ASlK.nil ?_);(try simp only [Xw,Xx,reduceIte,Nat.reduceEqDiff])))
    refine ASlK.appQ cvF_len cvF_one ti_Flds ti_Fld (⟨pn,pt⟩:Fld) (ck.own.keep (by omega) fun x hx _=>by rw [upd_miss _ _ _ _ (by omega),upd_miss _ _ _ _ (by omega)]) (by simp only [lim] at hlm;omega) (fun b hb=>by
     have hb':b=nx1+1:=hb;subst hb';exact⟨by omega,fun b' hcb e=>by have:=hlow b' _ hcb;omega⟩) ?_ (hxb:=by simp [upd,cvF])
    intro H3 hN hfr;have hb3:H3 nx1=some (.cells [.lst (h.map cvD),.str [],.str m.result,c,.int .i64 a]):=by
     rw [hfr nx1 (by omega) (fun b' hcb e=>ck.ne _ (by rw [e];exact hcb)),upd_miss _ _ _ _ (by omega),upd_miss _ _ _ _ (by omega)];exact hb0
    have hX3:H3 (nx1+1)=some (.cells [.ptr nx1 0]):=by
     rw [hfr (nx1+1) (by omega) (fun b' hcb e=>by have:=hlow b' _ hcb;omega),upd_miss _ _ _ _ (by omega),upd_miss _ _ _ _ (by omega)];exact hX
    have hY3:H3 (nx+1)=some (.cells [.str m.name,.bool true,.lst (m.params.map cvF),.str m.result,.lst (m.body.map cvS)]):=by
     rw [hfr (nx+1) (by omega) (fun b' hcb e=>by have:=hlow b' _ hcb;omega),upd_miss _ _ _ _ (by omega),upd_miss _ _ _ _ (by omega)];exact hY
    repeat (first | ((apply ASlK.stepG);(focus rfl);(focus (simp [*,-Option.some.injEq];rfl));(focus (first | (intro h;exact Bool.noConfusion (show false=true from h)) | (intro hk0 H1 hk1;have hk2:=hk1 _ rfl;clear hk1;simp [*] at hk2;simp [*,-Option.some.injEq];rfl) | (intro hk0 H1 hk1;have hk2:=hk1 _ rfl;simp [*] at hk2;simp [*,-Option.some.injEq];done) | (intro hk0 H1 hk1;have hk2:=hk1 _ rfl;simp [*] at hk2;simp [*,-Option.some.injEq])));(focus (first | (intro _ _;rfl) | (intro b hb;replace hb:b=_:=hb;simp [hb, *];done)))) | ((apply ASlK.stepG);(focus simp [*];done);(focus (simp [*,-Option.some.injEq];rfl));(focus (first | (intro h;exact Bool.noConfusion (show false=true from h)) | (intro hk0 H1 hk1;have hk2:=hk1 _ rfl;clear hk1;simp [*] at hk2;simp [*,-Option.some.injEq];rfl) | (intro hk0 H1 hk1;have hk2:=hk1 _ rfl;simp [*] at hk2;simp [*,-Option.some.injEq];done) | (intro hk0 H1 hk1;have hk2:=hk1 _ rfl;simp [*] at hk2;simp [*,-Option.some.injEq])));(focus (first | (intro _ _;rfl) | (intro b hb;replace hb:b=_:=hb;simp [hb, *];done)))) | ((apply ASlK.pass);(focus simp [*];done)) | ((refine ASlK.nil ?_);(try simp only [Xw,Xx,reduceIte,Nat.reduceEqDiff])))
    repeat (first | (first | (apply Xf;rfl) | apply Xj);focus simp [*,-Option.some.injEq];rfl | (first | (apply Xa;rfl) | apply Xb);(focus simp [*];done);focus simp [*,-Option.some.injEq];rfl | (first | (apply Xg;rfl) | apply Xk);(focus simp [*];done) | (first | refine Xl ?_ | refine Xi ?_ | refine Xh ?_ | refine Xo ?_ | refine Xq ?_);try simp only [Xw,Xx,reduceIte,Nat.reduceEqDiff] | refine Xn ?_ | refine Xp rfl ?_ | refine Xc ?_ | apply Xd;focus simp [*];done | apply Xe;focus simp [*];done | refine Ya rfl rfl ?_)
    refine⟨by ((repeat (first | exact Keeps.base _ _ _ _ | (with_reducible exact Keeps.refl _ _ _) | (refine Keeps.put rfl ?_) | (refine Keeps.over' rfl rfl ?_)))),hlt,(by first | (simp (disch:=omega) [putE,over,ofV,ofS, *];done) | (simp (disch:=omega) [putE,over,ofV,ofS, *];rfl)),sc++[⟨pn,pt⟩],_,a,⟨upd_hit _ _ _,OwnR.isN0 (by rw [upd_miss _ _ _ _ (by omega)];exact hN) (by omega) _ (by simp [hsl]),by omega,(fun k hk=>by cases hk;omega)⟩,by rw [upd_miss _ _ _ _ (by omega)];exact hX3,by rw [upd_miss _ _ _ _ (by omega)];exact hY3,(fun x k hk=>by cases hk;omega),by simp [hsl],hf⟩
   ·have hi':i=m.params.length:=by omega
    subst hi';rw [List.drop_eq_nil_of_le (Nat.le_refl _),parT] at hf;rw [← hf] at hw;simp only at hw;clear hf hb hi h43;have hrun:=tk_run h hc [] m.result nx1 m hnm H2 nx2 c sc a (by omega) ck (nx1+1) (nx+1) hX (by rw [hst'];exact hY) (.ptr nx1 0)
    repeat (first | (first | (apply Xf;rfl) | apply Xj);focus simp [*,-Option.some.injEq];rfl | (first | (apply Xa;rfl) | apply Xb);(focus simp [*];done);focus simp [*,-Option.some.injEq];rfl | (first | (apply Xg;rfl) | apply Xk);(focus simp [*];done) | (first | refine Xl ?_ | refine Xi ?_ | refine Xh ?_ | refine Xo ?_ | refine Xq ?_);try simp only [Xw,Xx,reduceIte,Nat.reduceEqDiff] | refine Xn ?_ | refine Xp rfl ?_ | refine Xc ?_ | apply Xd;focus simp [*];done | apply Xe;focus simp [*];done | refine Ya rfl rfl ?_)
    ((apply AOpl.callG);(focus rfl);(focus (first | rfl | (simp [*];done)));(focus simp [*,-Option.some.injEq];rfl);kernel_rfl)
    refine hrun.mono ?_;rintro r H3 nx3 ⟨rfl,sc',c',a',P3⟩;simp only;clear hrun;have hX3:H3 (nx1+1)=some (.cells [.ptr nx1 0]):=by rw [P3.fr (nx1+1) (by omega) (by omega) (fun k hk=>by have:=hlow _ _ hk;omega)];exact hX
    have hY3:H3 (nx+1)=some (.cells [.str m.name,.bool true,.lst (m.params.map cvF),.str m.result,.lst (m.body.map cvS)]):=by rw [P3.fr (nx+1) (by omega) (by omega) (fun k hk=>by have:=hlow _ _ hk;omega)];exact hY
    have hb3:=P3.ck.blk;clear P3 hX hY hb0 ck hlow q1 q2 q3;cases hbt:blT h [] m.result sc m.body with
    | error x =>
      have hx0:¬ x=0:=fun e=>by subst e;exact blT_ne hbt
      rw [hbt] at hw;simp only at hw;subst hw;have e1:blE (.error x)=x:=rfl;rw [e1];clear e1 hbt hret
      repeat (first | (first | (apply Xf;rfl) | apply Xj);focus simp [*,-Option.some.injEq];rfl | (first | (apply Xa;rfl) | apply Xb);(focus simp [*];done);focus simp [*,-Option.some.injEq];rfl | (first | (apply Xg;rfl) | apply Xk);(focus simp [*];done) | (first | refine Xl ?_ | refine Xi ?_ | refine Xh ?_ | refine Xo ?_ | refine Xq ?_);try simp only [Xw,Xx,reduceIte,Nat.reduceEqDiff] | refine Xn ?_ | refine Xp rfl ?_ | refine Xc ?_ | apply Xd;focus simp [*];done | apply Xe;focus simp [*];done | refine Ya rfl rfl ?_)
      (refine⟨_,(by simp [*];rfl),?_⟩;(try simp only [packA]))
      exact⟨_,rfl⟩
    | ok u =>
      rw [hbt] at hw;simp only at hw;have e1:((blE (.ok u):Nat):Int)=0:=rfl;rw [e1];clear e1 hbt
      by_cases hr:m.result=[]
      ·rw [if_neg (fun h=>h.1 hr)] at hw;rw [← hw];clear hw hret
       repeat (first | (first | (apply Xf;rfl) | apply Xj);focus simp [*,-Option.some.injEq];rfl | (first | (apply Xa;rfl) | apply Xb);(focus simp [*];done);focus simp [*,-Option.some.injEq];rfl | (first | (apply Xg;rfl) | apply Xk);(focus simp [*];done) | (first | refine Xl ?_ | refine Xi ?_ | refine Xh ?_ | refine Xo ?_ | refine Xq ?_);try simp only [Xw,Xx,reduceIte,Nat.reduceEqDiff] | refine Xn ?_ | refine Xp rfl ?_ | refine Xc ?_ | apply Xd;focus simp [*];done | apply Xe;focus simp [*];done | refine Ya rfl rfl ?_)
       (refine⟨_,(by simp [*];rfl),?_⟩;(try simp only [packA]))
       exact⟨_,rfl⟩
      cases hrt:retsT m.body with
      | false =>
        rw [if_pos ⟨hr,hrt⟩] at hw;rw [hrt] at hret;rw [← hw];clear hw hrt
        repeat (first | (first | (apply Xf;rfl) | apply Xj);focus simp [*,-Option.some.injEq];rfl | (first | (apply Xa;rfl) | apply Xb);(focus simp [*];done);focus simp [*,-Option.some.injEq];rfl | (first | (apply Xg;rfl) | apply Xk);(focus simp [*];done) | (first | refine Xl ?_ | refine Xi ?_ | refine Xh ?_ | refine Xo ?_ | refine Xq ?_);try simp only [Xw,Xx,reduceIte,Nat.reduceEqDiff] | refine Xn ?_ | refine Xp rfl ?_ | refine Xc ?_ | apply Xd;focus simp [*];done | apply Xe;focus simp [*];done | refine Ya rfl rfl ?_)
        ((apply Xr);(focus rfl);(focus (first | rfl | (simp [*];done)));(focus simp [*,-Option.some.injEq];rfl);kernel_rfl)
        ·exact hret _
        repeat (first | (first | (apply Xf;rfl) | apply Xj);focus simp [*,-Option.some.injEq];rfl | (first | (apply Xa;rfl) | apply Xb);(focus simp [*];done);focus simp [*,-Option.some.injEq];rfl | (first | (apply Xg;rfl) | apply Xk);(focus simp [*];done) | (first | refine Xl ?_ | refine Xi ?_ | refine Xh ?_ | refine Xo ?_ | refine Xq ?_);try simp only [Xw,Xx,reduceIte,Nat.reduceEqDiff] | refine Xn ?_ | refine Xp rfl ?_ | refine Xc ?_ | apply Xd;focus simp [*];done | apply Xe;focus simp [*];done | refine Ya rfl rfl ?_)
        (refine⟨_,(by simp [*];rfl),?_⟩;(try simp only [packA]))
        exact⟨_,rfl⟩
      | true =>
        rw [if_neg (fun h=>by rw [hrt] at h;cases h.2)] at hw;rw [hrt] at hret;rw [← hw];clear hw hrt
        repeat (first | (first | (apply Xf;rfl) | apply Xj);focus simp [*,-Option.some.injEq];rfl | (first | (apply Xa;rfl) | apply Xb);(focus simp [*];done);focus simp [*,-Option.some.injEq];rfl | (first | (apply Xg;rfl) | apply Xk);(focus simp [*];done) | (first | refine Xl ?_ | refine Xi ?_ | refine Xh ?_ | refine Xo ?_ | refine Xq ?_);try simp only [Xw,Xx,reduceIte,Nat.reduceEqDiff] | refine Xn ?_ | refine Xp rfl ?_ | refine Xc ?_ | apply Xd;focus simp [*];done | apply Xe;focus simp [*];done | refine Ya rfl rfl ?_)
        ((apply Xr);(focus rfl);(focus (first | rfl | (simp [*];done)));(focus simp [*,-Option.some.injEq];rfl);kernel_rfl)
        ·exact hret _
        repeat (first | (first | (apply Xf;rfl) | apply Xj);focus simp [*,-Option.some.injEq];rfl | (first | (apply Xa;rfl) | apply Xb);(focus simp [*];done);focus simp [*,-Option.some.injEq];rfl | (first | (apply Xg;rfl) | apply Xk);(focus simp [*];done) | (first | refine Xl ?_ | refine Xi ?_ | refine Xh ?_ | refine Xo ?_ | refine Xq ?_);try simp only [Xw,Xx,reduceIte,Nat.reduceEqDiff] | refine Xn ?_ | refine Xp rfl ?_ | refine Xc ?_ | apply Xd;focus simp [*];done | apply Xe;focus simp [*];done | refine Ya rfl rfl ?_)
        (refine⟨_,(by simp [*];rfl),?_⟩;(try simp only [packA]))
        exact⟨_,rfl⟩
end
end Go.Proofs.YtoookjadbhdfhaaDoor
