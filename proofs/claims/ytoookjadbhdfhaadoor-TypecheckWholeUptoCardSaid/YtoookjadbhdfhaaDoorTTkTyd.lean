/-
  typed of the law; walked.
-/
import Derived.Test.YtoookjadbhdfhaaDoorTTkEx
set_option linter.unusedSectionVars false
set_option linter.unusedSimpArgs false
set_option linter.unnecessarySimpa false
set_option linter.unusedVariables false
set_option linter.unusedSimpArgs false
set_option linter.unusedVariables false
namespace Go.Proofs.YtoookjadbhdfhaaDoor
open Lx Ax Go.RowKit
attribute [local simp] stepS Ax.stepT Dl.on qstep astep estep rd putE over argE ofV ofS loadA pickCells isAggD faddA fieldA partA iaddA idxA sliA bnd binA intA strA unA convA bltA lenA mapOf findK keyD scalD storeA appA srcA srcD upd drp Dl.hp Dl.nx CV.cs CV.one buildA placesA fillA zrep tasA ifaceD eqA eqFs eqIs range2 copyA nbeq nble nblt decEq beqI bneI beqS bneS isED Int.ofNat_inj List.getElem?_map List.getElem?_eq_getElem Option.map_some ti_int ti_bool ti_str ti_i64 ti_Strs ti_Flds ti_Fld ti_Exs ti_Ex ti_Sts ti_St ti_Errno ti_Cl ti_Cls ti_So gd gdB callA resA op1
attribute [local simp] nu1 nu2 nu3 nu4 nu5 nu6 nu7 nu8 nu9 nu10 nu11 nu12 nu13 upd_upd
theorem scpT_ne {h:List Cd}:∀ {l sc:List Fld},scpT h sc l=.error 0→False
 | [],sc,hk=>by cases hk
 | f::l,sc,hk=>by
   rw [scpT] at hk;split at hk
   ·cases hk
   split at hk
   ·cases hk
   split at hk
   ·cases hk
   exact scpT_ne hk
theorem exprE_ne {l:List Cl}{c:Bytes}{sc:List Fld}{e:Ex}(hk:exprE l c sc e=.error 0):False:=by
 unfold exprE at hk;split at hk
 ·rename_i h0;exact h0 (Except.error.inj hk)
 split at hk
 ·cases hk
 split at hk
 ·rename_i x hx;cases hk;exact scpT_ne hx
 split at hk
 ·cases hk
 exact nz_ex (h:=hiOf l) (c:=c) _ hk
theorem tydT_eq (l:List Cl)(c:Bytes)(sc:List Fld)(s:St):tydT l c sc s=(s.p3.all (fun e=>isOk (exprE l c sc e)) && tydsT l c sc s.p4 && tydsT l c (if s.p0=6 then sc++[⟨s.p1,s.p2⟩] else sc) s.p5):=by cases s;rw [tydT];rfl
theorem tydsT_cons (l:List Cl)(c:Bytes)(sc:List Fld)(s:St)(r:List St):tydsT l c sc (s::r)=(tydT l c sc s && tydsT l c (if s.p0=1 then sc++[⟨s.p1,s.p2⟩] else sc) r):=by cases s;rw [tydsT];rfl
theorem NmS_eq (s:St)(h:NmS s):s.p1.length≤maxLen∧NmSs s.p4∧NmSs s.p5:=by cases s;rw [NmS] at h;exact h
theorem stSz_eq (s:St):stSz s=exsSz s.p3+stsSz s.p4+stsSz s.p5+1:=by cases s;rw [stSz_mk];rfl
set_option maxRecDepth 10000 in
set_option maxHeartbeats 16000000 in
theorem tk_typed1 (l:List Cl)(hL:LN l)(c:Bytes)(sc:List Fld)(sts:List St)(hlen:sc.length+stsSz sts≤lim)(hsn:∀ f∈sc,f.name.length≤maxLen)(hnm:NmSs sts)
  (ih:∀ (sc':List Fld) (m:List St),stsSz m<stsSz sts→sc'.length+stsSz m≤lim→(∀ f∈sc',f.name.length≤maxLen)→NmSs m→FCall1 Tryd.prog tkG 7 [cvSo l,.str c,.lst (sc'.map cvF),.lst (m.map cvS)] (.bool (tydsT l c sc' m))) :
  FCall1 Tryd.prog tkG 7 [cvSo l,.str c,.lst (sc.map cvF),.lst (sts.map cvS)] (.bool (tydsT l c sc sts)):=by
 refine FCall.one tkG_pu (by simp [puL,puV,puSo,puSs,puRm puF]) rfl ?_;refine FCall.ofBody Tryd.func7 rfl rfl fun nx=>?_
 have hsl:sts.length≤lim:=by have:=stsSz_len sts;omega
 obtain⟨w,hw⟩:∃ w,tydsT l c sc sts=w:=⟨_,rfl⟩;rw [hw]
 repeat (first | (first | (apply Xf;rfl) | apply Xj);focus simp [cvSo, *,-Option.some.injEq];rfl | (first | (apply Xa;rfl) | apply Xb);(focus simp [cvSo, *];done);focus simp [cvSo, *,-Option.some.injEq];rfl | (first | (apply Xg;rfl) | apply Xk);(focus simp [cvSo, *];done) | (first | refine Xl ?_ | refine Xi ?_ | refine Xh ?_ | refine Xo ?_ | refine Xq ?_);try simp only [Xw,Xx,reduceIte,Nat.reduceEqDiff] | refine Xn ?_ | refine Xp rfl ?_ | refine Xc ?_ | apply Xd;focus simp [cvSo, *];done | apply Xe;focus simp [cvSo, *];done | refine Ya rfl rfl ?_)
 refine AWp.countO sts.length [2,8,9,10,11,12,13,14] 15 (fun i e H1 nx1=>e 9=.int .i64 i∧H1 nx=some (.cells [.lst (l.map cvC)])∧∃ sc1,e 2=.lst (sc1.map cvF)∧sc1.length+stsSz (sts.drop i)≤lim∧(∀ f∈sc1,f.name.length≤maxLen)∧NmSs (sts.drop i)∧tydsT l c sc1 (sts.drop i)=w) ⟨(by first | (simp (disch:=omega) [putE,over,ofV,ofS, *];done) | (simp (disch:=omega) [putE,over,ofV,ofS, *];rfl)),by simp [upd],sc,(by first | (simp (disch:=omega) [putE,over,ofV,ofS, *];done) | (simp (disch:=omega) [putE,over,ofV,ofS, *];rfl)),by simpa using hlen,hsn,by simpa using hnm,by simpa using hw⟩ ?_;clear hw hlen hsn hnm;rintro i v H1 nx1 hi hn1 ⟨h9,hA,sc1,h2,hlen,hsn,hnm,hf⟩;have q1:=far (show nx<nx1 by omega)
 repeat (first | (first | (apply Xf;rfl) | apply Xj);focus simp [*,-Option.some.injEq];rfl | (first | (apply Xa;rfl) | apply Xb);(focus simp [*];done);focus simp [*,-Option.some.injEq];rfl | (first | (apply Xg;rfl) | apply Xk);(focus simp [*];done) | (first | refine Xl ?_ | refine Xi ?_ | refine Xh ?_ | refine Xo ?_ | refine Xq ?_);try simp only [Xw,Xx,reduceIte,Nat.reduceEqDiff] | refine Xn ?_ | refine Xp rfl ?_ | refine Xc ?_ | apply Xd;focus simp [*];done | apply Xe;focus simp [*];done | refine Ya rfl rfl ?_)
 (((apply AWp.cond');(focus (simp [*,-Ax.CV.bool.injEq];rfl))) <;> (intro hb) <;> (try simp only [decide_eq_true_eq,decide_eq_false_iff_not,Bool.not_eq_true',Bool.not_eq_false',Bool.not_eq_true,Bool.not_eq_false] at hb))
 ·have hlt:i<sts.length:=hb;have hwi:=lim_wrap hlt hsl;clear hb;rw [List.drop_eq_getElem_cons hlt,stsSz] at hlen;rw [List.drop_eq_getElem_cons hlt,NmSs] at hnm;rw [List.drop_eq_getElem_cons hlt,tydsT_cons,tydT_eq] at hf;have hsm:=stsSz_mem (List.getElem_mem hlt);generalize hse:sts[i]=s at *;obtain⟨hn1',hn4,hn5⟩:=NmS_eq s hnm.1;have hsz:=stSz_eq s;have hel:s.p3.length≤lim:=by have:=exsSz_len s.p3;omega
  have hE:=fun e (he:e∈s.p3)=>tk_Expr l hL c sc1 (by omega) hsn e (by have:=exsSz_mem he;omega)
  repeat (first | (first | (apply Xf;rfl) | apply Xj);focus simp [cvS_eq s, *,-Option.some.injEq];rfl | (first | (apply Xa;rfl) | apply Xb);(focus simp [cvS_eq s, *];done);focus simp [cvS_eq s, *,-Option.some.injEq];rfl | (first | (apply Xg;rfl) | apply Xk);(focus simp [cvS_eq s, *];done) | (first | refine Xl ?_ | refine Xi ?_ | refine Xh ?_ | refine Xo ?_ | refine Xq ?_);try simp only [Xw,Xx,reduceIte,Nat.reduceEqDiff] | refine Xn ?_ | refine Xp rfl ?_ | refine Xc ?_ | apply Xd;focus simp [cvS_eq s, *];done | apply Xe;focus simp [cvS_eq s, *];done | refine Ya rfl rfl ?_)
  refine AWp.countO s.p3.length [8,11,12,13] 25 (fun j e H2 nx2=>e 11=.int .i64 j∧H2 nx=some (.cells [.lst (l.map cvC)])∧H2 nx1=some (.cells [.int .i64 s.p0,.str s.p1,.str s.p2,.lst (s.p3.map cvE),.lst (s.p4.map cvS),.lst (s.p5.map cvS)])∧(s.p3.take j).any (fun e=>!isOk (exprE l c sc1 e))=false) ⟨(by first | (simp (disch:=omega) [putE,over,ofV,ofS, *];done) | (simp (disch:=omega) [putE,over,ofV,ofS, *];rfl)),by simp [upd, *],by simp [upd],rfl⟩ ?_;clear hA q1;rintro j v2 H2 nx2 hj hn2 ⟨h11,hA,hC,ha⟩;have q1:=far (show nx<nx2 by omega);have q2:=far (show nx1<nx2 by omega)
  repeat (first | (first | (apply Xf;rfl) | apply Xj);focus simp [*,-Option.some.injEq];rfl | (first | (apply Xa;rfl) | apply Xb);(focus simp [*];done);focus simp [*,-Option.some.injEq];rfl | (first | (apply Xg;rfl) | apply Xk);(focus simp [*];done) | (first | refine Xl ?_ | refine Xi ?_ | refine Xh ?_ | refine Xo ?_ | refine Xq ?_);try simp only [Xw,Xx,reduceIte,Nat.reduceEqDiff] | refine Xn ?_ | refine Xp rfl ?_ | refine Xc ?_ | apply Xd;focus simp [*];done | apply Xe;focus simp [*];done | refine Ya rfl rfl ?_)
  (((apply AWp.cond');(focus (simp [*,-Ax.CV.bool.injEq];rfl))) <;> (intro hb) <;> (try simp only [decide_eq_true_eq,decide_eq_false_iff_not,Bool.not_eq_true',Bool.not_eq_false',Bool.not_eq_true,Bool.not_eq_false] at hb))
  ·have hlj:j<s.p3.length:=hb;have hwj:=lim_wrap hlj hel;clear hb;have hx:=hE s.p3[j] (List.getElem_mem hlj);cases hxe:exprE l c sc1 s.p3[j] with
   | error x =>
     have hx0:¬ x=0:=fun e=>by subst e;exact exprE_ne hxe
     rw [hxe] at hx;have hx':FCall1 Tryd.prog tkG 14 [.agg [.lst (l.map cvC)],.str c,.lst (sc1.map cvF),.agg (cvE s.p3[j])] (.tup [.str [],.int .i64 (x:Int)]):=hx;have hall:s.p3.all (fun e=>isOk (exprE l c sc1 e))=false:=by
      rw [List.all_eq_false];exact⟨_,List.getElem_mem hlj,by rw [hxe];simp [isOk]⟩
     rw [hall] at hf;simp only [Bool.false_and] at hf;rw [← hf];rw [Xy] at hx';clear hf hall ha hx hxe hE ih
     repeat (first | (first | (apply Xf;rfl) | apply Xj);focus simp [Xy s.p3[j], *,-Option.some.injEq];rfl | (first | (apply Xa;rfl) | apply Xb);(focus simp [Xy s.p3[j], *];done);focus simp [Xy s.p3[j], *,-Option.some.injEq];rfl | (first | (apply Xg;rfl) | apply Xk);(focus simp [Xy s.p3[j], *];done) | (first | refine Xl ?_ | refine Xi ?_ | refine Xh ?_ | refine Xo ?_ | refine Xq ?_);try simp only [Xw,Xx,reduceIte,Nat.reduceEqDiff] | refine Xn ?_ | refine Xp rfl ?_ | refine Xc ?_ | apply Xd;focus simp [Xy s.p3[j], *];done | apply Xe;focus simp [Xy s.p3[j], *];done | refine Ya rfl rfl ?_)
     (first | (first | (apply AOpl.callN;rfl) | apply ASl.call);(focus simp [Xy s.p3[j], *,-Option.some.injEq];rfl);kernel_rfl | (first | (apply AOpl.callNG;rfl) | apply ASl.callg);(focus simp [Xy s.p3[j], *];done);(focus simp [Xy s.p3[j], *,-Option.some.injEq];rfl);kernel_rfl)
     ·exact hx'
     repeat (first | (first | (apply Xf;rfl) | apply Xj);focus simp [*,-Option.some.injEq];rfl | (first | (apply Xa;rfl) | apply Xb);(focus simp [*];done);focus simp [*,-Option.some.injEq];rfl | (first | (apply Xg;rfl) | apply Xk);(focus simp [*];done) | (first | refine Xl ?_ | refine Xi ?_ | refine Xh ?_ | refine Xo ?_ | refine Xq ?_);try simp only [Xw,Xx,reduceIte,Nat.reduceEqDiff] | refine Xn ?_ | refine Xp rfl ?_ | refine Xc ?_ | apply Xd;focus simp [*];done | apply Xe;focus simp [*];done | refine Ya rfl rfl ?_)
     (refine⟨_,(by simp [*];rfl),?_⟩;(try simp only [packA]))
   | ok t =>
     rw [hxe] at hx;have hx':FCall1 Tryd.prog tkG 14 [.agg [.lst (l.map cvC)],.str c,.lst (sc1.map cvF),.agg (cvE s.p3[j])] (.tup [.str t,.int .i64 0]):=hx;have ha2:=any_next (p:=fun e=>!isOk (exprE l c sc1 e)) hlj ha (by rw [hxe];rfl);rw [Xy] at hx';clear hf ha hx hxe hE ih
     repeat (first | (first | (apply Xf;rfl) | apply Xj);focus simp [Xy s.p3[j], *,-Option.some.injEq];rfl | (first | (apply Xa;rfl) | apply Xb);(focus simp [Xy s.p3[j], *];done);focus simp [Xy s.p3[j], *,-Option.some.injEq];rfl | (first | (apply Xg;rfl) | apply Xk);(focus simp [Xy s.p3[j], *];done) | (first | refine Xl ?_ | refine Xi ?_ | refine Xh ?_ | refine Xo ?_ | refine Xq ?_);try simp only [Xw,Xx,reduceIte,Nat.reduceEqDiff] | refine Xn ?_ | refine Xp rfl ?_ | refine Xc ?_ | apply Xd;focus simp [Xy s.p3[j], *];done | apply Xe;focus simp [Xy s.p3[j], *];done | refine Ya rfl rfl ?_)
     (first | (first | (apply AOpl.callN;rfl) | apply ASl.call);(focus simp [Xy s.p3[j], *,-Option.some.injEq];rfl);kernel_rfl | (first | (apply AOpl.callNG;rfl) | apply ASl.callg);(focus simp [Xy s.p3[j], *];done);(focus simp [Xy s.p3[j], *,-Option.some.injEq];rfl);kernel_rfl)
     ·exact hx'
     repeat (first | (first | (apply Xf;rfl) | apply Xj);focus simp [*,-Option.some.injEq];rfl | (first | (apply Xa;rfl) | apply Xb);(focus simp [*];done);focus simp [*,-Option.some.injEq];rfl | (first | (apply Xg;rfl) | apply Xk);(focus simp [*];done) | (first | refine Xl ?_ | refine Xi ?_ | refine Xh ?_ | refine Xo ?_ | refine Xq ?_);try simp only [Xw,Xx,reduceIte,Nat.reduceEqDiff] | refine Xn ?_ | refine Xp rfl ?_ | refine Xc ?_ | apply Xd;focus simp [*];done | apply Xe;focus simp [*];done | refine Ya rfl rfl ?_)
     exact⟨by ((repeat (first | exact Keeps.base _ _ _ _ | (with_reducible exact Keeps.refl _ _ _) | (refine Keeps.put rfl ?_) | (refine Keeps.over' rfl rfl ?_)))),hlj,(by first | (simp (disch:=omega) [putE,over,ofV,ofS, *];done) | (simp (disch:=omega) [putE,over,ofV,ofS, *];rfl)),by simp [upd, *],by simp [upd, *],ha2⟩
  have hj':j=s.p3.length:=by omega
  rw [hj',List.take_length] at ha;have hall:s.p3.all (fun e=>isOk (exprE l c sc1 e))=true:=by
   rw [List.all_eq_true];intro e he;have:=List.any_eq_false.mp ha e he;simpa using this
  rw [hall,Bool.true_and] at hf;clear hall ha hb hj hj' h11 hE
  by_cases k6:s.p0=6
  ·have k1:¬ s.p0=1:=by omega
   rw [if_pos k6,if_neg k1] at hf
   repeat (first | (first | (apply Xf;rfl) | apply Xj);focus simp [*,-Option.some.injEq];rfl | (first | (apply Xa;rfl) | apply Xb);(focus simp [*];done);focus simp [*,-Option.some.injEq];rfl | (first | (apply Xg;rfl) | apply Xk);(focus simp [*];done) | (first | refine Xl ?_ | refine Xi ?_ | refine Xh ?_ | refine Xo ?_ | refine Xq ?_);try simp only [Xw,Xx,reduceIte,Nat.reduceEqDiff] | refine Xn ?_ | refine Xp rfl ?_ | refine Xc ?_ | apply Xd;focus simp [*];done | apply Xe;focus simp [*];done)
   refine AWp.regTB [4,6] (fun b=>b=nx1) (by kernel_rfl) (by kernel_rfl) rfl rfl (fun b hb=>by subst hb;omega) ?_
   repeat (first | ((apply ASlK.stepG);(focus rfl);(focus (simp [*,-Option.some.injEq];rfl));(focus (first | (intro h;exact Bool.noConfusion (show false=true from h)) | (intro hk0 H1 hk1;have hk2:=hk1 _ rfl;clear hk1;simp [*] at hk2;simp [*,-Option.some.injEq];rfl) | (intro hk0 H1 hk1;have hk2:=hk1 _ rfl;simp [*] at hk2;simp [*,-Option.some.injEq];done) | (intro hk0 H1 hk1;have hk2:=hk1 _ rfl;simp [*] at hk2;simp [*,-Option.some.injEq])));(focus (first | (intro _ _;rfl) | (intro b hb;replace hb:b=_:=hb;simp [hb, *];done)))) | ((apply ASlK.stepG);(focus simp [*];done);(focus (simp [*,-Option.some.injEq];rfl));(focus (first | (intro h;exact Bool.noConfusion (show false=true from h)) | (intro hk0 H1 hk1;have hk2:=hk1 _ rfl;clear hk1;simp [*] at hk2;simp [*,-Option.some.injEq];rfl) | (intro hk0 H1 hk1;have hk2:=hk1 _ rfl;simp [*] at hk2;simp [*,-Option.some.injEq];done) | (intro hk0 H1 hk1;have hk2:=hk1 _ rfl;simp [*] at hk2;simp [*,-Option.some.injEq])));(focus (first | (intro _ _;rfl) | (intro b hb;replace hb:b=_:=hb;simp [hb, *];done)))) | ((apply ASlK.pass);(focus simp [*];done)) | ((refine ASlK.nil ?_);(try simp only [Xw,Xx,reduceIte,Nat.reduceEqDiff])))
   refine ASlK.appL0 (x:=nx2) cvF_len cvF_one ti_Flds ti_Fld sc1 (by simp [upd]) (by simp only [lim] at hlen;omega) (fun b hb=>by
    have hb':b=nx1:=hb;subst hb';exact⟨by omega,by omega⟩) ?_
   intro H3 hN hfr;have hC3:H3 nx1=some (.cells [.int .i64 s.p0,.str s.p1,.str s.p2,.lst (s.p3.map cvE),.lst (s.p4.map cvS),.lst (s.p5.map cvS)]):=by rw [hfr nx1 (by omega) (by omega),upd_miss _ _ _ _ (by omega)];exact hC
   repeat (first | ((apply ASlK.stepG);(focus rfl);(focus (simp [*,-Option.some.injEq];rfl));(focus (first | (intro h;exact Bool.noConfusion (show false=true from h)) | (intro hk0 H1 hk1;have hk2:=hk1 _ rfl;clear hk1;simp [*] at hk2;simp [*,-Option.some.injEq];rfl) | (intro hk0 H1 hk1;have hk2:=hk1 _ rfl;simp [*] at hk2;simp [*,-Option.some.injEq];done) | (intro hk0 H1 hk1;have hk2:=hk1 _ rfl;simp [*] at hk2;simp [*,-Option.some.injEq])));(focus (first | (intro _ _;rfl) | (intro b hb;replace hb:b=_:=hb;simp [hb, *];done)))) | ((apply ASlK.stepG);(focus simp [*];done);(focus (simp [*,-Option.some.injEq];rfl));(focus (first | (intro h;exact Bool.noConfusion (show false=true from h)) | (intro hk0 H1 hk1;have hk2:=hk1 _ rfl;clear hk1;simp [*] at hk2;simp [*,-Option.some.injEq];rfl) | (intro hk0 H1 hk1;have hk2:=hk1 _ rfl;simp [*] at hk2;simp [*,-Option.some.injEq];done) | (intro hk0 H1 hk1;have hk2:=hk1 _ rfl;simp [*] at hk2;simp [*,-Option.some.injEq])));(focus (first | (intro _ _;rfl) | (intro b hb;replace hb:b=_:=hb;simp [hb, *];done)))) | ((apply ASlK.pass);(focus simp [*];done)) | ((refine ASlK.nil ?_);(try simp only [Xw,Xx,reduceIte,Nat.reduceEqDiff])))
   refine ASlK.appQ (c:=.sl (nx2+11) 0 sc1.length 2) (x:=nx2+8) cvF_len cvF_one ti_Flds ti_Fld (⟨s.p1,s.p2⟩:Fld) (OwnR.isN0 (l:=sc1) (by rw [upd_miss _ _ _ _ (by omega)];exact hN) (by omega) _ rfl) (by simp only [lim] at hlen;omega) (fun b hb=>by
    have hb':b=nx1:=hb;subst hb';exact⟨by omega,fun b' hcb e=>by cases hcb;omega⟩) ?_ (hxb:=by simp [upd,cvF])
   intro H4 hN4 hfr4;have low:∀ b,b<nx2→H4 b=H2 b:=fun b hb=>by
    rw [hfr4 b (by omega) (fun b' hcb e=>by cases hcb;omega),upd_miss _ _ _ _ (by omega),hfr b (by omega) (by omega)]
    first | rfl | exact upd_miss _ _ _ _ (by omega)
   repeat (first | ((apply ASlK.stepG);(focus rfl);(focus (simp [*,-Option.some.injEq];rfl));(focus (first | (intro h;exact Bool.noConfusion (show false=true from h)) | (intro hk0 H1 hk1;have hk2:=hk1 _ rfl;clear hk1;simp [*] at hk2;simp [*,-Option.some.injEq];rfl) | (intro hk0 H1 hk1;have hk2:=hk1 _ rfl;simp [*] at hk2;simp [*,-Option.some.injEq];done) | (intro hk0 H1 hk1;have hk2:=hk1 _ rfl;simp [*] at hk2;simp [*,-Option.some.injEq])));(focus (first | (intro _ _;rfl) | (intro b hb;replace hb:b=_:=hb;simp [hb, *];done)))) | ((apply ASlK.stepG);(focus simp [*];done);(focus (simp [*,-Option.some.injEq];rfl));(focus (first | (intro h;exact Bool.noConfusion (show false=true from h)) | (intro hk0 H1 hk1;have hk2:=hk1 _ rfl;clear hk1;simp [*] at hk2;simp [*,-Option.some.injEq];rfl) | (intro hk0 H1 hk1;have hk2:=hk1 _ rfl;simp [*] at hk2;simp [*,-Option.some.injEq];done) | (intro hk0 H1 hk1;have hk2:=hk1 _ rfl;simp [*] at hk2;simp [*,-Option.some.injEq])));(focus (first | (intro _ _;rfl) | (intro b hb;replace hb:b=_:=hb;simp [hb, *];done)))) | ((apply ASlK.pass);(focus simp [*];done)) | ((refine ASlK.nil ?_);(try simp only [Xw,Xx,reduceIte,Nat.reduceEqDiff])))
   refine AWp.frzO (m:=sc1.length+1) (N:=nx2+12) cvF_len 14 (sc1++[⟨s.p1,s.p2⟩]) (by first | (simp (disch:=omega) [putE,over,ofV,ofS, *];done) | (simp (disch:=omega) [putE,over,ofV,ofS, *];rfl)) hN4 (by simp) ?_;intro H5 hfr5;generalize hsc2:sc1++[(⟨s.p1,s.p2⟩:Fld)]=sc2 at *;have hs2l:sc2.length=sc1.length+1:=by rw [← hsc2];simp
   have hs2n:∀ f∈sc2,f.name.length≤maxLen:=fun f hf=>by
    rw [← hsc2] at hf;rcases List.mem_append.mp hf with h | h
    ·exact hsn f h
    ·simp only [List.mem_singleton] at h;subst h;exact hn1'
   have hA5:H5 nx=some (.cells [.lst (l.map cvC)]):=by rw [hfr5 nx (by omega),low nx (by omega)];exact hA
   have hC5:H5 nx1=some (.cells [.int .i64 s.p0,.str s.p1,.str s.p2,.lst (s.p3.map cvE),.lst (s.p4.map cvS),.lst (s.p5.map cvS)]):=by rw [hfr5 nx1 (by omega),low nx1 (by omega)];exact hC
   clear low hfr5 hfr4 hfr hN hN4 hC3 hA hC;have hb1:=ih sc1 s.p4 (by omega) (by omega) hsn hn4;have hb2:=ih sc2 s.p5 (by omega) (by omega) hs2n hn5;cases r1:tydsT l c sc1 s.p4 with
   | false =>
     rw [r1] at hb1 hf;simp only [Bool.false_and] at hf;rw [← hf];clear hf r1 hb2 ih
     repeat (first | (first | (apply Xf;rfl) | apply Xj);focus simp [*,-Option.some.injEq];rfl | (first | (apply Xa;rfl) | apply Xb);(focus simp [*];done);focus simp [*,-Option.some.injEq];rfl | (first | (apply Xg;rfl) | apply Xk);(focus simp [*];done) | (first | refine Xl ?_ | refine Xi ?_ | refine Xh ?_ | refine Xo ?_ | refine Xq ?_);try simp only [Xw,Xx,reduceIte,Nat.reduceEqDiff] | refine Xn ?_ | refine Xp rfl ?_ | refine Xc ?_ | apply Xd;focus simp [*];done | apply Xe;focus simp [*];done | refine Ya rfl rfl ?_)
     ((apply Xr);(focus rfl);(focus (first | rfl | (simp [cvSo, *];done)));(focus simp [cvSo, *,-Option.some.injEq];rfl);kernel_rfl)
     ·exact hb1 _
     repeat (first | (first | (apply Xf;rfl) | apply Xj);focus simp [*,-Option.some.injEq];rfl | (first | (apply Xa;rfl) | apply Xb);(focus simp [*];done);focus simp [*,-Option.some.injEq];rfl | (first | (apply Xg;rfl) | apply Xk);(focus simp [*];done) | (first | refine Xl ?_ | refine Xi ?_ | refine Xh ?_ | refine Xo ?_ | refine Xq ?_);try simp only [Xw,Xx,reduceIte,Nat.reduceEqDiff] | refine Xn ?_ | refine Xp rfl ?_ | refine Xc ?_ | apply Xd;focus simp [*];done | apply Xe;focus simp [*];done | refine Ya rfl rfl ?_)
     (refine⟨_,(by simp [*];rfl),?_⟩;(try simp only [packA]))
   | true =>
   rw [r1] at hb1 hf;rw [Bool.true_and] at hf;clear r1;cases r2:tydsT l c sc2 s.p5 with
   | false =>
     rw [r2] at hb2 hf;simp only [Bool.false_and] at hf;rw [← hf];clear hf r2 ih
     repeat (first | (first | (apply Xf;rfl) | apply Xj);focus simp [*,-Option.some.injEq];rfl | (first | (apply Xa;rfl) | apply Xb);(focus simp [*];done);focus simp [*,-Option.some.injEq];rfl | (first | (apply Xg;rfl) | apply Xk);(focus simp [*];done) | (first | refine Xl ?_ | refine Xi ?_ | refine Xh ?_ | refine Xo ?_ | refine Xq ?_);try simp only [Xw,Xx,reduceIte,Nat.reduceEqDiff] | refine Xn ?_ | refine Xp rfl ?_ | refine Xc ?_ | apply Xd;focus simp [*];done | apply Xe;focus simp [*];done | refine Ya rfl rfl ?_)
     ((apply Xr);(focus rfl);(focus (first | rfl | (simp [cvSo, *];done)));(focus simp [cvSo, *,-Option.some.injEq];rfl);kernel_rfl)
     ·exact hb1 _
     repeat (first | (first | (apply Xf;rfl) | apply Xj);focus simp [*,-Option.some.injEq];rfl | (first | (apply Xa;rfl) | apply Xb);(focus simp [*];done);focus simp [*,-Option.some.injEq];rfl | (first | (apply Xg;rfl) | apply Xk);(focus simp [*];done) | (first | refine Xl ?_ | refine Xi ?_ | refine Xh ?_ | refine Xo ?_ | refine Xq ?_);try simp only [Xw,Xx,reduceIte,Nat.reduceEqDiff] | refine Xn ?_ | refine Xp rfl ?_ | refine Xc ?_ | apply Xd;focus simp [*];done | apply Xe;focus simp [*];done | refine Ya rfl rfl ?_)
     ((apply Xr);(focus rfl);(focus (first | rfl | (simp [cvSo, *];done)));(focus simp [cvSo, *,-Option.some.injEq];rfl);kernel_rfl)
     ·exact hb2 _
     repeat (first | (first | (apply Xf;rfl) | apply Xj);focus simp [*,-Option.some.injEq];rfl | (first | (apply Xa;rfl) | apply Xb);(focus simp [*];done);focus simp [*,-Option.some.injEq];rfl | (first | (apply Xg;rfl) | apply Xk);(focus simp [*];done) | (first | refine Xl ?_ | refine Xi ?_ | refine Xh ?_ | refine Xo ?_ | refine Xq ?_);try simp only [Xw,Xx,reduceIte,Nat.reduceEqDiff] | refine Xn ?_ | refine Xp rfl ?_ | refine Xc ?_ | apply Xd;focus simp [*];done | apply Xe;focus simp [*];done | refine Ya rfl rfl ?_)
     (refine⟨_,(by simp [*];rfl),?_⟩;(try simp only [packA]))
   | true =>
   rw [r2] at hb2 hf;rw [Bool.true_and] at hf;clear r2 ih
   repeat (first | (first | (apply Xf;rfl) | apply Xj);focus simp [*,-Option.some.injEq];rfl | (first | (apply Xa;rfl) | apply Xb);(focus simp [*];done);focus simp [*,-Option.some.injEq];rfl | (first | (apply Xg;rfl) | apply Xk);(focus simp [*];done) | (first | refine Xl ?_ | refine Xi ?_ | refine Xh ?_ | refine Xo ?_ | refine Xq ?_);try simp only [Xw,Xx,reduceIte,Nat.reduceEqDiff] | refine Xn ?_ | refine Xp rfl ?_ | refine Xc ?_ | apply Xd;focus simp [*];done | apply Xe;focus simp [*];done | refine Ya rfl rfl ?_)
   ((apply Xr);(focus rfl);(focus (first | rfl | (simp [cvSo, *];done)));(focus simp [cvSo, *,-Option.some.injEq];rfl);kernel_rfl)
   ·exact hb1 _
   repeat (first | (first | (apply Xf;rfl) | apply Xj);focus simp [*,-Option.some.injEq];rfl | (first | (apply Xa;rfl) | apply Xb);(focus simp [*];done);focus simp [*,-Option.some.injEq];rfl | (first | (apply Xg;rfl) | apply Xk);(focus simp [*];done) | (first | refine Xl ?_ | refine Xi ?_ | refine Xh ?_ | refine Xo ?_ | refine Xq ?_);try simp only [Xw,Xx,reduceIte,Nat.reduceEqDiff] | refine Xn ?_ | refine Xp rfl ?_ | refine Xc ?_ | apply Xd;focus simp [*];done | apply Xe;focus simp [*];done | refine Ya rfl rfl ?_)
   ((apply Xr);(focus rfl);(focus (first | rfl | (simp [cvSo, *];done)));(focus simp [cvSo, *,-Option.some.injEq];rfl);kernel_rfl)
   ·exact hb2 _
   clear hb1 hb2
   repeat (first | (first | (apply Xf;rfl) | apply Xj);focus simp [*,-Option.some.injEq];rfl | (first | (apply Xa;rfl) | apply Xb);(focus simp [*];done);focus simp [*,-Option.some.injEq];rfl | (first | (apply Xg;rfl) | apply Xk);(focus simp [*];done) | (first | refine Xl ?_ | refine Xi ?_ | refine Xh ?_ | refine Xo ?_ | refine Xq ?_);try simp only [Xw,Xx,reduceIte,Nat.reduceEqDiff] | refine Xn ?_ | refine Xp rfl ?_ | refine Xc ?_ | apply Xd;focus simp [*];done | apply Xe;focus simp [*];done | refine Ya rfl rfl ?_)
   exact⟨by ((repeat (first | exact Keeps.base _ _ _ _ | (with_reducible exact Keeps.refl _ _ _) | (refine Keeps.put rfl ?_) | (refine Keeps.over' rfl rfl ?_)))),hlt,(by first | (simp (disch:=omega) [putE,over,ofV,ofS, *];done) | (simp (disch:=omega) [putE,over,ofV,ofS, *];rfl)),by simp [upd, *],sc1,(by first | (simp (disch:=omega) [putE,over,ofV,ofS, *];done) | (simp (disch:=omega) [putE,over,ofV,ofS, *];rfl)),by omega,hsn,hnm.2,hf⟩
  rw [if_neg k6] at hf
  by_cases k1:s.p0=1
  ·rw [if_pos k1] at hf;have hb1:=ih sc1 s.p4 (by omega) (by omega) hsn hn4;have hb2:=ih sc1 s.p5 (by omega) (by omega) hsn hn5;cases r1:tydsT l c sc1 s.p4 with
   | false =>
     rw [r1] at hb1 hf;simp only [Bool.false_and] at hf;rw [← hf];clear hf r1 hb2 ih
     repeat (first | (first | (apply Xf;rfl) | apply Xj);focus simp [*,-Option.some.injEq];rfl | (first | (apply Xa;rfl) | apply Xb);(focus simp [*];done);focus simp [*,-Option.some.injEq];rfl | (first | (apply Xg;rfl) | apply Xk);(focus simp [*];done) | (first | refine Xl ?_ | refine Xi ?_ | refine Xh ?_ | refine Xo ?_ | refine Xq ?_);try simp only [Xw,Xx,reduceIte,Nat.reduceEqDiff] | refine Xn ?_ | refine Xp rfl ?_ | refine Xc ?_ | apply Xd;focus simp [*];done | apply Xe;focus simp [*];done | refine Ya rfl rfl ?_)
     ((apply Xr);(focus rfl);(focus (first | rfl | (simp [cvSo, *];done)));(focus simp [cvSo, *,-Option.some.injEq];rfl);kernel_rfl)
     ·exact hb1 _
     repeat (first | (first | (apply Xf;rfl) | apply Xj);focus simp [*,-Option.some.injEq];rfl | (first | (apply Xa;rfl) | apply Xb);(focus simp [*];done);focus simp [*,-Option.some.injEq];rfl | (first | (apply Xg;rfl) | apply Xk);(focus simp [*];done) | (first | refine Xl ?_ | refine Xi ?_ | refine Xh ?_ | refine Xo ?_ | refine Xq ?_);try simp only [Xw,Xx,reduceIte,Nat.reduceEqDiff] | refine Xn ?_ | refine Xp rfl ?_ | refine Xc ?_ | apply Xd;focus simp [*];done | apply Xe;focus simp [*];done | refine Ya rfl rfl ?_)
     (refine⟨_,(by simp [*];rfl),?_⟩;(try simp only [packA]))
   | true =>
   rw [r1] at hb1 hf;rw [Bool.true_and] at hf;clear r1;cases r2:tydsT l c sc1 s.p5 with
   | false =>
     rw [r2] at hb2 hf;simp only [Bool.false_and] at hf;rw [← hf];clear hf r2 ih
     repeat (first | (first | (apply Xf;rfl) | apply Xj);focus simp [*,-Option.some.injEq];rfl | (first | (apply Xa;rfl) | apply Xb);(focus simp [*];done);focus simp [*,-Option.some.injEq];rfl | (first | (apply Xg;rfl) | apply Xk);(focus simp [*];done) | (first | refine Xl ?_ | refine Xi ?_ | refine Xh ?_ | refine Xo ?_ | refine Xq ?_);try simp only [Xw,Xx,reduceIte,Nat.reduceEqDiff] | refine Xn ?_ | refine Xp rfl ?_ | refine Xc ?_ | apply Xd;focus simp [*];done | apply Xe;focus simp [*];done | refine Ya rfl rfl ?_)
     ((apply Xr);(focus rfl);(focus (first | rfl | (simp [cvSo, *];done)));(focus simp [cvSo, *,-Option.some.injEq];rfl);kernel_rfl)
     ·exact hb1 _
     repeat (first | (first | (apply Xf;rfl) | apply Xj);focus simp [*,-Option.some.injEq];rfl | (first | (apply Xa;rfl) | apply Xb);(focus simp [*];done);focus simp [*,-Option.some.injEq];rfl | (first | (apply Xg;rfl) | apply Xk);(focus simp [*];done) | (first | refine Xl ?_ | refine Xi ?_ | refine Xh ?_ | refine Xo ?_ | refine Xq ?_);try simp only [Xw,Xx,reduceIte,Nat.reduceEqDiff] | refine Xn ?_ | refine Xp rfl ?_ | refine Xc ?_ | apply Xd;focus simp [*];done | apply Xe;focus simp [*];done | refine Ya rfl rfl ?_)
     ((apply Xr);(focus rfl);(focus (first | rfl | (simp [cvSo, *];done)));(focus simp [cvSo, *,-Option.some.injEq];rfl);kernel_rfl)
     ·exact hb2 _
     repeat (first | (first | (apply Xf;rfl) | apply Xj);focus simp [*,-Option.some.injEq];rfl | (first | (apply Xa;rfl) | apply Xb);(focus simp [*];done);focus simp [*,-Option.some.injEq];rfl | (first | (apply Xg;rfl) | apply Xk);(focus simp [*];done) | (first | refine Xl ?_ | refine Xi ?_ | refine Xh ?_ | refine Xo ?_ | refine Xq ?_);try simp only [Xw,Xx,reduceIte,Nat.reduceEqDiff] | refine Xn ?_ | refine Xp rfl ?_ | refine Xc ?_ | apply Xd;focus simp [*];done | apply Xe;focus simp [*];done | refine Ya rfl rfl ?_)
     (refine⟨_,(by simp [*];rfl),?_⟩;(try simp only [packA]))
   | true =>
   rw [r2] at hb2 hf;rw [Bool.true_and] at hf;clear r2 ih
   repeat (first | (first | (apply Xf;rfl) | apply Xj);focus simp [*,-Option.some.injEq];rfl | (first | (apply Xa;rfl) | apply Xb);(focus simp [*];done);focus simp [*,-Option.some.injEq];rfl | (first | (apply Xg;rfl) | apply Xk);(focus simp [*];done) | (first | refine Xl ?_ | refine Xi ?_ | refine Xh ?_ | refine Xo ?_ | refine Xq ?_);try simp only [Xw,Xx,reduceIte,Nat.reduceEqDiff] | refine Xn ?_ | refine Xp rfl ?_ | refine Xc ?_ | apply Xd;focus simp [*];done | apply Xe;focus simp [*];done | refine Ya rfl rfl ?_)
   ((apply Xr);(focus rfl);(focus (first | rfl | (simp [cvSo, *];done)));(focus simp [cvSo, *,-Option.some.injEq];rfl);kernel_rfl)
   ·exact hb1 _
   repeat (first | (first | (apply Xf;rfl) | apply Xj);focus simp [*,-Option.some.injEq];rfl | (first | (apply Xa;rfl) | apply Xb);(focus simp [*];done);focus simp [*,-Option.some.injEq];rfl | (first | (apply Xg;rfl) | apply Xk);(focus simp [*];done) | (first | refine Xl ?_ | refine Xi ?_ | refine Xh ?_ | refine Xo ?_ | refine Xq ?_);try simp only [Xw,Xx,reduceIte,Nat.reduceEqDiff] | refine Xn ?_ | refine Xp rfl ?_ | refine Xc ?_ | apply Xd;focus simp [*];done | apply Xe;focus simp [*];done | refine Ya rfl rfl ?_)
   ((apply Xr);(focus rfl);(focus (first | rfl | (simp [cvSo, *];done)));(focus simp [cvSo, *,-Option.some.injEq];rfl);kernel_rfl)
   ·exact hb2 _
   clear hb1 hb2
   repeat (first | (first | (apply Xf;rfl) | apply Xj);focus simp [*,-Option.some.injEq];rfl | (first | (apply Xa;rfl) | apply Xb);(focus simp [*];done);focus simp [*,-Option.some.injEq];rfl | (first | (apply Xg;rfl) | apply Xk);(focus simp [*];done) | (first | refine Xl ?_ | refine Xi ?_ | refine Xh ?_ | refine Xo ?_ | refine Xq ?_);try simp only [Xw,Xx,reduceIte,Nat.reduceEqDiff] | refine Xn ?_ | refine Xp rfl ?_ | refine Xc ?_ | apply Xd;focus simp [*];done | apply Xe;focus simp [*];done)
   refine AWp.regTB [4,6] (fun b=>b=nx1) (by kernel_rfl) (by kernel_rfl) rfl rfl (fun b hb=>by subst hb;omega) ?_
   repeat (first | ((apply ASlK.stepG);(focus rfl);(focus (simp [*,-Option.some.injEq];rfl));(focus (first | (intro h;exact Bool.noConfusion (show false=true from h)) | (intro hk0 H1 hk1;have hk2:=hk1 _ rfl;clear hk1;simp [*] at hk2;simp [*,-Option.some.injEq];rfl) | (intro hk0 H1 hk1;have hk2:=hk1 _ rfl;simp [*] at hk2;simp [*,-Option.some.injEq];done) | (intro hk0 H1 hk1;have hk2:=hk1 _ rfl;simp [*] at hk2;simp [*,-Option.some.injEq])));(focus (first | (intro _ _;rfl) | (intro b hb;replace hb:b=_:=hb;simp [hb, *];done)))) | ((apply ASlK.stepG);(focus simp [*];done);(focus (simp [*,-Option.some.injEq];rfl));(focus (first | (intro h;exact Bool.noConfusion (show false=true from h)) | (intro hk0 H1 hk1;have hk2:=hk1 _ rfl;clear hk1;simp [*] at hk2;simp [*,-Option.some.injEq];rfl) | (intro hk0 H1 hk1;have hk2:=hk1 _ rfl;simp [*] at hk2;simp [*,-Option.some.injEq];done) | (intro hk0 H1 hk1;have hk2:=hk1 _ rfl;simp [*] at hk2;simp [*,-Option.some.injEq])));(focus (first | (intro _ _;rfl) | (intro b hb;replace hb:b=_:=hb;simp [hb, *];done)))) | ((apply ASlK.pass);(focus simp [*];done)) | ((refine ASlK.nil ?_);(try simp only [Xw,Xx,reduceIte,Nat.reduceEqDiff])))
   refine ASlK.appL0 (x:=nx2) cvF_len cvF_one ti_Flds ti_Fld sc1 (by simp [upd]) (by simp only [lim] at hlen;omega) (fun b hb=>by
    have hb':b=nx1:=hb;subst hb';exact⟨by omega,by omega⟩) ?_
   intro H3 hN hfr;have hC3:H3 nx1=some (.cells [.int .i64 s.p0,.str s.p1,.str s.p2,.lst (s.p3.map cvE),.lst (s.p4.map cvS),.lst (s.p5.map cvS)]):=by rw [hfr nx1 (by omega) (by omega),upd_miss _ _ _ _ (by omega)];exact hC
   repeat (first | ((apply ASlK.stepG);(focus rfl);(focus (simp [*,-Option.some.injEq];rfl));(focus (first | (intro h;exact Bool.noConfusion (show false=true from h)) | (intro hk0 H1 hk1;have hk2:=hk1 _ rfl;clear hk1;simp [*] at hk2;simp [*,-Option.some.injEq];rfl) | (intro hk0 H1 hk1;have hk2:=hk1 _ rfl;simp [*] at hk2;simp [*,-Option.some.injEq];done) | (intro hk0 H1 hk1;have hk2:=hk1 _ rfl;simp [*] at hk2;simp [*,-Option.some.injEq])));(focus (first | (intro _ _;rfl) | (intro b hb;replace hb:b=_:=hb;simp [hb, *];done)))) | ((apply ASlK.stepG);(focus simp [*];done);(focus (simp [*,-Option.some.injEq];rfl));(focus (first | (intro h;exact Bool.noConfusion (show false=true from h)) | (intro hk0 H1 hk1;have hk2:=hk1 _ rfl;clear hk1;simp [*] at hk2;simp [*,-Option.some.injEq];rfl) | (intro hk0 H1 hk1;have hk2:=hk1 _ rfl;simp [*] at hk2;simp [*,-Option.some.injEq];done) | (intro hk0 H1 hk1;have hk2:=hk1 _ rfl;simp [*] at hk2;simp [*,-Option.some.injEq])));(focus (first | (intro _ _;rfl) | (intro b hb;replace hb:b=_:=hb;simp [hb, *];done)))) | ((apply ASlK.pass);(focus simp [*];done)) | ((refine ASlK.nil ?_);(try simp only [Xw,Xx,reduceIte,Nat.reduceEqDiff])))
   refine ASlK.appQ (c:=.sl (nx2+11) 0 sc1.length 2) (x:=nx2+8) cvF_len cvF_one ti_Flds ti_Fld (⟨s.p1,s.p2⟩:Fld) (OwnR.isN0 (l:=sc1) (by rw [upd_miss _ _ _ _ (by omega)];exact hN) (by omega) _ rfl) (by simp only [lim] at hlen;omega) (fun b hb=>by
    have hb':b=nx1:=hb;subst hb';exact⟨by omega,fun b' hcb e=>by cases hcb;omega⟩) ?_ (hxb:=by simp [upd,cvF])
   intro H4 hN4 hfr4;have low:∀ b,b<nx2→H4 b=H2 b:=fun b hb=>by
    rw [hfr4 b (by omega) (fun b' hcb e=>by cases hcb;omega),upd_miss _ _ _ _ (by omega),hfr b (by omega) (by omega)]
    first | rfl | exact upd_miss _ _ _ _ (by omega)
   repeat (first | ((apply ASlK.stepG);(focus rfl);(focus (simp [*,-Option.some.injEq];rfl));(focus (first | (intro h;exact Bool.noConfusion (show false=true from h)) | (intro hk0 H1 hk1;have hk2:=hk1 _ rfl;clear hk1;simp [*] at hk2;simp [*,-Option.some.injEq];rfl) | (intro hk0 H1 hk1;have hk2:=hk1 _ rfl;simp [*] at hk2;simp [*,-Option.some.injEq];done) | (intro hk0 H1 hk1;have hk2:=hk1 _ rfl;simp [*] at hk2;simp [*,-Option.some.injEq])));(focus (first | (intro _ _;rfl) | (intro b hb;replace hb:b=_:=hb;simp [hb, *];done)))) | ((apply ASlK.stepG);(focus simp [*];done);(focus (simp [*,-Option.some.injEq];rfl));(focus (first | (intro h;exact Bool.noConfusion (show false=true from h)) | (intro hk0 H1 hk1;have hk2:=hk1 _ rfl;clear hk1;simp [*] at hk2;simp [*,-Option.some.injEq];rfl) | (intro hk0 H1 hk1;have hk2:=hk1 _ rfl;simp [*] at hk2;simp [*,-Option.some.injEq];done) | (intro hk0 H1 hk1;have hk2:=hk1 _ rfl;simp [*] at hk2;simp [*,-Option.some.injEq])));(focus (first | (intro _ _;rfl) | (intro b hb;replace hb:b=_:=hb;simp [hb, *];done)))) | ((apply ASlK.pass);(focus simp [*];done)) | ((refine ASlK.nil ?_);(try simp only [Xw,Xx,reduceIte,Nat.reduceEqDiff])))
   refine AWp.frzO (m:=sc1.length+1) (N:=nx2+12) cvF_len 2 (sc1++[⟨s.p1,s.p2⟩]) (by first | (simp (disch:=omega) [putE,over,ofV,ofS, *];done) | (simp (disch:=omega) [putE,over,ofV,ofS, *];rfl)) hN4 (by simp) ?_;intro H5 hfr5;generalize hsc2:sc1++[(⟨s.p1,s.p2⟩:Fld)]=sc2 at *;have hs2l:sc2.length=sc1.length+1:=by rw [← hsc2];simp
   have hs2n:∀ f∈sc2,f.name.length≤maxLen:=fun f hf=>by
    rw [← hsc2] at hf;rcases List.mem_append.mp hf with h | h
    ·exact hsn f h
    ·simp only [List.mem_singleton] at h;subst h;exact hn1'
   have hA5:H5 nx=some (.cells [.lst (l.map cvC)]):=by rw [hfr5 nx (by omega),low nx (by omega)];exact hA
   clear low hfr5 hfr4 hfr hN hN4 hC3 hA hC
   repeat (first | (first | (apply Xf;rfl) | apply Xj);focus simp [*,-Option.some.injEq];rfl | (first | (apply Xa;rfl) | apply Xb);(focus simp [*];done);focus simp [*,-Option.some.injEq];rfl | (first | (apply Xg;rfl) | apply Xk);(focus simp [*];done) | (first | refine Xl ?_ | refine Xi ?_ | refine Xh ?_ | refine Xo ?_ | refine Xq ?_);try simp only [Xw,Xx,reduceIte,Nat.reduceEqDiff] | refine Xn ?_ | refine Xp rfl ?_ | refine Xc ?_ | apply Xd;focus simp [*];done | apply Xe;focus simp [*];done | refine Ya rfl rfl ?_)
   exact⟨by ((repeat (first | exact Keeps.base _ _ _ _ | (with_reducible exact Keeps.refl _ _ _) | (refine Keeps.put rfl ?_) | (refine Keeps.over' rfl rfl ?_)))),hlt,(by first | (simp (disch:=omega) [putE,over,ofV,ofS, *];done) | (simp (disch:=omega) [putE,over,ofV,ofS, *];rfl)),hA5,sc2,(by first | (simp (disch:=omega) [putE,over,ofV,ofS, *];done) | (simp (disch:=omega) [putE,over,ofV,ofS, *];rfl)),by omega,hs2n,hnm.2,hf⟩
  ·rw [if_neg k1] at hf;have hb1:=ih sc1 s.p4 (by omega) (by omega) hsn hn4;have hb2:=ih sc1 s.p5 (by omega) (by omega) hsn hn5;cases r1:tydsT l c sc1 s.p4 with
   | false =>
     rw [r1] at hb1 hf;simp only [Bool.false_and] at hf;rw [← hf];clear hf r1 hb2 ih
     repeat (first | (first | (apply Xf;rfl) | apply Xj);focus simp [*,-Option.some.injEq];rfl | (first | (apply Xa;rfl) | apply Xb);(focus simp [*];done);focus simp [*,-Option.some.injEq];rfl | (first | (apply Xg;rfl) | apply Xk);(focus simp [*];done) | (first | refine Xl ?_ | refine Xi ?_ | refine Xh ?_ | refine Xo ?_ | refine Xq ?_);try simp only [Xw,Xx,reduceIte,Nat.reduceEqDiff] | refine Xn ?_ | refine Xp rfl ?_ | refine Xc ?_ | apply Xd;focus simp [*];done | apply Xe;focus simp [*];done | refine Ya rfl rfl ?_)
     ((apply Xr);(focus rfl);(focus (first | rfl | (simp [cvSo, *];done)));(focus simp [cvSo, *,-Option.some.injEq];rfl);kernel_rfl)
     ·exact hb1 _
     repeat (first | (first | (apply Xf;rfl) | apply Xj);focus simp [*,-Option.some.injEq];rfl | (first | (apply Xa;rfl) | apply Xb);(focus simp [*];done);focus simp [*,-Option.some.injEq];rfl | (first | (apply Xg;rfl) | apply Xk);(focus simp [*];done) | (first | refine Xl ?_ | refine Xi ?_ | refine Xh ?_ | refine Xo ?_ | refine Xq ?_);try simp only [Xw,Xx,reduceIte,Nat.reduceEqDiff] | refine Xn ?_ | refine Xp rfl ?_ | refine Xc ?_ | apply Xd;focus simp [*];done | apply Xe;focus simp [*];done | refine Ya rfl rfl ?_)
     (refine⟨_,(by simp [*];rfl),?_⟩;(try simp only [packA]))
   | true =>
   rw [r1] at hb1 hf;rw [Bool.true_and] at hf;clear r1;cases r2:tydsT l c sc1 s.p5 with
   | false =>
     rw [r2] at hb2 hf;simp only [Bool.false_and] at hf;rw [← hf];clear hf r2 ih
     repeat (first | (first | (apply Xf;rfl) | apply Xj);focus simp [*,-Option.some.injEq];rfl | (first | (apply Xa;rfl) | apply Xb);(focus simp [*];done);focus simp [*,-Option.some.injEq];rfl | (first | (apply Xg;rfl) | apply Xk);(focus simp [*];done) | (first | refine Xl ?_ | refine Xi ?_ | refine Xh ?_ | refine Xo ?_ | refine Xq ?_);try simp only [Xw,Xx,reduceIte,Nat.reduceEqDiff] | refine Xn ?_ | refine Xp rfl ?_ | refine Xc ?_ | apply Xd;focus simp [*];done | apply Xe;focus simp [*];done | refine Ya rfl rfl ?_)
     ((apply Xr);(focus rfl);(focus (first | rfl | (simp [cvSo, *];done)));(focus simp [cvSo, *,-Option.some.injEq];rfl);kernel_rfl)
     ·exact hb1 _
     repeat (first | (first | (apply Xf;rfl) | apply Xj);focus simp [*,-Option.some.injEq];rfl | (first | (apply Xa;rfl) | apply Xb);(focus simp [*];done);focus simp [*,-Option.some.injEq];rfl | (first | (apply Xg;rfl) | apply Xk);(focus simp [*];done) | (first | refine Xl ?_ | refine Xi ?_ | refine Xh ?_ | refine Xo ?_ | refine Xq ?_);try simp only [Xw,Xx,reduceIte,Nat.reduceEqDiff] | refine Xn ?_ | refine Xp rfl ?_ | refine Xc ?_ | apply Xd;focus simp [*];done | apply Xe;focus simp [*];done | refine Ya rfl rfl ?_)
     ((apply Xr);(focus rfl);(focus (first | rfl | (simp [cvSo, *];done)));(focus simp [cvSo, *,-Option.some.injEq];rfl);kernel_rfl)
     ·exact hb2 _
     repeat (first | (first | (apply Xf;rfl) | apply Xj);focus simp [*,-Option.some.injEq];rfl | (first | (apply Xa;rfl) | apply Xb);(focus simp [*];done);focus simp [*,-Option.some.injEq];rfl | (first | (apply Xg;rfl) | apply Xk);(focus simp [*];done) | (first | refine Xl ?_ | refine Xi ?_ | refine Xh ?_ | refine Xo ?_ | refine Xq ?_);try simp only [Xw,Xx,reduceIte,Nat.reduceEqDiff] | refine Xn ?_ | refine Xp rfl ?_ | refine Xc ?_ | apply Xd;focus simp [*];done | apply Xe;focus simp [*];done | refine Ya rfl rfl ?_)
     (refine⟨_,(by simp [*];rfl),?_⟩;(try simp only [packA]))
   | true =>
   rw [r2] at hb2 hf;rw [Bool.true_and] at hf;clear r2 ih
   repeat (first | (first | (apply Xf;rfl) | apply Xj);focus simp [*,-Option.some.injEq];rfl | (first | (apply Xa;rfl) | apply Xb);(focus simp [*];done);focus simp [*,-Option.some.injEq];rfl | (first | (apply Xg;rfl) | apply Xk);(focus simp [*];done) | (first | refine Xl ?_ | refine Xi ?_ | refine Xh ?_ | refine Xo ?_ | refine Xq ?_);try simp only [Xw,Xx,reduceIte,Nat.reduceEqDiff] | refine Xn ?_ | refine Xp rfl ?_ | refine Xc ?_ | apply Xd;focus simp [*];done | apply Xe;focus simp [*];done | refine Ya rfl rfl ?_)
   ((apply Xr);(focus rfl);(focus (first | rfl | (simp [cvSo, *];done)));(focus simp [cvSo, *,-Option.some.injEq];rfl);kernel_rfl)
   ·exact hb1 _
   repeat (first | (first | (apply Xf;rfl) | apply Xj);focus simp [*,-Option.some.injEq];rfl | (first | (apply Xa;rfl) | apply Xb);(focus simp [*];done);focus simp [*,-Option.some.injEq];rfl | (first | (apply Xg;rfl) | apply Xk);(focus simp [*];done) | (first | refine Xl ?_ | refine Xi ?_ | refine Xh ?_ | refine Xo ?_ | refine Xq ?_);try simp only [Xw,Xx,reduceIte,Nat.reduceEqDiff] | refine Xn ?_ | refine Xp rfl ?_ | refine Xc ?_ | apply Xd;focus simp [*];done | apply Xe;focus simp [*];done | refine Ya rfl rfl ?_)
   ((apply Xr);(focus rfl);(focus (first | rfl | (simp [cvSo, *];done)));(focus simp [cvSo, *,-Option.some.injEq];rfl);kernel_rfl)
   ·exact hb2 _
   clear hb1 hb2
   repeat (first | (first | (apply Xf;rfl) | apply Xj);focus simp [*,-Option.some.injEq];rfl | (first | (apply Xa;rfl) | apply Xb);(focus simp [*];done);focus simp [*,-Option.some.injEq];rfl | (first | (apply Xg;rfl) | apply Xk);(focus simp [*];done) | (first | refine Xl ?_ | refine Xi ?_ | refine Xh ?_ | refine Xo ?_ | refine Xq ?_);try simp only [Xw,Xx,reduceIte,Nat.reduceEqDiff] | refine Xn ?_ | refine Xp rfl ?_ | refine Xc ?_ | apply Xd;focus simp [*];done | apply Xe;focus simp [*];done | refine Ya rfl rfl ?_)
   exact⟨by ((repeat (first | exact Keeps.base _ _ _ _ | (with_reducible exact Keeps.refl _ _ _) | (refine Keeps.put rfl ?_) | (refine Keeps.over' rfl rfl ?_)))),hlt,(by first | (simp (disch:=omega) [putE,over,ofV,ofS, *];done) | (simp (disch:=omega) [putE,over,ofV,ofS, *];rfl)),by simp [upd, *],sc1,(by first | (simp (disch:=omega) [putE,over,ofV,ofS, *];done) | (simp (disch:=omega) [putE,over,ofV,ofS, *];rfl)),by omega,hsn,hnm.2,hf⟩
 ·have hi':sts.length≤i:=by omega
  rw [List.drop_eq_nil_of_le hi',tydsT] at hf;rw [← hf];clear hb hi' hf ih
  repeat (first | (first | (apply Xf;rfl) | apply Xj);focus simp [*,-Option.some.injEq];rfl | (first | (apply Xa;rfl) | apply Xb);(focus simp [*];done);focus simp [*,-Option.some.injEq];rfl | (first | (apply Xg;rfl) | apply Xk);(focus simp [*];done) | (first | refine Xl ?_ | refine Xi ?_ | refine Xh ?_ | refine Xo ?_ | refine Xq ?_);try simp only [Xw,Xx,reduceIte,Nat.reduceEqDiff] | refine Xn ?_ | refine Xp rfl ?_ | refine Xc ?_ | apply Xd;focus simp [*];done | apply Xe;focus simp [*];done | refine Ya rfl rfl ?_)
  (refine⟨_,(by simp [*];rfl),?_⟩;(try simp only [packA]))
theorem tk_typed (l:List Cl)(hL:LN l)(c:Bytes):∀ (N:Nat) (sc:List Fld) (sts:List St),stsSz sts≤N→sc.length+stsSz sts≤lim→(∀ f∈sc,f.name.length≤maxLen)→NmSs sts →
  FCall1 Tryd.prog tkG 7 [cvSo l,.str c,.lst (sc.map cvF),.lst (sts.map cvS)] (.bool (tydsT l c sc sts))
 | 0,sc,sts,hN,hl,hs,hn=>tk_typed1 l hL c sc sts hl hs hn fun _ _ h=>by omega
 | N+1,sc,sts,hN,hl,hs,hn=>tk_typed1 l hL c sc sts hl hs hn fun sc' m h1 h2 h3 h4=>tk_typed l hL c N sc' m (by omega) h2 h3 h4
end Go.Proofs.YtoookjadbhdfhaaDoor
