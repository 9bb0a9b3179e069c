/-
  Expr of the checker; walked.
-/
import Derived.Test.YtoookjadbhdfhaaDoorTTkProg
set_option linter.unusedSectionVars false
set_option linter.unusedSimpArgs false
set_option linter.unnecessarySimpa false
set_option linter.unusedVariables false
set_option linter.unusedSimpArgs false
set_option linter.unusedVariables false
namespace Go.Proofs.YtoookjadbhdfhaaDoor
open Lx Ax Go.RowKit
attribute [local simp] stepS Ax.stepT Dl.on qstep astep estep rd putE over argE ofV ofS loadA pickCells isAggD faddA fieldA partA iaddA idxA sliA bnd binA intA strA unA convA bltA lenA mapOf findK keyD scalD storeA appA srcA srcD upd drp Dl.hp Dl.nx CV.cs CV.one buildA placesA fillA zrep tasA ifaceD eqA eqFs eqIs range2 copyA nbeq nble nblt decEq beqI bneI beqS bneS isED Int.ofNat_inj List.getElem?_map List.getElem?_eq_getElem Option.map_some ti_int ti_bool ti_str ti_i64 ti_Strs ti_Flds ti_Fld ti_Cds ti_Cd ti_Sgs ti_Sg ti_Hi ti_Exs ti_Ex ti_Chk ti_Flt ti_Errno ti_Cl ti_Cls ti_So gd gdB callA resA op1
attribute [local simp] nu1 nu2 nu3 nu4 nu5 nu6 nu7 nu8 nu9 nu10 nu11 nu12 nu13 upd_upd
section
variable (h:List Cd)
def putT (H:Heap)(Z:Nat)(t:Tk Bytes):Heap:=match t with
 | .error _=>H
 | .ok t=>upd H Z (.cells [.str t])
def tkE (t:Tk Bytes):Nat:=match t with
 | .error e=>e
 | .ok _=>0
set_option maxRecDepth 10000 in
set_option maxHeartbeats 4000000 in
theorem tk_cloE (hc:HC h)(cls res:Bytes)(B:Nat)(e:Ex)(he:exSz e≤lim)(H:Heap)(nx:Nat)(c:CV)(sc:List Fld)(hsc:sc.length≤lim)(a:Int)(hi:CkI h cls res B H nx c sc a)(X Y Z:Nat)(hX:H X=some (.cells [.ptr B 0]))(hY:H Y=some (.cells [.int .i64 e.kind,.int .i64 e.n,.str e.of,.str e.name,.lst (e.kids.map cvE)]))(hZ:H Z=some (.cells [.str []])) :
  ACall Tryd.prog tkG 30 [.ptr X 0,.ptr Y 0,.ptr Z 0] H nx fun r H' nx'=>r=tkU (andT (exT9 h cls sc e) (.ok ()))∧H'=putT H Z (exT9 h cls sc e):=by
 refine ACall.of_body Tryd.func30 rfl ?_;have hx0:=tk_expr h cls res sc a hc hsc lim e he he;unfold ExOk at hx0;rw [Xy e] at hx0;cases hx:exT9 h cls sc e with
 | error x =>
   rw [hx] at hx0;have hx1:FRes Tryd.prog tkG 31 [ckV h cls res sc a,.agg [.int .i64 e.kind,.int .i64 e.n,.str e.of,.str e.name,.lst (e.kids.map cvE)]] (.pan (fltV x)):=hx0;clear hx0 hx
   repeat (first | (first | (apply Xf;rfl) | apply Xj);focus simp [*,-Option.some.injEq];rfl | (first | (apply Xa;rfl) | apply Xb);(focus simp [*];done);focus simp [*,-Option.some.injEq];rfl | (first | (apply Xg;rfl) | apply Xk);(focus simp [*];done) | (first | refine Xl ?_ | refine Xi ?_ | refine Xh ?_ | refine Xo ?_ | refine Xq ?_);try simp only [Xw,Xx,reduceIte,Nat.reduceEqDiff] | refine Xn ?_ | refine Xp rfl ?_ | refine Xc ?_ | apply Xd;focus simp [*];done | apply Xe;focus simp [*];done | refine Ya rfl rfl ?_)
   ((apply AOpl.callP);(focus rfl);(focus (first | rfl | (simp [*];done)));(focus simp [*,-Option.some.injEq];rfl);kernel_rfl)
   ·exact FRes.lend tkG_pu hx1 rfl (by simp [puL,puV,puEs,ckV_pu]) (hi.ln _)
   exact⟨rfl,rfl⟩
 | ok t =>
   rw [hx] at hx0;have hx1:FRes Tryd.prog tkG 31 [ckV h cls res sc a,.agg [.int .i64 e.kind,.int .i64 e.n,.str e.of,.str e.name,.lst (e.kids.map cvE)]] (.ret (.str t)):=hx0;clear hx0 hx
   repeat (first | (first | (apply Xf;rfl) | apply Xj);focus simp [*,-Option.some.injEq];rfl | (first | (apply Xa;rfl) | apply Xb);(focus simp [*];done);focus simp [*,-Option.some.injEq];rfl | (first | (apply Xg;rfl) | apply Xk);(focus simp [*];done) | (first | refine Xl ?_ | refine Xi ?_ | refine Xh ?_ | refine Xo ?_ | refine Xq ?_);try simp only [Xw,Xx,reduceIte,Nat.reduceEqDiff] | refine Xn ?_ | refine Xp rfl ?_ | refine Xc ?_ | apply Xd;focus simp [*];done | apply Xe;focus simp [*];done | refine Ya rfl rfl ?_)
   ((apply Xr);(focus rfl);(focus (first | rfl | (simp [*];done)));(focus simp [*,-Option.some.injEq];rfl);kernel_rfl)
   ·exact FRes.lend tkG_pu hx1 rfl (by simp [puL,puV,puEs,ckV_pu]) (hi.ln _)
   clear hx1
   repeat (first | (first | (apply Xf;rfl) | apply Xj);focus simp [*,-Option.some.injEq];rfl | (first | (apply Xa;rfl) | apply Xb);(focus simp [*];done);focus simp [*,-Option.some.injEq];rfl | (first | (apply Xg;rfl) | apply Xk);(focus simp [*];done) | (first | refine Xl ?_ | refine Xi ?_ | refine Xh ?_ | refine Xo ?_ | refine Xq ?_);try simp only [Xw,Xx,reduceIte,Nat.reduceEqDiff] | refine Xn ?_ | refine Xp rfl ?_ | refine Xc ?_ | apply Xd;focus simp [*];done | apply Xe;focus simp [*];done | refine Ya rfl rfl ?_)
   (refine⟨_,(by simp [*];rfl),?_⟩;(try simp only [packA]))
   exact⟨rfl,rfl⟩
theorem tk_runE (hc:HC h)(cls res:Bytes)(B:Nat)(e:Ex)(he:exSz e≤lim)(H:Heap)(nx:Nat)(c:CV)(sc:List Fld)(hsc:sc.length≤lim)(a:Int)(hi:CkI h cls res B H nx c sc a)(X Y Z:Nat)(hX:H X=some (.cells [.ptr B 0]))(hY:H Y=some (.cells [.int .i64 e.kind,.int .i64 e.n,.str e.of,.str e.name,.lst (e.kids.map cvE)]))(hZ:H Z=some (.cells [.str []]))(p:CV) :
  ACall Tryd.prog tkG 25 [p,.fn (.func 30) [] [.ptr X 0,.ptr Y 0,.ptr Z 0]] H nx fun r H' nx'=>r=.ret (.int .i64 (tkE (exT9 h cls sc e):Nat))∧H'=putT H Z (exT9 h cls sc e):=by
 refine tc_run (by kernel_rfl) ((tk_cloE h hc cls res B e he H nx c sc hsc a hi X Y Z hX hY hZ).mono ?_);rintro r H' nx' ⟨rfl,h2⟩;cases hx:exT9 h cls sc e with
 | error x=>rw [hx] at h2;exact⟨x,rfl,rfl,h2⟩
 | ok t=>rw [hx] at h2;exact⟨rfl,h2⟩
end
def exV (t:Tk Bytes):CV:=match t with
 | .error e=>.tup [.str [],.int .i64 (e:Int)]
 | .ok t=>.tup [.str t,.int .i64 0]
theorem exV_pu (t:Tk Bytes):puV (exV t)=true:=by cases t <;> rfl
set_option maxRecDepth 10000 in
set_option maxHeartbeats 16000000 in
theorem tk_Expr (l:List Cl)(hL:LN l)(c:Bytes)(sc:List Fld)(hsc:sc.length≤lim)(hsn:∀ f∈sc,f.name.length≤maxLen)(e:Ex)(he:exSz e≤lim):FCall1 Tryd.prog tkG 14 [cvSo l,.str c,.lst (sc.map cvF),.agg (cvE e)] (exV (exprE l c sc e)):=by
 refine FCall.one tkG_pu (by simp [puL,puV,puSo,puE,puRm puF]) (exV_pu _) ?_;refine FCall.ofBody Tryd.func14 rfl rfl fun nx=>?_
 have hof:=tk_Of l hL.lb;have hck:=tk_Check (hiOf l) hL.hb;have hfd:=tk_Find (hiOf l) hL.hb.len c;have hdp:=tk_exDepth lim e he he;obtain⟨w,hw⟩:∃ w,exprE l c sc e=w:=⟨_,rfl⟩;rw [hw];unfold exprE at hw;rw [Xy e] at hdp
 repeat (first | (first | (apply Xf;rfl) | apply Xj);focus simp [cvSo,Xy e, *,-Option.some.injEq];rfl | (first | (apply Xa;rfl) | apply Xb);(focus simp [cvSo,Xy e, *];done);focus simp [cvSo,Xy e, *,-Option.some.injEq];rfl | (first | (apply Xg;rfl) | apply Xk);(focus simp [cvSo,Xy e, *];done) | (first | refine Xl ?_ | refine Xi ?_ | refine Xh ?_ | refine Xo ?_ | refine Xq ?_);try simp only [Xw,Xx,reduceIte,Nat.reduceEqDiff] | refine Xn ?_ | refine Xp rfl ?_ | refine Xc ?_ | apply Xd;focus simp [cvSo,Xy e, *];done | apply Xe;focus simp [cvSo,Xy e, *];done | refine Ya rfl rfl ?_)
 ((apply Xr);(focus rfl);(focus (first | rfl | (simp [cvSo, *];done)));(focus simp [cvSo, *,-Option.some.injEq];rfl);kernel_rfl)
 ·exact hof _
 repeat (first | (first | (apply Xf;rfl) | apply Xj);focus simp [cvH, *,-Option.some.injEq];rfl | (first | (apply Xa;rfl) | apply Xb);(focus simp [cvH, *];done);focus simp [cvH, *,-Option.some.injEq];rfl | (first | (apply Xg;rfl) | apply Xk);(focus simp [cvH, *];done) | (first | refine Xl ?_ | refine Xi ?_ | refine Xh ?_ | refine Xo ?_ | refine Xq ?_);try simp only [Xw,Xx,reduceIte,Nat.reduceEqDiff] | refine Xn ?_ | refine Xp rfl ?_ | refine Xc ?_ | apply Xd;focus simp [cvH, *];done | apply Xe;focus simp [cvH, *];done | refine Ya rfl rfl ?_)
 ((apply Xr);(focus rfl);(focus (first | rfl | (simp [cvH, *];done)));(focus simp [cvH, *,-Option.some.injEq];rfl);kernel_rfl)
 ·exact hck _
 clear hof hck
 by_cases h0:(checkF (hiOf l)).2=0
 case neg =>
  rw [if_pos h0] at hw;generalize (checkF (hiOf l)).2=E at *;subst hw;clear hfd hdp
  repeat (first | (first | (apply Xf;rfl) | apply Xj);focus simp [*,-Option.some.injEq];rfl | (first | (apply Xa;rfl) | apply Xb);(focus simp [*];done);focus simp [*,-Option.some.injEq];rfl | (first | (apply Xg;rfl) | apply Xk);(focus simp [*];done) | (first | refine Xl ?_ | refine Xi ?_ | refine Xh ?_ | refine Xo ?_ | refine Xq ?_);try simp only [Xw,Xx,reduceIte,Nat.reduceEqDiff] | refine Xn ?_ | refine Xp rfl ?_ | refine Xc ?_ | apply Xd;focus simp [*];done | apply Xe;focus simp [*];done | refine Ya rfl rfl ?_)
  (refine⟨_,(by simp [*];rfl),?_⟩;(try simp only [packA]))
  rfl
 rw [if_neg (by simp [h0])] at hw;rw [h0,show ((0:Nat):Int)=0 from rfl];have hC:=hL.hc h0;generalize (checkF (hiOf l)).1=ci at *;clear h0;generalize hiOf l=h at *;generalize findI h c=fi at *
 repeat (first | (first | (apply Xf;rfl) | apply Xj);focus simp [*,-Option.some.injEq];rfl | (first | (apply Xa;rfl) | apply Xb);(focus simp [*];done);focus simp [*,-Option.some.injEq];rfl | (first | (apply Xg;rfl) | apply Xk);(focus simp [*];done) | (first | refine Xl ?_ | refine Xi ?_ | refine Xh ?_ | refine Xo ?_ | refine Xq ?_);try simp only [Xw,Xx,reduceIte,Nat.reduceEqDiff] | refine Xn ?_ | refine Xp rfl ?_ | refine Xc ?_ | apply Xd;focus simp [*];done | apply Xe;focus simp [*];done | refine Ya rfl rfl ?_ | (first | (apply AOpl.pickOrZ;rfl) | (apply AOpl.pickAndZ;rfl));(focus (simp [*,-Ax.CV.bool.injEq];rfl));(focus (intro hq;(try simp only [Bool.not_eq_true',Bool.not_eq_false',decide_eq_true_eq,decide_eq_false_iff_not,Bool.and_eq_true,Bool.or_eq_false_iff] at hq);simp [*,-Ax.CV.bool.injEq];rfl));intro z hz | (first | (apply AOpl.pickOrGZ;rfl) | (apply AOpl.pickAndGZ;rfl));(focus simp [*];done);(focus (simp [*,-Ax.CV.bool.injEq];rfl));(focus (intro hq;(try simp only [Bool.not_eq_true',Bool.not_eq_false',decide_eq_true_eq,decide_eq_false_iff_not,Bool.and_eq_true,Bool.or_eq_false_iff] at hq);simp [*,-Ax.CV.bool.injEq];rfl));intro z hz | (first | (apply AOpl.pickOrCZ;rfl) | (apply AOpl.pickAndCZ;rfl));(focus (simp [*,-Ax.CV.bool.injEq,-Option.some.injEq];rfl));(focus (intro hq;(try simp only [Bool.not_eq_true',Bool.not_eq_false',decide_eq_true_eq,decide_eq_false_iff_not,Bool.and_eq_true,Bool.or_eq_false_iff] at hq);simp [*,-Ax.CV.bool.injEq];rfl));(focus (intro hp hq;(try simp only [Bool.not_eq_true',Bool.not_eq_false',decide_eq_true_eq,decide_eq_false_iff_not,Bool.and_eq_true,Bool.or_eq_false_iff] at hp hq);simp [*,-Ax.CV.bool.injEq];rfl));intro z hz | (apply AOpl.passC;rfl);focus simp [*,-Ax.CV.bool.injEq];done | (apply AOpl.lookC;rfl);(focus (simp [*,-Ax.CV.bool.injEq,-Option.some.injEq];rfl));focus intro _;simp [*,-Option.some.injEq];rfl)
 ((apply AOpl.callC);(focus rfl);(focus (simp [cvH, *,-Ax.CV.bool.injEq,-Option.some.injEq];rfl));(focus (intro _;simp [cvH, *,-Option.some.injEq];rfl));(focus (kernel_rfl)))
 ·intro _;exact hfd.f
 intro nx2 hn2
 repeat (first | (first | (apply Xf;rfl) | apply Xj);focus simp [*,-Option.some.injEq];rfl | (first | (apply Xa;rfl) | apply Xb);(focus simp [*];done);focus simp [*,-Option.some.injEq];rfl | (first | (apply Xg;rfl) | apply Xk);(focus simp [*];done) | (first | refine Xl ?_ | refine Xi ?_ | refine Xh ?_ | refine Xo ?_ | refine Xq ?_);try simp only [Xw,Xx,reduceIte,Nat.reduceEqDiff] | refine Xn ?_ | refine Xp rfl ?_ | refine Xc ?_ | apply Xd;focus simp [*];done | apply Xe;focus simp [*];done | refine Ya rfl rfl ?_ | (first | (apply AOpl.pickOrZ;rfl) | (apply AOpl.pickAndZ;rfl));(focus (simp [*,-Ax.CV.bool.injEq];rfl));(focus (intro hq;(try simp only [Bool.not_eq_true',Bool.not_eq_false',decide_eq_true_eq,decide_eq_false_iff_not,Bool.and_eq_true,Bool.or_eq_false_iff] at hq);simp [*,-Ax.CV.bool.injEq];rfl));intro z hz | (first | (apply AOpl.pickOrGZ;rfl) | (apply AOpl.pickAndGZ;rfl));(focus simp [*];done);(focus (simp [*,-Ax.CV.bool.injEq];rfl));(focus (intro hq;(try simp only [Bool.not_eq_true',Bool.not_eq_false',decide_eq_true_eq,decide_eq_false_iff_not,Bool.and_eq_true,Bool.or_eq_false_iff] at hq);simp [*,-Ax.CV.bool.injEq];rfl));intro z hz | (first | (apply AOpl.pickOrCZ;rfl) | (apply AOpl.pickAndCZ;rfl));(focus (simp [*,-Ax.CV.bool.injEq,-Option.some.injEq];rfl));(focus (intro hq;(try simp only [Bool.not_eq_true',Bool.not_eq_false',decide_eq_true_eq,decide_eq_false_iff_not,Bool.and_eq_true,Bool.or_eq_false_iff] at hq);simp [*,-Ax.CV.bool.injEq];rfl));(focus (intro hp hq;(try simp only [Bool.not_eq_true',Bool.not_eq_false',decide_eq_true_eq,decide_eq_false_iff_not,Bool.and_eq_true,Bool.or_eq_false_iff] at hp hq);simp [*,-Ax.CV.bool.injEq];rfl));intro z hz | (apply AOpl.passC;rfl);focus simp [*,-Ax.CV.bool.injEq];done | (apply AOpl.lookC;rfl);(focus (simp [*,-Ax.CV.bool.injEq,-Option.some.injEq];rfl));focus intro _;simp [*,-Option.some.injEq];rfl)
 clear hfd;cases z with
 | true =>
   rw [if_pos (by simpa using hz)] at hw;rw [← hw];clear hw hz hdp
   repeat (first | (first | (apply Xf;rfl) | apply Xj);focus simp [*,-Option.some.injEq];rfl | (first | (apply Xa;rfl) | apply Xb);(focus simp [*];done);focus simp [*,-Option.some.injEq];rfl | (first | (apply Xg;rfl) | apply Xk);(focus simp [*];done) | (first | refine Xl ?_ | refine Xi ?_ | refine Xh ?_ | refine Xo ?_ | refine Xq ?_);try simp only [Xw,Xx,reduceIte,Nat.reduceEqDiff] | refine Xn ?_ | refine Xp rfl ?_ | refine Xc ?_ | apply Xd;focus simp [*];done | apply Xe;focus simp [*];done | refine Ya rfl rfl ?_)
   (refine⟨_,(by simp [*];rfl),?_⟩;(try simp only [packA]))
   rfl
 | false =>
 rw [if_neg (by simp at hz ⊢;exact hz)] at hw;clear hz;have q1:=far (show nx<nx2 by omega);have q2:=far (show nx+1<nx2 by omega);have q3:=far (show nx+1+1<nx2 by omega)
 repeat (first | (first | (apply Xf;rfl) | apply Xj);focus simp [*,-Option.some.injEq];rfl | (first | (apply Xa;rfl) | apply Xb);(focus simp [*];done);focus simp [*,-Option.some.injEq];rfl | (first | (apply Xg;rfl) | apply Xk);(focus simp [*];done) | (first | refine Xl ?_ | refine Xi ?_ | refine Xh ?_ | refine Xo ?_ | refine Xq ?_);try simp only [Xw,Xx,reduceIte,Nat.reduceEqDiff] | refine Xn ?_ | refine Xp rfl ?_ | refine Xc ?_ | apply Xd;focus simp [*];done | apply Xe;focus simp [*];done | refine Ya rfl rfl ?_)
 obtain⟨W,hW⟩:∃ W,scpT h [] sc=W:=⟨_,rfl⟩;rw [hW] at hw;refine AWp.countO sc.length [8,9,15,42] 43 (fun i e1 H2 nx3=>e1 42=.int .i64 i∧∃ sc1 c1 a,CkI h c [] nx2 H2 nx3 c1 sc1 a∧H2 (nx2+1)=some (.cells [.ptr nx2 0])∧H2 (nx+1)=some (.cells [.int .i64 e.kind,.int .i64 e.n,.str e.of,.str e.name,.lst (e.kids.map cvE)])∧H2 (nx+1+1)=some (.cells [.lst (h.map cvD)])∧(∀ x k,c1=.sl x 0 k 2→nx2+1+1≤x)∧sc1.length=i∧scpT h sc1 (sc.drop i)=W) ⟨(by first | (simp (disch:=omega) [putE,over,ofV,ofS, *];done) | (simp (disch:=omega) [putE,over,ofV,ofS, *];rfl)),[],.nils,0,⟨by simp [upd],OwnR.nil,by omega,(fun _ h=>by cases h)⟩,by simp [upd],by simp [upd, *],by simp [upd, *],(fun _ _ h=>by cases h),rfl,hW⟩ ?_;clear hW q1 q2 q3;rintro i v2 H2 nx3 hi hn3 ⟨h42,sc1,c1,a,ck,hX,hY,hA,hlow,hsl,hf⟩;have q1:=far (show nx2+1<nx3 by omega);have q2:=far (show nx+1<nx3 by omega);have q4:=far (show nx+1+1<nx3 by omega);have q3:=far ck.lt;have hb0:=ck.blk
 repeat (first | (first | (apply Xf;rfl) | apply Xj);focus simp [*,-Option.some.injEq];rfl | (first | (apply Xa;rfl) | apply Xb);(focus simp [*];done);focus simp [*,-Option.some.injEq];rfl | (first | (apply Xg;rfl) | apply Xk);(focus simp [*];done) | (first | refine Xl ?_ | refine Xi ?_ | refine Xh ?_ | refine Xo ?_ | refine Xq ?_);try simp only [Xw,Xx,reduceIte,Nat.reduceEqDiff] | refine Xn ?_ | refine Xp rfl ?_ | refine Xc ?_ | apply Xd;focus simp [*];done | apply Xe;focus simp [*];done | refine Ya rfl rfl ?_)
 (((apply AWp.cond');(focus (simp [*,-Ax.CV.bool.injEq];rfl))) <;> (intro hb) <;> (try simp only [decide_eq_true_eq,decide_eq_false_iff_not,Bool.not_eq_true',Bool.not_eq_false',Bool.not_eq_true,Bool.not_eq_false] at hb))
 ·have hlt:i<sc.length:=hb;have hwi:=lim_wrap hlt hsc;clear hb;rw [List.drop_eq_getElem_cons hlt,scpT] at hf;have hid:=tk_ident sc[i].name (hsn _ (List.getElem_mem hlt));have hty:=tk_Type h hC.le sc[i].typ;have hhs:=tk_has h c [] sc1 a (by omega) sc[i].name;generalize hpe:sc[i]=p at *;obtain⟨pn,pt⟩:=p;simp only at hid hhs hf hty;cases e1:isIdent pn with
  | false =>
    rw [if_pos e1] at hf;rw [e1] at hid;rw [← hf] at hw;simp only at hw;rw [← hw];clear hw hf e1 hdp
    repeat (first | (first | (apply Xf;rfl) | apply Xj);focus simp [cvF, *,-Option.some.injEq];rfl | (first | (apply Xa;rfl) | apply Xb);(focus simp [cvF, *];done);focus simp [cvF, *,-Option.some.injEq];rfl | (first | (apply Xg;rfl) | apply Xk);(focus simp [cvF, *];done) | (first | refine Xl ?_ | refine Xi ?_ | refine Xh ?_ | refine Xo ?_ | refine Xq ?_);try simp only [Xw,Xx,reduceIte,Nat.reduceEqDiff] | refine Xn ?_ | refine Xp rfl ?_ | refine Xc ?_ | apply Xd;focus simp [cvF, *];done | apply Xe;focus simp [cvF, *];done | refine Ya rfl rfl ?_)
    ((apply Xr);(focus rfl);(focus (first | rfl | (simp [*];done)));(focus simp [*,-Option.some.injEq];rfl);kernel_rfl)
    ·exact hid _
    repeat (first | (first | (apply Xf;rfl) | apply Xj);focus simp [*,-Option.some.injEq];rfl | (first | (apply Xa;rfl) | apply Xb);(focus simp [*];done);focus simp [*,-Option.some.injEq];rfl | (first | (apply Xg;rfl) | apply Xk);(focus simp [*];done) | (first | refine Xl ?_ | refine Xi ?_ | refine Xh ?_ | refine Xo ?_ | refine Xq ?_);try simp only [Xw,Xx,reduceIte,Nat.reduceEqDiff] | refine Xn ?_ | refine Xp rfl ?_ | refine Xc ?_ | apply Xd;focus simp [*];done | apply Xe;focus simp [*];done | refine Ya rfl rfl ?_)
    (refine⟨_,(by simp [*];rfl),?_⟩;(try simp only [packA]))
    rfl
  | true =>
  rw [if_neg (by rw [e1];simp)] at hf;rw [e1] at hid;clear e1;cases e1:typB h pt with
  | false =>
    rw [if_pos e1] at hf;rw [e1] at hty;rw [← hf] at hw;simp only at hw;rw [← hw];clear hw hf e1 hdp
    repeat (first | (first | (apply Xf;rfl) | apply Xj);focus simp [cvF, *,-Option.some.injEq];rfl | (first | (apply Xa;rfl) | apply Xb);(focus simp [cvF, *];done);focus simp [cvF, *,-Option.some.injEq];rfl | (first | (apply Xg;rfl) | apply Xk);(focus simp [cvF, *];done) | (first | refine Xl ?_ | refine Xi ?_ | refine Xh ?_ | refine Xo ?_ | refine Xq ?_);try simp only [Xw,Xx,reduceIte,Nat.reduceEqDiff] | refine Xn ?_ | refine Xp rfl ?_ | refine Xc ?_ | apply Xd;focus simp [cvF, *];done | apply Xe;focus simp [cvF, *];done | refine Ya rfl rfl ?_)
    ((apply Xr);(focus rfl);(focus (first | rfl | (simp [*];done)));(focus simp [*,-Option.some.injEq];rfl);kernel_rfl)
    ·exact hid _
    repeat (first | (first | (apply Xf;rfl) | apply Xj);focus simp [*,-Option.some.injEq];rfl | (first | (apply Xa;rfl) | apply Xb);(focus simp [*];done);focus simp [*,-Option.some.injEq];rfl | (first | (apply Xg;rfl) | apply Xk);(focus simp [*];done) | (first | refine Xl ?_ | refine Xi ?_ | refine Xh ?_ | refine Xo ?_ | refine Xq ?_);try simp only [Xw,Xx,reduceIte,Nat.reduceEqDiff] | refine Xn ?_ | refine Xp rfl ?_ | refine Xc ?_ | apply Xd;focus simp [*];done | apply Xe;focus simp [*];done | refine Ya rfl rfl ?_)
    ((apply Xr);(focus rfl);(focus (first | rfl | (simp [*];done)));(focus simp [*,-Option.some.injEq];rfl);kernel_rfl)
    ·exact hty _
    repeat (first | (first | (apply Xf;rfl) | apply Xj);focus simp [*,-Option.some.injEq];rfl | (first | (apply Xa;rfl) | apply Xb);(focus simp [*];done);focus simp [*,-Option.some.injEq];rfl | (first | (apply Xg;rfl) | apply Xk);(focus simp [*];done) | (first | refine Xl ?_ | refine Xi ?_ | refine Xh ?_ | refine Xo ?_ | refine Xq ?_);try simp only [Xw,Xx,reduceIte,Nat.reduceEqDiff] | refine Xn ?_ | refine Xp rfl ?_ | refine Xc ?_ | apply Xd;focus simp [*];done | apply Xe;focus simp [*];done | refine Ya rfl rfl ?_)
    (refine⟨_,(by simp [*];rfl),?_⟩;(try simp only [packA]))
    rfl
  | true =>
  rw [if_neg (by rw [e1];simp)] at hf;rw [e1] at hty;clear e1;have P1:=ck.same (H1:=upd H2 nx3 (.cells [.str pn,.str pt])) (by rw [upd_miss _ _ _ _ (by omega)];exact hb0) (Nat.le_succ nx3) (fun x hx _=>upd_miss _ _ _ _ (by omega))
  by_cases e2:varF sc1 pn=none
  case neg =>
   rw [if_pos e2] at hf;have hsm:(varF sc1 pn).isSome=true:=by cases hv:varF sc1 pn <;> simp_all
   rw [hsm] at hhs;rw [← hf] at hw;simp only at hw;rw [← hw];clear hw hf e2 hdp hsm
   repeat (first | (first | (apply Xf;rfl) | apply Xj);focus simp [cvF, *,-Option.some.injEq];rfl | (first | (apply Xa;rfl) | apply Xb);(focus simp [cvF, *];done);focus simp [cvF, *,-Option.some.injEq];rfl | (first | (apply Xg;rfl) | apply Xk);(focus simp [cvF, *];done) | (first | refine Xl ?_ | refine Xi ?_ | refine Xh ?_ | refine Xo ?_ | refine Xq ?_);try simp only [Xw,Xx,reduceIte,Nat.reduceEqDiff] | refine Xn ?_ | refine Xp rfl ?_ | refine Xc ?_ | apply Xd;focus simp [cvF, *];done | apply Xe;focus simp [cvF, *];done | refine Ya rfl rfl ?_)
   ((apply Xr);(focus rfl);(focus (first | rfl | (simp [*];done)));(focus simp [*,-Option.some.injEq];rfl);kernel_rfl)
   ·exact hid _
   repeat (first | (first | (apply Xf;rfl) | apply Xj);focus simp [*,-Option.some.injEq];rfl | (first | (apply Xa;rfl) | apply Xb);(focus simp [*];done);focus simp [*,-Option.some.injEq];rfl | (first | (apply Xg;rfl) | apply Xk);(focus simp [*];done) | (first | refine Xl ?_ | refine Xi ?_ | refine Xh ?_ | refine Xo ?_ | refine Xq ?_);try simp only [Xw,Xx,reduceIte,Nat.reduceEqDiff] | refine Xn ?_ | refine Xp rfl ?_ | refine Xc ?_ | apply Xd;focus simp [*];done | apply Xe;focus simp [*];done | refine Ya rfl rfl ?_)
   ((apply Xr);(focus rfl);(focus (first | rfl | (simp [*];done)));(focus simp [*,-Option.some.injEq];rfl);kernel_rfl)
   ·exact hty _
   repeat (first | (first | (apply Xf;rfl) | apply Xj);focus simp [*,-Option.some.injEq];rfl | (first | (apply Xa;rfl) | apply Xb);(focus simp [*];done);focus simp [*,-Option.some.injEq];rfl | (first | (apply Xg;rfl) | apply Xk);(focus simp [*];done) | (first | refine Xl ?_ | refine Xi ?_ | refine Xh ?_ | refine Xo ?_ | refine Xq ?_);try simp only [Xw,Xx,reduceIte,Nat.reduceEqDiff] | refine Xn ?_ | refine Xp rfl ?_ | refine Xc ?_ | apply Xd;focus simp [*];done | apply Xe;focus simp [*];done | refine Ya rfl rfl ?_)
   ((apply Xr);(focus rfl);(focus (first | rfl | (simp [*];done)));(focus simp [*,-Option.some.injEq];rfl);kernel_rfl)
   ·exact FCall1.lend tkG_pu hhs (by simp [puL,puV,ckV_pu]) rfl (P1.ck.ln _)
   repeat (first | (first | (apply Xf;rfl) | apply Xj);focus simp [*,-Option.some.injEq];rfl | (first | (apply Xa;rfl) | apply Xb);(focus simp [*];done);focus simp [*,-Option.some.injEq];rfl | (first | (apply Xg;rfl) | apply Xk);(focus simp [*];done) | (first | refine Xl ?_ | refine Xi ?_ | refine Xh ?_ | refine Xo ?_ | refine Xq ?_);try simp only [Xw,Xx,reduceIte,Nat.reduceEqDiff] | refine Xn ?_ | refine Xp rfl ?_ | refine Xc ?_ | apply Xd;focus simp [*];done | apply Xe;focus simp [*];done | refine Ya rfl rfl ?_)
   (refine⟨_,(by simp [*];rfl),?_⟩;(try simp only [packA]))
   rfl
  rw [if_neg (by simp [e2])] at hf;rw [e2] at hhs;have hhs':FCall1 Tryd.prog tkG 24 [ckV h c [] sc1 a,.str pn] (.bool false):=hhs;clear e2 hhs hw hdp
  repeat (first | (first | (apply Xf;rfl) | apply Xj);focus simp [cvF, *,-Option.some.injEq];rfl | (first | (apply Xa;rfl) | apply Xb);(focus simp [cvF, *];done);focus simp [cvF, *,-Option.some.injEq];rfl | (first | (apply Xg;rfl) | apply Xk);(focus simp [cvF, *];done) | (first | refine Xl ?_ | refine Xi ?_ | refine Xh ?_ | refine Xo ?_ | refine Xq ?_);try simp only [Xw,Xx,reduceIte,Nat.reduceEqDiff] | refine Xn ?_ | refine Xp rfl ?_ | refine Xc ?_ | apply Xd;focus simp [cvF, *];done | apply Xe;focus simp [cvF, *];done | refine Ya rfl rfl ?_)
  ((apply Xr);(focus rfl);(focus (first | rfl | (simp [*];done)));(focus simp [*,-Option.some.injEq];rfl);kernel_rfl)
  ·exact hid _
  repeat (first | (first | (apply Xf;rfl) | apply Xj);focus simp [*,-Option.some.injEq];rfl | (first | (apply Xa;rfl) | apply Xb);(focus simp [*];done);focus simp [*,-Option.some.injEq];rfl | (first | (apply Xg;rfl) | apply Xk);(focus simp [*];done) | (first | refine Xl ?_ | refine Xi ?_ | refine Xh ?_ | refine Xo ?_ | refine Xq ?_);try simp only [Xw,Xx,reduceIte,Nat.reduceEqDiff] | refine Xn ?_ | refine Xp rfl ?_ | refine Xc ?_ | apply Xd;focus simp [*];done | apply Xe;focus simp [*];done | refine Ya rfl rfl ?_)
  ((apply Xr);(focus rfl);(focus (first | rfl | (simp [*];done)));(focus simp [*,-Option.some.injEq];rfl);kernel_rfl)
  ·exact hty _
  repeat (first | (first | (apply Xf;rfl) | apply Xj);focus simp [*,-Option.some.injEq];rfl | (first | (apply Xa;rfl) | apply Xb);(focus simp [*];done);focus simp [*,-Option.some.injEq];rfl | (first | (apply Xg;rfl) | apply Xk);(focus simp [*];done) | (first | refine Xl ?_ | refine Xi ?_ | refine Xh ?_ | refine Xo ?_ | refine Xq ?_);try simp only [Xw,Xx,reduceIte,Nat.reduceEqDiff] | refine Xn ?_ | refine Xp rfl ?_ | refine Xc ?_ | apply Xd;focus simp [*];done | apply Xe;focus simp [*];done | refine Ya rfl rfl ?_)
  ((apply Xr);(focus rfl);(focus (first | rfl | (simp [*];done)));(focus simp [*,-Option.some.injEq];rfl);kernel_rfl)
  ·exact FCall1.lend tkG_pu hhs' (by simp [puL,puV,ckV_pu]) rfl (P1.ck.ln _)
  clear hhs' hid hty
  repeat (first | (first | (apply Xf;rfl) | apply Xj);focus simp [*,-Option.some.injEq];rfl | (first | (apply Xa;rfl) | apply Xb);(focus simp [*];done);focus simp [*,-Option.some.injEq];rfl | (first | (apply Xg;rfl) | apply Xk);(focus simp [*];done) | (first | refine Xl ?_ | refine Xi ?_ | refine Xh ?_ | refine Xo ?_ | refine Xq ?_);try simp only [Xw,Xx,reduceIte,Nat.reduceEqDiff] | refine Xn ?_ | refine Xp rfl ?_ | refine Xc ?_ | apply Xd;focus simp [*];done | apply Xe;focus simp [*];done)
  refine AWp.regTB [0] (fun b=>b=nx2+1) (by kernel_rfl) (by kernel_rfl) rfl rfl (fun b hb=>by subst hb;omega) ?_
  repeat (first | ((apply ASlK.stepG);(focus rfl);(focus (simp [*,-Option.some.injEq];rfl));(focus (first | (intro h;exact Bool.noConfusion (show false=true from h)) | (intro hk0 H1 hk1;have hk2:=hk1 _ rfl;clear hk1;simp [*] at hk2;simp [*,-Option.some.injEq];rfl) | (intro hk0 H1 hk1;have hk2:=hk1 _ rfl;simp [*] at hk2;simp [*,-Option.some.injEq];done) | (intro hk0 H1 hk1;have hk2:=hk1 _ rfl;simp [*] at hk2;simp [*,-Option.some.injEq])));(focus (first | (intro _ _;rfl) | (intro b hb;replace hb:b=_:=hb;simp [hb, *];done)))) | ((apply ASlK.stepG);(focus simp [*];done);(focus (simp [*,-Option.some.injEq];rfl));(focus (first | (intro h;exact Bool.noConfusion (show false=true from h)) | (intro hk0 H1 hk1;have hk2:=hk1 _ rfl;clear hk1;simp [*] at hk2;simp [*,-Option.some.injEq];rfl) | (intro hk0 H1 hk1;have hk2:=hk1 _ rfl;simp [*] at hk2;simp [*,-Option.some.injEq];done) | (intro hk0 H1 hk1;have hk2:=hk1 _ rfl;simp [*] at hk2;simp [*,-Option.some.injEq])));(focus (first | (intro _ _;rfl) | (intro b hb;replace hb:b=_:=hb;simp [hb, *];done)))) | ((apply ASlK.pass);(focus simp [*];done)) | ((refine ASlK.nil ?_);(try simp only [Xw,Xx,reduceIte,Nat.reduceEqDiff])))
  refine ASlK.appQ cvF_len cvF_one ti_Flds ti_Fld (⟨pn,pt⟩:Fld) (ck.own.keep (by omega) fun x hx _=>by rw [upd_miss _ _ _ _ (by omega),upd_miss _ _ _ _ (by omega)]) (by simp only [lim] at hsc;omega) (fun b hb=>by
   have hb':b=nx2+1:=hb;subst hb';exact⟨by omega,fun b' hcb e=>by have:=hlow b' _ hcb;omega⟩) ?_ (hxb:=by simp [upd,cvF])
  intro H3 hN hfr;have hb3:H3 nx2=some (.cells [.lst (h.map cvD),.str c,.str [],c1,.int .i64 a]):=by
   rw [hfr nx2 (by omega) (fun b' hcb e=>ck.ne _ (by rw [e];exact hcb)),upd_miss _ _ _ _ (by omega),upd_miss _ _ _ _ (by omega)];exact hb0
  have hX3:H3 (nx2+1)=some (.cells [.ptr nx2 0]):=by
   rw [hfr (nx2+1) (by omega) (fun b' hcb e=>by have:=hlow b' _ hcb;omega),upd_miss _ _ _ _ (by omega),upd_miss _ _ _ _ (by omega)];exact hX
  have hY3:H3 (nx+1)=some (.cells [.int .i64 e.kind,.int .i64 e.n,.str e.of,.str e.name,.lst (e.kids.map cvE)]):=by
   rw [hfr (nx+1) (by omega) (fun b' hcb e=>by have:=hlow b' _ hcb;omega),upd_miss _ _ _ _ (by omega),upd_miss _ _ _ _ (by omega)];exact hY
  have hA3:H3 (nx+1+1)=some (.cells [.lst (h.map cvD)]):=by
   rw [hfr (nx+1+1) (by omega) (fun b' hcb e=>by have:=hlow b' _ hcb;omega),upd_miss _ _ _ _ (by omega),upd_miss _ _ _ _ (by omega)];exact hA
  repeat (first | ((apply ASlK.stepG);(focus rfl);(focus (simp [*,-Option.some.injEq];rfl));(focus (first | (intro h;exact Bool.noConfusion (show false=true from h)) | (intro hk0 H1 hk1;have hk2:=hk1 _ rfl;clear hk1;simp [*] at hk2;simp [*,-Option.some.injEq];rfl) | (intro hk0 H1 hk1;have hk2:=hk1 _ rfl;simp [*] at hk2;simp [*,-Option.some.injEq];done) | (intro hk0 H1 hk1;have hk2:=hk1 _ rfl;simp [*] at hk2;simp [*,-Option.some.injEq])));(focus (first | (intro _ _;rfl) | (intro b hb;replace hb:b=_:=hb;simp [hb, *];done)))) | ((apply ASlK.stepG);(focus simp [*];done);(focus (simp [*,-Option.some.injEq];rfl));(focus (first | (intro h;exact Bool.noConfusion (show false=true from h)) | (intro hk0 H1 hk1;have hk2:=hk1 _ rfl;clear hk1;simp [*] at hk2;simp [*,-Option.some.injEq];rfl) | (intro hk0 H1 hk1;have hk2:=hk1 _ rfl;simp [*] at hk2;simp [*,-Option.some.injEq];done) | (intro hk0 H1 hk1;have hk2:=hk1 _ rfl;simp [*] at hk2;simp [*,-Option.some.injEq])));(focus (first | (intro _ _;rfl) | (intro b hb;replace hb:b=_:=hb;simp [hb, *];done)))) | ((apply ASlK.pass);(focus simp [*];done)) | ((refine ASlK.nil ?_);(try simp only [Xw,Xx,reduceIte,Nat.reduceEqDiff])))
  repeat (first | (first | (apply Xf;rfl) | apply Xj);focus simp [*,-Option.some.injEq];rfl | (first | (apply Xa;rfl) | apply Xb);(focus simp [*];done);focus simp [*,-Option.some.injEq];rfl | (first | (apply Xg;rfl) | apply Xk);(focus simp [*];done) | (first | refine Xl ?_ | refine Xi ?_ | refine Xh ?_ | refine Xo ?_ | refine Xq ?_);try simp only [Xw,Xx,reduceIte,Nat.reduceEqDiff] | refine Xn ?_ | refine Xp rfl ?_ | refine Xc ?_ | apply Xd;focus simp [*];done | apply Xe;focus simp [*];done | refine Ya rfl rfl ?_)
  refine⟨by ((repeat (first | exact Keeps.base _ _ _ _ | (with_reducible exact Keeps.refl _ _ _) | (refine Keeps.put rfl ?_) | (refine Keeps.over' rfl rfl ?_)))),hlt,(by first | (simp (disch:=omega) [putE,over,ofV,ofS, *];done) | (simp (disch:=omega) [putE,over,ofV,ofS, *];rfl)),sc1++[⟨pn,pt⟩],_,a,⟨upd_hit _ _ _,OwnR.isN0 (by rw [upd_miss _ _ _ _ (by omega)];exact hN) (by omega) _ (by simp [hsl]),by omega,(fun k hk=>by cases hk;omega)⟩,by rw [upd_miss _ _ _ _ (by omega)];exact hX3,by rw [upd_miss _ _ _ _ (by omega)];exact hY3,by rw [upd_miss _ _ _ _ (by omega)];exact hA3,(fun x k hk=>by cases hk;omega),by simp [hsl],hf⟩
 ·have hi':i=sc.length:=by omega
  subst hi';rw [List.drop_eq_nil_of_le (Nat.le_refl _),scpT] at hf;rw [← hf] at hw;simp only at hw;clear hf hb hi h42
  repeat (first | (first | (apply Xf;rfl) | apply Xj);focus simp [*,-Option.some.injEq];rfl | (first | (apply Xa;rfl) | apply Xb);(focus simp [*];done);focus simp [*,-Option.some.injEq];rfl | (first | (apply Xg;rfl) | apply Xk);(focus simp [*];done) | (first | refine Xl ?_ | refine Xi ?_ | refine Xh ?_ | refine Xo ?_ | refine Xq ?_);try simp only [Xw,Xx,reduceIte,Nat.reduceEqDiff] | refine Xn ?_ | refine Xp rfl ?_ | refine Xc ?_ | apply Xd;focus simp [*];done | apply Xe;focus simp [*];done | refine Ya rfl rfl ?_)
  ((apply Xr);(focus rfl);(focus (first | rfl | (simp [*];done)));(focus simp [*,-Option.some.injEq];rfl);kernel_rfl)
  ·exact hdp _
  clear hdp
  by_cases hd:32<exDepth e
  ·rw [if_pos hd] at hw;rw [← hw];have hd':(32:Int)<exDepth e:=by omega
   clear hw hd
   repeat (first | (first | (apply Xf;rfl) | apply Xj);focus simp [*,-Option.some.injEq];rfl | (first | (apply Xa;rfl) | apply Xb);(focus simp [*];done);focus simp [*,-Option.some.injEq];rfl | (first | (apply Xg;rfl) | apply Xk);(focus simp [*];done) | (first | refine Xl ?_ | refine Xi ?_ | refine Xh ?_ | refine Xo ?_ | refine Xq ?_);try simp only [Xw,Xx,reduceIte,Nat.reduceEqDiff] | refine Xn ?_ | refine Xp rfl ?_ | refine Xc ?_ | apply Xd;focus simp [*];done | apply Xe;focus simp [*];done | refine Ya rfl rfl ?_)
   (refine⟨_,(by simp [*];rfl),?_⟩;(try simp only [packA]))
   rfl
  rw [if_neg hd] at hw;have hd':¬ (32:Int)<exDepth e:=by omega
  clear hd;have P1:=ck.same (H1:=upd H2 nx3 (.cells [.str []])) (by rw [upd_miss _ _ _ _ (by omega)];exact hb0) (Nat.le_succ nx3) (fun x hx _=>upd_miss _ _ _ _ (by omega));have hrun:=tk_runE h hC c [] nx2 e he (upd H2 nx3 (.cells [.str []])) (nx3+1) c1 sc1 (by omega) a P1.ck (nx2+1) (nx+1) nx3 (by rw [upd_miss _ _ _ _ (by omega)];exact hX) (by rw [upd_miss _ _ _ _ (by omega)];exact hY) (upd_hit _ _ _) (.ptr nx2 0);rw [hw] at hrun
  repeat (first | (first | (apply Xf;rfl) | apply Xj);focus simp [*,-Option.some.injEq];rfl | (first | (apply Xa;rfl) | apply Xb);(focus simp [*];done);focus simp [*,-Option.some.injEq];rfl | (first | (apply Xg;rfl) | apply Xk);(focus simp [*];done) | (first | refine Xl ?_ | refine Xi ?_ | refine Xh ?_ | refine Xo ?_ | refine Xq ?_);try simp only [Xw,Xx,reduceIte,Nat.reduceEqDiff] | refine Xn ?_ | refine Xp rfl ?_ | refine Xc ?_ | apply Xd;focus simp [*];done | apply Xe;focus simp [*];done | refine Ya rfl rfl ?_)
  ((apply AOpl.callG);(focus rfl);(focus (first | rfl | (simp [*];done)));(focus simp [*,-Option.some.injEq];rfl);kernel_rfl)
  refine hrun.mono ?_;rintro r H3 nx4 ⟨rfl,rfl⟩;simp only;have hnz:=nz_ex (h:=h) (c:=c) (sc:=sc1) e;rw [hw] at hnz;clear hrun P1 ck hX hY hA hb0 hw;cases w with
  | error x =>
    have hx0:¬ x=0:=fun e=>by subst e;exact hnz rfl
    have e1:tkE (.error x)=x:=rfl;rw [e1];clear hnz
    repeat (first | (first | (apply Xf;rfl) | apply Xj);focus simp [*,-Option.some.injEq];rfl | (first | (apply Xa;rfl) | apply Xb);(focus simp [*];done);focus simp [*,-Option.some.injEq];rfl | (first | (apply Xg;rfl) | apply Xk);(focus simp [*];done) | (first | refine Xl ?_ | refine Xi ?_ | refine Xh ?_ | refine Xo ?_ | refine Xq ?_);try simp only [Xw,Xx,reduceIte,Nat.reduceEqDiff] | refine Xn ?_ | refine Xp rfl ?_ | refine Xc ?_ | apply Xd;focus simp [*];done | apply Xe;focus simp [*];done | refine Ya rfl rfl ?_)
    (refine⟨_,(by simp [*];rfl),?_⟩;(try simp only [packA]))
    rfl
  | ok t =>
    have e1:((tkE (.ok t):Nat):Int)=0:=rfl;rw [e1];clear hnz
    repeat (first | (first | (apply Xf;rfl) | apply Xj);focus simp [putT, *,-Option.some.injEq];rfl | (first | (apply Xa;rfl) | apply Xb);(focus simp [putT, *];done);focus simp [putT, *,-Option.some.injEq];rfl | (first | (apply Xg;rfl) | apply Xk);(focus simp [putT, *];done) | (first | refine Xl ?_ | refine Xi ?_ | refine Xh ?_ | refine Xo ?_ | refine Xq ?_);try simp only [Xw,Xx,reduceIte,Nat.reduceEqDiff] | refine Xn ?_ | refine Xp rfl ?_ | refine Xc ?_ | apply Xd;focus simp [putT, *];done | apply Xe;focus simp [putT, *];done | refine Ya rfl rfl ?_)
    (refine⟨_,(by simp [*];rfl),?_⟩;(try simp only [packA]))
    rfl
end Go.Proofs.YtoookjadbhdfhaaDoor
