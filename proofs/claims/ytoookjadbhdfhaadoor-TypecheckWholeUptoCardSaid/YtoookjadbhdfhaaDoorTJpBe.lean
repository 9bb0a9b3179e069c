/-
  The hierarchy of a source; walked.
-/
import Derived.Test.YtoookjadbhdfhaaDoorTTkChk
import Derived.Test.YtoookjadbhdfhaaDoorTJpAs
set_option linter.unusedSectionVars false
set_option linter.unusedSimpArgs false
set_option linter.unnecessarySimpa false
set_option linter.unusedVariables false
set_option linter.unusedSimpArgs false
set_option linter.unusedVariables false
namespace Go.Proofs.YtoookjadbhdfhaaDoor
section
open Lx Ax Go.RowKit
attribute [local simp] stepS Ax.stepT Dl.on qstep astep estep rd putE over argE ofV ofS loadA pickCells isAggD faddA fieldA partA iaddA idxA sliA bnd binA intA strA unA convA bltA lenA mapOf findK keyD scalD storeA appA srcA srcD upd drp Dl.hp Dl.nx CV.cs CV.one buildA placesA fillA zrep tasA ifaceD eqA eqFs eqIs range2 copyA nbeq nble nblt decEq beqI bneI beqS bneS isED Int.ofNat_inj List.getElem?_map List.getElem?_eq_getElem Option.map_some ti_int ti_bool ti_str ti_i64 ti_Strs ti_Cds ti_Cd ti_Flds ti_Fld ti_Sgs ti_Sg ti_Hi ti_So ti_Cls ti_Cl ti_Mes ti_Me gd gdB callA resA op1
attribute [local simp] nu1 nu2 nu3 nu4 nu5 nu6 nu7 nu8 nu9 nu10 nu11 nu12 nu13 upd_upd
/-- The lists of a program fit. -/
structure LB (l:List Cl):Prop where
 len:l.length≤lim
 fl:∀ c∈l,c.fields.length≤lim
 ml:∀ c∈l,c.methods.length≤lim
 pl:∀ c∈l,∀ m∈c.methods,m.params.length≤lim
def cvSo (l:List Cl):CV:=.agg [.lst (l.map cvC)]
theorem puSo (l:List Cl):puV (cvSo l)=true:=by simp [cvSo,puL,puV,puRm puC]
set_option maxRecDepth 10000 in
set_option maxHeartbeats 8000000 in
theorem tk_Of (l:List Cl)(hB:LB l):FCall1 Tryd.prog tkG 9 [cvSo l] (cvH (hiOf l)):=by
 refine FCall.one tkG_pu (by simp [puL,puSo]) (puH _) ?_;refine FCall.ofBody Tryd.func9 rfl rfl fun nx=>?_
 have hl:=hB.len
 repeat (first | (first | (apply Xf;rfl) | apply Xj);focus simp [cvSo, *,-Option.some.injEq];rfl | (first | (apply Xa;rfl) | apply Xb);(focus simp [cvSo, *];done);focus simp [cvSo, *,-Option.some.injEq];rfl | (first | (apply Xg;rfl) | apply Xk);(focus simp [cvSo, *];done) | (first | refine Xl ?_ | refine Xi ?_ | refine Xh ?_ | refine Xo ?_ | refine Xq ?_);try simp only [Xw,Xx,reduceIte,Nat.reduceEqDiff] | refine Xn ?_ | refine Xp rfl ?_ | refine Xc ?_ | apply Xd;focus simp [cvSo, *];done | apply Xe;focus simp [cvSo, *];done | refine Ya rfl rfl ?_)
 refine AWp.countO l.length [5,6,8,9,11,15,30,44] 16 (fun i e H1 nx1=>e 15=.int .i64 i∧H1 (nx+1)=some (.cells [.nils])∧∃ c,H1 (nx+1+1)=some (.cells [c])∧OwnG cvD 4 (nx+1+1+1) H1 nx1 c ((l.take i).map cdOf)) ⟨(by first | (simp (disch:=omega) [putE,over,ofV,ofS, *];done) | (simp (disch:=omega) [putE,over,ofV,ofS, *];rfl)),by simp [upd],.nils,by simp [upd],OwnG.nil⟩ ?_;rintro i v H1 nx1 hi hn1 ⟨h15,h2,c,h3,ho⟩;have q2:=far (show nx+1<nx1 by omega);have q3:=far (show nx+1+1<nx1 by omega)
 repeat (first | (first | (apply Xf;rfl) | apply Xj);focus simp [*,-Option.some.injEq];rfl | (first | (apply Xa;rfl) | apply Xb);(focus simp [*];done);focus simp [*,-Option.some.injEq];rfl | (first | (apply Xg;rfl) | apply Xk);(focus simp [*];done) | (first | refine Xl ?_ | refine Xi ?_ | refine Xh ?_ | refine Xo ?_ | refine Xq ?_);try simp only [Xw,Xx,reduceIte,Nat.reduceEqDiff] | refine Xn ?_ | refine Xp rfl ?_ | refine Xc ?_ | apply Xd;focus simp [*];done | apply Xe;focus simp [*];done | refine Ya rfl rfl ?_)
 (((apply AWp.cond');(focus (simp [*,-Ax.CV.bool.injEq];rfl))) <;> (intro hb) <;> (try simp only [decide_eq_true_eq,decide_eq_false_iff_not,Bool.not_eq_true',Bool.not_eq_false',Bool.not_eq_true,Bool.not_eq_false] at hb))
 ·have hlt:i<l.length:=hb;have hwi:=lim_wrap hlt hl;have hfl:=hB.fl _ (List.getElem_mem hlt);have hml:=hB.ml _ (List.getElem_mem hlt);have hpl:=hB.pl _ (List.getElem_mem hlt);have hcl:=clone_F l[i].fields hfl;clear hb
  repeat (first | (first | (apply Xf;rfl) | apply Xj);focus simp [cvC, *,-Option.some.injEq];rfl | (first | (apply Xa;rfl) | apply Xb);(focus simp [cvC, *];done);focus simp [cvC, *,-Option.some.injEq];rfl | (first | (apply Xg;rfl) | apply Xk);(focus simp [cvC, *];done) | (first | refine Xl ?_ | refine Xi ?_ | refine Xh ?_ | refine Xo ?_ | refine Xq ?_);try simp only [Xw,Xx,reduceIte,Nat.reduceEqDiff] | refine Xn ?_ | refine Xp rfl ?_ | refine Xc ?_ | apply Xd;focus simp [cvC, *];done | apply Xe;focus simp [cvC, *];done | refine Ya rfl rfl ?_)
  (first | (first | (apply AOpl.callN;rfl) | apply ASl.call);(focus simp [*,-Option.some.injEq];rfl);kernel_rfl | (first | (apply AOpl.callNG;rfl) | apply ASl.callg);(focus simp [*];done);(focus simp [*,-Option.some.injEq];rfl);kernel_rfl)
  ·exact hcl
  clear hcl
  repeat (first | (first | (apply Xf;rfl) | apply Xj);focus simp [*,-Option.some.injEq];rfl | (first | (apply Xa;rfl) | apply Xb);(focus simp [*];done);focus simp [*,-Option.some.injEq];rfl | (first | (apply Xg;rfl) | apply Xk);(focus simp [*];done) | (first | refine Xl ?_ | refine Xi ?_ | refine Xh ?_ | refine Xo ?_ | refine Xq ?_);try simp only [Xw,Xx,reduceIte,Nat.reduceEqDiff] | refine Xn ?_ | refine Xp rfl ?_ | refine Xc ?_ | apply Xd;focus simp [*];done | apply Xe;focus simp [*];done | refine Ya rfl rfl ?_)
  refine AWp.countO l[i].methods.length [8,9,11,30,44] 31 (fun j e H2 nx2=>e 30=.int .i64 j∧(∀ b,b<nx1→H2 b=H1 b)∧∃ c2,H2 (nx1+1+8)=some (.cells [.str l[i].name,.str l[i].super,.lst (l[i].fields.map cvF),c2])∧OwnG cvG 4 (nx1+1+10) H2 nx2 c2 ((l[i].methods.take j).map sgOf)) ⟨(by first | (simp (disch:=omega) [putE,over,ofV,ofS, *];done) | (simp (disch:=omega) [putE,over,ofV,ofS, *];rfl)),by intro b hb;have:=far hb;simp [upd, *],.nils,by simp [upd],OwnG.nil⟩ ?_;rintro j v2 H2 nx2 hj hn2 ⟨h30,hF2,c2,h6,ho2⟩;have q6:=far (show nx1+1+8<nx2 by omega)
  repeat (first | (first | (apply Xf;rfl) | apply Xj);focus simp [*,-Option.some.injEq];rfl | (first | (apply Xa;rfl) | apply Xb);(focus simp [*];done);focus simp [*,-Option.some.injEq];rfl | (first | (apply Xg;rfl) | apply Xk);(focus simp [*];done) | (first | refine Xl ?_ | refine Xi ?_ | refine Xh ?_ | refine Xo ?_ | refine Xq ?_);try simp only [Xw,Xx,reduceIte,Nat.reduceEqDiff] | refine Xn ?_ | refine Xp rfl ?_ | refine Xc ?_ | apply Xd;focus simp [*];done | apply Xe;focus simp [*];done | refine Ya rfl rfl ?_)
  (((apply AWp.cond');(focus (simp [*,-Ax.CV.bool.injEq];rfl))) <;> (intro hb) <;> (try simp only [decide_eq_true_eq,decide_eq_false_iff_not,Bool.not_eq_true',Bool.not_eq_false',Bool.not_eq_true,Bool.not_eq_false] at hb))
  ·have hlj:j<l[i].methods.length:=hb;have hwj:=lim_wrap hlj hml;have hpj:=hpl _ (List.getElem_mem hlj);clear hb;generalize hm:l[i].methods[j]=m at *
   repeat (first | (first | (apply Xf;rfl) | apply Xj);focus simp [cvM, *,-Option.some.injEq];rfl | (first | (apply Xa;rfl) | apply Xb);(focus simp [cvM, *];done);focus simp [cvM, *,-Option.some.injEq];rfl | (first | (apply Xg;rfl) | apply Xk);(focus simp [cvM, *];done) | (first | refine Xl ?_ | refine Xi ?_ | refine Xh ?_ | refine Xo ?_ | refine Xq ?_);try simp only [Xw,Xx,reduceIte,Nat.reduceEqDiff] | refine Xn ?_ | refine Xp rfl ?_ | refine Xc ?_ | apply Xd;focus simp [cvM, *];done | apply Xe;focus simp [cvM, *];done | refine Ya rfl rfl ?_)
   refine AWp.countO m.params.length [11,44] 45 (fun q e H3 nx3=>e 44=.int .i64 q∧(∀ b,b<nx2→H3 b=H2 b)∧∃ c3,H3 (nx2+1)=some (.cells [.str m.name,.bool m.static,c3,.str m.result])∧OwnG cvN 1 (nx2+1+1) H3 nx3 c3 ((m.params.take q).map (·.typ))) ⟨(by first | (simp (disch:=omega) [putE,over,ofV,ofS, *];done) | (simp (disch:=omega) [putE,over,ofV,ofS, *];rfl)),by intro b hb;have:=far hb;simp [upd, *],.nils,by simp [upd],OwnG.nil⟩ ?_;rintro q v3 H3 nx3 hq hn3 ⟨h44,hF3,c3,h9,ho3⟩;have q9:=far (show nx2+1<nx3 by omega);have q9':¬ nx2=nx3:=by omega
   repeat (first | (first | (apply Xf;rfl) | apply Xj);focus simp [*,-Option.some.injEq];rfl | (first | (apply Xa;rfl) | apply Xb);(focus simp [*];done);focus simp [*,-Option.some.injEq];rfl | (first | (apply Xg;rfl) | apply Xk);(focus simp [*];done) | (first | refine Xl ?_ | refine Xi ?_ | refine Xh ?_ | refine Xo ?_ | refine Xq ?_);try simp only [Xw,Xx,reduceIte,Nat.reduceEqDiff] | refine Xn ?_ | refine Xp rfl ?_ | refine Xc ?_ | apply Xd;focus simp [*];done | apply Xe;focus simp [*];done | refine Ya rfl rfl ?_)
   (((apply AWp.cond');(focus (simp [*,-Ax.CV.bool.injEq];rfl))) <;> (intro hb) <;> (try simp only [decide_eq_true_eq,decide_eq_false_iff_not,Bool.not_eq_true',Bool.not_eq_false',Bool.not_eq_true,Bool.not_eq_false] at hb))
   ·have hlq:q<m.params.length:=hb;have hwq:=lim_wrap hlq hpj;clear hb
    repeat (first | (first | (apply Xf;rfl) | apply Xj);focus simp [cvF, *,-Option.some.injEq];rfl | (first | (apply Xa;rfl) | apply Xb);(focus simp [cvF, *];done);focus simp [cvF, *,-Option.some.injEq];rfl | (first | (apply Xg;rfl) | apply Xk);(focus simp [cvF, *];done) | (first | refine Xl ?_ | refine Xi ?_ | refine Xh ?_ | refine Xo ?_ | refine Xq ?_);try simp only [Xw,Xx,reduceIte,Nat.reduceEqDiff] | refine Xn ?_ | refine Xp rfl ?_ | refine Xc ?_ | apply Xd;focus simp [cvF, *];done | apply Xe;focus simp [cvF, *];done | refine Ya rfl rfl ?_)
    refine AOpl.appG cvN_len cvN_one ti_Strs ti_str m.params[q].typ ((ho3.updN (x:=nx3) (Nat.le_refl _)).up (Nat.le_succ _) |>.updN (x:=nx3+1) (by omega) |>.up (nx':=nx3+2) (by omega)) (by omega) (by rw [List.length_map,List.length_take];simp only [lim] at hpj;omega) ?_ (hxb:=by simp [upd,cvN]);intro H4 hN hfr;have h9':H4 (nx2+1)=some (.cells [.str m.name,.bool m.static,c3,.str m.result]):=by rw [hfr _ (by omega)];simp [upd, *]
    have e:(m.params.take (q+1)).map (·.typ)=(m.params.take q).map (·.typ)++[m.params[q].typ]:=by rw [take_snoc hlq,List.map_append];rfl
    rw [← e] at hN
    repeat (first | (first | (apply Xf;rfl) | apply Xj);focus simp [*,-Option.some.injEq];rfl | (first | (apply Xa;rfl) | apply Xb);(focus simp [*];done);focus simp [*,-Option.some.injEq];rfl | (first | (apply Xg;rfl) | apply Xk);(focus simp [*];done) | (first | refine Xl ?_ | refine Xi ?_ | refine Xh ?_ | refine Xo ?_ | refine Xq ?_);try simp only [Xw,Xx,reduceIte,Nat.reduceEqDiff] | refine Xn ?_ | refine Xp rfl ?_ | refine Xc ?_ | apply Xd;focus simp [*];done | apply Xe;focus simp [*];done | refine Ya rfl rfl ?_)
    refine⟨by ((repeat (first | exact Keeps.base _ _ _ _ | (with_reducible exact Keeps.refl _ _ _) | (refine Keeps.put rfl ?_) | (refine Keeps.over' rfl rfl ?_)))),hlq,(by first | (simp (disch:=omega) [putE,over,ofV,ofS, *];done) | (simp (disch:=omega) [putE,over,ofV,ofS, *];rfl)),?_,_,by simp [upd];exact rfl,?_⟩
    ·intro b hb;rw [upd_miss _ _ _ _ (by omega),hfr b (by omega)];have:=far (show b<nx3 by omega);simp [upd, *]
    ·refine OwnG.updL ?_ (by omega);exact OwnG.isN hN (by omega) (by omega) _ (by simp;omega)
   ·have hq':q=m.params.length:=by omega
    subst hq';rw [List.take_length] at ho3;refine Xh ?_;simp only [Xw,Xx,reduceIte,Nat.reduceEqDiff];refine AWp.own2lstG cvN_len [.str m.name,.bool m.static] [.str m.result] ho3 h9 (by omega) ?_;intro H4 h9' hfr;have hg:sgOf m=⟨m.name,m.static,m.params.map (·.typ),m.result⟩:=rfl;have hF4:∀ b,b<nx2→H4 b=H2 b:=fun b hb=>by rw [hfr b (by omega) (by omega),hF3 b hb]
    have h6':H4 (nx1+1+8)=some (.cells [.str l[i].name,.str l[i].super,.lst (l[i].fields.map cvF),c2]):=by rw [hF4 _ (by omega)];exact h6
    have ho2':OwnG cvG 4 (nx1+1+10) H4 nx2 c2 ((l[i].methods.take j).map sgOf):=ho2.keep (Nat.le_refl _) fun b _ hb=>hF4 b hb
    have q6:=far (show nx1+1+8<nx3 by omega);have q9:=far (show nx2+1<nx3 by omega);generalize m.params.map (·.typ)=ps at *;clear h9 ho3 hq hb ho2 h6
    repeat (first | (first | (apply Xf;rfl) | apply Xj);focus simp [*,-Option.some.injEq];rfl | (first | (apply Xa;rfl) | apply Xb);(focus simp [*];done);focus simp [*,-Option.some.injEq];rfl | (first | (apply Xg;rfl) | apply Xk);(focus simp [*];done) | (first | refine Xl ?_ | refine Xi ?_ | refine Xh ?_ | refine Xo ?_ | refine Xq ?_);try simp only [Xw,Xx,reduceIte,Nat.reduceEqDiff] | refine Xn ?_ | refine Xp rfl ?_ | refine Xc ?_ | apply Xd;focus simp [*];done | apply Xe;focus simp [*];done | refine Ya rfl rfl ?_)
    refine AOpl.appG cvG_len cvG_one ti_Sgs ti_Sg (sgOf m) ((ho2'.up (nx':=nx3) (by omega)).updN (x:=nx3) (Nat.le_refl _) |>.up (nx':=nx3+1) (by omega)) (by omega) (by rw [List.length_map,List.length_take];simp only [lim] at hml;omega) ?_ (hxb:=by rw [hg];simp [upd,cvG]);intro H5 hN hfr5;have h6'':H5 (nx1+1+8)=some (.cells [.str l[i].name,.str l[i].super,.lst (l[i].fields.map cvF),c2]):=by rw [hfr5 _ (by omega)];simp [upd, *]
    have e:(l[i].methods.take (j+1)).map sgOf=(l[i].methods.take j).map sgOf++[sgOf m]:=by rw [take_snoc hlj,List.map_append,hm];rfl
    rw [← e] at hN
    repeat (first | (first | (apply Xf;rfl) | apply Xj);focus simp [*,-Option.some.injEq];rfl | (first | (apply Xa;rfl) | apply Xb);(focus simp [*];done);focus simp [*,-Option.some.injEq];rfl | (first | (apply Xg;rfl) | apply Xk);(focus simp [*];done) | (first | refine Xl ?_ | refine Xi ?_ | refine Xh ?_ | refine Xo ?_ | refine Xq ?_);try simp only [Xw,Xx,reduceIte,Nat.reduceEqDiff] | refine Xn ?_ | refine Xp rfl ?_ | refine Xc ?_ | apply Xd;focus simp [*];done | apply Xe;focus simp [*];done | refine Ya rfl rfl ?_)
    refine⟨by ((repeat (first | exact Keeps.base _ _ _ _ | (with_reducible exact Keeps.refl _ _ _) | (refine Keeps.put rfl ?_) | (refine Keeps.over' rfl rfl ?_)))),hlj,(by first | (simp (disch:=omega) [putE,over,ofV,ofS, *];done) | (simp (disch:=omega) [putE,over,ofV,ofS, *];rfl)),?_,_,by simp [upd];exact rfl,?_⟩
    ·intro b hb;rw [upd_miss _ _ _ _ (by omega),hfr5 b (by omega),upd_miss _ _ _ _ (by omega),hF4 b (by omega),hF2 b hb]
    ·refine OwnG.updL ?_ (by omega);exact OwnG.isN hN (by omega) (by omega) _ (by simp;omega)
  ·have hj':j=l[i].methods.length:=by omega
   subst hj';rw [List.take_length] at ho2;refine Xh ?_;simp only [Xw,Xx,reduceIte,Nat.reduceEqDiff];refine AWp.own2lstG cvG_len [.str l[i].name,.str l[i].super,.lst (l[i].fields.map cvF)] [] ho2 h6 (by omega) ?_;intro H4 h6' hfr;have hg:cdOf l[i]=⟨l[i].name,l[i].super,l[i].fields,l[i].methods.map sgOf⟩:=rfl;have hF4:∀ b,b<nx1→H4 b=H1 b:=fun b hb=>by rw [hfr b (by omega) (by omega),hF2 b hb]
   have h3':H4 (nx+1+1)=some (.cells [c]):=by rw [hF4 _ (by omega)];exact h3
   have h2':H4 (nx+1)=some (.cells [.nils]):=by rw [hF4 _ (by omega)];exact h2
   have ho':OwnG cvD 4 (nx+1+1+1) H4 nx1 c ((l.take i).map cdOf):=ho.keep (Nat.le_refl _) fun b _ hb=>hF4 b hb
   have q3:=far (show nx+1+1<nx2 by omega);have q3':¬ nx+1=nx2:=by omega
   have q6:=far (show nx1+1+8<nx2 by omega);generalize l[i].methods.map sgOf=ms at *;clear h6 ho2 hj hb ho h3 h2
   repeat (first | (first | (apply Xf;rfl) | apply Xj);focus simp [*,-Option.some.injEq];rfl | (first | (apply Xa;rfl) | apply Xb);(focus simp [*];done);focus simp [*,-Option.some.injEq];rfl | (first | (apply Xg;rfl) | apply Xk);(focus simp [*];done) | (first | refine Xl ?_ | refine Xi ?_ | refine Xh ?_ | refine Xo ?_ | refine Xq ?_);try simp only [Xw,Xx,reduceIte,Nat.reduceEqDiff] | refine Xn ?_ | refine Xp rfl ?_ | refine Xc ?_ | apply Xd;focus simp [*];done | apply Xe;focus simp [*];done | refine Ya rfl rfl ?_)
   refine AOpl.appG cvD_len cvD_one ti_Cds ti_Cd (cdOf l[i]) ((ho'.up (nx':=nx2) (by omega)).updN (x:=nx2) (Nat.le_refl _) |>.up (nx':=nx2+1) (by omega)) (by omega) (by rw [List.length_map,List.length_take];simp only [lim] at hl;omega) ?_ (hxb:=by rw [hg];simp [upd,cvD]);intro H5 hN hfr5;have h3'':H5 (nx+1+1)=some (.cells [c]):=by rw [hfr5 _ (by omega)];simp [upd, *]
   have h2'':H5 (nx+1)=some (.cells [.nils]):=by
    rw [hfr5 _ (by omega)];have:=far (show nx+1<nx2 by omega);simp [upd, *]
   have e:(l.take (i+1)).map cdOf=(l.take i).map cdOf++[cdOf l[i]]:=by rw [take_snoc hlt,List.map_append];rfl
   rw [← e] at hN
   repeat (first | (first | (apply Xf;rfl) | apply Xj);focus simp [*,-Option.some.injEq];rfl | (first | (apply Xa;rfl) | apply Xb);(focus simp [*];done);focus simp [*,-Option.some.injEq];rfl | (first | (apply Xg;rfl) | apply Xk);(focus simp [*];done) | (first | refine Xl ?_ | refine Xi ?_ | refine Xh ?_ | refine Xo ?_ | refine Xq ?_);try simp only [Xw,Xx,reduceIte,Nat.reduceEqDiff] | refine Xn ?_ | refine Xp rfl ?_ | refine Xc ?_ | apply Xd;focus simp [*];done | apply Xe;focus simp [*];done | refine Ya rfl rfl ?_)
   refine⟨by ((repeat (first | exact Keeps.base _ _ _ _ | (with_reducible exact Keeps.refl _ _ _) | (refine Keeps.put rfl ?_) | (refine Keeps.over' rfl rfl ?_)))),hlt,(by first | (simp (disch:=omega) [putE,over,ofV,ofS, *];done) | (simp (disch:=omega) [putE,over,ofV,ofS, *];rfl)),by simp [upd, *],_,by simp [upd];exact rfl,?_⟩;refine OwnG.updL ?_ (by omega);exact OwnG.isN hN (by omega) (by omega) _ (by simp;omega)
 ·have hi':i=l.length:=by omega
  subst hi';rw [List.take_length] at ho;refine Xh ?_;simp only [Xw,Xx,reduceIte,Nat.reduceEqDiff];refine AWp.own2lstG cvD_len [] [] ho h3 (by omega) ?_;intro H4 h3' hfr;have h2':H4 (nx+1)=some (.cells [.nils]):=by rw [hfr _ (by omega) (by omega)];exact h2
  have hd:l.map cdOf=hiOf l:=rfl;rw [hd] at h3';clear h3 h2 ho hb hi hfr hd
  repeat (first | (first | (apply Xf;rfl) | apply Xj);focus simp [*,-Option.some.injEq];rfl | (first | (apply Xa;rfl) | apply Xb);(focus simp [*];done);focus simp [*,-Option.some.injEq];rfl | (first | (apply Xg;rfl) | apply Xk);(focus simp [*];done) | (first | refine Xl ?_ | refine Xi ?_ | refine Xh ?_ | refine Xo ?_ | refine Xq ?_);try simp only [Xw,Xx,reduceIte,Nat.reduceEqDiff] | refine Xn ?_ | refine Xp rfl ?_ | refine Xc ?_ | apply Xd;focus simp [*];done | apply Xe;focus simp [*];done | refine Ya rfl rfl ?_)
  (refine⟨_,(by simp [*];rfl),?_⟩;(try simp only [packA]))
  all_goals rfl
end
section
open Lx Ax Go.RowKit
attribute [local simp] stepS Ax.stepT Dl.on qstep astep estep rd putE over argE ofV ofS loadA pickCells isAggD faddA fieldA partA iaddA idxA sliA bnd binA intA strA unA convA bltA lenA mapOf findK keyD scalD storeA appA srcA srcD upd drp Dl.hp Dl.nx CV.cs CV.one buildA placesA fillA zrep tasA ifaceD eqA eqFs eqIs range2 copyA nbeq nble nblt decEq beqI bneI beqS bneS isED Int.ofNat_inj List.getElem?_map List.getElem?_eq_getElem Option.map_some ti_int ti_bool ti_str ti_i64 ti_Strs ti_Cds ti_Cd ti_Flds ti_Fld ti_Sgs ti_Sg ti_Hi ti_Exs ti_Ex ti_Chk ti_Flt ti_Errno gd gdB callA resA op1
attribute [local simp] nu1 nu2 nu3 nu4 nu5 nu6 nu7 nu8 nu9 nu10 nu11 nu12 nu13 upd_upd
/-- The fault that leaves the checker. -/
def fltV (e:Nat):CV:=.iface 99 (.agg [.int .i64 (e:Int)])
def tkR {α:Type}(v:α→CV):Tk α→Res
 | .ok a=>.ret (v a)
 | .error e=>.pan (fltV e)
abbrev tkB:Tk Bytes→Res:=tkR fun s=>.str s
abbrev tkU:Tk Unit→Res:=tkR fun _=>.tup []
theorem tkB_pu (t:Tk Bytes):(tkB t).pu=true:=by cases t <;> rfl
theorem tkU_pu (t:Tk Unit):(tkU t).pu=true:=by cases t <;> rfl
set_option maxRecDepth 10000 in
set_option maxHeartbeats 4000000 in
theorem need_ok (e:Int):FCall1 Tryd.prog tkG 46 [.bool true,.int .i64 e] (.tup []):=by
 refine FCall.one tkG_pu rfl rfl ?_;refine FCall.ofBody Tryd.func46 rfl rfl fun nx=>?_
 repeat (first | (first | (apply Xf;rfl) | apply Xj);focus simp [*,-Option.some.injEq];rfl | (first | (apply Xa;rfl) | apply Xb);(focus simp [*];done);focus simp [*,-Option.some.injEq];rfl | (first | (apply Xg;rfl) | apply Xk);(focus simp [*];done) | (first | refine Xl ?_ | refine Xi ?_ | refine Xh ?_ | refine Xo ?_ | refine Xq ?_);try simp only [Xw,Xx,reduceIte,Nat.reduceEqDiff] | refine Xn ?_ | refine Xp rfl ?_ | refine Xc ?_ | apply Xd;focus simp [*];done | apply Xe;focus simp [*];done | refine Ya rfl rfl ?_)
 (refine⟨_,(by simp [*];rfl),?_⟩;(try simp only [packA]))
set_option maxRecDepth 10000 in
set_option maxHeartbeats 4000000 in
theorem need_no (e:Nat):FRes Tryd.prog tkG 46 [.bool false,.int .i64 (e:Int)] (.pan (fltV e)):=by
 refine FRes.ofBody tkG_pu rfl rfl Tryd.func46 rfl rfl fun nx=>?_
 repeat (first | (first | (apply Xf;rfl) | apply Xj);focus simp [*,-Option.some.injEq];rfl | (first | (apply Xa;rfl) | apply Xb);(focus simp [*];done);focus simp [*,-Option.some.injEq];rfl | (first | (apply Xg;rfl) | apply Xk);(focus simp [*];done) | (first | refine Xl ?_ | refine Xi ?_ | refine Xh ?_ | refine Xo ?_ | refine Xq ?_);try simp only [Xw,Xx,reduceIte,Nat.reduceEqDiff] | refine Xn ?_ | refine Xp rfl ?_ | refine Xc ?_ | apply Xd;focus simp [*];done | apply Xe;focus simp [*];done | refine Ya rfl rfl ?_)
 refine AOpl.panic (by simp;exact⟨rfl,rfl⟩) ?_;rfl
/-- The checker, frozen. -/
def ckV (h:List Cd)(cls res:Bytes)(sc:List Fld)(at':Int):CV:=.rop [.lst (h.map cvD),.str cls,.str res,.lst (sc.map cvF),.int .i64 at']
theorem ckV_pu (h:List Cd)(cls res:Bytes)(sc:List Fld)(at':Int):puV (ckV h cls res sc at')=true:=by simp [ckV,puL,puV,puRm puD,puRm puF]
def varV:Option Bytes→CV
 | some t=>.tup [.str t,.bool true]
 | none=>.tup [.str [],.bool false]
theorem varF_idx (sc:List Fld)(s:Bytes):match sc.findIdx? (fun c=>c.name == s) with
  | some k=>∃ hk:k<sc.length,varF sc s=some sc[k].typ
  | none=>varF sc s=none:=by
 unfold varF
 induction sc with
 | nil=>rfl
 | cons a l ih =>
   simp only [List.findIdx?_cons,List.find?_cons];cases h:(a.name == s) with
   | true=>exact⟨by simp,rfl⟩
   | false =>
     simp only [Bool.false_eq_true,if_false];revert ih;cases l.findIdx? (fun c=>c.name == s) with
     | none=>intro ih;simpa using ih
     | some k=>intro ⟨hk,ih⟩;exact⟨by simpa using hk,by simpa using ih⟩
section
variable (h:List Cd) (cls res:Bytes) (sc:List Fld) (at':Int)
set_option maxRecDepth 10000 in
set_option maxHeartbeats 4000000 in
theorem tk_variable (hs:sc.length≤lim)(s:Bytes):FCall1 Tryd.prog tkG 43 [ckV h cls res sc at',.str s] (varV (varF sc s)):=by
 refine FCall.one tkG_pu (by simp [puL,ckV_pu];rfl) (by cases varF sc s <;> rfl) ?_;refine FCall.ofBody Tryd.func43 rfl rfl fun nx=>?_
 have hx:=ix_V s sc hs;have hv:=varF_idx sc s;cases hi:sc.findIdx? (fun c=>c.name == s) with
 | none =>
   rw [hi] at hx hv;simp only at hv;rw [hv];have hx':FCall1 Tryd.prog tkG 58 [.lst (sc.map cvF),.fn (.func 59) [] [.rop [.str s]]] (.int .i64 (-1)):=hx;clear hi hv hx
   repeat (first | (first | (apply Xf;rfl) | apply Xj);focus simp [ckV, *,-Option.some.injEq];rfl | (first | (apply Xa;rfl) | apply Xb);(focus simp [ckV, *];done);focus simp [ckV, *,-Option.some.injEq];rfl | (first | (apply Xg;rfl) | apply Xk);(focus simp [ckV, *];done) | (first | refine Xl ?_ | refine Xi ?_ | refine Xh ?_ | refine Xo ?_ | refine Xq ?_);try simp only [Xw,Xx,reduceIte,Nat.reduceEqDiff] | refine Xn ?_ | refine Xp rfl ?_ | refine Xc ?_ | apply Xd;focus simp [ckV, *];done | apply Xe;focus simp [ckV, *];done | refine Ya rfl rfl ?_)
   ((apply Xr);(focus rfl);(focus (first | rfl | (simp [*];done)));(focus simp [*,-Option.some.injEq];rfl);kernel_rfl)
   ·exact FCall1.lend tkG_pu hx' (by simp [puL,puV,puRm puF])
   repeat (first | (first | (apply Xf;rfl) | apply Xj);focus simp [*,-Option.some.injEq];rfl | (first | (apply Xa;rfl) | apply Xb);(focus simp [*];done);focus simp [*,-Option.some.injEq];rfl | (first | (apply Xg;rfl) | apply Xk);(focus simp [*];done) | (first | refine Xl ?_ | refine Xi ?_ | refine Xh ?_ | refine Xo ?_ | refine Xq ?_);try simp only [Xw,Xx,reduceIte,Nat.reduceEqDiff] | refine Xn ?_ | refine Xp rfl ?_ | refine Xc ?_ | apply Xd;focus simp [*];done | apply Xe;focus simp [*];done | refine Ya rfl rfl ?_)
   (refine⟨_,(by simp [*];rfl),?_⟩;(try simp only [packA]))
   all_goals rfl
 | some k =>
   rw [hi] at hx hv;obtain⟨hk,hv⟩:=hv;rw [hv];have hx':FCall1 Tryd.prog tkG 58 [.lst (sc.map cvF),.fn (.func 59) [] [.rop [.str s]]] (.int .i64 (k:Int)):=hx;clear hi hv hx
   repeat (first | (first | (apply Xf;rfl) | apply Xj);focus simp [ckV, *,-Option.some.injEq];rfl | (first | (apply Xa;rfl) | apply Xb);(focus simp [ckV, *];done);focus simp [ckV, *,-Option.some.injEq];rfl | (first | (apply Xg;rfl) | apply Xk);(focus simp [ckV, *];done) | (first | refine Xl ?_ | refine Xi ?_ | refine Xh ?_ | refine Xo ?_ | refine Xq ?_);try simp only [Xw,Xx,reduceIte,Nat.reduceEqDiff] | refine Xn ?_ | refine Xp rfl ?_ | refine Xc ?_ | apply Xd;focus simp [ckV, *];done | apply Xe;focus simp [ckV, *];done | refine Ya rfl rfl ?_)
   ((apply Xr);(focus rfl);(focus (first | rfl | (simp [*];done)));(focus simp [*,-Option.some.injEq];rfl);kernel_rfl)
   ·exact FCall1.lend tkG_pu hx' (by simp [puL,puV,puRm puF])
   repeat (first | (first | (apply Xf;rfl) | apply Xj);focus simp [cvF, *,-Option.some.injEq];rfl | (first | (apply Xa;rfl) | apply Xb);(focus simp [cvF, *];done);focus simp [cvF, *,-Option.some.injEq];rfl | (first | (apply Xg;rfl) | apply Xk);(focus simp [cvF, *];done) | (first | refine Xl ?_ | refine Xi ?_ | refine Xh ?_ | refine Xo ?_ | refine Xq ?_);try simp only [Xw,Xx,reduceIte,Nat.reduceEqDiff] | refine Xn ?_ | refine Xp rfl ?_ | refine Xc ?_ | apply Xd;focus simp [cvF, *];done | apply Xe;focus simp [cvF, *];done | refine Ya rfl rfl ?_)
   (refine⟨_,(by simp [*];rfl),?_⟩;(try simp only [packA]))
   all_goals rfl
set_option maxRecDepth 10000 in
set_option maxHeartbeats 4000000 in
theorem tk_has (hs:sc.length≤lim)(s:Bytes):FCall1 Tryd.prog tkG 24 [ckV h cls res sc at',.str s] (.bool (varF sc s).isSome):=by
 refine FCall.one tkG_pu (by simp [puL,ckV_pu];rfl) rfl ?_;refine FCall.ofBody Tryd.func24 rfl rfl fun nx=>?_
 have hx:=tk_variable h cls res sc at' hs s;have hp:=ckV_pu h cls res sc at';generalize ckV h cls res sc at'=ck at *;cases hv:varF sc s with
 | none =>
   rw [hv] at hx;have hx':FCall1 Tryd.prog tkG 43 [ck,.str s] (.tup [.str [],.bool false]):=hx;clear hx hv
   repeat (first | (first | (apply Xf;rfl) | apply Xj);focus simp [*,-Option.some.injEq];rfl | (first | (apply Xa;rfl) | apply Xb);(focus simp [*];done);focus simp [*,-Option.some.injEq];rfl | (first | (apply Xg;rfl) | apply Xk);(focus simp [*];done) | (first | refine Xl ?_ | refine Xi ?_ | refine Xh ?_ | refine Xo ?_ | refine Xq ?_);try simp only [Xw,Xx,reduceIte,Nat.reduceEqDiff] | refine Xn ?_ | refine Xp rfl ?_ | refine Xc ?_ | apply Xd;focus simp [*];done | apply Xe;focus simp [*];done | refine Ya rfl rfl ?_)
   ((apply Xr);(focus rfl);(focus (first | rfl | (simp [*];done)));(focus simp [*,-Option.some.injEq];rfl);kernel_rfl)
   ·exact hx' _
   repeat (first | (first | (apply Xf;rfl) | apply Xj);focus simp [*,-Option.some.injEq];rfl | (first | (apply Xa;rfl) | apply Xb);(focus simp [*];done);focus simp [*,-Option.some.injEq];rfl | (first | (apply Xg;rfl) | apply Xk);(focus simp [*];done) | (first | refine Xl ?_ | refine Xi ?_ | refine Xh ?_ | refine Xo ?_ | refine Xq ?_);try simp only [Xw,Xx,reduceIte,Nat.reduceEqDiff] | refine Xn ?_ | refine Xp rfl ?_ | refine Xc ?_ | apply Xd;focus simp [*];done | apply Xe;focus simp [*];done | refine Ya rfl rfl ?_)
   (refine⟨_,(by simp [*];rfl),?_⟩;(try simp only [packA]))
   all_goals rfl
 | some t =>
   rw [hv] at hx;have hx':FCall1 Tryd.prog tkG 43 [ck,.str s] (.tup [.str t,.bool true]):=hx;clear hx hv
   repeat (first | (first | (apply Xf;rfl) | apply Xj);focus simp [*,-Option.some.injEq];rfl | (first | (apply Xa;rfl) | apply Xb);(focus simp [*];done);focus simp [*,-Option.some.injEq];rfl | (first | (apply Xg;rfl) | apply Xk);(focus simp [*];done) | (first | refine Xl ?_ | refine Xi ?_ | refine Xh ?_ | refine Xo ?_ | refine Xq ?_);try simp only [Xw,Xx,reduceIte,Nat.reduceEqDiff] | refine Xn ?_ | refine Xp rfl ?_ | refine Xc ?_ | apply Xd;focus simp [*];done | apply Xe;focus simp [*];done | refine Ya rfl rfl ?_)
   ((apply Xr);(focus rfl);(focus (first | rfl | (simp [*];done)));(focus simp [*,-Option.some.injEq];rfl);kernel_rfl)
   ·exact hx' _
   repeat (first | (first | (apply Xf;rfl) | apply Xj);focus simp [*,-Option.some.injEq];rfl | (first | (apply Xa;rfl) | apply Xb);(focus simp [*];done);focus simp [*,-Option.some.injEq];rfl | (first | (apply Xg;rfl) | apply Xk);(focus simp [*];done) | (first | refine Xl ?_ | refine Xi ?_ | refine Xh ?_ | refine Xo ?_ | refine Xq ?_);try simp only [Xw,Xx,reduceIte,Nat.reduceEqDiff] | refine Xn ?_ | refine Xp rfl ?_ | refine Xc ?_ | apply Xd;focus simp [*];done | apply Xe;focus simp [*];done | refine Ya rfl rfl ?_)
   (refine⟨_,(by simp [*];rfl),?_⟩;(try simp only [packA]))
   all_goals rfl
end
end
end Go.Proofs.YtoookjadbhdfhaaDoor
