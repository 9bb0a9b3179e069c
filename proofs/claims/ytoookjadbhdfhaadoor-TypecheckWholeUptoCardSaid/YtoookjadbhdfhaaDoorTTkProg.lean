/-
  Program of the checker; walked.
-/
import Derived.Test.YtoookjadbhdfhaaDoorTTkMeth2
set_option linter.unusedSectionVars false
set_option linter.unusedSimpArgs false
set_option linter.unnecessarySimpa false
set_option linter.unusedVariables false
set_option linter.unusedSimpArgs false
set_option linter.unusedVariables false
namespace Go.Proofs.YtoookjadbhdfhaaDoor
open Lx Ax Go.RowKit
attribute [local simp] stepS Ax.stepT Dl.on qstep astep estep rd putE over argE ofV ofS loadA pickCells isAggD faddA fieldA partA iaddA idxA sliA bnd binA intA strA unA convA bltA lenA mapOf findK keyD scalD storeA appA srcA srcD upd drp Dl.hp Dl.nx CV.cs CV.one buildA placesA fillA zrep tasA ifaceD eqA eqFs eqIs range2 copyA nbeq nble nblt decEq beqI bneI beqS bneS isED Int.ofNat_inj List.getElem?_map List.getElem?_eq_getElem Option.map_some ti_int ti_bool ti_str ti_i64 ti_Strs ti_Flds ti_Fld ti_Cds ti_Cd ti_Sgs ti_Sg ti_Hi ti_Exs ti_Ex ti_Sts ti_St ti_Errno ti_Me ti_Mes ti_Cl ti_Cls ti_So gd gdB callA resA op1
attribute [local simp] nu1 nu2 nu3 nu4 nu5 nu6 nu7 nu8 nu9 nu10 nu11 nu12 nu13 upd_upd
theorem ti_Fau:ti Tryd.prog 26=some ⟨.struct #[⟨ "Class",9,0,false, "", "",0⟩,⟨ "Method",9,1,false, "", "",16⟩,⟨ "Stmt",3,2,false, "", "",32⟩],3,.agg #[.string ⟨#[]⟩,.string ⟨#[]⟩,.int .i64 0],40⟩:=by kernel_rfl
/-- A program whose lists and names fit. -/
structure LN (l:List Cl):Prop where
 lb:LB l
 cn:∀ c∈l,c.name.length≤maxLen
 fn:∀ c∈l,∀ f∈c.fields,f.name.length≤maxLen
 mn:∀ c∈l,∀ m∈c.methods,m.name.length≤maxLen
 pn:∀ c∈l,∀ m∈c.methods,∀ f∈m.params,f.name.length≤maxLen
 bn:∀ c∈l,∀ m∈c.methods,NmSs m.body
 bs:∀ c∈l,∀ m∈c.methods,m.params.length+stsSz m.body≤lim
theorem LN.hb {l:List Cl}(h:LN l):HB (hiOf l):=by
 have mem:∀ d∈hiOf l,∃ c∈l,d=cdOf c:=fun d hd=>by obtain⟨c,hc,rfl⟩:=List.mem_map.mp hd;exact⟨c,hc,rfl⟩
 refine⟨by simpa [hiOf] using h.lb.len,fun d hd=>?_,fun d hd=>?_,fun d hd m hm=>?_,fun d hd=>?_,fun d hd f hf=>?_,fun d hd m hm=>?_⟩
 ·obtain⟨c,hc,rfl⟩:=mem d hd;exact h.lb.fl c hc
 ·obtain⟨c,hc,rfl⟩:=mem d hd;simpa [cdOf] using h.lb.ml c hc
 ·obtain⟨c,hc,rfl⟩:=mem d hd;obtain⟨m',hm',rfl⟩:=List.mem_map.mp hm;simpa [sgOf] using h.lb.pl c hc m' hm'
 ·obtain⟨c,hc,rfl⟩:=mem d hd;exact h.cn c hc
 ·obtain⟨c,hc,rfl⟩:=mem d hd;exact h.fn c hc f hf
 ·obtain⟨c,hc,rfl⟩:=mem d hd;obtain⟨m',hm',rfl⟩:=List.mem_map.mp hm;exact h.mn c hc m' hm'
theorem check_small {h:List Cd}(h0:(checkF h).2=0):h.length≤64:=by
 unfold checkF at h0;split at h0
 ·cases h0
 ·omega
theorem LN.hc {l:List Cl}(h:LN l)(h0:(checkF (hiOf l)).2=0):HC (hiOf l):=⟨h.hb,by have:=check_small h0;simp only [lim];omega⟩
theorem checkW_lt {h:List Cd}:∀ (l:List Cd) (i:Nat),(checkW h i l).2≠0→0≤(checkW h i l).1∧(checkW h i l).1<i+l.length
 | [],i,h0=>absurd rfl h0
 | c::l,i,h0=>by
   rw [checkW] at h0 ⊢;split
   ·simp only [List.length_cons];omega
   ·rename_i h1;rw [if_neg h1] at h0;have:=checkW_lt l (i+1) h0;simp only [List.length_cons];omega
theorem checkF_lt {h:List Cd}(h0:(checkF h).2≠0):(checkF h).1=-1∨∃ i:Nat,(checkF h).1=i∧i<h.length:=by
 unfold checkF at h0 ⊢;split
 ·exact .inl rfl
 ·rename_i h1;rw [if_neg h1] at h0;have:=checkW_lt h 0 h0;exact .inr ⟨(checkW h 0 h).1.toNat,by omega,by omega⟩
def fauV (x:Bytes×Bytes×Int)(e:Nat):CV:=.tup [.agg [.str x.1,.str x.2.1,.int .i64 x.2.2],.int .i64 (e:Int)]
set_option maxRecDepth 10000 in
set_option maxHeartbeats 16000000 in
theorem tk_Program (l:List Cl)(hL:LN l):FCall Tryd.prog tkG 4 [cvSo l] fun r=>∃ x,r=.ret (fauV x (progE l)):=by
 refine FCall.ofBody Tryd.func4 rfl rfl fun nx=>?_
 have hof:=tk_Of l hL.lb;have hck:=tk_Check (hiOf l) hL.hb;have hmn:=tk_hasMain (hiOf l) hL.hb;obtain⟨w,hw⟩:∃ w,progE l=w:=⟨_,rfl⟩;rw [hw];unfold progE at hw
 repeat (first | (first | (apply Xf;rfl) | apply Xj);focus simp [cvSo, *,-Option.some.injEq];rfl | (first | (apply Xa;rfl) | apply Xb);(focus simp [cvSo, *];done);focus simp [cvSo, *,-Option.some.injEq];rfl | (first | (apply Xg;rfl) | apply Xk);(focus simp [cvSo, *];done) | (first | refine Xl ?_ | refine Xi ?_ | refine Xh ?_ | refine Xo ?_ | refine Xq ?_);try simp only [Xw,Xx,reduceIte,Nat.reduceEqDiff] | refine Xn ?_ | refine Xp rfl ?_ | refine Xc ?_ | apply Xd;focus simp [cvSo, *];done | apply Xe;focus simp [cvSo, *];done | refine Ya rfl rfl ?_)
 ((apply Xr);(focus rfl);(focus (first | rfl | (simp [cvSo, *];done)));(focus simp [cvSo, *,-Option.some.injEq];rfl);kernel_rfl)
 ·exact hof _
 repeat (first | (first | (apply Xf;rfl) | apply Xj);focus simp [cvH, *,-Option.some.injEq];rfl | (first | (apply Xa;rfl) | apply Xb);(focus simp [cvH, *];done);focus simp [cvH, *,-Option.some.injEq];rfl | (first | (apply Xg;rfl) | apply Xk);(focus simp [cvH, *];done) | (first | refine Xl ?_ | refine Xi ?_ | refine Xh ?_ | refine Xo ?_ | refine Xq ?_);try simp only [Xw,Xx,reduceIte,Nat.reduceEqDiff] | refine Xn ?_ | refine Xp rfl ?_ | refine Xc ?_ | apply Xd;focus simp [cvH, *];done | apply Xe;focus simp [cvH, *];done | refine Ya rfl rfl ?_)
 ((apply Xr);(focus rfl);(focus (first | rfl | (simp [cvH, *];done)));(focus simp [cvH, *,-Option.some.injEq];rfl);kernel_rfl)
 ·exact hck _
 clear hof hck
 by_cases h0:(checkF (hiOf l)).2=0
 case neg =>
  rw [if_pos h0] at hw;have hlt:=checkF_lt h0;generalize (checkF (hiOf l)).2=E at *;subst hw;rcases hlt with hlt | ⟨i,hlt,hil⟩
  ·rw [hlt];clear hlt hmn
   repeat (first | (first | (apply Xf;rfl) | apply Xj);focus simp [*,-Option.some.injEq];rfl | (first | (apply Xa;rfl) | apply Xb);(focus simp [*];done);focus simp [*,-Option.some.injEq];rfl | (first | (apply Xg;rfl) | apply Xk);(focus simp [*];done) | (first | refine Xl ?_ | refine Xi ?_ | refine Xh ?_ | refine Xo ?_ | refine Xq ?_);try simp only [Xw,Xx,reduceIte,Nat.reduceEqDiff] | refine Xn ?_ | refine Xp rfl ?_ | refine Xc ?_ | apply Xd;focus simp [*];done | apply Xe;focus simp [*];done | refine Ya rfl rfl ?_)
   (refine⟨_,(by simp [*];rfl),?_⟩;(try simp only [packA]))
   exact⟨(_,_,_),rfl⟩
  ·rw [hlt];clear hlt hmn;generalize hiOf l=h at *
   repeat (first | (first | (apply Xf;rfl) | apply Xj);focus simp [cvD, *,-Option.some.injEq];rfl | (first | (apply Xa;rfl) | apply Xb);(focus simp [cvD, *];done);focus simp [cvD, *,-Option.some.injEq];rfl | (first | (apply Xg;rfl) | apply Xk);(focus simp [cvD, *];done) | (first | refine Xl ?_ | refine Xi ?_ | refine Xh ?_ | refine Xo ?_ | refine Xq ?_);try simp only [Xw,Xx,reduceIte,Nat.reduceEqDiff] | refine Xn ?_ | refine Xp rfl ?_ | refine Xc ?_ | apply Xd;focus simp [cvD, *];done | apply Xe;focus simp [cvD, *];done | refine Ya rfl rfl ?_)
   (refine⟨_,(by simp [*];rfl),?_⟩;(try simp only [packA]))
   exact⟨(_,_,_),rfl⟩
 rw [if_neg (by simp [h0])] at hw;rw [h0,show ((0:Nat):Int)=0 from rfl];have hC:=hL.hc h0;generalize (checkF (hiOf l)).1=ci at *;clear h0
 repeat (first | (first | (apply Xf;rfl) | apply Xj);focus simp [*,-Option.some.injEq];rfl | (first | (apply Xa;rfl) | apply Xb);(focus simp [*];done);focus simp [*,-Option.some.injEq];rfl | (first | (apply Xg;rfl) | apply Xk);(focus simp [*];done) | (first | refine Xl ?_ | refine Xi ?_ | refine Xh ?_ | refine Xo ?_ | refine Xq ?_);try simp only [Xw,Xx,reduceIte,Nat.reduceEqDiff] | refine Xn ?_ | refine Xp rfl ?_ | refine Xc ?_ | apply Xd;focus simp [*];done | apply Xe;focus simp [*];done | refine Ya rfl rfl ?_)
 ((apply Xr);(focus rfl);(focus (first | rfl | (simp [cvH, *];done)));(focus simp [cvH, *,-Option.some.injEq];rfl);kernel_rfl)
 ·exact hmn _
 cases hm:hasMain (hiOf l) with
 | false =>
   rw [if_pos hm] at hw;rw [← hw];clear hw hm hmn
   repeat (first | (first | (apply Xf;rfl) | apply Xj);focus simp [*,-Option.some.injEq];rfl | (first | (apply Xa;rfl) | apply Xb);(focus simp [*];done);focus simp [*,-Option.some.injEq];rfl | (first | (apply Xg;rfl) | apply Xk);(focus simp [*];done) | (first | refine Xl ?_ | refine Xi ?_ | refine Xh ?_ | refine Xo ?_ | refine Xq ?_);try simp only [Xw,Xx,reduceIte,Nat.reduceEqDiff] | refine Xn ?_ | refine Xp rfl ?_ | refine Xc ?_ | apply Xd;focus simp [*];done | apply Xe;focus simp [*];done | refine Ya rfl rfl ?_)
   (refine⟨_,(by simp [*];rfl),?_⟩;(try simp only [packA]))
   exact⟨(_,_,_),rfl⟩
 | true =>
 rw [if_neg (by rw [hm];simp)] at hw;clear hm hmn;obtain⟨h,hh⟩:∃ h,hiOf l=h:=⟨_,rfl⟩;rw [hh] at hC hw ⊢;clear hh
 repeat (first | (first | (apply Xf;rfl) | apply Xj);focus simp [*,-Option.some.injEq];rfl | (first | (apply Xa;rfl) | apply Xb);(focus simp [*];done);focus simp [*,-Option.some.injEq];rfl | (first | (apply Xg;rfl) | apply Xk);(focus simp [*];done) | (first | refine Xl ?_ | refine Xi ?_ | refine Xh ?_ | refine Xo ?_ | refine Xq ?_);try simp only [Xw,Xx,reduceIte,Nat.reduceEqDiff] | refine Xn ?_ | refine Xp rfl ?_ | refine Xc ?_ | apply Xd;focus simp [*];done | apply Xe;focus simp [*];done | refine Ya rfl rfl ?_)
 have hll:=hL.lb.len;refine AWp.countO l.length [3,9,11,12,13,42,49] 43 (fun i e H1 nx1=>e 42=.int .i64 i∧H1 (nx+1)=some (.cells [.str [],.str [],.int .i64 0])∧H1 (nx+1+1)=some (.cells [.lst (h.map cvD)])∧firstLim (fun c=>firstLim (methE h c.name) c.methods) (l.drop i)=w) ⟨(by first | (simp (disch:=omega) [putE,over,ofV,ofS, *];done) | (simp (disch:=omega) [putE,over,ofV,ofS, *];rfl)),by simp [upd],by simp [upd],hw⟩ ?_;clear hw;rintro i v H1 nx1 hi hn1 ⟨h42,hF,hA,hf⟩;have q1:=far (show nx+1<nx1 by omega);have q2:=far (show nx+1+1<nx1 by omega)
 repeat (first | (first | (apply Xf;rfl) | apply Xj);focus simp [*,-Option.some.injEq];rfl | (first | (apply Xa;rfl) | apply Xb);(focus simp [*];done);focus simp [*,-Option.some.injEq];rfl | (first | (apply Xg;rfl) | apply Xk);(focus simp [*];done) | (first | refine Xl ?_ | refine Xi ?_ | refine Xh ?_ | refine Xo ?_ | refine Xq ?_);try simp only [Xw,Xx,reduceIte,Nat.reduceEqDiff] | refine Xn ?_ | refine Xp rfl ?_ | refine Xc ?_ | apply Xd;focus simp [*];done | apply Xe;focus simp [*];done | refine Ya rfl rfl ?_)
 (((apply AWp.cond');(focus (simp [*,-Ax.CV.bool.injEq];rfl))) <;> (intro hb) <;> (try simp only [decide_eq_true_eq,decide_eq_false_iff_not,Bool.not_eq_true',Bool.not_eq_false',Bool.not_eq_true,Bool.not_eq_false] at hb))
 ·have hlt:i<l.length:=hb;have hwi:=lim_wrap hlt hll;clear hb;have hcm:=List.getElem_mem hlt;rw [List.drop_eq_getElem_cons hlt,firstLim] at hf;have hml:=hL.lb.ml _ hcm;have hmeth:=fun m (hm:m∈l[i].methods)=>tk_meth h hC l[i].name m (hL.bn _ hcm m hm) (hL.pn _ hcm m hm) (hL.bs _ hcm m hm)
  generalize hce:l[i]=c at *;obtain⟨W1,hW1⟩:∃ W1,firstLim (methE h c.name) c.methods=W1:=⟨_,rfl⟩;rw [hW1] at hf
  repeat (first | (first | (apply Xf;rfl) | apply Xj);focus simp [cvC, *,-Option.some.injEq];rfl | (first | (apply Xa;rfl) | apply Xb);(focus simp [cvC, *];done);focus simp [cvC, *,-Option.some.injEq];rfl | (first | (apply Xg;rfl) | apply Xk);(focus simp [cvC, *];done) | (first | refine Xl ?_ | refine Xi ?_ | refine Xh ?_ | refine Xo ?_ | refine Xq ?_);try simp only [Xw,Xx,reduceIte,Nat.reduceEqDiff] | refine Xn ?_ | refine Xp rfl ?_ | refine Xc ?_ | apply Xd;focus simp [cvC, *];done | apply Xe;focus simp [cvC, *];done | refine Ya rfl rfl ?_)
  refine AWp.countO c.methods.length [3,11,12,13,49] 50 (fun j e H2 nx2=>e 49=.int .i64 j∧H2 (nx+1)=some (.cells [.str [],.str [],.int .i64 0])∧H2 (nx+1+1)=some (.cells [.lst (h.map cvD)])∧H2 nx1=some (.cells [.str c.name,.str c.super,.lst (c.fields.map cvF),.lst (c.methods.map cvM)])∧firstLim (methE h c.name) (c.methods.drop j)=W1) ⟨(by first | (simp (disch:=omega) [putE,over,ofV,ofS, *];done) | (simp (disch:=omega) [putE,over,ofV,ofS, *];rfl)),by simp [upd, *],by simp [upd, *],by simp [upd],hW1⟩ ?_;clear hF hA hW1 q1 q2;rintro j v2 H2 nx2 hj hn2 ⟨h49,hF,hA,h9,hg⟩;have q1:=far (show nx+1<nx2 by omega);have q2:=far (show nx+1+1<nx2 by omega);have q3:=far (show nx1<nx2 by omega)
  repeat (first | (first | (apply Xf;rfl) | apply Xj);focus simp [*,-Option.some.injEq];rfl | (first | (apply Xa;rfl) | apply Xb);(focus simp [*];done);focus simp [*,-Option.some.injEq];rfl | (first | (apply Xg;rfl) | apply Xk);(focus simp [*];done) | (first | refine Xl ?_ | refine Xi ?_ | refine Xh ?_ | refine Xo ?_ | refine Xq ?_);try simp only [Xw,Xx,reduceIte,Nat.reduceEqDiff] | refine Xn ?_ | refine Xp rfl ?_ | refine Xc ?_ | apply Xd;focus simp [*];done | apply Xe;focus simp [*];done | refine Ya rfl rfl ?_)
  (((apply AWp.cond');(focus (simp [*,-Ax.CV.bool.injEq];rfl))) <;> (intro hb) <;> (try simp only [decide_eq_true_eq,decide_eq_false_iff_not,Bool.not_eq_true',Bool.not_eq_false',Bool.not_eq_true,Bool.not_eq_false] at hb))
  ·have hlj:j<c.methods.length:=hb;have hwj:=lim_wrap hlj hml;clear hb;rw [List.drop_eq_getElem_cons hlj,firstLim] at hg;have hx:=hmeth c.methods[j] (List.getElem_mem hlj);generalize hme:c.methods[j]=m at *;clear hmeth
   repeat (first | (first | (apply Xf;rfl) | apply Xj);focus simp [cvM, *,-Option.some.injEq];rfl | (first | (apply Xa;rfl) | apply Xb);(focus simp [cvM, *];done);focus simp [cvM, *,-Option.some.injEq];rfl | (first | (apply Xg;rfl) | apply Xk);(focus simp [cvM, *];done) | (first | refine Xl ?_ | refine Xi ?_ | refine Xh ?_ | refine Xo ?_ | refine Xq ?_);try simp only [Xw,Xx,reduceIte,Nat.reduceEqDiff] | refine Xn ?_ | refine Xp rfl ?_ | refine Xc ?_ | apply Xd;focus simp [cvM, *];done | apply Xe;focus simp [cvM, *];done | refine Ya rfl rfl ?_)
   ((apply AOpl.callG);(focus rfl);(focus (first | rfl | (simp [cvM, *];done)));(focus simp [cvM, *,-Option.some.injEq];rfl);kernel_rfl)
   refine Ax.ACall.mono (hx _ _) ?_;rintro r H' nx' ⟨rfl,k,rfl⟩;simp only;clear hx
   by_cases hz:methE h c.name m=0
   ·rw [if_neg (by simp [hz])] at hg;rw [hz,show ((0:Nat):Int)=0 from rfl];clear hz hf
    repeat (first | (first | (apply Xf;rfl) | apply Xj);focus simp [*,-Option.some.injEq];rfl | (first | (apply Xa;rfl) | apply Xb);(focus simp [*];done);focus simp [*,-Option.some.injEq];rfl | (first | (apply Xg;rfl) | apply Xk);(focus simp [*];done) | (first | refine Xl ?_ | refine Xi ?_ | refine Xh ?_ | refine Xo ?_ | refine Xq ?_);try simp only [Xw,Xx,reduceIte,Nat.reduceEqDiff] | refine Xn ?_ | refine Xp rfl ?_ | refine Xc ?_ | apply Xd;focus simp [*];done | apply Xe;focus simp [*];done | refine Ya rfl rfl ?_)
    exact⟨by ((repeat (first | exact Keeps.base _ _ _ _ | (with_reducible exact Keeps.refl _ _ _) | (refine Keeps.put rfl ?_) | (refine Keeps.over' rfl rfl ?_)))),hlj,(by first | (simp (disch:=omega) [putE,over,ofV,ofS, *];done) | (simp (disch:=omega) [putE,over,ofV,ofS, *];rfl)),by simp [upd, *],by simp [upd, *],by simp [upd, *],hg⟩
   ·rw [if_pos hz] at hg;rw [hg] at hz ⊢;rw [if_pos hz] at hf;rw [hf] at hz ⊢;clear hg hf
    repeat (first | (first | (apply Xf;rfl) | apply Xj);focus simp [*,-Option.some.injEq];rfl | (first | (apply Xa;rfl) | apply Xb);(focus simp [*];done);focus simp [*,-Option.some.injEq];rfl | (first | (apply Xg;rfl) | apply Xk);(focus simp [*];done) | (first | refine Xl ?_ | refine Xi ?_ | refine Xh ?_ | refine Xo ?_ | refine Xq ?_);try simp only [Xw,Xx,reduceIte,Nat.reduceEqDiff] | refine Xn ?_ | refine Xp rfl ?_ | refine Xc ?_ | apply Xd;focus simp [*];done | apply Xe;focus simp [*];done | refine Ya rfl rfl ?_)
    (refine⟨_,(by simp [*];rfl),?_⟩;(try simp only [packA]))
    exact⟨(_,_,_),rfl⟩
  ·have hj':c.methods.length≤j:=by omega
   rw [List.drop_eq_nil_of_le hj',firstLim] at hg;rw [← hg,if_neg (by simp)] at hf;clear hg hb hj' hmeth
   repeat (first | (first | (apply Xf;rfl) | apply Xj);focus simp [*,-Option.some.injEq];rfl | (first | (apply Xa;rfl) | apply Xb);(focus simp [*];done);focus simp [*,-Option.some.injEq];rfl | (first | (apply Xg;rfl) | apply Xk);(focus simp [*];done) | (first | refine Xl ?_ | refine Xi ?_ | refine Xh ?_ | refine Xo ?_ | refine Xq ?_);try simp only [Xw,Xx,reduceIte,Nat.reduceEqDiff] | refine Xn ?_ | refine Xp rfl ?_ | refine Xc ?_ | apply Xd;focus simp [*];done | apply Xe;focus simp [*];done | refine Ya rfl rfl ?_)
   exact⟨by ((repeat (first | exact Keeps.base _ _ _ _ | (with_reducible exact Keeps.refl _ _ _) | (refine Keeps.put rfl ?_) | (refine Keeps.over' rfl rfl ?_)))),hlt,(by first | (simp (disch:=omega) [putE,over,ofV,ofS, *];done) | (simp (disch:=omega) [putE,over,ofV,ofS, *];rfl)),by simp [upd, *],by simp [upd, *],hf⟩
 ·have hi':l.length≤i:=by omega
  rw [List.drop_eq_nil_of_le hi',firstLim] at hf;rw [← hf];clear hb hi' hf
  repeat (first | (first | (apply Xf;rfl) | apply Xj);focus simp [*,-Option.some.injEq];rfl | (first | (apply Xa;rfl) | apply Xb);(focus simp [*];done);focus simp [*,-Option.some.injEq];rfl | (first | (apply Xg;rfl) | apply Xk);(focus simp [*];done) | (first | refine Xl ?_ | refine Xi ?_ | refine Xh ?_ | refine Xo ?_ | refine Xq ?_);try simp only [Xw,Xx,reduceIte,Nat.reduceEqDiff] | refine Xn ?_ | refine Xp rfl ?_ | refine Xc ?_ | apply Xd;focus simp [*];done | apply Xe;focus simp [*];done | refine Ya rfl rfl ?_)
  (refine⟨_,(by simp [*];rfl),?_⟩;(try simp only [packA]))
  exact⟨(_,_,_),rfl⟩
end Go.Proofs.YtoookjadbhdfhaaDoor
