/-
  Program of the checker; walked.
-/
import Derived.Test.YtoookjadbhdfhaaGreatDoorUJpBj
import Derived.Test.YtoookjadbhdfhaaGreatDoorUJpBe
set_option linter.unusedSectionVars false
set_option linter.unusedSimpArgs false
set_option linter.unnecessarySimpa false
set_option linter.unusedVariables false
set_option linter.unusedSimpArgs false
set_option linter.unusedVariables false
namespace Go.Proofs.YtoookjadbhdfhaaGreatDoor
section
open Lx Ax Go.RowKit
attribute [local simp] stepS Ax.stepT Dl.on qstep astep estep rd putE over argE ofV ofS loadA pickCells isAggD faddA fieldA partA iaddA idxA sliA bnd binA intA strA unA convA bltA lenA mapOf findK keyD scalD storeA appA srcA srcD upd drp Dl.hp Dl.nx CV.cs CV.one buildA placesA fillA zrep tasA ifaceD eqA eqFs eqIs range2 copyA nbeq nble nblt decEq beqI bneI beqS bneS isED Int.ofNat_inj List.getElem?_map List.getElem?_eq_getElem Option.map_some ti_int ti_bool ti_str ti_i64 ti_Strs ti_Flds ti_Fld ti_Cds ti_Cd ti_Sgs ti_Sg ti_Hi ti_Exs ti_Ex ti_Sts ti_St ti_Errno ti_Me ti_Mes ti_Cl ti_Cls ti_So gd gdB callA resA op1
attribute [local simp] nu1 nu2 nu3 nu4 nu5 nu6 nu7 nu8 nu9 nu10 nu11 nu12 nu13 upd_upd
theorem ti_Fau:ti Tryz.prog 55=some ⟨.struct #[⟨ "Class",9,0,false, "", "",0⟩,⟨ "Method",9,1,false, "", "",16⟩,⟨ "Stmt",3,2,false, "", "",32⟩],3,.agg #[.string ⟨#[]⟩,.string ⟨#[]⟩,.int .i64 0],40⟩:=by kernel_rfl
/-- A program whose lists and names fit. -/
structure LN (l:List Cl):Prop where
 lb:LB l
 cn:∀ c∈l,c.name.length≤maxLen
 fn:∀ c∈l,∀ f∈c.fields,f.name.length≤maxLen
 mn:∀ c∈l,∀ m∈c.methods,m.name.length≤maxLen
 pn:∀ c∈l,∀ m∈c.methods,∀ f∈m.params,f.name.length≤maxLen
 bn:∀ c∈l,∀ m∈c.methods,NmSs m.body
 bs:∀ c∈l,∀ m∈c.methods,m.params.length+stsSz m.body≤lim
theorem LN.hb {l:List Cl}(h:LN l):HB (hiOf l):=by
 have mem:∀ d∈hiOf l,∃ c∈l,d=cdOf c:=fun d hd=>by obtain⟨c,hc,rfl⟩:=List.mem_map.mp hd;exact⟨c,hc,rfl⟩
 refine⟨by simpa [hiOf] using h.lb.len,fun d hd=>?_,fun d hd=>?_,fun d hd m hm=>?_,fun d hd=>?_,fun d hd f hf=>?_,fun d hd m hm=>?_⟩
 ·obtain⟨c,hc,rfl⟩:=mem d hd;exact h.lb.fl c hc
 ·obtain⟨c,hc,rfl⟩:=mem d hd;simpa [cdOf] using h.lb.ml c hc
 ·obtain⟨c,hc,rfl⟩:=mem d hd;obtain⟨m',hm',rfl⟩:=List.mem_map.mp hm;simpa [sgOf] using h.lb.pl c hc m' hm'
 ·obtain⟨c,hc,rfl⟩:=mem d hd;exact h.cn c hc
 ·obtain⟨c,hc,rfl⟩:=mem d hd;exact h.fn c hc f hf
 ·obtain⟨c,hc,rfl⟩:=mem d hd;obtain⟨m',hm',rfl⟩:=List.mem_map.mp hm;exact h.mn c hc m' hm'
theorem check_small {h:List Cd}(h0:(checkF h).2=0):h.length≤64:=by
 unfold checkF at h0;split at h0
 ·cases h0
 ·omega
theorem LN.hc {l:List Cl}(h:LN l)(h0:(checkF (hiOf l)).2=0):HC (hiOf l):=⟨h.hb,by have:=check_small h0;simp only [lim];omega⟩
theorem checkW_lt {h:List Cd}:∀ (l:List Cd) (i:Nat),(checkW h i l).2≠0→0≤(checkW h i l).1∧(checkW h i l).1<i+l.length
 | [],i,h0=>absurd rfl h0
 | c::l,i,h0=>by
   rw [checkW] at h0 ⊢;split
   ·simp only [List.length_cons];omega
   ·rename_i h1;rw [if_neg h1] at h0;have:=checkW_lt l (i+1) h0;simp only [List.length_cons];omega
theorem checkF_lt {h:List Cd}(h0:(checkF h).2≠0):(checkF h).1=-1∨∃ i:Nat,(checkF h).1=i∧i<h.length:=by
 unfold checkF at h0 ⊢;split
 ·exact .inl rfl
 ·rename_i h1;rw [if_neg h1] at h0;have:=checkW_lt h 0 h0;exact .inr ⟨(checkW h 0 h).1.toNat,by omega,by omega⟩
def fauV (x:Bytes×Bytes×Int)(e:Nat):CV:=.tup [.agg [.str x.1,.str x.2.1,.int .i64 x.2.2],.int .i64 (e:Int)]
set_option maxRecDepth 10000 in
set_option maxHeartbeats 16000000 in
theorem tk_Program (l:List Cl)(hL:LN l):FCall Tryz.prog tkG 12 [cvSo l] fun r=>∃ x,r=.ret (fauV x (progE l)):=by
 refine FCall.ofBody Tryz.func12 rfl rfl fun nx=>?_
 have hof:=tk_Of l hL.lb;have hck:=tk_Check (hiOf l) hL.hb;have hmn:=tk_hasMain (hiOf l) hL.hb;obtain⟨w,hw⟩:∃ w,progE l=w:=⟨_,rfl⟩;rw [hw];unfold progE at hw;refine gWf cvSo.eq_1 ?_
 ((apply Xr);(focus rfl);(focus (first | rfl | (simp [cvSo, *];done)));(focus simp [cvSo, *,-Option.some.injEq];rfl);kernel_rfl)
 ·exact hof _
 refine gWf cvH.eq_1 ?_
 ((apply Xr);(focus rfl);(focus (first | rfl | (simp [cvH, *];done)));(focus simp [cvH, *,-Option.some.injEq];rfl);kernel_rfl)
 ·exact hck _
 clear hof hck
 by_cases h0:(checkF (hiOf l)).2=0
 case neg =>
  rw [if_pos h0] at hw;have hlt:=checkF_lt h0;generalize (checkF (hiOf l)).2=E at *;subst hw;rcases hlt with hlt | ⟨i,hlt,hil⟩
  ·rw [hlt];clear hlt hmn;refine gW ?_
   (refine⟨_,(by simp [*];rfl),?_⟩;(try simp only [packA]))
   exact⟨(_,_,_),rfl⟩
  ·rw [hlt];clear hlt hmn;generalize hiOf l=h at *;refine gWf cvD.eq_1 ?_
   (refine⟨_,(by simp [*];rfl),?_⟩;(try simp only [packA]))
   exact⟨(_,_,_),rfl⟩
 rw [if_neg (by simp [h0])] at hw;rw [h0,show ((0:Nat):Int)=0 from rfl];have hC:=hL.hc h0;generalize (checkF (hiOf l)).1=ci at *;clear h0;refine gW ?_
 ((apply Xr);(focus rfl);(focus (first | rfl | (simp [cvH, *];done)));(focus simp [cvH, *,-Option.some.injEq];rfl);kernel_rfl)
 ·exact hmn _
 cases hm:hasMain (hiOf l) with
 | false =>
   rw [if_pos hm] at hw;rw [← hw];clear hw hm hmn;refine gW ?_
   (refine⟨_,(by simp [*];rfl),?_⟩;(try simp only [packA]))
   exact⟨(_,_,_),rfl⟩
 | true =>
 rw [if_neg (by rw [hm];simp)] at hw;clear hm hmn;obtain⟨h,hh⟩:∃ h,hiOf l=h:=⟨_,rfl⟩;rw [hh] at hC hw ⊢;clear hh;refine gW ?_;have hll:=hL.lb.len;refine AWp.countO l.length [3,9,11,12,13,42,49] 43 (fun i e H1 nx1=>e 42=.int .i64 i∧H1 (nx+1)=some (.cells [.str [],.str [],.int .i64 0])∧H1 (nx+1+1)=some (.cells [.lst (h.map cvD)])∧firstLim (fun c=>firstLim (methE h c.name) c.methods) (l.drop i)=w) ⟨(by first | (simp (disch:=omega) [putE,over,ofV,ofS, *];done) | (simp (disch:=omega) [putE,over,ofV,ofS, *];rfl)),by simp [upd],by simp [upd],hw⟩ ?_;clear hw;rintro i v H1 nx1 hi hn1 ⟨h42,hF,hA,hf⟩;have q1:=far (show nx+1<nx1 by omega);have q2:=far (show nx+1+1<nx1 by omega);refine gW ?_
 (((apply AWp.cond');(focus (simp [*,-Ax.CV.bool.injEq];rfl))) <;> (intro hb) <;> (try simp only [decide_eq_true_eq,decide_eq_false_iff_not,Bool.not_eq_true',Bool.not_eq_false',Bool.not_eq_true,Bool.not_eq_false] at hb))
 ·have hlt:i<l.length:=hb;have hwi:=lim_wrap hlt hll;clear hb;have hcm:=List.getElem_mem hlt;rw [List.drop_eq_getElem_cons hlt,firstLim] at hf;have hml:=hL.lb.ml _ hcm;have hmeth:=fun m (hm:m∈l[i].methods)=>tk_meth h hC l[i].name m (hL.bn _ hcm m hm) (hL.pn _ hcm m hm) (hL.bs _ hcm m hm)
  generalize hce:l[i]=c at *;obtain⟨W1,hW1⟩:∃ W1,firstLim (methE h c.name) c.methods=W1:=⟨_,rfl⟩;rw [hW1] at hf;refine gWf cvC.eq_1 ?_;refine AWp.countO c.methods.length [3,11,12,13,49] 50 (fun j e H2 nx2=>e 49=.int .i64 j∧H2 (nx+1)=some (.cells [.str [],.str [],.int .i64 0])∧H2 (nx+1+1)=some (.cells [.lst (h.map cvD)])∧H2 nx1=some (.cells [.str c.name,.str c.super,.lst (c.fields.map cvF),.lst (c.methods.map cvM)])∧firstLim (methE h c.name) (c.methods.drop j)=W1) ⟨(by first | (simp (disch:=omega) [putE,over,ofV,ofS, *];done) | (simp (disch:=omega) [putE,over,ofV,ofS, *];rfl)),by simp [upd, *],by simp [upd, *],by simp [upd],hW1⟩ ?_;clear hF hA hW1 q1 q2;rintro j v2 H2 nx2 hj hn2 ⟨h49,hF,hA,h9,hg⟩;have q1:=far (show nx+1<nx2 by omega);have q2:=far (show nx+1+1<nx2 by omega);have q3:=far (show nx1<nx2 by omega);refine gW ?_
  (((apply AWp.cond');(focus (simp [*,-Ax.CV.bool.injEq];rfl))) <;> (intro hb) <;> (try simp only [decide_eq_true_eq,decide_eq_false_iff_not,Bool.not_eq_true',Bool.not_eq_false',Bool.not_eq_true,Bool.not_eq_false] at hb))
  ·have hlj:j<c.methods.length:=hb;have hwj:=lim_wrap hlj hml;clear hb;rw [List.drop_eq_getElem_cons hlj,firstLim] at hg;have hx:=hmeth c.methods[j] (List.getElem_mem hlj);generalize hme:c.methods[j]=m at *;clear hmeth;refine gWf cvM.eq_1 ?_
   ((apply AOpl.callG);(focus rfl);(focus (first | rfl | (simp [cvM, *];done)));(focus simp [cvM, *,-Option.some.injEq];rfl);kernel_rfl)
   refine Ax.ACall.mono (hx _ _) ?_;rintro r H' nx' ⟨rfl,k,rfl⟩;simp only;clear hx
   by_cases hz:methE h c.name m=0
   ·rw [if_neg (by simp [hz])] at hg;rw [hz,show ((0:Nat):Int)=0 from rfl];clear hz hf;refine gW ?_;exact⟨by ((repeat (first | exact Keeps.base _ _ _ _ | (with_reducible exact Keeps.refl _ _ _) | (refine Keeps.put rfl ?_) | (refine Keeps.over' rfl rfl ?_)))),hlj,(by first | (simp (disch:=omega) [putE,over,ofV,ofS, *];done) | (simp (disch:=omega) [putE,over,ofV,ofS, *];rfl)),by simp [upd, *],by simp [upd, *],by simp [upd, *],hg⟩
   ·rw [if_pos hz] at hg;rw [hg] at hz ⊢;rw [if_pos hz] at hf;rw [hf] at hz ⊢;clear hg hf;refine gW ?_
    (refine⟨_,(by simp [*];rfl),?_⟩;(try simp only [packA]))
    exact⟨(_,_,_),rfl⟩
  ·have hj':c.methods.length≤j:=by omega
   rw [List.drop_eq_nil_of_le hj',firstLim] at hg;rw [← hg,if_neg (by simp)] at hf;clear hg hb hj' hmeth;refine gW ?_;exact⟨by ((repeat (first | exact Keeps.base _ _ _ _ | (with_reducible exact Keeps.refl _ _ _) | (refine Keeps.put rfl ?_) | (refine Keeps.over' rfl rfl ?_)))),hlt,(by first | (simp (disch:=omega) [putE,over,ofV,ofS, *];done) | (simp (disch:=omega) [putE,over,ofV,ofS, *];rfl)),by simp [upd, *],by simp [upd, *],hf⟩
 ·have hi':l.length≤i:=by omega
  rw [List.drop_eq_nil_of_le hi',firstLim] at hf;rw [← hf];clear hb hi' hf;refine gW ?_
  (refine⟨_,(by simp [*];rfl),?_⟩;(try simp only [packA]))
  exact⟨(_,_,_),rfl⟩
end
section
open Lx Ax Go.RowKit
attribute [local simp] stepS Ax.stepT Dl.on qstep astep estep rd putE over argE ofV ofS loadA pickCells isAggD faddA fieldA partA iaddA idxA sliA bnd binA intA strA unA convA bltA mapOf findK keyD scalD storeA srcA srcD upd drp Dl.hp Dl.nx CV.cs CV.one buildA placesA fillA zrep tasA ifaceD eqA eqFs eqIs range2 copyA nbeq nble nblt decEq beqI bneI beqS bneS isED Int.ofNat_inj List.getElem?_map List.getElem?_eq_getElem Option.map_some ti_int ti_bool ti_str ti_i64 ti_Strs ti_Flds ti_Fld ti_Ins ti_In ti_Me ti_Mes ti_Cl ti_Cls ti_So ti_Fn ti_Fns ti_Un ti_Hi ti_Fau ti_Errno gd gdB callA resA op1
attribute [local simp] nu1 nu2 nu3 nu4 nu5 nu6 nu7 nu8 nu9 nu10 nu11 nu12 nu13 upd_upd
theorem acall_le {P:Program}{G:Nat→CV}{f:FuncId}{args:List CV}{H:Heap}{nx:Nat}{Q Q':Res→Heap→Nat→Prop}(h:ACall P G f args H nx Q)(hq:∀ r H' nx',nx≤nx'→Q r H' nx'→Q' r H' nx'):ACall P G f args H nx Q' :=
 fun M w vs g r a=>(h M w vs g r a).mono fun _ _ ⟨M',x,H',n',a1,a2,a3,a4⟩=>⟨M',x,H',n',a1,a2,a3,hq _ _ _ a3.nxle a4⟩
theorem len_J {H:Heap}(l:List In):lenA Tryz.prog H 44 (.lst (l.map cvJ))=some (.int .i64 l.length):=by
 unfold lenA;simp [ti_Ins]
theorem len_F {H:Heap}(l:List Fld):lenA Tryz.prog H 35 (.lst (l.map cvF))=some (.int .i64 l.length):=by
 unfold lenA;simp [ti_Flds]
theorem len_Cl {H:Heap}(l:List Cl):lenA Tryz.prog H 22 (.lst (l.map cvC))=some (.int .i64 l.length):=by
 unfold lenA;simp [ti_Cls]
theorem len_Me {H:Heap}(l:List Me):lenA Tryz.prog H 36 (.lst (l.map cvM))=some (.int .i64 l.length):=by
 unfold lenA;simp [ti_Mes]
/-- A function keeps to the limits. -/
def okF (f:Fu):Prop:=f.vars.length≤256∧f.code.length≤1024
instance (f:Fu):Decidable (okF f):=inferInstanceAs (Decidable (_∧_))
set_option maxRecDepth 10000 in
set_option maxHeartbeats 8000000 in
theorem lw_tooLong (f:Fu):FCall1 Tryz.prog tkG 15 [.agg (cvFu f)] (.bool (!decide (okF f))):=by
 refine FCall.one tkG_pu (by have:=puFu f;simp [puL,this]) rfl ?_;refine FCall.ofBody Tryz.func15 rfl rfl fun nx=>?_
 have hlj:∀ H',lenA Tryz.prog H' 44 (.lst (f.code.map cvJ))=some (.int .i64 f.code.length):=fun H'=>len_J _
 have hlf:∀ H',lenA Tryz.prog H' 35 (.lst (f.vars.map cvF))=some (.int .i64 f.vars.length):=fun H'=>len_F _
 by_cases h1:f.vars.length≤256
 ·have c1:¬ (256:Int)<f.vars.length:=by omega
  by_cases h2:f.code.length≤1024
  ·have c2:¬ (1024:Int)<f.code.length:=by omega
   have e:decide (okF f)=true:=decide_eq_true ⟨h1,h2⟩;rw [e];refine gWf cvFu.eq_1 ?_
   (refine⟨_,(by simp [*];rfl),?_⟩;(try simp only [packA]))
   rfl
  ·have c2:(1024:Int)<f.code.length:=by omega
   have e:decide (okF f)=false:=decide_eq_false fun h=>h2 h.2
   rw [e];refine gWf cvFu.eq_1 ?_
   (refine⟨_,(by simp [*];rfl),?_⟩;(try simp only [packA]))
   rfl
 ·have c1:(256:Int)<f.vars.length:=by omega
  have e:decide (okF f)=false:=decide_eq_false fun h=>h1 h.1
  rw [e];refine gWf cvFu.eq_1 ?_
  (refine⟨_,(by simp [*];rfl),?_⟩;(try simp only [packA]))
  rfl
/-- What is known of a source that is lowered. -/
structure LM (l:List Cl):Prop where
 ln:LN l
 sz:∀ c∈l,∀ m∈c.methods,2*m.params.length+6*stsSz m.body+10≤lim
/-- The unit in the making; the blocks K are none of its list's. -/
structure PgS (h:List Cd) (x U:Nat) (K:Nat→Prop) (D:List Fu) (H:Heap) (n:Nat):Prop where
 un:∃ (c:CV) (mn:Int),H U=some (.cells [.lst (h.map cvD),c,.int .i64 mn])∧OwnG cvFu 7 (U+1) H n c D∧∀ y,K y→¬ ob c y
 zr:H x=some (.cells [.nils,.nils,.int .i64 0])
 lt:U<n
 ln:D.length≤256
 ok:∀ f∈D,okF f
theorem PgS.up {h:List Cd}{x U:Nat}{K:Nat→Prop}{D:List Fu}{H H2:Heap}{n n2:Nat}(p:PgS h x U K D H n)(hx:x<n)(hn:n≤n2)(hk:∀ y,y<n→H2 y=H y):PgS h x U K D H2 n2:=by
 obtain⟨⟨c,mn,h1,h2,h0⟩,h3,h4,h5,h6⟩:=p;exact⟨⟨c,mn,by rw [hk U h4];exact h1,h2.keep hn fun b _ hb=>hk b hb,h0⟩,by rw [hk x hx];exact h3,by omega,h5,h6⟩
theorem PgS.new {h:List Cd}{x U n1:Nat}{D:List Fu}{H:Heap}{n:Nat}(p:PgS h x U (fun _=>False) D H n)(hn:n≤n1):PgS h x U (·=n1) D H n:=by
 obtain⟨⟨c,mn,h1,h2,h0⟩,h3,h4,h5,h6⟩:=p;refine⟨⟨c,mn,h1,h2,fun y hy ho=>?_⟩,h3,h4,h5,h6⟩;obtain⟨o,m,k,e⟩:=ho;rcases h2 with⟨_,h⟩ | ⟨b,h,_,_,hb⟩
 ·rw [e] at h;cases h
 ·rw [e] at h;cases h;omega
theorem PgS.old {h:List Cd}{x U:Nat}{K:Nat→Prop}{D:List Fu}{H:Heap}{n:Nat}(p:PgS h x U K D H n):PgS h x U (fun _=>False) D H n:=by
 obtain⟨⟨c,mn,h1,h2,h0⟩,h3,h4,h5,h6⟩:=p;exact⟨⟨c,mn,h1,h2,fun y hy=>hy.elim⟩,h3,h4,h5,h6⟩
theorem len_Fn {H:Heap}{n0 nx:Nat}{c:CV}{D:List Fu}(ho:OwnG cvFu 7 n0 H nx c D)(H':Heap):lenA Tryz.prog H' 28 c=some (.int .i64 D.length):=by
 rcases ho with⟨rfl,rfl⟩ | ⟨b,rfl,_,_,_⟩ <;> (unfold lenA;simp [ti_Fns])
/-- What lower.Program answers. -/
def LwR (l:List Cl)(r:Res):Prop:=(∃ k:Nat,k≠0∧r=.ret (.tup [.agg [.nils,.nils,.int .i64 0],.int .i64 (k:Int)]))∨(progE l=0∧(unitF l).length≤256∧(∀ f∈unitF l,okF f)∧∃ mn:Int,r=.ret (.tup [.agg [.lst ((hiOf l).map cvD),.lst ((unitF l).map cvFu),.int .i64 mn],.int .i64 0]))
set_option maxRecDepth 10000 in
set_option maxHeartbeats 32000000 in
theorem lw_Program (l:List Cl)(hL:LM l):FCall Tryz.prog tkG 5 [cvSo l] (LwR l):=by
 refine FCall.ofBody Tryz.func5 rfl rfl fun nx=>?_
 have hpr:=tk_Program l hL.ln;refine gWf cvSo.eq_1 ?_
 ((apply AOpl.callG);(focus rfl);(focus (first | rfl | (simp [cvSo, *];done)));(focus simp [cvSo, *,-Option.some.injEq];rfl);kernel_rfl)
 refine acall_le (hpr _ _) ?_;rintro r H' nx' hle ⟨rfl,x,rfl⟩;clear hpr;simp only [fauV];have q1:=far (show nx+1<nx' by omega);have q0:=far (show nx<nx' by omega)
 by_cases h0:progE l=0
 case neg =>
  generalize progE l=E at *;refine gW ?_
  (refine⟨_,(by simp [*];rfl),?_⟩;(try simp only [packA]))
  exact .inl ⟨E,h0,rfl⟩
 have hme:∀ c∈l,∀ m∈c.methods,methE (hiOf l) c.name m=0:=fun c hc m hm=>prog_meth h0 hc hm
 have hfin:∀ D:List Fu,D.length≤256→(∀ f∈D,okF f)→D=unitF l→∀ mn:Int,LwR l (.ret (.tup [.agg [.lst ((hiOf l).map cvD),.lst (D.map cvFu),.int .i64 mn],.int .i64 0])):=fun D h1 h2 h3 mn=>by
  subst h3;exact .inr ⟨h0,h1,h2,mn,rfl⟩
 rw [h0,show ((0:Nat):Int)=0 from rfl];have hll:=hL.ln.lb.len;have hof:=tk_Of l hL.ln.lb;have hHB:=hL.ln.hb;simp only [cvH] at hof;have hlc:∀ H',lenA Tryz.prog H' 22 (.lst (l.map cvC))=some (.int .i64 l.length):=fun H'=>len_Cl _
 clear h0;have hD:(l.flatMap fun c=>c.methods.map (funB (hiOf l) c.name))=unitF l:=rfl;generalize hiOf l=hh at *;refine gW ?_
 ((apply Xr);(focus rfl);(focus (first | rfl | (simp [cvSo, *];done)));(focus simp [cvSo, *,-Option.some.injEq];rfl);kernel_rfl)
 ·exact hof _
 clear hof;refine gW ?_;refine AWp.countO l.length [7,9,11,12,14,30] 31 (fun i e H1 n1=>e 30=.int .i64 i∧(∃ s:Nat,e 7=.int .i64 s∧s≤1024)∧PgS hh (nx+1) (nx'+1) (fun _=>False) ((l.take i).flatMap fun c=>c.methods.map (funB hh c.name)) H1 n1) ⟨(by first | (simp (disch:=omega) [putE,over,ofV,ofS, *];done) | (simp (disch:=omega) [putE,over,ofV,ofS, *];rfl)),⟨0,(by first | (simp (disch:=omega) [putE,over,ofV,ofS, *];done) | (simp (disch:=omega) [putE,over,ofV,ofS, *];rfl)),by omega⟩,⟨⟨.nils,0,by simp [upd],OwnG.nil,fun _ h=>h.elim⟩,by simp [upd,q1,q0],by omega,by simp,by simp⟩⟩ ?_;clear hlc q1 q0;rintro i v H1 n1 hi hn1 ⟨h30,⟨s,h7,hs⟩,pS⟩;refine gW ?_
 (((apply AWp.cond');(focus (simp [*,-Ax.CV.bool.injEq];rfl))) <;> (intro hb) <;> (try simp only [decide_eq_true_eq,decide_eq_false_iff_not,Bool.not_eq_true',Bool.not_eq_false',Bool.not_eq_true,Bool.not_eq_false] at hb))
 ·have hlt:i<l.length:=hb;have hwi:=lim_wrap hlt hll;clear hb;have hcm:=List.getElem_mem hlt;have hml:=hL.ln.lb.ml _ hcm;have hszc:=hL.sz _ hcm;have hmec:=hme _ hcm;have hfl:(l.take (i+1)).flatMap (fun c=>c.methods.map (funB hh c.name))=((l.take i).flatMap fun c=>c.methods.map (funB hh c.name))++l[i].methods.map (funB hh l[i].name):=by
   rw [List.take_succ_eq_append_getElem hlt,List.flatMap_append];simp
  rw [hfl];generalize ((l.take i).flatMap fun c=>c.methods.map (funB hh c.name))=D0 at *;generalize hce:l[i]=c at *;have hlm:∀ H',lenA Tryz.prog H' 36 (.lst (c.methods.map cvM))=some (.int .i64 c.methods.length):=fun H'=>len_Me _
  clear hme hfin hfl hD;refine gWf cvC.eq_1 ?_;have hpn:nx+1<n1:=by omega
  refine AWp.countO c.methods.length [7,11,12,14,37] 38 (fun j e H2 n2=>e 37=.int .i64 j∧(∃ s:Nat,e 7=.int .i64 s∧s≤1024)∧PgS hh (nx+1) (nx'+1) (·=n1) (D0++(c.methods.take j).map (funB hh c.name)) H2 n2∧H2 n1=some (.cells [.str c.name,.str c.super,.lst (c.fields.map cvF),.lst (c.methods.map cvM)])) ⟨(by first | (simp (disch:=omega) [putE,over,ofV,ofS, *];done) | (simp (disch:=omega) [putE,over,ofV,ofS, *];rfl)),⟨s,(by first | (simp (disch:=omega) [putE,over,ofV,ofS, *];done) | (simp (disch:=omega) [putE,over,ofV,ofS, *];rfl)),hs⟩,by rw [List.take_zero,List.map_nil,List.append_nil];exact (pS.new (Nat.le_refl _)).up hpn (Nat.le_succ _) fun y hy=>upd_miss _ _ _ _ (by omega),by simp [upd]⟩ ?_;clear pS h7 hs hlm;rintro j v2 H2 n2 hj hn2 ⟨h37,⟨s2,h7,hs2⟩,pS,hC⟩;refine gW ?_
  (((apply AWp.cond');(focus (simp [*,-Ax.CV.bool.injEq];rfl))) <;> (intro hb) <;> (try simp only [decide_eq_true_eq,decide_eq_false_iff_not,Bool.not_eq_true',Bool.not_eq_false',Bool.not_eq_true,Bool.not_eq_false] at hb))
  ·have hlj:j<c.methods.length:=hb;have hwj:=lim_wrap hlj hml;clear hb;have hmm:=List.getElem_mem hlj;have hsz:=hszc _ hmm;have hfn:=lw_function hHB c.name _ (hmec _ hmm) hsz;have hcz:=funB_sz hh c.name c.methods[j];have hDj:(c.methods.take (j+1)).map (funB hh c.name)=(c.methods.take j).map (funB hh c.name)++[funB hh c.name c.methods[j]]:=by
    rw [List.take_succ_eq_append_getElem hlj,List.map_append];rfl
   rw [hDj,← List.append_assoc];generalize D0++(c.methods.take j).map (funB hh c.name)=D at *;generalize hmj:c.methods[j]=m at *;generalize funB hh c.name m=f at *;clear hDj hszc hmec hmm;have hfl:f.code.length≤lim:=by omega
   have pS0:=pS;obtain⟨⟨c0,mn,hU,hO,hKn⟩,hz,hUn,hDl,hDo⟩:=pS0;simp only [cvH,cvM,cvFu] at hfn;have hlj':∀ H',lenA Tryz.prog H' 44 (.lst (f.code.map cvJ))=some (.int .i64 f.code.length):=fun H'=>len_J _
   have q1:=far (show n1<n2 by omega);have q2:=far (show nx'+1<n2 by omega);refine gWf cvM.eq_1 ?_
   ((apply Xr);(focus rfl);(focus (first | rfl | (simp [*];done)));(focus simp [*,-Option.some.injEq];rfl);kernel_rfl)
   ·exact hfn _
   clear hfn;refine gW ?_;refine AWp.countO f.code.length [7,14,50] 51 (fun q e H3 n3=>e 50=.int .i64 q∧(∃ s:Nat,e 7=.int .i64 s∧s≤1024+q)∧PgS hh (nx+1) (nx'+1) (·=n1) D H3 n3∧H3 n1=some (.cells [.str c.name,.str c.super,.lst (c.fields.map cvF),.lst (c.methods.map cvM)])∧H3 n2=some (.cells [.str m.name,.bool m.static,.lst (m.params.map cvF),.str m.result,.lst (m.body.map cvS)])∧H3 (n2+1)=some (.cells [.str f.cls,.str f.name,.bool f.static,.int .i64 f.params,.lst (f.vars.map cvF),.str f.result,.lst (f.code.map cvJ)])) ⟨(by first | (simp (disch:=omega) [putE,over,ofV,ofS, *];done) | (simp (disch:=omega) [putE,over,ofV,ofS, *];rfl)),⟨s2,(by first | (simp (disch:=omega) [putE,over,ofV,ofS, *];done) | (simp (disch:=omega) [putE,over,ofV,ofS, *];rfl)),by omega⟩,pS.up (by omega) (by omega) (fun y hy=>by repeat rw [upd_miss _ _ _ _ (by omega)]),by simp [upd, *],by simp [upd],by simp [upd]⟩ ?_;clear pS h7 hs2 hC hU hO hz hUn;rintro q v3 H3 n3 hq hn3 ⟨h50,⟨s3,h7,hs3⟩,pS,hC,hM,hF⟩;refine gW ?_
   (((apply AWp.cond');(focus (simp [*,-Ax.CV.bool.injEq];rfl))) <;> (intro hb) <;> (try simp only [decide_eq_true_eq,decide_eq_false_iff_not,Bool.not_eq_true',Bool.not_eq_false',Bool.not_eq_true,Bool.not_eq_false] at hb))
   ·have hlq:q<f.code.length:=hb;have hwq:=lim_wrap hlq hfl;clear hb;generalize hiq:f.code[q]=ii at *;have ho1:=avV_one ii.args;simp only [CV.one] at ho1;have hc1:=avV_cs' ii.args;simp only [CV.cs] at hc1;have hws:IntKind.i64.wrap ((s3:Int)+1)=((s3+1:Nat):Int):=by
     rw [IntKind.wrap_i64];simp only [lim] at hfl;omega
    have q3:=far (show n1<n3 by omega);have q4:=far (show n2<n3 by omega);have q5:=far (show n2+1<n3 by omega)
    by_cases h6:ii.op=6
    ·obtain⟨s4,hs4⟩:∃ s4,s3+1=s4:=⟨_,rfl⟩;rw [hs4] at hws;refine gWf cvJ.eq_1 ?_;exact⟨by ((repeat (first | exact Keeps.base _ _ _ _ | (with_reducible exact Keeps.refl _ _ _) | (refine Keeps.put rfl ?_) | (refine Keeps.over' rfl rfl ?_)))),hlq,(by first | (simp (disch:=omega) [putE,over,ofV,ofS, *];done) | (simp (disch:=omega) [putE,over,ofV,ofS, *];rfl)),⟨s4,(by first | (simp (disch:=omega) [putE,over,ofV,ofS, *];done) | (simp (disch:=omega) [putE,over,ofV,ofS, *];rfl)),by omega⟩,pS.up (by omega) (Nat.le_succ _) (fun y hy=>upd_miss _ _ _ _ (by omega)),by simp [upd, *],by simp [upd, *],by simp [upd, *]⟩
    ·refine gWf cvJ.eq_1 ?_;exact⟨by ((repeat (first | exact Keeps.base _ _ _ _ | (with_reducible exact Keeps.refl _ _ _) | (refine Keeps.put rfl ?_) | (refine Keeps.over' rfl rfl ?_)))),hlq,(by first | (simp (disch:=omega) [putE,over,ofV,ofS, *];done) | (simp (disch:=omega) [putE,over,ofV,ofS, *];rfl)),⟨s3,(by first | (simp (disch:=omega) [putE,over,ofV,ofS, *];done) | (simp (disch:=omega) [putE,over,ofV,ofS, *];rfl)),by omega⟩,pS.up (by omega) (Nat.le_succ _) (fun y hy=>upd_miss _ _ _ _ (by omega)),by simp [upd, *],by simp [upd, *],by simp [upd, *]⟩
   clear hb hj hq hlj';have pS0:=pS;obtain⟨⟨c1,mn1,hU,hO,hKn⟩,hz,hUn,hDl,hDo⟩:=pS0;have htl:=lw_tooLong f;simp only [cvFu] at htl;have hlD:∀ H',lenA Tryz.prog H' 28 c1=some (.int .i64 D.length):=len_Fn hO;have fail:∀ H4:Heap,LwR l (.ret (.tup [.agg [.nils,.nils,.int .i64 0],.int .i64 3])):=fun _=>.inl ⟨3,by omega,rfl⟩
   by_cases d1:D.length<256
   case neg =>
    have d1':(256:Int)≤D.length:=by omega
    refine gW ?_
    (refine⟨_,(by simp [*];rfl),?_⟩;(try simp only [packA]))
    exact fail H3
   have d1':¬ (256:Int)≤D.length:=by omega
   by_cases d2:okF f
   case neg =>
    rw [decide_eq_false d2] at htl;simp only [Bool.not_false] at htl;refine gW ?_
    ((apply Xr);(focus rfl);(focus (first | rfl | (simp [*];done)));(focus simp [*,-Option.some.injEq];rfl);kernel_rfl)
    ·exact htl _
    refine gW ?_
    (refine⟨_,(by simp [*];rfl),?_⟩;(try simp only [packA]))
    exact fail H3
   rw [decide_eq_true d2] at htl;simp only [Bool.not_true] at htl
   by_cases d3:s3≤1024
   case neg =>
    have d3':(1024:Int)<s3:=by omega
    refine gW ?_
    ((apply Xr);(focus rfl);(focus (first | rfl | (simp [*];done)));(focus simp [*,-Option.some.injEq];rfl);kernel_rfl)
    ·exact htl _
    refine gW ?_
    (refine⟨_,(by simp [*];rfl),?_⟩;(try simp only [packA]))
    exact fail H3
   have d3':¬ (1024:Int)<s3:=by omega
   clear fail;refine gW ?_
   ((apply Xr);(focus rfl);(focus (first | rfl | (simp [*];done)));(focus simp [*,-Option.some.injEq];rfl);kernel_rfl)
   ·exact htl _
   clear htl;have hKb:∀ b',c1=.sl b' 0 D.length 7→n1≠b':=fun b' e e2=>hKn n1 rfl (e2▸⟨_,_,_,e⟩)
   have hok:∀ g∈D++[f],okF g:=fun g hg=>by
    rcases List.mem_append.1 hg with hg | hg
    ·exact hDo g hg
    ·rw [List.mem_singleton.1 hg];exact d2
   have hx1:nx+1<n3:=by omega
   have hU1:∀ b',c1=.sl b' 0 D.length 7→nx'+1≠b'∧nx+1≠b':=fun b' e=>by
    rcases hO with⟨_,h⟩ | ⟨b,h,_,h0,_⟩
    ·rw [e] at h;cases h
    ·rw [e] at h;cases h;omega
   have q6:=far (show n1<n3 by omega);have q7:=far (show nx'+1<n3 by omega);have q8:=far (show n2+1<n3 by omega);have q9:=far (show nx+1<n3 by omega);have q10:=far (show nx'+1<n1 by omega);have q11:=far (show nx+1<nx' by omega);have q12:¬ n1=nx'+1:=by omega
   have q13:¬ nx+1=nx'+1:=by omega
   have q14:¬ n2+1=nx'+1:=by omega
   have q15:¬ nx=nx':=by omega
   have q16:¬ n2=nx':=by omega
   have hdr:∀ g:Nat→CV,List.drop 7 (List.map g (List.range 7))=[]:=fun g=>rfl
   have e12:(c.name=[77,97,105,110]∧m.name=[109,97,105,110])∨(c.name=[77,97,105,110]∧¬ m.name=[109,97,105,110])∨¬ c.name=[77,97,105,110]:=by
    by_cases e1:c.name=[77,97,105,110]
    ·by_cases e2:m.name=[109,97,105,110]
     ·exact .inl ⟨e1,e2⟩
     ·exact .inr (.inl ⟨e1,e2⟩)
    ·exact .inr (.inr e1)
   rcases e12 with⟨e1,e2⟩ | ⟨e1,e2⟩ | e1
   ·refine gW ?_;refine AOpl.appQ cvFu_len cvFu_one ti_Fns ti_Fn f (((hO.updL (Nat.lt_succ_self _)).updN (Nat.le_refl _)).up (Nat.le_succ _)).own.toR (by omega) ?_ (hxb:=by simp [upd,cvFu,hdr]);intro H4 hN hfr;have f1:=hfr n1 (by omega) hKb;have f2:=hfr (nx'+1) (by omega) fun b' e=>(hU1 b' e).1
    have f3:=hfr (nx+1) (by omega) fun b' e=>(hU1 b' e).2
    simp [upd, *] at f1 f2 f3;refine gW ?_;exact⟨by ((repeat (first | exact Keeps.base _ _ _ _ | (with_reducible exact Keeps.refl _ _ _) | (refine Keeps.put rfl ?_) | (refine Keeps.over' rfl rfl ?_)))),hlj,(by first | (simp (disch:=omega) [putE,over,ofV,ofS, *];done) | (simp (disch:=omega) [putE,over,ofV,ofS, *];rfl)),⟨s3,(by first | (simp (disch:=omega) [putE,over,ofV,ofS, *];done) | (simp (disch:=omega) [putE,over,ofV,ofS, *];rfl)),d3⟩,⟨⟨.sl (n3+1) 0 (D.length+1) 7,D.length,by simp [upd],(OwnG.isN hN (by omega) (by omega) _ (by simp)).updL (Nat.lt_succ_self _),fun y hy ho=>by have:=ob_sl ho;omega⟩,by simp [upd, *],by omega,by simp;omega,hok⟩,by simp [upd, *]⟩
   ·refine gW ?_;refine AOpl.appQ cvFu_len cvFu_one ti_Fns ti_Fn f ((hO.updN (Nat.le_refl _)).up (Nat.le_succ _)).own.toR (by omega) ?_ (hxb:=by simp [upd,cvFu,hdr]);intro H4 hN hfr;have f1:=hfr n1 (by omega) hKb;have f2:=hfr (nx'+1) (by omega) fun b' e=>(hU1 b' e).1
    have f3:=hfr (nx+1) (by omega) fun b' e=>(hU1 b' e).2
    simp [upd, *] at f1 f2 f3;refine gW ?_;exact⟨by ((repeat (first | exact Keeps.base _ _ _ _ | (with_reducible exact Keeps.refl _ _ _) | (refine Keeps.put rfl ?_) | (refine Keeps.over' rfl rfl ?_)))),hlj,(by first | (simp (disch:=omega) [putE,over,ofV,ofS, *];done) | (simp (disch:=omega) [putE,over,ofV,ofS, *];rfl)),⟨s3,(by first | (simp (disch:=omega) [putE,over,ofV,ofS, *];done) | (simp (disch:=omega) [putE,over,ofV,ofS, *];rfl)),d3⟩,⟨⟨.sl (n3+1) 0 (D.length+1) 7,mn1,by simp [upd],(OwnG.isN hN (by omega) (by omega) _ (by simp)).updL (Nat.lt_succ_self _),fun y hy ho=>by have:=ob_sl ho;omega⟩,by simp [upd, *],by omega,by simp;omega,hok⟩,by simp [upd, *]⟩
   ·refine gW ?_;refine AOpl.appQ cvFu_len cvFu_one ti_Fns ti_Fn f ((hO.updN (Nat.le_refl _)).up (Nat.le_succ _)).own.toR (by omega) ?_ (hxb:=by simp [upd,cvFu,hdr]);intro H4 hN hfr;have f1:=hfr n1 (by omega) hKb;have f2:=hfr (nx'+1) (by omega) fun b' e=>(hU1 b' e).1
    have f3:=hfr (nx+1) (by omega) fun b' e=>(hU1 b' e).2
    simp [upd, *] at f1 f2 f3;refine gW ?_;exact⟨by ((repeat (first | exact Keeps.base _ _ _ _ | (with_reducible exact Keeps.refl _ _ _) | (refine Keeps.put rfl ?_) | (refine Keeps.over' rfl rfl ?_)))),hlj,(by first | (simp (disch:=omega) [putE,over,ofV,ofS, *];done) | (simp (disch:=omega) [putE,over,ofV,ofS, *];rfl)),⟨s3,(by first | (simp (disch:=omega) [putE,over,ofV,ofS, *];done) | (simp (disch:=omega) [putE,over,ofV,ofS, *];rfl)),d3⟩,⟨⟨.sl (n3+1) 0 (D.length+1) 7,mn1,by simp [upd],(OwnG.isN hN (by omega) (by omega) _ (by simp)).updL (Nat.lt_succ_self _),fun y hy ho=>by have:=ob_sl ho;omega⟩,by simp [upd, *],by omega,by simp;omega,hok⟩,by simp [upd, *]⟩
  ·have hj':j=c.methods.length:=by omega
   subst hj';rw [List.take_length] at pS;clear hb;refine gW ?_;exact⟨by ((repeat (first | exact Keeps.base _ _ _ _ | (with_reducible exact Keeps.refl _ _ _) | (refine Keeps.put rfl ?_) | (refine Keeps.over' rfl rfl ?_)))),hlt,(by first | (simp (disch:=omega) [putE,over,ofV,ofS, *];done) | (simp (disch:=omega) [putE,over,ofV,ofS, *];rfl)),⟨s2,(by first | (simp (disch:=omega) [putE,over,ofV,ofS, *];done) | (simp (disch:=omega) [putE,over,ofV,ofS, *];rfl)),hs2⟩,pS.old⟩
 ·have hi':i=l.length:=by omega
  subst hi';rw [List.take_length,hD] at pS;obtain⟨⟨c1,mn1,hU,hO,-⟩,hz,hUn,hDl,hDo⟩:=pS;have hfn:=hfin _ hDl hDo rfl mn1;clear hb hD hfin hme;refine Xh ?_;simp only [Xx,Xy,reduceIte,Nat.reduceEqDiff];refine AWp.own2lstG cvFu_len [.lst (hh.map cvD)] [.int .i64 mn1] hO hU (Nat.lt_succ_self _) ?_;intro H4 hU4 hf4;have hz4:=hf4 (nx+1) (by omega) (by omega);rw [hz] at hz4;simp only [List.cons_append,List.nil_append] at hU4;refine gW ?_
  (refine⟨_,(by simp [*];rfl),?_⟩;(try simp only [packA]))
  exact hfn
end
section
open Lx Ax Go.RowKit
attribute [local simp] stepS Ax.stepT Dl.on qstep astep estep rd putE over argE ofV ofS loadA pickCells isAggD faddA fieldA partA iaddA idxA sliA bnd binA intA strA unA convA bltA mapOf findK keyD scalD storeA appA srcA srcD upd drp Dl.hp Dl.nx CV.cs CV.one buildA placesA fillA zrep tasA ifaceD eqA eqFs eqIs range2 copyA nbeq nble nblt decEq beqI bneI beqS bneS isED Int.ofNat_inj List.getElem?_map List.getElem?_eq_getElem Option.map_some ti_int ti_bool ti_str ti_i64 ti_Strs ti_Flds ti_Fld ti_Ex ti_Exs ti_St ti_Sts gd gdB callA resA op1
attribute [local simp] nu1 nu2 nu3 nu4 nu5 nu6 nu7 nu8 nu9 nu10 nu11 nu12 nu13 upd_upd
theorem wrap_ok {x:Int}(h:-400000000≤x∧x≤400000000):IntKind.i64.wrap x=x:=by rw [IntKind.wrap_i64];omega
end
end Go.Proofs.YtoookjadbhdfhaaGreatDoor
