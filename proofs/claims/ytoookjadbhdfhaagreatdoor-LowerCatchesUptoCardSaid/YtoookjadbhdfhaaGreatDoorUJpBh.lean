/-
  lower.locals; walked.
-/
import Derived.Test.YtoookjadbhdfhaaGreatDoorUJpBg
import Derived.Test.YtoookjadbhdfhaaGreatDoorUJpAs
set_option linter.unusedSectionVars false
set_option linter.unusedSimpArgs false
set_option linter.unnecessarySimpa false
set_option linter.unusedVariables false
set_option linter.unusedSimpArgs false
set_option linter.unusedVariables false
namespace Go.Proofs.YtoookjadbhdfhaaGreatDoor
section
open Lx Ax Go.RowKit
attribute [local simp] stepS Ax.stepT Dl.on qstep astep estep rd putE over argE ofV ofS loadA pickCells isAggD faddA fieldA partA iaddA idxA sliA bnd binA intA strA unA convA bltA mapOf findK keyD scalD storeA appA srcA srcD upd drp Dl.hp Dl.nx CV.cs CV.one buildA placesA fillA zrep tasA ifaceD eqA eqFs eqIs range2 copyA nbeq nble nblt decEq beqI bneI beqS bneS isED Int.ofNat_inj List.getElem?_map List.getElem?_eq_getElem Option.map_some ti_int ti_bool ti_str ti_i64 ti_Strs ti_Flds ti_Fld ti_Ints ti_Ins ti_In ti_Bd ti_Kd ti_Kf ti_Pb ti_Ex ti_Exs ti_St ti_Sts gd gdB callA resA op1
attribute [local simp] nu1 nu2 nu3 nu4 nu5 nu6 nu7 nu8 nu9 nu10 nu11 nu12 nu13 upd_upd
theorem len_stsM {H:Heap}(l:List St):lenA Tryz.prog H 39 (.lst (l.map cvS))=some (.int .i64 l.length):=by
 unfold lenA;simp [ti_Sts]
/-- A list of variables that grows. -/
structure LocS (H:Heap) (nx:Nat) (c ci:CV) (li:List Fld) (H1:Heap) (n1:Nat):Prop where
 own:OwnR cvF 2 H1 n1 ci li
 le:nx≤n1
 fr:∀ x,x<nx→¬ ob c x→H1 x=H x
 ob:∀ x,ob ci x→ob c x∨nx≤x
theorem LocS.lo {H:Heap}{nx:Nat}{c ci:CV}{li:List Fld}{H1:Heap}{n1:Nat}(s:LocS H nx c ci li H1 n1){x:Nat}(hx:Go.Proofs.YtoookjadbhdfhaaGreatDoor.ob ci x):x<n1:=(s.own.obl hx).1
theorem LocS.up {H:Heap}{nx:Nat}{c ci:CV}{li:List Fld}{H1 H2:Heap}{n1 n2:Nat}(s:LocS H nx c ci li H1 n1)(hn:n1≤n2)(hk:∀ x,x<n1→H2 x=H1 x):LocS H nx c ci li H2 n2 :=
 ⟨s.own.keep' hn fun x hx=>hk x (s.lo hx),by have:=s.le;omega,fun x hx ho=>by rw [hk x (by have:=s.le;omega)];exact s.fr x hx ho,s.ob⟩
theorem LocS.app {H:Heap}{nx:Nat}{c ci:CV}{li:List Fld}{H1 H2:Heap}{n1:Nat}{u:Fld}(s:LocS H nx c ci li H1 n1)(hN:H2 n1=some (.cells ((li++[u]).flatMap cvF)))(hfr:∀ b,b<n1→(∀ b',ci=.sl b' 0 li.length 2→b≠b')→H2 b=H1 b):LocS H nx c (.sl n1 0 (li.length+1) 2) (li++[u]) H2 (n1+1) :=
 ⟨OwnR.isN0 hN (Nat.lt_succ_self _) _ (by simp),by have:=s.le;omega,fun x hx ho=>by
  rw [hfr x (by have:=s.le;omega) fun b' e e2=>?_,s.fr x hx ho];rcases s.ob b' ⟨_,_,_,e⟩ with h5 | h5
  ·exact ho (e2▸h5)
  ·omega,fun x hx=>by have:=ob_sl hx;have:=s.le;exact .inr (by omega)⟩
theorem LocS.seq {H:Heap}{nx:Nat}{c ci cj:CV}{li lj:List Fld}{H1 H2:Heap}{n1 n2:Nat}(s:LocS H nx c ci li H1 n1)(t:LocS H1 n1 ci cj lj H2 n2):LocS H nx c cj lj H2 n2 :=
 ⟨t.own,by have:=s.le;have:=t.le;omega,fun x hx ho=>by
  rw [t.fr x (by have:=s.le;omega) fun h5=>?_,s.fr x hx ho];rcases s.ob x h5 with h6 | h6
  ·exact ho h6
  ·omega,fun x hx=>by
  rcases t.ob x hx with h5 | h5
  ·exact s.ob x h5
  ·exact .inr (by have:=s.le;omega)⟩
def LocOk (body:List St):Prop:=∀ H nx c l,OwnR cvF 2 H nx c l→l.length+stsSz body≤lim →
 DCall Tryz.prog tkG 49 [c,.lst (body.map cvS)] H nx fun v H' nx'=>LocS H nx c v (l++locsS body) H' nx'
set_option maxRecDepth 10000 in
set_option maxHeartbeats 16000000 in
theorem lw_locals1 (body:List St)(ih:∀ m,stsSz m<stsSz body→LocOk m):LocOk body:=by
 intro H nx c l hc hl;refine DCall.of_body Tryz.func49 rfl ?_;have hbl:body.length≤lim:=by have:=stsSz_len body;omega
 have hls:∀ H',lenA Tryz.prog H' 39 (.lst (body.map cvS))=some (.int .i64 body.length):=fun H'=>len_stsM body
 obtain⟨W,hW⟩:∃ W,l++locsS body=W:=⟨_,rfl⟩;rw [hW];refine gD ?_;refine DWp.countO body.length [0,6,7,10] 11 (fun i e H1 n1=>e 10=.int .i64 i∧∃ li,LocS H nx c (e 0) li H1 n1∧li.length+stsSz (body.drop i)≤lim∧li++locsS (body.drop i)=W) ⟨(by first | (simp (disch:=omega) [putE,over,ofV,ofS, *];done) | (simp (disch:=omega) [putE,over,ofV,ofS, *];rfl)),l,?_,by simpa using hl,by simpa using hW⟩ ?_
 ·have e5:∀ c',c'=c→LocS H nx c c' l H nx:=fun c' e=>by subst e;exact⟨hc,Nat.le_refl _,fun _ _ _=>rfl,fun _ hx=>.inl hx⟩
  exact e5 _ (by first | (simp (disch:=omega) [putE,over,ofV,ofS, *];done) | (simp (disch:=omega) [putE,over,ofV,ofS, *];rfl))
 clear hls hW hl hc;rintro i v H1 n1 hil ⟨h10,li,s1,hl,hW⟩;generalize hv0:v 0=ci at *;refine gD ?_
 (((apply DWp.cond');(focus (simp [*,-Ax.CV.bool.injEq];rfl))) <;> (intro hb) <;> (try simp only [decide_eq_true_eq,decide_eq_false_iff_not,Bool.not_eq_true',Bool.not_eq_false',Bool.not_eq_true,Bool.not_eq_false] at hb))
 ·have hlt:i<body.length:=hb;have hwi:=lim_wrap hlt hbl;clear hb;rw [List.drop_eq_getElem_cons hlt] at hl hW;rw [locsS,← List.append_assoc] at hW;rw [stsSz] at hl;have hsz:stSz body[i]≤stsSz body:=by
   exact stsSz_mem (List.getElem_mem hlt)
  generalize hse:body[i]=s at *;obtain⟨k,nm,ty,es,bd,el⟩:=s;have ih1:=ih bd (by rw [stSz] at hsz;omega);have ih2:=ih el (by rw [stSz] at hsz;omega);rw [stSz] at hl;have hb1:=locsS_len bd;have hb2:=locsS_len el;clear ih hsz;have q1:=far (Nat.lt_succ_self n1);have hci:∀ x,Go.Proofs.YtoookjadbhdfhaaGreatDoor.ob ci x→x<n1:=fun x hx=>s1.lo hx
  have nci:∀ b',ci=.sl b' 0 li.length 2→∀ x,n1≤x→x≠b':=fun b' e x hx e2=>by have:=hci b' ⟨_,_,_,e⟩;omega
  have fin:∀ cj lj Hj nj Lr,LocS H nx c cj lj Hj nj→lj.length+stsSz el≤lim→lj++locsS el++locsS (body.drop (i+1))=W→lj.length+stsSz el+stsSz (body.drop (i+1))≤lim→∀ v' H'' n'',LocS Hj nj cj v' (lj++locsS el) H'' n''→Lr=lj++locsS el→LocS H nx c v' Lr H'' n''∧Lr.length+stsSz (body.drop (i+1))≤lim∧Lr++locsS (body.drop (i+1))=W:=fun cj lj Hj nj Lr a b1 c1 d1 v' H'' n'' e1 f1=>by
   subst f1;exact⟨a.seq e1,by rw [List.length_append];omega,c1⟩
  by_cases k1:k=1
  ·subst k1;rw [locS,if_pos rfl,if_neg (by omega)] at hW;simp only [List.append_nil] at hW;have s2:=fun k1 k2 k3=>s1.up (H2:=upd (upd (upd H1 n1 k1) (n1+1) k2) (n1+1+1) k3) (n2:=n1+1+1+1) (by omega) fun x hx=>by repeat rw [upd_miss _ _ _ _ (by omega)]
   refine gDf Ya ?_;refine DOpl.appQ cvF_len cvF_one' ti_Flds ti_Fld (⟨nm,ty⟩:Fld) (s2 _ _ _).own (by simp only [lim] at hl;omega) ?_ (hxb:=by simp [upd,cvF]);intro H2 hN hfr;have s3:=(s2 _ _ _).app hN hfr;have g1:H2 n1=_:=hfr n1 (by omega) fun b' e=>nci b' e n1 (Nat.le_refl _)
   rw [upd_miss _ _ _ _ (by omega),upd_miss _ _ _ _ (by omega),upd_hit] at g1;clear s2 hN hfr;refine gD ?_
   ((apply DOpl.callD);(focus rfl);(focus (first | rfl | (simp [*];done)));(focus simp [*,-Option.some.injEq];rfl);kernel_rfl)
   ·exact ih1 _ _ _ _ s3.own (by rw [List.length_append];simp only [List.length_cons,List.length_nil];omega)
   rintro v3 H3 n3 t3;have g3:=t3.fr n1 (by omega) fun ho=>by have:=ob_sl ho;omega
   rw [g1] at g3;have s4:=s3.seq t3;clear ih1;have hl4:(li++[(⟨nm,ty⟩:Fld)]++locsS bd).length=li.length+1+(locsS bd).length:=by simp;omega
   refine gD ?_
   ((apply DOpl.callD);(focus rfl);(focus (first | rfl | (simp [*];done)));(focus simp [*,-Option.some.injEq];rfl);kernel_rfl)
   ·exact ih2 _ _ _ _ t3.own (by omega)
   rintro v5 H5 n5 t5;clear ih2;refine gD ?_;refine⟨by ((repeat (first | exact Keeps.base _ _ _ _ | (with_reducible exact Keeps.refl _ _ _) | (refine Keeps.put rfl ?_) | (refine Keeps.over' rfl rfl ?_)))),hlt,(by first | (simp (disch:=omega) [putE,over,ofV,ofS, *];done) | (simp (disch:=omega) [putE,over,ofV,ofS, *];rfl)),li++[(⟨nm,ty⟩:Fld)]++locsS bd++locsS el,?_⟩;have:=fin _ _ _ _ _ s4 (by omega) (by rw [← hW];simp) (by omega) _ _ _ t5 rfl;exact this
  have s2:=fun k1 k2=>s1.up (H2:=upd (upd H1 n1 k1) (n1+1) k2) (n2:=n1+1+1) (by omega) fun x hx=>by repeat rw [upd_miss _ _ _ _ (by omega)]
  by_cases k6:k=6
  ·subst k6;rw [locS,if_neg (by omega),if_pos rfl] at hW;simp only [List.nil_append] at hW;refine gDf Ya ?_
   ((apply DOpl.callD);(focus rfl);(focus (first | rfl | (simp [*];done)));(focus simp [*,-Option.some.injEq];rfl);kernel_rfl)
   ·exact ih1 _ _ _ _ (s2 _ _).own (by omega)
   rintro v3 H3 n3 t3;have g3:=t3.fr n1 (by omega) fun ho=>by have:=hci _ ho;omega
   have g4:=t3.fr (n1+1) (by omega) fun ho=>by have:=hci _ ho;omega
   rw [upd_miss _ _ _ _ (by omega),upd_hit] at g3;rw [upd_hit] at g4;have s4:=(s2 _ _).seq t3;have hlt3:∀ x,Go.Proofs.YtoookjadbhdfhaaGreatDoor.ob v3 x→x<n3:=fun x hx=>t3.lo hx
   have hn3:=t3.le;have nob3:∀ x,n1≤x→x<n1+1+1→¬ Go.Proofs.YtoookjadbhdfhaaGreatDoor.ob v3 x:=fun x h1 h2 ho=>by
    rcases t3.ob x ho with h5 | h5
    ·have:=hci x h5;omega
    ·omega
   clear ih1 s2;have hl4:(li++locsS bd).length=li.length+(locsS bd).length:=by simp
   have q3:=far (show n1<n3 by omega);have q4:=far (show n1+1<n3 by omega);have s5:=fun k1=>s4.up (H2:=upd H3 n3 k1) (n2:=n3+1) (by omega) fun x hx=>upd_miss _ _ _ _ (by omega)
   refine gD ?_;refine DOpl.appQ cvF_len cvF_one' ti_Flds ti_Fld (⟨nm,ty⟩:Fld) (s5 _).own (by rw [hl4];simp only [lim] at hl;omega) ?_ (hxb:=by simp [upd,cvF]);intro H4 hN hfr;have s6:=(s5 _).app hN hfr;have hl6:(li++locsS bd++[(⟨nm,ty⟩:Fld)]).length=li.length+(locsS bd).length+1:=by simp [Nat.add_assoc]
   rw [hl4] at s6;have g5:H4 n1=_:=hfr n1 (by omega) fun b' e e2=>nob3 n1 (Nat.le_refl _) (by omega) (e2▸⟨_,_,_,e⟩)
   rw [upd_miss _ _ _ _ (by omega),g3] at g5;clear s5 hN hfr;refine gD ?_
   ((apply DOpl.callD);(focus rfl);(focus (first | rfl | (simp [*];done)));(focus simp [*,-Option.some.injEq];rfl);kernel_rfl)
   ·exact ih2 _ _ _ _ s6.own (by omega)
   rintro v5 H5 n5 t5;clear ih2;refine gD ?_;refine⟨by ((repeat (first | exact Keeps.base _ _ _ _ | (with_reducible exact Keeps.refl _ _ _) | (refine Keeps.put rfl ?_) | (refine Keeps.over' rfl rfl ?_)))),hlt,(by first | (simp (disch:=omega) [putE,over,ofV,ofS, *];done) | (simp (disch:=omega) [putE,over,ofV,ofS, *];rfl)),li++locsS bd++[(⟨nm,ty⟩:Fld)]++locsS el,?_⟩;have:=fin _ _ _ _ _ s6 (by omega) (by rw [← hW];simp) (by omega) _ _ _ t5 rfl;exact this
  ·rw [locS,if_neg k1,if_neg k6] at hW;simp only [List.nil_append,List.append_nil] at hW;refine gDf Ya ?_
   ((apply DOpl.callD);(focus rfl);(focus (first | rfl | (simp [*];done)));(focus simp [*,-Option.some.injEq];rfl);kernel_rfl)
   ·exact ih1 _ _ _ _ (s2 _ _).own (by omega)
   rintro v3 H3 n3 t3;have g3:=t3.fr n1 (by omega) fun ho=>by have:=hci _ ho;omega
   rw [upd_miss _ _ _ _ (by omega),upd_hit] at g3;have s4:=(s2 _ _).seq t3;clear ih1 s2;have hl4:(li++locsS bd).length=li.length+(locsS bd).length:=by simp
   refine gD ?_
   ((apply DOpl.callD);(focus rfl);(focus (first | rfl | (simp [*];done)));(focus simp [*,-Option.some.injEq];rfl);kernel_rfl)
   ·exact ih2 _ _ _ _ t3.own (by omega)
   rintro v5 H5 n5 t5;clear ih2;refine gD ?_;refine⟨by ((repeat (first | exact Keeps.base _ _ _ _ | (with_reducible exact Keeps.refl _ _ _) | (refine Keeps.put rfl ?_) | (refine Keeps.over' rfl rfl ?_)))),hlt,(by first | (simp (disch:=omega) [putE,over,ofV,ofS, *];done) | (simp (disch:=omega) [putE,over,ofV,ofS, *];rfl)),li++locsS bd++locsS el,?_⟩;have:=fin _ _ _ _ _ s4 (by omega) (by rw [← hW];simp) (by omega) _ _ _ t5 rfl;exact this
 ·have hi':body.length≤i:=by omega
  rw [List.drop_eq_nil_of_le hi',locsS,List.append_nil] at hW;subst hW;clear hb ih;refine gD ?_
  (refine⟨_,(by simp [*];rfl),?_⟩;(try simp only [packA]))
  exact⟨_,rfl,s1⟩
theorem lw_locals:∀ (N:Nat) (body:List St),stsSz body≤N→LocOk body
 | 0,body,h=>lw_locals1 body fun m hm=>by omega
 | N+1,body,h=>lw_locals1 body fun m hm=>lw_locals N m (by omega)
theorem lw_loc (body:List St):LocOk body:=lw_locals (stsSz body) body (Nat.le_refl _)
/-- A function that gives back an own list, with room behind it. -/
theorem FCall.ofRow {P:Program}{G:Nat→CV}{f:FuncId}{args:List CV}{α:Type}{cv:α→List CV}{k:Nat}{l:List α}(hk:∀ a,(cv a).length=k)
  (h:∀ nx,ACall P G f args Heap.no nx fun r H' nx'=>∃ c,r=.ret c∧OwnR cv k H' nx' c l):FCall P G f args fun r=>r=.ret (.lst (l.map cv)):=by
 refine FCall.of fun nx=>?_
 intro M w vs g r v;refine (h nx M w vs g r v).mono ?_;rintro e w' ⟨M1,x,H1,n1,a1,a2,a3,c,rfl,ho⟩;rcases ho with⟨rfl,rfl⟩ | ⟨b,rest,rfl,hb,_⟩
 ·cases e <;> simp only [EndR] at a1;exact⟨M1,.ret (.lst []),Heap.no,n1,RV.nil_lst a1,a2.weak (Sub.no _),a3.trans (Fr.weak (Sub.no _)),rfl⟩
 ·have e1:rowsOf (l.flatMap cv++rest) 0 k l.length=l.map cv:=by
   have:=rowsOf_flat (k:=k) (rows:=l.map cv) (fun r hr=>by obtain⟨a,_,rfl⟩:=List.mem_map.mp hr;exact hk a) [] rest;rw [flat_map] at this;simpa using this
  have e2:=FV.sl (b:=b) (cs:=l.flatMap cv++rest) 0 l.length k (by rw [List.length_append,flatMap_len hk];omega);rw [e1] at e2;obtain⟨M2,b1,b2,b3⟩:=Fz.sound (.step (r1:=.ret (.lst (l.map cv))) b _ hb (.ret e2) (.done _ _ _ (Sub.no _))) a2 a1;exact⟨M2,_,Heap.no,n1,b1,b2,a3.trans b3,rfl⟩
theorem puStL (l:List St):puL [.nils,.lst (l.map cvS)]=true:=by simp [puL,puV,puRm puS]
theorem lw_loc0 (body:List St)(hl:stsSz body≤lim):FCall1 Tryz.prog tkG 49 [.nils,.lst (body.map cvS)] (.lst ((locsS body).map cvF)):=by
 refine FCall.one tkG_pu (puStL body) (by simp [puV,puRm puF]) (FCall.ofRow cvF_len fun nx=>?_);have:=lw_loc body Heap.no nx .nils [] OwnR.nil (by simpa using hl);exact this.toA.mono fun r H' nx' ⟨v,h1,h2⟩=>⟨v,h1,by simpa using h2.own⟩
end
section
open Lx Ax Go.RowKit
attribute [local simp] stepS Ax.stepT Dl.on qstep astep estep rd putE over argE ofV ofS loadA pickCells isAggD faddA fieldA partA iaddA idxA sliA bnd binA intA strA unA convA bltA mapOf findK keyD scalD storeA srcA srcD upd drp Dl.hp Dl.nx CV.cs CV.one buildA placesA fillA zrep tasA ifaceD eqA eqFs eqIs range2 copyA nbeq nble nblt decEq beqI bneI beqS bneS isED Int.ofNat_inj List.getElem?_map List.getElem?_eq_getElem Option.map_some ti_int ti_bool ti_str ti_i64 ti_Strs ti_Flds ti_Fld ti_Ints ti_St ti_Sts ti_Me gd gdB callA resA op1
attribute [local simp] nu1 nu2 nu3 nu4 nu5 nu6 nu7 nu8 nu9 nu10 nu11 nu12 nu13 upd_upd
set_option maxRecDepth 10000 in
set_option maxHeartbeats 8000000 in
theorem lw_Slots (cls:Bytes)(m:Me)(hl:m.params.length+stsSz m.body+1≤lim)(H:Heap)(nx:Nat) :
  DCall Tryz.prog tkG 23 [.str cls,.agg (cvM m)] H nx fun v H' nx'=>LocS H nx .nils v (slotsB cls m) H' nx':=by
 refine DCall.of_body Tryz.func23 rfl ?_;unfold slotsB;have q0:=far (Nat.lt_succ_self nx);have fin:∀ (A:List Fld) c1 H1 n1 c2 H2 n2,OwnL cvF 2 H1 n1 c1 (A++m.params)→nx≤n1→(∀ x,x<nx→H1 x=H x)→(∀ x,ob c1 x→nx≤x)→LocS H1 n1 c1 c2 (A++m.params++locsS m.body) H2 n2→LocS H nx .nils c2 (A++m.params++locsS m.body) H2 n2:=fun A c1 H1 n1 c2 H2 n2 a1 a2 a3 a4 t =>
  ⟨t.own,by have:=t.le;omega,fun x hx _=>by rw [t.fr x (by omega) fun ho=>by have:=a4 x ho;omega];exact a3 x hx,fun x hx=>.inr (by
   rcases t.ob x hx with h5 | h5
   ·exact a4 x h5
   ·omega)⟩
 have hbl:=lw_loc m.body;cases hst:m.static with
 | true =>
   simp only [if_true];refine gDf cvM.eq_1 ?_;refine DOpl.appLst (l2:=m.params) (c:=.nils) (l:=[]) cvF_len cvF_one' ti_Flds ti_Fld (.inl ⟨rfl,rfl⟩) (by simp only [lim] at hl;simp;omega) ?_ (by simp);intro c1 H1 n1 ho hn1 hfr hob;have g1:H1 nx=_:=hfr nx (by omega) fun b' e=>by cases e
   rw [upd_hit] at g1;have hcl:=hbl H1 n1 c1 _ ho.toR (by simp;omega);refine gD ?_
   ((apply DOpl.callD);(focus rfl);(focus (first | rfl | (simp [*];done)));(focus simp [*,-Option.some.injEq];rfl);kernel_rfl)
   ·exact hcl
   rintro v H2 n2 t;clear hcl;refine gD ?_
   (refine⟨_,(by simp [*];rfl),?_⟩;(try simp only [packA]))
   exact⟨_,rfl,fin [] c1 H1 n1 _ _ _ ho (by omega) (fun x hx=>by rw [hfr x (by omega) (fun b' e=>by cases e)];exact upd_miss _ _ _ _ (by omega)) (fun x hx=>by have:=hob x hx;omega) t⟩
 | false =>
   simp only [Bool.false_eq_true,if_false];refine gDf cvM.eq_1 ?_;refine DOpl.appQ cvF_len cvF_one' ti_Flds ti_Fld (⟨[116,104,105,115],cls⟩:Fld) (l:=[]) (c:=.nils) OwnR.nil (by simp) ?_ (hxb:=by simp [upd,cvF]);intro H1 hN hfr;have g1:H1 nx=_:=hfr nx (by omega) fun b' e=>by cases e
   rw [upd_miss _ _ _ _ (by omega),upd_hit] at g1;refine gD ?_;refine DOpl.appLst (l2:=m.params) (l:=[(⟨[116,104,105,115],cls⟩:Fld)]) cvF_len cvF_one' ti_Flds ti_Fld (.inr ⟨nx+1+1,rfl,hN,Nat.lt_succ_self _⟩) (by simp only [lim] at hl;simp;omega) ?_ (by simp);intro c1 H2 n2 ho hn1 hfr2 hob;have g2:H2 nx=_:=hfr2 nx (by omega) fun b' e=>by cases e;omega
   rw [g1] at g2;have hcl:=hbl H2 n2 c1 _ ho.toR (by simp;omega);refine gD ?_
   ((apply DOpl.callD);(focus rfl);(focus (first | rfl | (simp [*];done)));(focus simp [*,-Option.some.injEq];rfl);kernel_rfl)
   ·exact hcl
   rintro v H3 n3 t;clear hcl;refine gD ?_
   (refine⟨_,(by simp [*];rfl),?_⟩;(try simp only [packA]))
   exact⟨_,rfl,fin [(⟨[116,104,105,115],cls⟩:Fld)] c1 H2 n2 _ _ _ ho (by omega) (fun x hx=>by
    rw [hfr2 x (by omega) (fun b' e=>by cases e;omega),hfr x (by omega) (fun b' e=>by cases e)]
    repeat rw [upd_miss _ _ _ _ (by omega)]) (fun x hx=>by have:=hob x hx;omega) t⟩
end
section
open Lx Ax Go.RowKit
attribute [local simp] stepS Ax.stepT Dl.on qstep astep estep rd putE over argE ofV ofS loadA pickCells isAggD faddA fieldA partA iaddA idxA sliA bnd binA intA strA unA convA bltA lenA mapOf findK keyD scalD storeA appA srcA srcD upd drp Dl.hp Dl.nx CV.cs CV.one buildA placesA fillA zrep tasA ifaceD eqA eqFs eqIs range2 copyA nbeq nble nblt decEq beqI bneI beqS bneS isED Int.ofNat_inj List.getElem?_map List.getElem?_eq_getElem Option.map_some ti_int ti_bool ti_str ti_i64 ti_Strs ti_Flds ti_Fld ti_Ints ti_Ins ti_In ti_Bd ti_Kd ti_Kf ti_Pb ti_Ex ti_Exs ti_St ti_Sts gd gdB callA resA op1
attribute [local simp] nu1 nu2 nu3 nu4 nu5 nu6 nu7 nu8 nu9 nu10 nu11 nu12 nu13 upd_upd
section
variable {h:List Cd} {cls res:Bytes} {T sc sc':List Fld}
theorem st_shp {k:Int}{nm ty:Bytes}{es:List Ex}{bd el:List St}(hk:stT h cls res sc (.mk k nm ty es bd el)=.ok sc'):shpE k es.length bd.length el.length=0:=by
 rw [stT] at hk
 by_cases hs:shpE k es.length bd.length el.length=0
 ·exact hs
 ·rw [if_pos hs] at hk;cases hk
theorem st_sim {k:Int}{nm ty:Bytes}{es:List Ex}{bd el:List St}(hk:stT h cls res sc (.mk k nm ty es bd el)=.ok sc')(h456:¬ (k=4∨k=5∨k=6)):simT h cls res sc k nm ty es=.ok sc':=by
 have hs:=st_shp hk;rw [stT,if_neg (by simpa using hs),if_neg (by omega),if_neg (by omega)] at hk;exact hk
/-- The expression of a statement that has one. -/
theorem st_e0 {k:Int}{nm ty:Bytes}{es:List Ex}{bd el:List St}(hk:stT h cls res sc (.mk k nm ty es bd el)=.ok sc')(h6:k≠6)(hn:es≠[]):∃ e t,es[0]?=some e∧exT9 h cls sc e=.ok t:=by
 have fin:∀ {t:Bytes},ex0T h cls sc es 0=.ok t→∃ e t,es[0]?=some e∧exT9 h cls sc e=.ok t:=fun ht=>by
  obtain⟨e,h1,h2⟩:=ex0_of ht;exact⟨e,_,h1,h2⟩
 by_cases h45:k=4∨k=5
 ·have hs:=st_shp hk;rw [stT,if_neg (by simpa using hs),if_pos h45] at hk;cases he:ex0T h cls sc es 0 with
  | error x=>rw [he] at hk;cases hk
  | ok t=>exact fin he
 have hs:=st_sim hk (by omega);unfold simT at hs;split at hs
 ·obtain⟨a,hs⟩:=and_ok hs;obtain⟨c,hs⟩:=and_ok hs
  try rw [if_neg hn] at c
  obtain⟨u,hu⟩:=ok_of c;obtain⟨t,ht⟩:=asg_tk hu;exact fin ht
 split at hs
 ·cases hvf:varF sc nm with
  | none=>rw [hvf] at hs;cases hs
  | some tv =>
    rw [hvf] at hs;simp only at hs;obtain⟨c,hs⟩:=and_ok hs;obtain⟨u,hu⟩:=ok_of c;obtain⟨t,ht⟩:=asg_tk hu;exact fin ht
 split at hs
 ·cases he:ex0T h cls sc es 0 with
  | error x=>rw [he] at hs;cases hs
  | ok c=>exact fin he
 split at hs
 ·cases he:ex0T h cls sc es 0 with
  | error x=>rw [he] at hs;cases hs
  | ok c=>exact fin he
 split at hs
 ·split at hs
  ·obtain⟨c,hs⟩:=and_ok hs
   try rw [if_neg hn] at c
   obtain⟨u,hu⟩:=ok_of c;obtain⟨t,ht⟩:=asg_tk hu;exact fin ht
  ·cases hs
 split at hs
 ·obtain⟨c,hs⟩:=and_ok hs;obtain⟨t,ht⟩:=ok_of c;exact fin ht
 ·cases hs
theorem st_one {k:Int}{nm ty:Bytes}{es:List Ex}{bd el:List St}(hk:stT h cls res sc (.mk k nm ty es bd el)=.ok sc')(h3:k≠3)(h6:k≠6)(hn:k=1∨k=8→es≠[]):∃ e t,es=[e]∧exT9 h cls sc e=.ok t:=by
 obtain⟨s1,s2,s3,s4,s5⟩:=shp_ok (st_shp hk);rw [if_neg h6,if_neg h3] at s3;have hne:es≠[]:=by
  by_cases h18:k=1∨k=8
  ·exact hn h18
  ·rw [if_neg (by omega),if_neg h3] at s2;intro e;rw [e] at s2;simp at s2
 obtain⟨e,t,h1,h2⟩:=st_e0 hk h6 hne
 match es,s3,h1 with
 | [a],_,h1=>exact⟨a,t,rfl,by simp at h1;subst h1;exact h2⟩
 | a::b::l,s3,_=>simp at s3
theorem st_two {nm ty:Bytes}{es:List Ex}{bd el:List St}(hk:stT h cls res sc (.mk 3 nm ty es bd el)=.ok sc'):∃ e f t u,es=[e,f]∧exT9 h cls sc e=.ok t∧exT9 h cls sc f=.ok u:=by
 obtain⟨s1,s2,s3,s4,s5⟩:=shp_ok (st_shp hk);simp at s2 s3;obtain⟨e,f,rfl⟩:=lw_len2 (show es.length=2 by omega);have hs:=st_sim hk (by omega);unfold simT at hs;rw [if_neg (by omega),if_neg (by omega),if_pos rfl] at hs;cases he:ex0T h cls sc [e,f] 0 with
 | error x=>rw [he] at hs;cases hs
 | ok c =>
   rw [he] at hs;simp only at hs;cases hf:fldT h c nm with
   | error x=>rw [hf] at hs;cases hs
   | ok t0 =>
     rw [hf] at hs;simp only at hs;obtain⟨d,hs⟩:=and_ok hs;obtain⟨u,hu⟩:=ok_of d;obtain⟨t,ht⟩:=asg_tk hu;obtain⟨e',h1,h2⟩:=ex0_of he;obtain⟨f',h3,h4⟩:=ex0_of ht;simp at h1 h3;subst h1 h3;exact⟨e,f,c,t,rfl,h2,h4⟩
theorem st_sim_eq {b:Bl}{k:Int}{nm ty:Bytes}{es:List Ex}{bd el:List St}(h456:¬ (k=4∨k=5∨k=6)):stB h b (.mk k nm ty es bd el)=simB h b k nm es:=by
 rw [stB,if_neg (by omega),if_neg (by omega),if_neg (by omega)]
end
section
variable {h:List Cd} {cls res:Bytes} {T:List Fld}
set_option maxRecDepth 10000 in
set_option maxHeartbeats 8000000 in
theorem lw_st1 (nm ty:Bytes)(es:List Ex)(bd el:List St):StOkL h cls res T (.mk 1 nm ty es bd el):=by
 intro X H nx z b sc sc' hi hx hk hp hok;refine DCall.of_body Tryz.func54 rfl ?_;rw [st_sim_eq (by omega)];unfold simB;rw [if_pos rfl];have hlX:=hi.lt;have q0:=far hlX;rw [stSz] at hok
 by_cases he:es=[]
 ·subst he;rw [if_pos rfl];refine gDf Ya ?_;have r:=Run.box hi (.cells [.int .i64 1,.str nm,.str ty,.lst [],.lst (bd.map cvS),.lst (el.map cvS)])
  ((apply DOpl.callD);(focus rfl);(focus (first | rfl | (simp [*];done)));(focus simp [*,-Option.some.injEq];rfl);kernel_rfl)
  ·exact lw_declare r.bd (by have:=hok.s;omega) (by have:=hok.x;omega)
  rintro vv H3 n3 ⟨rfl,p⟩;obtain⟨z3,r3,-⟩:=r.call p;refine gD ?_
  (refine⟨_,(by simp [*];rfl),?_⟩;(try simp only [packA]))
  exact⟨_,rfl,rfl,r3.fin⟩
 rw [if_neg he];obtain⟨e,t,rfl,ht⟩:=st_one hk (by omega) (by omega) (fun _=>he);have hcall:=fun H2 n2 z2 (hb2:BdI h X H2 n2 z2 b)=>lw_op e X H2 n2 z2 b t hb2 hx ht (hok.b (by simp only [exsSz];omega))
 have g:=opB_grs h e b;simp only [Xz e] at hcall;have o0:op0B h b [e] 0=opB h b e:=rfl;rw [o0];refine gDf (And.intro Ya (Xz e)) ?_;have r:=Run.box hi (.cells [.int .i64 1,.str nm,.str ty,.lst [[.int .i64 e.kind,.int .i64 e.n,.str e.of,.str e.name,.lst (e.kids.map cvE)]],.lst (bd.map cvS),.lst (el.map cvS)])
 ((apply DOpl.callD);(focus rfl);(focus (first | rfl | (simp [*];done)));(focus simp [*,-Option.some.injEq];rfl);kernel_rfl)
 ·exact hcall _ _ _ r.bd
 rintro vv H3 n3 ⟨rfl,p⟩;obtain⟨z3,r3,-⟩:=r.call p;generalize (opB h b e).2=a at *;generalize (opB h b e).1=b1 at *;simp only [exsSz] at hok;refine gD ?_
 ((apply DOpl.callD);(focus rfl);(focus (first | rfl | (simp [*];done)));(focus simp [*,-Option.some.injEq];rfl);kernel_rfl)
 ·exact lw_declare r3.bd (by have:=hok.s;have:=g.s;omega) (by have:=hok.x;have:=g.x;omega)
 rintro vv H4 n4 ⟨rfl,p⟩;obtain⟨z4,r4,-⟩:=r3.call p;refine gD ?_
 ((apply DOpl.callD);(focus rfl);(focus (first | rfl | (simp [*];done)));(focus simp [*,-Option.some.injEq];rfl);kernel_rfl)
 ·exact lw_em r4.bd _ _ _ _ _ _ _ _ (by have:=hok.c;have:=g.c;show b1.code.length≤lim;omega)
 rintro vv H5 n5 ⟨rfl,p⟩;obtain⟨z5,r5,-⟩:=r4.call p;refine gD ?_
 (refine⟨_,(by simp [*];rfl),?_⟩;(try simp only [packA]))
 exact⟨_,rfl,rfl,r5.fin⟩
end
end
section
open Lx Ax Go.RowKit
attribute [local simp] stepS Ax.stepT Dl.on qstep astep estep rd putE over argE ofV ofS loadA pickCells isAggD faddA fieldA partA iaddA idxA sliA bnd binA intA strA unA convA bltA mapOf findK keyD scalD storeA appA srcA srcD upd drp Dl.hp Dl.nx CV.cs CV.one buildA placesA fillA zrep tasA ifaceD eqA eqFs eqIs range2 copyA nbeq nble nblt decEq beqI bneI beqS bneS isED Int.ofNat_inj List.getElem?_map List.getElem?_eq_getElem Option.map_some ti_int ti_bool ti_str ti_i64 ti_Strs ti_Flds ti_Fld ti_Ints ti_Ins ti_In ti_Bd ti_Kd ti_Kf ti_Pb ti_Ex ti_Exs ti_St ti_Sts gd gdB callA resA op1
attribute [local simp] nu1 nu2 nu3 nu4 nu5 nu6 nu7 nu8 nu9 nu10 nu11 nu12 nu13 upd_upd
theorem len_lstF {H:Heap}(l:List Fld):lenA Tryz.prog H 35 (.lst (l.map cvF))=some (.int .i64 l.length):=by
 unfold lenA;simp [ti_Flds]
section
variable {h:List Cd} {cls res:Bytes} {T:List Fld}
theorem st_45 {k:Int}{nm ty:Bytes}{es:List Ex}{bd el:List St}{sc sc':List Fld}(hk:stT h cls res sc (.mk k nm ty es bd el)=.ok sc')(h45:k=4∨k=5):∃ u1 u2,blT h cls res sc bd=.ok u1∧blT h cls res sc el=.ok u2∧sc'=sc:=by
 have hs:=st_shp hk;rw [stT,if_neg (by simpa using hs),if_pos h45] at hk;cases he:ex0T h cls sc es 0 with
 | error x=>rw [he] at hk;cases hk
 | ok t =>
   rw [he] at hk;simp only at hk;split at hk
   case isFalse=>cases hk
   obtain⟨c1,hk⟩:=and_ok hk;obtain⟨c2,hk⟩:=and_ok hk;cases hk;obtain⟨u1,hu1⟩:=ok_of c1;obtain⟨u2,hu2⟩:=ok_of c2;exact⟨u1,u2,hu1,hu2,rfl⟩
set_option maxRecDepth 10000 in
set_option maxHeartbeats 16000000 in
theorem lw_choice (nm ty:Bytes)(es:List Ex)(bd el:List St)(hB1:BlOkL h cls res T bd)(hB2:BlOkL h cls res T el)(X:Nat)(H:Heap)(nx:Nat)(z:Bv)(b:Bl)(sc sc':List Fld)(hi:BdI h X H nx z b)(hx:LwX h cls T sc b)(hk:stT h cls res sc (.mk 4 nm ty es bd el)=.ok sc')(hp:Pre b.next (locS (.mk 4 nm ty es bd el)) b.vars)(hok:OkS b (4*stSz (.mk 4 nm ty es bd el))) :
  DCall Tryz.prog tkG 79 [.ptr X 0,.agg (cvS (.mk 4 nm ty es bd el))] H nx fun v H' nx'=>v=.tup []∧BdP h X H nx z (stB h b (.mk 4 nm ty es bd el)) H' nx':=by
 refine DCall.of_body Tryz.func79 rfl ?_;have hlX:=hi.lt;have q0:=far hlX;obtain⟨e,t,rfl,ht⟩:=st_one hk (by omega) (by omega) (by omega);obtain⟨u1,u2,hu1,hu2,-⟩:=st_45 hk (.inl rfl);rw [stSz] at hok;have hloc:locS (.mk 4 nm ty [e] bd el)=locsS bd++locsS el:=by
  rw [locS,if_neg (by omega),if_neg (by omega)];simp
 rw [hloc] at hp;have hL:=locsS_len bd;have hL2:=locsS_len el;rw [stB,if_pos rfl];have o0:op0B h b [e] 0=opB h b e:=rfl;simp only;rw [o0];have hcall:=fun H2 n2 z2 (hb2:BdI h X H2 n2 z2 b)=>lw_op e X H2 n2 z2 b t hb2 hx ht (hok.b (by simp only [exsSz];omega))
 have g1:=opB_grs h e b;simp only [Xz e] at hcall;have hx1:=hx.op ht;have k1:=opB_kp h e b;simp only [exsSz] at hok;obtain⟨O,J,hci⟩:=hx.ci;obtain⟨-,⟨-,V1,e1⟩,-⟩:=opB_C e b t ht hci hx.vs;refine gDf (And.intro Ya (Xz e)) ?_;have r:=Run.box hi (.cells [.int .i64 4,.str nm,.str ty,.lst [[.int .i64 e.kind,.int .i64 e.n,.str e.of,.str e.name,.lst (e.kids.map cvE)]],.lst (bd.map cvS),.lst (el.map cvS)])
 ((apply DOpl.callD);(focus rfl);(focus (first | rfl | (simp [*];done)));(focus simp [*,-Option.some.injEq];rfl);kernel_rfl)
 ·exact hcall _ _ _ r.bd
 rintro vv H3 n3 ⟨rfl,p⟩;obtain⟨z3,r3,e3⟩:=r.call p;have g03:=e3 nx (Nat.le_refl _) (Nat.lt_succ_self _);rw [upd_hit] at g03;clear e3 hcall p;generalize (opB h b e).2=a at *;generalize (opB h b e).1=b1 at *;refine gD ?_
 ((apply DOpl.callD);(focus rfl);(focus (first | rfl | (simp [*];done)));(focus simp [*,-Option.some.injEq];rfl);kernel_rfl)
 ·exact lw_em r3.bd _ _ _ _ _ _ _ _ (by have:=hok.c;have:=g1.c;omega)
 rintro vv H4 n4 ⟨rfl,p⟩;obtain⟨z4,r4,e4⟩:=r3.call (b2:=brB b1 a) p;have g04:=e4 nx (Nat.le_refl _) (Nat.lt_succ_self _);rw [g03] at g04;clear e4 p;have g2:GrS b (brB b1 a) _ _:=g1.trans (GrS.em _ _);have hx2:LwX h cls T sc (brB b1 a):=hx1.em _ (by simp) (by simp) (by simp);have hl2:(brB b1 a).code.length=b1.code.length+1:=by simp [brB,emitB]
 have hpE:Pre ((brB b1 a).next+(locsS bd).length) (locsS el) (brB b1 a).vars:=by
  have x2:(brB b1 a).next=b.next:=k1.x;have hv2:(brB b1 a).vars=b.vars++V1:=e1;rw [x2,hv2];exact hp.right.grow
 have hpB:Pre (brB b1 a).next (locsS bd) (brB b1 a).vars:=by
  have x2:(brB b1 a).next=b.next:=k1.x;have hv2:(brB b1 a).vars=b.vars++V1:=e1;rw [x2,hv2];exact hp.left.grow
 rw [show b1.next=(brB b1 a).next from rfl];clear k1 e1 hp hx1;generalize brB b1 a=b2 at *;have hX4:H4 X=some (.cells ([.lst (h.map cvD),z4.v,z4.c,.int .i64 b2.slots,.int .i64 b2.next,z4.s,.int .i64 b2.handler,z4.t]++knd X)):=r4.bd.blk;simp only [knd,List.cons_append,List.nil_append] at hX4;obtain⟨m,hm⟩:∃ m,b2.next+(locsS bd).length=m:=⟨_,rfl⟩;rw [hm] at hpE ⊢;have hw:IntKind.i64.wrap ((b2.next:Int)+(locsS bd).length)=(m:Int):=by
  rw [IntKind.wrap_i64];have h1:=hok.x;have h2:=g2.x;simp only [lim] at h1;omega
 have hlo:=lw_loc0 bd (by have:=hok.x;omega);have hll:∀ H',lenA Tryz.prog H' 35 (.lst ((locsS bd).map cvF))=some (.int .i64 (locsS bd).length):=fun H'=>len_lstF _
 refine gD ?_
 (first | (first | (apply DOpl.callN;rfl) | apply ASl.call);(focus simp [*,-Option.some.injEq];rfl);kernel_rfl | (first | (apply DOpl.callNG;rfl) | apply ASl.callg);(focus simp [*];done);(focus simp [*,-Option.some.injEq];rfl);kernel_rfl)
 ·exact hlo
 refine gD ?_;have oE:OkS (nextB b2 m) (4*stsSz el):=hok.grow (g2.trans (GrS.nxt b2 m _ (Nat.le_of_eq hm.symm))) (by omega) (by omega);obtain⟨z5,r5,e5⟩:=r4.call (bd_next r4.bd m rfl);have hxE:=hx2.nxt m;obtain⟨y1,y2,y3,y4⟩:=hxE.blk hu2 hpE;have gE2:=(GrS.nxt b2 m _ (Nat.le_of_eq hm.symm)).trans ((blB_gr h el (nextB b2 m)).trans (GrS.cut _ b2.scope.length));have gE:=g2.trans gE2;have l23:=gE2.lc;clear gE2;have g05:=e5 nx (Nat.le_refl _) (Nat.lt_succ_self _);rw [g04] at g05;have hE:=fun H' n' (hb:BdI h X H' n' z5 (nextB b2 m))=>hB2 X H' n' z5 (nextB b2 m) sc u2 hb hxE hu2 hpE oE
 clear hpE oE hlo hll hX4 e5
 ((apply DOpl.callD);(focus rfl);(focus (first | rfl | (simp [*];done)));(focus simp [*,-Option.some.injEq];rfl);kernel_rfl)
 ·exact hE _ _ (r5.up (Nat.le_add_right _ 12)).bd
 rintro vv H6 n6 ⟨rfl,p⟩;obtain⟨z6,r6,e6⟩:=(r5.up (Nat.le_add_right _ 12)).call (b2:=cutB (blB h (nextB b2 m) el) b2.scope.length) p;have g06:=e6 nx (Nat.le_refl _) (Nat.lt_succ_self _);rw [g05] at g06;have y1:LwX h cls T sc (cutB (blB h (nextB b2 m) el) b2.scope.length):=y1;have y4:(cutB (blB h (nextB b2 m) el) b2.scope.length).scope=b2.scope:=y4;obtain⟨V3,e3⟩:∃ V,(cutB (blB h (nextB b2 m) el) b2.scope.length).vars=b2.vars++V:=y3.vars;clear hE p r5 e6 y2 y3 hxE g05 g04 r4;generalize cutB (blB h (nextB b2 m) el) b2.scope.length=b3 at *;have g4:GrS b (jmpB b3 0) _ _:=gE.trans (GrS.em _ _);have hx4:LwX h cls T sc (jmpB b3 0):=y1.em _ (by simp) (by simp) (by simp);have s4:(jmpB b3 0).scope=b2.scope:=y4;have v4:(jmpB b3 0).vars=b2.vars++V3:=e3;have l4:(jmpB b3 0).code.length=b3.code.length+1:=by simp [jmpB,emitB]
 have l3:=gE.lc;have hX6:H6 X=some (.cells ([.lst (h.map cvD),z6.v,z6.c,.int .i64 b3.slots,.int .i64 b3.next,z6.s,.int .i64 b3.handler,z6.t]++knd X)):=r6.bd.blk;simp only [knd,List.cons_append,List.nil_append] at hX6;clear y1 y4 e3;refine gD ?_
 ((apply DOpl.callD);(focus rfl);(focus (first | rfl | (simp [*];done)));(focus simp [*,-Option.some.injEq];rfl);kernel_rfl)
 ·exact lw_em r6.bd _ _ _ _ _ _ _ _ (by have:=hok.c;have:=gE.c;omega)
 rintro vv H7 n7 ⟨rfl,p⟩;obtain⟨z7,r7,e7⟩:=r6.call (b2:=jmpB b3 0) p;have g07:=e7 nx (Nat.le_refl _) (Nat.lt_succ_self _);rw [g06] at g07;clear e7 p g06 hX6;generalize jmpB b3 0=b4 at *;refine gD ?_
 ((apply DOpl.callD);(focus rfl);(focus (first | rfl | (simp [*];done)));(focus simp [*,-Option.some.injEq];rfl);kernel_rfl)
 ·exact lw_here r7.bd b1.code.length (by omega) (by have:=hok.c;have:=g4.c;omega)
 rintro vv H8 n8 ⟨rfl,p⟩;obtain⟨z8,r8,e8⟩:=r7.call p;have g08:=e8 nx (Nat.le_refl _) (Nat.lt_succ_self _);rw [g07] at g08;have g5:=(g4.trans (GrS.here b4 b1.code.length)).nxt' b2.next 0 (by have:=g2.x;omega);have hx5:=(hx4.here b1.code.length).nxt b2.next;have s5:(nextB (hereB b4 b1.code.length) b2.next).scope=b4.scope:=(here_kept b4 b1.code.length).scope;have hpB5:Pre (nextB (hereB b4 b1.code.length) b2.next).next (locsS bd) (nextB (hereB b4 b1.code.length) b2.next).vars:=by
  show Pre b2.next (locsS bd) (hereB b4 b1.code.length).vars
  rw [here_vars,v4];exact hpB.grow
 clear e8 p g07 r7;have hX8:H8 X=some (.cells ([.lst (h.map cvD),z8.v,z8.c,.int .i64 (hereB b4 b1.code.length).slots,.int .i64 (hereB b4 b1.code.length).next,z8.s,.int .i64 (hereB b4 b1.code.length).handler,z8.t]++knd X)):=r8.bd.blk;simp only [knd,List.cons_append,List.nil_append] at hX8;refine gD ?_;obtain⟨z9,r9,e9⟩:=r8.call (bd_next r8.bd b2.next rfl);have g09:=e9 nx (Nat.le_refl _) (Nat.lt_succ_self _);rw [g08] at g09;have hE:=hB1 X _ _ _ _ sc u1 r9.bd hx5 hu1 hpB5 (hok.grow g5 (by omega) (by omega));have g6:=g5.trans ((blB_gr h bd (nextB (hereB b4 b1.code.length) b2.next)).trans (GrS.cut _ b4.scope.length));have lc5:=((blB_gr h bd (nextB (hereB b4 b1.code.length) b2.next)).trans (GrS.cut _ b4.scope.length)).lc;have lc6:(nextB (hereB b4 b1.code.length) b2.next).code.length=b4.code.length:=by
  show (hereB b4 b1.code.length).code.length=_
  have:=GrS.here b4 b1.code.length;have h1:=this.c;have h2:=this.lc;omega
 rw [lc6] at lc5;rw [s5] at hE;clear hB1 hB2 e9 r8 hpB5 s5
 ((apply DOpl.callD);(focus rfl);(focus (first | rfl | (simp [*];done)));(focus simp [*,-Option.some.injEq];rfl);kernel_rfl)
 ·exact hE
 rintro vv H10 n10 ⟨rfl,p⟩;obtain⟨z10,r10,e10⟩:=r9.call p;have g010:=e10 nx (Nat.le_refl _) (Nat.lt_succ_self _);rw [g09] at g010;clear hE hX8 e10 p r9 g09 g08;generalize cutB (blB h (nextB (hereB b4 b1.code.length) b2.next) bd) b4.scope.length=b6 at *;have hX10:H10 X=some (.cells ([.lst (h.map cvD),z10.v,z10.c,.int .i64 b6.slots,.int .i64 b6.next,z10.s,.int .i64 b6.handler,z10.t]++knd X)):=r10.bd.blk;simp only [knd,List.cons_append,List.nil_append] at hX10;refine gD ?_;obtain⟨z11,r11,e11⟩:=r10.call (bd_next r10.bd b3.next rfl)
 ((apply DOpl.callD);(focus rfl);(focus (first | rfl | (simp [*];done)));(focus simp [*,-Option.some.injEq];rfl);kernel_rfl)
 ·exact lw_here r11.bd b3.code.length (by show _<b6.code.length;omega) (by have:=hok.c;have:=g6.c;show b6.code.length≤lim;omega)
 rintro vv H12 n12 ⟨rfl,p⟩;obtain⟨z12,r12,-⟩:=r11.call p;clear e11 hX10;refine gD ?_
 (refine⟨_,(by simp [*];rfl),?_⟩;(try simp only [packA]))
 exact⟨_,rfl,rfl,r12.fin⟩
end
end
section
open Lx Ax Go.RowKit
attribute [local simp] stepS Ax.stepT Dl.on qstep astep estep rd putE over argE ofV ofS loadA pickCells isAggD faddA fieldA partA iaddA idxA sliA bnd binA intA strA unA convA bltA lenA mapOf findK keyD scalD storeA appA srcA srcD upd drp Dl.hp Dl.nx CV.cs CV.one buildA placesA fillA zrep tasA ifaceD eqA eqFs eqIs range2 copyA nbeq nble nblt decEq beqI bneI beqS bneS isED Int.ofNat_inj List.getElem?_map List.getElem?_eq_getElem Option.map_some ti_int ti_bool ti_str ti_i64 ti_Strs ti_Flds ti_Fld ti_Ints ti_Ins ti_In ti_Bd ti_Kd ti_Kf ti_Pb ti_Ex ti_Exs ti_St ti_Sts gd gdB callA resA op1
attribute [local simp] nu1 nu2 nu3 nu4 nu5 nu6 nu7 nu8 nu9 nu10 nu11 nu12 nu13 upd_upd
section
variable {h:List Cd} {cls res:Bytes} {T:List Fld}
set_option maxRecDepth 10000 in
set_option maxHeartbeats 8000000 in
theorem lw_st2 (nm ty:Bytes)(es:List Ex)(bd el:List St):StOkL h cls res T (.mk 2 nm ty es bd el):=by
 intro X H nx z b sc sc' hi hx hk hp hok;refine DCall.of_body Tryz.func54 rfl ?_;rw [st_sim_eq (by omega)];unfold simB;rw [if_neg (by omega),if_pos rfl];have hlX:=hi.lt;have q0:=far hlX;rw [stSz] at hok;obtain⟨e,t,rfl,ht⟩:=st_one hk (by omega) (by omega) (by omega);have hcall:=fun H2 n2 z2 (hb2:BdI h X H2 n2 z2 b)=>lw_op e X H2 n2 z2 b t hb2 hx ht (hok.b (by simp only [exsSz];omega))
 have g:=opB_grs h e b;simp only [Xz e] at hcall;have hx1:=hx.op ht;have o0:op0B h b [e] 0=opB h b e:=rfl;rw [o0];refine gDf (And.intro Ya (Xz e)) ?_;have r:=Run.box hi (.cells [.int .i64 2,.str nm,.str ty,.lst [[.int .i64 e.kind,.int .i64 e.n,.str e.of,.str e.name,.lst (e.kids.map cvE)]],.lst (bd.map cvS),.lst (el.map cvS)])
 ((apply DOpl.callD);(focus rfl);(focus (first | rfl | (simp [*];done)));(focus simp [*,-Option.some.injEq];rfl);kernel_rfl)
 ·exact hcall _ _ _ r.bd
 rintro vv H3 n3 ⟨rfl,p⟩;obtain⟨z3,r3,e3⟩:=r.call p;have g0:=e3 nx (Nat.le_refl _) (Nat.lt_succ_self _);rw [upd_hit] at g0;clear e3 hcall;generalize (opB h b e).2=a at *;generalize (opB h b e).1=b1 at *;simp only [exsSz] at hok;have hsl:=lw_slot r3.bd nm (by have:=hok.s;have:=g.s;omega) hx1.vs.lt;refine gD ?_
 ((apply DOpl.callR);(focus rfl);(focus (first | rfl | (simp [*];done)));(focus simp [*,-Option.some.injEq];rfl);kernel_rfl)
 ·exact hsl
 refine gD ?_
 ((apply DOpl.callD);(focus rfl);(focus (first | rfl | (simp [*];done)));(focus simp [*,-Option.some.injEq];rfl);kernel_rfl)
 ·exact lw_em r3.bd _ _ _ _ _ _ _ _ (by have:=hok.c;have:=g.c;omega)
 rintro vv H5 n5 ⟨rfl,p⟩;obtain⟨z5,r5,-⟩:=r3.call p;refine gD ?_
 (refine⟨_,(by simp [*];rfl),?_⟩;(try simp only [packA]))
 exact⟨_,rfl,rfl,r5.fin⟩
set_option maxRecDepth 10000 in
set_option maxHeartbeats 8000000 in
theorem lw_st3 (nm ty:Bytes)(es:List Ex)(bd el:List St):StOkL h cls res T (.mk 3 nm ty es bd el):=by
 intro X H nx z b sc sc' hi hx hk hp hok;refine DCall.of_body Tryz.func54 rfl ?_;rw [st_sim_eq (by omega)];unfold simB;rw [if_neg (by omega),if_neg (by omega),if_pos rfl];have hlX:=hi.lt;have q0:=far hlX;rw [stSz] at hok;obtain⟨e,f,t,u,rfl,ht,hu⟩:=st_two hk;simp only [exsSz] at hok;have hcall:=fun H2 n2 z2 (hb2:BdI h X H2 n2 z2 b)=>lw_op e X H2 n2 z2 b t hb2 hx ht (hok.b (by omega))
 have g:=opB_grs h e b;have hx1:=hx.op ht;have g2:=g.trans (opB_grs h f (opB h b e).1);have hcallf:=fun H2 n2 z2 (hb2:BdI h X H2 n2 z2 (opB h b e).1)=>lw_op f X H2 n2 z2 (opB h b e).1 u hb2 hx1 hu ((hok.grow g (j:=exSz f) (by omega) (by omega)).b (by omega))
 simp only [Xz e] at hcall;simp only [Xz f] at hcallf;have o0:op0B h b [e,f] 0=opB h b e:=rfl;have o1:∀ b',op0B h b' [e,f] 1=opB h b' f:=fun _=>rfl
 rw [o0,o1];refine gDf (And.intro Ya (And.intro (Xz e) (Xz f))) ?_;have r:=Run.box hi (.cells [.int .i64 3,.str nm,.str ty,.lst [[.int .i64 e.kind,.int .i64 e.n,.str e.of,.str e.name,.lst (e.kids.map cvE)],[.int .i64 f.kind,.int .i64 f.n,.str f.of,.str f.name,.lst (f.kids.map cvE)]],.lst (bd.map cvS),.lst (el.map cvS)])
 ((apply DOpl.callD);(focus rfl);(focus (first | rfl | (simp [*];done)));(focus simp [*,-Option.some.injEq];rfl);kernel_rfl)
 ·exact hcall _ _ _ r.bd
 rintro vv H3 n3 ⟨rfl,p⟩;obtain⟨z3,r3,e3⟩:=r.call p;have g0:=e3 nx (Nat.le_refl _) (Nat.lt_succ_self _);rw [upd_hit] at g0;clear e3 hcall;generalize (opB h b e).2=a at *;generalize (opB h b e).1=b1 at *;refine gD ?_
 ((apply DOpl.callD);(focus rfl);(focus (first | rfl | (simp [*];done)));(focus simp [*,-Option.some.injEq];rfl);kernel_rfl)
 ·exact hcallf _ _ _ r3.bd
 rintro vv H4 n4 ⟨rfl,p⟩;obtain⟨z4,r4,e4⟩:=r3.call p;have g04:=e4 nx (Nat.le_refl _) (Nat.lt_succ_self _);rw [g0] at g04;clear e4 hcallf;generalize (opB h b1 f).2=a2 at *;generalize (opB h b1 f).1=b2 at *;refine gD ?_
 ((apply DOpl.callD);(focus rfl);(focus (first | rfl | (simp [*];done)));(focus simp [*,-Option.some.injEq];rfl);kernel_rfl)
 ·exact lw_em r4.bd _ _ _ _ _ _ _ _ (by have:=hok.c;have:=g2.c;omega)
 rintro vv H5 n5 ⟨rfl,p⟩;obtain⟨z5,r5,-⟩:=r4.call p;refine gD ?_
 (refine⟨_,(by simp [*];rfl),?_⟩;(try simp only [packA]))
 exact⟨_,rfl,rfl,r5.fin⟩
set_option maxRecDepth 10000 in
set_option maxHeartbeats 8000000 in
theorem lw_st7 (nm ty:Bytes)(es:List Ex)(bd el:List St):StOkL h cls res T (.mk 7 nm ty es bd el):=by
 intro X H nx z b sc sc' hi hx hk hp hok;refine DCall.of_body Tryz.func54 rfl ?_;rw [st_sim_eq (by omega)];unfold simB;rw [if_neg (by omega),if_neg (by omega),if_neg (by omega),if_pos rfl];have hlX:=hi.lt;have q0:=far hlX;rw [stSz] at hok;obtain⟨e,t,rfl,ht⟩:=st_one hk (by omega) (by omega) (by omega);have hcall:=fun H2 n2 z2 (hb2:BdI h X H2 n2 z2 b)=>lw_op e X H2 n2 z2 b t hb2 hx ht (hok.b (by simp only [exsSz];omega))
 have g:=opB_grs h e b;simp only [Xz e] at hcall;have o0:op0B h b [e] 0=opB h b e:=rfl;rw [o0];refine gDf (And.intro Ya (Xz e)) ?_;have r:=Run.box hi (.cells [.int .i64 7,.str nm,.str ty,.lst [[.int .i64 e.kind,.int .i64 e.n,.str e.of,.str e.name,.lst (e.kids.map cvE)]],.lst (bd.map cvS),.lst (el.map cvS)])
 ((apply DOpl.callD);(focus rfl);(focus (first | rfl | (simp [*];done)));(focus simp [*,-Option.some.injEq];rfl);kernel_rfl)
 ·exact hcall _ _ _ r.bd
 rintro vv H3 n3 ⟨rfl,p⟩;obtain⟨z3,r3,-⟩:=r.call p;clear hcall;generalize (opB h b e).2=a at *;generalize (opB h b e).1=b1 at *;simp only [exsSz] at hok;refine gD ?_
 ((apply DOpl.callD);(focus rfl);(focus (first | rfl | (simp [*];done)));(focus simp [*,-Option.some.injEq];rfl);kernel_rfl)
 ·exact lw_em r3.bd _ _ _ _ _ _ _ _ (by have:=hok.c;have:=g.c;omega)
 rintro vv H5 n5 ⟨rfl,p⟩;obtain⟨z5,r5,-⟩:=r3.call p;refine gD ?_
 (refine⟨_,(by simp [*];rfl),?_⟩;(try simp only [packA]))
 exact⟨_,rfl,rfl,r5.fin⟩
set_option maxRecDepth 10000 in
set_option maxHeartbeats 8000000 in
theorem lw_st8 (nm ty:Bytes)(es:List Ex)(bd el:List St):StOkL h cls res T (.mk 8 nm ty es bd el):=by
 intro X H nx z b sc sc' hi hx hk hp hok;refine DCall.of_body Tryz.func54 rfl ?_;rw [st_sim_eq (by omega)];unfold simB;rw [if_neg (by omega),if_neg (by omega),if_neg (by omega),if_neg (by omega),if_pos rfl];have hlX:=hi.lt;have q0:=far hlX;rw [stSz] at hok
 by_cases he:es=[]
 ·subst he;rw [if_pos rfl];refine gDf Ya ?_;have r:=Run.box hi (.cells [.int .i64 8,.str nm,.str ty,.lst [],.lst (bd.map cvS),.lst (el.map cvS)])
  ((apply DOpl.callD);(focus rfl);(focus (first | rfl | (simp [*];done)));(focus simp [*,-Option.some.injEq];rfl);kernel_rfl)
  ·exact lw_em r.bd _ _ _ _ _ _ _ _ (by have:=hok.c;omega)
  rintro vv H3 n3 ⟨rfl,p⟩;obtain⟨z3,r3,-⟩:=r.call p;refine gD ?_
  (refine⟨_,(by simp [*];rfl),?_⟩;(try simp only [packA]))
  exact⟨_,rfl,rfl,r3.fin⟩
 rw [if_neg he];obtain⟨e,t,rfl,ht⟩:=st_one hk (by omega) (by omega) (fun _=>he);have hcall:=fun H2 n2 z2 (hb2:BdI h X H2 n2 z2 b)=>lw_op e X H2 n2 z2 b t hb2 hx ht (hok.b (by simp only [exsSz];omega))
 have g:=opB_grs h e b;simp only [Xz e] at hcall;have o0:op0B h b [e] 0=opB h b e:=rfl;rw [o0];refine gDf (And.intro Ya (Xz e)) ?_;have r:=Run.box hi (.cells [.int .i64 8,.str nm,.str ty,.lst [[.int .i64 e.kind,.int .i64 e.n,.str e.of,.str e.name,.lst (e.kids.map cvE)]],.lst (bd.map cvS),.lst (el.map cvS)])
 ((apply DOpl.callD);(focus rfl);(focus (first | rfl | (simp [*];done)));(focus simp [*,-Option.some.injEq];rfl);kernel_rfl)
 ·exact hcall _ _ _ r.bd
 rintro vv H3 n3 ⟨rfl,p⟩;obtain⟨z3,r3,-⟩:=r.call p;clear hcall;generalize (opB h b e).2=a at *;generalize (opB h b e).1=b1 at *;simp only [exsSz] at hok;refine gD ?_
 ((apply DOpl.callD);(focus rfl);(focus (first | rfl | (simp [*];done)));(focus simp [*,-Option.some.injEq];rfl);kernel_rfl)
 ·exact lw_em r3.bd _ _ _ _ _ _ _ _ (by have:=hok.c;have:=g.c;omega)
 rintro vv H5 n5 ⟨rfl,p⟩;obtain⟨z5,r5,-⟩:=r3.call p;refine gD ?_
 (refine⟨_,(by simp [*];rfl),?_⟩;(try simp only [packA]))
 exact⟨_,rfl,rfl,r5.fin⟩
end
end
section
open Lx Ax Go.RowKit
attribute [local simp] stepS Ax.stepT Dl.on qstep astep estep rd putE over argE ofV ofS loadA pickCells isAggD faddA fieldA partA iaddA idxA sliA bnd binA intA strA unA convA bltA lenA mapOf findK keyD scalD storeA appA srcA srcD upd drp Dl.hp Dl.nx CV.cs CV.one buildA placesA fillA zrep tasA ifaceD eqA eqFs eqIs range2 copyA nbeq nble nblt decEq beqI bneI beqS bneS isED Int.ofNat_inj List.getElem?_map List.getElem?_eq_getElem Option.map_some ti_int ti_bool ti_str ti_i64 ti_Strs ti_Flds ti_Fld ti_Ints ti_Ins ti_In ti_Bd ti_Kd ti_Kf ti_Pb ti_Ex ti_Exs ti_St ti_Sts gd gdB callA resA op1
attribute [local simp] nu1 nu2 nu3 nu4 nu5 nu6 nu7 nu8 nu9 nu10 nu11 nu12 nu13 upd_upd
section
variable {h:List Cd} {cls res:Bytes} {T:List Fld}
set_option maxRecDepth 10000 in
set_option maxHeartbeats 8000000 in
theorem lw_st9 (nm ty:Bytes)(es:List Ex)(bd el:List St):StOkL h cls res T (.mk 9 nm ty es bd el):=by
 intro X H nx z b sc sc' hi hx hk hp hok;refine DCall.of_body Tryz.func54 rfl ?_;rw [st_sim_eq (by omega)];unfold simB;rw [if_neg (by omega),if_neg (by omega),if_neg (by omega),if_neg (by omega),if_neg (by omega)];have hlX:=hi.lt;have q0:=far hlX;rw [stSz] at hok;obtain⟨e,t,rfl,ht⟩:=st_one hk (by omega) (by omega) (by omega);have hke:e.kind=9∨e.kind=10:=by
  have hs:=st_sim hk (by omega);unfold simT at hs;rw [if_neg (by omega),if_neg (by omega),if_neg (by omega),if_neg (by omega),if_neg (by omega)] at hs;split at hs
  ·rename_i hka;simpa [kindAt] using hka
  ·cases hs
 simp only [List.getElem?_cons_zero];obtain⟨k,n,o,m,ks⟩:=e;simp only [Ex.kind] at hke;obtain⟨kn,rfl⟩:∃ kn:Nat,k=kn:=⟨k.toNat,by omega⟩;have h1:1≤kn:=by omega
 have h10:kn≤10:=by omega
 have c3:¬ (kn:Int)=3:=by omega
 have c4:¬ (kn:Int)=4:=by omega
 obtain⟨hent,hkx⟩:=kfn_ok h1 h10 (by omega) (by omega);have c11:kn<11:=by omega
 simp only [exsSz] at hok;have hke:=fun H2 n2 z2 (hb2:BdI h X H2 n2 z2 b)=>lw_kn (.mk kn n o m ks) X H2 n2 z2 b t hb2 hx ht (hok.b (by omega)) c3 c4
 have g:=insE_grs h (.mk kn n o m ks) b;simp only [cvE_mk] at hke;have hgx:∀ l:List CV,l.length=8→(l++knd X)[8+kn]?=some (.fn (.func (kfn kn)) [.ptr X 0] []):=fun l hl=>hkx X l hl
 obtain⟨l8,hl8,hX⟩:∃ l,l.length=8∧H X=some (.cells (l++knd X)):=⟨_,rfl,hi.blk⟩;refine gDrf (And.intro Ya cvE_mk) ?_;refine DWp.regX [2,5,9,11,13] (fun H'=>H' nx=some (.cells [.int .i64 9,.str nm,.str ty,.lst [[.int .i64 kn,.int .i64 n,.str o,.str m,.lst (ks.map cvE)]],.lst (bd.map cvS),.lst (el.map cvS)])∧∃ l,l.length=8∧H' X=some (.cells (l++knd X))) (by kernel_rfl) (by kernel_rfl) rfl rfl (fun H1 H2 h12 hS=>⟨by rw [h12 nx (by omega)];exact hS.1,by rw [h12 X (by omega)];exact hS.2⟩) ⟨by simp [upd],l8,hl8,by simp [upd, *]⟩ ?_
 repeat (first | apply ASx.stepG;(focus (first | rfl | (simp [*];done)));(focus simp [*,-Option.some.injEq];rfl);(focus (first | exact Fits.pure rfl | (refine Fits.look rfl fun H2 hS2=>?_;simp [hS2, *];done) | (refine Fits.look rfl fun H2 hS2=>?_;simp [hS2, *,-Option.some.injEq];rfl) | (refine Fits.eff rfl fun hS2=>?_;simp [*];done))) | apply ASx.pass;(focus simp [*];done) | refine ASx.nil ?_;(try simp only [Xx,Xy,reduceIte,Nat.reduceEqDiff]))
 (apply ASx.stepG;(focus rfl);(focus (simp [hgx l8 hl8,upd, *,-Option.some.injEq];rfl));focus (refine Fits.look rfl fun H2 hS2=>?_;obtain⟨_,l2,hl2,hX2⟩:=hS2;simp [hX2,hgx l2 hl2]))
 repeat (first | apply ASx.stepG;(focus (first | rfl | (simp [*];done)));(focus simp [*,-Option.some.injEq];rfl);(focus (first | exact Fits.pure rfl | (refine Fits.look rfl fun H2 hS2=>?_;simp [hS2, *];done) | (refine Fits.look rfl fun H2 hS2=>?_;simp [hS2, *,-Option.some.injEq];rfl) | (refine Fits.eff rfl fun hS2=>?_;simp [*];done))) | apply ASx.pass;(focus simp [*];done) | refine ASx.nil ?_;(try simp only [Xx,Xy,reduceIte,Nat.reduceEqDiff]))
 have r:=Run.start (n1:=nx+1+21) hi (by omega) (H1:=upd H nx (.cells [.int .i64 9,.str nm,.str ty,.lst [[.int .i64 kn,.int .i64 n,.str o,.str m,.lst (ks.map cvE)]],.lst (bd.map cvS),.lst (el.map cvS)])) (fun x hx=>upd_miss _ _ _ _ (by omega))
 (apply ASx.callD;(focus rfl);(focus (simp [callA, *,-Option.some.injEq];rfl));(focus exact hent);(focus exact hke _ _ _ r.bd))
 rintro vv H3 n3 ⟨rfl,hok1,p⟩;obtain⟨z3,r3,e3⟩:=r.call p;have g0:=e3 nx (Nat.le_refl _) (by omega);rw [upd_hit] at g0;have hle:=r3.le;refine⟨by have:=r3.le;omega,fun x hx1 hx2 hx3=>by rw [e3 x (by omega) (by simp at hx2;omega)];exact hx3,fun _=>⟨g0,_,rfl,r3.bd.blk⟩,?_⟩;clear hke hkx hgx e3;generalize hpE:(insE h b (.mk kn n o m ks)).2=pp at *;generalize hbE:(insE h b (.mk kn n o m ks)).1=b1 at *;have ho1:=avV_one pp.1.args;simp only [CV.one] at ho1
 repeat (first | apply ASx.stepG;(focus (first | rfl | (simp [cvJ, *];done)));(focus simp [cvJ, *,-Option.some.injEq];rfl);(focus (first | exact Fits.pure rfl | (refine Fits.look rfl fun H2 hS2=>?_;simp [hS2,cvJ, *];done) | (refine Fits.look rfl fun H2 hS2=>?_;simp [hS2,cvJ, *,-Option.some.injEq];rfl) | (refine Fits.eff rfl fun hS2=>?_;simp [cvJ, *];done))) | apply ASx.pass;(focus simp [cvJ, *];done) | refine ASx.nil ?_;(try simp only [Xx,Xy,reduceIte,Nat.reduceEqDiff]))
 (apply ASx.stepG;(focus rfl);(focus (simp [cvJ, *,-Option.some.injEq];rfl));(focus exact Fits.eff rfl fun hS2=>⟨by rw [upd_miss _ _ _ _ (by omega)];exact g0,_,rfl,by rw [upd_miss _ _ _ _ (by omega)];exact r3.bd.blk⟩))
 repeat (first | apply ASx.stepG;(focus (first | rfl | (simp [cvJ, *];done)));(focus simp [cvJ, *,-Option.some.injEq];rfl);(focus (first | exact Fits.pure rfl | (refine Fits.look rfl fun H2 hS2=>?_;simp [hS2,cvJ, *];done) | (refine Fits.look rfl fun H2 hS2=>?_;simp [hS2,cvJ, *,-Option.some.injEq];rfl) | (refine Fits.eff rfl fun hS2=>?_;simp [cvJ, *];done))) | apply ASx.pass;(focus simp [cvJ, *];done) | refine ASx.nil ?_;(try simp only [Xx,Xy,reduceIte,Nat.reduceEqDiff]))
 have r4:∀ k,Run h X H nx (nx+1+21) z z3 b1 (upd H3 (nx+1+18) k) n3:=fun k=>r3.mod (Nat.le_refl _) fun x hx hb=>upd_miss _ _ _ _ (by omega)
 have hE:=fun k=>lw_emit (r4 k).bd { pp.1 with dst:=-1 } (by have:=hok.c;have:=g.c;omega)
 simp only [cvJ] at hE;refine gD ?_
 ((apply DOpl.callD);(focus rfl);(focus (first | rfl | (simp [*];done)));(focus simp [*,-Option.some.injEq];rfl);kernel_rfl)
 ·exact hE _
 rintro vv H5 n5 ⟨rfl,p⟩;obtain⟨z5,r5,-⟩:=(r4 _).call p;clear hE;refine gD ?_
 (refine⟨_,(by simp [*];rfl),?_⟩;(try simp only [packA]))
 exact⟨_,rfl,rfl,r5.fin⟩
end
end
end Go.Proofs.YtoookjadbhdfhaaGreatDoor
