/-
  ref12's slots; walked.
-/
import Derived.Test.YtoookjadbhdfhaaGreatDoorTJpBk
import Derived.Test.YtoookjadbhdfhaaGreatDoorTJpAs
import Derived.Test.YtoookjadbhdfhaaGreatDoorTJpAx
import Derived.Test.YtoookjadbhdfhaaGreatDoorTOldAx
import Derived.Test.YtoookjadbhdfhaaGreatDoorTJpAq
import Derived.Test.YtoookjadbhdfhaaGreatDoorTJpBb
set_option linter.unusedSectionVars false
set_option linter.unusedSimpArgs false
set_option linter.unnecessarySimpa false
set_option linter.unusedVariables false
set_option linter.unusedSimpArgs false
set_option linter.unusedVariables false
namespace Go.Proofs.YtoookjadbhdfhaaGreatDoor
section
open Lx Ax Go.RowKit
attribute [local simp] stepS Ax.stepT Dl.on qstep astep estep rd putE over argE ofV ofS loadA pickCells isAggD faddA fieldA partA iaddA idxA sliA bnd binA intA strA unA convA bltA mapOf findK keyD scalD storeA srcA srcD upd drp Dl.hp Dl.nx CV.cs CV.one buildA placesA fillA zrep tasA ifaceD eqA eqFs eqIs range2 copyA nbeq nble nblt decEq beqI bneI beqS bneS isED Int.ofNat_inj List.getElem?_map List.getElem?_eq_getElem Option.map_some ti_int ti_bool ti_str ti_i64 ti_Strs ti_Flds ti_Fld ti_Ex ti_Exs ti_St ti_Sts ti_Me gd gdB callA resA op1
attribute [local simp] nu1 nu2 nu3 nu4 nu5 nu6 nu7 nu8 nu9 nu10 nu11 nu12 nu13 upd_upd
theorem Ax.OwnL.lo {α:Type}{cv:α→List CV}{k:Nat}{H:Heap}{nx:Nat}{c:CV}{l:List α}(h:OwnL cv k H nx c l):∀ b',c=.sl b' 0 l.length k→b'<nx:=fun b' e=>by
 rcases h with⟨_,h⟩ | ⟨b,h,_,hb⟩
 ·rw [h] at e;cases e
 ·rw [h] at e;cases e;exact hb
theorem Ax.OwnL.keepL {α:Type}{cv:α→List CV}{k:Nat}{H H':Heap}{nx nx':Nat}{c:CV}{l:List α}(h:OwnL cv k H nx c l)(hn:nx≤nx')(hk:∀ b,b<nx→H' b=H b):OwnL cv k H' nx' c l:=by
 rcases h with h | ⟨b,h1,h2,h3⟩
 ·exact .inl h
 ·exact .inr ⟨b,h1,by rw [hk b h3];exact h2,by omega⟩
def RlOk (l:List St):Prop:=FCall1 Tryz.prog tkG 16 [.lst (l.map cvS)] (.lst ((locsS l).map cvF))
theorem len_St2 {H:Heap}(l:List St):lenA Tryz.prog H 39 (.lst (l.map cvS))=some (.int .i64 l.length):=by
 unfold lenA;simp [ti_Sts]
set_option maxRecDepth 10000 in
set_option maxHeartbeats 8000000 in
theorem la_locals1 (l:List St)(hsz:stsSz l≤lim)(ih:∀ m,stsSz m<stsSz l→RlOk m):RlOk l:=by
 refine FCall.one tkG_pu (puStL1 l) (by simp [puV,puRm puF]) ?_;refine FCall.ofRow cvF_len fun nx=>?_
 refine (DCall.toA (Q:=fun v H' nx'=>OwnL cvF 2 H' nx' v (locsS l)) ?_).mono fun r H' nx' ⟨v,h1,h2⟩=>⟨v,h1,h2.toR⟩
 refine DCall.of_body Tryz.func16 rfl ?_;have hll:l.length≤lim:=by have:=stsSz_len l;omega
 have hls:∀ H',lenA Tryz.prog H' 39 (.lst (l.map cvS))=some (.int .i64 l.length):=fun H'=>len_St2 _
 obtain⟨W,hW⟩:∃ W,locsS l=W:=⟨_,rfl⟩;rw [hW];refine gD ?_;refine DWp.countO l.length [3,4,5] 6 (fun i e H1 n1=>e 4=.int .i64 i∧∃ li,OwnL cvF 2 H1 n1 (e 3) li∧li++locsS (l.drop i)=W∧li.length+stsSz (l.drop i)≤lim) ⟨(by first | (simp (disch:=omega) [putE,over,ofV,ofS, *];done) | (simp (disch:=omega) [putE,over,ofV,ofS, *];rfl)),[],.inl ⟨rfl,(by first | (simp (disch:=omega) [putE,over,ofV,ofS, *];done) | (simp (disch:=omega) [putE,over,ofV,ofS, *];rfl))⟩,by simpa using hW,by simpa using hsz⟩ ?_;clear hW;rintro i v H1 n1 hi ⟨h4,li,ho,hf,hsl⟩;generalize hv3:v 3=c0 at *;refine gD ?_
 (((apply DWp.cond');(focus (simp [*,-Ax.CV.bool.injEq];rfl))) <;> (intro hb) <;> (try simp only [decide_eq_true_eq,decide_eq_false_iff_not,Bool.not_eq_true',Bool.not_eq_false',Bool.not_eq_true,Bool.not_eq_false] at hb))
 ·have hlt:i<l.length:=hb;have hwi:=lim_wrap hlt hll;clear hb;rw [List.drop_eq_getElem_cons hlt] at hf hsl;rw [locsS] at hf;rw [stsSz] at hsl;have hmem:=stsSz_mem (List.getElem_mem hlt);generalize hse:l[i]=x at *;obtain⟨k,nm,ty,es,bd,el⟩:=x;rw [stSz] at hmem hsl;have ih1:=ih bd (by omega);have ih2:=ih el (by omega);unfold RlOk at ih1 ih2;have b1:=locsS_len bd;have b2:=locsS_len el;simp only [lim] at hsl;clear ih hmem;have hlo:=ho.lo;have q1:=far (Nat.lt_succ_self n1);have fin:∀ (A L:List Fld),L=li++A→li++A++locsS (l.drop (i+1))=W→A.length≤stsSz bd+stsSz el+1→∀ c H n,OwnL cvF 2 H n c L→OwnL cvF 2 H n c L∧L++locsS (l.drop (i+1))=W∧L.length+stsSz (l.drop (i+1))≤lim:=fun A L h0 h1 h2 c H n h3=>by
   subst h0;exact⟨h3,h1,by rw [List.length_append];simp only [lim];omega⟩
  by_cases k1:k=1
  ·subst k1;rw [locS,if_pos rfl,if_neg (by omega)] at hf;simp only [List.append_nil] at hf;refine gDf Ya ?_;refine DOpl.appQ cvF_len cvF_one' ti_Flds ti_Fld (⟨nm,ty⟩:Fld) ((ho.toR).keep (H':=upd (upd H1 n1 _) (n1+1) _) (nx':=n1+1+1) (by omega) fun b hb _=>by rw [upd_miss _ _ _ _ (by omega),upd_miss _ _ _ _ (by omega)]) (by omega) ?_ (hxb:=by simp [upd,cvF]);intro H2 hN hfr;have g2:H2 n1=_:=hfr n1 (by omega) fun b' e=>by have:=hlo b' e;omega
   rw [upd_miss _ _ _ _ (by omega),upd_hit] at g2;have o2:OwnL cvF 2 H2 (n1+1+1+1) (.sl (n1+1+1) 0 (li.length+1) 2) (li++[⟨nm,ty⟩]):=.inr ⟨_,by simp,hN,Nat.lt_succ_self _⟩;have e2:∀ x,ob (.sl (n1+1+1) 0 (li.length+1) 2) x→n1<x:=fun x hx=>by have:=ob_sl hx;omega
   clear hN hfr;refine gD ?_
   ((apply DOpl.callR);(focus rfl);(focus (first | rfl | (simp [*];done)));(focus simp [*,-Option.some.injEq];rfl);kernel_rfl)
   ·exact ih1 _
   refine gD ?_;refine DOpl.appLst (l2:=locsS bd) cvF_len cvF_one' ti_Flds ti_Fld o2 (by simp;omega) ?_ (by simp [*]);intro c3 H3 n3 o3 hnn3 hfn3 hon3;have g3:=hfn3 n1 (by omega) fun b' e=>by have:=e2 b' ⟨_,_,_,e⟩;omega
   rw [g2] at g3;have e3:∀ x,ob c3 x→n1<x:=fun x hx=>by have:=hon3 x hx;omega
   clear hfn3 hon3 o2 g2;refine gD ?_
   ((apply DOpl.callR);(focus rfl);(focus (first | rfl | (simp [*];done)));(focus simp [*,-Option.some.injEq];rfl);kernel_rfl)
   ·exact ih2 _
   refine gD ?_;refine DOpl.appLst (l2:=locsS el) cvF_len cvF_one' ti_Flds ti_Fld o3 (by simp;omega) ?_ (by simp [*]);intro c4 H4 n4 o4 hnn4 hfn4 hon4;have g4:=hfn4 n1 (by omega) fun b' e=>by have:=e3 b' ⟨_,_,_,e⟩;omega
   rw [g3] at g4;have e4:∀ x,ob c4 x→n1<x:=fun x hx=>by have:=hon4 x hx;omega
   clear hfn4 hon4 o3 g3;refine gD ?_;exact⟨by ((repeat (first | exact Keeps.base _ _ _ _ | (with_reducible exact Keeps.refl _ _ _) | (refine Keeps.put rfl ?_) | (refine Keeps.over' rfl rfl ?_)))),hlt,(by first | (simp (disch:=omega) [putE,over,ofV,ofS, *];done) | (simp (disch:=omega) [putE,over,ofV,ofS, *];rfl)),li++([⟨nm,ty⟩]++locsS bd++locsS el),fin _ _ rfl (by rw [← hf];simp) (by simp;omega) _ _ _ (by have:=o4;simpa using this)⟩
  by_cases k6:k=6
  ·subst k6;rw [locS,if_neg (by omega),if_pos rfl] at hf;simp only [List.nil_append] at hf;refine gDf Ya ?_
   ((apply DOpl.callR);(focus rfl);(focus (first | rfl | (simp [*];done)));(focus simp [*,-Option.some.injEq];rfl);kernel_rfl)
   ·exact ih1 _
   refine gD ?_;have o1:OwnL cvF 2 (upd H1 n1 (.cells [.int .i64 6,.str nm,.str ty,.lst (es.map cvE),.lst (bd.map cvS),.lst (el.map cvS)])) (n1+1) c0 li:=ho.keepL (Nat.le_succ _) fun b hb=>upd_miss _ _ _ _ (by omega)
   refine DOpl.appLst (l2:=locsS bd) cvF_len cvF_one' ti_Flds ti_Fld o1 (by omega) ?_ (by simp [*]);intro c3 H3 n3 o3 hn3 hf3 ho3;have g3:H3 n1=_:=hf3 n1 (by omega) fun b' e=>by have:=hlo b' e;omega
   rw [upd_hit] at g3;have e3:∀ x,ob c3 x→n1<x:=fun x hx=>by have:=ho3 x hx;omega
   clear hf3 ho3 o1;have q3:=far (show n1<n3 by omega);refine gD ?_;refine DOpl.appQ cvF_len cvF_one' ti_Flds ti_Fld (⟨nm,ty⟩:Fld) ((o3.toR).keep (H':=upd H3 n3 _) (nx':=n3+1) (by omega) fun b hb _=>by rw [upd_miss _ _ _ _ (by omega)]) (by simp;omega) ?_ (hxb:=by simp [upd,cvF]);intro H4 hN hfr;have g4:H4 n1=_:=hfr n1 (by omega) fun b' e=>by have:=e3 b' ⟨_,_,_,e⟩;omega
   rw [upd_miss _ _ _ _ (by omega),g3] at g4;have o4:OwnL cvF 2 H4 (n3+1+1) (.sl (n3+1) 0 ((li++locsS bd).length+1) 2) (li++locsS bd++[⟨nm,ty⟩]):=.inr ⟨_,by simp,hN,Nat.lt_succ_self _⟩;have e4:∀ x,ob (.sl (n3+1) 0 ((li++locsS bd).length+1) 2) x→n1<x:=fun x hx=>by have:=ob_sl hx;omega
   obtain⟨L4,hL4⟩:∃ L4,(li++locsS bd).length+1=L4:=⟨_,rfl⟩;rw [hL4] at o4 e4 ⊢;clear hN hfr hL4;refine gD ?_
   ((apply DOpl.callR);(focus rfl);(focus (first | rfl | (simp [*];done)));(focus simp [*,-Option.some.injEq];rfl);kernel_rfl)
   ·exact ih2 _
   refine gD ?_;refine DOpl.appLst (l2:=locsS el) cvF_len cvF_one' ti_Flds ti_Fld o4 (by simp;omega) ?_ (by simp [*]);intro c5 H5 n5 o5 hnn5 hfn5 hon5;have g5:=hfn5 n1 (by omega) fun b' e=>by have:=e4 b' ⟨_,_,_,e⟩;omega
   rw [g4] at g5;have e5:∀ x,ob c5 x→n1<x:=fun x hx=>by have:=hon5 x hx;omega
   clear hfn5 hon5 o4 g4;refine gD ?_;exact⟨by ((repeat (first | exact Keeps.base _ _ _ _ | (with_reducible exact Keeps.refl _ _ _) | (refine Keeps.put rfl ?_) | (refine Keeps.over' rfl rfl ?_)))),hlt,(by first | (simp (disch:=omega) [putE,over,ofV,ofS, *];done) | (simp (disch:=omega) [putE,over,ofV,ofS, *];rfl)),li++(locsS bd++[⟨nm,ty⟩]++locsS el),fin _ _ rfl (by rw [← hf];simp) (by simp;omega) _ _ _ (by have:=o5;simpa using this)⟩
  ·rw [locS,if_neg k1,if_neg k6] at hf;simp only [List.nil_append,List.append_nil] at hf;refine gDf Ya ?_
   ((apply DOpl.callR);(focus rfl);(focus (first | rfl | (simp [*];done)));(focus simp [*,-Option.some.injEq];rfl);kernel_rfl)
   ·exact ih1 _
   refine gD ?_;have o1:OwnL cvF 2 (upd H1 n1 (.cells [.int .i64 k,.str nm,.str ty,.lst (es.map cvE),.lst (bd.map cvS),.lst (el.map cvS)])) (n1+1) c0 li:=ho.keepL (Nat.le_succ _) fun b hb=>upd_miss _ _ _ _ (by omega)
   refine DOpl.appLst (l2:=locsS bd) cvF_len cvF_one' ti_Flds ti_Fld o1 (by omega) ?_ (by simp [*]);intro c3 H3 n3 o3 hn3 hf3 ho3;have g3:H3 n1=_:=hf3 n1 (by omega) fun b' e=>by have:=hlo b' e;omega
   rw [upd_hit] at g3;have e3:∀ x,ob c3 x→n1<x:=fun x hx=>by have:=ho3 x hx;omega
   clear hf3 ho3 o1;refine gD ?_
   ((apply DOpl.callR);(focus rfl);(focus (first | rfl | (simp [*];done)));(focus simp [*,-Option.some.injEq];rfl);kernel_rfl)
   ·exact ih2 _
   refine gD ?_;refine DOpl.appLst (l2:=locsS el) cvF_len cvF_one' ti_Flds ti_Fld o3 (by simp;omega) ?_ (by simp [*]);intro c4 H4 n4 o4 hnn4 hfn4 hon4;have g4:=hfn4 n1 (by omega) fun b' e=>by have:=e3 b' ⟨_,_,_,e⟩;omega
   rw [g3] at g4;have e4:∀ x,ob c4 x→n1<x:=fun x hx=>by have:=hon4 x hx;omega
   clear hfn4 hon4 o3 g3;refine gD ?_;exact⟨by ((repeat (first | exact Keeps.base _ _ _ _ | (with_reducible exact Keeps.refl _ _ _) | (refine Keeps.put rfl ?_) | (refine Keeps.over' rfl rfl ?_)))),hlt,(by first | (simp (disch:=omega) [putE,over,ofV,ofS, *];done) | (simp (disch:=omega) [putE,over,ofV,ofS, *];rfl)),li++(locsS bd++locsS el),fin _ _ rfl (by rw [← hf];simp) (by simp;omega) _ _ _ (by have:=o4;simpa using this)⟩
 ·have hi':l.length≤i:=by omega
  rw [List.drop_eq_nil_of_le hi',locsS,List.append_nil] at hf;subst hf;clear hb ih;refine gD ?_
  (refine⟨_,(by simp [*];rfl),?_⟩;(try simp only [packA]))
  exact⟨_,rfl,ho⟩
theorem la_locals:∀ (N:Nat) (l:List St),stsSz l≤N→stsSz l≤lim→RlOk l
 | 0,l,h,hl=>la_locals1 l hl fun m hm=>by omega
 | N+1,l,h,hl=>la_locals1 l hl fun m hm=>la_locals N m (by omega) (by omega)
set_option maxRecDepth 10000 in
set_option maxHeartbeats 8000000 in
theorem la_Slots (cls:Bytes)(m:Me)(hl:m.params.length+stsSz m.body+1≤lim):FCall1 Tryz.prog tkG 7 [.str cls,.agg (cvM m)] (.lst ((slotsB cls m).map cvF)):=by
 refine FCall.one tkG_pu (by have:=puM m;simp [puL,puV,this]) (by simp [puV,puRm puF]) ?_;refine FCall.ofRow cvF_len fun nx=>?_
 refine (DCall.toA (Q:=fun v H' nx'=>OwnL cvF 2 H' nx' v (slotsB cls m)) ?_).mono fun r H' nx' ⟨v,h1,h2⟩=>⟨v,h1,h2.toR⟩
 refine DCall.of_body Tryz.func7 rfl ?_;unfold slotsB;have q0:=far (Nat.lt_succ_self nx);have hbl:=la_locals lim m.body (by omega) (by omega);have hb1:=locsS_len m.body;unfold RlOk at hbl;cases hst:m.static with
 | true =>
   simp only [if_true,List.nil_append];refine gDf cvM.eq_1 ?_;refine DOpl.appLst (l2:=m.params) (c:=.nils) (l:=[]) cvF_len cvF_one' ti_Flds ti_Fld (.inl ⟨rfl,rfl⟩) (by simp only [lim] at hl;simp;omega) ?_ (by simp);intro c1 H1 n1 ho hn1 hfr hob;have g1:H1 nx=_:=hfr nx (by omega) fun b' e=>by cases e
   rw [upd_hit] at g1;rw [List.nil_append] at ho;refine gD ?_
   ((apply DOpl.callR);(focus rfl);(focus (first | rfl | (simp [*];done)));(focus simp [*,-Option.some.injEq];rfl);kernel_rfl)
   ·exact hbl _
   refine gD ?_;refine DOpl.appLst (l2:=locsS m.body) cvF_len cvF_one' ti_Flds ti_Fld ho (by simp only [lim] at hl;omega) ?_ (by simp [*]);intro c2 H2 n2 ho2 hn2 hfr2 hob2;refine gD ?_
   (refine⟨_,(by simp [*];rfl),?_⟩;(try simp only [packA]))
   exact⟨_,rfl,ho2⟩
 | false =>
   simp only [Bool.false_eq_true,if_false];refine gDf cvM.eq_1 ?_;refine DOpl.appQ cvF_len cvF_one' ti_Flds ti_Fld (⟨[116,104,105,115],cls⟩:Fld) (l:=[]) (c:=.nils) OwnR.nil (by simp) ?_ (hxb:=by simp [upd,cvF]);intro H1 hN hfr;have g1:H1 nx=_:=hfr nx (by omega) fun b' e=>by cases e
   rw [upd_miss _ _ _ _ (by omega),upd_hit] at g1;refine gD ?_;refine DOpl.appLst (l2:=m.params) (l:=[(⟨[116,104,105,115],cls⟩:Fld)]) cvF_len cvF_one' ti_Flds ti_Fld (.inr ⟨nx+1+1,rfl,hN,Nat.lt_succ_self _⟩) (by simp only [lim] at hl;simp;omega) ?_ (by simp);intro c1 H2 n2 ho hn1 hfr2 hob;have g2:H2 nx=_:=hfr2 nx (by omega) fun b' e=>by cases e;omega
   rw [g1] at g2;refine gD ?_
   ((apply DOpl.callR);(focus rfl);(focus (first | rfl | (simp [*];done)));(focus simp [*,-Option.some.injEq];rfl);kernel_rfl)
   ·exact hbl _
   refine gD ?_;refine DOpl.appLst (l2:=locsS m.body) cvF_len cvF_one' ti_Flds ti_Fld ho (by simp only [lim] at hl;simp;omega) ?_ (by simp [*]);intro c2 H3 n3 ho2 hn2 hfr3 hob2;refine gD ?_
   (refine⟨_,(by simp [*];rfl),?_⟩;(try simp only [packA]))
   exact⟨_,rfl,ho2⟩
end
section
open Lx Ax Go.RowKit
attribute [local simp] stepS Ax.stepT Dl.on qstep astep estep rd putE over argE ofV ofS loadA pickCells isAggD faddA fieldA partA iaddA idxA sliA bnd binA intA strA unA convA bltA mapOf findK keyD scalD storeA srcA srcD upd drp Dl.hp Dl.nx CV.cs CV.one buildA placesA fillA zrep tasA ifaceD eqA eqFs eqIs range2 copyA nbeq nble nblt decEq beqI bneI beqS bneS isED Int.ofNat_inj List.getElem?_map List.getElem?_eq_getElem Option.map_some ti_int ti_bool ti_str ti_i64 ti_Strs ti_Cds ti_Cd ti_Hi ti_Fn ti_Fns ti_Un ti_Ins ti_In gd gdB callA resA op1
attribute [local simp] nu1 nu2 nu3 nu4 nu5 nu6 nu7 nu8 nu9 nu10 nu11 nu12 nu13 upd_upd
set_option maxRecDepth 10000 in
theorem la_hasT:∀ k:Nat,k<17→FCall1 Tryz.prog tkG 35 [.int .i64 k,.int .u8 100] (.bool (hasD (k:Int))):=by
 intro k hk
 match k,hk with
 | 0,_=>exact FCall1.run (runF_sound (P:=Tryz.prog) (G:=tkG) (lf:=1000) (fun c hc=>lwSp_ok hc) 60) tkG_pu rfl (by kernel_rfl) (by kernel_rfl)
 | 1,_=>exact FCall1.run (runF_sound (P:=Tryz.prog) (G:=tkG) (lf:=1000) (fun c hc=>lwSp_ok hc) 60) tkG_pu rfl (by kernel_rfl) (by kernel_rfl)
 | 2,_=>exact FCall1.run (runF_sound (P:=Tryz.prog) (G:=tkG) (lf:=1000) (fun c hc=>lwSp_ok hc) 60) tkG_pu rfl (by kernel_rfl) (by kernel_rfl)
 | 3,_=>exact FCall1.run (runF_sound (P:=Tryz.prog) (G:=tkG) (lf:=1000) (fun c hc=>lwSp_ok hc) 60) tkG_pu rfl (by kernel_rfl) (by kernel_rfl)
 | 4,_=>exact FCall1.run (runF_sound (P:=Tryz.prog) (G:=tkG) (lf:=1000) (fun c hc=>lwSp_ok hc) 60) tkG_pu rfl (by kernel_rfl) (by kernel_rfl)
 | 5,_=>exact FCall1.run (runF_sound (P:=Tryz.prog) (G:=tkG) (lf:=1000) (fun c hc=>lwSp_ok hc) 60) tkG_pu rfl (by kernel_rfl) (by kernel_rfl)
 | 6,_=>exact FCall1.run (runF_sound (P:=Tryz.prog) (G:=tkG) (lf:=1000) (fun c hc=>lwSp_ok hc) 60) tkG_pu rfl (by kernel_rfl) (by kernel_rfl)
 | 7,_=>exact FCall1.run (runF_sound (P:=Tryz.prog) (G:=tkG) (lf:=1000) (fun c hc=>lwSp_ok hc) 60) tkG_pu rfl (by kernel_rfl) (by kernel_rfl)
 | 8,_=>exact FCall1.run (runF_sound (P:=Tryz.prog) (G:=tkG) (lf:=1000) (fun c hc=>lwSp_ok hc) 60) tkG_pu rfl (by kernel_rfl) (by kernel_rfl)
 | 9,_=>exact FCall1.run (runF_sound (P:=Tryz.prog) (G:=tkG) (lf:=1000) (fun c hc=>lwSp_ok hc) 60) tkG_pu rfl (by kernel_rfl) (by kernel_rfl)
 | 10,_=>exact FCall1.run (runF_sound (P:=Tryz.prog) (G:=tkG) (lf:=1000) (fun c hc=>lwSp_ok hc) 60) tkG_pu rfl (by kernel_rfl) (by kernel_rfl)
 | 11,_=>exact FCall1.run (runF_sound (P:=Tryz.prog) (G:=tkG) (lf:=1000) (fun c hc=>lwSp_ok hc) 60) tkG_pu rfl (by kernel_rfl) (by kernel_rfl)
 | 12,_=>exact FCall1.run (runF_sound (P:=Tryz.prog) (G:=tkG) (lf:=1000) (fun c hc=>lwSp_ok hc) 60) tkG_pu rfl (by kernel_rfl) (by kernel_rfl)
 | 13,_=>exact FCall1.run (runF_sound (P:=Tryz.prog) (G:=tkG) (lf:=1000) (fun c hc=>lwSp_ok hc) 60) tkG_pu rfl (by kernel_rfl) (by kernel_rfl)
 | 14,_=>exact FCall1.run (runF_sound (P:=Tryz.prog) (G:=tkG) (lf:=1000) (fun c hc=>lwSp_ok hc) 60) tkG_pu rfl (by kernel_rfl) (by kernel_rfl)
 | 15,_=>exact FCall1.run (runF_sound (P:=Tryz.prog) (G:=tkG) (lf:=1000) (fun c hc=>lwSp_ok hc) 60) tkG_pu rfl (by kernel_rfl) (by kernel_rfl)
 | 16,_=>exact FCall1.run (runF_sound (P:=Tryz.prog) (G:=tkG) (lf:=1000) (fun c hc=>lwSp_ok hc) 60) tkG_pu rfl (by kernel_rfl) (by kernel_rfl)
 | k+17,h=>exact absurd h (by omega)
set_option maxRecDepth 10000 in
set_option maxHeartbeats 4000000 in
theorem la_nameO (op:Int)(h:op<0∨17≤op):FCall1 Tryz.prog tkG 57 [.int .i64 op] (.str []):=by
 refine FCall.one tkG_pu rfl rfl ?_;refine FCall.ofBody Tryz.func57 rfl rfl fun nx=>?_
 by_cases h1:op<0
 ·refine gW ?_
  (refine⟨_,(by simp [*];rfl),?_⟩;(try simp only [packA]))
 ·have h2:(17:Int)≤op:=by omega
  have hls:∀ H' b,lenA Tryz.prog H' 79 (.sl b 0 17 1)=some (.int .i64 17):=fun H' b=>by unfold lenA;simp [ti_Strs]
  clear h;refine gW ?_
  (refine⟨_,(by simp [*];rfl),?_⟩;(try simp only [packA]))
set_option maxRecDepth 10000 in
set_option maxHeartbeats 4000000 in
theorem la_has (op:Int):FCall1 Tryz.prog tkG 35 [.int .i64 op,.int .u8 100] (.bool (hasD op)):=by
 by_cases h:0≤op∧op<17
 ·have:=la_hasT op.toNat (by omega);rw [Int.toNat_of_nonneg h.1] at this;exact this
 ·have hn:=la_nameO op (by omega);have e:hasD op=false:=by simp only [hasD,Bool.or_eq_false_iff,beq_eq_false_iff_ne];omega
  rw [e];refine FCall.one tkG_pu rfl rfl ?_;refine FCall.ofBody Tryz.func35 rfl rfl fun nx=>?_
  clear h e;refine gW ?_
  ((apply Xr);(focus rfl);(focus (first | rfl | (simp [*];done)));(focus simp [*,-Option.some.injEq];rfl);kernel_rfl)
  ·exact hn _
  refine gW ?_
  (refine⟨_,(by simp [*];rfl),?_⟩;(try simp only [packA]))
set_option maxRecDepth 10000 in
set_option maxHeartbeats 4000000 in
theorem la_Def (i:In):FCall1 Tryz.prog tkG 18 [.agg (cvJ i)] (.int .i64 (defI i)):=by
 refine FCall.one tkG_pu (by have:=puJ i;simp [puL,puV,this]) rfl ?_;refine FCall.ofBody Tryz.func18 rfl rfl fun nx=>?_
 have hh:=la_has i.op;have ho1:=avV_one i.args;simp only [CV.one] at ho1;have hc1:=avV_cs' i.args;simp only [CV.cs] at hc1;unfold defI;cases hd:hasD i.op with
 | true =>
   rw [hd] at hh;refine gWf cvJ.eq_1 ?_
   ((apply Xr);(focus rfl);(focus (first | rfl | (simp [*];done)));(focus simp [*,-Option.some.injEq];rfl);kernel_rfl)
   ·exact hh _
   refine gW ?_
   (refine⟨_,(by simp [*];rfl),?_⟩;(try simp only [packA]))
 | false =>
   rw [hd] at hh;refine gWf cvJ.eq_1 ?_
   ((apply Xr);(focus rfl);(focus (first | rfl | (simp [*];done)));(focus simp [*,-Option.some.injEq];rfl);kernel_rfl)
   ·exact hh _
   refine gW ?_
   (refine⟨_,(by simp [*];rfl),?_⟩;(try simp only [packA]))
   rfl
end
section
open Lx Ax Go.RowKit
attribute [local simp] stepS Ax.stepT Dl.on qstep astep estep rd putE over argE ofV ofS loadA pickCells isAggD faddA fieldA partA iaddA idxA sliA bnd binA intA strA unA convA bltA mapOf findK keyD scalD storeA srcA srcD upd drp Dl.hp Dl.nx CV.cs CV.one buildA placesA fillA tasA ifaceD eqA eqFs eqIs range2 copyA nbeq nble nblt decEq beqI bneI beqS bneS isED Int.ofNat_inj List.getElem?_map List.getElem?_eq_getElem Option.map_some ti_int ti_bool ti_str ti_i64 ti_Strs ti_Flds ti_Fld ti_Ints ti_Fn ti_Fns ti_Un ti_Ins ti_In gd gdB callA resA op1
attribute [local simp] nu1 nu2 nu3 nu4 nu5 nu6 nu7 nu8 nu9 nu10 nu11 nu12 nu13 upd_upd
theorem len_In2 {H:Heap}(l:List In):lenA Tryz.prog H 44 (.lst (l.map cvJ))=some (.int .i64 l.length):=by
 unfold lenA;simp [ti_Ins]
theorem len_Fl2 {H:Heap}(l:List Fld):lenA Tryz.prog H 35 (.lst (l.map cvF))=some (.int .i64 l.length):=by
 unfold lenA;simp [ti_Flds]
theorem len_own {H:Heap}(b n:Nat):lenA Tryz.prog H 49 (.sl b 0 n 1)=some (.int .i64 n):=by
 unfold lenA;simp [ti_Ints]
/-- The counts after the first i instructions. -/
def cnts (f:Fu)(i:Nat):List Nat:=(List.range f.vars.length).map fun t=>cntD (f.code.take i) t
theorem cnts_len (f:Fu)(i:Nat):(cnts f i).length=f.vars.length:=by simp [cnts]
theorem zrep_flat (n:Nat):zrep [.int .i64 0] n=((List.range n).map fun _=>0).flatMap cvW:=by
 have key:∀ l:List Nat,(l.map fun j=>(([.int .i64 0]:List CV)[j % [(.int .i64 0:CV)].length]?).getD .any)=(l.map fun _=>0).flatMap cvW:=by
  intro l
  induction l with
  | nil=>rfl
  | cons a l ih=>rw [List.map_cons,List.map_cons,List.flatMap_cons,ih];simp [Nat.mod_one,cvW]
 exact key _
theorem cnts_get (f:Fu)(i:Nat){t:Nat}(ht:t<f.vars.length):(cnts f i)[t]?=some (cntD (f.code.take i) t):=by
 unfold cnts;rw [List.getElem?_map,List.getElem?_range ht];rfl
theorem cnts_row (f:Fu)(i:Nat){t:Nat}(ht:t<f.vars.length):((cnts f i).flatMap cvW)[t]?=some (.int .i64 (cntD (f.code.take i) t:Nat)):=by
 have hl:t<(cnts f i).length:=by rw [cnts_len];exact ht
 have h1:=row_get cvW_len [] (cnts f i) t 0 hl (by omega);simp only [Nat.mul_one,Nat.add_zero,List.append_nil] at h1;have h2:=cnts_get f i ht;rw [List.getElem?_eq_getElem hl,Option.some.injEq] at h2;rw [h1,h2];rfl
theorem cnts_succ (f:Fu){i:Nat}(hi:i<f.code.length){d:Nat}(hd:defI f.code[i]=(d:Int)):(cnts f i).set d (cntD (f.code.take i) d+1)=cnts f (i+1):=by
 apply List.ext_getElem?;intro t
 by_cases ht:t<f.vars.length
 ·rw [cnts_get f (i+1) ht,cntD_succ hi,List.getElem?_set]
  by_cases e:d=t
  ·subst e;rw [if_pos rfl,if_pos (by rw [cnts_len];exact ht),if_pos hd]
  ·rw [if_neg e,cnts_get f i ht,if_neg (by omega)];rfl
 ·rw [List.getElem?_eq_none (by rw [List.length_set,cnts_len];omega),List.getElem?_eq_none (by rw [cnts_len];omega)]
theorem cnts_keep (f:Fu){i:Nat}(hi:i<f.code.length)(hd:defI f.code[i]<0):cnts f i=cnts f (i+1):=by
 unfold cnts;apply List.map_congr_left;intro t _;rw [cntD_skip hi hd]
set_option maxRecDepth 10000 in
set_option maxHeartbeats 16000000 in
theorem la_once (f:Fu)(sl:List Fld)(hok:okF f)(hs:sl.length≤f.vars.length)(hp:f.vars.take sl.length=sl)
  (hd:∀ i∈f.code,defI i<0∨(defI i<f.vars.length∧(defI i<sl.length↔cpy i.op)))
  (h1:∀ t:Nat,sl.length≤t→t<f.vars.length→cntD f.code t=1):FCall1 Tryz.prog tkG 9 [.agg (cvFu f),.lst (sl.map cvF)] (.bool true):=by
 refine FCall.one tkG_pu (by have:=puFu f;simp only [puV] at this;simp [puL,puV,this,puRm puF]) rfl ?_;refine FCall.ofBody Tryz.func9 rfl rfl fun nx=>?_
 obtain⟨hv,hc⟩:=hok;have hlf:∀ H',lenA Tryz.prog H' 35 (.lst (f.vars.map cvF))=some (.int .i64 f.vars.length):=fun H'=>len_Fl2 _
 have hls:∀ H',lenA Tryz.prog H' 35 (.lst (sl.map cvF))=some (.int .i64 sl.length):=fun H'=>len_Fl2 _
 have hlj:∀ H',lenA Tryz.prog H' 44 (.lst (f.code.map cvJ))=some (.int .i64 f.code.length):=fun H'=>len_In2 _
 have hlo:∀ H' b n,lenA Tryz.prog H' 49 (.sl b 0 n 1)=some (.int .i64 (n:Nat)):=fun H' b n=>len_own b n
 have hb1:f.vars.length*8≤140737488355328:=by omega
 have hb2:f.vars.length≤9223372036854775807:=by omega
 have hzr:zrep [.int .i64 0] f.vars.length=(cnts f 0).flatMap cvW:=by
  rw [zrep_flat];unfold cnts;simp only [List.take_zero,cntD,List.countP_nil]
 refine gWf cvFu.eq_1 ?_;refine AWp.countO sl.length [6] 14 (fun i e H1 n1=>e 6=.int .i64 i∧H1 nx=some (.cells [.str f.cls,.str f.name,.bool f.static,.int .i64 f.params,.lst (f.vars.map cvF),.str f.result,.lst (f.code.map cvJ)])∧H1 (nx+1)=some (.cells ((cnts f 0).flatMap cvW))) ⟨(by first | (simp (disch:=omega) [putE,over,ofV,ofS, *];done) | (simp (disch:=omega) [putE,over,ofV,ofS, *];rfl)),by simp [upd],by simp [upd]⟩ ?_;clear hzr hb1 hb2;rintro i v H1 n1 hi hn1 ⟨h6,hB,hC⟩;refine gW ?_
 (((apply AWp.cond');(focus (simp [*,-Ax.CV.bool.injEq];rfl))) <;> (intro hb) <;> (try simp only [decide_eq_true_eq,decide_eq_false_iff_not,Bool.not_eq_true',Bool.not_eq_false',Bool.not_eq_true,Bool.not_eq_false] at hb))
 ·have hlt:i<sl.length:=hb;have hwi:=lim_wrap hlt (show sl.length≤lim by simp only [lim];omega);have hlv:i<f.vars.length:=by omega
  clear hb;have hu:sl[i]=f.vars[i]:=by
   have h2:sl[i]?=f.vars[i]?:=by
    conv=>lhs;rw [← hp]
    rw [List.getElem?_take_of_lt hlt]
   rw [List.getElem?_eq_getElem hlt,List.getElem?_eq_getElem hlv] at h2;exact Option.some.inj h2
  generalize hus:f.vars[i]=u at *;clear hp hd h1;refine gWf cvF.eq_1 ?_;exact⟨by ((repeat (first | exact Keeps.base _ _ _ _ | (with_reducible exact Keeps.refl _ _ _) | (refine Keeps.put rfl ?_) | (refine Keeps.over' rfl rfl ?_)))),hlt,(by first | (simp (disch:=omega) [putE,over,ofV,ofS, *];done) | (simp (disch:=omega) [putE,over,ofV,ofS, *];rfl)),hB,hC⟩
 clear hb hp;refine gW ?_;refine AWp.countO f.code.length [7,8] 30 (fun i e H1 n1=>e 7=.int .i64 i∧H1 nx=some (.cells [.str f.cls,.str f.name,.bool f.static,.int .i64 f.params,.lst (f.vars.map cvF),.str f.result,.lst (f.code.map cvJ)])∧H1 (nx+1)=some (.cells ((cnts f i).flatMap cvW))) ⟨(by first | (simp (disch:=omega) [putE,over,ofV,ofS, *];done) | (simp (disch:=omega) [putE,over,ofV,ofS, *];rfl)),hB,hC⟩ ?_;clear hB hC h6;rintro q v2 H2 n2 hq hn2 ⟨h7,hB,hC⟩;refine gW ?_
 (((apply AWp.cond');(focus (simp [*,-Ax.CV.bool.injEq];rfl))) <;> (intro hb) <;> (try simp only [decide_eq_true_eq,decide_eq_false_iff_not,Bool.not_eq_true',Bool.not_eq_false',Bool.not_eq_true,Bool.not_eq_false] at hb))
 ·have hlt:q<f.code.length:=hb;have hwi:=lim_wrap hlt (show f.code.length≤lim by simp only [lim];omega);clear hb;have hdq:=hd _ (List.getElem_mem hlt);have hks:=cnts_keep f hlt;have hss:=fun (d:Nat) (h:defI f.code[q]=(d:Int))=>cnts_succ f hlt h
  have hdf:=la_Def f.code[q];generalize hiq:f.code[q]=x at *;have ho1:=avV_one x.args;simp only [CV.one] at ho1;have hc1:=avV_cs' x.args;simp only [CV.cs] at hc1;simp only [cvJ] at hdf;clear hd h1
  by_cases hneg:defI x<0
  ·rw [hks hneg] at hC;generalize defI x=dd at *;refine gWf cvJ.eq_1 ?_
   ((apply Xr);(focus rfl);(focus (first | rfl | (simp [*];done)));(focus simp [*,-Option.some.injEq];rfl);kernel_rfl)
   ·exact hdf _
   refine gW ?_;exact⟨by ((repeat (first | exact Keeps.base _ _ _ _ | (with_reducible exact Keeps.refl _ _ _) | (refine Keeps.put rfl ?_) | (refine Keeps.over' rfl rfl ?_)))),hlt,(by first | (simp (disch:=omega) [putE,over,ofV,ofS, *];done) | (simp (disch:=omega) [putE,over,ofV,ofS, *];rfl)),hB,hC⟩
  ·obtain⟨dn,hdn⟩:∃ dn:Nat,defI x=dn:=⟨(defI x).toNat,by omega⟩;have hss:=hss dn hdn;rw [hdn] at hdf hdq hneg;have hdv:dn<f.vars.length:=by rcases hdq with h | h <;> omega
   have hiff:dn<sl.length↔cpy x.op:=by
    rcases hdq with h | h
    ·omega
    ·rw [← h.2];omega
   have hn1:¬ (f.vars.length:Int)≤dn:=by omega
   have hro:=cnts_row f q hdv;have hcn:cntD (f.code.take q) dn≤1024:=by
    unfold cntD;have:=List.countP_le_length (p:=fun i=>defI i == (dn:Int)) (l:=f.code.take q);rw [List.length_take] at this;omega
   have hwc:IntKind.i64.wrap ((cntD (f.code.take q) dn:Int)+1)=((cntD (f.code.take q) dn+1:Nat):Int):=by rw [wrap_ok (by omega)];rfl
   have hrs:=row_set cvW_len [] (cnts f q) dn 0 (by rw [cnts_len];exact hdv) (by omega) (cntD (f.code.take q) dn+1) (.int .i64 (cntD (f.code.take q) dn+1:Nat)) rfl;simp only [Nat.mul_one,Nat.add_zero,List.append_nil] at hrs;have hst:=store_int (P:=Tryz.prog) (k:=.i64) (n:=(cntD (f.code.take q) dn+1:Nat)) ti_int hC hrs.2;rw [hrs.1,hss] at hst;clear hdq hss hks hrs hcn;generalize cntD (f.code.take q) dn+1=k1 at *;generalize cntD (f.code.take q) dn=k0 at *
   by_cases c3:x.op=3
   ·have hls1:(dn:Int)<sl.length:=by have:=hiff.2 (.inl c3);omega
    rw [c3] at hdf;clear hiff;refine gWf cvJ.eq_1 ?_
    ((apply Xr);(focus rfl);(focus (first | rfl | (simp [*];done)));(focus simp [*,-Option.some.injEq];rfl);kernel_rfl)
    ·exact hdf _
    refine gW ?_
    ((apply Xf);(focus rfl);(focus (simp [hst,hC,-storeA,-Option.some.injEq];rfl)))
    refine gW ?_;exact⟨by ((repeat (first | exact Keeps.base _ _ _ _ | (with_reducible exact Keeps.refl _ _ _) | (refine Keeps.put rfl ?_) | (refine Keeps.over' rfl rfl ?_)))),hlt,(by first | (simp (disch:=omega) [putE,over,ofV,ofS, *];done) | (simp (disch:=omega) [putE,over,ofV,ofS, *];rfl)),by rw [upd_miss _ _ _ _ (by omega)];exact hB,upd_hit _ _ _⟩
   ·by_cases c15:x.op=15
    ·have hls1:(dn:Int)<sl.length:=by have:=hiff.2 (.inr c15);omega
     rw [c15] at hdf;clear hiff;refine gWf cvJ.eq_1 ?_
     ((apply Xr);(focus rfl);(focus (first | rfl | (simp [*];done)));(focus simp [*,-Option.some.injEq];rfl);kernel_rfl)
     ·exact hdf _
     refine gW ?_
     ((apply Xf);(focus rfl);(focus (simp [hst,hC,-storeA,-Option.some.injEq];rfl)))
     refine gW ?_;exact⟨by ((repeat (first | exact Keeps.base _ _ _ _ | (with_reducible exact Keeps.refl _ _ _) | (refine Keeps.put rfl ?_) | (refine Keeps.over' rfl rfl ?_)))),hlt,(by first | (simp (disch:=omega) [putE,over,ofV,ofS, *];done) | (simp (disch:=omega) [putE,over,ofV,ofS, *];rfl)),by rw [upd_miss _ _ _ _ (by omega)];exact hB,upd_hit _ _ _⟩
    ·have hls1:¬ (dn:Int)<sl.length:=fun h=>by rcases hiff.1 (by omega) with h2 | h2 <;> contradiction
     clear hiff;refine gWf cvJ.eq_1 ?_
     ((apply Xr);(focus rfl);(focus (first | rfl | (simp [*];done)));(focus simp [*,-Option.some.injEq];rfl);kernel_rfl)
     ·exact hdf _
     refine gW ?_
     ((apply Xf);(focus rfl);(focus (simp [hst,hC,-storeA,-Option.some.injEq];rfl)))
     refine gW ?_;exact⟨by ((repeat (first | exact Keeps.base _ _ _ _ | (with_reducible exact Keeps.refl _ _ _) | (refine Keeps.put rfl ?_) | (refine Keeps.over' rfl rfl ?_)))),hlt,(by first | (simp (disch:=omega) [putE,over,ofV,ofS, *];done) | (simp (disch:=omega) [putE,over,ofV,ofS, *];rfl)),by rw [upd_miss _ _ _ _ (by omega)];exact hB,upd_hit _ _ _⟩
 have hq':q=f.code.length:=by omega
 subst hq';clear hb hd h7 hlj;have h1':∀ t:Nat,sl.length≤t→t<f.vars.length→((cnts f f.code.length).flatMap cvW)[t]?=some (.int .i64 1):=fun t a b=>by
  rw [cnts_row f _ b,List.take_length,h1 t a b];rfl
 clear h1;generalize (cnts f f.code.length).flatMap cvW=cs at *;refine gW ?_;refine AWp.countO (f.vars.length-sl.length) [9] 81 (fun j e H1 n1=>e 9=.int .i64 (sl.length+j:Nat)∧H1 (nx+1)=some (.cells cs)) ⟨by simpa using (by first | (simp (disch:=omega) [putE,over,ofV,ofS, *];done) | (simp (disch:=omega) [putE,over,ofV,ofS, *];rfl)),hC⟩ ?_;clear hC hB;rintro j v4 H4 n4 hj hn4 ⟨h9,hC⟩;obtain⟨t,ht⟩:∃ t,sl.length+j=t:=⟨_,rfl⟩;rw [ht] at h9;refine gW ?_
 (((apply AWp.cond');(focus (simp [*,-Ax.CV.bool.injEq];rfl))) <;> (intro hb) <;> (try simp only [decide_eq_true_eq,decide_eq_false_iff_not,Bool.not_eq_true',Bool.not_eq_false',Bool.not_eq_true,Bool.not_eq_false] at hb))
 ·have hlt:t<f.vars.length:=hb;have hwi:=lim_wrap hlt (show f.vars.length≤lim by simp only [lim];omega);clear hb;have hro:=h1' t (by omega) hlt;clear h1';refine gW ?_;exact⟨by ((repeat (first | exact Keeps.base _ _ _ _ | (with_reducible exact Keeps.refl _ _ _) | (refine Keeps.put rfl ?_) | (refine Keeps.over' rfl rfl ?_)))),by omega,by rw [show sl.length+(j+1)=t+1 by omega];exact (by first | (simp (disch:=omega) [putE,over,ofV,ofS, *];done) | (simp (disch:=omega) [putE,over,ofV,ofS, *];rfl)),hC⟩
 ·clear hb;refine gW ?_
  (refine⟨_,(by simp [*];rfl),?_⟩;(try simp only [packA]))
end
section
open Lx Ax Go.RowKit
attribute [local simp] stepS Ax.stepT Dl.on qstep astep estep rd putE over argE ofV ofS loadA pickCells isAggD faddA fieldA partA iaddA idxA sliA bnd binA intA strA unA convA bltA mapOf findK keyD scalD storeA srcA srcD upd drp Dl.hp Dl.nx CV.cs CV.one buildA placesA fillA zrep tasA ifaceD eqA eqFs eqIs range2 copyA nbeq nble nblt decEq beqI bneI beqS bneS isED Int.ofNat_inj List.getElem?_map List.getElem?_eq_getElem Option.map_some ti_int ti_bool ti_str ti_i64 ti_Strs ti_Flds ti_Fld ti_Me ti_Mes ti_Cl ti_Cls ti_So ti_Fn ti_Fns ti_Un ti_Hi ti_Errno gd gdB callA resA op1
attribute [local simp] nu1 nu2 nu3 nu4 nu5 nu6 nu7 nu8 nu9 nu10 nu11 nu12 nu13 upd_upd
theorem len_Fn3 {H:Heap}(l:List Fu):lenA Tryz.prog H 28 (.lst (l.map cvFu))=some (.int .i64 l.length):=by
 unfold lenA;simp [ti_Fns]
theorem len_nil3 {H:Heap}:lenA Tryz.prog H 28 .nils=some (.int .i64 0):=by
 unfold lenA;simp [ti_Fns]
theorem len_Cl3 {H:Heap}(l:List Cl):lenA Tryz.prog H 22 (.lst (l.map cvC))=some (.int .i64 l.length):=by
 unfold lenA;simp [ti_Cls]
theorem len_Me3 {H:Heap}(l:List Me):lenA Tryz.prog H 36 (.lst (l.map cvM))=some (.int .i64 l.length):=by
 unfold lenA;simp [ti_Mes]
theorem len_Fl3 {H:Heap}(l:List Fld):lenA Tryz.prog H 35 (.lst (l.map cvF))=some (.int .i64 l.length):=by
 unfold lenA;simp [ti_Flds]
set_option maxRecDepth 10000 in
set_option maxHeartbeats 32000000 in
theorem la_Temps (l:List Cl)(hL:LM l):FCall Tryz.prog tkG 3 [cvSo l] fun r=>r=.ret (.bool true):=by
 refine FCall.ofBody Tryz.func3 rfl rfl fun nx=>?_
 have hpr:=lw_Program l hL;simp only [cvSo] at hpr ⊢;refine gW ?_
 ((apply AOpl.callG);(focus rfl);(focus (first | rfl | (simp [*];done)));(focus simp [*,-Option.some.injEq];rfl);kernel_rfl)
 refine acall_le (hpr _ _) ?_;rintro r H' nx' hle ⟨rfl,hr⟩;clear hpr;have q0:=far (show nx<nx' by omega);rcases hr with⟨k,hk,rfl⟩ | ⟨h0,hFl,hFo,mn,rfl⟩
 ·have hk':¬ (k:Int)=0:=by omega
  have hln:∀ H',lenA Tryz.prog H' 28 .nils=some (.int .i64 0):=fun H'=>len_nil3
  simp only;refine gW ?_
  ((apply AOpl.callG);(focus rfl);(focus (first | rfl | (simp [*];done)));(focus simp [*,-Option.some.injEq];rfl);kernel_rfl)
  refine acall_le (lw_awake _ _) ?_;rintro r H' nx' hle ⟨rfl,rfl⟩;simp only;refine gW ?_
  (refine⟨_,(by simp [*];rfl),?_⟩;(try simp only [packA]))
 simp only;have hll:=hL.ln.lb.len;have hlF:∀ H',lenA Tryz.prog H' 28 (.lst ((unitF l).map cvFu))=some (.int .i64 (unitF l).length):=fun H'=>len_Fn3 _
 have hlC:∀ H',lenA Tryz.prog H' 22 (.lst (l.map cvC))=some (.int .i64 l.length):=fun H'=>len_Cl3 _
 have hlaw:=fun c hc m hm=>law_temps h0 (c:=c) hc (m:=m) hm
 have hF0:(unitF l).drop 0=l.flatMap fun c=>c.methods.map (funB (hiOf l) c.name):=rfl
 clear h0;generalize hiOf l=hh at *;generalize unitF l=F at *;refine gW ?_;refine AWp.countO l.length [5,6,7,8,9,10] 25 (fun i e H1 n1=>e 6=.int .i64 i∧(∃ at':Nat,e 5=.int .i64 at'∧F.drop at'=(l.drop i).flatMap (fun c=>c.methods.map (funB hh c.name))∧at'≤F.length)∧H1 nx=some (.cells [.lst (l.map cvC)])∧H1 nx'=some (.cells [.lst (hh.map cvD),.lst (F.map cvFu),.int .i64 mn])) ⟨(by first | (simp (disch:=omega) [putE,over,ofV,ofS, *];done) | (simp (disch:=omega) [putE,over,ofV,ofS, *];rfl)),⟨0,(by first | (simp (disch:=omega) [putE,over,ofV,ofS, *];done) | (simp (disch:=omega) [putE,over,ofV,ofS, *];rfl)),hF0,Nat.zero_le _⟩,by simp [upd,q0],by simp [upd]⟩ ?_;clear hF0;rintro i v H1 n1 hi hn1 ⟨h6,⟨a,h5,hFa,hal⟩,hA,hU⟩;refine gW ?_
 (((apply AWp.cond');(focus (simp [*,-Ax.CV.bool.injEq];rfl))) <;> (intro hb) <;> (try simp only [decide_eq_true_eq,decide_eq_false_iff_not,Bool.not_eq_true',Bool.not_eq_false',Bool.not_eq_true,Bool.not_eq_false] at hb))
 ·have hlt:i<l.length:=hb;have hwi:=lim_wrap hlt hll;clear hb;have hcm:=List.getElem_mem hlt;have hml:=hL.ln.lb.ml _ hcm;have hszc:=hL.sz _ hcm;have hlc:=hlaw _ hcm;rw [List.drop_eq_getElem_cons hlt,List.flatMap_cons] at hFa;generalize (l.drop (i+1)).flatMap (fun c=>c.methods.map (funB hh c.name))=R at *;generalize hce:l[i]=c at *;have hlm:∀ H',lenA Tryz.prog H' 36 (.lst (c.methods.map cvM))=some (.int .i64 c.methods.length):=fun H'=>len_Me3 _
  clear hlaw;refine gWf cvC.eq_1 ?_;refine AWp.countO c.methods.length [5,7,8,9,10] 32 (fun j e H2 n2=>e 7=.int .i64 j∧(∃ at':Nat,e 5=.int .i64 at'∧F.drop at'=(c.methods.drop j).map (funB hh c.name)++R∧at'≤F.length)∧H2 nx=some (.cells [.lst (l.map cvC)])∧H2 nx'=some (.cells [.lst (hh.map cvD),.lst (F.map cvFu),.int .i64 mn])) ⟨(by first | (simp (disch:=omega) [putE,over,ofV,ofS, *];done) | (simp (disch:=omega) [putE,over,ofV,ofS, *];rfl)),⟨a,(by first | (simp (disch:=omega) [putE,over,ofV,ofS, *];done) | (simp (disch:=omega) [putE,over,ofV,ofS, *];rfl)),hFa,hal⟩,hA,hU⟩ ?_;clear hA hU h5 hFa hal;rintro j v2 H2 n2 hj hn2 ⟨h7,⟨a,h5,hFa,hal⟩,hA,hU⟩;refine gWf cvC.eq_1 ?_
  (((apply AWp.cond');(focus (simp [*,-Ax.CV.bool.injEq];rfl))) <;> (intro hb) <;> (try simp only [decide_eq_true_eq,decide_eq_false_iff_not,Bool.not_eq_true',Bool.not_eq_false',Bool.not_eq_true,Bool.not_eq_false] at hb))
  ·have hlj:j<c.methods.length:=hb;have hwj:=lim_wrap hlj hml;clear hb;have hmm:=List.getElem_mem hlj;have hsz:=hszc _ hmm;obtain⟨l1,l2,l3,l4⟩:=hlc _ hmm;rw [List.drop_eq_getElem_cons hlj,List.map_cons,List.cons_append] at hFa;generalize (c.methods.drop (j+1)).map (funB hh c.name)++R=R2 at *;generalize hmj:c.methods[j]=m at *;have halt:a<F.length:=by
    rcases Nat.lt_or_ge a F.length with h | h
    ·exact h
    ·rw [List.drop_eq_nil_of_le h] at hFa;cases hFa
   rw [List.drop_eq_getElem_cons halt] at hFa;obtain⟨hfe,hFn⟩:=List.cons.inj hFa;have hof:=hFo _ (List.getElem_mem halt);rw [hfe] at hof;have hna:¬ F.length≤a:=by omega
   have hwa:=lim_wrap halt (show F.length≤lim by simp only [lim];omega);have hsl:=la_Slots c.name m (by omega);have hal':=la_all lim m.body (by omega) (by omega);have hbd:=asS_le m.body;have hslen:=slotsB_len c.name m;unfold AlOk at hal';have hon:=la_once (funB hh c.name m) (slotsB c.name m) hof (by
    have:=congrArg List.length l2;rw [List.length_take] at this;omega) l2 l3 l4
   have hlS:∀ H',lenA Tryz.prog H' 35 (.lst ((slotsB c.name m).map cvF))=some (.int .i64 (slotsB c.name m).length):=fun H'=>len_Fl3 _
   have hlV:∀ H',lenA Tryz.prog H' 35 (.lst ((funB hh c.name m).vars.map cvF))=some (.int .i64 (funB hh c.name m).vars.length):=fun H'=>len_Fl3 _
   simp only [cvM] at hsl;simp only [cvFu] at hon;simp only [lim] at hsz;clear hszc hlc hFa l2 l3 l4 hof hmm;generalize funB hh c.name m=f at *;generalize slotsB c.name m=S at *;generalize asS m.body=A at *;obtain⟨SA,hSA⟩:∃ SA:Int,(S.length:Int)+A=SA:=⟨_,rfl⟩;have hw1:IntKind.i64.wrap ((S.length:Int)+A)=SA:=by rw [wrap_ok (by omega),hSA]
   have q1:=far (show nx<n2 by omega);have q2:=far (show nx'<n2 by omega)
   by_cases hre:m.result=[]
   ·rw [if_pos hre] at l1;have l1':(f.vars.length:Int)=SA:=by omega
    rw [hre] at hsl;clear l1 hSA;refine gWf (And.intro cvC.eq_1 cvM.eq_1) ?_
    (first | (first | (apply AOpl.callN;rfl) | apply ASl.call);(focus simp [*,-Option.some.injEq];rfl);kernel_rfl | (first | (apply AOpl.callNG;rfl) | apply ASl.callg);(focus simp [*];done);(focus simp [*,-Option.some.injEq];rfl);kernel_rfl)
    ·exact hsl
    refine gWf (And.intro cvC.eq_1 cvM.eq_1) ?_
    ((apply Xr);(focus rfl);(focus (first | rfl | (simp [*];done)));(focus simp [*,-Option.some.injEq];rfl);kernel_rfl)
    ·exact hal' _
    refine gWf (And.intro cvC.eq_1 cvM.eq_1) ?_
    ((apply Xr);(focus rfl);(focus (first | rfl | (simp [cvFu, *];done)));(focus simp [cvFu, *,-Option.some.injEq];rfl);kernel_rfl)
    ·exact hon _
    refine gW ?_;exact⟨by ((repeat (first | exact Keeps.base _ _ _ _ | (with_reducible exact Keeps.refl _ _ _) | (refine Keeps.put rfl ?_) | (refine Keeps.over' rfl rfl ?_)))),hlj,(by first | (simp (disch:=omega) [putE,over,ofV,ofS, *];done) | (simp (disch:=omega) [putE,over,ofV,ofS, *];rfl)),⟨a+1,(by first | (simp (disch:=omega) [putE,over,ofV,ofS, *];done) | (simp (disch:=omega) [putE,over,ofV,ofS, *];rfl)),hFn,by omega⟩,by simp [upd, *],by simp [upd, *]⟩
   ·rw [if_neg hre] at l1;obtain⟨SB,hSB⟩:∃ SB:Int,SA+1=SB:=⟨_,rfl⟩;have hw2:IntKind.i64.wrap (SA+1)=SB:=by rw [wrap_ok (by omega),hSB]
    have l1':(f.vars.length:Int)=SB:=by omega
    clear l1 hSA hSB;refine gWf (And.intro cvC.eq_1 cvM.eq_1) ?_
    (first | (first | (apply AOpl.callN;rfl) | apply ASl.call);(focus simp [*,-Option.some.injEq];rfl);kernel_rfl | (first | (apply AOpl.callNG;rfl) | apply ASl.callg);(focus simp [*];done);(focus simp [*,-Option.some.injEq];rfl);kernel_rfl)
    ·exact hsl
    refine gWf (And.intro cvC.eq_1 cvM.eq_1) ?_
    ((apply Xr);(focus rfl);(focus (first | rfl | (simp [*];done)));(focus simp [*,-Option.some.injEq];rfl);kernel_rfl)
    ·exact hal' _
    refine gWf (And.intro cvC.eq_1 cvM.eq_1) ?_
    ((apply Xr);(focus rfl);(focus (first | rfl | (simp [cvFu, *];done)));(focus simp [cvFu, *,-Option.some.injEq];rfl);kernel_rfl)
    ·exact hon _
    refine gW ?_;exact⟨by ((repeat (first | exact Keeps.base _ _ _ _ | (with_reducible exact Keeps.refl _ _ _) | (refine Keeps.put rfl ?_) | (refine Keeps.over' rfl rfl ?_)))),hlj,(by first | (simp (disch:=omega) [putE,over,ofV,ofS, *];done) | (simp (disch:=omega) [putE,over,ofV,ofS, *];rfl)),⟨a+1,(by first | (simp (disch:=omega) [putE,over,ofV,ofS, *];done) | (simp (disch:=omega) [putE,over,ofV,ofS, *];rfl)),hFn,by omega⟩,by simp [upd, *],by simp [upd, *]⟩
  ·have hj':c.methods.length≤j:=by omega
   rw [List.drop_eq_nil_of_le hj',List.map_nil,List.nil_append] at hFa;clear hb hlc hszc;refine gW ?_;exact⟨by ((repeat (first | exact Keeps.base _ _ _ _ | (with_reducible exact Keeps.refl _ _ _) | (refine Keeps.put rfl ?_) | (refine Keeps.over' rfl rfl ?_)))),hlt,(by first | (simp (disch:=omega) [putE,over,ofV,ofS, *];done) | (simp (disch:=omega) [putE,over,ofV,ofS, *];rfl)),⟨a,(by first | (simp (disch:=omega) [putE,over,ofV,ofS, *];done) | (simp (disch:=omega) [putE,over,ofV,ofS, *];rfl)),hFa,hal⟩,hA,hU⟩
 have hi':l.length≤i:=by omega
 rw [List.drop_eq_nil_of_le hi',List.flatMap_nil] at hFa;have ha:a=F.length:=by
  have:=List.drop_eq_nil_iff.mp hFa;omega
 subst ha;clear hb hlaw hFa hFo;refine gW ?_
 ((apply AOpl.callG);(focus rfl);(focus (first | rfl | (simp [*];done)));(focus simp [*,-Option.some.injEq];rfl);kernel_rfl)
 refine acall_le (lw_awake _ _) ?_;rintro r H' nx' hle ⟨rfl,rfl⟩;simp only;refine gW ?_
 (refine⟨_,(by simp [*];rfl),?_⟩;(try simp only [packA]))
end
section
open Lx Ax Go.RowKit
theorem ll_nms:∀ (d:Nat) (l:List St),(∀ s∈l,StB d s)→NmSs l
 | 0,[],_=>trivial
 | 0,s::l,h=>(h s (by simp)).elim
 | d+1,[],_=>trivial
 | d+1,s::l,h=>by
   have h1:=h s (by simp);have h2:=ll_nms (d+1) l fun x hx=>h x (by simp [hx])
   obtain⟨k,nm,ty,es,b,el⟩:=s;rw [NmSs,NmS];exact⟨⟨h1.2.1,ll_nms d b h1.2.2.2.2.1,ll_nms d el h1.2.2.2.2.2⟩,h2⟩
theorem LM.of {d:Nat}{l:List Cl}(hB:∀ c∈l,ClB d c)(hs:clsSz l≤2000000):LM l:=by
 have hc:∀ c∈l,c.fields.length≤2000000∧mesSz c.methods≤2000000:=fun c hc=>by
  have:=clsSz_mem hc;rw [clSz] at this;omega
 have hm:∀ c∈l,∀ m∈c.methods,m.params.length+stsSz m.body≤2000000:=fun c hc1 m hm=>by
  have:=mesSz_mem hm;have:=(hc c hc1).2;rw [meSz] at *;omega
 have h0:LN l:=⟨⟨by have:=clsSz_len l;simp only [lim];omega,fun c h=>by have:=(hc c h).1;simp only [lim];omega,fun c h=>by have:=mesSz_len c.methods;have:=(hc c h).2;simp only [lim];omega,fun c h m h2=>by have:=hm c h m h2;simp only [lim];omega⟩,fun c h=>(hB c h).1,fun c h f hf=>((hB c h).2.2.1 f hf).1,fun c h m h2=>((hB c h).2.2.2 m h2).1,fun c h m h2 f hf=>(((hB c h).2.2.2 m h2).2.2.1 f hf).1,fun c h m h2=>ll_nms d _ ((hB c h).2.2.2 m h2).2.2.2,fun c h m h2=>by have:=hm c h m h2;simp only [lim];omega⟩;exact⟨h0,fun c h m h2=>by have:=hm c h m h2;simp only [lim];omega⟩
def ll_pow:Array Value:=(Lib.pow10Tab.map (Value.int .u64)).toArray
structure LLaid (w:World):Prop where
 kw:KwIs w
 pow:∃ t fr,w.heap[1]?=some (.cells ll_pow t fr)
theorem ll_rop {w:World}{g:Nat}{cs:List CV}{arr:Array Value}{t:TypeId}{fr:Nat×Nat}(h:w.heap[g]?=some (.cells arr t fr))(hr:RVs (snap w) cs arr.toList):RV (snap w) (.rop cs) (.pointer (some ⟨g,0,none⟩))∧Szd (snap w) g (.rop cs):=by
 have hl:arr.size=cs.length:=by have:=hr.1;simpa using this
 refine⟨.rop _ _ 0 arr t fr h (by omega) (fun j a b=>?_),_,_,_,h,hl⟩;have:=hr.2 j a (by simpa using (by omega:j<arr.size));simpa using this
theorem ll_strs (M:Mp):∀ l:List Bytes,RVs M (l.map .str) (l.map fun s=>Value.string ⟨s.toArray⟩)
 | []=>.nil
 | s::l=>.cons (.str _ _ rfl) (ll_strs M l)
theorem ll_nums (M:Mp)(k:IntKind):∀ l:List Int,RVs M (l.map (.int k)) (l.map (Value.int k))
 | []=>.nil
 | s::l=>.cons (.int _ _) (ll_nums M k l)
theorem ll_bool {M:Mp}{b:Bool}{v:Value}(h:RV M (.bool b) v):v=.bool b:=by cases h;rfl
theorem LLaid.rg {w:World}(h:LLaid w):RG tkG (snap w):=by
 obtain⟨⟨t1,f1,h1⟩,⟨t3,f3,h3⟩⟩:=h;intro g;unfold tkG;split
 ·rename_i hb;have hg:=beq_eq hb;subst hg;exact ll_rop h1 (ll_strs _ kwList)
 ·split
  ·rename_i hb;have hg:=beq_eq hb;subst hg;exact ll_rop h3 (ll_nums _ .u64 Lib.pow10Tab)
  ·exact⟨.any _,trivial⟩
theorem ll_law {f:FuncId}(hw:∀ l:List Cl,LM l→FCall Tryz.prog tkG f [cvSo l] fun r=>r=.ret (.bool true))(d:Nat)(x:List Cl)(a:Option Addr)(n c:Nat)(w:World)(h:IsList Any w 4 (IsCl Any w d) x (.slice a n c))(hB:∀ c∈x,ClB d c)(hs:clsSz x≤2000000)(hK:LLaid w) :
  Calls Tryz.prog f #[.agg #[.slice a n c]] w fun e w'=>e=.returned (.bool true)∧Below w.heap.size w w':=by
 have hM:∀ g o,Any g→w.heap[g]?=some o→(snap w).fz g=some o:=fun g o _ h=>h
 have hv:RV (snap w) (.lst (x.map cvC)) (.slice a n c):=rv_list (by decide) hM h cvC_len fun y _ cs hy=>rv_cl hM hy
 have hr:RV (snap w) (.agg [.lst (x.map cvC)]) (.agg #[.slice a n c]):=.agg _ [.slice a n c] rfl (RVs.one hv).2;refine ((hw x (LM.of hB hs)) Heap.no 0 (snap w) w [.agg #[.slice a n c]] hK.rg (Rep.snap w) (.one hr)).mono ?_;rintro e w' ⟨M',r,H',nx',h1,h2,h3,_,rfl⟩;refine⟨?_,h3.below⟩;cases e <;> simp only [EndR] at h1;rw [ll_bool h1]
end
end Go.Proofs.YtoookjadbhdfhaaGreatDoor
