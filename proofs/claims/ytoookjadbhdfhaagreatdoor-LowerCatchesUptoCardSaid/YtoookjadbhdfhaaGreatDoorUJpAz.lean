/-
  Simple statements of the checker: assignment, store, return; walked.
-/
import Derived.Test.YtoookjadbhdfhaaGreatDoorUJpAy
set_option linter.unusedSectionVars false
set_option linter.unusedSimpArgs false
set_option linter.unnecessarySimpa false
set_option linter.unusedVariables false
set_option linter.unusedSimpArgs false
set_option linter.unusedVariables false
namespace Go.Proofs.YtoookjadbhdfhaaGreatDoor
section
open Lx Ax Go.RowKit
attribute [local simp] stepS Ax.stepT Dl.on qstep astep estep rd putE over argE ofV ofS loadA pickCells isAggD faddA fieldA partA iaddA idxA sliA bnd binA intA strA unA convA bltA lenA mapOf findK keyD scalD storeA appA srcA srcD upd drp Dl.hp Dl.nx CV.cs CV.one buildA placesA fillA zrep tasA ifaceD eqA eqFs eqIs range2 copyA nbeq nble nblt decEq beqI bneI beqS bneS isED Int.ofNat_inj List.getElem?_map List.getElem?_eq_getElem Option.map_some ti_int ti_bool ti_str ti_i64 ti_Strs ti_Flds ti_Fld ti_Cds ti_Cd ti_Sgs ti_Sg ti_Hi ti_Exs ti_Ex ti_Sts ti_St ti_Chk ti_Flt ti_Errno gd gdB callA resA op1
attribute [local simp] nu1 nu2 nu3 nu4 nu5 nu6 nu7 nu8 nu9 nu10 nu11 nu12 nu13 upd_upd
section
variable (h:List Cd) (cls res:Bytes) (b:Nat)
set_option maxRecDepth 10000 in
set_option maxHeartbeats 16000000 in
theorem tk_st2 (hc:HC h)(nm ty:Bytes)(es:List Ex)(bd el:List St)(h0:shpE 2 es.length bd.length el.length=0):StOk h cls res b (.mk 2 nm ty es bd el):=by
 intro H nx c sc a hlen hi;refine ACall.of_body Tryz.func73 rfl ?_;have hb:=hi.blk;have qb:=far hi.lt;have hsh:=tk_shape 2 nm ty es bd el;have hsc:sc.length≤lim:=by omega
 have hEx:=fun (a:Int) (e:Ex) (he:exSz e≤lim)=>tk_expr h cls res sc a hc hsc lim e he he
 obtain⟨w,hw⟩:∃ w,stT h cls res sc (.mk 2 nm ty es bd el)=w:=⟨_,rfl⟩;rw [hw];rw [stT] at hw;rw [if_neg (by rw [h0];simp)] at hw;rw [shpT_ok h0] at hsh;have hsh':FRes Tryz.prog tkG 90 [.agg [.int .i64 2,.str nm,.str ty,.lst (es.map cvE),.lst (bd.map cvS),.lst (el.map cvS)]] (.ret (.tup [])):=by rw [Ya] at hsh;exact hsh
 clear hsh;refine gWf Ya ?_
 ((apply Xr);(focus rfl);(focus (first | rfl | (simp [*];done)));(focus simp [*,-Option.some.injEq];rfl);kernel_rfl)
 ·exact hsh' _
 clear hsh';generalize IntKind.i64.wrap (a+1)=a1;generalize hH:upd _ b _=H1;have hb1:H1 b=some (.cells [.lst (h.map cvD),.str cls,.str res,c,.int .i64 a1]):=by rw [← hH,upd_hit]
 have h3:H1 nx=some (.cells [.int .i64 2,.str nm,.str ty,.lst (es.map cvE),.lst (bd.map cvS),.lst (el.map cvS)]):=by rw [← hH];simp [upd, *]
 have hf1:∀ x,x<nx→x≠b→H1 x=H x:=fun x hx hxb=>by rw [← hH,upd_miss _ _ _ _ hxb,upd_miss _ _ _ _ (by omega)]
 have P1:=hi.same hb1 (Nat.le_succ nx) hf1;have hi1:=P1.ck;clear hH hb hi qb hf1;have qb:=hi1.lt;obtain⟨e,rfl⟩:∃ e,es=[e]:=by
  match es,h0 with
  | [],h0=>exact absurd h0 (by unfold shpE;simp)
  | [e],_=>exact⟨e,rfl⟩
  | _::_::_,h0=>exact absurd h0 (by unfold shpE;simp)
 have hes:exSz e≤lim:=by rw [stSz_mk,exsSz,exsSz] at hlen;omega
 simp (decide:=true) only [if_true,if_false,simT,ex0_one] at hw;have hva:=tk_variable h cls res sc a1 hsc nm;cases hv:varF sc nm with
 | none =>
   rw [hv] at hw hva;have hva':FCall1 Tryz.prog tkG 71 [ckV h cls res sc a1,.str nm] (.tup [.str [],.bool false]):=hva;simp only at hw;rw [← hw];clear hw hv hva hEx;refine gW ?_
   ((apply Xr);(focus rfl);(focus (first | rfl | (simp [*];done)));(focus simp [*,-Option.some.injEq];rfl);kernel_rfl)
   ·exact FCall1.lend tkG_pu hva' (by simp [puL,puV,ckV_pu]) rfl (hi1.ln _)
   refine gW ?_
   ((apply AOpl.callP);(focus rfl);(focus (first | rfl | (simp [*];done)));(focus simp [*,-Option.some.injEq];rfl);kernel_rfl)
   ·exact need_no 6 _
   exact⟨rfl,sc,c,a1,P1⟩
 | some t =>
   rw [hv] at hw hva;have hva':FCall1 Tryz.prog tkG 71 [ckV h cls res sc a1,.str nm] (.tup [.str t,.bool true]):=hva;simp only at hw;clear hv hva;have has:=tk_assign h cls res sc a1 hc e t (hEx a1 e (by omega));rw [Xz e] at has;cases hx:asgT h (exT9 h cls sc e) t with
   | error x =>
     rw [hx] at has hw;have has':FRes Tryz.prog tkG 93 [ckV h cls res sc a1,.agg [.int .i64 e.kind,.int .i64 e.n,.str e.of,.str e.name,.lst (e.kids.map cvE)],.str t] (.pan (fltV x)):=has;simp only [andT] at hw;rw [← hw];clear has hx hEx hw;refine gW ?_
     ((apply Xr);(focus rfl);(focus (first | rfl | (simp [*];done)));(focus simp [*,-Option.some.injEq];rfl);kernel_rfl)
     ·exact FCall1.lend tkG_pu hva' (by simp [puL,puV,ckV_pu]) rfl (hi1.ln _)
     refine gW ?_
     ((apply Xr);(focus rfl);(focus (first | rfl | (simp [*];done)));(focus simp [*,-Option.some.injEq];rfl);kernel_rfl)
     ·exact need_ok 6 _
     refine gWf (Xz e) ?_
     ((apply AOpl.callP);(focus rfl);(focus (first | rfl | (simp [*];done)));(focus simp [*,-Option.some.injEq];rfl);kernel_rfl)
     ·exact FRes.lend tkG_pu has' rfl (by simp [puL,puV,puEs,ckV_pu]) (hi1.ln _)
     exact⟨rfl,sc,c,a1,P1⟩
   | ok u =>
     rw [hx] at has hw;have has':FRes Tryz.prog tkG 93 [ckV h cls res sc a1,.agg [.int .i64 e.kind,.int .i64 e.n,.str e.of,.str e.name,.lst (e.kids.map cvE)],.str t] (.ret (.tup [])):=has;simp only [andT] at hw;rw [← hw];clear has hx hEx hw;refine gW ?_
     ((apply Xr);(focus rfl);(focus (first | rfl | (simp [*];done)));(focus simp [*,-Option.some.injEq];rfl);kernel_rfl)
     ·exact FCall1.lend tkG_pu hva' (by simp [puL,puV,ckV_pu]) rfl (hi1.ln _)
     refine gW ?_
     ((apply Xr);(focus rfl);(focus (first | rfl | (simp [*];done)));(focus simp [*,-Option.some.injEq];rfl);kernel_rfl)
     ·exact need_ok 6 _
     refine gWf (Xz e) ?_
     ((apply Xr);(focus rfl);(focus (first | rfl | (simp [*];done)));(focus simp [*,-Option.some.injEq];rfl);kernel_rfl)
     ·exact FRes.lend tkG_pu has' rfl (by simp [puL,puV,puEs,ckV_pu]) (hi1.ln _)
     refine gW ?_
     (refine⟨_,(by simp [*];rfl),?_⟩;(try simp only [packA]))
     exact⟨rfl,c,a1,P1⟩
theorem CkP.up {h:List Cd}{cls res:Bytes}{b:Nat}{H H1:Heap}{nx nx1 nx2:Nat}{c c1:CV}{s1:List Fld}{a1:Int}(p:CkP h cls res b H nx c s1 H1 nx1 c1 a1)(hn:nx1≤nx2):CkP h cls res b H nx c s1 H1 nx2 c1 a1 where
 ck:=⟨p.ck.blk,p.ck.own.keep hn fun _ _ _=>rfl,Nat.lt_of_lt_of_le p.ck.lt hn,p.ck.ne⟩
 le:=Nat.le_trans p.le hn
 from':=p.from'
 fr:=p.fr
set_option maxRecDepth 10000 in
set_option maxHeartbeats 16000000 in
theorem tk_st3 (hc:HC h)(nm ty:Bytes)(es:List Ex)(bd el:List St)(h0:shpE 3 es.length bd.length el.length=0):StOk h cls res b (.mk 3 nm ty es bd el):=by
 intro H nx c sc a hlen hi;refine ACall.of_body Tryz.func73 rfl ?_;have hb:=hi.blk;have qb:=far hi.lt;have hsh:=tk_shape 3 nm ty es bd el;have hsc:sc.length≤lim:=by omega
 have hEx:=fun (a:Int) (e:Ex) (he:exSz e≤lim)=>tk_expr h cls res sc a hc hsc lim e he he
 obtain⟨w,hw⟩:∃ w,stT h cls res sc (.mk 3 nm ty es bd el)=w:=⟨_,rfl⟩;rw [hw];rw [stT] at hw;rw [if_neg (by rw [h0];simp)] at hw;rw [shpT_ok h0] at hsh;have hsh':FRes Tryz.prog tkG 90 [.agg [.int .i64 3,.str nm,.str ty,.lst (es.map cvE),.lst (bd.map cvS),.lst (el.map cvS)]] (.ret (.tup [])):=by rw [Ya] at hsh;exact hsh
 clear hsh;refine gWf Ya ?_
 ((apply Xr);(focus rfl);(focus (first | rfl | (simp [*];done)));(focus simp [*,-Option.some.injEq];rfl);kernel_rfl)
 ·exact hsh' _
 clear hsh';generalize IntKind.i64.wrap (a+1)=a1;generalize hH:upd _ b _=H1;have hb1:H1 b=some (.cells [.lst (h.map cvD),.str cls,.str res,c,.int .i64 a1]):=by rw [← hH,upd_hit]
 have h3:H1 nx=some (.cells [.int .i64 3,.str nm,.str ty,.lst (es.map cvE),.lst (bd.map cvS),.lst (el.map cvS)]):=by rw [← hH];simp [upd, *]
 have hf1:∀ x,x<nx→x≠b→H1 x=H x:=fun x hx hxb=>by rw [← hH,upd_miss _ _ _ _ hxb,upd_miss _ _ _ _ (by omega)]
 have P1:=hi.same hb1 (Nat.le_succ nx) hf1;have hi1:=P1.ck;clear hH hb hi qb hf1;have qb:=hi1.lt;obtain⟨e,e',rfl⟩:∃ e e',es=[e,e']:=by
  match es,h0 with
  | [],h0=>exact absurd h0 (by unfold shpE;simp)
  | [_],h0=>exact absurd h0 (by unfold shpE;simp)
  | [e,e'],_=>exact⟨e,e',rfl⟩
  | _::_::_::_,h0=>exact absurd h0 (by unfold shpE;simp)
 have hes:exSz e+exSz e'≤lim:=by rw [stSz_mk,exsSz,exsSz,exsSz] at hlen;omega
 simp (decide:=true) only [if_true,if_false,simT] at hw;have hw2:(match fldT1 h (exT9 h cls sc e) nm with
   | .error x=>.error x
   | .ok t=>andT (asgT h (exT9 h cls sc e') t) (.ok sc))=w:=by
  rw [← hw];have h1:ex0T h cls sc [e,e'] 0=exT9 h cls sc e:=rfl;have h2:ex0T h cls sc [e,e'] 1=exT9 h cls sc e':=rfl;rw [h1,h2];unfold fldT1;cases exT9 h cls sc e <;> rfl
 clear hw;have hw:=hw2;clear hw2;have hf:=tk_fld h cls res sc a1 hc e nm (hEx a1 e (by omega));rw [Xz e] at hf;cases hv:fldT1 h (exT9 h cls sc e) nm with
 | error x =>
   rw [hv] at hw hf;have hf':FRes Tryz.prog tkG 94 [ckV h cls res sc a1,.agg [.int .i64 e.kind,.int .i64 e.n,.str e.of,.str e.name,.lst (e.kids.map cvE)],.str nm] (.pan (fltV x)):=hf;simp only at hw;rw [← hw];clear hw hv hf hEx;refine gWr ?_
   (refine AWp.regDT (by kernel_rfl) (by kernel_rfl) rfl ?_;intro nxq hnq)
   repeat (first | apply Xu;(focus simp [Xz e, *,-Option.some.injEq];rfl) | apply Xt;(focus simp [Xz e, *];done);(focus simp [Xz e, *,-Option.some.injEq];rfl) | apply Xv;(focus simp [Xz e, *];done) | refine Xw ?_;try simp only [Xx,Xy,reduceIte,Nat.reduceEqDiff])
   ((apply AQq.pan);(focus (first | rfl | (simp [Xz e, *];done)));(focus simp [Xz e, *,-Option.some.injEq];rfl);kernel_rfl)
   ·exact FRes.lend tkG_pu hf' rfl (by simp [puL,puV,puEs,ckV_pu]) (hi1.ln _)
   ·repeat (first | exact AQt.nil | (apply AQt.look;(focus simp [*,-Option.some.injEq];rfl)) | (apply AQt.lookG;(focus simp [*];done);(focus simp [*,-Option.some.injEq];rfl)) | (apply AQt.pass;(focus simp [*];done)) | refine AQt.dead (by kernel_rfl) ?_)
   intro e2;exact⟨rfl,sc,c,a1,P1.up (by omega)⟩
 | ok t =>
   rw [hv] at hw hf;have hf':FRes Tryz.prog tkG 94 [ckV h cls res sc a1,.agg [.int .i64 e.kind,.int .i64 e.n,.str e.of,.str e.name,.lst (e.kids.map cvE)],.str nm] (.ret (.str t)):=hf;simp only at hw;clear hv hf;have has:=tk_assign h cls res sc a1 hc e' t (hEx a1 e' (by omega));rw [Xz e'] at has;cases hx:asgT h (exT9 h cls sc e') t with
   | error x =>
     rw [hx] at has hw;have has':FRes Tryz.prog tkG 93 [ckV h cls res sc a1,.agg [.int .i64 e'.kind,.int .i64 e'.n,.str e'.of,.str e'.name,.lst (e'.kids.map cvE)],.str t] (.pan (fltV x)):=has;simp only [andT] at hw;rw [← hw];clear has hx hEx hw;refine gWr ?_
     (refine AWp.regDT (by kernel_rfl) (by kernel_rfl) rfl ?_;intro nxq hnq)
     repeat (first | apply Xu;(focus simp [Xz e, *,-Option.some.injEq];rfl) | apply Xt;(focus simp [Xz e, *];done);(focus simp [Xz e, *,-Option.some.injEq];rfl) | apply Xv;(focus simp [Xz e, *];done) | refine Xw ?_;try simp only [Xx,Xy,reduceIte,Nat.reduceEqDiff])
     ((apply AQq.callG);(focus (first | rfl | (simp [Xz e, *];done)));(focus simp [Xz e, *,-Option.some.injEq];rfl);kernel_rfl)
     ·exact FRes.lend tkG_pu hf' rfl (by simp [puL,puV,puEs,ckV_pu]) (hi1.ln _)
     repeat (first | apply Xu;(focus simp [*,-Option.some.injEq];rfl) | apply Xt;(focus simp [*];done);(focus simp [*,-Option.some.injEq];rfl) | apply Xv;(focus simp [*];done) | refine Xw ?_;try simp only [Xx,Xy,reduceIte,Nat.reduceEqDiff])
     refine gWf (Xz e') ?_
     ((apply AOpl.callP);(focus rfl);(focus (first | rfl | (simp [*];done)));(focus simp [*,-Option.some.injEq];rfl);kernel_rfl)
     ·exact FRes.lend tkG_pu has' rfl (by simp [puL,puV,puEs,ckV_pu]) (hi1.ln _)
     exact⟨rfl,sc,c,a1,P1.up (by omega)⟩
   | ok u =>
     rw [hx] at has hw;have has':FRes Tryz.prog tkG 93 [ckV h cls res sc a1,.agg [.int .i64 e'.kind,.int .i64 e'.n,.str e'.of,.str e'.name,.lst (e'.kids.map cvE)],.str t] (.ret (.tup [])):=has;simp only [andT] at hw;rw [← hw];clear has hx hEx hw;refine gWr ?_
     (refine AWp.regDT (by kernel_rfl) (by kernel_rfl) rfl ?_;intro nxq hnq)
     repeat (first | apply Xu;(focus simp [Xz e, *,-Option.some.injEq];rfl) | apply Xt;(focus simp [Xz e, *];done);(focus simp [Xz e, *,-Option.some.injEq];rfl) | apply Xv;(focus simp [Xz e, *];done) | refine Xw ?_;try simp only [Xx,Xy,reduceIte,Nat.reduceEqDiff])
     ((apply AQq.callG);(focus (first | rfl | (simp [Xz e, *];done)));(focus simp [Xz e, *,-Option.some.injEq];rfl);kernel_rfl)
     ·exact FRes.lend tkG_pu hf' rfl (by simp [puL,puV,puEs,ckV_pu]) (hi1.ln _)
     repeat (first | apply Xu;(focus simp [*,-Option.some.injEq];rfl) | apply Xt;(focus simp [*];done);(focus simp [*,-Option.some.injEq];rfl) | apply Xv;(focus simp [*];done) | refine Xw ?_;try simp only [Xx,Xy,reduceIte,Nat.reduceEqDiff])
     refine gWf (Xz e') ?_
     ((apply Xr);(focus rfl);(focus (first | rfl | (simp [*];done)));(focus simp [*,-Option.some.injEq];rfl);kernel_rfl)
     ·exact FRes.lend tkG_pu has' rfl (by simp [puL,puV,puEs,ckV_pu]) (hi1.ln _)
     refine gW ?_
     (refine⟨_,(by simp [*];rfl),?_⟩;(try simp only [packA]))
     exact⟨rfl,c,a1,P1.up (by omega)⟩
set_option maxRecDepth 10000 in
set_option maxHeartbeats 16000000 in
theorem tk_st8 (hc:HC h)(nm ty:Bytes)(es:List Ex)(bd el:List St)(h0:shpE 8 es.length bd.length el.length=0):StOk h cls res b (.mk 8 nm ty es bd el):=by
 intro H nx c sc a hlen hi;refine ACall.of_body Tryz.func73 rfl ?_;have hb:=hi.blk;have qb:=far hi.lt;have hsh:=tk_shape 8 nm ty es bd el;have hsc:sc.length≤lim:=by omega
 have hEx:=fun (a:Int) (e:Ex) (he:exSz e≤lim)=>tk_expr h cls res sc a hc hsc lim e he he
 obtain⟨w,hw⟩:∃ w,stT h cls res sc (.mk 8 nm ty es bd el)=w:=⟨_,rfl⟩;rw [hw];rw [stT] at hw;rw [if_neg (by rw [h0];simp)] at hw;rw [shpT_ok h0] at hsh;have hsh':FRes Tryz.prog tkG 90 [.agg [.int .i64 8,.str nm,.str ty,.lst (es.map cvE),.lst (bd.map cvS),.lst (el.map cvS)]] (.ret (.tup [])):=by rw [Ya] at hsh;exact hsh
 clear hsh;refine gWf Ya ?_
 ((apply Xr);(focus rfl);(focus (first | rfl | (simp [*];done)));(focus simp [*,-Option.some.injEq];rfl);kernel_rfl)
 ·exact hsh' _
 clear hsh';generalize IntKind.i64.wrap (a+1)=a1;generalize hH:upd _ b _=H1;have hb1:H1 b=some (.cells [.lst (h.map cvD),.str cls,.str res,c,.int .i64 a1]):=by rw [← hH,upd_hit]
 have h3:H1 nx=some (.cells [.int .i64 8,.str nm,.str ty,.lst (es.map cvE),.lst (bd.map cvS),.lst (el.map cvS)]):=by rw [← hH];simp [upd, *]
 have hf1:∀ x,x<nx→x≠b→H1 x=H x:=fun x hx hxb=>by rw [← hH,upd_miss _ _ _ _ hxb,upd_miss _ _ _ _ (by omega)]
 have P1:=hi.same hb1 (Nat.le_succ nx) hf1;have hi1:=P1.ck;clear hH hb hi qb hf1;have qb:=hi1.lt;simp (decide:=true) only [if_true,if_false,simT] at hw;rcases es with _ | ⟨e,_ | ⟨e',l⟩⟩
 case cons.cons=>exact absurd h0 (by unfold shpE;simp)
 case nil =>
  by_cases hr:res=[]
  ·subst hr;have hw':(.ok sc:Tk (List Fld))=w:=by rw [← hw];rfl
   rw [← hw'];clear hw hw' hEx;refine gWr ?_
   (refine AWp.regDT (by kernel_rfl) (by kernel_rfl) rfl ?_;intro nxq hnq)
   repeat (first | apply Xu;(focus simp [*,-Option.some.injEq];rfl) | apply Xt;(focus simp [*];done);(focus simp [*,-Option.some.injEq];rfl) | apply Xv;(focus simp [*];done) | refine Xw ?_;try simp only [Xx,Xy,reduceIte,Nat.reduceEqDiff])
   ((apply AQq.callG);(focus (first | rfl | (simp [*];done)));(focus simp [*,-Option.some.injEq];rfl);kernel_rfl)
   ·exact need_ok 9 _
   repeat (first | apply Xu;(focus simp [*,-Option.some.injEq];rfl) | apply Xt;(focus simp [*];done);(focus simp [*,-Option.some.injEq];rfl) | apply Xv;(focus simp [*];done) | refine Xw ?_;try simp only [Xx,Xy,reduceIte,Nat.reduceEqDiff])
   refine gW ?_
   (refine⟨_,(by simp [*];rfl),?_⟩;(try simp only [packA]))
   exact⟨rfl,c,a1,P1.up (by omega)⟩
  ·have hw':(.error 9:Tk (List Fld))=w:=by rw [← hw];simp [hr]
   rw [← hw'];clear hw hw' hEx;refine gWr ?_
   (refine AWp.regDT (by kernel_rfl) (by kernel_rfl) rfl ?_;intro nxq hnq)
   repeat (first | apply Xu;(focus simp [*,-Option.some.injEq];rfl) | apply Xt;(focus simp [*];done);(focus simp [*,-Option.some.injEq];rfl) | apply Xv;(focus simp [*];done) | refine Xw ?_;try simp only [Xx,Xy,reduceIte,Nat.reduceEqDiff])
   ((apply AQq.pan);(focus (first | rfl | (simp [*];done)));(focus simp [*,-Option.some.injEq];rfl);kernel_rfl)
   ·exact need_no 9 _
   ·repeat (first | exact AQt.nil | (apply AQt.look;(focus simp [*,-Option.some.injEq];rfl)) | (apply AQt.lookG;(focus simp [*];done);(focus simp [*,-Option.some.injEq];rfl)) | (apply AQt.pass;(focus simp [*];done)) | refine AQt.dead (by kernel_rfl) ?_)
   intro e2;exact⟨rfl,sc,c,a1,P1.up (by omega)⟩
 case cons.nil =>
  have hes:exSz e≤lim:=by rw [stSz_mk,exsSz,exsSz] at hlen;omega
  by_cases hr:res=[]
  ·subst hr;have hw':(.error 9:Tk (List Fld))=w:=by rw [← hw];simp
   rw [← hw'];clear hw hw' hEx;refine gWrf (Xz e) ?_
   (refine AWp.regDT (by kernel_rfl) (by kernel_rfl) rfl ?_;intro nxq hnq)
   repeat (first | apply Xu;(focus simp [*,-Option.some.injEq];rfl) | apply Xt;(focus simp [*];done);(focus simp [*,-Option.some.injEq];rfl) | apply Xv;(focus simp [*];done) | refine Xw ?_;try simp only [Xx,Xy,reduceIte,Nat.reduceEqDiff])
   ((apply AQq.pan);(focus (first | rfl | (simp [*];done)));(focus simp [*,-Option.some.injEq];rfl);kernel_rfl)
   ·exact need_no 9 _
   ·repeat (first | exact AQt.nil | (apply AQt.look;(focus simp [*,-Option.some.injEq];rfl)) | (apply AQt.lookG;(focus simp [*];done);(focus simp [*,-Option.some.injEq];rfl)) | (apply AQt.pass;(focus simp [*];done)) | refine AQt.dead (by kernel_rfl) ?_)
   intro e2;exact⟨rfl,sc,c,a1,P1.up (by omega)⟩
  ·have hw':andT (asgT h (exT9 h cls sc e) res) (.ok sc)=w:=by rw [← hw];simp [hr,ex0_one]
   clear hw;have hw:=hw';clear hw';have has:=tk_assign h cls res sc a1 hc e res (hEx a1 e (by omega));rw [Xz e] at has;cases hx:asgT h (exT9 h cls sc e) res with
   | error x =>
     rw [hx] at has hw;have has':FRes Tryz.prog tkG 93 [ckV h cls res sc a1,.agg [.int .i64 e.kind,.int .i64 e.n,.str e.of,.str e.name,.lst (e.kids.map cvE)],.str res] (.pan (fltV x)):=has;simp only [andT] at hw;rw [← hw];clear has hx hEx hw;refine gWrf (Xz e) ?_
     (refine AWp.regDT (by kernel_rfl) (by kernel_rfl) rfl ?_;intro nxq hnq)
     repeat (first | apply Xu;(focus simp [*,-Option.some.injEq];rfl) | apply Xt;(focus simp [*];done);(focus simp [*,-Option.some.injEq];rfl) | apply Xv;(focus simp [*];done) | refine Xw ?_;try simp only [Xx,Xy,reduceIte,Nat.reduceEqDiff])
     ((apply AQq.callG);(focus (first | rfl | (simp [*];done)));(focus simp [*,-Option.some.injEq];rfl);kernel_rfl)
     ·exact need_ok 9 _
     repeat (first | apply Xu;(focus simp [*,-Option.some.injEq];rfl) | apply Xt;(focus simp [*];done);(focus simp [*,-Option.some.injEq];rfl) | apply Xv;(focus simp [*];done) | refine Xw ?_;try simp only [Xx,Xy,reduceIte,Nat.reduceEqDiff])
     refine gWrf (Xz e) ?_
     (refine AWp.regDT (by kernel_rfl) (by kernel_rfl) rfl ?_;intro nxq hnq)
     repeat (first | apply Xu;(focus simp [Xz e, *,-Option.some.injEq];rfl) | apply Xt;(focus simp [Xz e, *];done);(focus simp [Xz e, *,-Option.some.injEq];rfl) | apply Xv;(focus simp [Xz e, *];done) | refine Xw ?_;try simp only [Xx,Xy,reduceIte,Nat.reduceEqDiff])
     ((apply AQq.pan);(focus (first | rfl | (simp [Xz e, *];done)));(focus simp [Xz e, *,-Option.some.injEq];rfl);kernel_rfl)
     ·exact FRes.lend tkG_pu has' rfl (by simp [puL,puV,puEs,ckV_pu]) (hi1.ln _)
     ·repeat (first | exact AQt.nil | (apply AQt.look;(focus simp [*,-Option.some.injEq];rfl)) | (apply AQt.lookG;(focus simp [*];done);(focus simp [*,-Option.some.injEq];rfl)) | (apply AQt.pass;(focus simp [*];done)) | refine AQt.dead (by kernel_rfl) ?_)
     intro e2;exact⟨rfl,sc,c,a1,P1.up (by omega)⟩
   | ok u =>
     rw [hx] at has hw;have has':FRes Tryz.prog tkG 93 [ckV h cls res sc a1,.agg [.int .i64 e.kind,.int .i64 e.n,.str e.of,.str e.name,.lst (e.kids.map cvE)],.str res] (.ret (.tup [])):=has;simp only [andT] at hw;rw [← hw];clear has hx hEx hw;refine gWrf (Xz e) ?_
     (refine AWp.regDT (by kernel_rfl) (by kernel_rfl) rfl ?_;intro nxq hnq)
     repeat (first | apply Xu;(focus simp [*,-Option.some.injEq];rfl) | apply Xt;(focus simp [*];done);(focus simp [*,-Option.some.injEq];rfl) | apply Xv;(focus simp [*];done) | refine Xw ?_;try simp only [Xx,Xy,reduceIte,Nat.reduceEqDiff])
     ((apply AQq.callG);(focus (first | rfl | (simp [*];done)));(focus simp [*,-Option.some.injEq];rfl);kernel_rfl)
     ·exact need_ok 9 _
     repeat (first | apply Xu;(focus simp [*,-Option.some.injEq];rfl) | apply Xt;(focus simp [*];done);(focus simp [*,-Option.some.injEq];rfl) | apply Xv;(focus simp [*];done) | refine Xw ?_;try simp only [Xx,Xy,reduceIte,Nat.reduceEqDiff])
     refine gWrf (Xz e) ?_
     (refine AWp.regDT (by kernel_rfl) (by kernel_rfl) rfl ?_;intro nxq hnq)
     repeat (first | apply Xu;(focus simp [Xz e, *,-Option.some.injEq];rfl) | apply Xt;(focus simp [Xz e, *];done);(focus simp [Xz e, *,-Option.some.injEq];rfl) | apply Xv;(focus simp [Xz e, *];done) | refine Xw ?_;try simp only [Xx,Xy,reduceIte,Nat.reduceEqDiff])
     ((apply AQq.callG);(focus (first | rfl | (simp [Xz e, *];done)));(focus simp [Xz e, *,-Option.some.injEq];rfl);kernel_rfl)
     ·exact FRes.lend tkG_pu has' rfl (by simp [puL,puV,puEs,ckV_pu]) (hi1.ln _)
     repeat (first | apply Xu;(focus simp [*,-Option.some.injEq];rfl) | apply Xt;(focus simp [*];done);(focus simp [*,-Option.some.injEq];rfl) | apply Xv;(focus simp [*];done) | refine Xw ?_;try simp only [Xx,Xy,reduceIte,Nat.reduceEqDiff])
     refine gW ?_
     (refine⟨_,(by simp [*];rfl),?_⟩;(try simp only [packA]))
     exact⟨rfl,c,a1,P1.up (by omega)⟩
end
end
section
open Lx Ax Go.RowKit
attribute [local simp] stepS Ax.stepT Dl.on qstep astep estep rd putE over argE ofV ofS loadA pickCells isAggD faddA fieldA partA iaddA idxA sliA bnd binA intA strA unA convA bltA lenA mapOf findK keyD scalD storeA appA srcA srcD upd drp Dl.hp Dl.nx CV.cs CV.one buildA placesA fillA zrep tasA ifaceD eqA eqFs eqIs range2 copyA nbeq nble nblt decEq beqI bneI beqS bneS isED Int.ofNat_inj List.getElem?_map List.getElem?_eq_getElem Option.map_some ti_int ti_bool ti_str ti_i64 ti_Strs ti_Flds ti_Fld ti_Cds ti_Cd ti_Sgs ti_Sg ti_Hi ti_Exs ti_Ex ti_Sts ti_St ti_Chk ti_Flt ti_Errno gd gdB callA resA op1
attribute [local simp] nu1 nu2 nu3 nu4 nu5 nu6 nu7 nu8 nu9 nu10 nu11 nu12 nu13 upd_upd
section
variable (h:List Cd) (cls res:Bytes) (b:Nat)
set_option maxRecDepth 10000 in
set_option maxHeartbeats 16000000 in
theorem tk_st1 (hc:HC h)(nm ty:Bytes)(es:List Ex)(bd el:List St)(h0:shpE 1 es.length bd.length el.length=0)(hnm:nm.length≤maxLen):StOk h cls res b (.mk 1 nm ty es bd el):=by
 intro H nx c sc a hlen hi;refine ACall.of_body Tryz.func73 rfl ?_;have hb:=hi.blk;have qb:=far hi.lt;have hsh:=tk_shape 1 nm ty es bd el;have hsc:sc.length≤lim:=by omega
 have hEx:=fun (a:Int) (e:Ex) (he:exSz e≤lim)=>tk_expr h cls res sc a hc hsc lim e he he
 obtain⟨w,hw⟩:∃ w,stT h cls res sc (.mk 1 nm ty es bd el)=w:=⟨_,rfl⟩;rw [hw];rw [stT] at hw;rw [if_neg (by rw [h0];simp)] at hw;rw [shpT_ok h0] at hsh;have hsh':FRes Tryz.prog tkG 90 [.agg [.int .i64 1,.str nm,.str ty,.lst (es.map cvE),.lst (bd.map cvS),.lst (el.map cvS)]] (.ret (.tup [])):=by rw [Ya] at hsh;exact hsh
 clear hsh;refine gWf Ya ?_
 ((apply Xr);(focus rfl);(focus (first | rfl | (simp [*];done)));(focus simp [*,-Option.some.injEq];rfl);kernel_rfl)
 ·exact hsh' _
 clear hsh';generalize IntKind.i64.wrap (a+1)=a1;generalize hH:upd _ b _=H1;have hb1:H1 b=some (.cells [.lst (h.map cvD),.str cls,.str res,c,.int .i64 a1]):=by rw [← hH,upd_hit]
 have h3:H1 nx=some (.cells [.int .i64 1,.str nm,.str ty,.lst (es.map cvE),.lst (bd.map cvS),.lst (el.map cvS)]):=by rw [← hH];simp [upd, *]
 have hf1:∀ x,x<nx→x≠b→H1 x=H x:=fun x hx hxb=>by rw [← hH,upd_miss _ _ _ _ hxb,upd_miss _ _ _ _ (by omega)]
 have P1:=hi.same hb1 (Nat.le_succ nx) hf1;have hi1:=P1.ck;clear hH hb hi qb hf1;have qb:=hi1.lt;simp (decide:=true) only [if_true,if_false,simT] at hw;have hid:=tk_ident nm hnm;have hty:=tk_Type h hc.le ty;have hhs:=tk_has h cls res sc a1 hsc nm;unfold newT at hw;cases h1:isIdent nm with
 | false =>
   rw [if_pos h1] at hw;simp only [andT] at hw;rw [h1] at hid;rw [← hw];clear hw h1 hEx;refine gW ?_
   ((apply Xr);(focus rfl);(focus (first | rfl | (simp [*];done)));(focus simp [*,-Option.some.injEq];rfl);kernel_rfl)
   ·exact hid _
   refine gW ?_
   ((apply AOpl.callP);(focus rfl);(focus (first | rfl | (simp [*];done)));(focus simp [*,-Option.some.injEq];rfl);kernel_rfl)
   ·exact need_no 5 _
   exact⟨rfl,sc,c,a1,P1⟩
 | true =>
 rw [if_neg (by rw [h1];simp)] at hw;rw [h1] at hid;clear h1;cases h2:typB h ty with
 | false =>
   rw [if_pos h2] at hw;simp only [andT] at hw;rw [h2] at hty;rw [← hw];clear hw h2 hEx;refine gW ?_
   ((apply Xr);(focus rfl);(focus (first | rfl | (simp [*];done)));(focus simp [*,-Option.some.injEq];rfl);kernel_rfl)
   ·exact hid _
   refine gW ?_
   ((apply Xr);(focus rfl);(focus (first | rfl | (simp [*];done)));(focus simp [*,-Option.some.injEq];rfl);kernel_rfl)
   ·exact need_ok 5 _
   refine gWr ?_
   (refine AWp.regDT (by kernel_rfl) (by kernel_rfl) rfl ?_;intro nxq hnq)
   repeat (first | apply Xu;(focus simp [*,-Option.some.injEq];rfl) | apply Xt;(focus simp [*];done);(focus simp [*,-Option.some.injEq];rfl) | apply Xv;(focus simp [*];done) | refine Xw ?_;try simp only [Xx,Xy,reduceIte,Nat.reduceEqDiff])
   ((apply AQq.callG);(focus (first | rfl | (simp [*];done)));(focus simp [*,-Option.some.injEq];rfl);kernel_rfl)
   ·exact hty _
   repeat (first | apply Xu;(focus simp [*,-Option.some.injEq];rfl) | apply Xt;(focus simp [*];done);(focus simp [*,-Option.some.injEq];rfl) | apply Xv;(focus simp [*];done) | refine Xw ?_;try simp only [Xx,Xy,reduceIte,Nat.reduceEqDiff])
   ((apply AQq.pan);(focus (first | rfl | (simp [*];done)));(focus simp [*,-Option.some.injEq];rfl);kernel_rfl)
   ·exact need_no 8 _
   ·repeat (first | exact AQt.nil | (apply AQt.look;(focus simp [*,-Option.some.injEq];rfl)) | (apply AQt.lookG;(focus simp [*];done);(focus simp [*,-Option.some.injEq];rfl)) | (apply AQt.pass;(focus simp [*];done)) | refine AQt.dead (by kernel_rfl) ?_)
   intro e2;exact⟨rfl,sc,c,a1,P1.up (by omega)⟩
 | true =>
 rw [if_neg (by rw [h2];simp)] at hw;rw [h2] at hty;clear h2
 by_cases h3v:varF sc nm=none
 case neg =>
  rw [if_pos h3v] at hw;simp only [andT] at hw;have hsm:(varF sc nm).isSome=true:=by cases hv:varF sc nm <;> simp_all
  rw [hsm] at hhs;rw [← hw];clear hw h3v hsm hEx;refine gW ?_
  ((apply Xr);(focus rfl);(focus (first | rfl | (simp [*];done)));(focus simp [*,-Option.some.injEq];rfl);kernel_rfl)
  ·exact hid _
  refine gW ?_
  ((apply Xr);(focus rfl);(focus (first | rfl | (simp [*];done)));(focus simp [*,-Option.some.injEq];rfl);kernel_rfl)
  ·exact need_ok 5 _
  refine gWr ?_
  (refine AWp.regDT (by kernel_rfl) (by kernel_rfl) rfl ?_;intro nxq hnq)
  repeat (first | apply Xu;(focus simp [*,-Option.some.injEq];rfl) | apply Xt;(focus simp [*];done);(focus simp [*,-Option.some.injEq];rfl) | apply Xv;(focus simp [*];done) | refine Xw ?_;try simp only [Xx,Xy,reduceIte,Nat.reduceEqDiff])
  ((apply AQq.callG);(focus (first | rfl | (simp [*];done)));(focus simp [*,-Option.some.injEq];rfl);kernel_rfl)
  ·exact hty _
  repeat (first | apply Xu;(focus simp [*,-Option.some.injEq];rfl) | apply Xt;(focus simp [*];done);(focus simp [*,-Option.some.injEq];rfl) | apply Xv;(focus simp [*];done) | refine Xw ?_;try simp only [Xx,Xy,reduceIte,Nat.reduceEqDiff])
  ((apply AQq.callG);(focus (first | rfl | (simp [*];done)));(focus simp [*,-Option.some.injEq];rfl);kernel_rfl)
  ·exact need_ok 8 _
  repeat (first | apply Xu;(focus simp [*,-Option.some.injEq];rfl) | apply Xt;(focus simp [*];done);(focus simp [*,-Option.some.injEq];rfl) | apply Xv;(focus simp [*];done) | refine Xw ?_;try simp only [Xx,Xy,reduceIte,Nat.reduceEqDiff])
  refine gW ?_
  ((apply Xr);(focus rfl);(focus (first | rfl | (simp [*];done)));(focus simp [*,-Option.some.injEq];rfl);kernel_rfl)
  ·exact FCall1.lend tkG_pu hhs (by simp [puL,puV,ckV_pu]) rfl (hi1.ln _)
  refine gW ?_
  ((apply AOpl.callP);(focus rfl);(focus (first | rfl | (simp [*];done)));(focus simp [*,-Option.some.injEq];rfl);kernel_rfl)
  ·exact need_no 7 _
  exact⟨rfl,sc,c,a1,P1.up (by omega)⟩
 rw [if_neg (by simp [h3v])] at hw;rw [h3v] at hhs;have hhs':FCall1 Tryz.prog tkG 44 [ckV h cls res sc a1,.str nm] (.bool false):=hhs;clear h3v hhs;simp only [andT] at hw;refine gW ?_
 ((apply Xr);(focus rfl);(focus (first | rfl | (simp [*];done)));(focus simp [*,-Option.some.injEq];rfl);kernel_rfl)
 ·exact hid _
 clear hid;refine gW ?_
 ((apply Xr);(focus rfl);(focus (first | rfl | (simp [*];done)));(focus simp [*,-Option.some.injEq];rfl);kernel_rfl)
 ·exact need_ok 5 _
 refine gWr ?_
 (refine AWp.regDT (by kernel_rfl) (by kernel_rfl) rfl ?_;intro nxq hnq)
 repeat (first | apply Xu;(focus simp [*,-Option.some.injEq];rfl) | apply Xt;(focus simp [*];done);(focus simp [*,-Option.some.injEq];rfl) | apply Xv;(focus simp [*];done) | refine Xw ?_;try simp only [Xx,Xy,reduceIte,Nat.reduceEqDiff])
 ((apply AQq.callG);(focus (first | rfl | (simp [*];done)));(focus simp [*,-Option.some.injEq];rfl);kernel_rfl)
 ·exact hty _
 clear hty
 repeat (first | apply Xu;(focus simp [*,-Option.some.injEq];rfl) | apply Xt;(focus simp [*];done);(focus simp [*,-Option.some.injEq];rfl) | apply Xv;(focus simp [*];done) | refine Xw ?_;try simp only [Xx,Xy,reduceIte,Nat.reduceEqDiff])
 ((apply AQq.callG);(focus (first | rfl | (simp [*];done)));(focus simp [*,-Option.some.injEq];rfl);kernel_rfl)
 ·exact need_ok 8 _
 repeat (first | apply Xu;(focus simp [*,-Option.some.injEq];rfl) | apply Xt;(focus simp [*];done);(focus simp [*,-Option.some.injEq];rfl) | apply Xv;(focus simp [*];done) | refine Xw ?_;try simp only [Xx,Xy,reduceIte,Nat.reduceEqDiff])
 refine gW ?_
 ((apply Xr);(focus rfl);(focus (first | rfl | (simp [*];done)));(focus simp [*,-Option.some.injEq];rfl);kernel_rfl)
 ·exact FCall1.lend tkG_pu hhs' (by simp [puL,puV,ckV_pu]) rfl (hi1.ln _)
 clear hhs';refine gW ?_
 ((apply Xr);(focus rfl);(focus (first | rfl | (simp [*];done)));(focus simp [*,-Option.some.injEq];rfl);kernel_rfl)
 ·exact need_ok 7 _
 rcases es with _ | ⟨e,_ | ⟨e',l⟩⟩
 case cons.cons=>exact absurd h0 (by unfold shpE;simp)
 case nil =>
  have hw':(.ok (sc++[⟨nm,ty⟩]):Tk (List Fld))=w:=by rw [← hw];rfl
  rw [← hw'];clear hw hw' hEx;refine gWr ?_;refine Yb rfl rfl ?_;refine gW ?_;refine ASl.appQ cvF_len cvF_one ti_Flds ti_Fld (⟨nm,ty⟩:Fld) (hi1.own.keep (by omega) fun x hx _=>by rw [upd_miss _ _ _ _ (by omega)]) (by simp only [lim] at hsc;omega) ?_ (hxb:=by simp [upd,cvF]);intro H2 hN hfr;have hb2:H2 b=some (.cells [.lst (h.map cvD),.str cls,.str res,c,.int .i64 a1]):=by
   rw [hfr b (by omega) (fun b' hc e=>hi1.ne _ (by rw [e];exact hc)),upd_miss _ _ _ _ (by omega)];exact hb1
  refine gW ?_
  (refine⟨_,(by simp [*];rfl),?_⟩;(try simp only [packA]))
  refine⟨rfl,_,a1,P1.trans (hi1.newS (N:=_) (n:=sc.length+1) (upd_hit _ _ _) ?_ (by simp) ?_ ?_ ?_)⟩
  ·rw [upd_miss _ _ _ _ (by omega)];exact hN
  ·omega
  ·omega
  ·intro x hx hxb hc;rw [upd_miss _ _ _ _ hxb,hfr x (by omega) (fun b' hcb e=>hc _ (by rw [e];exact hcb)),upd_miss _ _ _ _ (by omega)]
 case cons.nil =>
  have hes:exSz e≤lim:=by rw [stSz_mk,exsSz,exsSz] at hlen;omega
  have hw':andT (asgT h (exT9 h cls sc e) ty) (.ok (sc++[⟨nm,ty⟩]))=w:=by rw [← hw];simp [ex0_one,andT]
  clear hw;have hw:=hw';clear hw';have has:=tk_assign h cls res sc a1 hc e ty (hEx a1 e (by omega));rw [Xz e] at has;cases hx:asgT h (exT9 h cls sc e) ty with
  | error x =>
    rw [hx] at has hw;have has':FRes Tryz.prog tkG 93 [ckV h cls res sc a1,.agg [.int .i64 e.kind,.int .i64 e.n,.str e.of,.str e.name,.lst (e.kids.map cvE)],.str ty] (.pan (fltV x)):=has;simp only [andT] at hw;rw [← hw];clear has hx hEx hw;refine gWrf (Xz e) ?_
    (refine AWp.regDT (by kernel_rfl) (by kernel_rfl) rfl ?_;intro nxq hnq)
    repeat (first | apply Xu;(focus simp [Xz e, *,-Option.some.injEq];rfl) | apply Xt;(focus simp [Xz e, *];done);(focus simp [Xz e, *,-Option.some.injEq];rfl) | apply Xv;(focus simp [Xz e, *];done) | refine Xw ?_;try simp only [Xx,Xy,reduceIte,Nat.reduceEqDiff])
    ((apply AQq.pan);(focus (first | rfl | (simp [Xz e, *];done)));(focus simp [Xz e, *,-Option.some.injEq];rfl);kernel_rfl)
    ·exact FRes.lend tkG_pu has' rfl (by simp [puL,puV,puEs,ckV_pu]) (hi1.ln _)
    ·repeat (first | exact AQt.nil | (apply AQt.look;(focus simp [*,-Option.some.injEq];rfl)) | (apply AQt.lookG;(focus simp [*];done);(focus simp [*,-Option.some.injEq];rfl)) | (apply AQt.pass;(focus simp [*];done)) | refine AQt.dead (by kernel_rfl) ?_)
    intro e2;exact⟨rfl,sc,c,a1,P1.up (by omega)⟩
  | ok u =>
    rw [hx] at has hw;have has':FRes Tryz.prog tkG 93 [ckV h cls res sc a1,.agg [.int .i64 e.kind,.int .i64 e.n,.str e.of,.str e.name,.lst (e.kids.map cvE)],.str ty] (.ret (.tup [])):=has;simp only [andT] at hw;rw [← hw];clear has hx hEx hw;refine gWrf (Xz e) ?_
    (refine AWp.regDT (by kernel_rfl) (by kernel_rfl) rfl ?_;intro nxq hnq)
    repeat (first | apply Xu;(focus simp [Xz e, *,-Option.some.injEq];rfl) | apply Xt;(focus simp [Xz e, *];done);(focus simp [Xz e, *,-Option.some.injEq];rfl) | apply Xv;(focus simp [Xz e, *];done) | refine Xw ?_;try simp only [Xx,Xy,reduceIte,Nat.reduceEqDiff])
    ((apply AQq.callG);(focus (first | rfl | (simp [Xz e, *];done)));(focus simp [Xz e, *,-Option.some.injEq];rfl);kernel_rfl)
    ·exact FRes.lend tkG_pu has' rfl (by simp [puL,puV,puEs,ckV_pu]) (hi1.ln _)
    repeat (first | apply Xu;(focus simp [*,-Option.some.injEq];rfl) | apply Xt;(focus simp [*];done);(focus simp [*,-Option.some.injEq];rfl) | apply Xv;(focus simp [*];done) | refine Xw ?_;try simp only [Xx,Xy,reduceIte,Nat.reduceEqDiff])
    refine gWr ?_;refine Yb rfl rfl ?_;refine gW ?_;refine ASl.appQ cvF_len cvF_one ti_Flds ti_Fld (⟨nm,ty⟩:Fld) (hi1.own.keep (by omega) fun x hx _=>by rw [upd_miss _ _ _ _ (by omega)]) (by simp only [lim] at hsc;omega) ?_ (hxb:=by simp [upd,cvF]);intro H2 hN hfr;have hb2:H2 b=some (.cells [.lst (h.map cvD),.str cls,.str res,c,.int .i64 a1]):=by
     rw [hfr b (by omega) (fun b' hc e=>hi1.ne _ (by rw [e];exact hc)),upd_miss _ _ _ _ (by omega)];exact hb1
    refine gW ?_
    (refine⟨_,(by simp [*];rfl),?_⟩;(try simp only [packA]))
    refine⟨rfl,_,a1,P1.trans (hi1.newS (N:=_) (n:=sc.length+1) (upd_hit _ _ _) ?_ (by simp) ?_ ?_ ?_)⟩
    ·rw [upd_miss _ _ _ _ (by omega)];exact hN
    ·omega
    ·omega
    ·intro x hx hxb hc;rw [upd_miss _ _ _ _ hxb,hfr x (by omega) (fun b' hcb e=>hc _ (by rw [e];exact hcb)),upd_miss _ _ _ _ (by omega)]
end
end
section
open Lx Ax Go.RowKit
attribute [local simp] stepS Ax.stepT Dl.on qstep astep estep rd putE over argE ofV ofS loadA pickCells isAggD faddA fieldA partA iaddA idxA bnd binA intA strA unA convA bltA mapOf findK keyD scalD storeA appA srcA srcD upd drp Dl.hp Dl.nx CV.cs CV.one buildA placesA fillA zrep tasA ifaceD eqA eqFs eqIs range2 copyA nbeq nble nblt decEq beqI bneI beqS bneS isED Int.ofNat_inj List.getElem?_map List.getElem?_eq_getElem Option.map_some ti_int ti_bool ti_str ti_i64 ti_Strs ti_Flds ti_Fld ti_Cds ti_Cd ti_Sgs ti_Sg ti_Hi ti_Exs ti_Ex ti_Sts ti_St ti_Chk ti_Flt ti_Errno gd gdB callA resA op1
attribute [local simp] nu1 nu2 nu3 nu4 nu5 nu6 nu7 nu8 nu9 nu10 nu11 nu12 nu13 upd_upd
theorem and_ext {β:Type}{a:Tk β}{b:Tk (List Fld)}{sc':List Fld}(h:andT a b=.ok sc'):b=.ok sc':=by
 cases a with
 | error e=>cases h
 | ok x=>exact h
theorem sim_ext {h:List Cd}{cls res:Bytes}{sc sc':List Fld}{k:Int}{nm ty:Bytes}{es:List Ex}(hs:simT h cls res sc k nm ty es=.ok sc'):∃ ext,sc'=sc++ext∧ext.length≤1:=by
 have z:(.ok sc:Tk (List Fld))=.ok sc'→∃ ext,sc'=sc++ext∧ext.length≤1:=fun e=>by cases e;exact⟨[],by simp,by simp⟩
 unfold simT at hs;split at hs
 ·have:=and_ext (and_ext hs);cases this;exact⟨[⟨nm,ty⟩],rfl,by simp⟩
 split at hs
 ·split at hs
  ·cases hs
  ·exact z (and_ext hs)
 split at hs
 ·split at hs
  ·cases hs
  ·split at hs
   ·cases hs
   ·exact z (and_ext hs)
 split at hs
 ·split at hs
  ·cases hs
  ·split at hs
   ·exact z hs
   ·cases hs
 split at hs
 ·split at hs
  ·exact z (and_ext hs)
  ·cases hs
 split at hs
 ·exact z (and_ext hs)
 ·cases hs
theorem stT_ext {h:List Cd}{cls res:Bytes}{sc sc':List Fld}:∀ {s:St},stT h cls res sc s=.ok sc'→∃ ext,sc'=sc++ext∧ext.length≤1
 | .mk k nm ty es b el,hs=>by
   have z:(.ok sc:Tk (List Fld))=.ok sc'→∃ ext,sc'=sc++ext∧ext.length≤1:=fun e=>by cases e;exact⟨[],by simp,by simp⟩
   rw [stT] at hs;split at hs
   ·cases hs
   split at hs
   ·split at hs
    ·cases hs
    ·split at hs
     ·exact z (and_ext (and_ext hs))
     ·cases hs
   split at hs
   ·exact z (and_ext (and_ext (and_ext hs)))
   ·exact sim_ext hs
/-- A beginning of an own list, sliced. -/
theorem own_cutA {H:Heap}{nx:Nat}{c:CV}{l m:List Fld}(ho:OwnR cvF 2 H nx c (l++m)):∃ c',(∀ H',sliA Tryz.prog H' 35 c none (some (.int .i64 (l.length:Int)))=some c')∧OwnR cvF 2 H nx c' l∧∀ x n,c'=.sl x 0 n 2→∃ n',c=.sl x 0 n' 2:=by
 rcases ho with⟨h1,rfl⟩ | ⟨b,rest,rfl,hb,hlt⟩
 ·have hl:l=[]:=(List.append_eq_nil_iff.mp h1).1;subst hl;refine⟨.nils,fun H'=>?_,OwnR.nil,fun x n hx=>by cases hx⟩;unfold sliA;simp only [ti_Flds,ti_Fld];rfl
 ·refine⟨.sl b 0 l.length 2,fun H'=>?_,(show OwnR cvF 2 H nx (.sl b 0 (l++m).length 2) (l++m) from .inr ⟨b,rest,rfl,hb,hlt⟩).cut cvF_len,fun x n hx=>by cases hx;exact⟨_,rfl⟩⟩;unfold sliA;simp only [ti_Flds,ti_Fld,bnd,natOf_cast];rw [Nat.ble_eq_true_of_le (Nat.zero_le _),Nat.ble_eq_true_of_le (by simp)];rfl
theorem CkP.cutS {h:List Cd}{cls res:Bytes}{b:Nat}{H H1:Heap}{nx nx1:Nat}{c c1 c':CV}{s1 sc:List Fld}{a1:Int}(p:CkP h cls res b H nx c s1 H1 nx1 c1 a1)(ho:OwnR cvF 2 H1 nx1 c' sc)(hc:∀ x n,c'=.sl x 0 n 2→∃ n',c1=.sl x 0 n' 2) :
  CkP h cls res b H nx c sc (upd H1 b (.cells [.lst (h.map cvD),.str cls,.str res,c',.int .i64 a1])) nx1 c' a1 where
 ck:=⟨upd_hit _ _ _,ho.keep (Nat.le_refl _) fun x _ hx=>upd_miss _ _ _ _ (fun e=>by
   obtain⟨n',hn⟩:=hc x _ hx;exact p.ck.ne n' (by rw [← e];exact hn)),p.ck.lt,fun m hm=>by
   obtain⟨n',hn⟩:=hc b m hm;exact p.ck.ne n' hn⟩
 le:=p.le
 from' x m hx:=by
  obtain⟨n',hn⟩:=hc x m hx;exact p.from' x n' hn
 fr x hx hb hcx:=by rw [upd_miss _ _ _ _ hb];exact p.fr x hx hb hcx
theorem CkI.fresh {h:List Cd}{cls res:Bytes}{b:Nat}{H:Heap}{nx:Nat}{c:CV}{sc:List Fld}{a:Int}(i:CkI h cls res b H nx c sc a){x:Nat}(hx:nx≤x):∀ m,c≠.sl x 0 m 2:=by
 rintro m rfl;rcases i.own with⟨_,h⟩ | ⟨b',rest,h1,_,h3⟩
 ·cases h
 ·cases h1;omega
theorem len_sts {H:Heap}(l:List St):lenA Tryz.prog H 39 (.lst (l.map cvS))=some (.int .i64 l.length):=by
 unfold lenA;simp [ti_Sts]
section
variable (h:List Cd) (cls res:Bytes) (b:Nat)
set_option maxRecDepth 10000 in
set_option maxHeartbeats 16000000 in
theorem tk_block (l:List St)(hS:∀ s∈l,StOk h cls res b s):BlOk h cls res b l:=by
 intro H nx c sc a hlen hi;refine ACall.of_body Tryz.func47 rfl ?_;have hb:=hi.blk;have qb:=far hi.lt;have hll:l.length≤lim:=by have:=stsSz_len l;omega
 obtain⟨W,hW⟩:∃ W,blT h cls res sc l=W:=⟨_,rfl⟩;rw [hW];have hlc:∀ H',lenA Tryz.prog H' 35 c=some (.int .i64 sc.length):=hi.own.len ti_Flds;have hls:∀ H',lenA Tryz.prog H' 39 (.lst (l.map cvS))=some (.int .i64 l.length):=fun H'=>len_sts l
 refine gW ?_;clear hlc hls hb;refine AWp.countO l.length [6,14] 15 (fun i e H1 nx1=>e 14=.int .i64 i∧∃ ext c1 a1,CkP h cls res b H nx c (sc++ext) H1 nx1 c1 a1∧(sc++ext).length+stsSz (l.drop i)≤lim∧blT h cls res (sc++ext) (l.drop i)=W) ⟨(by first | (simp (disch:=omega) [putE,over,ofV,ofS, *];done) | (simp (disch:=omega) [putE,over,ofV,ofS, *];rfl)),[],c,a,by rw [List.append_nil];exact hi.refl,by simpa using hlen,by simpa using hW⟩ ?_;clear hW hlen qb;rintro i v H1 nx1 hil hn1 ⟨h14,ext,c1,a1,P1,hle,hf⟩;have hi1:=P1.ck;have hb1:=hi1.blk;have qb:=far hi1.lt;refine gWr ?_
 (((apply AWp.cond');(focus (simp [*,-Ax.CV.bool.injEq];rfl))) <;> (intro hb) <;> (try simp only [decide_eq_true_eq,decide_eq_false_iff_not,Bool.not_eq_true',Bool.not_eq_false',Bool.not_eq_true,Bool.not_eq_false] at hb))
 ·have hlt:i<l.length:=hb;have hwi:=lim_wrap hlt hll;clear hb;rw [List.drop_eq_getElem_cons hlt,stsSz] at hle;rw [List.drop_eq_getElem_cons hlt,blT] at hf;have hst:=hS l[i] (List.getElem_mem hlt);generalize hse:l[i]=s at *;refine gWf (cvS_eq s) ?_
  ((apply AOpl.callG);(focus rfl);(focus (first | rfl | (simp [*];done)));(focus simp [*,-Option.some.injEq];rfl);kernel_rfl)
  have P2:=hi1.same (H1:=upd H1 nx1 (.cells [.int .i64 s.p0,.str s.p1,.str s.p2,.lst (s.p3.map cvE),.lst (s.p4.map cvS),.lst (s.p5.map cvS)])) (by rw [upd_miss _ _ _ _ (by omega)];exact hb1) (Nat.le_succ nx1) (fun x hx _=>upd_miss _ _ _ _ (by omega));have hst2:=hst _ _ _ _ _ (by omega) P2.ck;rw [cvS_eq s] at hst2;refine hst2.mono ?_;rintro r H2 nx2 hq;cases hs:stT h cls res (sc++ext) s with
  | error x =>
    rw [hs] at hq hf;obtain⟨rfl,sc',c',a',P3⟩:=hq;simp only at hf;rw [← hf];exact⟨rfl,sc',c',a',(P1.trans P2).trans P3⟩
  | ok sc2 =>
    rw [hs] at hq hf;obtain⟨rfl,c',a',P3⟩:=hq;obtain⟨ext2,rfl,hel⟩:=stT_ext hs;have hsp:=stSz_pos s;simp only at hf ⊢;have Pn:=(P1.trans P2).trans P3;clear hs hst hst2;refine gW ?_;refine⟨by ((repeat (first | exact Keeps.base _ _ _ _ | (with_reducible exact Keeps.refl _ _ _) | (refine Keeps.put rfl ?_) | (refine Keeps.over' rfl rfl ?_)))),hlt,(by first | (simp (disch:=omega) [putE,over,ofV,ofS, *];done) | (simp (disch:=omega) [putE,over,ofV,ofS, *];rfl)),ext++ext2,c',a',by rw [← List.append_assoc];exact Pn,?_,by rw [← List.append_assoc];exact hf⟩;simp only [List.length_append] at hle ⊢;omega
 ·have hi':l.length≤i:=by omega
  rw [List.drop_eq_nil_of_le hi',blT] at hf;rw [← hf];clear hf hb hS;obtain⟨c',hcA,hoc,hcn⟩:=own_cutA hi1.own;have hcA':∀ H',sliA Tryz.prog H' 35 c1 none (some (.int .i64 (sc.length:Int)))=some c':=hcA;clear hcA;have hform:c'=.nils∨∃ b' n,c'=.sl b' 0 n 2:=by
   rcases hoc with⟨_,h⟩ | ⟨b',rest,h,_⟩
   ·exact .inl h
   ·exact .inr ⟨b',_,h⟩
  have P2:=P1.cutS hoc hcn;clear hoc hcn P1;rcases hform with rfl | ⟨b',n,rfl⟩
  ·refine gW ?_
   (refine⟨_,(by simp [*];rfl),?_⟩;(try simp only [packA]))
   exact⟨rfl,_,a1,P2⟩
  ·refine gW ?_
   (refine⟨_,(by simp [*];rfl),?_⟩;(try simp only [packA]))
   exact⟨rfl,_,a1,P2⟩
end
end
end Go.Proofs.YtoookjadbhdfhaaGreatDoor
