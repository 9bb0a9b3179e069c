/-
  Simple statements of the checker: assignment, store, return; walked.
-/
import Derived.Test.YtoookjadbhdfhaaDoorTJpBk
set_option linter.unusedSectionVars false
set_option linter.unusedSimpArgs false
set_option linter.unnecessarySimpa false
set_option linter.unusedVariables false
set_option linter.unusedSimpArgs false
set_option linter.unusedVariables false
namespace Go.Proofs.YtoookjadbhdfhaaDoor
open Lx Ax Go.RowKit
attribute [local simp] stepS Ax.stepT Dl.on qstep astep estep rd putE over argE ofV ofS loadA pickCells isAggD faddA fieldA partA iaddA idxA sliA bnd binA intA strA unA convA bltA lenA mapOf findK keyD scalD storeA appA srcA srcD upd drp Dl.hp Dl.nx CV.cs CV.one buildA placesA fillA zrep tasA ifaceD eqA eqFs eqIs range2 copyA nbeq nble nblt decEq beqI bneI beqS bneS isED Int.ofNat_inj List.getElem?_map List.getElem?_eq_getElem Option.map_some ti_int ti_bool ti_str ti_i64 ti_Strs ti_Flds ti_Fld ti_Cds ti_Cd ti_Sgs ti_Sg ti_Hi ti_Exs ti_Ex ti_Sts ti_St ti_Chk ti_Flt ti_Errno gd gdB callA resA op1
attribute [local simp] nu1 nu2 nu3 nu4 nu5 nu6 nu7 nu8 nu9 nu10 nu11 nu12 nu13 upd_upd
section
variable (h:List Cd) (cls res:Bytes) (b:Nat)
set_option maxRecDepth 10000 in
set_option maxHeartbeats 16000000 in
theorem tk_st2 (hc:HC h)(nm ty:Bytes)(es:List Ex)(bd el:List St)(h0:shpE 2 es.length bd.length el.length=0):StOk h cls res b (.mk 2 nm ty es bd el):=by
 intro H nx c sc a hlen hi;refine ACall.of_body Tryd.func45 rfl ?_;have hb:=hi.blk;have qb:=far hi.lt;have hsh:=tk_shape 2 nm ty es bd el;have hsc:sc.length≤lim:=by omega
 have hEx:=fun (a:Int) (e:Ex) (he:exSz e≤lim)=>tk_expr h cls res sc a hc hsc lim e he he
 obtain⟨w,hw⟩:∃ w,stT h cls res sc (.mk 2 nm ty es bd el)=w:=⟨_,rfl⟩;rw [hw];rw [stT] at hw;rw [if_neg (by rw [h0];simp)] at hw;rw [shpT_ok h0] at hsh;have hsh':FRes Tryd.prog tkG 60 [.agg [.int .i64 2,.str nm,.str ty,.lst (es.map cvE),.lst (bd.map cvS),.lst (el.map cvS)]] (.ret (.tup [])):=by rw [Xz] at hsh;exact hsh
 clear hsh
 repeat (first | (first | (apply Xf;rfl) | apply Xj);focus simp [Xz, *,-Option.some.injEq];rfl | (first | (apply Xa;rfl) | apply Xb);(focus simp [Xz, *];done);focus simp [Xz, *,-Option.some.injEq];rfl | (first | (apply Xg;rfl) | apply Xk);(focus simp [Xz, *];done) | (first | refine Xl ?_ | refine Xi ?_ | refine Xh ?_ | refine Xo ?_ | refine Xq ?_);try simp only [Xw,Xx,reduceIte,Nat.reduceEqDiff] | refine Xn ?_ | refine Xp rfl ?_ | refine Xc ?_ | apply Xd;focus simp [Xz, *];done | apply Xe;focus simp [Xz, *];done | refine Ya rfl rfl ?_)
 ((apply Xr);(focus rfl);(focus (first | rfl | (simp [*];done)));(focus simp [*,-Option.some.injEq];rfl);kernel_rfl)
 ·exact hsh' _
 clear hsh';generalize IntKind.i64.wrap (a+1)=a1;generalize hH:upd _ b _=H1;have hb1:H1 b=some (.cells [.lst (h.map cvD),.str cls,.str res,c,.int .i64 a1]):=by rw [← hH,upd_hit]
 have h3:H1 nx=some (.cells [.int .i64 2,.str nm,.str ty,.lst (es.map cvE),.lst (bd.map cvS),.lst (el.map cvS)]):=by rw [← hH];simp [upd, *]
 have hf1:∀ x,x<nx→x≠b→H1 x=H x:=fun x hx hxb=>by rw [← hH,upd_miss _ _ _ _ hxb,upd_miss _ _ _ _ (by omega)]
 have P1:=hi.same hb1 (Nat.le_succ nx) hf1;have hi1:=P1.ck;clear hH hb hi qb hf1;have qb:=hi1.lt;obtain⟨e,rfl⟩:∃ e,es=[e]:=by
  match es,h0 with
  | [],h0=>exact absurd h0 (by unfold shpE;simp)
  | [e],_=>exact⟨e,rfl⟩
  | _::_::_,h0=>exact absurd h0 (by unfold shpE;simp)
 have hes:exSz e≤lim:=by rw [stSz_mk,exsSz,exsSz] at hlen;omega
 simp (decide:=true) only [if_true,if_false,simT,ex0_one] at hw;have hva:=tk_variable h cls res sc a1 hsc nm;cases hv:varF sc nm with
 | none =>
   rw [hv] at hw hva;have hva':FCall1 Tryd.prog tkG 43 [ckV h cls res sc a1,.str nm] (.tup [.str [],.bool false]):=hva;simp only at hw;rw [← hw];clear hw hv hva hEx
   repeat (first | (first | (apply Xf;rfl) | apply Xj);focus simp [*,-Option.some.injEq];rfl | (first | (apply Xa;rfl) | apply Xb);(focus simp [*];done);focus simp [*,-Option.some.injEq];rfl | (first | (apply Xg;rfl) | apply Xk);(focus simp [*];done) | (first | refine Xl ?_ | refine Xi ?_ | refine Xh ?_ | refine Xo ?_ | refine Xq ?_);try simp only [Xw,Xx,reduceIte,Nat.reduceEqDiff] | refine Xn ?_ | refine Xp rfl ?_ | refine Xc ?_ | apply Xd;focus simp [*];done | apply Xe;focus simp [*];done | refine Ya rfl rfl ?_)
   ((apply Xr);(focus rfl);(focus (first | rfl | (simp [*];done)));(focus simp [*,-Option.some.injEq];rfl);kernel_rfl)
   ·exact FCall1.lend tkG_pu hva' (by simp [puL,puV,ckV_pu]) rfl (hi1.ln _)
   repeat (first | (first | (apply Xf;rfl) | apply Xj);focus simp [*,-Option.some.injEq];rfl | (first | (apply Xa;rfl) | apply Xb);(focus simp [*];done);focus simp [*,-Option.some.injEq];rfl | (first | (apply Xg;rfl) | apply Xk);(focus simp [*];done) | (first | refine Xl ?_ | refine Xi ?_ | refine Xh ?_ | refine Xo ?_ | refine Xq ?_);try simp only [Xw,Xx,reduceIte,Nat.reduceEqDiff] | refine Xn ?_ | refine Xp rfl ?_ | refine Xc ?_ | apply Xd;focus simp [*];done | apply Xe;focus simp [*];done | refine Ya rfl rfl ?_)
   ((apply AOpl.callP);(focus rfl);(focus (first | rfl | (simp [*];done)));(focus simp [*,-Option.some.injEq];rfl);kernel_rfl)
   ·exact need_no 6 _
   exact⟨rfl,sc,c,a1,P1⟩
 | some t =>
   rw [hv] at hw hva;have hva':FCall1 Tryd.prog tkG 43 [ckV h cls res sc a1,.str nm] (.tup [.str t,.bool true]):=hva;simp only at hw;clear hv hva;have has:=tk_assign h cls res sc a1 hc e t (hEx a1 e (by omega));rw [Xy e] at has;cases hx:asgT h (exT9 h cls sc e) t with
   | error x =>
     rw [hx] at has hw;have has':FRes Tryd.prog tkG 61 [ckV h cls res sc a1,.agg [.int .i64 e.kind,.int .i64 e.n,.str e.of,.str e.name,.lst (e.kids.map cvE)],.str t] (.pan (fltV x)):=has;simp only [andT] at hw;rw [← hw];clear has hx hEx hw
     repeat (first | (first | (apply Xf;rfl) | apply Xj);focus simp [*,-Option.some.injEq];rfl | (first | (apply Xa;rfl) | apply Xb);(focus simp [*];done);focus simp [*,-Option.some.injEq];rfl | (first | (apply Xg;rfl) | apply Xk);(focus simp [*];done) | (first | refine Xl ?_ | refine Xi ?_ | refine Xh ?_ | refine Xo ?_ | refine Xq ?_);try simp only [Xw,Xx,reduceIte,Nat.reduceEqDiff] | refine Xn ?_ | refine Xp rfl ?_ | refine Xc ?_ | apply Xd;focus simp [*];done | apply Xe;focus simp [*];done | refine Ya rfl rfl ?_)
     ((apply Xr);(focus rfl);(focus (first | rfl | (simp [*];done)));(focus simp [*,-Option.some.injEq];rfl);kernel_rfl)
     ·exact FCall1.lend tkG_pu hva' (by simp [puL,puV,ckV_pu]) rfl (hi1.ln _)
     repeat (first | (first | (apply Xf;rfl) | apply Xj);focus simp [*,-Option.some.injEq];rfl | (first | (apply Xa;rfl) | apply Xb);(focus simp [*];done);focus simp [*,-Option.some.injEq];rfl | (first | (apply Xg;rfl) | apply Xk);(focus simp [*];done) | (first | refine Xl ?_ | refine Xi ?_ | refine Xh ?_ | refine Xo ?_ | refine Xq ?_);try simp only [Xw,Xx,reduceIte,Nat.reduceEqDiff] | refine Xn ?_ | refine Xp rfl ?_ | refine Xc ?_ | apply Xd;focus simp [*];done | apply Xe;focus simp [*];done | refine Ya rfl rfl ?_)
     ((apply Xr);(focus rfl);(focus (first | rfl | (simp [*];done)));(focus simp [*,-Option.some.injEq];rfl);kernel_rfl)
     ·exact need_ok 6 _
     repeat (first | (first | (apply Xf;rfl) | apply Xj);focus simp [Xy e, *,-Option.some.injEq];rfl | (first | (apply Xa;rfl) | apply Xb);(focus simp [Xy e, *];done);focus simp [Xy e, *,-Option.some.injEq];rfl | (first | (apply Xg;rfl) | apply Xk);(focus simp [Xy e, *];done) | (first | refine Xl ?_ | refine Xi ?_ | refine Xh ?_ | refine Xo ?_ | refine Xq ?_);try simp only [Xw,Xx,reduceIte,Nat.reduceEqDiff] | refine Xn ?_ | refine Xp rfl ?_ | refine Xc ?_ | apply Xd;focus simp [Xy e, *];done | apply Xe;focus simp [Xy e, *];done | refine Ya rfl rfl ?_)
     ((apply AOpl.callP);(focus rfl);(focus (first | rfl | (simp [*];done)));(focus simp [*,-Option.some.injEq];rfl);kernel_rfl)
     ·exact FRes.lend tkG_pu has' rfl (by simp [puL,puV,puEs,ckV_pu]) (hi1.ln _)
     exact⟨rfl,sc,c,a1,P1⟩
   | ok u =>
     rw [hx] at has hw;have has':FRes Tryd.prog tkG 61 [ckV h cls res sc a1,.agg [.int .i64 e.kind,.int .i64 e.n,.str e.of,.str e.name,.lst (e.kids.map cvE)],.str t] (.ret (.tup [])):=has;simp only [andT] at hw;rw [← hw];clear has hx hEx hw
     repeat (first | (first | (apply Xf;rfl) | apply Xj);focus simp [*,-Option.some.injEq];rfl | (first | (apply Xa;rfl) | apply Xb);(focus simp [*];done);focus simp [*,-Option.some.injEq];rfl | (first | (apply Xg;rfl) | apply Xk);(focus simp [*];done) | (first | refine Xl ?_ | refine Xi ?_ | refine Xh ?_ | refine Xo ?_ | refine Xq ?_);try simp only [Xw,Xx,reduceIte,Nat.reduceEqDiff] | refine Xn ?_ | refine Xp rfl ?_ | refine Xc ?_ | apply Xd;focus simp [*];done | apply Xe;focus simp [*];done | refine Ya rfl rfl ?_)
     ((apply Xr);(focus rfl);(focus (first | rfl | (simp [*];done)));(focus simp [*,-Option.some.injEq];rfl);kernel_rfl)
     ·exact FCall1.lend tkG_pu hva' (by simp [puL,puV,ckV_pu]) rfl (hi1.ln _)
     repeat (first | (first | (apply Xf;rfl) | apply Xj);focus simp [*,-Option.some.injEq];rfl | (first | (apply Xa;rfl) | apply Xb);(focus simp [*];done);focus simp [*,-Option.some.injEq];rfl | (first | (apply Xg;rfl) | apply Xk);(focus simp [*];done) | (first | refine Xl ?_ | refine Xi ?_ | refine Xh ?_ | refine Xo ?_ | refine Xq ?_);try simp only [Xw,Xx,reduceIte,Nat.reduceEqDiff] | refine Xn ?_ | refine Xp rfl ?_ | refine Xc ?_ | apply Xd;focus simp [*];done | apply Xe;focus simp [*];done | refine Ya rfl rfl ?_)
     ((apply Xr);(focus rfl);(focus (first | rfl | (simp [*];done)));(focus simp [*,-Option.some.injEq];rfl);kernel_rfl)
     ·exact need_ok 6 _
     repeat (first | (first | (apply Xf;rfl) | apply Xj);focus simp [Xy e, *,-Option.some.injEq];rfl | (first | (apply Xa;rfl) | apply Xb);(focus simp [Xy e, *];done);focus simp [Xy e, *,-Option.some.injEq];rfl | (first | (apply Xg;rfl) | apply Xk);(focus simp [Xy e, *];done) | (first | refine Xl ?_ | refine Xi ?_ | refine Xh ?_ | refine Xo ?_ | refine Xq ?_);try simp only [Xw,Xx,reduceIte,Nat.reduceEqDiff] | refine Xn ?_ | refine Xp rfl ?_ | refine Xc ?_ | apply Xd;focus simp [Xy e, *];done | apply Xe;focus simp [Xy e, *];done | refine Ya rfl rfl ?_)
     ((apply Xr);(focus rfl);(focus (first | rfl | (simp [*];done)));(focus simp [*,-Option.some.injEq];rfl);kernel_rfl)
     ·exact FRes.lend tkG_pu has' rfl (by simp [puL,puV,puEs,ckV_pu]) (hi1.ln _)
     repeat (first | (first | (apply Xf;rfl) | apply Xj);focus simp [*,-Option.some.injEq];rfl | (first | (apply Xa;rfl) | apply Xb);(focus simp [*];done);focus simp [*,-Option.some.injEq];rfl | (first | (apply Xg;rfl) | apply Xk);(focus simp [*];done) | (first | refine Xl ?_ | refine Xi ?_ | refine Xh ?_ | refine Xo ?_ | refine Xq ?_);try simp only [Xw,Xx,reduceIte,Nat.reduceEqDiff] | refine Xn ?_ | refine Xp rfl ?_ | refine Xc ?_ | apply Xd;focus simp [*];done | apply Xe;focus simp [*];done | refine Ya rfl rfl ?_)
     (refine⟨_,(by simp [*];rfl),?_⟩;(try simp only [packA]))
     exact⟨rfl,c,a1,P1⟩
theorem CkP.up {h:List Cd}{cls res:Bytes}{b:Nat}{H H1:Heap}{nx nx1 nx2:Nat}{c c1:CV}{s1:List Fld}{a1:Int}(p:CkP h cls res b H nx c s1 H1 nx1 c1 a1)(hn:nx1≤nx2):CkP h cls res b H nx c s1 H1 nx2 c1 a1 where
 ck:=⟨p.ck.blk,p.ck.own.keep hn fun _ _ _=>rfl,Nat.lt_of_lt_of_le p.ck.lt hn,p.ck.ne⟩
 le:=Nat.le_trans p.le hn
 from':=p.from'
 fr:=p.fr
set_option maxRecDepth 10000 in
set_option maxHeartbeats 16000000 in
theorem tk_st3 (hc:HC h)(nm ty:Bytes)(es:List Ex)(bd el:List St)(h0:shpE 3 es.length bd.length el.length=0):StOk h cls res b (.mk 3 nm ty es bd el):=by
 intro H nx c sc a hlen hi;refine ACall.of_body Tryd.func45 rfl ?_;have hb:=hi.blk;have qb:=far hi.lt;have hsh:=tk_shape 3 nm ty es bd el;have hsc:sc.length≤lim:=by omega
 have hEx:=fun (a:Int) (e:Ex) (he:exSz e≤lim)=>tk_expr h cls res sc a hc hsc lim e he he
 obtain⟨w,hw⟩:∃ w,stT h cls res sc (.mk 3 nm ty es bd el)=w:=⟨_,rfl⟩;rw [hw];rw [stT] at hw;rw [if_neg (by rw [h0];simp)] at hw;rw [shpT_ok h0] at hsh;have hsh':FRes Tryd.prog tkG 60 [.agg [.int .i64 3,.str nm,.str ty,.lst (es.map cvE),.lst (bd.map cvS),.lst (el.map cvS)]] (.ret (.tup [])):=by rw [Xz] at hsh;exact hsh
 clear hsh
 repeat (first | (first | (apply Xf;rfl) | apply Xj);focus simp [Xz, *,-Option.some.injEq];rfl | (first | (apply Xa;rfl) | apply Xb);(focus simp [Xz, *];done);focus simp [Xz, *,-Option.some.injEq];rfl | (first | (apply Xg;rfl) | apply Xk);(focus simp [Xz, *];done) | (first | refine Xl ?_ | refine Xi ?_ | refine Xh ?_ | refine Xo ?_ | refine Xq ?_);try simp only [Xw,Xx,reduceIte,Nat.reduceEqDiff] | refine Xn ?_ | refine Xp rfl ?_ | refine Xc ?_ | apply Xd;focus simp [Xz, *];done | apply Xe;focus simp [Xz, *];done | refine Ya rfl rfl ?_)
 ((apply Xr);(focus rfl);(focus (first | rfl | (simp [*];done)));(focus simp [*,-Option.some.injEq];rfl);kernel_rfl)
 ·exact hsh' _
 clear hsh';generalize IntKind.i64.wrap (a+1)=a1;generalize hH:upd _ b _=H1;have hb1:H1 b=some (.cells [.lst (h.map cvD),.str cls,.str res,c,.int .i64 a1]):=by rw [← hH,upd_hit]
 have h3:H1 nx=some (.cells [.int .i64 3,.str nm,.str ty,.lst (es.map cvE),.lst (bd.map cvS),.lst (el.map cvS)]):=by rw [← hH];simp [upd, *]
 have hf1:∀ x,x<nx→x≠b→H1 x=H x:=fun x hx hxb=>by rw [← hH,upd_miss _ _ _ _ hxb,upd_miss _ _ _ _ (by omega)]
 have P1:=hi.same hb1 (Nat.le_succ nx) hf1;have hi1:=P1.ck;clear hH hb hi qb hf1;have qb:=hi1.lt;obtain⟨e,e',rfl⟩:∃ e e',es=[e,e']:=by
  match es,h0 with
  | [],h0=>exact absurd h0 (by unfold shpE;simp)
  | [_],h0=>exact absurd h0 (by unfold shpE;simp)
  | [e,e'],_=>exact⟨e,e',rfl⟩
  | _::_::_::_,h0=>exact absurd h0 (by unfold shpE;simp)
 have hes:exSz e+exSz e'≤lim:=by rw [stSz_mk,exsSz,exsSz,exsSz] at hlen;omega
 simp (decide:=true) only [if_true,if_false,simT] at hw;have hw2:(match fldT1 h (exT9 h cls sc e) nm with
   | .error x=>.error x
   | .ok t=>andT (asgT h (exT9 h cls sc e') t) (.ok sc))=w:=by
  rw [← hw];have h1:ex0T h cls sc [e,e'] 0=exT9 h cls sc e:=rfl;have h2:ex0T h cls sc [e,e'] 1=exT9 h cls sc e':=rfl;rw [h1,h2];unfold fldT1;cases exT9 h cls sc e <;> rfl
 clear hw;have hw:=hw2;clear hw2;have hf:=tk_fld h cls res sc a1 hc e nm (hEx a1 e (by omega));rw [Xy e] at hf;cases hv:fldT1 h (exT9 h cls sc e) nm with
 | error x =>
   rw [hv] at hw hf;have hf':FRes Tryd.prog tkG 50 [ckV h cls res sc a1,.agg [.int .i64 e.kind,.int .i64 e.n,.str e.of,.str e.name,.lst (e.kids.map cvE)],.str nm] (.pan (fltV x)):=hf;simp only at hw;rw [← hw];clear hw hv hf hEx
   repeat (first | (first | (apply Xf;rfl) | apply Xj);focus simp [*,-Option.some.injEq];rfl | (first | (apply Xa;rfl) | apply Xb);(focus simp [*];done);focus simp [*,-Option.some.injEq];rfl | (first | (apply Xg;rfl) | apply Xk);(focus simp [*];done) | (first | refine Xl ?_ | refine Xi ?_ | refine Xh ?_ | refine Xo ?_ | refine Xq ?_);try simp only [Xw,Xx,reduceIte,Nat.reduceEqDiff] | refine Xn ?_ | refine Xp rfl ?_ | refine Xc ?_ | apply Xd;focus simp [*];done | apply Xe;focus simp [*];done)
   (refine AWp.regDT (by kernel_rfl) (by kernel_rfl) rfl ?_;intro nxq hnq)
   repeat (first | apply Xt;(focus simp [Xy e, *,-Option.some.injEq];rfl) | apply Xs;(focus simp [Xy e, *];done);(focus simp [Xy e, *,-Option.some.injEq];rfl) | apply Xu;(focus simp [Xy e, *];done) | refine Xv ?_;try simp only [Xw,Xx,reduceIte,Nat.reduceEqDiff])
   ((apply AQq.pan);(focus (first | rfl | (simp [Xy e, *];done)));(focus simp [Xy e, *,-Option.some.injEq];rfl);kernel_rfl)
   ·exact FRes.lend tkG_pu hf' rfl (by simp [puL,puV,puEs,ckV_pu]) (hi1.ln _)
   ·repeat (first | exact AQt.nil | (apply AQt.look;(focus simp [*,-Option.some.injEq];rfl)) | (apply AQt.lookG;(focus simp [*];done);(focus simp [*,-Option.some.injEq];rfl)) | (apply AQt.pass;(focus simp [*];done)) | refine AQt.dead (by kernel_rfl) ?_)
   intro e2;exact⟨rfl,sc,c,a1,P1.up (by omega)⟩
 | ok t =>
   rw [hv] at hw hf;have hf':FRes Tryd.prog tkG 50 [ckV h cls res sc a1,.agg [.int .i64 e.kind,.int .i64 e.n,.str e.of,.str e.name,.lst (e.kids.map cvE)],.str nm] (.ret (.str t)):=hf;simp only at hw;clear hv hf;have has:=tk_assign h cls res sc a1 hc e' t (hEx a1 e' (by omega));rw [Xy e'] at has;cases hx:asgT h (exT9 h cls sc e') t with
   | error x =>
     rw [hx] at has hw;have has':FRes Tryd.prog tkG 61 [ckV h cls res sc a1,.agg [.int .i64 e'.kind,.int .i64 e'.n,.str e'.of,.str e'.name,.lst (e'.kids.map cvE)],.str t] (.pan (fltV x)):=has;simp only [andT] at hw;rw [← hw];clear has hx hEx hw
     repeat (first | (first | (apply Xf;rfl) | apply Xj);focus simp [*,-Option.some.injEq];rfl | (first | (apply Xa;rfl) | apply Xb);(focus simp [*];done);focus simp [*,-Option.some.injEq];rfl | (first | (apply Xg;rfl) | apply Xk);(focus simp [*];done) | (first | refine Xl ?_ | refine Xi ?_ | refine Xh ?_ | refine Xo ?_ | refine Xq ?_);try simp only [Xw,Xx,reduceIte,Nat.reduceEqDiff] | refine Xn ?_ | refine Xp rfl ?_ | refine Xc ?_ | apply Xd;focus simp [*];done | apply Xe;focus simp [*];done)
     (refine AWp.regDT (by kernel_rfl) (by kernel_rfl) rfl ?_;intro nxq hnq)
     repeat (first | apply Xt;(focus simp [Xy e, *,-Option.some.injEq];rfl) | apply Xs;(focus simp [Xy e, *];done);(focus simp [Xy e, *,-Option.some.injEq];rfl) | apply Xu;(focus simp [Xy e, *];done) | refine Xv ?_;try simp only [Xw,Xx,reduceIte,Nat.reduceEqDiff])
     ((apply AQq.callG);(focus (first | rfl | (simp [Xy e, *];done)));(focus simp [Xy e, *,-Option.some.injEq];rfl);kernel_rfl)
     ·exact FRes.lend tkG_pu hf' rfl (by simp [puL,puV,puEs,ckV_pu]) (hi1.ln _)
     repeat (first | apply Xt;(focus simp [*,-Option.some.injEq];rfl) | apply Xs;(focus simp [*];done);(focus simp [*,-Option.some.injEq];rfl) | apply Xu;(focus simp [*];done) | refine Xv ?_;try simp only [Xw,Xx,reduceIte,Nat.reduceEqDiff])
     repeat (first | (first | (apply Xf;rfl) | apply Xj);focus simp [Xy e', *,-Option.some.injEq];rfl | (first | (apply Xa;rfl) | apply Xb);(focus simp [Xy e', *];done);focus simp [Xy e', *,-Option.some.injEq];rfl | (first | (apply Xg;rfl) | apply Xk);(focus simp [Xy e', *];done) | (first | refine Xl ?_ | refine Xi ?_ | refine Xh ?_ | refine Xo ?_ | refine Xq ?_);try simp only [Xw,Xx,reduceIte,Nat.reduceEqDiff] | refine Xn ?_ | refine Xp rfl ?_ | refine Xc ?_ | apply Xd;focus simp [Xy e', *];done | apply Xe;focus simp [Xy e', *];done | refine Ya rfl rfl ?_)
     ((apply AOpl.callP);(focus rfl);(focus (first | rfl | (simp [*];done)));(focus simp [*,-Option.some.injEq];rfl);kernel_rfl)
     ·exact FRes.lend tkG_pu has' rfl (by simp [puL,puV,puEs,ckV_pu]) (hi1.ln _)
     exact⟨rfl,sc,c,a1,P1.up (by omega)⟩
   | ok u =>
     rw [hx] at has hw;have has':FRes Tryd.prog tkG 61 [ckV h cls res sc a1,.agg [.int .i64 e'.kind,.int .i64 e'.n,.str e'.of,.str e'.name,.lst (e'.kids.map cvE)],.str t] (.ret (.tup [])):=has;simp only [andT] at hw;rw [← hw];clear has hx hEx hw
     repeat (first | (first | (apply Xf;rfl) | apply Xj);focus simp [*,-Option.some.injEq];rfl | (first | (apply Xa;rfl) | apply Xb);(focus simp [*];done);focus simp [*,-Option.some.injEq];rfl | (first | (apply Xg;rfl) | apply Xk);(focus simp [*];done) | (first | refine Xl ?_ | refine Xi ?_ | refine Xh ?_ | refine Xo ?_ | refine Xq ?_);try simp only [Xw,Xx,reduceIte,Nat.reduceEqDiff] | refine Xn ?_ | refine Xp rfl ?_ | refine Xc ?_ | apply Xd;focus simp [*];done | apply Xe;focus simp [*];done)
     (refine AWp.regDT (by kernel_rfl) (by kernel_rfl) rfl ?_;intro nxq hnq)
     repeat (first | apply Xt;(focus simp [Xy e, *,-Option.some.injEq];rfl) | apply Xs;(focus simp [Xy e, *];done);(focus simp [Xy e, *,-Option.some.injEq];rfl) | apply Xu;(focus simp [Xy e, *];done) | refine Xv ?_;try simp only [Xw,Xx,reduceIte,Nat.reduceEqDiff])
     ((apply AQq.callG);(focus (first | rfl | (simp [Xy e, *];done)));(focus simp [Xy e, *,-Option.some.injEq];rfl);kernel_rfl)
     ·exact FRes.lend tkG_pu hf' rfl (by simp [puL,puV,puEs,ckV_pu]) (hi1.ln _)
     repeat (first | apply Xt;(focus simp [*,-Option.some.injEq];rfl) | apply Xs;(focus simp [*];done);(focus simp [*,-Option.some.injEq];rfl) | apply Xu;(focus simp [*];done) | refine Xv ?_;try simp only [Xw,Xx,reduceIte,Nat.reduceEqDiff])
     repeat (first | (first | (apply Xf;rfl) | apply Xj);focus simp [Xy e', *,-Option.some.injEq];rfl | (first | (apply Xa;rfl) | apply Xb);(focus simp [Xy e', *];done);focus simp [Xy e', *,-Option.some.injEq];rfl | (first | (apply Xg;rfl) | apply Xk);(focus simp [Xy e', *];done) | (first | refine Xl ?_ | refine Xi ?_ | refine Xh ?_ | refine Xo ?_ | refine Xq ?_);try simp only [Xw,Xx,reduceIte,Nat.reduceEqDiff] | refine Xn ?_ | refine Xp rfl ?_ | refine Xc ?_ | apply Xd;focus simp [Xy e', *];done | apply Xe;focus simp [Xy e', *];done | refine Ya rfl rfl ?_)
     ((apply Xr);(focus rfl);(focus (first | rfl | (simp [*];done)));(focus simp [*,-Option.some.injEq];rfl);kernel_rfl)
     ·exact FRes.lend tkG_pu has' rfl (by simp [puL,puV,puEs,ckV_pu]) (hi1.ln _)
     repeat (first | (first | (apply Xf;rfl) | apply Xj);focus simp [*,-Option.some.injEq];rfl | (first | (apply Xa;rfl) | apply Xb);(focus simp [*];done);focus simp [*,-Option.some.injEq];rfl | (first | (apply Xg;rfl) | apply Xk);(focus simp [*];done) | (first | refine Xl ?_ | refine Xi ?_ | refine Xh ?_ | refine Xo ?_ | refine Xq ?_);try simp only [Xw,Xx,reduceIte,Nat.reduceEqDiff] | refine Xn ?_ | refine Xp rfl ?_ | refine Xc ?_ | apply Xd;focus simp [*];done | apply Xe;focus simp [*];done | refine Ya rfl rfl ?_)
     (refine⟨_,(by simp [*];rfl),?_⟩;(try simp only [packA]))
     exact⟨rfl,c,a1,P1.up (by omega)⟩
set_option maxRecDepth 10000 in
set_option maxHeartbeats 16000000 in
theorem tk_st8 (hc:HC h)(nm ty:Bytes)(es:List Ex)(bd el:List St)(h0:shpE 8 es.length bd.length el.length=0):StOk h cls res b (.mk 8 nm ty es bd el):=by
 intro H nx c sc a hlen hi;refine ACall.of_body Tryd.func45 rfl ?_;have hb:=hi.blk;have qb:=far hi.lt;have hsh:=tk_shape 8 nm ty es bd el;have hsc:sc.length≤lim:=by omega
 have hEx:=fun (a:Int) (e:Ex) (he:exSz e≤lim)=>tk_expr h cls res sc a hc hsc lim e he he
 obtain⟨w,hw⟩:∃ w,stT h cls res sc (.mk 8 nm ty es bd el)=w:=⟨_,rfl⟩;rw [hw];rw [stT] at hw;rw [if_neg (by rw [h0];simp)] at hw;rw [shpT_ok h0] at hsh;have hsh':FRes Tryd.prog tkG 60 [.agg [.int .i64 8,.str nm,.str ty,.lst (es.map cvE),.lst (bd.map cvS),.lst (el.map cvS)]] (.ret (.tup [])):=by rw [Xz] at hsh;exact hsh
 clear hsh
 repeat (first | (first | (apply Xf;rfl) | apply Xj);focus simp [Xz, *,-Option.some.injEq];rfl | (first | (apply Xa;rfl) | apply Xb);(focus simp [Xz, *];done);focus simp [Xz, *,-Option.some.injEq];rfl | (first | (apply Xg;rfl) | apply Xk);(focus simp [Xz, *];done) | (first | refine Xl ?_ | refine Xi ?_ | refine Xh ?_ | refine Xo ?_ | refine Xq ?_);try simp only [Xw,Xx,reduceIte,Nat.reduceEqDiff] | refine Xn ?_ | refine Xp rfl ?_ | refine Xc ?_ | apply Xd;focus simp [Xz, *];done | apply Xe;focus simp [Xz, *];done | refine Ya rfl rfl ?_)
 ((apply Xr);(focus rfl);(focus (first | rfl | (simp [*];done)));(focus simp [*,-Option.some.injEq];rfl);kernel_rfl)
 ·exact hsh' _
 clear hsh';generalize IntKind.i64.wrap (a+1)=a1;generalize hH:upd _ b _=H1;have hb1:H1 b=some (.cells [.lst (h.map cvD),.str cls,.str res,c,.int .i64 a1]):=by rw [← hH,upd_hit]
 have h3:H1 nx=some (.cells [.int .i64 8,.str nm,.str ty,.lst (es.map cvE),.lst (bd.map cvS),.lst (el.map cvS)]):=by rw [← hH];simp [upd, *]
 have hf1:∀ x,x<nx→x≠b→H1 x=H x:=fun x hx hxb=>by rw [← hH,upd_miss _ _ _ _ hxb,upd_miss _ _ _ _ (by omega)]
 have P1:=hi.same hb1 (Nat.le_succ nx) hf1;have hi1:=P1.ck;clear hH hb hi qb hf1;have qb:=hi1.lt;simp (decide:=true) only [if_true,if_false,simT] at hw;rcases es with _ | ⟨e,_ | ⟨e',l⟩⟩
 case cons.cons=>exact absurd h0 (by unfold shpE;simp)
 case nil =>
  by_cases hr:res=[]
  ·subst hr;have hw':(.ok sc:Tk (List Fld))=w:=by rw [← hw];rfl
   rw [← hw'];clear hw hw' hEx
   repeat (first | (first | (apply Xf;rfl) | apply Xj);focus simp [*,-Option.some.injEq];rfl | (first | (apply Xa;rfl) | apply Xb);(focus simp [*];done);focus simp [*,-Option.some.injEq];rfl | (first | (apply Xg;rfl) | apply Xk);(focus simp [*];done) | (first | refine Xl ?_ | refine Xi ?_ | refine Xh ?_ | refine Xo ?_ | refine Xq ?_);try simp only [Xw,Xx,reduceIte,Nat.reduceEqDiff] | refine Xn ?_ | refine Xp rfl ?_ | refine Xc ?_ | apply Xd;focus simp [*];done | apply Xe;focus simp [*];done)
   (refine AWp.regDT (by kernel_rfl) (by kernel_rfl) rfl ?_;intro nxq hnq)
   repeat (first | apply Xt;(focus simp [*,-Option.some.injEq];rfl) | apply Xs;(focus simp [*];done);(focus simp [*,-Option.some.injEq];rfl) | apply Xu;(focus simp [*];done) | refine Xv ?_;try simp only [Xw,Xx,reduceIte,Nat.reduceEqDiff])
   ((apply AQq.callG);(focus (first | rfl | (simp [*];done)));(focus simp [*,-Option.some.injEq];rfl);kernel_rfl)
   ·exact need_ok 9 _
   repeat (first | apply Xt;(focus simp [*,-Option.some.injEq];rfl) | apply Xs;(focus simp [*];done);(focus simp [*,-Option.some.injEq];rfl) | apply Xu;(focus simp [*];done) | refine Xv ?_;try simp only [Xw,Xx,reduceIte,Nat.reduceEqDiff])
   repeat (first | (first | (apply Xf;rfl) | apply Xj);focus simp [*,-Option.some.injEq];rfl | (first | (apply Xa;rfl) | apply Xb);(focus simp [*];done);focus simp [*,-Option.some.injEq];rfl | (first | (apply Xg;rfl) | apply Xk);(focus simp [*];done) | (first | refine Xl ?_ | refine Xi ?_ | refine Xh ?_ | refine Xo ?_ | refine Xq ?_);try simp only [Xw,Xx,reduceIte,Nat.reduceEqDiff] | refine Xn ?_ | refine Xp rfl ?_ | refine Xc ?_ | apply Xd;focus simp [*];done | apply Xe;focus simp [*];done | refine Ya rfl rfl ?_)
   (refine⟨_,(by simp [*];rfl),?_⟩;(try simp only [packA]))
   exact⟨rfl,c,a1,P1.up (by omega)⟩
  ·have hw':(.error 9:Tk (List Fld))=w:=by rw [← hw];simp [hr]
   rw [← hw'];clear hw hw' hEx
   repeat (first | (first | (apply Xf;rfl) | apply Xj);focus simp [*,-Option.some.injEq];rfl | (first | (apply Xa;rfl) | apply Xb);(focus simp [*];done);focus simp [*,-Option.some.injEq];rfl | (first | (apply Xg;rfl) | apply Xk);(focus simp [*];done) | (first | refine Xl ?_ | refine Xi ?_ | refine Xh ?_ | refine Xo ?_ | refine Xq ?_);try simp only [Xw,Xx,reduceIte,Nat.reduceEqDiff] | refine Xn ?_ | refine Xp rfl ?_ | refine Xc ?_ | apply Xd;focus simp [*];done | apply Xe;focus simp [*];done)
   (refine AWp.regDT (by kernel_rfl) (by kernel_rfl) rfl ?_;intro nxq hnq)
   repeat (first | apply Xt;(focus simp [*,-Option.some.injEq];rfl) | apply Xs;(focus simp [*];done);(focus simp [*,-Option.some.injEq];rfl) | apply Xu;(focus simp [*];done) | refine Xv ?_;try simp only [Xw,Xx,reduceIte,Nat.reduceEqDiff])
   ((apply AQq.pan);(focus (first | rfl | (simp [*];done)));(focus simp [*,-Option.some.injEq];rfl);kernel_rfl)
   ·exact need_no 9 _
   ·repeat (first | exact AQt.nil | (apply AQt.look;(focus simp [*,-Option.some.injEq];rfl)) | (apply AQt.lookG;(focus simp [*];done);(focus simp [*,-Option.some.injEq];rfl)) | (apply AQt.pass;(focus simp [*];done)) | refine AQt.dead (by kernel_rfl) ?_)
   intro e2;exact⟨rfl,sc,c,a1,P1.up (by omega)⟩
 case cons.nil =>
  have hes:exSz e≤lim:=by rw [stSz_mk,exsSz,exsSz] at hlen;omega
  by_cases hr:res=[]
  ·subst hr;have hw':(.error 9:Tk (List Fld))=w:=by rw [← hw];simp
   rw [← hw'];clear hw hw' hEx
   repeat (first | (first | (apply Xf;rfl) | apply Xj);focus simp [Xy e, *,-Option.some.injEq];rfl | (first | (apply Xa;rfl) | apply Xb);(focus simp [Xy e, *];done);focus simp [Xy e, *,-Option.some.injEq];rfl | (first | (apply Xg;rfl) | apply Xk);(focus simp [Xy e, *];done) | (first | refine Xl ?_ | refine Xi ?_ | refine Xh ?_ | refine Xo ?_ | refine Xq ?_);try simp only [Xw,Xx,reduceIte,Nat.reduceEqDiff] | refine Xn ?_ | refine Xp rfl ?_ | refine Xc ?_ | apply Xd;focus simp [Xy e, *];done | apply Xe;focus simp [Xy e, *];done)
   (refine AWp.regDT (by kernel_rfl) (by kernel_rfl) rfl ?_;intro nxq hnq)
   repeat (first | apply Xt;(focus simp [*,-Option.some.injEq];rfl) | apply Xs;(focus simp [*];done);(focus simp [*,-Option.some.injEq];rfl) | apply Xu;(focus simp [*];done) | refine Xv ?_;try simp only [Xw,Xx,reduceIte,Nat.reduceEqDiff])
   ((apply AQq.pan);(focus (first | rfl | (simp [*];done)));(focus simp [*,-Option.some.injEq];rfl);kernel_rfl)
   ·exact need_no 9 _
   ·repeat (first | exact AQt.nil | (apply AQt.look;(focus simp [*,-Option.some.injEq];rfl)) | (apply AQt.lookG;(focus simp [*];done);(focus simp [*,-Option.some.injEq];rfl)) | (apply AQt.pass;(focus simp [*];done)) | refine AQt.dead (by kernel_rfl) ?_)
   intro e2;exact⟨rfl,sc,c,a1,P1.up (by omega)⟩
  ·have hw':andT (asgT h (exT9 h cls sc e) res) (.ok sc)=w:=by rw [← hw];simp [hr,ex0_one]
   clear hw;have hw:=hw';clear hw';have has:=tk_assign h cls res sc a1 hc e res (hEx a1 e (by omega));rw [Xy e] at has;cases hx:asgT h (exT9 h cls sc e) res with
   | error x =>
     rw [hx] at has hw;have has':FRes Tryd.prog tkG 61 [ckV h cls res sc a1,.agg [.int .i64 e.kind,.int .i64 e.n,.str e.of,.str e.name,.lst (e.kids.map cvE)],.str res] (.pan (fltV x)):=has;simp only [andT] at hw;rw [← hw];clear has hx hEx hw
     repeat (first | (first | (apply Xf;rfl) | apply Xj);focus simp [Xy e, *,-Option.some.injEq];rfl | (first | (apply Xa;rfl) | apply Xb);(focus simp [Xy e, *];done);focus simp [Xy e, *,-Option.some.injEq];rfl | (first | (apply Xg;rfl) | apply Xk);(focus simp [Xy e, *];done) | (first | refine Xl ?_ | refine Xi ?_ | refine Xh ?_ | refine Xo ?_ | refine Xq ?_);try simp only [Xw,Xx,reduceIte,Nat.reduceEqDiff] | refine Xn ?_ | refine Xp rfl ?_ | refine Xc ?_ | apply Xd;focus simp [Xy e, *];done | apply Xe;focus simp [Xy e, *];done)
     (refine AWp.regDT (by kernel_rfl) (by kernel_rfl) rfl ?_;intro nxq hnq)
     repeat (first | apply Xt;(focus simp [*,-Option.some.injEq];rfl) | apply Xs;(focus simp [*];done);(focus simp [*,-Option.some.injEq];rfl) | apply Xu;(focus simp [*];done) | refine Xv ?_;try simp only [Xw,Xx,reduceIte,Nat.reduceEqDiff])
     ((apply AQq.callG);(focus (first | rfl | (simp [*];done)));(focus simp [*,-Option.some.injEq];rfl);kernel_rfl)
     ·exact need_ok 9 _
     repeat (first | apply Xt;(focus simp [*,-Option.some.injEq];rfl) | apply Xs;(focus simp [*];done);(focus simp [*,-Option.some.injEq];rfl) | apply Xu;(focus simp [*];done) | refine Xv ?_;try simp only [Xw,Xx,reduceIte,Nat.reduceEqDiff])
     repeat (first | (first | (apply Xf;rfl) | apply Xj);focus simp [Xy e, *,-Option.some.injEq];rfl | (first | (apply Xa;rfl) | apply Xb);(focus simp [Xy e, *];done);focus simp [Xy e, *,-Option.some.injEq];rfl | (first | (apply Xg;rfl) | apply Xk);(focus simp [Xy e, *];done) | (first | refine Xl ?_ | refine Xi ?_ | refine Xh ?_ | refine Xo ?_ | refine Xq ?_);try simp only [Xw,Xx,reduceIte,Nat.reduceEqDiff] | refine Xn ?_ | refine Xp rfl ?_ | refine Xc ?_ | apply Xd;focus simp [Xy e, *];done | apply Xe;focus simp [Xy e, *];done)
     (refine AWp.regDT (by kernel_rfl) (by kernel_rfl) rfl ?_;intro nxq hnq)
     repeat (first | apply Xt;(focus simp [Xy e, *,-Option.some.injEq];rfl) | apply Xs;(focus simp [Xy e, *];done);(focus simp [Xy e, *,-Option.some.injEq];rfl) | apply Xu;(focus simp [Xy e, *];done) | refine Xv ?_;try simp only [Xw,Xx,reduceIte,Nat.reduceEqDiff])
     ((apply AQq.pan);(focus (first | rfl | (simp [Xy e, *];done)));(focus simp [Xy e, *,-Option.some.injEq];rfl);kernel_rfl)
     ·exact FRes.lend tkG_pu has' rfl (by simp [puL,puV,puEs,ckV_pu]) (hi1.ln _)
     ·repeat (first | exact AQt.nil | (apply AQt.look;(focus simp [*,-Option.some.injEq];rfl)) | (apply AQt.lookG;(focus simp [*];done);(focus simp [*,-Option.some.injEq];rfl)) | (apply AQt.pass;(focus simp [*];done)) | refine AQt.dead (by kernel_rfl) ?_)
     intro e2;exact⟨rfl,sc,c,a1,P1.up (by omega)⟩
   | ok u =>
     rw [hx] at has hw;have has':FRes Tryd.prog tkG 61 [ckV h cls res sc a1,.agg [.int .i64 e.kind,.int .i64 e.n,.str e.of,.str e.name,.lst (e.kids.map cvE)],.str res] (.ret (.tup [])):=has;simp only [andT] at hw;rw [← hw];clear has hx hEx hw
     repeat (first | (first | (apply Xf;rfl) | apply Xj);focus simp [Xy e, *,-Option.some.injEq];rfl | (first | (apply Xa;rfl) | apply Xb);(focus simp [Xy e, *];done);focus simp [Xy e, *,-Option.some.injEq];rfl | (first | (apply Xg;rfl) | apply Xk);(focus simp [Xy e, *];done) | (first | refine Xl ?_ | refine Xi ?_ | refine Xh ?_ | refine Xo ?_ | refine Xq ?_);try simp only [Xw,Xx,reduceIte,Nat.reduceEqDiff] | refine Xn ?_ | refine Xp rfl ?_ | refine Xc ?_ | apply Xd;focus simp [Xy e, *];done | apply Xe;focus simp [Xy e, *];done)
     (refine AWp.regDT (by kernel_rfl) (by kernel_rfl) rfl ?_;intro nxq hnq)
     repeat (first | apply Xt;(focus simp [*,-Option.some.injEq];rfl) | apply Xs;(focus simp [*];done);(focus simp [*,-Option.some.injEq];rfl) | apply Xu;(focus simp [*];done) | refine Xv ?_;try simp only [Xw,Xx,reduceIte,Nat.reduceEqDiff])
     ((apply AQq.callG);(focus (first | rfl | (simp [*];done)));(focus simp [*,-Option.some.injEq];rfl);kernel_rfl)
     ·exact need_ok 9 _
     repeat (first | apply Xt;(focus simp [*,-Option.some.injEq];rfl) | apply Xs;(focus simp [*];done);(focus simp [*,-Option.some.injEq];rfl) | apply Xu;(focus simp [*];done) | refine Xv ?_;try simp only [Xw,Xx,reduceIte,Nat.reduceEqDiff])
     repeat (first | (first | (apply Xf;rfl) | apply Xj);focus simp [Xy e, *,-Option.some.injEq];rfl | (first | (apply Xa;rfl) | apply Xb);(focus simp [Xy e, *];done);focus simp [Xy e, *,-Option.some.injEq];rfl | (first | (apply Xg;rfl) | apply Xk);(focus simp [Xy e, *];done) | (first | refine Xl ?_ | refine Xi ?_ | refine Xh ?_ | refine Xo ?_ | refine Xq ?_);try simp only [Xw,Xx,reduceIte,Nat.reduceEqDiff] | refine Xn ?_ | refine Xp rfl ?_ | refine Xc ?_ | apply Xd;focus simp [Xy e, *];done | apply Xe;focus simp [Xy e, *];done)
     (refine AWp.regDT (by kernel_rfl) (by kernel_rfl) rfl ?_;intro nxq hnq)
     repeat (first | apply Xt;(focus simp [Xy e, *,-Option.some.injEq];rfl) | apply Xs;(focus simp [Xy e, *];done);(focus simp [Xy e, *,-Option.some.injEq];rfl) | apply Xu;(focus simp [Xy e, *];done) | refine Xv ?_;try simp only [Xw,Xx,reduceIte,Nat.reduceEqDiff])
     ((apply AQq.callG);(focus (first | rfl | (simp [Xy e, *];done)));(focus simp [Xy e, *,-Option.some.injEq];rfl);kernel_rfl)
     ·exact FRes.lend tkG_pu has' rfl (by simp [puL,puV,puEs,ckV_pu]) (hi1.ln _)
     repeat (first | apply Xt;(focus simp [*,-Option.some.injEq];rfl) | apply Xs;(focus simp [*];done);(focus simp [*,-Option.some.injEq];rfl) | apply Xu;(focus simp [*];done) | refine Xv ?_;try simp only [Xw,Xx,reduceIte,Nat.reduceEqDiff])
     repeat (first | (first | (apply Xf;rfl) | apply Xj);focus simp [*,-Option.some.injEq];rfl | (first | (apply Xa;rfl) | apply Xb);(focus simp [*];done);focus simp [*,-Option.some.injEq];rfl | (first | (apply Xg;rfl) | apply Xk);(focus simp [*];done) | (first | refine Xl ?_ | refine Xi ?_ | refine Xh ?_ | refine Xo ?_ | refine Xq ?_);try simp only [Xw,Xx,reduceIte,Nat.reduceEqDiff] | refine Xn ?_ | refine Xp rfl ?_ | refine Xc ?_ | apply Xd;focus simp [*];done | apply Xe;focus simp [*];done | refine Ya rfl rfl ?_)
     (refine⟨_,(by simp [*];rfl),?_⟩;(try simp only [packA]))
     exact⟨rfl,c,a1,P1.up (by omega)⟩
end
end Go.Proofs.YtoookjadbhdfhaaDoor
