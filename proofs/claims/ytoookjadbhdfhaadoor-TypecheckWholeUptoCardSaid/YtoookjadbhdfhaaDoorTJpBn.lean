/-
  Choices and loops of the checker; walked.
-/
import Derived.Test.YtoookjadbhdfhaaDoorTJpBm
set_option linter.unusedSectionVars false
set_option linter.unusedSimpArgs false
set_option linter.unnecessarySimpa false
set_option linter.unusedVariables false
set_option linter.unusedSimpArgs false
set_option linter.unusedVariables false
namespace Go.Proofs.YtoookjadbhdfhaaDoor
section
open Lx Ax Go.RowKit
attribute [local simp] stepS Ax.stepT Dl.on qstep astep estep rd putE over argE ofV ofS loadA pickCells isAggD faddA fieldA partA iaddA idxA sliA bnd binA intA strA unA convA bltA lenA mapOf findK keyD scalD storeA appA srcA srcD upd drp Dl.hp Dl.nx CV.cs CV.one buildA placesA fillA zrep tasA ifaceD eqA eqFs eqIs range2 copyA nbeq nble nblt decEq beqI bneI beqS bneS isED Int.ofNat_inj List.getElem?_map List.getElem?_eq_getElem Option.map_some ti_int ti_bool ti_str ti_i64 ti_Strs ti_Flds ti_Fld ti_Cds ti_Cd ti_Sgs ti_Sg ti_Hi ti_Exs ti_Ex ti_Sts ti_St ti_Chk ti_Flt ti_Errno gd gdB callA resA op1
attribute [local simp] nu1 nu2 nu3 nu4 nu5 nu6 nu7 nu8 nu9 nu10 nu11 nu12 nu13 upd_upd
section
variable (h:List Cd) (cls res:Bytes) (b:Nat)
set_option maxRecDepth 10000 in
set_option maxHeartbeats 16000000 in
theorem tk_st4 (hc:HC h)(nm ty:Bytes)(es:List Ex)(bd el:List St)(h0:shpE 4 es.length bd.length el.length=0)(hB1:BlOk h cls res b bd)(hB2:BlOk h cls res b el):StOk h cls res b (.mk 4 nm ty es bd el):=by
 intro H nx c sc a hlen hi;refine ACall.of_body Tryd.func45 rfl ?_;have hb:=hi.blk;have qb:=far hi.lt;have hsh:=tk_shape 4 nm ty es bd el;have hsc:sc.length≤lim:=by omega
 have hEx:=fun (a:Int) (e:Ex) (he:exSz e≤lim)=>tk_expr h cls res sc a hc hsc lim e he he
 obtain⟨w,hw⟩:∃ w,stT h cls res sc (.mk 4 nm ty es bd el)=w:=⟨_,rfl⟩;rw [hw];rw [stT] at hw;rw [if_neg (by rw [h0];simp)] at hw;rw [shpT_ok h0] at hsh;have hsh':FRes Tryd.prog tkG 60 [.agg [.int .i64 4,.str nm,.str ty,.lst (es.map cvE),.lst (bd.map cvS),.lst (el.map cvS)]] (.ret (.tup [])):=by rw [Xz] at hsh;exact hsh
 clear hsh
 repeat (first | (first | (apply Xf;rfl) | apply Xj);focus simp [Xz, *,-Option.some.injEq];rfl | (first | (apply Xa;rfl) | apply Xb);(focus simp [Xz, *];done);focus simp [Xz, *,-Option.some.injEq];rfl | (first | (apply Xg;rfl) | apply Xk);(focus simp [Xz, *];done) | (first | refine Xl ?_ | refine Xi ?_ | refine Xh ?_ | refine Xo ?_ | refine Xq ?_);try simp only [Xw,Xx,reduceIte,Nat.reduceEqDiff] | refine Xn ?_ | refine Xp rfl ?_ | refine Xc ?_ | apply Xd;focus simp [Xz, *];done | apply Xe;focus simp [Xz, *];done | refine Ya rfl rfl ?_)
 ((apply Xr);(focus rfl);(focus (first | rfl | (simp [*];done)));(focus simp [*,-Option.some.injEq];rfl);kernel_rfl)
 ·exact hsh' _
 clear hsh';generalize IntKind.i64.wrap (a+1)=a1;generalize hH:upd _ b _=H1;have hb1:H1 b=some (.cells [.lst (h.map cvD),.str cls,.str res,c,.int .i64 a1]):=by rw [← hH,upd_hit]
 have h3:H1 nx=some (.cells [.int .i64 4,.str nm,.str ty,.lst (es.map cvE),.lst (bd.map cvS),.lst (el.map cvS)]):=by rw [← hH];simp [upd, *]
 have hf1:∀ x,x<nx→x≠b→H1 x=H x:=fun x hx hxb=>by rw [← hH,upd_miss _ _ _ _ hxb,upd_miss _ _ _ _ (by omega)]
 have P1:=hi.same hb1 (Nat.le_succ nx) hf1;have hi1:=P1.ck;have hcn:=hi.fresh (Nat.le_refl nx);have hnb:nx≠b:=by have:=hi.lt;omega
 clear hH hb hi qb hf1;have qb:=hi1.lt;obtain⟨e,rfl⟩:∃ e,es=[e]:=by
  match es,h0 with
  | [],h0=>exact absurd h0 (by unfold shpE;simp)
  | [e],_=>exact⟨e,rfl⟩
  | _::_::_,h0=>exact absurd h0 (by unfold shpE;simp)
 have hes:exSz e≤lim:=by rw [stSz_mk,exsSz,exsSz] at hlen;omega
 have hsz:sc.length+stsSz bd≤lim∧sc.length+stsSz el≤lim:=by rw [stSz_mk] at hlen;omega
 simp (decide:=true) only [if_true,if_false,ex0_one] at hw;have hx0:=hEx a1 e (by omega);unfold ExOk at hx0;rw [Xy e] at hx0;cases hx:exT9 h cls sc e with
 | error x =>
   rw [hx] at hx0 hw;have hx1:FRes Tryd.prog tkG 31 [ckV h cls res sc a1,.agg [.int .i64 e.kind,.int .i64 e.n,.str e.of,.str e.name,.lst (e.kids.map cvE)]] (.pan (fltV x)):=hx0;clear hx0 hx hEx;simp only at hw;rw [← hw];clear hw
   repeat (first | (first | (apply Xf;rfl) | apply Xj);focus simp [Xy e, *,-Option.some.injEq];rfl | (first | (apply Xa;rfl) | apply Xb);(focus simp [Xy e, *];done);focus simp [Xy e, *,-Option.some.injEq];rfl | (first | (apply Xg;rfl) | apply Xk);(focus simp [Xy e, *];done) | (first | refine Xl ?_ | refine Xi ?_ | refine Xh ?_ | refine Xo ?_ | refine Xq ?_);try simp only [Xw,Xx,reduceIte,Nat.reduceEqDiff] | refine Xn ?_ | refine Xp rfl ?_ | refine Xc ?_ | apply Xd;focus simp [Xy e, *];done | apply Xe;focus simp [Xy e, *];done | refine Ya rfl rfl ?_)
   ((apply AOpl.callP);(focus rfl);(focus (first | rfl | (simp [*];done)));(focus simp [*,-Option.some.injEq];rfl);kernel_rfl)
   ·exact FRes.lend tkG_pu hx1 rfl (by simp [puL,puV,puEs,ckV_pu]) (hi1.ln _)
   exact⟨rfl,sc,c,a1,P1⟩
 | ok t =>
   rw [hx] at hx0 hw;have hx1:FRes Tryd.prog tkG 31 [ckV h cls res sc a1,.agg [.int .i64 e.kind,.int .i64 e.n,.str e.of,.str e.name,.lst (e.kids.map cvE)]] (.ret (.str t)):=hx0;clear hx0 hx hEx;simp only at hw
   by_cases hn:t=intB
   case neg =>
    rw [if_neg hn] at hw;rw [← hw];simp only [intB] at hn;clear hw
    repeat (first | (first | (apply Xf;rfl) | apply Xj);focus simp [Xy e, *,-Option.some.injEq];rfl | (first | (apply Xa;rfl) | apply Xb);(focus simp [Xy e, *];done);focus simp [Xy e, *,-Option.some.injEq];rfl | (first | (apply Xg;rfl) | apply Xk);(focus simp [Xy e, *];done) | (first | refine Xl ?_ | refine Xi ?_ | refine Xh ?_ | refine Xo ?_ | refine Xq ?_);try simp only [Xw,Xx,reduceIte,Nat.reduceEqDiff] | refine Xn ?_ | refine Xp rfl ?_ | refine Xc ?_ | apply Xd;focus simp [Xy e, *];done | apply Xe;focus simp [Xy e, *];done | refine Ya rfl rfl ?_)
    ((apply Xr);(focus rfl);(focus (first | rfl | (simp [*];done)));(focus simp [*,-Option.some.injEq];rfl);kernel_rfl)
    ·exact FRes.lend tkG_pu hx1 rfl (by simp [puL,puV,puEs,ckV_pu]) (hi1.ln _)
    repeat (first | (first | (apply Xf;rfl) | apply Xj);focus simp [*,-Option.some.injEq];rfl | (first | (apply Xa;rfl) | apply Xb);(focus simp [*];done);focus simp [*,-Option.some.injEq];rfl | (first | (apply Xg;rfl) | apply Xk);(focus simp [*];done) | (first | refine Xl ?_ | refine Xi ?_ | refine Xh ?_ | refine Xo ?_ | refine Xq ?_);try simp only [Xw,Xx,reduceIte,Nat.reduceEqDiff] | refine Xn ?_ | refine Xp rfl ?_ | refine Xc ?_ | apply Xd;focus simp [*];done | apply Xe;focus simp [*];done | refine Ya rfl rfl ?_)
    ((apply AOpl.callP);(focus rfl);(focus (first | rfl | (simp [*];done)));(focus simp [*,-Option.some.injEq];rfl);kernel_rfl)
    ·exact need_no 8 _
    exact⟨rfl,sc,c,a1,P1⟩
   rw [if_pos hn] at hw;simp only [intB] at hn;subst hn
   repeat (first | (first | (apply Xf;rfl) | apply Xj);focus simp [Xy e, *,-Option.some.injEq];rfl | (first | (apply Xa;rfl) | apply Xb);(focus simp [Xy e, *];done);focus simp [Xy e, *,-Option.some.injEq];rfl | (first | (apply Xg;rfl) | apply Xk);(focus simp [Xy e, *];done) | (first | refine Xl ?_ | refine Xi ?_ | refine Xh ?_ | refine Xo ?_ | refine Xq ?_);try simp only [Xw,Xx,reduceIte,Nat.reduceEqDiff] | refine Xn ?_ | refine Xp rfl ?_ | refine Xc ?_ | apply Xd;focus simp [Xy e, *];done | apply Xe;focus simp [Xy e, *];done | refine Ya rfl rfl ?_)
   ((apply Xr);(focus rfl);(focus (first | rfl | (simp [*];done)));(focus simp [*,-Option.some.injEq];rfl);kernel_rfl)
   ·exact FRes.lend tkG_pu hx1 rfl (by simp [puL,puV,puEs,ckV_pu]) (hi1.ln _)
   clear hx1
   repeat (first | (first | (apply Xf;rfl) | apply Xj);focus simp [*,-Option.some.injEq];rfl | (first | (apply Xa;rfl) | apply Xb);(focus simp [*];done);focus simp [*,-Option.some.injEq];rfl | (first | (apply Xg;rfl) | apply Xk);(focus simp [*];done) | (first | refine Xl ?_ | refine Xi ?_ | refine Xh ?_ | refine Xo ?_ | refine Xq ?_);try simp only [Xw,Xx,reduceIte,Nat.reduceEqDiff] | refine Xn ?_ | refine Xp rfl ?_ | refine Xc ?_ | apply Xd;focus simp [*];done | apply Xe;focus simp [*];done | refine Ya rfl rfl ?_)
   ((apply Xr);(focus rfl);(focus (first | rfl | (simp [*];done)));(focus simp [*,-Option.some.injEq];rfl);kernel_rfl)
   ·exact need_ok 8 _
   repeat (first | (first | (apply Xf;rfl) | apply Xj);focus simp [Xy e, *,-Option.some.injEq];rfl | (first | (apply Xa;rfl) | apply Xb);(focus simp [Xy e, *];done);focus simp [Xy e, *,-Option.some.injEq];rfl | (first | (apply Xg;rfl) | apply Xk);(focus simp [Xy e, *];done) | (first | refine Xl ?_ | refine Xi ?_ | refine Xh ?_ | refine Xo ?_ | refine Xq ?_);try simp only [Xw,Xx,reduceIte,Nat.reduceEqDiff] | refine Xn ?_ | refine Xp rfl ?_ | refine Xc ?_ | apply Xd;focus simp [Xy e, *];done | apply Xe;focus simp [Xy e, *];done | refine Ya rfl rfl ?_)
   ((apply AOpl.callG);(focus rfl);(focus (first | rfl | (simp [*];done)));(focus simp [*,-Option.some.injEq];rfl);kernel_rfl)
   refine (hB1 H1 _ c sc a1 (by omega) hi1).mono ?_;rintro r H2 nx2 hq;cases hbt:blT h cls res sc bd with
   | error x =>
     rw [hbt] at hq hw;obtain⟨rfl,sc',c',a',P3⟩:=hq;simp only [andT] at hw;rw [← hw];exact⟨rfl,sc',c',a',P1.trans P3⟩
   | ok u =>
   rw [hbt] at hq hw;obtain⟨rfl,c2,a2,P2⟩:=hq;simp only [andT] at hw ⊢;clear hbt;have h3':H2 nx=some (.cells [.int .i64 4,.str nm,.str ty,.lst ([e].map cvE),.lst (bd.map cvS),.lst (el.map cvS)]):=by rw [P2.fr nx (Nat.lt_succ_self nx) hnb hcn];exact h3
   repeat (first | (first | (apply Xf;rfl) | apply Xj);focus simp [*,-Option.some.injEq];rfl | (first | (apply Xa;rfl) | apply Xb);(focus simp [*];done);focus simp [*,-Option.some.injEq];rfl | (first | (apply Xg;rfl) | apply Xk);(focus simp [*];done) | (first | refine Xl ?_ | refine Xi ?_ | refine Xh ?_ | refine Xo ?_ | refine Xq ?_);try simp only [Xw,Xx,reduceIte,Nat.reduceEqDiff] | refine Xn ?_ | refine Xp rfl ?_ | refine Xc ?_ | apply Xd;focus simp [*];done | apply Xe;focus simp [*];done | refine Ya rfl rfl ?_)
   ((apply AOpl.callG);(focus rfl);(focus (first | rfl | (simp [*];done)));(focus simp [*,-Option.some.injEq];rfl);kernel_rfl)
   refine (hB2 H2 _ c2 sc a2 (by omega) P2.ck).mono ?_;rintro r H3 nx3 hq;cases hbt:blT h cls res sc el with
   | error x =>
     rw [hbt] at hq hw;obtain⟨rfl,sc',c',a',P3⟩:=hq;simp only [andT] at hw;rw [← hw];exact⟨rfl,sc',c',a',(P1.trans P2).trans P3⟩
   | ok u =>
   rw [hbt] at hq hw;obtain⟨rfl,c3,a3,P3⟩:=hq;simp only [andT] at hw ⊢;clear hbt;rw [← hw]
   repeat (first | (first | (apply Xf;rfl) | apply Xj);focus simp [*,-Option.some.injEq];rfl | (first | (apply Xa;rfl) | apply Xb);(focus simp [*];done);focus simp [*,-Option.some.injEq];rfl | (first | (apply Xg;rfl) | apply Xk);(focus simp [*];done) | (first | refine Xl ?_ | refine Xi ?_ | refine Xh ?_ | refine Xo ?_ | refine Xq ?_);try simp only [Xw,Xx,reduceIte,Nat.reduceEqDiff] | refine Xn ?_ | refine Xp rfl ?_ | refine Xc ?_ | apply Xd;focus simp [*];done | apply Xe;focus simp [*];done | refine Ya rfl rfl ?_)
   (refine⟨_,(by simp [*];rfl),?_⟩;(try simp only [packA]))
   exact⟨rfl,c3,a3,(P1.trans P2).trans P3⟩
set_option maxRecDepth 10000 in
set_option maxHeartbeats 16000000 in
theorem tk_st5 (hc:HC h)(nm ty:Bytes)(es:List Ex)(bd el:List St)(h0:shpE 5 es.length bd.length el.length=0)(hB1:BlOk h cls res b bd)(hB2:BlOk h cls res b el):StOk h cls res b (.mk 5 nm ty es bd el):=by
 intro H nx c sc a hlen hi;refine ACall.of_body Tryd.func45 rfl ?_;have hb:=hi.blk;have qb:=far hi.lt;have hsh:=tk_shape 5 nm ty es bd el;have hsc:sc.length≤lim:=by omega
 have hEx:=fun (a:Int) (e:Ex) (he:exSz e≤lim)=>tk_expr h cls res sc a hc hsc lim e he he
 obtain⟨w,hw⟩:∃ w,stT h cls res sc (.mk 5 nm ty es bd el)=w:=⟨_,rfl⟩;rw [hw];rw [stT] at hw;rw [if_neg (by rw [h0];simp)] at hw;rw [shpT_ok h0] at hsh;have hsh':FRes Tryd.prog tkG 60 [.agg [.int .i64 5,.str nm,.str ty,.lst (es.map cvE),.lst (bd.map cvS),.lst (el.map cvS)]] (.ret (.tup [])):=by rw [Xz] at hsh;exact hsh
 clear hsh
 repeat (first | (first | (apply Xf;rfl) | apply Xj);focus simp [Xz, *,-Option.some.injEq];rfl | (first | (apply Xa;rfl) | apply Xb);(focus simp [Xz, *];done);focus simp [Xz, *,-Option.some.injEq];rfl | (first | (apply Xg;rfl) | apply Xk);(focus simp [Xz, *];done) | (first | refine Xl ?_ | refine Xi ?_ | refine Xh ?_ | refine Xo ?_ | refine Xq ?_);try simp only [Xw,Xx,reduceIte,Nat.reduceEqDiff] | refine Xn ?_ | refine Xp rfl ?_ | refine Xc ?_ | apply Xd;focus simp [Xz, *];done | apply Xe;focus simp [Xz, *];done | refine Ya rfl rfl ?_)
 ((apply Xr);(focus rfl);(focus (first | rfl | (simp [*];done)));(focus simp [*,-Option.some.injEq];rfl);kernel_rfl)
 ·exact hsh' _
 clear hsh';generalize IntKind.i64.wrap (a+1)=a1;generalize hH:upd _ b _=H1;have hb1:H1 b=some (.cells [.lst (h.map cvD),.str cls,.str res,c,.int .i64 a1]):=by rw [← hH,upd_hit]
 have h3:H1 nx=some (.cells [.int .i64 5,.str nm,.str ty,.lst (es.map cvE),.lst (bd.map cvS),.lst (el.map cvS)]):=by rw [← hH];simp [upd, *]
 have hf1:∀ x,x<nx→x≠b→H1 x=H x:=fun x hx hxb=>by rw [← hH,upd_miss _ _ _ _ hxb,upd_miss _ _ _ _ (by omega)]
 have P1:=hi.same hb1 (Nat.le_succ nx) hf1;have hi1:=P1.ck;have hcn:=hi.fresh (Nat.le_refl nx);have hnb:nx≠b:=by have:=hi.lt;omega
 clear hH hb hi qb hf1;have qb:=hi1.lt;obtain⟨e,rfl⟩:∃ e,es=[e]:=by
  match es,h0 with
  | [],h0=>exact absurd h0 (by unfold shpE;simp)
  | [e],_=>exact⟨e,rfl⟩
  | _::_::_,h0=>exact absurd h0 (by unfold shpE;simp)
 have hes:exSz e≤lim:=by rw [stSz_mk,exsSz,exsSz] at hlen;omega
 have hsz:sc.length+stsSz bd≤lim∧sc.length+stsSz el≤lim:=by rw [stSz_mk] at hlen;omega
 simp (decide:=true) only [if_true,if_false,ex0_one] at hw;have hx0:=hEx a1 e (by omega);unfold ExOk at hx0;rw [Xy e] at hx0;cases hx:exT9 h cls sc e with
 | error x =>
   rw [hx] at hx0 hw;have hx1:FRes Tryd.prog tkG 31 [ckV h cls res sc a1,.agg [.int .i64 e.kind,.int .i64 e.n,.str e.of,.str e.name,.lst (e.kids.map cvE)]] (.pan (fltV x)):=hx0;clear hx0 hx hEx;simp only at hw;rw [← hw];clear hw
   repeat (first | (first | (apply Xf;rfl) | apply Xj);focus simp [Xy e, *,-Option.some.injEq];rfl | (first | (apply Xa;rfl) | apply Xb);(focus simp [Xy e, *];done);focus simp [Xy e, *,-Option.some.injEq];rfl | (first | (apply Xg;rfl) | apply Xk);(focus simp [Xy e, *];done) | (first | refine Xl ?_ | refine Xi ?_ | refine Xh ?_ | refine Xo ?_ | refine Xq ?_);try simp only [Xw,Xx,reduceIte,Nat.reduceEqDiff] | refine Xn ?_ | refine Xp rfl ?_ | refine Xc ?_ | apply Xd;focus simp [Xy e, *];done | apply Xe;focus simp [Xy e, *];done | refine Ya rfl rfl ?_)
   ((apply AOpl.callP);(focus rfl);(focus (first | rfl | (simp [*];done)));(focus simp [*,-Option.some.injEq];rfl);kernel_rfl)
   ·exact FRes.lend tkG_pu hx1 rfl (by simp [puL,puV,puEs,ckV_pu]) (hi1.ln _)
   exact⟨rfl,sc,c,a1,P1⟩
 | ok t =>
   rw [hx] at hx0 hw;have hx1:FRes Tryd.prog tkG 31 [ckV h cls res sc a1,.agg [.int .i64 e.kind,.int .i64 e.n,.str e.of,.str e.name,.lst (e.kids.map cvE)]] (.ret (.str t)):=hx0;clear hx0 hx hEx;simp only at hw
   by_cases hn:t=intB
   case neg =>
    rw [if_neg hn] at hw;rw [← hw];simp only [intB] at hn;clear hw
    repeat (first | (first | (apply Xf;rfl) | apply Xj);focus simp [Xy e, *,-Option.some.injEq];rfl | (first | (apply Xa;rfl) | apply Xb);(focus simp [Xy e, *];done);focus simp [Xy e, *,-Option.some.injEq];rfl | (first | (apply Xg;rfl) | apply Xk);(focus simp [Xy e, *];done) | (first | refine Xl ?_ | refine Xi ?_ | refine Xh ?_ | refine Xo ?_ | refine Xq ?_);try simp only [Xw,Xx,reduceIte,Nat.reduceEqDiff] | refine Xn ?_ | refine Xp rfl ?_ | refine Xc ?_ | apply Xd;focus simp [Xy e, *];done | apply Xe;focus simp [Xy e, *];done | refine Ya rfl rfl ?_)
    ((apply Xr);(focus rfl);(focus (first | rfl | (simp [*];done)));(focus simp [*,-Option.some.injEq];rfl);kernel_rfl)
    ·exact FRes.lend tkG_pu hx1 rfl (by simp [puL,puV,puEs,ckV_pu]) (hi1.ln _)
    repeat (first | (first | (apply Xf;rfl) | apply Xj);focus simp [*,-Option.some.injEq];rfl | (first | (apply Xa;rfl) | apply Xb);(focus simp [*];done);focus simp [*,-Option.some.injEq];rfl | (first | (apply Xg;rfl) | apply Xk);(focus simp [*];done) | (first | refine Xl ?_ | refine Xi ?_ | refine Xh ?_ | refine Xo ?_ | refine Xq ?_);try simp only [Xw,Xx,reduceIte,Nat.reduceEqDiff] | refine Xn ?_ | refine Xp rfl ?_ | refine Xc ?_ | apply Xd;focus simp [*];done | apply Xe;focus simp [*];done | refine Ya rfl rfl ?_)
    ((apply AOpl.callP);(focus rfl);(focus (first | rfl | (simp [*];done)));(focus simp [*,-Option.some.injEq];rfl);kernel_rfl)
    ·exact need_no 8 _
    exact⟨rfl,sc,c,a1,P1⟩
   rw [if_pos hn] at hw;simp only [intB] at hn;subst hn
   repeat (first | (first | (apply Xf;rfl) | apply Xj);focus simp [Xy e, *,-Option.some.injEq];rfl | (first | (apply Xa;rfl) | apply Xb);(focus simp [Xy e, *];done);focus simp [Xy e, *,-Option.some.injEq];rfl | (first | (apply Xg;rfl) | apply Xk);(focus simp [Xy e, *];done) | (first | refine Xl ?_ | refine Xi ?_ | refine Xh ?_ | refine Xo ?_ | refine Xq ?_);try simp only [Xw,Xx,reduceIte,Nat.reduceEqDiff] | refine Xn ?_ | refine Xp rfl ?_ | refine Xc ?_ | apply Xd;focus simp [Xy e, *];done | apply Xe;focus simp [Xy e, *];done | refine Ya rfl rfl ?_)
   ((apply Xr);(focus rfl);(focus (first | rfl | (simp [*];done)));(focus simp [*,-Option.some.injEq];rfl);kernel_rfl)
   ·exact FRes.lend tkG_pu hx1 rfl (by simp [puL,puV,puEs,ckV_pu]) (hi1.ln _)
   clear hx1
   repeat (first | (first | (apply Xf;rfl) | apply Xj);focus simp [*,-Option.some.injEq];rfl | (first | (apply Xa;rfl) | apply Xb);(focus simp [*];done);focus simp [*,-Option.some.injEq];rfl | (first | (apply Xg;rfl) | apply Xk);(focus simp [*];done) | (first | refine Xl ?_ | refine Xi ?_ | refine Xh ?_ | refine Xo ?_ | refine Xq ?_);try simp only [Xw,Xx,reduceIte,Nat.reduceEqDiff] | refine Xn ?_ | refine Xp rfl ?_ | refine Xc ?_ | apply Xd;focus simp [*];done | apply Xe;focus simp [*];done | refine Ya rfl rfl ?_)
   ((apply Xr);(focus rfl);(focus (first | rfl | (simp [*];done)));(focus simp [*,-Option.some.injEq];rfl);kernel_rfl)
   ·exact need_ok 8 _
   repeat (first | (first | (apply Xf;rfl) | apply Xj);focus simp [Xy e, *,-Option.some.injEq];rfl | (first | (apply Xa;rfl) | apply Xb);(focus simp [Xy e, *];done);focus simp [Xy e, *,-Option.some.injEq];rfl | (first | (apply Xg;rfl) | apply Xk);(focus simp [Xy e, *];done) | (first | refine Xl ?_ | refine Xi ?_ | refine Xh ?_ | refine Xo ?_ | refine Xq ?_);try simp only [Xw,Xx,reduceIte,Nat.reduceEqDiff] | refine Xn ?_ | refine Xp rfl ?_ | refine Xc ?_ | apply Xd;focus simp [Xy e, *];done | apply Xe;focus simp [Xy e, *];done | refine Ya rfl rfl ?_)
   ((apply AOpl.callG);(focus rfl);(focus (first | rfl | (simp [*];done)));(focus simp [*,-Option.some.injEq];rfl);kernel_rfl)
   refine (hB1 H1 _ c sc a1 (by omega) hi1).mono ?_;rintro r H2 nx2 hq;cases hbt:blT h cls res sc bd with
   | error x =>
     rw [hbt] at hq hw;obtain⟨rfl,sc',c',a',P3⟩:=hq;simp only [andT] at hw;rw [← hw];exact⟨rfl,sc',c',a',P1.trans P3⟩
   | ok u =>
   rw [hbt] at hq hw;obtain⟨rfl,c2,a2,P2⟩:=hq;simp only [andT] at hw ⊢;clear hbt;have h3':H2 nx=some (.cells [.int .i64 5,.str nm,.str ty,.lst ([e].map cvE),.lst (bd.map cvS),.lst (el.map cvS)]):=by rw [P2.fr nx (Nat.lt_succ_self nx) hnb hcn];exact h3
   repeat (first | (first | (apply Xf;rfl) | apply Xj);focus simp [*,-Option.some.injEq];rfl | (first | (apply Xa;rfl) | apply Xb);(focus simp [*];done);focus simp [*,-Option.some.injEq];rfl | (first | (apply Xg;rfl) | apply Xk);(focus simp [*];done) | (first | refine Xl ?_ | refine Xi ?_ | refine Xh ?_ | refine Xo ?_ | refine Xq ?_);try simp only [Xw,Xx,reduceIte,Nat.reduceEqDiff] | refine Xn ?_ | refine Xp rfl ?_ | refine Xc ?_ | apply Xd;focus simp [*];done | apply Xe;focus simp [*];done | refine Ya rfl rfl ?_)
   ((apply AOpl.callG);(focus rfl);(focus (first | rfl | (simp [*];done)));(focus simp [*,-Option.some.injEq];rfl);kernel_rfl)
   refine (hB2 H2 _ c2 sc a2 (by omega) P2.ck).mono ?_;rintro r H3 nx3 hq;cases hbt:blT h cls res sc el with
   | error x =>
     rw [hbt] at hq hw;obtain⟨rfl,sc',c',a',P3⟩:=hq;simp only [andT] at hw;rw [← hw];exact⟨rfl,sc',c',a',(P1.trans P2).trans P3⟩
   | ok u =>
   rw [hbt] at hq hw;obtain⟨rfl,c3,a3,P3⟩:=hq;simp only [andT] at hw ⊢;clear hbt;rw [← hw]
   repeat (first | (first | (apply Xf;rfl) | apply Xj);focus simp [*,-Option.some.injEq];rfl | (first | (apply Xa;rfl) | apply Xb);(focus simp [*];done);focus simp [*,-Option.some.injEq];rfl | (first | (apply Xg;rfl) | apply Xk);(focus simp [*];done) | (first | refine Xl ?_ | refine Xi ?_ | refine Xh ?_ | refine Xo ?_ | refine Xq ?_);try simp only [Xw,Xx,reduceIte,Nat.reduceEqDiff] | refine Xn ?_ | refine Xp rfl ?_ | refine Xc ?_ | apply Xd;focus simp [*];done | apply Xe;focus simp [*];done | refine Ya rfl rfl ?_)
   (refine⟨_,(by simp [*];rfl),?_⟩;(try simp only [packA]))
   exact⟨rfl,c3,a3,(P1.trans P2).trans P3⟩
end
end
section
open Lx Ax Go.RowKit
attribute [local simp] stepS Ax.stepT Dl.on qstep astep estep rd putE over argE ofV ofS loadA pickCells isAggD faddA fieldA partA iaddA idxA bnd binA intA strA unA convA bltA mapOf findK keyD scalD storeA appA srcA srcD upd drp Dl.hp Dl.nx CV.cs CV.one buildA placesA fillA zrep tasA ifaceD eqA eqFs eqIs range2 copyA nbeq nble nblt decEq beqI bneI beqS bneS isED Int.ofNat_inj List.getElem?_map List.getElem?_eq_getElem Option.map_some ti_int ti_bool ti_str ti_i64 ti_Strs ti_Flds ti_Fld ti_Cds ti_Cd ti_Sgs ti_Sg ti_Hi ti_Exs ti_Ex ti_Sts ti_St ti_Chk ti_Flt ti_Errno gd gdB callA resA op1
attribute [local simp] nu1 nu2 nu3 nu4 nu5 nu6 nu7 nu8 nu9 nu10 nu11 nu12 nu13 upd_upd
section
variable (h:List Cd) (cls res:Bytes) (b:Nat)
def tryT (h:List Cd)(cls res:Bytes)(sc:List Fld)(nm ty:Bytes)(bd el:List St):Tk (List Fld):=andT (newT h sc (clsB h ty) nm) (andT (blT h cls res sc bd) (andT (blT h cls res (sc++[⟨nm,ty⟩]) el) (.ok sc)))
set_option maxRecDepth 10000 in
set_option maxHeartbeats 16000000 in
theorem tk_try (hc:HC h)(k:Int)(nm ty:Bytes)(es:List Ex)(bd el:List St)(hnm:nm.length≤maxLen)(hB1:BlOk h cls res b bd)(hB2:BlOk h cls res b el)(H:Heap)(nx:Nat)(c:CV)(sc:List Fld)(a:Int)(hlen:sc.length+stSz (.mk k nm ty es bd el)≤lim)(hi:CkI h cls res b H nx c sc a) :
  ACall Tryd.prog tkG 62 [.ptr b 0,.agg (cvS (.mk k nm ty es bd el))] H nx (StQ h cls res b H nx c (tryT h cls res sc nm ty bd el)):=by
 refine ACall.of_body Tryd.func62 rfl ?_;have qb:=far hi.lt;have hsz:sc.length+stsSz bd≤lim∧sc.length+1+stsSz el≤lim:=by rw [stSz_mk] at hlen;omega
 have hsc:sc.length≤lim:=by omega
 obtain⟨w,hw⟩:∃ w,tryT h cls res sc nm ty bd el=w:=⟨_,rfl⟩;rw [hw];have hid:=tk_ident nm hnm;have hty:=tk_isClass h hc.le ty;have hb:=hi.blk;have hhs:=tk_has h cls res sc a hsc nm;unfold tryT newT at hw
 repeat (first | (first | (apply Xf;rfl) | apply Xj);focus simp [Xz, *,-Option.some.injEq];rfl | (first | (apply Xa;rfl) | apply Xb);(focus simp [Xz, *];done);focus simp [Xz, *,-Option.some.injEq];rfl | (first | (apply Xg;rfl) | apply Xk);(focus simp [Xz, *];done) | (first | refine Xl ?_ | refine Xi ?_ | refine Xh ?_ | refine Xo ?_ | refine Xq ?_);try simp only [Xw,Xx,reduceIte,Nat.reduceEqDiff] | refine Xn ?_ | refine Xp rfl ?_ | refine Xc ?_ | apply Xd;focus simp [Xz, *];done | apply Xe;focus simp [Xz, *];done | refine Ya rfl rfl ?_)
 ((apply Xr);(focus rfl);(focus (first | rfl | (simp [*];done)));(focus simp [*,-Option.some.injEq];rfl);kernel_rfl)
 ·exact hid _
 clear hid;generalize hH:upd H nx _=H1;have hcn:=hi.fresh (Nat.le_refl nx);have hnb:nx≠b:=by have:=hi.lt;omega
 have h3:H1 nx=some (.cells [.int .i64 k,.str nm,.str ty,.lst (es.map cvE),.lst (bd.map cvS),.lst (el.map cvS)]):=by rw [← hH,upd_hit]
 have hb1:H1 b=some (.cells [.lst (h.map cvD),.str cls,.str res,c,.int .i64 a]):=by rw [← hH,upd_miss _ _ _ _ (fun e=>hnb e.symm)];exact hb
 have P1:=hi.same hb1 (Nat.le_succ nx) (fun x hx _=>by rw [← hH,upd_miss _ _ _ _ (by omega)]);have hi1:=P1.ck;clear hH hb hi qb;cases h1:isIdent nm with
 | false =>
   rw [if_pos h1] at hw;simp only [andT] at hw;rw [← hw];clear hw h1
   repeat (first | (first | (apply Xf;rfl) | apply Xj);focus simp [*,-Option.some.injEq];rfl | (first | (apply Xa;rfl) | apply Xb);(focus simp [*];done);focus simp [*,-Option.some.injEq];rfl | (first | (apply Xg;rfl) | apply Xk);(focus simp [*];done) | (first | refine Xl ?_ | refine Xi ?_ | refine Xh ?_ | refine Xo ?_ | refine Xq ?_);try simp only [Xw,Xx,reduceIte,Nat.reduceEqDiff] | refine Xn ?_ | refine Xp rfl ?_ | refine Xc ?_ | apply Xd;focus simp [*];done | apply Xe;focus simp [*];done | refine Ya rfl rfl ?_)
   ((apply AOpl.callP);(focus rfl);(focus (first | rfl | (simp [*];done)));(focus simp [*,-Option.some.injEq];rfl);kernel_rfl)
   ·exact need_no 5 _
   exact⟨rfl,sc,c,a,P1⟩
 | true =>
 rw [if_neg (by rw [h1];simp)] at hw;clear h1
 repeat (first | (first | (apply Xf;rfl) | apply Xj);focus simp [*,-Option.some.injEq];rfl | (first | (apply Xa;rfl) | apply Xb);(focus simp [*];done);focus simp [*,-Option.some.injEq];rfl | (first | (apply Xg;rfl) | apply Xk);(focus simp [*];done) | (first | refine Xl ?_ | refine Xi ?_ | refine Xh ?_ | refine Xo ?_ | refine Xq ?_);try simp only [Xw,Xx,reduceIte,Nat.reduceEqDiff] | refine Xn ?_ | refine Xp rfl ?_ | refine Xc ?_ | apply Xd;focus simp [*];done | apply Xe;focus simp [*];done | refine Ya rfl rfl ?_)
 ((apply Xr);(focus rfl);(focus (first | rfl | (simp [*];done)));(focus simp [*,-Option.some.injEq];rfl);kernel_rfl)
 ·exact need_ok 5 _
 cases h2:clsB h ty with
 | false =>
   rw [if_pos h2] at hw;simp only [andT] at hw;rw [h2] at hty;rw [← hw];clear hw h2
   repeat (first | (first | (apply Xf;rfl) | apply Xj);focus simp [*,-Option.some.injEq];rfl | (first | (apply Xa;rfl) | apply Xb);(focus simp [*];done);focus simp [*,-Option.some.injEq];rfl | (first | (apply Xg;rfl) | apply Xk);(focus simp [*];done) | (first | refine Xl ?_ | refine Xi ?_ | refine Xh ?_ | refine Xo ?_ | refine Xq ?_);try simp only [Xw,Xx,reduceIte,Nat.reduceEqDiff] | refine Xn ?_ | refine Xp rfl ?_ | refine Xc ?_ | apply Xd;focus simp [*];done | apply Xe;focus simp [*];done)
   (refine AWp.regDT (by kernel_rfl) (by kernel_rfl) rfl ?_;intro nxq hnq)
   repeat (first | apply Xt;(focus simp [*,-Option.some.injEq];rfl) | apply Xs;(focus simp [*];done);(focus simp [*,-Option.some.injEq];rfl) | apply Xu;(focus simp [*];done) | refine Xv ?_;try simp only [Xw,Xx,reduceIte,Nat.reduceEqDiff])
   ((apply AQq.callG);(focus (first | rfl | (simp [*];done)));(focus simp [*,-Option.some.injEq];rfl);kernel_rfl)
   ·exact hty _
   repeat (first | apply Xt;(focus simp [*,-Option.some.injEq];rfl) | apply Xs;(focus simp [*];done);(focus simp [*,-Option.some.injEq];rfl) | apply Xu;(focus simp [*];done) | refine Xv ?_;try simp only [Xw,Xx,reduceIte,Nat.reduceEqDiff])
   ((apply AQq.pan);(focus (first | rfl | (simp [*];done)));(focus simp [*,-Option.some.injEq];rfl);kernel_rfl)
   ·exact need_no 8 _
   ·repeat (first | exact AQt.nil | (apply AQt.look;(focus simp [*,-Option.some.injEq];rfl)) | (apply AQt.lookG;(focus simp [*];done);(focus simp [*,-Option.some.injEq];rfl)) | (apply AQt.pass;(focus simp [*];done)) | refine AQt.dead (by kernel_rfl) ?_)
   intro e2;exact⟨rfl,sc,c,a,P1.up (by omega)⟩
 | true =>
 rw [if_neg (by rw [h2];simp)] at hw;rw [h2] at hty;clear h2
 repeat (first | (first | (apply Xf;rfl) | apply Xj);focus simp [*,-Option.some.injEq];rfl | (first | (apply Xa;rfl) | apply Xb);(focus simp [*];done);focus simp [*,-Option.some.injEq];rfl | (first | (apply Xg;rfl) | apply Xk);(focus simp [*];done) | (first | refine Xl ?_ | refine Xi ?_ | refine Xh ?_ | refine Xo ?_ | refine Xq ?_);try simp only [Xw,Xx,reduceIte,Nat.reduceEqDiff] | refine Xn ?_ | refine Xp rfl ?_ | refine Xc ?_ | apply Xd;focus simp [*];done | apply Xe;focus simp [*];done)
 (refine AWp.regDT (by kernel_rfl) (by kernel_rfl) rfl ?_;intro nxq hnq)
 repeat (first | apply Xt;(focus simp [*,-Option.some.injEq];rfl) | apply Xs;(focus simp [*];done);(focus simp [*,-Option.some.injEq];rfl) | apply Xu;(focus simp [*];done) | refine Xv ?_;try simp only [Xw,Xx,reduceIte,Nat.reduceEqDiff])
 ((apply AQq.callG);(focus (first | rfl | (simp [*];done)));(focus simp [*,-Option.some.injEq];rfl);kernel_rfl)
 ·exact hty _
 clear hty
 repeat (first | apply Xt;(focus simp [*,-Option.some.injEq];rfl) | apply Xs;(focus simp [*];done);(focus simp [*,-Option.some.injEq];rfl) | apply Xu;(focus simp [*];done) | refine Xv ?_;try simp only [Xw,Xx,reduceIte,Nat.reduceEqDiff])
 ((apply AQq.callG);(focus (first | rfl | (simp [*];done)));(focus simp [*,-Option.some.injEq];rfl);kernel_rfl)
 ·exact need_ok 8 _
 repeat (first | apply Xt;(focus simp [*,-Option.some.injEq];rfl) | apply Xs;(focus simp [*];done);(focus simp [*,-Option.some.injEq];rfl) | apply Xu;(focus simp [*];done) | refine Xv ?_;try simp only [Xw,Xx,reduceIte,Nat.reduceEqDiff])
 have P1':=P1.up (nx2:=nxq) (by omega);have hi1':=P1'.ck
 by_cases h3v:varF sc nm=none
 case neg =>
  rw [if_pos h3v] at hw;simp only [andT] at hw;have hsm:(varF sc nm).isSome=true:=by cases hv:varF sc nm <;> simp_all
  rw [hsm] at hhs;rw [← hw];clear hw h3v hsm
  repeat (first | (first | (apply Xf;rfl) | apply Xj);focus simp [*,-Option.some.injEq];rfl | (first | (apply Xa;rfl) | apply Xb);(focus simp [*];done);focus simp [*,-Option.some.injEq];rfl | (first | (apply Xg;rfl) | apply Xk);(focus simp [*];done) | (first | refine Xl ?_ | refine Xi ?_ | refine Xh ?_ | refine Xo ?_ | refine Xq ?_);try simp only [Xw,Xx,reduceIte,Nat.reduceEqDiff] | refine Xn ?_ | refine Xp rfl ?_ | refine Xc ?_ | apply Xd;focus simp [*];done | apply Xe;focus simp [*];done | refine Ya rfl rfl ?_)
  ((apply Xr);(focus rfl);(focus (first | rfl | (simp [*];done)));(focus simp [*,-Option.some.injEq];rfl);kernel_rfl)
  ·exact FCall1.lend tkG_pu hhs (by simp [puL,puV,ckV_pu]) rfl (hi1.ln _)
  repeat (first | (first | (apply Xf;rfl) | apply Xj);focus simp [*,-Option.some.injEq];rfl | (first | (apply Xa;rfl) | apply Xb);(focus simp [*];done);focus simp [*,-Option.some.injEq];rfl | (first | (apply Xg;rfl) | apply Xk);(focus simp [*];done) | (first | refine Xl ?_ | refine Xi ?_ | refine Xh ?_ | refine Xo ?_ | refine Xq ?_);try simp only [Xw,Xx,reduceIte,Nat.reduceEqDiff] | refine Xn ?_ | refine Xp rfl ?_ | refine Xc ?_ | apply Xd;focus simp [*];done | apply Xe;focus simp [*];done | refine Ya rfl rfl ?_)
  ((apply AOpl.callP);(focus rfl);(focus (first | rfl | (simp [*];done)));(focus simp [*,-Option.some.injEq];rfl);kernel_rfl)
  ·exact need_no 7 _
  exact⟨rfl,sc,c,a,P1'⟩
 rw [if_neg (by simp [h3v])] at hw;rw [h3v] at hhs;have hhs':FCall1 Tryd.prog tkG 24 [ckV h cls res sc a,.str nm] (.bool false):=hhs;clear h3v hhs;simp only [andT] at hw
 repeat (first | (first | (apply Xf;rfl) | apply Xj);focus simp [*,-Option.some.injEq];rfl | (first | (apply Xa;rfl) | apply Xb);(focus simp [*];done);focus simp [*,-Option.some.injEq];rfl | (first | (apply Xg;rfl) | apply Xk);(focus simp [*];done) | (first | refine Xl ?_ | refine Xi ?_ | refine Xh ?_ | refine Xo ?_ | refine Xq ?_);try simp only [Xw,Xx,reduceIte,Nat.reduceEqDiff] | refine Xn ?_ | refine Xp rfl ?_ | refine Xc ?_ | apply Xd;focus simp [*];done | apply Xe;focus simp [*];done | refine Ya rfl rfl ?_)
 ((apply Xr);(focus rfl);(focus (first | rfl | (simp [*];done)));(focus simp [*,-Option.some.injEq];rfl);kernel_rfl)
 ·exact FCall1.lend tkG_pu hhs' (by simp [puL,puV,ckV_pu]) rfl (hi1.ln _)
 clear hhs'
 repeat (first | (first | (apply Xf;rfl) | apply Xj);focus simp [*,-Option.some.injEq];rfl | (first | (apply Xa;rfl) | apply Xb);(focus simp [*];done);focus simp [*,-Option.some.injEq];rfl | (first | (apply Xg;rfl) | apply Xk);(focus simp [*];done) | (first | refine Xl ?_ | refine Xi ?_ | refine Xh ?_ | refine Xo ?_ | refine Xq ?_);try simp only [Xw,Xx,reduceIte,Nat.reduceEqDiff] | refine Xn ?_ | refine Xp rfl ?_ | refine Xc ?_ | apply Xd;focus simp [*];done | apply Xe;focus simp [*];done | refine Ya rfl rfl ?_)
 ((apply Xr);(focus rfl);(focus (first | rfl | (simp [*];done)));(focus simp [*,-Option.some.injEq];rfl);kernel_rfl)
 ·exact need_ok 7 _
 repeat (first | (first | (apply Xf;rfl) | apply Xj);focus simp [*,-Option.some.injEq];rfl | (first | (apply Xa;rfl) | apply Xb);(focus simp [*];done);focus simp [*,-Option.some.injEq];rfl | (first | (apply Xg;rfl) | apply Xk);(focus simp [*];done) | (first | refine Xl ?_ | refine Xi ?_ | refine Xh ?_ | refine Xo ?_ | refine Xq ?_);try simp only [Xw,Xx,reduceIte,Nat.reduceEqDiff] | refine Xn ?_ | refine Xp rfl ?_ | refine Xc ?_ | apply Xd;focus simp [*];done | apply Xe;focus simp [*];done | refine Ya rfl rfl ?_)
 ((apply AOpl.callG);(focus rfl);(focus (first | rfl | (simp [*];done)));(focus simp [*,-Option.some.injEq];rfl);kernel_rfl)
 refine (hB1 H1 _ c sc a (by omega) hi1').mono ?_;rintro r H2 nx2 hq;cases hbt:blT h cls res sc bd with
 | error x =>
   rw [hbt] at hq hw;obtain⟨rfl,sc',c',a',P3⟩:=hq;simp only [andT] at hw;rw [← hw];exact⟨rfl,sc',c',a',P1'.trans P3⟩
 | ok u =>
 rw [hbt] at hq hw;obtain⟨rfl,c2,a2,P2⟩:=hq;simp only [andT] at hw ⊢;clear hbt;have h3':H2 nx=some (.cells [.int .i64 k,.str nm,.str ty,.lst (es.map cvE),.lst (bd.map cvS),.lst (el.map cvS)]):=by rw [P2.fr nx (by omega) hnb hcn];exact h3
 have hi2:=P2.ck;have hb2:=hi2.blk;have hlc:∀ H',lenA Tryd.prog H' 31 c2=some (.int .i64 sc.length):=hi2.own.len ti_Flds;have hc2:=hi2.lt;have hn2:=P2.le
 repeat (first | (first | (apply Xf;rfl) | apply Xj);focus simp [*,-Option.some.injEq];rfl | (first | (apply Xa;rfl) | apply Xb);(focus simp [*];done);focus simp [*,-Option.some.injEq];rfl | (first | (apply Xg;rfl) | apply Xk);(focus simp [*];done) | (first | refine Xl ?_ | refine Xi ?_ | refine Xh ?_ | refine Xo ?_ | refine Xq ?_);try simp only [Xw,Xx,reduceIte,Nat.reduceEqDiff] | refine Xn ?_ | refine Xp rfl ?_ | refine Xc ?_ | apply Xd;focus simp [*];done | apply Xe;focus simp [*];done)
 refine Ya rfl rfl ?_;clear hlc
 repeat (first | (first | (apply Xf;rfl) | apply Xj);focus simp [*,-Option.some.injEq];rfl | (first | (apply Xa;rfl) | apply Xb);(focus simp [*];done);focus simp [*,-Option.some.injEq];rfl | (first | (apply Xg;rfl) | apply Xk);(focus simp [*];done) | (first | refine Xl ?_ | refine Xi ?_ | refine Xh ?_ | refine Xo ?_ | refine Xq ?_);try simp only [Xw,Xx,reduceIte,Nat.reduceEqDiff] | refine Xn ?_ | refine Xp rfl ?_ | refine Xc ?_ | apply Xd;focus simp [*];done | apply Xe;focus simp [*];done | refine Ya rfl rfl ?_)
 refine ASl.appQ cvF_len cvF_one ti_Flds ti_Fld (⟨nm,ty⟩:Fld) (hi2.own.keep (by omega) fun x hx _=>by rw [upd_miss _ _ _ _ (by omega)]) (by simp only [lim] at hsc;omega) ?_ (hxb:=by simp [upd,cvF]);intro H3 hN hfr;have hb3:H3 b=some (.cells [.lst (h.map cvD),.str cls,.str res,c2,.int .i64 a2]):=by
  rw [hfr b (by omega) (fun b' hcb e=>hi2.ne _ (by rw [e];exact hcb)),upd_miss _ _ _ _ (by omega)];exact hb2
 repeat (first | (first | (apply Xf;rfl) | apply Xj);focus simp [*,-Option.some.injEq];rfl | (first | (apply Xa;rfl) | apply Xb);(focus simp [*];done);focus simp [*,-Option.some.injEq];rfl | (first | (apply Xg;rfl) | apply Xk);(focus simp [*];done) | (first | refine Xl ?_ | refine Xi ?_ | refine Xh ?_ | refine Xo ?_ | refine Xq ?_);try simp only [Xw,Xx,reduceIte,Nat.reduceEqDiff] | refine Xn ?_ | refine Xp rfl ?_ | refine Xc ?_ | apply Xd;focus simp [*];done | apply Xe;focus simp [*];done | refine Ya rfl rfl ?_)
 generalize hH4:upd H3 b _=H4;have hb4:H4 b=some (.cells [.lst (h.map cvD),.str cls,.str res,.sl (nx2+15) 0 (sc.length+1) 2,.int .i64 a2]):=by rw [← hH4,upd_hit]
 have P3:=hi2.newS (nx1:=nx2+15+1) hb4 (by rw [← hH4,upd_miss _ _ _ _ (by omega)];exact hN) (by simp) (by omega) (by omega) (fun x hx hxb hcx=>by
  rw [← hH4,upd_miss _ _ _ _ hxb,hfr x (by omega) (fun b' hcb e=>hcx _ (by rw [e];exact hcb)),upd_miss _ _ _ _ (by omega)])
 have hcn2:∀ m,c2≠.sl nx 0 m 2:=fun m hm=>by
  rcases P2.from' nx m hm with⟨m',h1⟩ | h1
  ·exact hcn m' h1
  ·omega
 have h3'':H4 nx=some (.cells [.int .i64 k,.str nm,.str ty,.lst (es.map cvE),.lst (bd.map cvS),.lst (el.map cvS)]):=by rw [P3.fr nx (by omega) hnb hcn2];exact h3'
 have P4:=P2.trans P3;have hi4:=P4.ck;clear hH4 hfr hN hb3 hb2 hi2 P2 P3
 repeat (first | (first | (apply Xf;rfl) | apply Xj);focus simp [*,-Option.some.injEq];rfl | (first | (apply Xa;rfl) | apply Xb);(focus simp [*];done);focus simp [*,-Option.some.injEq];rfl | (first | (apply Xg;rfl) | apply Xk);(focus simp [*];done) | (first | refine Xl ?_ | refine Xi ?_ | refine Xh ?_ | refine Xo ?_ | refine Xq ?_);try simp only [Xw,Xx,reduceIte,Nat.reduceEqDiff] | refine Xn ?_ | refine Xp rfl ?_ | refine Xc ?_ | apply Xd;focus simp [*];done | apply Xe;focus simp [*];done | refine Ya rfl rfl ?_)
 ((apply AOpl.callG);(focus rfl);(focus (first | rfl | (simp [*];done)));(focus simp [*,-Option.some.injEq];rfl);kernel_rfl)
 refine (hB2 H4 _ _ _ _ (by simp;omega) hi4).mono ?_;rintro r H5 nx5 hq;cases hbt:blT h cls res (sc++[⟨nm,ty⟩]) el with
 | error x =>
   rw [hbt] at hq hw;obtain⟨rfl,sc',c',a',P5⟩:=hq;simp only [andT] at hw;rw [← hw];exact⟨rfl,sc',c',a',(P1'.trans P4).trans P5⟩
 | ok u =>
 rw [hbt] at hq hw;obtain⟨rfl,c5,a5,P5⟩:=hq;simp only [andT] at hw ⊢;rw [← hw];clear hbt hw;have hb5:=P5.ck.blk;obtain⟨c',hcA,hoc,hcc⟩:=own_cutA P5.ck.own;have hform:c'=.nils∨∃ b' n,c'=.sl b' 0 n 2:=by
  rcases hoc with⟨_,h⟩ | ⟨b',rest,h,_⟩
  ·exact .inl h
  ·exact .inr ⟨b',_,h⟩
 have P6:=((P1'.trans P4).trans P5).cutS hoc hcc;clear hoc hcc P5 P4 P1';rcases hform with rfl | ⟨b',n,rfl⟩
 ·repeat (first | (first | (apply Xf;rfl) | apply Xj);focus simp [*,-Option.some.injEq];rfl | (first | (apply Xa;rfl) | apply Xb);(focus simp [*];done);focus simp [*,-Option.some.injEq];rfl | (first | (apply Xg;rfl) | apply Xk);(focus simp [*];done) | (first | refine Xl ?_ | refine Xi ?_ | refine Xh ?_ | refine Xo ?_ | refine Xq ?_);try simp only [Xw,Xx,reduceIte,Nat.reduceEqDiff] | refine Xn ?_ | refine Xp rfl ?_ | refine Xc ?_ | apply Xd;focus simp [*];done | apply Xe;focus simp [*];done | refine Ya rfl rfl ?_)
  (refine⟨_,(by simp [*];rfl),?_⟩;(try simp only [packA]))
  exact⟨rfl,_,a5,P6⟩
 ·repeat (first | (first | (apply Xf;rfl) | apply Xj);focus simp [*,-Option.some.injEq];rfl | (first | (apply Xa;rfl) | apply Xb);(focus simp [*];done);focus simp [*,-Option.some.injEq];rfl | (first | (apply Xg;rfl) | apply Xk);(focus simp [*];done) | (first | refine Xl ?_ | refine Xi ?_ | refine Xh ?_ | refine Xo ?_ | refine Xq ?_);try simp only [Xw,Xx,reduceIte,Nat.reduceEqDiff] | refine Xn ?_ | refine Xp rfl ?_ | refine Xc ?_ | apply Xd;focus simp [*];done | apply Xe;focus simp [*];done | refine Ya rfl rfl ?_)
  (refine⟨_,(by simp [*];rfl),?_⟩;(try simp only [packA]))
  exact⟨rfl,_,a5,P6⟩
end
end
end Go.Proofs.YtoookjadbhdfhaaDoor
