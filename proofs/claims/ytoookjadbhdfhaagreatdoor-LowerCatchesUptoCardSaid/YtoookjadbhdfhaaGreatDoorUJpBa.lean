/-
  Choices and loops of the checker; walked.
-/
import Derived.Test.YtoookjadbhdfhaaGreatDoorUJpAz
set_option linter.unusedSectionVars false
set_option linter.unusedSimpArgs false
set_option linter.unnecessarySimpa false
set_option linter.unusedVariables false
set_option linter.unusedSimpArgs false
set_option linter.unusedVariables false
namespace Go.Proofs.YtoookjadbhdfhaaGreatDoor
section
open Lx Ax Go.RowKit
attribute [local simp] stepS Ax.stepT Dl.on qstep astep estep rd putE over argE ofV ofS loadA pickCells isAggD faddA fieldA partA iaddA idxA sliA bnd binA intA strA unA convA bltA lenA mapOf findK keyD scalD storeA appA srcA srcD upd drp Dl.hp Dl.nx CV.cs CV.one buildA placesA fillA zrep tasA ifaceD eqA eqFs eqIs range2 copyA nbeq nble nblt decEq beqI bneI beqS bneS isED Int.ofNat_inj List.getElem?_map List.getElem?_eq_getElem Option.map_some ti_int ti_bool ti_str ti_i64 ti_Strs ti_Flds ti_Fld ti_Cds ti_Cd ti_Sgs ti_Sg ti_Hi ti_Exs ti_Ex ti_Sts ti_St ti_Chk ti_Flt ti_Errno gd gdB callA resA op1
attribute [local simp] nu1 nu2 nu3 nu4 nu5 nu6 nu7 nu8 nu9 nu10 nu11 nu12 nu13 upd_upd
section
variable (h:List Cd) (cls res:Bytes) (b:Nat)
set_option maxRecDepth 10000 in
set_option maxHeartbeats 16000000 in
theorem tk_st4 (hc:HC h)(nm ty:Bytes)(es:List Ex)(bd el:List St)(h0:shpE 4 es.length bd.length el.length=0)(hB1:BlOk h cls res b bd)(hB2:BlOk h cls res b el):StOk h cls res b (.mk 4 nm ty es bd el):=by
 intro H nx c sc a hlen hi;refine ACall.of_body Tryz.func73 rfl ?_;have hb:=hi.blk;have qb:=far hi.lt;have hsh:=tk_shape 4 nm ty es bd el;have hsc:sc.length≤lim:=by omega
 have hEx:=fun (a:Int) (e:Ex) (he:exSz e≤lim)=>tk_expr h cls res sc a hc hsc lim e he he
 obtain⟨w,hw⟩:∃ w,stT h cls res sc (.mk 4 nm ty es bd el)=w:=⟨_,rfl⟩;rw [hw];rw [stT] at hw;rw [if_neg (by rw [h0];simp)] at hw;rw [shpT_ok h0] at hsh;have hsh':FRes Tryz.prog tkG 90 [.agg [.int .i64 4,.str nm,.str ty,.lst (es.map cvE),.lst (bd.map cvS),.lst (el.map cvS)]] (.ret (.tup [])):=by rw [Ya] at hsh;exact hsh
 clear hsh;refine gWf Ya ?_
 ((apply Xr);(focus rfl);(focus (first | rfl | (simp [*];done)));(focus simp [*,-Option.some.injEq];rfl);kernel_rfl)
 ·exact hsh' _
 clear hsh';generalize IntKind.i64.wrap (a+1)=a1;generalize hH:upd _ b _=H1;have hb1:H1 b=some (.cells [.lst (h.map cvD),.str cls,.str res,c,.int .i64 a1]):=by rw [← hH,upd_hit]
 have h3:H1 nx=some (.cells [.int .i64 4,.str nm,.str ty,.lst (es.map cvE),.lst (bd.map cvS),.lst (el.map cvS)]):=by rw [← hH];simp [upd, *]
 have hf1:∀ x,x<nx→x≠b→H1 x=H x:=fun x hx hxb=>by rw [← hH,upd_miss _ _ _ _ hxb,upd_miss _ _ _ _ (by omega)]
 have P1:=hi.same hb1 (Nat.le_succ nx) hf1;have hi1:=P1.ck;have hcn:=hi.fresh (Nat.le_refl nx);have hnb:nx≠b:=by have:=hi.lt;omega
 clear hH hb hi qb hf1;have qb:=hi1.lt;obtain⟨e,rfl⟩:∃ e,es=[e]:=by
  match es,h0 with
  | [],h0=>exact absurd h0 (by unfold shpE;simp)
  | [e],_=>exact⟨e,rfl⟩
  | _::_::_,h0=>exact absurd h0 (by unfold shpE;simp)
 have hes:exSz e≤lim:=by rw [stSz_mk,exsSz,exsSz] at hlen;omega
 have hsz:sc.length+stsSz bd≤lim∧sc.length+stsSz el≤lim:=by rw [stSz_mk] at hlen;omega
 simp (decide:=true) only [if_true,if_false,ex0_one] at hw;have hx0:=hEx a1 e (by omega);unfold ExOk at hx0;rw [Xz e] at hx0;cases hx:exT9 h cls sc e with
 | error x =>
   rw [hx] at hx0 hw;have hx1:FRes Tryz.prog tkG 95 [ckV h cls res sc a1,.agg [.int .i64 e.kind,.int .i64 e.n,.str e.of,.str e.name,.lst (e.kids.map cvE)]] (.pan (fltV x)):=hx0;clear hx0 hx hEx;simp only at hw;rw [← hw];clear hw;refine gWf (Xz e) ?_
   ((apply AOpl.callP);(focus rfl);(focus (first | rfl | (simp [*];done)));(focus simp [*,-Option.some.injEq];rfl);kernel_rfl)
   ·exact FRes.lend tkG_pu hx1 rfl (by simp [puL,puV,puEs,ckV_pu]) (hi1.ln _)
   exact⟨rfl,sc,c,a1,P1⟩
 | ok t =>
   rw [hx] at hx0 hw;have hx1:FRes Tryz.prog tkG 95 [ckV h cls res sc a1,.agg [.int .i64 e.kind,.int .i64 e.n,.str e.of,.str e.name,.lst (e.kids.map cvE)]] (.ret (.str t)):=hx0;clear hx0 hx hEx;simp only at hw
   by_cases hn:t=intB
   case neg =>
    rw [if_neg hn] at hw;rw [← hw];simp only [intB] at hn;clear hw;refine gWf (Xz e) ?_
    ((apply Xr);(focus rfl);(focus (first | rfl | (simp [*];done)));(focus simp [*,-Option.some.injEq];rfl);kernel_rfl)
    ·exact FRes.lend tkG_pu hx1 rfl (by simp [puL,puV,puEs,ckV_pu]) (hi1.ln _)
    refine gW ?_
    ((apply AOpl.callP);(focus rfl);(focus (first | rfl | (simp [*];done)));(focus simp [*,-Option.some.injEq];rfl);kernel_rfl)
    ·exact need_no 8 _
    exact⟨rfl,sc,c,a1,P1⟩
   rw [if_pos hn] at hw;simp only [intB] at hn;subst hn;refine gWf (Xz e) ?_
   ((apply Xr);(focus rfl);(focus (first | rfl | (simp [*];done)));(focus simp [*,-Option.some.injEq];rfl);kernel_rfl)
   ·exact FRes.lend tkG_pu hx1 rfl (by simp [puL,puV,puEs,ckV_pu]) (hi1.ln _)
   clear hx1;refine gW ?_
   ((apply Xr);(focus rfl);(focus (first | rfl | (simp [*];done)));(focus simp [*,-Option.some.injEq];rfl);kernel_rfl)
   ·exact need_ok 8 _
   refine gWf (Xz e) ?_
   ((apply AOpl.callG);(focus rfl);(focus (first | rfl | (simp [*];done)));(focus simp [*,-Option.some.injEq];rfl);kernel_rfl)
   refine (hB1 H1 _ c sc a1 (by omega) hi1).mono ?_;rintro r H2 nx2 hq;cases hbt:blT h cls res sc bd with
   | error x =>
     rw [hbt] at hq hw;obtain⟨rfl,sc',c',a',P3⟩:=hq;simp only [andT] at hw;rw [← hw];exact⟨rfl,sc',c',a',P1.trans P3⟩
   | ok u =>
   rw [hbt] at hq hw;obtain⟨rfl,c2,a2,P2⟩:=hq;simp only [andT] at hw ⊢;clear hbt;have h3':H2 nx=some (.cells [.int .i64 4,.str nm,.str ty,.lst ([e].map cvE),.lst (bd.map cvS),.lst (el.map cvS)]):=by rw [P2.fr nx (Nat.lt_succ_self nx) hnb hcn];exact h3
   refine gW ?_
   ((apply AOpl.callG);(focus rfl);(focus (first | rfl | (simp [*];done)));(focus simp [*,-Option.some.injEq];rfl);kernel_rfl)
   refine (hB2 H2 _ c2 sc a2 (by omega) P2.ck).mono ?_;rintro r H3 nx3 hq;cases hbt:blT h cls res sc el with
   | error x =>
     rw [hbt] at hq hw;obtain⟨rfl,sc',c',a',P3⟩:=hq;simp only [andT] at hw;rw [← hw];exact⟨rfl,sc',c',a',(P1.trans P2).trans P3⟩
   | ok u =>
   rw [hbt] at hq hw;obtain⟨rfl,c3,a3,P3⟩:=hq;simp only [andT] at hw ⊢;clear hbt;rw [← hw];refine gW ?_
   (refine⟨_,(by simp [*];rfl),?_⟩;(try simp only [packA]))
   exact⟨rfl,c3,a3,(P1.trans P2).trans P3⟩
set_option maxRecDepth 10000 in
set_option maxHeartbeats 16000000 in
theorem tk_st5 (hc:HC h)(nm ty:Bytes)(es:List Ex)(bd el:List St)(h0:shpE 5 es.length bd.length el.length=0)(hB1:BlOk h cls res b bd)(hB2:BlOk h cls res b el):StOk h cls res b (.mk 5 nm ty es bd el):=by
 intro H nx c sc a hlen hi;refine ACall.of_body Tryz.func73 rfl ?_;have hb:=hi.blk;have qb:=far hi.lt;have hsh:=tk_shape 5 nm ty es bd el;have hsc:sc.length≤lim:=by omega
 have hEx:=fun (a:Int) (e:Ex) (he:exSz e≤lim)=>tk_expr h cls res sc a hc hsc lim e he he
 obtain⟨w,hw⟩:∃ w,stT h cls res sc (.mk 5 nm ty es bd el)=w:=⟨_,rfl⟩;rw [hw];rw [stT] at hw;rw [if_neg (by rw [h0];simp)] at hw;rw [shpT_ok h0] at hsh;have hsh':FRes Tryz.prog tkG 90 [.agg [.int .i64 5,.str nm,.str ty,.lst (es.map cvE),.lst (bd.map cvS),.lst (el.map cvS)]] (.ret (.tup [])):=by rw [Ya] at hsh;exact hsh
 clear hsh;refine gWf Ya ?_
 ((apply Xr);(focus rfl);(focus (first | rfl | (simp [*];done)));(focus simp [*,-Option.some.injEq];rfl);kernel_rfl)
 ·exact hsh' _
 clear hsh';generalize IntKind.i64.wrap (a+1)=a1;generalize hH:upd _ b _=H1;have hb1:H1 b=some (.cells [.lst (h.map cvD),.str cls,.str res,c,.int .i64 a1]):=by rw [← hH,upd_hit]
 have h3:H1 nx=some (.cells [.int .i64 5,.str nm,.str ty,.lst (es.map cvE),.lst (bd.map cvS),.lst (el.map cvS)]):=by rw [← hH];simp [upd, *]
 have hf1:∀ x,x<nx→x≠b→H1 x=H x:=fun x hx hxb=>by rw [← hH,upd_miss _ _ _ _ hxb,upd_miss _ _ _ _ (by omega)]
 have P1:=hi.same hb1 (Nat.le_succ nx) hf1;have hi1:=P1.ck;have hcn:=hi.fresh (Nat.le_refl nx);have hnb:nx≠b:=by have:=hi.lt;omega
 clear hH hb hi qb hf1;have qb:=hi1.lt;obtain⟨e,rfl⟩:∃ e,es=[e]:=by
  match es,h0 with
  | [],h0=>exact absurd h0 (by unfold shpE;simp)
  | [e],_=>exact⟨e,rfl⟩
  | _::_::_,h0=>exact absurd h0 (by unfold shpE;simp)
 have hes:exSz e≤lim:=by rw [stSz_mk,exsSz,exsSz] at hlen;omega
 have hsz:sc.length+stsSz bd≤lim∧sc.length+stsSz el≤lim:=by rw [stSz_mk] at hlen;omega
 simp (decide:=true) only [if_true,if_false,ex0_one] at hw;have hx0:=hEx a1 e (by omega);unfold ExOk at hx0;rw [Xz e] at hx0;cases hx:exT9 h cls sc e with
 | error x =>
   rw [hx] at hx0 hw;have hx1:FRes Tryz.prog tkG 95 [ckV h cls res sc a1,.agg [.int .i64 e.kind,.int .i64 e.n,.str e.of,.str e.name,.lst (e.kids.map cvE)]] (.pan (fltV x)):=hx0;clear hx0 hx hEx;simp only at hw;rw [← hw];clear hw;refine gWf (Xz e) ?_
   ((apply AOpl.callP);(focus rfl);(focus (first | rfl | (simp [*];done)));(focus simp [*,-Option.some.injEq];rfl);kernel_rfl)
   ·exact FRes.lend tkG_pu hx1 rfl (by simp [puL,puV,puEs,ckV_pu]) (hi1.ln _)
   exact⟨rfl,sc,c,a1,P1⟩
 | ok t =>
   rw [hx] at hx0 hw;have hx1:FRes Tryz.prog tkG 95 [ckV h cls res sc a1,.agg [.int .i64 e.kind,.int .i64 e.n,.str e.of,.str e.name,.lst (e.kids.map cvE)]] (.ret (.str t)):=hx0;clear hx0 hx hEx;simp only at hw
   by_cases hn:t=intB
   case neg =>
    rw [if_neg hn] at hw;rw [← hw];simp only [intB] at hn;clear hw;refine gWf (Xz e) ?_
    ((apply Xr);(focus rfl);(focus (first | rfl | (simp [*];done)));(focus simp [*,-Option.some.injEq];rfl);kernel_rfl)
    ·exact FRes.lend tkG_pu hx1 rfl (by simp [puL,puV,puEs,ckV_pu]) (hi1.ln _)
    refine gW ?_
    ((apply AOpl.callP);(focus rfl);(focus (first | rfl | (simp [*];done)));(focus simp [*,-Option.some.injEq];rfl);kernel_rfl)
    ·exact need_no 8 _
    exact⟨rfl,sc,c,a1,P1⟩
   rw [if_pos hn] at hw;simp only [intB] at hn;subst hn;refine gWf (Xz e) ?_
   ((apply Xr);(focus rfl);(focus (first | rfl | (simp [*];done)));(focus simp [*,-Option.some.injEq];rfl);kernel_rfl)
   ·exact FRes.lend tkG_pu hx1 rfl (by simp [puL,puV,puEs,ckV_pu]) (hi1.ln _)
   clear hx1;refine gW ?_
   ((apply Xr);(focus rfl);(focus (first | rfl | (simp [*];done)));(focus simp [*,-Option.some.injEq];rfl);kernel_rfl)
   ·exact need_ok 8 _
   refine gWf (Xz e) ?_
   ((apply AOpl.callG);(focus rfl);(focus (first | rfl | (simp [*];done)));(focus simp [*,-Option.some.injEq];rfl);kernel_rfl)
   refine (hB1 H1 _ c sc a1 (by omega) hi1).mono ?_;rintro r H2 nx2 hq;cases hbt:blT h cls res sc bd with
   | error x =>
     rw [hbt] at hq hw;obtain⟨rfl,sc',c',a',P3⟩:=hq;simp only [andT] at hw;rw [← hw];exact⟨rfl,sc',c',a',P1.trans P3⟩
   | ok u =>
   rw [hbt] at hq hw;obtain⟨rfl,c2,a2,P2⟩:=hq;simp only [andT] at hw ⊢;clear hbt;have h3':H2 nx=some (.cells [.int .i64 5,.str nm,.str ty,.lst ([e].map cvE),.lst (bd.map cvS),.lst (el.map cvS)]):=by rw [P2.fr nx (Nat.lt_succ_self nx) hnb hcn];exact h3
   refine gW ?_
   ((apply AOpl.callG);(focus rfl);(focus (first | rfl | (simp [*];done)));(focus simp [*,-Option.some.injEq];rfl);kernel_rfl)
   refine (hB2 H2 _ c2 sc a2 (by omega) P2.ck).mono ?_;rintro r H3 nx3 hq;cases hbt:blT h cls res sc el with
   | error x =>
     rw [hbt] at hq hw;obtain⟨rfl,sc',c',a',P3⟩:=hq;simp only [andT] at hw;rw [← hw];exact⟨rfl,sc',c',a',(P1.trans P2).trans P3⟩
   | ok u =>
   rw [hbt] at hq hw;obtain⟨rfl,c3,a3,P3⟩:=hq;simp only [andT] at hw ⊢;clear hbt;rw [← hw];refine gW ?_
   (refine⟨_,(by simp [*];rfl),?_⟩;(try simp only [packA]))
   exact⟨rfl,c3,a3,(P1.trans P2).trans P3⟩
end
end
section
open Lx Ax Go.RowKit
attribute [local simp] stepS Ax.stepT Dl.on qstep astep estep rd putE over argE ofV ofS loadA pickCells isAggD faddA fieldA partA iaddA idxA bnd binA intA strA unA convA bltA mapOf findK keyD scalD storeA appA srcA srcD upd drp Dl.hp Dl.nx CV.cs CV.one buildA placesA fillA zrep tasA ifaceD eqA eqFs eqIs range2 copyA nbeq nble nblt decEq beqI bneI beqS bneS isED Int.ofNat_inj List.getElem?_map List.getElem?_eq_getElem Option.map_some ti_int ti_bool ti_str ti_i64 ti_Strs ti_Flds ti_Fld ti_Cds ti_Cd ti_Sgs ti_Sg ti_Hi ti_Exs ti_Ex ti_Sts ti_St ti_Chk ti_Flt ti_Errno gd gdB callA resA op1
attribute [local simp] nu1 nu2 nu3 nu4 nu5 nu6 nu7 nu8 nu9 nu10 nu11 nu12 nu13 upd_upd
section
variable (h:List Cd) (cls res:Bytes) (b:Nat)
def tryT (h:List Cd)(cls res:Bytes)(sc:List Fld)(nm ty:Bytes)(bd el:List St):Tk (List Fld):=andT (newT h sc (clsB h ty) nm) (andT (blT h cls res sc bd) (andT (blT h cls res (sc++[⟨nm,ty⟩]) el) (.ok sc)))
set_option maxRecDepth 10000 in
set_option maxHeartbeats 16000000 in
theorem tk_try (hc:HC h)(k:Int)(nm ty:Bytes)(es:List Ex)(bd el:List St)(hnm:nm.length≤maxLen)(hB1:BlOk h cls res b bd)(hB2:BlOk h cls res b el)(H:Heap)(nx:Nat)(c:CV)(sc:List Fld)(a:Int)(hlen:sc.length+stSz (.mk k nm ty es bd el)≤lim)(hi:CkI h cls res b H nx c sc a) :
  ACall Tryz.prog tkG 96 [.ptr b 0,.agg (cvS (.mk k nm ty es bd el))] H nx (StQ h cls res b H nx c (tryT h cls res sc nm ty bd el)):=by
 refine ACall.of_body Tryz.func96 rfl ?_;have qb:=far hi.lt;have hsz:sc.length+stsSz bd≤lim∧sc.length+1+stsSz el≤lim:=by rw [stSz_mk] at hlen;omega
 have hsc:sc.length≤lim:=by omega
 obtain⟨w,hw⟩:∃ w,tryT h cls res sc nm ty bd el=w:=⟨_,rfl⟩;rw [hw];have hid:=tk_ident nm hnm;have hty:=tk_isClass h hc.le ty;have hb:=hi.blk;have hhs:=tk_has h cls res sc a hsc nm;unfold tryT newT at hw;refine gWf Ya ?_
 ((apply Xr);(focus rfl);(focus (first | rfl | (simp [*];done)));(focus simp [*,-Option.some.injEq];rfl);kernel_rfl)
 ·exact hid _
 clear hid;generalize hH:upd H nx _=H1;have hcn:=hi.fresh (Nat.le_refl nx);have hnb:nx≠b:=by have:=hi.lt;omega
 have h3:H1 nx=some (.cells [.int .i64 k,.str nm,.str ty,.lst (es.map cvE),.lst (bd.map cvS),.lst (el.map cvS)]):=by rw [← hH,upd_hit]
 have hb1:H1 b=some (.cells [.lst (h.map cvD),.str cls,.str res,c,.int .i64 a]):=by rw [← hH,upd_miss _ _ _ _ (fun e=>hnb e.symm)];exact hb
 have P1:=hi.same hb1 (Nat.le_succ nx) (fun x hx _=>by rw [← hH,upd_miss _ _ _ _ (by omega)]);have hi1:=P1.ck;clear hH hb hi qb;cases h1:isIdent nm with
 | false =>
   rw [if_pos h1] at hw;simp only [andT] at hw;rw [← hw];clear hw h1;refine gW ?_
   ((apply AOpl.callP);(focus rfl);(focus (first | rfl | (simp [*];done)));(focus simp [*,-Option.some.injEq];rfl);kernel_rfl)
   ·exact need_no 5 _
   exact⟨rfl,sc,c,a,P1⟩
 | true =>
 rw [if_neg (by rw [h1];simp)] at hw;clear h1;refine gW ?_
 ((apply Xr);(focus rfl);(focus (first | rfl | (simp [*];done)));(focus simp [*,-Option.some.injEq];rfl);kernel_rfl)
 ·exact need_ok 5 _
 cases h2:clsB h ty with
 | false =>
   rw [if_pos h2] at hw;simp only [andT] at hw;rw [h2] at hty;rw [← hw];clear hw h2;refine gWr ?_
   (refine AWp.regDT (by kernel_rfl) (by kernel_rfl) rfl ?_;intro nxq hnq)
   repeat (first | apply Xu;(focus simp [*,-Option.some.injEq];rfl) | apply Xt;(focus simp [*];done);(focus simp [*,-Option.some.injEq];rfl) | apply Xv;(focus simp [*];done) | refine Xw ?_;try simp only [Xx,Xy,reduceIte,Nat.reduceEqDiff])
   ((apply AQq.callG);(focus (first | rfl | (simp [*];done)));(focus simp [*,-Option.some.injEq];rfl);kernel_rfl)
   ·exact hty _
   repeat (first | apply Xu;(focus simp [*,-Option.some.injEq];rfl) | apply Xt;(focus simp [*];done);(focus simp [*,-Option.some.injEq];rfl) | apply Xv;(focus simp [*];done) | refine Xw ?_;try simp only [Xx,Xy,reduceIte,Nat.reduceEqDiff])
   ((apply AQq.pan);(focus (first | rfl | (simp [*];done)));(focus simp [*,-Option.some.injEq];rfl);kernel_rfl)
   ·exact need_no 8 _
   ·repeat (first | exact AQt.nil | (apply AQt.look;(focus simp [*,-Option.some.injEq];rfl)) | (apply AQt.lookG;(focus simp [*];done);(focus simp [*,-Option.some.injEq];rfl)) | (apply AQt.pass;(focus simp [*];done)) | refine AQt.dead (by kernel_rfl) ?_)
   intro e2;exact⟨rfl,sc,c,a,P1.up (by omega)⟩
 | true =>
 rw [if_neg (by rw [h2];simp)] at hw;rw [h2] at hty;clear h2;refine gWr ?_
 (refine AWp.regDT (by kernel_rfl) (by kernel_rfl) rfl ?_;intro nxq hnq)
 repeat (first | apply Xu;(focus simp [*,-Option.some.injEq];rfl) | apply Xt;(focus simp [*];done);(focus simp [*,-Option.some.injEq];rfl) | apply Xv;(focus simp [*];done) | refine Xw ?_;try simp only [Xx,Xy,reduceIte,Nat.reduceEqDiff])
 ((apply AQq.callG);(focus (first | rfl | (simp [*];done)));(focus simp [*,-Option.some.injEq];rfl);kernel_rfl)
 ·exact hty _
 clear hty
 repeat (first | apply Xu;(focus simp [*,-Option.some.injEq];rfl) | apply Xt;(focus simp [*];done);(focus simp [*,-Option.some.injEq];rfl) | apply Xv;(focus simp [*];done) | refine Xw ?_;try simp only [Xx,Xy,reduceIte,Nat.reduceEqDiff])
 ((apply AQq.callG);(focus (first | rfl | (simp [*];done)));(focus simp [*,-Option.some.injEq];rfl);kernel_rfl)
 ·exact need_ok 8 _
 repeat (first | apply Xu;(focus simp [*,-Option.some.injEq];rfl) | apply Xt;(focus simp [*];done);(focus simp [*,-Option.some.injEq];rfl) | apply Xv;(focus simp [*];done) | refine Xw ?_;try simp only [Xx,Xy,reduceIte,Nat.reduceEqDiff])
 have P1':=P1.up (nx2:=nxq) (by omega);have hi1':=P1'.ck
 by_cases h3v:varF sc nm=none
 case neg =>
  rw [if_pos h3v] at hw;simp only [andT] at hw;have hsm:(varF sc nm).isSome=true:=by cases hv:varF sc nm <;> simp_all
  rw [hsm] at hhs;rw [← hw];clear hw h3v hsm;refine gW ?_
  ((apply Xr);(focus rfl);(focus (first | rfl | (simp [*];done)));(focus simp [*,-Option.some.injEq];rfl);kernel_rfl)
  ·exact FCall1.lend tkG_pu hhs (by simp [puL,puV,ckV_pu]) rfl (hi1.ln _)
  refine gW ?_
  ((apply AOpl.callP);(focus rfl);(focus (first | rfl | (simp [*];done)));(focus simp [*,-Option.some.injEq];rfl);kernel_rfl)
  ·exact need_no 7 _
  exact⟨rfl,sc,c,a,P1'⟩
 rw [if_neg (by simp [h3v])] at hw;rw [h3v] at hhs;have hhs':FCall1 Tryz.prog tkG 44 [ckV h cls res sc a,.str nm] (.bool false):=hhs;clear h3v hhs;simp only [andT] at hw;refine gW ?_
 ((apply Xr);(focus rfl);(focus (first | rfl | (simp [*];done)));(focus simp [*,-Option.some.injEq];rfl);kernel_rfl)
 ·exact FCall1.lend tkG_pu hhs' (by simp [puL,puV,ckV_pu]) rfl (hi1.ln _)
 clear hhs';refine gW ?_
 ((apply Xr);(focus rfl);(focus (first | rfl | (simp [*];done)));(focus simp [*,-Option.some.injEq];rfl);kernel_rfl)
 ·exact need_ok 7 _
 refine gW ?_
 ((apply AOpl.callG);(focus rfl);(focus (first | rfl | (simp [*];done)));(focus simp [*,-Option.some.injEq];rfl);kernel_rfl)
 refine (hB1 H1 _ c sc a (by omega) hi1').mono ?_;rintro r H2 nx2 hq;cases hbt:blT h cls res sc bd with
 | error x =>
   rw [hbt] at hq hw;obtain⟨rfl,sc',c',a',P3⟩:=hq;simp only [andT] at hw;rw [← hw];exact⟨rfl,sc',c',a',P1'.trans P3⟩
 | ok u =>
 rw [hbt] at hq hw;obtain⟨rfl,c2,a2,P2⟩:=hq;simp only [andT] at hw ⊢;clear hbt;have h3':H2 nx=some (.cells [.int .i64 k,.str nm,.str ty,.lst (es.map cvE),.lst (bd.map cvS),.lst (el.map cvS)]):=by rw [P2.fr nx (by omega) hnb hcn];exact h3
 have hi2:=P2.ck;have hb2:=hi2.blk;have hlc:∀ H',lenA Tryz.prog H' 35 c2=some (.int .i64 sc.length):=hi2.own.len ti_Flds;have hc2:=hi2.lt;have hn2:=P2.le;refine gWr ?_;refine Yb rfl rfl ?_;clear hlc;refine gW ?_;refine ASl.appQ cvF_len cvF_one ti_Flds ti_Fld (⟨nm,ty⟩:Fld) (hi2.own.keep (by omega) fun x hx _=>by rw [upd_miss _ _ _ _ (by omega)]) (by simp only [lim] at hsc;omega) ?_ (hxb:=by simp [upd,cvF]);intro H3 hN hfr;have hb3:H3 b=some (.cells [.lst (h.map cvD),.str cls,.str res,c2,.int .i64 a2]):=by
  rw [hfr b (by omega) (fun b' hcb e=>hi2.ne _ (by rw [e];exact hcb)),upd_miss _ _ _ _ (by omega)];exact hb2
 refine gW ?_;generalize hH4:upd H3 b _=H4;have hb4:H4 b=some (.cells [.lst (h.map cvD),.str cls,.str res,.sl (nx2+15) 0 (sc.length+1) 2,.int .i64 a2]):=by rw [← hH4,upd_hit]
 have P3:=hi2.newS (nx1:=nx2+15+1) hb4 (by rw [← hH4,upd_miss _ _ _ _ (by omega)];exact hN) (by simp) (by omega) (by omega) (fun x hx hxb hcx=>by
  rw [← hH4,upd_miss _ _ _ _ hxb,hfr x (by omega) (fun b' hcb e=>hcx _ (by rw [e];exact hcb)),upd_miss _ _ _ _ (by omega)])
 have hcn2:∀ m,c2≠.sl nx 0 m 2:=fun m hm=>by
  rcases P2.from' nx m hm with⟨m',h1⟩ | h1
  ·exact hcn m' h1
  ·omega
 have h3'':H4 nx=some (.cells [.int .i64 k,.str nm,.str ty,.lst (es.map cvE),.lst (bd.map cvS),.lst (el.map cvS)]):=by rw [P3.fr nx (by omega) hnb hcn2];exact h3'
 have P4:=P2.trans P3;have hi4:=P4.ck;clear hH4 hfr hN hb3 hb2 hi2 P2 P3;refine gW ?_
 ((apply AOpl.callG);(focus rfl);(focus (first | rfl | (simp [*];done)));(focus simp [*,-Option.some.injEq];rfl);kernel_rfl)
 refine (hB2 H4 _ _ _ _ (by simp;omega) hi4).mono ?_;rintro r H5 nx5 hq;cases hbt:blT h cls res (sc++[⟨nm,ty⟩]) el with
 | error x =>
   rw [hbt] at hq hw;obtain⟨rfl,sc',c',a',P5⟩:=hq;simp only [andT] at hw;rw [← hw];exact⟨rfl,sc',c',a',(P1'.trans P4).trans P5⟩
 | ok u =>
 rw [hbt] at hq hw;obtain⟨rfl,c5,a5,P5⟩:=hq;simp only [andT] at hw ⊢;rw [← hw];clear hbt hw;have hb5:=P5.ck.blk;obtain⟨c',hcA,hoc,hcc⟩:=own_cutA P5.ck.own;have hform:c'=.nils∨∃ b' n,c'=.sl b' 0 n 2:=by
  rcases hoc with⟨_,h⟩ | ⟨b',rest,h,_⟩
  ·exact .inl h
  ·exact .inr ⟨b',_,h⟩
 have P6:=((P1'.trans P4).trans P5).cutS hoc hcc;clear hoc hcc P5 P4 P1';rcases hform with rfl | ⟨b',n,rfl⟩
 ·refine gW ?_
  (refine⟨_,(by simp [*];rfl),?_⟩;(try simp only [packA]))
  exact⟨rfl,_,a5,P6⟩
 ·refine gW ?_
  (refine⟨_,(by simp [*];rfl),?_⟩;(try simp only [packA]))
  exact⟨rfl,_,a5,P6⟩
end
end
section
open Lx Ax Go.RowKit
attribute [local simp] stepS Ax.stepT Dl.on qstep astep estep rd putE over argE ofV ofS loadA pickCells isAggD faddA fieldA partA iaddA idxA sliA bnd binA intA strA unA convA bltA lenA mapOf findK keyD scalD storeA appA srcA srcD upd drp Dl.hp Dl.nx CV.cs CV.one buildA placesA fillA zrep tasA ifaceD eqA eqFs eqIs range2 copyA nbeq nble nblt decEq beqI bneI beqS bneS isED Int.ofNat_inj List.getElem?_map List.getElem?_eq_getElem Option.map_some ti_int ti_bool ti_str ti_i64 ti_Strs ti_Flds ti_Fld ti_Cds ti_Cd ti_Sgs ti_Sg ti_Hi ti_Exs ti_Ex ti_Sts ti_St ti_Chk ti_Flt ti_Errno gd gdB callA resA op1
attribute [local simp] nu1 nu2 nu3 nu4 nu5 nu6 nu7 nu8 nu9 nu10 nu11 nu12 nu13 upd_upd
section
variable (h:List Cd) (cls res:Bytes) (b:Nat)
set_option maxRecDepth 10000 in
set_option maxHeartbeats 16000000 in
theorem tk_st6 (hc:HC h)(nm ty:Bytes)(es:List Ex)(bd el:List St)(h0:shpE 6 es.length bd.length el.length=0)(hnm:nm.length≤maxLen)(hB1:BlOk h cls res b bd)(hB2:BlOk h cls res b el):StOk h cls res b (.mk 6 nm ty es bd el):=by
 intro H nx c sc a hlen hi;refine ACall.of_body Tryz.func73 rfl ?_;have hb:=hi.blk;have qb:=far hi.lt;have hsh:=tk_shape 6 nm ty es bd el;have hsc:sc.length≤lim:=by omega
 have hEx:=fun (a:Int) (e:Ex) (he:exSz e≤lim)=>tk_expr h cls res sc a hc hsc lim e he he
 obtain⟨w,hw⟩:∃ w,stT h cls res sc (.mk 6 nm ty es bd el)=w:=⟨_,rfl⟩;rw [hw];rw [stT] at hw;rw [if_neg (by rw [h0];simp)] at hw;rw [shpT_ok h0] at hsh;have hsh':FRes Tryz.prog tkG 90 [.agg [.int .i64 6,.str nm,.str ty,.lst (es.map cvE),.lst (bd.map cvS),.lst (el.map cvS)]] (.ret (.tup [])):=by rw [Ya] at hsh;exact hsh
 clear hsh;refine gWf Ya ?_
 ((apply Xr);(focus rfl);(focus (first | rfl | (simp [*];done)));(focus simp [*,-Option.some.injEq];rfl);kernel_rfl)
 ·exact hsh' _
 clear hsh';generalize IntKind.i64.wrap (a+1)=a1;generalize hH:upd _ b _=H1;have hb1:H1 b=some (.cells [.lst (h.map cvD),.str cls,.str res,c,.int .i64 a1]):=by rw [← hH,upd_hit]
 have h3:H1 nx=some (.cells [.int .i64 6,.str nm,.str ty,.lst (es.map cvE),.lst (bd.map cvS),.lst (el.map cvS)]):=by rw [← hH];simp [upd, *]
 have hf1:∀ x,x<nx→x≠b→H1 x=H x:=fun x hx hxb=>by rw [← hH,upd_miss _ _ _ _ hxb,upd_miss _ _ _ _ (by omega)]
 have P1:=hi.same hb1 (Nat.le_succ nx) hf1;have hi1:=P1.ck;have hcn:=hi.fresh (Nat.le_refl nx);have hnb:nx≠b:=by have:=hi.lt;omega
 clear hH hb hi qb hf1;have qb:=hi1.lt;have hw':tryT h cls res sc nm ty bd el=w:=by rw [← hw];unfold tryT;rw [if_neg (by decide),if_pos rfl]
 clear hw hEx;have htr:=tk_try h cls res b hc 6 nm ty es bd el hnm hB1 hB2 H1 (nx+1) c sc a1 hlen hi1;rw [hw',Ya] at htr;refine gW ?_
 ((apply AOpl.callG);(focus rfl);(focus (first | rfl | (simp [*];done)));(focus simp [*,-Option.some.injEq];rfl);kernel_rfl)
 refine htr.mono ?_;rintro r H2 nx2 hq;cases w with
 | error x =>
   obtain⟨rfl,sc',c',a',P3⟩:=hq;exact⟨rfl,sc',c',a',P1.trans P3⟩
 | ok sc2 =>
   obtain⟨rfl,c',a',P3⟩:=hq;simp only;clear htr;refine gW ?_
   (refine⟨_,(by simp [*];rfl),?_⟩;(try simp only [packA]))
   exact⟨rfl,c',a',P1.trans P3⟩
theorem shp_range {k:Int}{ne nb nl:Nat}(h0:shpE k ne nb nl=0):1≤k∧k≤9:=by
 unfold shpE at h0;split at h0
 ·cases h0
 ·omega
theorem tk_stmt (hc:HC h):∀ (N:Nat) (s:St),stSz s≤N→NmS s→StOk h cls res b s
 | 0,s,h0,_=>absurd (stSz_pos s) (by omega)
 | N+1,.mk k nm ty es bd el,hN,hnm=>by
   rw [stSz_mk] at hN;rw [NmS] at hnm
   by_cases h0:shpE k es.length bd.length el.length=0
   case neg=>exact tk_stShp h cls res b k nm ty es bd el h0
   have hB1:BlOk h cls res b bd:=tk_block h cls res b bd fun s hs=>tk_stmt hc N s (by have:=stsSz_mem hs;omega) (NmSs_mem hnm.2.1 hs)
   have hB2:BlOk h cls res b el:=tk_block h cls res b el fun s hs=>tk_stmt hc N s (by have:=stsSz_mem hs;omega) (NmSs_mem hnm.2.2 hs)
   have hr:=shp_range h0;obtain rfl | rfl | rfl | rfl | rfl | rfl | rfl | rfl | rfl:k=1∨k=2∨k=3∨k=4∨k=5∨k=6∨k=7∨k=8∨k=9:=by omega
   ·exact tk_st1 h cls res b hc nm ty es bd el h0 hnm.1
   ·exact tk_st2 h cls res b hc nm ty es bd el h0
   ·exact tk_st3 h cls res b hc nm ty es bd el h0
   ·exact tk_st4 h cls res b hc nm ty es bd el h0 hB1 hB2
   ·exact tk_st5 h cls res b hc nm ty es bd el h0 hB1 hB2
   ·exact tk_st6 h cls res b hc nm ty es bd el h0 hnm.1 hB1 hB2
   ·exact tk_st7 h cls res b hc nm ty es bd el h0
   ·exact tk_st8 h cls res b hc nm ty es bd el h0
   ·exact tk_st9 h cls res b hc nm ty es bd el h0
theorem tk_blockAll (hc:HC h)(l:List St)(hnm:NmSs l):BlOk h cls res b l:=tk_block h cls res b l fun s hs=>tk_stmt h cls res b hc (stSz s) s (Nat.le_refl _) (NmSs_mem hnm hs)
end
end
section
open Lx Ax Go.RowKit
attribute [local simp] stepS Ax.stepT Dl.on qstep astep estep rd putE over argE ofV ofS loadA pickCells isAggD faddA fieldA partA iaddA idxA sliA bnd binA intA strA unA convA bltA lenA mapOf findK keyD scalD storeA appA srcA srcD upd drp Dl.hp Dl.nx CV.cs CV.one buildA placesA fillA zrep tasA ifaceD eqA eqFs eqIs range2 copyA nbeq nble nblt decEq beqI bneI beqS bneS isED Int.ofNat_inj List.getElem?_map List.getElem?_eq_getElem Option.map_some ti_int ti_bool ti_str ti_i64 ti_Strs ti_Exs ti_Ex ti_Sts ti_St gd gdB callA resA op1
attribute [local simp] nu1 nu2 nu3 nu4 nu5 nu6 nu7 nu8 nu9 nu10 nu11 nu12 nu13 upd_upd
theorem wrapN1 {n:Nat}(h:n≤lim):IntKind.i64.wrap ((n:Int)+1)=((n+1:Nat):Int):=by rw [IntKind.wrap_i64];simp only [lim] at h;omega
theorem tkMax (a b:Nat):(if a<b then (b:Int) else a)=((max a b:Nat):Int):=by
 split <;> omega
theorem exsDepth_snoc' (l:List Ex)(i:Nat)(h:i<l.length):exsDepth (l.take (i+1))=max (exsDepth (l.take i)) (exDepth l[i]):=by
 rw [take_snoc h,exsDepth_snoc]
theorem stsDepth_snoc (l:List St)(e:St):stsDepth (l++[e])=max (stsDepth l) (stDepth e):=by
 induction l with
 | nil=>simp [stsDepth]
 | cons x l ih=>simp only [List.cons_append,stsDepth,ih];omega
theorem stsDepth_snoc' (l:List St)(i:Nat)(h:i<l.length):stsDepth (l.take (i+1))=max (stsDepth (l.take i)) (stDepth l[i]):=by
 rw [take_snoc h,stsDepth_snoc]
set_option maxRecDepth 10000 in
set_option maxHeartbeats 4000000 in
theorem tk_exDepth1 (k n:Int)(o m:Bytes)(ks:List Ex)(hl:exSz (.mk k n o m ks)≤lim)(ih:∀ e∈ks,FCall1 Tryz.prog tkG 66 [.agg (cvE e)] (.int .i64 (exDepth e:Nat))) :
  FCall1 Tryz.prog tkG 66 [.agg (cvE (.mk k n o m ks))] (.int .i64 (exDepth (.mk k n o m ks):Nat)):=by
 refine FCall.one tkG_pu (by simp [puL,puV,puE]) rfl ?_;refine FCall.ofBody Tryz.func66 rfl rfl fun nx=>?_
 rw [exSz_mk] at hl;have hkl:ks.length≤lim:=by have:=exsSz_len ks;omega
 have hd:exsDepth ks≤lim:=by have:=exsDepth_sz ks;omega
 refine gWf cvE_mk ?_;refine AWp.countO ks.length [3,5,9] 10 (fun i e H1 nx1=>e 9=.int .i64 i∧e 3=.int .i64 (exsDepth (ks.take i):Nat)) ⟨(by first | (simp (disch:=omega) [putE,over,ofV,ofS, *];done) | (simp (disch:=omega) [putE,over,ofV,ofS, *];rfl)),by simp [putE,ofV,ofS,exsDepth]⟩ ?_;rintro i v H1 nx1 hi hn1 ⟨h9,h3⟩;refine gW ?_
 (((apply AWp.cond');(focus (simp [*,-Ax.CV.bool.injEq];rfl))) <;> (intro hb) <;> (try simp only [decide_eq_true_eq,decide_eq_false_iff_not,Bool.not_eq_true',Bool.not_eq_false',Bool.not_eq_true,Bool.not_eq_false] at hb))
 ·have hlt:i<ks.length:=hb;have hwi:=lim_wrap hlt hkl;clear hb;have hx:=ih ks[i] (List.getElem_mem hlt);have hs:=exsDepth_snoc' ks i hlt;generalize hke:ks[i]=x at *;rw [Xz x] at hx;have hm:=tkMax (exsDepth (ks.take i)) (exDepth x);rw [← hs] at hm;clear hs ih;refine gWf (Xz x) ?_
  ((apply Xr);(focus rfl);(focus (first | rfl | (simp [*];done)));(focus simp [*,-Option.some.injEq];rfl);kernel_rfl)
  ·exact hx _
  refine gW ?_;exact⟨by ((repeat (first | exact Keeps.base _ _ _ _ | (with_reducible exact Keeps.refl _ _ _) | (refine Keeps.put rfl ?_) | (refine Keeps.over' rfl rfl ?_)))),hlt,(by first | (simp (disch:=omega) [putE,over,ofV,ofS, *];done) | (simp (disch:=omega) [putE,over,ofV,ofS, *];rfl)),by simp [putE,over]⟩
 ·have hi':i=ks.length:=by omega
  rw [hi',List.take_length] at h3;have hw:=wrapN1 hd;rw [exDepth];clear ih hb;refine gW ?_
  (refine⟨_,(by simp [*];rfl),?_⟩;(try simp only [packA]))
  all_goals rfl
theorem tk_exDepth:∀ (N:Nat) (e:Ex),exSz e≤N→exSz e≤lim→FCall1 Tryz.prog tkG 66 [.agg (cvE e)] (.int .i64 (exDepth e:Nat))
 | 0,e,h0,_=>absurd (exSz_pos e) (by omega)
 | N+1,.mk k n o m ks,hN,hl=>by
   have hN':=hN;have hl':=hl;rw [exSz_mk] at hN' hl';refine tk_exDepth1 k n o m ks hl fun e he=>?_
   have:=exsSz_mem he;exact tk_exDepth N e (by omega) (by omega)
set_option maxRecDepth 10000 in
set_option maxHeartbeats 8000000 in
theorem tk_stDepth1 (k:Int)(nm ty:Bytes)(es:List Ex)(b el:List St)(hl:stSz (.mk k nm ty es b el)≤lim)(ih:∀ s,(s∈b∨s∈el)→FCall1 Tryz.prog tkG 42 [.agg (cvS s)] (.int .i64 (stDepth s:Nat))) :
  FCall1 Tryz.prog tkG 42 [.agg (cvS (.mk k nm ty es b el))] (.int .i64 (stDepth (.mk k nm ty es b el):Nat)):=by
 refine FCall.one tkG_pu (by simp [puL,puV,puS]) rfl ?_;refine FCall.ofBody Tryz.func42 rfl rfl fun nx=>?_
 have hdl:=stDepth_sz (.mk k nm ty es b el);rw [stDepth] at hdl ⊢;rw [stSz_mk] at hl hdl;have hE:=fun e (he:exSz e≤lim)=>tk_exDepth lim e he he
 have l1:es.length≤lim:=by have:=exsSz_len es;omega
 have l2:b.length≤lim:=by have:=stsSz_len b;omega
 have l3:el.length≤lim:=by have:=stsSz_len el;omega
 have hwd:=wrapN1 (n:=max (max (exsDepth es) (stsDepth b)) (stsDepth el)) (by omega);refine gWf Ya ?_;refine AWp.countO es.length [3,5,13] 14 (fun i e H1 nx1=>e 13=.int .i64 i∧e 3=.int .i64 (exsDepth (es.take i):Nat)∧H1 nx=some (.cells [.int .i64 k,.str nm,.str ty,.lst (es.map cvE),.lst (b.map cvS),.lst (el.map cvS)])) ⟨(by first | (simp (disch:=omega) [putE,over,ofV,ofS, *];done) | (simp (disch:=omega) [putE,over,ofV,ofS, *];rfl)),by simp [putE,ofV,ofS,exsDepth],by simp [upd]⟩ ?_;rintro i v H1 nx1 hi hn1 ⟨h13,h3,hC⟩;have q1:=far (show nx<nx1 by omega);refine gW ?_
 (((apply AWp.cond');(focus (simp [*,-Ax.CV.bool.injEq];rfl))) <;> (intro hb) <;> (try simp only [decide_eq_true_eq,decide_eq_false_iff_not,Bool.not_eq_true',Bool.not_eq_false',Bool.not_eq_true,Bool.not_eq_false] at hb))
 ·have hlt:i<es.length:=hb;have hwi:=lim_wrap hlt l1;clear hb;have hx:=hE es[i] (by have:=exsSz_mem (List.getElem_mem hlt);omega);have hs:=exsDepth_snoc' es i hlt;generalize hke:es[i]=x at *;rw [Xz x] at hx;have hm:=tkMax (exsDepth (es.take i)) (exDepth x);rw [← hs] at hm;clear hs ih;refine gWf (Xz x) ?_
  ((apply Xr);(focus rfl);(focus (first | rfl | (simp [*];done)));(focus simp [*,-Option.some.injEq];rfl);kernel_rfl)
  ·exact hx _
  refine gW ?_;exact⟨by ((repeat (first | exact Keeps.base _ _ _ _ | (with_reducible exact Keeps.refl _ _ _) | (refine Keeps.put rfl ?_) | (refine Keeps.over' rfl rfl ?_)))),hlt,(by first | (simp (disch:=omega) [putE,over,ofV,ofS, *];done) | (simp (disch:=omega) [putE,over,ofV,ofS, *];rfl)),by simp [putE,over],by simp [upd, *]⟩
 have hi':i=es.length:=by omega
 rw [hi',List.take_length] at h3;clear hi' hb hi h13 hE;refine gW ?_;generalize hd1:exsDepth es=d1 at *;refine AWp.countO b.length [3,7,25] 26 (fun i e H1 nx1=>e 25=.int .i64 i∧e 3=.int .i64 ((max d1 (stsDepth (b.take i)):Nat):Int)∧H1 nx=some (.cells [.int .i64 k,.str nm,.str ty,.lst (es.map cvE),.lst (b.map cvS),.lst (el.map cvS)])) ⟨(by first | (simp (disch:=omega) [putE,over,ofV,ofS, *];done) | (simp (disch:=omega) [putE,over,ofV,ofS, *];rfl)),by simp [putE,over,stsDepth,h3],hC⟩ ?_;clear hC h3 q1;rintro j v2 H2 nx2 hi hn2 ⟨h25,h3,hC⟩;have q1:=far (show nx<nx2 by omega);refine gW ?_
 (((apply AWp.cond');(focus (simp [*,-Ax.CV.bool.injEq];rfl))) <;> (intro hb) <;> (try simp only [decide_eq_true_eq,decide_eq_false_iff_not,Bool.not_eq_true',Bool.not_eq_false',Bool.not_eq_true,Bool.not_eq_false] at hb))
 ·have hlt:j<b.length:=hb;have hwi:=lim_wrap hlt l2;clear hb;have hx:=ih b[j] (.inl (List.getElem_mem hlt));have hs:max d1 (stsDepth (b.take (j+1)))=max (max d1 (stsDepth (b.take j))) (stDepth b[j]):=by rw [stsDepth_snoc' b j hlt];omega
  generalize hke:b[j]=x at *;rw [cvS_eq x] at hx;have hm:=tkMax (max d1 (stsDepth (b.take j))) (stDepth x);rw [← hs] at hm;clear hs ih;generalize max d1 (stsDepth (b.take (j+1)))=d3 at *;generalize max d1 (stsDepth (b.take j))=d2 at *;refine gWf (cvS_eq x) ?_
  ((apply Xr);(focus rfl);(focus (first | rfl | (simp [*];done)));(focus simp [*,-Option.some.injEq];rfl);kernel_rfl)
  ·exact hx _
  refine gW ?_;exact⟨by ((repeat (first | exact Keeps.base _ _ _ _ | (with_reducible exact Keeps.refl _ _ _) | (refine Keeps.put rfl ?_) | (refine Keeps.over' rfl rfl ?_)))),hlt,(by first | (simp (disch:=omega) [putE,over,ofV,ofS, *];done) | (simp (disch:=omega) [putE,over,ofV,ofS, *];rfl)),by simp [putE,over],by simp [upd, *]⟩
 have hj':j=b.length:=by omega
 rw [hj',List.take_length] at h3;clear hj' hb hi h25;generalize hd2:max d1 (stsDepth b)=d2 at *;refine gW ?_;refine AWp.countO el.length [3,9,37] 38 (fun i e H1 nx1=>e 37=.int .i64 i∧e 3=.int .i64 ((max d2 (stsDepth (el.take i)):Nat):Int)∧H1 nx=some (.cells [.int .i64 k,.str nm,.str ty,.lst (es.map cvE),.lst (b.map cvS),.lst (el.map cvS)])) ⟨(by first | (simp (disch:=omega) [putE,over,ofV,ofS, *];done) | (simp (disch:=omega) [putE,over,ofV,ofS, *];rfl)),by simp [putE,over,stsDepth,h3],hC⟩ ?_;clear hC h3 q1;rintro j v2 H2 nx2 hi hn2 ⟨h37,h3,hC⟩;have q1:=far (show nx<nx2 by omega);refine gW ?_
 (((apply AWp.cond');(focus (simp [*,-Ax.CV.bool.injEq];rfl))) <;> (intro hb) <;> (try simp only [decide_eq_true_eq,decide_eq_false_iff_not,Bool.not_eq_true',Bool.not_eq_false',Bool.not_eq_true,Bool.not_eq_false] at hb))
 ·have hlt:j<el.length:=hb;have hwi:=lim_wrap hlt l3;clear hb;have hx:=ih el[j] (.inr (List.getElem_mem hlt));have hs:max d2 (stsDepth (el.take (j+1)))=max (max d2 (stsDepth (el.take j))) (stDepth el[j]):=by rw [stsDepth_snoc' el j hlt];omega
  generalize hke:el[j]=x at *;rw [cvS_eq x] at hx;have hm:=tkMax (max d2 (stsDepth (el.take j))) (stDepth x);rw [← hs] at hm;clear hs ih;generalize max d2 (stsDepth (el.take (j+1)))=d3 at *;generalize max d2 (stsDepth (el.take j))=d4 at *;refine gWf (cvS_eq x) ?_
  ((apply Xr);(focus rfl);(focus (first | rfl | (simp [*];done)));(focus simp [*,-Option.some.injEq];rfl);kernel_rfl)
  ·exact hx _
  refine gW ?_;exact⟨by ((repeat (first | exact Keeps.base _ _ _ _ | (with_reducible exact Keeps.refl _ _ _) | (refine Keeps.put rfl ?_) | (refine Keeps.over' rfl rfl ?_)))),hlt,(by first | (simp (disch:=omega) [putE,over,ofV,ofS, *];done) | (simp (disch:=omega) [putE,over,ofV,ofS, *];rfl)),by simp [putE,over],by simp [upd, *]⟩
 have hj':j=el.length:=by omega
 rw [hj',List.take_length] at h3;clear hj' hb hi h37 ih hC;generalize max d2 (stsDepth el)=d3 at *;refine gW ?_
 (refine⟨_,(by simp [*];rfl),?_⟩;(try simp only [packA]))
 all_goals rfl
theorem tk_stDepth:∀ (N:Nat) (s:St),stSz s≤N→stSz s≤lim→FCall1 Tryz.prog tkG 42 [.agg (cvS s)] (.int .i64 (stDepth s:Nat))
 | 0,s,h0,_=>absurd (stSz_pos s) (by omega)
 | N+1,.mk k nm ty es b el,hN,hl=>by
   have hN':=hN;have hl':=hl;rw [stSz_mk] at hN' hl';refine tk_stDepth1 k nm ty es b el hl fun s hs=>?_
   rcases hs with hs | hs
   ·have:=stsSz_mem hs;exact tk_stDepth N s (by omega) (by omega)
   ·have:=stsSz_mem hs;exact tk_stDepth N s (by omega) (by omega)
end
section
open Lx Ax Go.RowKit
attribute [local simp] stepS Ax.stepT Dl.on qstep astep estep rd putE over argE ofV ofS loadA pickCells isAggD faddA fieldA partA iaddA idxA sliA bnd binA intA strA unA convA bltA lenA mapOf findK keyD scalD storeA appA srcA srcD upd drp Dl.hp Dl.nx CV.cs CV.one buildA placesA fillA zrep tasA ifaceD eqA eqFs eqIs range2 copyA nbeq nble nblt decEq beqI bneI beqS bneS isED Int.ofNat_inj List.getElem?_map List.getElem?_eq_getElem Option.map_some ti_int ti_bool ti_str ti_i64 ti_Strs ti_Exs ti_Ex ti_Sts ti_St gd gdB callA resA op1
attribute [local simp] nu1 nu2 nu3 nu4 nu5 nu6 nu7 nu8 nu9 nu10 nu11 nu12 nu13 upd_upd
theorem stsCount_snoc (l:List St)(e:St):stsCount (l++[e])=stsCount l+1+stCount e:=by
 induction l with
 | nil=>simp [stsCount]
 | cons x l ih=>simp only [List.cons_append,stsCount,ih];omega
theorem stsCount_snoc' (l:List St)(i:Nat)(h:i<l.length):stsCount (l.take (i+1))=stsCount (l.take i)+1+stCount l[i]:=by
 rw [take_snoc h,stsCount_snoc]
theorem stsCount_take (l:List St)(i:Nat):stsCount (l.take i)≤stsCount l:=by
 induction l generalizing i with
 | nil=>simp
 | cons x l ih =>
   cases i with
   | zero=>simp [stsCount]
   | succ i=>simp only [List.take_succ_cons,stsCount];have:=ih i;omega
theorem stCount_eq (s:St):stCount s=stsCount s.p4+stsCount s.p5:=by cases s;rw [stCount];rfl
theorem stSz_kids (s:St):stsSz s.p4<stSz s∧stsSz s.p5<stSz s:=by
 cases s;rw [stSz_mk];simp only [St.p4,St.p5];omega
theorem wrapA {a b:Nat}(h:a+b≤lim):IntKind.i64.wrap ((a:Int)+(b:Int))=((a+b:Nat):Int):=by rw [IntKind.wrap_i64];simp only [lim] at h;omega
set_option maxRecDepth 10000 in
set_option maxHeartbeats 4000000 in
theorem tk_count1 (l:List St)(hl:stsSz l≤lim)(ih:∀ m,stsSz m<stsSz l→FCall1 Tryz.prog tkG 41 [.lst (m.map cvS)] (.int .i64 (stsCount m:Nat))) :
  FCall1 Tryz.prog tkG 41 [.lst (l.map cvS)] (.int .i64 (stsCount l:Nat)):=by
 refine FCall.one tkG_pu (by simp [puL,puV,puSs]) rfl ?_;refine FCall.ofBody Tryz.func41 rfl rfl fun nx=>?_
 have hll:l.length≤lim:=by have:=stsSz_len l;omega
 have hcz:=stsCount_sz l;refine gW ?_;refine AWp.countO l.length [3,5,10] 11 (fun i e H1 nx1=>e 10=.int .i64 i∧∃ n:Nat,e 3=.int .i64 n∧n+i=l.length+stsCount (l.take i)) ⟨(by first | (simp (disch:=omega) [putE,over,ofV,ofS, *];done) | (simp (disch:=omega) [putE,over,ofV,ofS, *];rfl)),l.length,(by first | (simp (disch:=omega) [putE,over,ofV,ofS, *];done) | (simp (disch:=omega) [putE,over,ofV,ofS, *];rfl)),by simp [stsCount]⟩ ?_;rintro i v H1 nx1 hi hn1 ⟨h10,n,h3,hn⟩;refine gW ?_
 (((apply AWp.cond');(focus (simp [*,-Ax.CV.bool.injEq];rfl))) <;> (intro hb) <;> (try simp only [decide_eq_true_eq,decide_eq_false_iff_not,Bool.not_eq_true',Bool.not_eq_false',Bool.not_eq_true,Bool.not_eq_false] at hb))
 ·have hlt:i<l.length:=hb;have hwi:=lim_wrap hlt hll;clear hb;have hm:=stsSz_mem (List.getElem_mem hlt);have hk:=stSz_kids l[i];have h1:=ih l[i].p4 (by omega);have h2:=ih l[i].p5 (by omega);have hs:=stsCount_snoc' l i hlt;have hq:=stCount_eq l[i];have ht:=stsCount_take l (i+1);have htl:∀ q,stsCount l=q→q≤lim:=fun q hq=>by omega
  have hcnt:∀ j,j≤l.length→j≤stsCount (l.take j):=by
   intro j hj;have:∀ m:List St,m.length≤stsCount m:=by
    intro m
    induction m with
    | nil=>simp
    | cons a m ih=>simp only [List.length_cons,stsCount];omega
   have:=this (l.take j);rw [List.length_take] at this;omega
  have hdr:l.length-(i+1)+stsCount (l.take (i+1))≤stsCount l:=by
   have:∀ (m:List St) (j:Nat),m.length-j+stsCount (m.take j)≤stsCount m:=by
    intro m
    induction m with
    | nil=>intro j;simp [stsCount]
    | cons a m ih =>
      intro j;cases j with
      | zero =>
        have:=ih 0;simp only [List.take_zero,stsCount] at this ⊢;simp only [List.length_cons];omega
      | succ j =>
        have:=ih j;simp only [List.take_succ_cons,stsCount,List.length_cons] at this ⊢;omega
   exact this l (i+1)
  generalize hse:l[i]=s at *;generalize stsCount s.p4=x1 at *;generalize stsCount s.p5=x2 at *;have w1:=wrapA (a:=x1) (b:=x2) (by omega);have w2:=wrapA (a:=n) (b:=x1+x2) (by omega);have w2':IntKind.i64.wrap ((n:Int)+((x1:Int)+(x2:Int)))=((n+(x1+x2):Nat):Int):=by rw [← w2];rfl
  have hn2:n+(x1+x2)+(i+1)=l.length+stsCount (l.take (i+1)):=by omega
  clear hs w2 hdr hcnt htl ht hcz ih;refine gWf (cvS_eq s) ?_
  (first | (first | (apply AOpl.callN;rfl) | apply ASl.call);(focus simp [cvS_eq s, *,-Option.some.injEq];rfl);kernel_rfl | (first | (apply AOpl.callNG;rfl) | apply ASl.callg);(focus simp [cvS_eq s, *];done);(focus simp [cvS_eq s, *,-Option.some.injEq];rfl);kernel_rfl)
  ·exact h1
  refine gWf (cvS_eq s) ?_
  (first | (first | (apply AOpl.callN;rfl) | apply ASl.call);(focus simp [cvS_eq s, *,-Option.some.injEq];rfl);kernel_rfl | (first | (apply AOpl.callNG;rfl) | apply ASl.callg);(focus simp [cvS_eq s, *];done);(focus simp [cvS_eq s, *,-Option.some.injEq];rfl);kernel_rfl)
  ·exact h2
  refine gW ?_;exact⟨by ((repeat (first | exact Keeps.base _ _ _ _ | (with_reducible exact Keeps.refl _ _ _) | (refine Keeps.put rfl ?_) | (refine Keeps.over' rfl rfl ?_)))),hlt,(by first | (simp (disch:=omega) [putE,over,ofV,ofS, *];done) | (simp (disch:=omega) [putE,over,ofV,ofS, *];rfl)),n+(x1+x2),by simp [putE,over],hn2⟩
 ·have hi':i=l.length:=by omega
  rw [hi',List.take_length] at hn;have e:n=stsCount l:=by omega
  subst e;clear hb ih;refine gW ?_
  (refine⟨_,(by simp [*];rfl),?_⟩;(try simp only [packA]))
theorem tk_count:∀ (N:Nat) (l:List St),stsSz l≤N→stsSz l≤lim→FCall1 Tryz.prog tkG 41 [.lst (l.map cvS)] (.int .i64 (stsCount l:Nat))
 | 0,l,h0,hl=>tk_count1 l hl fun m hm=>absurd hm (by omega)
 | N+1,l,hN,hl=>tk_count1 l hl fun m hm=>tk_count N m (by omega) (by omega)
theorem retT_eq (s:St):retT s=(decide (s.p0=7∨s.p0=8) || (decide (s.p0=4∨s.p0=6) && retsT s.p4 && retsT s.p5)):=by cases s;rw [retT];rfl
set_option maxRecDepth 10000 in
set_option maxHeartbeats 8000000 in
theorem tk_Returns1 (l:List St)(hl:stsSz l≤lim)(ih:∀ m,stsSz m<stsSz l→FCall1 Tryz.prog tkG 48 [.lst (m.map cvS)] (.bool (retsT m))) :
  FCall1 Tryz.prog tkG 48 [.lst (l.map cvS)] (.bool (retsT l)):=by
 refine FCall.one tkG_pu (by simp [puL,puV,puSs]) rfl ?_;refine FCall.ofBody Tryz.func48 rfl rfl fun nx=>?_
 have hll:l.length≤lim:=by have:=stsSz_len l;omega
 obtain⟨w,hw⟩:∃ w,retsT l=w:=⟨_,rfl⟩;rw [hw];refine gW ?_;refine AWp.countO l.length [2,4,7] 8 (fun i e H1 nx1=>e 7=.int .i64 i∧retsT (l.drop i)=w) ⟨(by first | (simp (disch:=omega) [putE,over,ofV,ofS, *];done) | (simp (disch:=omega) [putE,over,ofV,ofS, *];rfl)),hw⟩ ?_;clear hw;rintro i v H1 nx1 hi hn1 ⟨h7,hf⟩;refine gW ?_
 (((apply AWp.cond');(focus (simp [*,-Ax.CV.bool.injEq];rfl))) <;> (intro hb) <;> (try simp only [decide_eq_true_eq,decide_eq_false_iff_not,Bool.not_eq_true',Bool.not_eq_false',Bool.not_eq_true,Bool.not_eq_false] at hb))
 ·have hlt:i<l.length:=hb;have hwi:=lim_wrap hlt hll;clear hb;have hm:=stsSz_mem (List.getElem_mem hlt);have hk:=stSz_kids l[i];have h1:=ih l[i].p4 (by omega);have h2:=ih l[i].p5 (by omega);rw [List.drop_eq_getElem_cons hlt,retsT,retT_eq] at hf;clear ih;generalize hse:l[i]=s at *
  by_cases k8:s.p0=8
  ·rw [k8] at hf;have hw:true=w:=by rw [← hf];rfl
   subst hw;clear hf h1 h2 hk hm;refine gWf (cvS_eq s) ?_
   (refine⟨_,(by simp [*];rfl),?_⟩;(try simp only [packA]))
  by_cases k7:s.p0=7
  ·rw [k7] at hf;have hw:true=w:=by rw [← hf];rfl
   subst hw;clear hf h1 h2 hk hm;refine gWf (cvS_eq s) ?_
   (refine⟨_,(by simp [*];rfl),?_⟩;(try simp only [packA]))
  have hd:decide (s.p0=7∨s.p0=8)=false:=decide_eq_false (by omega);rw [hd,Bool.false_or] at hf;clear hd
  by_cases k46:s.p0=4∨s.p0=6
  case neg =>
   have hd:decide (s.p0=4∨s.p0=6)=false:=decide_eq_false k46;rw [hd,Bool.false_and,Bool.false_and,Bool.false_or] at hf;have k4:¬ s.p0=4:=fun h=>k46 (.inl h)
   have k6:¬ s.p0=6:=fun h=>k46 (.inr h)
   clear hd k46 h1 h2 hk hm;refine gWf (cvS_eq s) ?_;exact⟨by ((repeat (first | exact Keeps.base _ _ _ _ | (with_reducible exact Keeps.refl _ _ _) | (refine Keeps.put rfl ?_) | (refine Keeps.over' rfl rfl ?_)))),hlt,(by first | (simp (disch:=omega) [putE,over,ofV,ofS, *];done) | (simp (disch:=omega) [putE,over,ofV,ofS, *];rfl)),hf⟩
  have hd:decide (s.p0=4∨s.p0=6)=true:=decide_eq_true k46;rw [hd,Bool.true_and] at hf;clear hd;have tail:∀ (r1 r2:Bool),retsT s.p4=r1→retsT s.p5=r2→((r1 && r2) || retsT (l.drop (i+1)))=w:=fun r1 r2 e1 e2=>by rw [← e1,← e2];exact hf
  clear hf;cases r1:retsT s.p4 with
  | false =>
    have hf:=tail _ _ r1 rfl;rw [Bool.false_and,Bool.false_or] at hf;rw [r1] at h1;clear tail r1 h2 hk hm;rcases k46 with k46 | k46
    ·refine gWf (cvS_eq s) ?_
     ((apply Xr);(focus rfl);(focus (first | rfl | (simp [cvS_eq s, *];done)));(focus simp [cvS_eq s, *,-Option.some.injEq];rfl);kernel_rfl)
     ·exact h1 _
     refine gW ?_;exact⟨by ((repeat (first | exact Keeps.base _ _ _ _ | (with_reducible exact Keeps.refl _ _ _) | (refine Keeps.put rfl ?_) | (refine Keeps.over' rfl rfl ?_)))),hlt,(by first | (simp (disch:=omega) [putE,over,ofV,ofS, *];done) | (simp (disch:=omega) [putE,over,ofV,ofS, *];rfl)),hf⟩
    ·refine gWf (cvS_eq s) ?_
     ((apply Xr);(focus rfl);(focus (first | rfl | (simp [cvS_eq s, *];done)));(focus simp [cvS_eq s, *,-Option.some.injEq];rfl);kernel_rfl)
     ·exact h1 _
     refine gW ?_;exact⟨by ((repeat (first | exact Keeps.base _ _ _ _ | (with_reducible exact Keeps.refl _ _ _) | (refine Keeps.put rfl ?_) | (refine Keeps.over' rfl rfl ?_)))),hlt,(by first | (simp (disch:=omega) [putE,over,ofV,ofS, *];done) | (simp (disch:=omega) [putE,over,ofV,ofS, *];rfl)),hf⟩
  | true =>
    cases r2:retsT s.p5 with
    | false =>
      have hf:=tail _ _ r1 r2;rw [Bool.and_false,Bool.false_or] at hf;rw [r1] at h1;rw [r2] at h2;clear tail r1 r2 hk hm;rcases k46 with k46 | k46
      ·refine gWf (cvS_eq s) ?_
       ((apply Xr);(focus rfl);(focus (first | rfl | (simp [cvS_eq s, *];done)));(focus simp [cvS_eq s, *,-Option.some.injEq];rfl);kernel_rfl)
       ·exact h1 _
       refine gWf (cvS_eq s) ?_
       ((apply Xr);(focus rfl);(focus (first | rfl | (simp [cvS_eq s, *];done)));(focus simp [cvS_eq s, *,-Option.some.injEq];rfl);kernel_rfl)
       ·exact h2 _
       refine gW ?_;exact⟨by ((repeat (first | exact Keeps.base _ _ _ _ | (with_reducible exact Keeps.refl _ _ _) | (refine Keeps.put rfl ?_) | (refine Keeps.over' rfl rfl ?_)))),hlt,(by first | (simp (disch:=omega) [putE,over,ofV,ofS, *];done) | (simp (disch:=omega) [putE,over,ofV,ofS, *];rfl)),hf⟩
      ·refine gWf (cvS_eq s) ?_
       ((apply Xr);(focus rfl);(focus (first | rfl | (simp [cvS_eq s, *];done)));(focus simp [cvS_eq s, *,-Option.some.injEq];rfl);kernel_rfl)
       ·exact h1 _
       refine gWf (cvS_eq s) ?_
       ((apply Xr);(focus rfl);(focus (first | rfl | (simp [cvS_eq s, *];done)));(focus simp [cvS_eq s, *,-Option.some.injEq];rfl);kernel_rfl)
       ·exact h2 _
       refine gW ?_;exact⟨by ((repeat (first | exact Keeps.base _ _ _ _ | (with_reducible exact Keeps.refl _ _ _) | (refine Keeps.put rfl ?_) | (refine Keeps.over' rfl rfl ?_)))),hlt,(by first | (simp (disch:=omega) [putE,over,ofV,ofS, *];done) | (simp (disch:=omega) [putE,over,ofV,ofS, *];rfl)),hf⟩
    | true =>
      have hf:=tail _ _ r1 r2;have hw:true=w:=by rw [← hf];rfl
      subst hw;rw [r1] at h1;rw [r2] at h2;clear tail r1 r2 hk hm hf;rcases k46 with k46 | k46
      ·refine gWf (cvS_eq s) ?_
       ((apply Xr);(focus rfl);(focus (first | rfl | (simp [cvS_eq s, *];done)));(focus simp [cvS_eq s, *,-Option.some.injEq];rfl);kernel_rfl)
       ·exact h1 _
       refine gWf (cvS_eq s) ?_
       ((apply Xr);(focus rfl);(focus (first | rfl | (simp [cvS_eq s, *];done)));(focus simp [cvS_eq s, *,-Option.some.injEq];rfl);kernel_rfl)
       ·exact h2 _
       refine gW ?_
       (refine⟨_,(by simp [*];rfl),?_⟩;(try simp only [packA]))
      ·refine gWf (cvS_eq s) ?_
       ((apply Xr);(focus rfl);(focus (first | rfl | (simp [cvS_eq s, *];done)));(focus simp [cvS_eq s, *,-Option.some.injEq];rfl);kernel_rfl)
       ·exact h1 _
       refine gWf (cvS_eq s) ?_
       ((apply Xr);(focus rfl);(focus (first | rfl | (simp [cvS_eq s, *];done)));(focus simp [cvS_eq s, *,-Option.some.injEq];rfl);kernel_rfl)
       ·exact h2 _
       refine gW ?_
       (refine⟨_,(by simp [*];rfl),?_⟩;(try simp only [packA]))
 ·have hi':l.length≤i:=by omega
  rw [List.drop_eq_nil_of_le hi',retsT] at hf;subst hf;clear hb ih;refine gW ?_
  (refine⟨_,(by simp [*];rfl),?_⟩;(try simp only [packA]))
theorem tk_Returns:∀ (N:Nat) (l:List St),stsSz l≤N→stsSz l≤lim→FCall1 Tryz.prog tkG 48 [.lst (l.map cvS)] (.bool (retsT l))
 | 0,l,h0,hl=>tk_Returns1 l hl fun m hm=>absurd hm (by omega)
 | N+1,l,hN,hl=>tk_Returns1 l hl fun m hm=>tk_Returns N m (by omega) (by omega)
end
end Go.Proofs.YtoookjadbhdfhaaGreatDoor
