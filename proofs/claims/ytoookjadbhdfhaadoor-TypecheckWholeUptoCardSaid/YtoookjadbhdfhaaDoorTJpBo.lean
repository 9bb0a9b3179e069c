/-
  All statements of the checker; walked.
-/
import Derived.Test.YtoookjadbhdfhaaDoorTJpBn
set_option linter.unusedSectionVars false
set_option linter.unusedSimpArgs false
set_option linter.unnecessarySimpa false
set_option linter.unusedVariables false
set_option linter.unusedSimpArgs false
set_option linter.unusedVariables false
namespace Go.Proofs.YtoookjadbhdfhaaDoor
section
open Lx Ax Go.RowKit
attribute [local simp] stepS Ax.stepT Dl.on qstep astep estep rd putE over argE ofV ofS loadA pickCells isAggD faddA fieldA partA iaddA idxA sliA bnd binA intA strA unA convA bltA lenA mapOf findK keyD scalD storeA appA srcA srcD upd drp Dl.hp Dl.nx CV.cs CV.one buildA placesA fillA zrep tasA ifaceD eqA eqFs eqIs range2 copyA nbeq nble nblt decEq beqI bneI beqS bneS isED Int.ofNat_inj List.getElem?_map List.getElem?_eq_getElem Option.map_some ti_int ti_bool ti_str ti_i64 ti_Strs ti_Flds ti_Fld ti_Cds ti_Cd ti_Sgs ti_Sg ti_Hi ti_Exs ti_Ex ti_Sts ti_St ti_Chk ti_Flt ti_Errno gd gdB callA resA op1
attribute [local simp] nu1 nu2 nu3 nu4 nu5 nu6 nu7 nu8 nu9 nu10 nu11 nu12 nu13 upd_upd
section
variable (h:List Cd) (cls res:Bytes) (b:Nat)
set_option maxRecDepth 10000 in
set_option maxHeartbeats 16000000 in
theorem tk_st6 (hc:HC h)(nm ty:Bytes)(es:List Ex)(bd el:List St)(h0:shpE 6 es.length bd.length el.length=0)(hnm:nm.length≤maxLen)(hB1:BlOk h cls res b bd)(hB2:BlOk h cls res b el):StOk h cls res b (.mk 6 nm ty es bd el):=by
 intro H nx c sc a hlen hi;refine ACall.of_body Tryd.func45 rfl ?_;have hb:=hi.blk;have qb:=far hi.lt;have hsh:=tk_shape 6 nm ty es bd el;have hsc:sc.length≤lim:=by omega
 have hEx:=fun (a:Int) (e:Ex) (he:exSz e≤lim)=>tk_expr h cls res sc a hc hsc lim e he he
 obtain⟨w,hw⟩:∃ w,stT h cls res sc (.mk 6 nm ty es bd el)=w:=⟨_,rfl⟩;rw [hw];rw [stT] at hw;rw [if_neg (by rw [h0];simp)] at hw;rw [shpT_ok h0] at hsh;have hsh':FRes Tryd.prog tkG 60 [.agg [.int .i64 6,.str nm,.str ty,.lst (es.map cvE),.lst (bd.map cvS),.lst (el.map cvS)]] (.ret (.tup [])):=by rw [Xz] at hsh;exact hsh
 clear hsh
 repeat (first | (first | (apply Xf;rfl) | apply Xj);focus simp [Xz, *,-Option.some.injEq];rfl | (first | (apply Xa;rfl) | apply Xb);(focus simp [Xz, *];done);focus simp [Xz, *,-Option.some.injEq];rfl | (first | (apply Xg;rfl) | apply Xk);(focus simp [Xz, *];done) | (first | refine Xl ?_ | refine Xi ?_ | refine Xh ?_ | refine Xo ?_ | refine Xq ?_);try simp only [Xw,Xx,reduceIte,Nat.reduceEqDiff] | refine Xn ?_ | refine Xp rfl ?_ | refine Xc ?_ | apply Xd;focus simp [Xz, *];done | apply Xe;focus simp [Xz, *];done | refine Ya rfl rfl ?_)
 ((apply Xr);(focus rfl);(focus (first | rfl | (simp [*];done)));(focus simp [*,-Option.some.injEq];rfl);kernel_rfl)
 ·exact hsh' _
 clear hsh';generalize IntKind.i64.wrap (a+1)=a1;generalize hH:upd _ b _=H1;have hb1:H1 b=some (.cells [.lst (h.map cvD),.str cls,.str res,c,.int .i64 a1]):=by rw [← hH,upd_hit]
 have h3:H1 nx=some (.cells [.int .i64 6,.str nm,.str ty,.lst (es.map cvE),.lst (bd.map cvS),.lst (el.map cvS)]):=by rw [← hH];simp [upd, *]
 have hf1:∀ x,x<nx→x≠b→H1 x=H x:=fun x hx hxb=>by rw [← hH,upd_miss _ _ _ _ hxb,upd_miss _ _ _ _ (by omega)]
 have P1:=hi.same hb1 (Nat.le_succ nx) hf1;have hi1:=P1.ck;have hcn:=hi.fresh (Nat.le_refl nx);have hnb:nx≠b:=by have:=hi.lt;omega
 clear hH hb hi qb hf1;have qb:=hi1.lt;have hw':tryT h cls res sc nm ty bd el=w:=by rw [← hw];unfold tryT;rw [if_neg (by decide),if_pos rfl]
 clear hw hEx;have htr:=tk_try h cls res b hc 6 nm ty es bd el hnm hB1 hB2 H1 (nx+1) c sc a1 hlen hi1;rw [hw',Xz] at htr
 repeat (first | (first | (apply Xf;rfl) | apply Xj);focus simp [*,-Option.some.injEq];rfl | (first | (apply Xa;rfl) | apply Xb);(focus simp [*];done);focus simp [*,-Option.some.injEq];rfl | (first | (apply Xg;rfl) | apply Xk);(focus simp [*];done) | (first | refine Xl ?_ | refine Xi ?_ | refine Xh ?_ | refine Xo ?_ | refine Xq ?_);try simp only [Xw,Xx,reduceIte,Nat.reduceEqDiff] | refine Xn ?_ | refine Xp rfl ?_ | refine Xc ?_ | apply Xd;focus simp [*];done | apply Xe;focus simp [*];done | refine Ya rfl rfl ?_)
 ((apply AOpl.callG);(focus rfl);(focus (first | rfl | (simp [*];done)));(focus simp [*,-Option.some.injEq];rfl);kernel_rfl)
 refine htr.mono ?_;rintro r H2 nx2 hq;cases w with
 | error x =>
   obtain⟨rfl,sc',c',a',P3⟩:=hq;exact⟨rfl,sc',c',a',P1.trans P3⟩
 | ok sc2 =>
   obtain⟨rfl,c',a',P3⟩:=hq;simp only;clear htr
   repeat (first | (first | (apply Xf;rfl) | apply Xj);focus simp [*,-Option.some.injEq];rfl | (first | (apply Xa;rfl) | apply Xb);(focus simp [*];done);focus simp [*,-Option.some.injEq];rfl | (first | (apply Xg;rfl) | apply Xk);(focus simp [*];done) | (first | refine Xl ?_ | refine Xi ?_ | refine Xh ?_ | refine Xo ?_ | refine Xq ?_);try simp only [Xw,Xx,reduceIte,Nat.reduceEqDiff] | refine Xn ?_ | refine Xp rfl ?_ | refine Xc ?_ | apply Xd;focus simp [*];done | apply Xe;focus simp [*];done | refine Ya rfl rfl ?_)
   (refine⟨_,(by simp [*];rfl),?_⟩;(try simp only [packA]))
   exact⟨rfl,c',a',P1.trans P3⟩
theorem shp_range {k:Int}{ne nb nl:Nat}(h0:shpE k ne nb nl=0):1≤k∧k≤9:=by
 unfold shpE at h0;split at h0
 ·cases h0
 ·omega
theorem tk_stmt (hc:HC h):∀ (N:Nat) (s:St),stSz s≤N→NmS s→StOk h cls res b s
 | 0,s,h0,_=>absurd (stSz_pos s) (by omega)
 | N+1,.mk k nm ty es bd el,hN,hnm=>by
   rw [stSz_mk] at hN;rw [NmS] at hnm
   by_cases h0:shpE k es.length bd.length el.length=0
   case neg=>exact tk_stShp h cls res b k nm ty es bd el h0
   have hB1:BlOk h cls res b bd:=tk_block h cls res b bd fun s hs=>tk_stmt hc N s (by have:=stsSz_mem hs;omega) (NmSs_mem hnm.2.1 hs)
   have hB2:BlOk h cls res b el:=tk_block h cls res b el fun s hs=>tk_stmt hc N s (by have:=stsSz_mem hs;omega) (NmSs_mem hnm.2.2 hs)
   have hr:=shp_range h0;obtain rfl | rfl | rfl | rfl | rfl | rfl | rfl | rfl | rfl:k=1∨k=2∨k=3∨k=4∨k=5∨k=6∨k=7∨k=8∨k=9:=by omega
   ·exact tk_st1 h cls res b hc nm ty es bd el h0 hnm.1
   ·exact tk_st2 h cls res b hc nm ty es bd el h0
   ·exact tk_st3 h cls res b hc nm ty es bd el h0
   ·exact tk_st4 h cls res b hc nm ty es bd el h0 hB1 hB2
   ·exact tk_st5 h cls res b hc nm ty es bd el h0 hB1 hB2
   ·exact tk_st6 h cls res b hc nm ty es bd el h0 hnm.1 hB1 hB2
   ·exact tk_st7 h cls res b hc nm ty es bd el h0
   ·exact tk_st8 h cls res b hc nm ty es bd el h0
   ·exact tk_st9 h cls res b hc nm ty es bd el h0
theorem tk_blockAll (hc:HC h)(l:List St)(hnm:NmSs l):BlOk h cls res b l:=tk_block h cls res b l fun s hs=>tk_stmt h cls res b hc (stSz s) s (Nat.le_refl _) (NmSs_mem hnm hs)
end
end
section
open Lx Ax Go.RowKit
attribute [local simp] stepS Ax.stepT Dl.on qstep astep estep rd putE over argE ofV ofS loadA pickCells isAggD faddA fieldA partA iaddA idxA sliA bnd binA intA strA unA convA bltA lenA mapOf findK keyD scalD storeA appA srcA srcD upd drp Dl.hp Dl.nx CV.cs CV.one buildA placesA fillA zrep tasA ifaceD eqA eqFs eqIs range2 copyA nbeq nble nblt decEq beqI bneI beqS bneS isED Int.ofNat_inj List.getElem?_map List.getElem?_eq_getElem Option.map_some ti_int ti_bool ti_str ti_i64 ti_Strs ti_Exs ti_Ex ti_Sts ti_St gd gdB callA resA op1
attribute [local simp] nu1 nu2 nu3 nu4 nu5 nu6 nu7 nu8 nu9 nu10 nu11 nu12 nu13 upd_upd
theorem wrapN1 {n:Nat}(h:n≤lim):IntKind.i64.wrap ((n:Int)+1)=((n+1:Nat):Int):=by rw [IntKind.wrap_i64];simp only [lim] at h;omega
theorem tkMax (a b:Nat):(if a<b then (b:Int) else a)=((max a b:Nat):Int):=by
 split <;> omega
theorem exsDepth_snoc' (l:List Ex)(i:Nat)(h:i<l.length):exsDepth (l.take (i+1))=max (exsDepth (l.take i)) (exDepth l[i]):=by
 rw [take_snoc h,exsDepth_snoc]
theorem stsDepth_snoc (l:List St)(e:St):stsDepth (l++[e])=max (stsDepth l) (stDepth e):=by
 induction l with
 | nil=>simp [stsDepth]
 | cons x l ih=>simp only [List.cons_append,stsDepth,ih];omega
theorem stsDepth_snoc' (l:List St)(i:Nat)(h:i<l.length):stsDepth (l.take (i+1))=max (stsDepth (l.take i)) (stDepth l[i]):=by
 rw [take_snoc h,stsDepth_snoc]
set_option maxRecDepth 10000 in
set_option maxHeartbeats 4000000 in
theorem tk_exDepth1 (k n:Int)(o m:Bytes)(ks:List Ex)(hl:exSz (.mk k n o m ks)≤lim)(ih:∀ e∈ks,FCall1 Tryd.prog tkG 29 [.agg (cvE e)] (.int .i64 (exDepth e:Nat))) :
  FCall1 Tryd.prog tkG 29 [.agg (cvE (.mk k n o m ks))] (.int .i64 (exDepth (.mk k n o m ks):Nat)):=by
 refine FCall.one tkG_pu (by simp [puL,puV,puE]) rfl ?_;refine FCall.ofBody Tryd.func29 rfl rfl fun nx=>?_
 rw [exSz_mk] at hl;have hkl:ks.length≤lim:=by have:=exsSz_len ks;omega
 have hd:exsDepth ks≤lim:=by have:=exsDepth_sz ks;omega
 repeat (first | (first | (apply Xf;rfl) | apply Xj);focus simp [cvE_mk, *,-Option.some.injEq];rfl | (first | (apply Xa;rfl) | apply Xb);(focus simp [cvE_mk, *];done);focus simp [cvE_mk, *,-Option.some.injEq];rfl | (first | (apply Xg;rfl) | apply Xk);(focus simp [cvE_mk, *];done) | (first | refine Xl ?_ | refine Xi ?_ | refine Xh ?_ | refine Xo ?_ | refine Xq ?_);try simp only [Xw,Xx,reduceIte,Nat.reduceEqDiff] | refine Xn ?_ | refine Xp rfl ?_ | refine Xc ?_ | apply Xd;focus simp [cvE_mk, *];done | apply Xe;focus simp [cvE_mk, *];done | refine Ya rfl rfl ?_)
 refine AWp.countO ks.length [3,5,9] 10 (fun i e H1 nx1=>e 9=.int .i64 i∧e 3=.int .i64 (exsDepth (ks.take i):Nat)) ⟨(by first | (simp (disch:=omega) [putE,over,ofV,ofS, *];done) | (simp (disch:=omega) [putE,over,ofV,ofS, *];rfl)),by simp [putE,ofV,ofS,exsDepth]⟩ ?_;rintro i v H1 nx1 hi hn1 ⟨h9,h3⟩
 repeat (first | (first | (apply Xf;rfl) | apply Xj);focus simp [*,-Option.some.injEq];rfl | (first | (apply Xa;rfl) | apply Xb);(focus simp [*];done);focus simp [*,-Option.some.injEq];rfl | (first | (apply Xg;rfl) | apply Xk);(focus simp [*];done) | (first | refine Xl ?_ | refine Xi ?_ | refine Xh ?_ | refine Xo ?_ | refine Xq ?_);try simp only [Xw,Xx,reduceIte,Nat.reduceEqDiff] | refine Xn ?_ | refine Xp rfl ?_ | refine Xc ?_ | apply Xd;focus simp [*];done | apply Xe;focus simp [*];done | refine Ya rfl rfl ?_)
 (((apply AWp.cond');(focus (simp [*,-Ax.CV.bool.injEq];rfl))) <;> (intro hb) <;> (try simp only [decide_eq_true_eq,decide_eq_false_iff_not,Bool.not_eq_true',Bool.not_eq_false',Bool.not_eq_true,Bool.not_eq_false] at hb))
 ·have hlt:i<ks.length:=hb;have hwi:=lim_wrap hlt hkl;clear hb;have hx:=ih ks[i] (List.getElem_mem hlt);have hs:=exsDepth_snoc' ks i hlt;generalize hke:ks[i]=x at *;rw [Xy x] at hx;have hm:=tkMax (exsDepth (ks.take i)) (exDepth x);rw [← hs] at hm;clear hs ih
  repeat (first | (first | (apply Xf;rfl) | apply Xj);focus simp [Xy x, *,-Option.some.injEq];rfl | (first | (apply Xa;rfl) | apply Xb);(focus simp [Xy x, *];done);focus simp [Xy x, *,-Option.some.injEq];rfl | (first | (apply Xg;rfl) | apply Xk);(focus simp [Xy x, *];done) | (first | refine Xl ?_ | refine Xi ?_ | refine Xh ?_ | refine Xo ?_ | refine Xq ?_);try simp only [Xw,Xx,reduceIte,Nat.reduceEqDiff] | refine Xn ?_ | refine Xp rfl ?_ | refine Xc ?_ | apply Xd;focus simp [Xy x, *];done | apply Xe;focus simp [Xy x, *];done | refine Ya rfl rfl ?_)
  ((apply Xr);(focus rfl);(focus (first | rfl | (simp [*];done)));(focus simp [*,-Option.some.injEq];rfl);kernel_rfl)
  ·exact hx _
  repeat (first | (first | (apply Xf;rfl) | apply Xj);focus simp [*,-Option.some.injEq];rfl | (first | (apply Xa;rfl) | apply Xb);(focus simp [*];done);focus simp [*,-Option.some.injEq];rfl | (first | (apply Xg;rfl) | apply Xk);(focus simp [*];done) | (first | refine Xl ?_ | refine Xi ?_ | refine Xh ?_ | refine Xo ?_ | refine Xq ?_);try simp only [Xw,Xx,reduceIte,Nat.reduceEqDiff] | refine Xn ?_ | refine Xp rfl ?_ | refine Xc ?_ | apply Xd;focus simp [*];done | apply Xe;focus simp [*];done | refine Ya rfl rfl ?_)
  exact⟨by ((repeat (first | exact Keeps.base _ _ _ _ | (with_reducible exact Keeps.refl _ _ _) | (refine Keeps.put rfl ?_) | (refine Keeps.over' rfl rfl ?_)))),hlt,(by first | (simp (disch:=omega) [putE,over,ofV,ofS, *];done) | (simp (disch:=omega) [putE,over,ofV,ofS, *];rfl)),by simp [putE,over]⟩
 ·have hi':i=ks.length:=by omega
  rw [hi',List.take_length] at h3;have hw:=wrapN1 hd;rw [exDepth];clear ih hb
  repeat (first | (first | (apply Xf;rfl) | apply Xj);focus simp [*,-Option.some.injEq];rfl | (first | (apply Xa;rfl) | apply Xb);(focus simp [*];done);focus simp [*,-Option.some.injEq];rfl | (first | (apply Xg;rfl) | apply Xk);(focus simp [*];done) | (first | refine Xl ?_ | refine Xi ?_ | refine Xh ?_ | refine Xo ?_ | refine Xq ?_);try simp only [Xw,Xx,reduceIte,Nat.reduceEqDiff] | refine Xn ?_ | refine Xp rfl ?_ | refine Xc ?_ | apply Xd;focus simp [*];done | apply Xe;focus simp [*];done | refine Ya rfl rfl ?_)
  (refine⟨_,(by simp [*];rfl),?_⟩;(try simp only [packA]))
  all_goals rfl
theorem tk_exDepth:∀ (N:Nat) (e:Ex),exSz e≤N→exSz e≤lim→FCall1 Tryd.prog tkG 29 [.agg (cvE e)] (.int .i64 (exDepth e:Nat))
 | 0,e,h0,_=>absurd (exSz_pos e) (by omega)
 | N+1,.mk k n o m ks,hN,hl=>by
   have hN':=hN;have hl':=hl;rw [exSz_mk] at hN' hl';refine tk_exDepth1 k n o m ks hl fun e he=>?_
   have:=exsSz_mem he;exact tk_exDepth N e (by omega) (by omega)
set_option maxRecDepth 10000 in
set_option maxHeartbeats 8000000 in
theorem tk_stDepth1 (k:Int)(nm ty:Bytes)(es:List Ex)(b el:List St)(hl:stSz (.mk k nm ty es b el)≤lim)(ih:∀ s,(s∈b∨s∈el)→FCall1 Tryd.prog tkG 22 [.agg (cvS s)] (.int .i64 (stDepth s:Nat))) :
  FCall1 Tryd.prog tkG 22 [.agg (cvS (.mk k nm ty es b el))] (.int .i64 (stDepth (.mk k nm ty es b el):Nat)):=by
 refine FCall.one tkG_pu (by simp [puL,puV,puS]) rfl ?_;refine FCall.ofBody Tryd.func22 rfl rfl fun nx=>?_
 have hdl:=stDepth_sz (.mk k nm ty es b el);rw [stDepth] at hdl ⊢;rw [stSz_mk] at hl hdl;have hE:=fun e (he:exSz e≤lim)=>tk_exDepth lim e he he
 have l1:es.length≤lim:=by have:=exsSz_len es;omega
 have l2:b.length≤lim:=by have:=stsSz_len b;omega
 have l3:el.length≤lim:=by have:=stsSz_len el;omega
 have hwd:=wrapN1 (n:=max (max (exsDepth es) (stsDepth b)) (stsDepth el)) (by omega)
 repeat (first | (first | (apply Xf;rfl) | apply Xj);focus simp [Xz, *,-Option.some.injEq];rfl | (first | (apply Xa;rfl) | apply Xb);(focus simp [Xz, *];done);focus simp [Xz, *,-Option.some.injEq];rfl | (first | (apply Xg;rfl) | apply Xk);(focus simp [Xz, *];done) | (first | refine Xl ?_ | refine Xi ?_ | refine Xh ?_ | refine Xo ?_ | refine Xq ?_);try simp only [Xw,Xx,reduceIte,Nat.reduceEqDiff] | refine Xn ?_ | refine Xp rfl ?_ | refine Xc ?_ | apply Xd;focus simp [Xz, *];done | apply Xe;focus simp [Xz, *];done | refine Ya rfl rfl ?_)
 refine AWp.countO es.length [3,5,13] 14 (fun i e H1 nx1=>e 13=.int .i64 i∧e 3=.int .i64 (exsDepth (es.take i):Nat)∧H1 nx=some (.cells [.int .i64 k,.str nm,.str ty,.lst (es.map cvE),.lst (b.map cvS),.lst (el.map cvS)])) ⟨(by first | (simp (disch:=omega) [putE,over,ofV,ofS, *];done) | (simp (disch:=omega) [putE,over,ofV,ofS, *];rfl)),by simp [putE,ofV,ofS,exsDepth],by simp [upd]⟩ ?_;rintro i v H1 nx1 hi hn1 ⟨h13,h3,hC⟩;have q1:=far (show nx<nx1 by omega)
 repeat (first | (first | (apply Xf;rfl) | apply Xj);focus simp [*,-Option.some.injEq];rfl | (first | (apply Xa;rfl) | apply Xb);(focus simp [*];done);focus simp [*,-Option.some.injEq];rfl | (first | (apply Xg;rfl) | apply Xk);(focus simp [*];done) | (first | refine Xl ?_ | refine Xi ?_ | refine Xh ?_ | refine Xo ?_ | refine Xq ?_);try simp only [Xw,Xx,reduceIte,Nat.reduceEqDiff] | refine Xn ?_ | refine Xp rfl ?_ | refine Xc ?_ | apply Xd;focus simp [*];done | apply Xe;focus simp [*];done | refine Ya rfl rfl ?_)
 (((apply AWp.cond');(focus (simp [*,-Ax.CV.bool.injEq];rfl))) <;> (intro hb) <;> (try simp only [decide_eq_true_eq,decide_eq_false_iff_not,Bool.not_eq_true',Bool.not_eq_false',Bool.not_eq_true,Bool.not_eq_false] at hb))
 ·have hlt:i<es.length:=hb;have hwi:=lim_wrap hlt l1;clear hb;have hx:=hE es[i] (by have:=exsSz_mem (List.getElem_mem hlt);omega);have hs:=exsDepth_snoc' es i hlt;generalize hke:es[i]=x at *;rw [Xy x] at hx;have hm:=tkMax (exsDepth (es.take i)) (exDepth x);rw [← hs] at hm;clear hs ih
  repeat (first | (first | (apply Xf;rfl) | apply Xj);focus simp [Xy x, *,-Option.some.injEq];rfl | (first | (apply Xa;rfl) | apply Xb);(focus simp [Xy x, *];done);focus simp [Xy x, *,-Option.some.injEq];rfl | (first | (apply Xg;rfl) | apply Xk);(focus simp [Xy x, *];done) | (first | refine Xl ?_ | refine Xi ?_ | refine Xh ?_ | refine Xo ?_ | refine Xq ?_);try simp only [Xw,Xx,reduceIte,Nat.reduceEqDiff] | refine Xn ?_ | refine Xp rfl ?_ | refine Xc ?_ | apply Xd;focus simp [Xy x, *];done | apply Xe;focus simp [Xy x, *];done | refine Ya rfl rfl ?_)
  ((apply Xr);(focus rfl);(focus (first | rfl | (simp [*];done)));(focus simp [*,-Option.some.injEq];rfl);kernel_rfl)
  ·exact hx _
  repeat (first | (first | (apply Xf;rfl) | apply Xj);focus simp [*,-Option.some.injEq];rfl | (first | (apply Xa;rfl) | apply Xb);(focus simp [*];done);focus simp [*,-Option.some.injEq];rfl | (first | (apply Xg;rfl) | apply Xk);(focus simp [*];done) | (first | refine Xl ?_ | refine Xi ?_ | refine Xh ?_ | refine Xo ?_ | refine Xq ?_);try simp only [Xw,Xx,reduceIte,Nat.reduceEqDiff] | refine Xn ?_ | refine Xp rfl ?_ | refine Xc ?_ | apply Xd;focus simp [*];done | apply Xe;focus simp [*];done | refine Ya rfl rfl ?_)
  exact⟨by ((repeat (first | exact Keeps.base _ _ _ _ | (with_reducible exact Keeps.refl _ _ _) | (refine Keeps.put rfl ?_) | (refine Keeps.over' rfl rfl ?_)))),hlt,(by first | (simp (disch:=omega) [putE,over,ofV,ofS, *];done) | (simp (disch:=omega) [putE,over,ofV,ofS, *];rfl)),by simp [putE,over],by simp [upd, *]⟩
 have hi':i=es.length:=by omega
 rw [hi',List.take_length] at h3;clear hi' hb hi h13 hE
 repeat (first | (first | (apply Xf;rfl) | apply Xj);focus simp [*,-Option.some.injEq];rfl | (first | (apply Xa;rfl) | apply Xb);(focus simp [*];done);focus simp [*,-Option.some.injEq];rfl | (first | (apply Xg;rfl) | apply Xk);(focus simp [*];done) | (first | refine Xl ?_ | refine Xi ?_ | refine Xh ?_ | refine Xo ?_ | refine Xq ?_);try simp only [Xw,Xx,reduceIte,Nat.reduceEqDiff] | refine Xn ?_ | refine Xp rfl ?_ | refine Xc ?_ | apply Xd;focus simp [*];done | apply Xe;focus simp [*];done | refine Ya rfl rfl ?_)
 generalize hd1:exsDepth es=d1 at *;refine AWp.countO b.length [3,7,25] 26 (fun i e H1 nx1=>e 25=.int .i64 i∧e 3=.int .i64 ((max d1 (stsDepth (b.take i)):Nat):Int)∧H1 nx=some (.cells [.int .i64 k,.str nm,.str ty,.lst (es.map cvE),.lst (b.map cvS),.lst (el.map cvS)])) ⟨(by first | (simp (disch:=omega) [putE,over,ofV,ofS, *];done) | (simp (disch:=omega) [putE,over,ofV,ofS, *];rfl)),by simp [putE,over,stsDepth,h3],hC⟩ ?_;clear hC h3 q1;rintro j v2 H2 nx2 hi hn2 ⟨h25,h3,hC⟩;have q1:=far (show nx<nx2 by omega)
 repeat (first | (first | (apply Xf;rfl) | apply Xj);focus simp [*,-Option.some.injEq];rfl | (first | (apply Xa;rfl) | apply Xb);(focus simp [*];done);focus simp [*,-Option.some.injEq];rfl | (first | (apply Xg;rfl) | apply Xk);(focus simp [*];done) | (first | refine Xl ?_ | refine Xi ?_ | refine Xh ?_ | refine Xo ?_ | refine Xq ?_);try simp only [Xw,Xx,reduceIte,Nat.reduceEqDiff] | refine Xn ?_ | refine Xp rfl ?_ | refine Xc ?_ | apply Xd;focus simp [*];done | apply Xe;focus simp [*];done | refine Ya rfl rfl ?_)
 (((apply AWp.cond');(focus (simp [*,-Ax.CV.bool.injEq];rfl))) <;> (intro hb) <;> (try simp only [decide_eq_true_eq,decide_eq_false_iff_not,Bool.not_eq_true',Bool.not_eq_false',Bool.not_eq_true,Bool.not_eq_false] at hb))
 ·have hlt:j<b.length:=hb;have hwi:=lim_wrap hlt l2;clear hb;have hx:=ih b[j] (.inl (List.getElem_mem hlt));have hs:max d1 (stsDepth (b.take (j+1)))=max (max d1 (stsDepth (b.take j))) (stDepth b[j]):=by rw [stsDepth_snoc' b j hlt];omega
  generalize hke:b[j]=x at *;rw [cvS_eq x] at hx;have hm:=tkMax (max d1 (stsDepth (b.take j))) (stDepth x);rw [← hs] at hm;clear hs ih;generalize max d1 (stsDepth (b.take (j+1)))=d3 at *;generalize max d1 (stsDepth (b.take j))=d2 at *
  repeat (first | (first | (apply Xf;rfl) | apply Xj);focus simp [cvS_eq x, *,-Option.some.injEq];rfl | (first | (apply Xa;rfl) | apply Xb);(focus simp [cvS_eq x, *];done);focus simp [cvS_eq x, *,-Option.some.injEq];rfl | (first | (apply Xg;rfl) | apply Xk);(focus simp [cvS_eq x, *];done) | (first | refine Xl ?_ | refine Xi ?_ | refine Xh ?_ | refine Xo ?_ | refine Xq ?_);try simp only [Xw,Xx,reduceIte,Nat.reduceEqDiff] | refine Xn ?_ | refine Xp rfl ?_ | refine Xc ?_ | apply Xd;focus simp [cvS_eq x, *];done | apply Xe;focus simp [cvS_eq x, *];done | refine Ya rfl rfl ?_)
  ((apply Xr);(focus rfl);(focus (first | rfl | (simp [*];done)));(focus simp [*,-Option.some.injEq];rfl);kernel_rfl)
  ·exact hx _
  repeat (first | (first | (apply Xf;rfl) | apply Xj);focus simp [*,-Option.some.injEq];rfl | (first | (apply Xa;rfl) | apply Xb);(focus simp [*];done);focus simp [*,-Option.some.injEq];rfl | (first | (apply Xg;rfl) | apply Xk);(focus simp [*];done) | (first | refine Xl ?_ | refine Xi ?_ | refine Xh ?_ | refine Xo ?_ | refine Xq ?_);try simp only [Xw,Xx,reduceIte,Nat.reduceEqDiff] | refine Xn ?_ | refine Xp rfl ?_ | refine Xc ?_ | apply Xd;focus simp [*];done | apply Xe;focus simp [*];done | refine Ya rfl rfl ?_)
  exact⟨by ((repeat (first | exact Keeps.base _ _ _ _ | (with_reducible exact Keeps.refl _ _ _) | (refine Keeps.put rfl ?_) | (refine Keeps.over' rfl rfl ?_)))),hlt,(by first | (simp (disch:=omega) [putE,over,ofV,ofS, *];done) | (simp (disch:=omega) [putE,over,ofV,ofS, *];rfl)),by simp [putE,over],by simp [upd, *]⟩
 have hj':j=b.length:=by omega
 rw [hj',List.take_length] at h3;clear hj' hb hi h25;generalize hd2:max d1 (stsDepth b)=d2 at *
 repeat (first | (first | (apply Xf;rfl) | apply Xj);focus simp [*,-Option.some.injEq];rfl | (first | (apply Xa;rfl) | apply Xb);(focus simp [*];done);focus simp [*,-Option.some.injEq];rfl | (first | (apply Xg;rfl) | apply Xk);(focus simp [*];done) | (first | refine Xl ?_ | refine Xi ?_ | refine Xh ?_ | refine Xo ?_ | refine Xq ?_);try simp only [Xw,Xx,reduceIte,Nat.reduceEqDiff] | refine Xn ?_ | refine Xp rfl ?_ | refine Xc ?_ | apply Xd;focus simp [*];done | apply Xe;focus simp [*];done | refine Ya rfl rfl ?_)
 refine AWp.countO el.length [3,9,37] 38 (fun i e H1 nx1=>e 37=.int .i64 i∧e 3=.int .i64 ((max d2 (stsDepth (el.take i)):Nat):Int)∧H1 nx=some (.cells [.int .i64 k,.str nm,.str ty,.lst (es.map cvE),.lst (b.map cvS),.lst (el.map cvS)])) ⟨(by first | (simp (disch:=omega) [putE,over,ofV,ofS, *];done) | (simp (disch:=omega) [putE,over,ofV,ofS, *];rfl)),by simp [putE,over,stsDepth,h3],hC⟩ ?_;clear hC h3 q1;rintro j v2 H2 nx2 hi hn2 ⟨h37,h3,hC⟩;have q1:=far (show nx<nx2 by omega)
 repeat (first | (first | (apply Xf;rfl) | apply Xj);focus simp [*,-Option.some.injEq];rfl | (first | (apply Xa;rfl) | apply Xb);(focus simp [*];done);focus simp [*,-Option.some.injEq];rfl | (first | (apply Xg;rfl) | apply Xk);(focus simp [*];done) | (first | refine Xl ?_ | refine Xi ?_ | refine Xh ?_ | refine Xo ?_ | refine Xq ?_);try simp only [Xw,Xx,reduceIte,Nat.reduceEqDiff] | refine Xn ?_ | refine Xp rfl ?_ | refine Xc ?_ | apply Xd;focus simp [*];done | apply Xe;focus simp [*];done | refine Ya rfl rfl ?_)
 (((apply AWp.cond');(focus (simp [*,-Ax.CV.bool.injEq];rfl))) <;> (intro hb) <;> (try simp only [decide_eq_true_eq,decide_eq_false_iff_not,Bool.not_eq_true',Bool.not_eq_false',Bool.not_eq_true,Bool.not_eq_false] at hb))
 ·have hlt:j<el.length:=hb;have hwi:=lim_wrap hlt l3;clear hb;have hx:=ih el[j] (.inr (List.getElem_mem hlt));have hs:max d2 (stsDepth (el.take (j+1)))=max (max d2 (stsDepth (el.take j))) (stDepth el[j]):=by rw [stsDepth_snoc' el j hlt];omega
  generalize hke:el[j]=x at *;rw [cvS_eq x] at hx;have hm:=tkMax (max d2 (stsDepth (el.take j))) (stDepth x);rw [← hs] at hm;clear hs ih;generalize max d2 (stsDepth (el.take (j+1)))=d3 at *;generalize max d2 (stsDepth (el.take j))=d4 at *
  repeat (first | (first | (apply Xf;rfl) | apply Xj);focus simp [cvS_eq x, *,-Option.some.injEq];rfl | (first | (apply Xa;rfl) | apply Xb);(focus simp [cvS_eq x, *];done);focus simp [cvS_eq x, *,-Option.some.injEq];rfl | (first | (apply Xg;rfl) | apply Xk);(focus simp [cvS_eq x, *];done) | (first | refine Xl ?_ | refine Xi ?_ | refine Xh ?_ | refine Xo ?_ | refine Xq ?_);try simp only [Xw,Xx,reduceIte,Nat.reduceEqDiff] | refine Xn ?_ | refine Xp rfl ?_ | refine Xc ?_ | apply Xd;focus simp [cvS_eq x, *];done | apply Xe;focus simp [cvS_eq x, *];done | refine Ya rfl rfl ?_)
  ((apply Xr);(focus rfl);(focus (first | rfl | (simp [*];done)));(focus simp [*,-Option.some.injEq];rfl);kernel_rfl)
  ·exact hx _
  repeat (first | (first | (apply Xf;rfl) | apply Xj);focus simp [*,-Option.some.injEq];rfl | (first | (apply Xa;rfl) | apply Xb);(focus simp [*];done);focus simp [*,-Option.some.injEq];rfl | (first | (apply Xg;rfl) | apply Xk);(focus simp [*];done) | (first | refine Xl ?_ | refine Xi ?_ | refine Xh ?_ | refine Xo ?_ | refine Xq ?_);try simp only [Xw,Xx,reduceIte,Nat.reduceEqDiff] | refine Xn ?_ | refine Xp rfl ?_ | refine Xc ?_ | apply Xd;focus simp [*];done | apply Xe;focus simp [*];done | refine Ya rfl rfl ?_)
  exact⟨by ((repeat (first | exact Keeps.base _ _ _ _ | (with_reducible exact Keeps.refl _ _ _) | (refine Keeps.put rfl ?_) | (refine Keeps.over' rfl rfl ?_)))),hlt,(by first | (simp (disch:=omega) [putE,over,ofV,ofS, *];done) | (simp (disch:=omega) [putE,over,ofV,ofS, *];rfl)),by simp [putE,over],by simp [upd, *]⟩
 have hj':j=el.length:=by omega
 rw [hj',List.take_length] at h3;clear hj' hb hi h37 ih hC;generalize max d2 (stsDepth el)=d3 at *
 repeat (first | (first | (apply Xf;rfl) | apply Xj);focus simp [*,-Option.some.injEq];rfl | (first | (apply Xa;rfl) | apply Xb);(focus simp [*];done);focus simp [*,-Option.some.injEq];rfl | (first | (apply Xg;rfl) | apply Xk);(focus simp [*];done) | (first | refine Xl ?_ | refine Xi ?_ | refine Xh ?_ | refine Xo ?_ | refine Xq ?_);try simp only [Xw,Xx,reduceIte,Nat.reduceEqDiff] | refine Xn ?_ | refine Xp rfl ?_ | refine Xc ?_ | apply Xd;focus simp [*];done | apply Xe;focus simp [*];done | refine Ya rfl rfl ?_)
 (refine⟨_,(by simp [*];rfl),?_⟩;(try simp only [packA]))
 all_goals rfl
theorem tk_stDepth:∀ (N:Nat) (s:St),stSz s≤N→stSz s≤lim→FCall1 Tryd.prog tkG 22 [.agg (cvS s)] (.int .i64 (stDepth s:Nat))
 | 0,s,h0,_=>absurd (stSz_pos s) (by omega)
 | N+1,.mk k nm ty es b el,hN,hl=>by
   have hN':=hN;have hl':=hl;rw [stSz_mk] at hN' hl';refine tk_stDepth1 k nm ty es b el hl fun s hs=>?_
   rcases hs with hs | hs
   ·have:=stsSz_mem hs;exact tk_stDepth N s (by omega) (by omega)
   ·have:=stsSz_mem hs;exact tk_stDepth N s (by omega) (by omega)
end
end Go.Proofs.YtoookjadbhdfhaaDoor
