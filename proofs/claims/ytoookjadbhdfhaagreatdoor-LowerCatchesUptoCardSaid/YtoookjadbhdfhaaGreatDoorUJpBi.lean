/-
  The builder's stmt: choices and loops; walked.
-/
import Derived.Test.YtoookjadbhdfhaaGreatDoorUJpBh
import Derived.Test.YtoookjadbhdfhaaGreatDoorUJpBg
set_option linter.unusedSectionVars false
set_option linter.unusedSimpArgs false
set_option linter.unnecessarySimpa false
set_option linter.unusedVariables false
set_option linter.unusedSimpArgs false
set_option linter.unusedVariables false
namespace Go.Proofs.YtoookjadbhdfhaaGreatDoor
section
open Lx Ax Go.RowKit
attribute [local simp] stepS Ax.stepT Dl.on qstep astep estep rd putE over argE ofV ofS loadA pickCells isAggD faddA fieldA partA iaddA idxA sliA bnd binA intA strA unA convA bltA mapOf findK keyD scalD storeA appA srcA srcD upd drp Dl.hp Dl.nx CV.cs CV.one buildA placesA fillA zrep tasA ifaceD eqA eqFs eqIs range2 copyA nbeq nble nblt decEq beqI bneI beqS bneS isED Int.ofNat_inj List.getElem?_map List.getElem?_eq_getElem Option.map_some ti_int ti_bool ti_str ti_i64 ti_Strs ti_Flds ti_Fld ti_Ints ti_Ins ti_In ti_Bd ti_Kd ti_Kf ti_Pb ti_Ex ti_Exs ti_St ti_Sts gd gdB callA resA op1
attribute [local simp] nu1 nu2 nu3 nu4 nu5 nu6 nu7 nu8 nu9 nu10 nu11 nu12 nu13 upd_upd
section
variable {h:List Cd} {cls res:Bytes} {T:List Fld}
set_option maxRecDepth 10000 in
set_option maxHeartbeats 8000000 in
theorem lw_st4 (nm ty:Bytes)(es:List Ex)(bd el:List St)(hB1:BlOkL h cls res T bd)(hB2:BlOkL h cls res T el):StOkL h cls res T (.mk 4 nm ty es bd el):=by
 intro X H nx z b sc sc' hi hx hk hp hok;refine DCall.of_body Tryz.func54 rfl ?_;have hlX:=hi.lt;have q0:=far hlX;have hch:=fun H2 n2 z2 (hb:BdI h X H2 n2 z2 b)=>lw_choice nm ty es bd el hB1 hB2 X H2 n2 z2 b sc sc' hb hx hk hp hok
 simp only [Ya] at hch;refine gDf Ya ?_;have r:=Run.box hi (.cells [.int .i64 4,.str nm,.str ty,.lst (es.map cvE),.lst (bd.map cvS),.lst (el.map cvS)])
 ((apply DOpl.callD);(focus rfl);(focus (first | rfl | (simp [*];done)));(focus simp [*,-Option.some.injEq];rfl);kernel_rfl)
 ·exact hch _ _ _ r.bd
 rintro vv H3 n3 ⟨rfl,p⟩;obtain⟨z3,r3,-⟩:=r.call p;clear hch;refine gD ?_
 (refine⟨_,(by simp [*];rfl),?_⟩;(try simp only [packA]))
 exact⟨_,rfl,rfl,r3.fin⟩
set_option maxRecDepth 10000 in
set_option maxHeartbeats 8000000 in
theorem lw_st5 (nm ty:Bytes)(es:List Ex)(bd el:List St)(hB1:BlOkL h cls res T bd):StOkL h cls res T (.mk 5 nm ty es bd el):=by
 intro X H nx z b sc sc' hi hx hk hp hok;refine DCall.of_body Tryz.func54 rfl ?_;have hlX:=hi.lt;have q0:=far hlX;obtain⟨e,t,rfl,ht⟩:=st_one hk (by omega) (by omega) (by omega);obtain⟨u1,u2,hu1,hu2,-⟩:=st_45 hk (.inr rfl);rw [stSz] at hok;have hpB0:Pre b.next (locsS bd) b.vars:=by
  rw [locS,if_neg (by omega),if_neg (by omega)] at hp;simp only [List.nil_append,List.append_nil] at hp;exact hp.left
 have hL:=locsS_len bd;rw [stB,if_neg (by omega),if_pos rfl];have o0:op0B h b [e] 0=opB h b e:=rfl;simp only;rw [o0];have hcall:=fun H2 n2 z2 (hb2:BdI h X H2 n2 z2 b)=>lw_op e X H2 n2 z2 b t hb2 hx ht (hok.b (by simp only [exsSz];omega))
 have g1:=opB_grs h e b;simp only [Xz e] at hcall;have hx1:=hx.op ht;have k1:=opB_kp h e b;simp only [exsSz] at hok;obtain⟨O,J,hci⟩:=hx.ci;obtain⟨-,⟨-,V1,e1⟩,-⟩:=opB_C e b t ht hci hx.vs;have hlc:∀ H',lenA Tryz.prog H' 44 z.c=some (.int .i64 b.code.length):=hi.c.len ti_Ins;have hX:H X=some (.cells ([.lst (h.map cvD),z.v,z.c,.int .i64 b.slots,.int .i64 b.next,z.s,.int .i64 b.handler,z.t]++knd X)):=hi.blk;simp only [knd,List.cons_append,List.nil_append] at hX;refine gDf (And.intro Ya (Xz e)) ?_;have r:=Run.box hi (.cells [.int .i64 5,.str nm,.str ty,.lst [[.int .i64 e.kind,.int .i64 e.n,.str e.of,.str e.name,.lst (e.kids.map cvE)]],.lst (bd.map cvS),.lst (el.map cvS)])
 ((apply DOpl.callD);(focus rfl);(focus (first | rfl | (simp [*];done)));(focus simp [*,-Option.some.injEq];rfl);kernel_rfl)
 ·exact hcall _ _ _ r.bd
 rintro vv H3 n3 ⟨rfl,p⟩;obtain⟨z3,r3,e3⟩:=r.call p;have g03:=e3 nx (Nat.le_refl _) (Nat.lt_succ_self _);rw [upd_hit] at g03;clear e3 hcall p hX hlc;generalize (opB h b e).2=a at *;generalize (opB h b e).1=b1 at *;refine gD ?_
 ((apply DOpl.callD);(focus rfl);(focus (first | rfl | (simp [*];done)));(focus simp [*,-Option.some.injEq];rfl);kernel_rfl)
 ·exact lw_em r3.bd _ _ _ _ _ _ _ _ (by have:=hok.c;have:=g1.c;omega)
 rintro vv H4 n4 ⟨rfl,p⟩;obtain⟨z4,r4,e4⟩:=r3.call (b2:=brB b1 a) p;have g04:=e4 nx (Nat.le_refl _) (Nat.lt_succ_self _);rw [g03] at g04;have g2:GrS b (brB b1 a) _ _:=g1.trans (GrS.em _ _);have hl2:b1.code.length+1=(brB b1 a).code.length:=by simp [brB,emitB]
 have hx2:LwX h cls T sc (brB b1 a):=hx1.em _ (by simp) (by simp) (by simp);have g3:GrS b (jmpB (brB b1 a) 0) _ _:=g2.trans (GrS.em _ _);have hx3:LwX h cls T sc (jmpB (brB b1 a) 0):=hx2.em _ (by simp) (by simp) (by simp);have hl3:(jmpB (brB b1 a) 0).code.length=(brB b1 a).code.length+1:=by simp [jmpB,emitB]
 have hpB:Pre (jmpB (brB b1 a) 0).next (locsS bd) (jmpB (brB b1 a) 0).vars:=by
  show Pre b1.next (locsS bd) b1.vars
  rw [k1.x,e1];exact hpB0.grow
 rw [hl2];clear k1 e1 hpB0 hx1 e4 p r3;generalize brB b1 a=b2 at *;refine gD ?_
 ((apply DOpl.callD);(focus rfl);(focus (first | rfl | (simp [*];done)));(focus simp [*,-Option.some.injEq];rfl);kernel_rfl)
 ·exact lw_em r4.bd _ _ _ _ _ _ _ _ (by have:=hok.c;have:=g2.c;omega)
 rintro vv H5 n5 ⟨rfl,p⟩;obtain⟨z5,r5,e5⟩:=r4.call (b2:=jmpB b2 0) p;have g05:=e5 nx (Nat.le_refl _) (Nat.lt_succ_self _);rw [g04] at g05;clear e5 p r4 g04;generalize jmpB b2 0=b3 at *;refine gD ?_
 ((apply DOpl.callD);(focus rfl);(focus (first | rfl | (simp [*];done)));(focus simp [*,-Option.some.injEq];rfl);kernel_rfl)
 ·exact lw_here r5.bd b1.code.length (by omega) (by have:=hok.c;have:=g3.c;omega)
 rintro vv H6 n6 ⟨rfl,p⟩;obtain⟨z6,r6,e6⟩:=r5.call p;have g06:=e6 nx (Nat.le_refl _) (Nat.lt_succ_self _);rw [g05] at g06;have g4:=g3.trans (GrS.here b3 b1.code.length);have hx4:=hx3.here b1.code.length;have s4:(hereB b3 b1.code.length).scope=b3.scope:=(here_kept b3 b1.code.length).scope;have lc4:b3.code.length≤(hereB b3 b1.code.length).code.length:=(GrS.here b3 b1.code.length).lc;have hpB4:Pre (hereB b3 b1.code.length).next (locsS bd) (hereB b3 b1.code.length).vars:=by
  rw [here_vars,(here_kept b3 b1.code.length).next];exact hpB
 have hE:=fun H' n' (hb:BdI h X H' n' z6 (hereB b3 b1.code.length))=>hB1 X H' n' z6 _ sc u1 hb hx4 hu1 hpB4 (hok.grow g4 (by omega) (by omega))
 rw [s4] at hE;clear e6 p r5 g05 hpB hpB4 hx3 hx2;generalize hereB b3 b1.code.length=b4 at *;have g5:=(blB_gr h bd b4).trans (GrS.cut _ b3.scope.length);refine gD ?_
 ((apply DOpl.callD);(focus rfl);(focus (first | rfl | (simp [*];done)));(focus simp [*,-Option.some.injEq];rfl);kernel_rfl)
 ·exact hE _ _ r6.bd
 rintro vv H7 n7 ⟨rfl,p⟩;obtain⟨z7,r7,e7⟩:=r6.call p;have g6:=g4.trans g5;have lc5:=g5.lc;clear hE e7 p r6 g5;generalize cutB (blB h b4 bd) b3.scope.length=b5 at *;refine gD ?_
 ((apply DOpl.callD);(focus rfl);(focus (first | rfl | (simp [*];done)));(focus simp [*,-Option.some.injEq];rfl);kernel_rfl)
 ·exact lw_em r7.bd _ _ _ _ _ _ _ _ (by have:=hok.c;have:=g6.c;omega)
 rintro vv H8 n8 ⟨rfl,p⟩;obtain⟨z8,r8,e8⟩:=r7.call (b2:=jmpB b5 b.code.length) p;have hl8:(jmpB b5 b.code.length).code.length=b5.code.length+1:=by simp [jmpB,emitB]
 clear e8 p r7;generalize jmpB b5 b.code.length=b6 at *;refine gD ?_
 ((apply DOpl.callD);(focus rfl);(focus (first | rfl | (simp [*];done)));(focus simp [*,-Option.some.injEq];rfl);kernel_rfl)
 ·exact lw_here r8.bd b2.code.length (by omega) (by have:=hok.c;have:=g6.c;omega)
 rintro vv H9 n9 ⟨rfl,p⟩;obtain⟨z9,r9,-⟩:=r8.call p;refine gD ?_
 (refine⟨_,(by simp [*];rfl),?_⟩;(try simp only [packA]))
 exact⟨_,rfl,rfl,r9.fin⟩
end
end
section
open Lx Ax Go.RowKit
def tryB1 (b:Bl):Bl:=handB (hndB b) b.handlers.length
def tryB2 (h:List Cd)(b:Bl)(bd:List St):Bl:=handB (cutB (blB h (tryB1 b) bd) (tryB1 b).scope.length) b.handler
def tryB4 (b3:Bl)(n:Nat)(ty:Bytes):Bl:=setH (catB b3 ty) n b3.code.length
theorem stB6 (h:List Cd)(b:Bl)(nm ty:Bytes)(es:List Ex)(bd el:List St):stB h b (.mk 6 nm ty es bd el) =
  hereB (cutB (cutB (blB h (tryB4 (jmpB (tryB2 h b bd) 0) b.handlers.length ty) el) (tryB4 (jmpB (tryB2 h b bd) 0) b.handlers.length ty).scope.length) (jmpB (tryB2 h b bd) 0).scope.length) (tryB2 h b bd).code.length:=by
 rw [stB,if_neg (by omega),if_neg (by omega),if_pos rfl];rfl
section
variable {h:List Cd} {cls res:Bytes} {T sc sc':List Fld} {b:Bl}
theorem try_C {nm ty:Bytes}{es:List Ex}{bd el:List St}(hk:stT h cls res sc (.mk 6 nm ty es bd el)=.ok sc')(hx:LwX h cls T sc b)(hp:Pre b.next (locS (.mk 6 nm ty es bd el)) b.vars) :
  (∃ u,blT h cls res sc bd=.ok u)∧LwX h cls T sc (tryB1 b)∧Pre (tryB1 b).next (locsS bd) (tryB1 b).vars ∧
  (∃ u,blT h cls res (sc++[⟨nm,ty⟩]) el=.ok u)∧LwX h cls T (sc++[⟨nm,ty⟩]) (tryB4 (jmpB (tryB2 h b bd) 0) b.handlers.length ty)∧Pre (tryB4 (jmpB (tryB2 h b bd) 0) b.handlers.length ty).next (locsS el) (tryB4 (jmpB (tryB2 h b bd) 0) b.handlers.length ty).vars∧(tryB2 h b bd).scope=b.scope:=by
 have hs:=st_shp0 hk;rw [stT,if_neg (by simpa using hs),if_neg (by omega),if_pos rfl] at hk;obtain⟨O,J,hc⟩:=hx.ci;have hv:=hx.vs;obtain⟨c0,hk⟩:=and_ok hk;obtain⟨n1,n2,n3⟩:=new_ok c0;obtain⟨c1,hk⟩:=and_ok hk;obtain⟨c2,hk⟩:=and_ok hk;cases hk;obtain⟨u1,hu1⟩:=ok_of c1;obtain⟨u2,hu2⟩:=ok_of c2;have hloc:locS (.mk 6 nm ty es bd el)=locsS bd++(⟨nm,ty⟩::locsS el):=by
  rw [locS,if_neg (by omega),if_pos rfl];simp
 rw [hloc] at hp;have hw:b.handlers.length ∉ O:=fun hm=>by have:=hc.oin _ hm;omega
 have hhd:b.handler≠(b.handlers.length:Int):=by
  rcases hc.hd with e | ⟨o,e1,e2⟩
  ·rw [e];omega
  ·have:=hc.oin o e1;rw [e2];omega
 have hv1:VS cls T sc (tryB1 b):=hv.back rfl ⟨[],by simp [tryB1,handB,hndB]⟩;obtain⟨sc2,o2⟩:=blB_C bd (b.handlers.length::O) J sc (tryB1 b) u1 hu1 hc.enter hv1 (by
  show Pre b.next (locsS bd) b.vars
  exact hp.left)
 refine⟨⟨u1,hu1⟩,⟨hx.hb,⟨_,J,hc.enter⟩,hv1⟩,hp.left,⟨u2,hu2⟩,?_⟩;have ub2:tryB2 h b bd=handB (cutB (blB h (tryB1 b) bd) (tryB1 b).scope.length) b.handler:=rfl;generalize hb2:blB h (tryB1 b) bd=b2 at o2 ub2;have nx2:b2.next=b.next+(locsS bd).length:=o2.next;obtain⟨V2,e2⟩:=o2.sx.vars;have e2':b2.vars=b.vars++V2:=e2;have x2:=SX.cut' (b:=tryB1 b) (c:=tryB1 b) rfl o2.sx;have t3:=((o2.ci.cut (tryB1 b).scope.length).hand (n:=b.handler) (by
  rcases hc.hd with e | ⟨o,f1,f2⟩
  ·exact .inl e
  ·exact .inr ⟨o,List.mem_cons_of_mem _ f1,f2⟩)).jmp 0
 rw [← ub2] at t3;have s2:(tryB2 h b bd).scope=b.scope:=by rw [ub2];exact x2.2
 have l3:(jmpB (tryB2 h b bd) 0).code.length=b2.code.length+1:=by rw [ub2];simp [jmpB,emitB,handB,cutB]
 have j3:∃ x:In,(jmpB (tryB2 h b bd) 0).code[b2.code.length]?=some x∧x.op=12:=⟨_,by
  rw [ub2]
  show (b2.code++[_])[b2.code.length]?=_
  rw [List.getElem?_append_right (Nat.le_refl _),Nat.sub_self];rfl,rfl⟩
 have v3:VS cls T sc (jmpB (tryB2 h b bd) 0):=hv.back s2 ⟨V2,by rw [ub2];exact e2'⟩;have h3:(jmpB (tryB2 h b bd) 0).handler=b.handler:=rfl;have nx3:(jmpB (tryB2 h b bd) 0).next=b2.next:=by rw [ub2];rfl
 have va3:(jmpB (tryB2 h b bd) 0).vars=b2.vars:=by rw [ub2];rfl
 generalize hb3:jmpB (tryB2 h b bd) 0=b3 at t3 l3 j3 v3 h3 nx3 va3 ⊢;have hh3:b3.vars[b3.next]?=some ⟨nm,ty⟩:=by
  rw [va3,e2',nx3,nx2];exact hp.right.grow.head
 have tc:CI (C9 h) (C10 h) (b.handlers.length::O) (b2.code.length::J) (catB b3 ty):=(t3.more b2.code.length).decl.emitX _ (fun _=>by
  obtain⟨x,hx,ho⟩:=j3;exact⟨b2.code.length,x,l3,hx,ho,List.mem_cons_self⟩) (by simp) (by simp)
 have vc:VS cls T (sc++[⟨nm,ty⟩]) (catB b3 ty):=(v3.decl hh3 n3 (this_id n1)).em _;have t4:CI (C9 h) (C10 h) O (b2.code.length::J) (tryB4 b3 b.handlers.length ty):=tc.close hw (x:={ ({ zIn with op:=15,dst:=b3.next,cls:=ty }:In) with han:=b3.handler }) (by simp [catB,emitB,declB]) (by
   show (b3.code++[_])[b3.code.length]?=_
   rw [List.getElem?_append_right (Nat.le_refl _),Nat.sub_self];rfl) rfl (by rw [← h3] at hhd;exact hhd) (by rw [← h3] at hhd;exact hhd)
 refine⟨⟨hx.hb,⟨_,_,t4⟩,vc.back rfl ⟨[],by simp [tryB4,Lx.setH]⟩⟩,?_,s2⟩
 show Pre (b3.next+1) (locsS el) b3.vars
 rw [nx3,nx2,va3,e2'];have:=(hp.right (L:=locsS bd)).right (L:=[⟨nm,ty⟩]) (M:=locsS el);exact this.grow
end
section
variable {h:List Cd} {X:Nat} {H H1 H2:Heap} {nx:Nat} {z:Bv} {b:Bl}
/-- A try is noted. -/
theorem bd_hnd (hi:BdI h X H nx z b){N:Nat}(hN:nx≤N)(h1:∀ x,x<nx→H1 x=H x)(hb:H2 N=some (.cells ((b.handlers++[0]).flatMap cvW)))(hfr:∀ x,x<N→(∀ b',z.t=.sl b' 0 b.handlers.length 1→x≠b')→H2 x=H1 x){k:CB}(hk:k=.cells (bdC h X { z with t:=.sl N 0 (b.handlers.length+1) 1 } (hndB b))) :
  BdP h X H nx z (hndB b) (upd H2 X k) (N+1):=by
 have hlX:=hi.lt;refine⟨{ z with t:=.sl N 0 (b.handlers.length+1) 1 },?_,by omega,fun x hx ho=>?_,fun x hx=>?_⟩
 ·refine hi.newT (b':=hndB b) rfl rfl rfl hN (Nat.lt_succ_self _) (by rw [upd_miss _ _ _ _ (by omega)];exact hb) _ (by simp [hndB]) (by rw [upd_hit,hk]) fun x hx hxX ho=>?_
  have hlt:=hi.lo hx;rw [upd_miss _ _ _ _ hxX,hfr x (by omega) (fun b' e e2=>ho (e2▸⟨_,_,_,e⟩)),h1 x hlt]
 ·have hxX:x≠X:=fun e=>ho (.inl e)
  rw [upd_miss _ _ _ _ hxX,hfr x (by omega) (fun b' e e2=>ho (.inr (.inr (.inr (.inr (e2▸⟨_,_,_,e⟩)))))),h1 x hx]
 ·rcases hx with hx | hx | hx | hx | hx
  ·exact .inl (.inl hx)
  ·exact .inl (.inr (.inl hx))
  ·exact .inl (.inr (.inr (.inl hx)))
  ·exact .inl (.inr (.inr (.inr (.inl hx))))
  ·have:=ob_sl hx;exact .inr (by omega)
/-- A handler is set. -/
theorem bd_setH (hi:BdI h X H nx z b){tb:Nat}{rest:List CV}(hz:z.t=.sl tb 0 b.handlers.length 1)(i v:Nat):BdP h X H nx z (setH b i v) (upd H tb (.cells ((b.handlers.set i v).flatMap cvW++rest))) nx:=by
 have hob:ob z.t tb:=⟨_,_,_,hz⟩;have htX:tb≠X:=hi.nX tb (.inr (.inr (.inr hob)));refine⟨z,⟨?_,hi.v.keep' (by omega) fun x hx=>?_,hi.c.keep' (by omega) fun x hx=>?_,hi.s.keep' (by omega) fun x hx=>?_,?_,hi.lt,hi.nX,hi.vc,hi.vs,hi.vt,hi.cs,hi.ct,hi.st⟩,Nat.le_refl _,fun x hx ho=>?_,fun x hx=>.inl hx⟩
 ·rw [upd_miss _ _ _ _ (Ne.symm htX)];exact hi.blk
 ·exact upd_miss _ _ _ _ fun e=>hi.vt x hx (e▸hob)
 ·exact upd_miss _ _ _ _ fun e=>hi.ct x hx (e▸hob)
 ·exact upd_miss _ _ _ _ fun e=>hi.st x hx (e▸hob)
 ·rw [hz];exact .inr ⟨tb,rest,by simp [Lx.setH],upd_hit _ _ _,(hi.t.obl hob).1⟩
 ·exact upd_miss _ _ _ _ fun e=>ho (.inr (.inr (.inr (.inr (e▸hob)))))
end
end
section
open Lx Ax Go.RowKit
attribute [local simp] stepS Ax.stepT Dl.on qstep astep estep rd putE over argE ofV ofS loadA pickCells isAggD faddA fieldA partA iaddA idxA bnd binA intA strA unA convA bltA mapOf findK keyD scalD storeA appA srcA srcD upd drp Dl.hp Dl.nx CV.cs CV.one buildA placesA fillA zrep tasA ifaceD eqA eqFs eqIs range2 copyA nbeq nble nblt decEq beqI bneI beqS bneS isED Int.ofNat_inj List.getElem?_map List.getElem?_eq_getElem Option.map_some ti_int ti_bool ti_str ti_i64 ti_Strs ti_Flds ti_Fld ti_Ints ti_Ins ti_In ti_Bd ti_Kd ti_Kf ti_Pb ti_Ex ti_Exs ti_St ti_Sts gd gdB callA resA op1
attribute [local simp] nu1 nu2 nu3 nu4 nu5 nu6 nu7 nu8 nu9 nu10 nu11 nu12 nu13 upd_upd
section
variable {h:List Cd} {cls res:Bytes} {T:List Fld}
set_option maxRecDepth 10000 in
set_option maxHeartbeats 16000000 in
theorem lw_try (nm ty:Bytes)(es:List Ex)(bd el:List St)(hB1:BlOkL h cls res T bd)(hB2:BlOkL h cls res T el)(X:Nat)(H:Heap)(nx:Nat)(z:Bv)(b:Bl)(sc sc':List Fld)(hi:BdI h X H nx z b)(hx:LwX h cls T sc b)(hk:stT h cls res sc (.mk 6 nm ty es bd el)=.ok sc')(hp:Pre b.next (locS (.mk 6 nm ty es bd el)) b.vars)(hok:OkS b (4*stSz (.mk 6 nm ty es bd el))) :
  DCall Tryz.prog tkG 81 [.ptr X 0,.agg (cvS (.mk 6 nm ty es bd el))] H nx fun v H' nx'=>v=.tup []∧BdP h X H nx z (stB h b (.mk 6 nm ty es bd el)) H' nx':=by
 refine DCall.of_body Tryz.func81 rfl ?_;have hlX:=hi.lt;have q0:=far hlX;obtain⟨⟨u1,hu1⟩,hx1,hp1,⟨u2,hu2⟩,hx4,hp4,s2⟩:=try_C hk hx hp;rw [stSz] at hok;rw [stB6];have hlt:∀ H',lenA Tryz.prog H' 49 z.t=some (.int .i64 b.handlers.length):=hi.t.len ti_Ints;have hX:H X=some (.cells ([.lst (h.map cvD),z.v,z.c,.int .i64 b.slots,.int .i64 b.next,z.s,.int .i64 b.handler,z.t]++knd X)):=hi.blk;simp only [knd,List.cons_append,List.nil_append] at hX;have g1:GrS b (tryB1 b) _ _:=(GrS.hnd b).trans (GrS.hand _ b.handlers.length);have g2:GrS b (tryB2 h b bd) _ _:=((g1.trans (blB_gr h bd (tryB1 b))).trans (GrS.cut _ (tryB1 b).scope.length)).trans (GrS.hand _ b.handler);refine gDf Ya ?_;have r:=Run.box hi (.cells [.int .i64 6,.str nm,.str ty,.lst (es.map cvE),.lst (bd.map cvS),.lst (el.map cvS)]);have hiA:=fun k (hk:k=.cells (bdC h X z (handB b b.handlers.length)))=>r.bd.num (b':=handB b b.handlers.length) (H':=upd (upd H nx (.cells [.int .i64 6,.str nm,.str ty,.lst (es.map cvE),.lst (bd.map cvS),.lst (el.map cvS)])) X k) rfl rfl rfl rfl (Nat.le_refl _) (by rw [upd_hit,hk]) fun x _ hx=>upd_miss _ _ _ _ hx
 have hzt:z.t=.nils∨∃ tb,z.t=.sl tb 0 b.handlers.length 1∧tb<nx∧tb≠X:=by
  rcases hi.t with⟨_,h⟩ | ⟨tb,rest,h,_,h3⟩
  ·exact .inl h
  ·exact .inr ⟨tb,h,h3,hi.nX tb (.inr (.inr (.inr ⟨_,_,_,h⟩)))⟩
 refine DOpl.appQ cvW_len cvW_one ti_Ints ti_int 0 (((hiA _ rfl).t).keep' (Nat.le_succ _) fun x hx=>upd_miss _ _ _ _ (by have:=((hiA _ rfl).t.obl hx).1;omega)) (by have:=hok.t;simp only [lim] at this;show b.handlers.length<_;omega) ?_ (hxb:=by simp [upd,cvW]);intro H2 hN hfr;have p:=bd_hnd (hiA _ rfl) (N:=nx+1+1) (by omega) (fun x hx=>upd_miss _ _ _ _ (by omega)) hN hfr rfl;have gX:=hfr X (by omega) fun b' e e2=>by
  rcases hzt with h5 | ⟨tb,h5,h6,h7⟩
  ·rw [h5] at e;cases e
  ·rw [h5] at e;cases e;exact h7 e2.symm
 rw [upd_miss _ _ _ _ (by omega),upd_hit] at gX;obtain⟨z3,r3,e3⟩:=r.call (b2:=tryB1 b) (BdP.seq (Nat.le_refl _) (fun x hx ho=>upd_miss _ _ _ _ fun e=>ho (.inl e)) (fun x hx=>.inl hx) p);have g03:=e3 nx (Nat.le_refl _) (Nat.lt_succ_self _);rw [upd_hit] at g03;have gN:=hfr nx (by omega) fun b' e e2=>by
  rcases hzt with h5 | ⟨tb,h5,h6,h7⟩
  ·rw [h5] at e;cases e
  ·rw [h5] at e;cases e;omega
 rw [upd_miss _ _ _ _ (by omega),upd_miss _ _ _ _ (by omega),upd_hit] at gN;have hE:=hB1 X _ _ _ _ sc u1 r3.bd hx1 hu1 hp1 (hok.grow g1 (by omega) (by omega));clear hN hfr p hiA hlt hX e3;refine gD ?_
 ((apply DOpl.callD);(focus rfl);(focus (first | rfl | (simp [*];done)));(focus simp [*,-Option.some.injEq];rfl);kernel_rfl)
 ·exact hE
 rintro vv H4 n4 ⟨rfl,p⟩;obtain⟨z4,r4,e4⟩:=r3.call p;have g04:=e4 nx (Nat.le_refl _) (Nat.lt_succ_self _);rw [g03] at g04;obtain⟨bA,hbA⟩:∃ bA,cutB (blB h (tryB1 b) bd) (tryB1 b).scope.length=bA:=⟨_,rfl⟩;have tb2:tryB2 h b bd=handB bA b.handler:=by rw [← hbA];rfl
 have hgh:b.handlers.length<bA.handlers.length:=by
  have h1:=((blB_gr h bd (tryB1 b)).trans (GrS.cut _ (tryB1 b).scope.length)).lt;rw [hbA] at h1;have h2:(tryB1 b).handlers.length=b.handlers.length+1:=by simp [tryB1,handB,hndB]
  omega
 rw [tb2] at g2 hx4 hp4 s2 ⊢;rw [hbA] at r4;clear hE p e4 r3 hbA tb2 hx1 hp1 gX gN g03;have hX4:H4 X=some (.cells ([.lst (h.map cvD),z4.v,z4.c,.int .i64 bA.slots,.int .i64 bA.next,z4.s,.int .i64 bA.handler,z4.t]++knd X)):=r4.bd.blk;simp only [knd,List.cons_append,List.nil_append] at hX4;refine gD ?_;obtain⟨z5,r5,e5⟩:=r4.call (bd_hand r4.bd b.handler rfl);have g05:=e5 nx (Nat.le_refl _) (Nat.lt_succ_self _);rw [g04] at g05
 ((apply DOpl.callD);(focus rfl);(focus (first | rfl | (simp [*];done)));(focus simp [*,-Option.some.injEq];rfl);kernel_rfl)
 ·exact lw_em r5.bd _ _ _ _ _ _ _ _ (by have:=hok.c;have:=g2.c;omega)
 rintro vv H6 n6 ⟨rfl,p⟩;obtain⟨z6,r6,e6⟩:=r5.call (b2:=jmpB (handB bA b.handler) 0) p;have g06:=e6 nx (Nat.le_refl _) (Nat.lt_succ_self _);rw [g05] at g06;have g3:GrS b (jmpB (handB bA b.handler) 0) _ _:=g2.trans (GrS.em _ _);have l3:(handB bA b.handler).code.length<(jmpB (handB bA b.handler) 0).code.length:=by simp [jmpB,emitB,handB]
 have hgh3:b.handlers.length<(jmpB (handB bA b.handler) 0).handlers.length:=hgh;clear hX4 e5 e6 p r4 r5 g04 g05 s2 hgh;generalize hb2:handB bA b.handler=b2 at *;generalize jmpB b2 0=b3 at *;have hls:∀ H',lenA Tryz.prog H' 49 z6.s=some (.int .i64 b3.scope.length):=r6.bd.s.len ti_Ints;have hX6:H6 X=some (.cells ([.lst (h.map cvD),z6.v,z6.c,.int .i64 b3.slots,.int .i64 b3.next,z6.s,.int .i64 b3.handler,z6.t]++knd X)):=r6.bd.blk;simp only [knd,List.cons_append,List.nil_append] at hX6;refine gDr ?_;obtain⟨tb,rest,hzt6,htb,htl⟩:=r6.bd.t.pos hgh3;rw [hzt6] at hX6;refine DWp.regX [3,9] (fun H'=>H' nx=some (.cells [.int .i64 6,.str nm,.str ty,.lst (es.map cvE),.lst (bd.map cvS),.lst (el.map cvS)])∧∃ cs,H' X=some (.cells cs)∧cs[7]?=some (.sl tb 0 b3.handlers.length 1)) (by kernel_rfl) (by kernel_rfl) rfl rfl (fun H1 H2 h12 hS=>⟨by rw [h12 nx (by have:=r6.le;omega)];exact hS.1,by rw [h12 X (by have:=r6.le;omega)];exact hS.2⟩) ⟨g06,_,hX6,rfl⟩ ?_
 repeat (first | apply ASx.stepG;(focus (first | rfl | (simp [*];done)));(focus simp [*,-Option.some.injEq];rfl);(focus (first | exact Fits.pure rfl | (refine Fits.look rfl fun H2 hS2=>?_;simp [hS2, *];done) | (refine Fits.look rfl fun H2 hS2=>?_;simp [hS2, *,-Option.some.injEq];rfl) | (refine Fits.eff rfl fun hS2=>?_;simp [*];done))) | apply ASx.pass;(focus simp [*];done) | refine ASx.nil ?_;(try simp only [Xx,Xy,reduceIte,Nat.reduceEqDiff]))
 (apply ASx.stepG;(focus rfl);(focus (simp [*,-Option.some.injEq];rfl));(focus (refine Fits.look rfl fun H2 hS2=>?_;obtain⟨_,cs,h1,h2⟩:=hS2;simp [h1,h2])))
 repeat (first | apply ASx.stepG;(focus (first | rfl | (simp [*];done)));(focus simp [*,-Option.some.injEq];rfl);(focus (first | exact Fits.pure rfl | (refine Fits.look rfl fun H2 hS2=>?_;simp [hS2, *];done) | (refine Fits.look rfl fun H2 hS2=>?_;simp [hS2, *,-Option.some.injEq];rfl) | (refine Fits.eff rfl fun hS2=>?_;simp [*];done))) | apply ASx.pass;(focus simp [*];done) | refine ASx.nil ?_;(try simp only [Xx,Xy,reduceIte,Nat.reduceEqDiff]))
 ((apply ASx.callD);(focus (first | rfl | (simp [*];done)));(focus simp [*,-Option.some.injEq];rfl);kernel_rfl)
 ·exact lw_declareT (r6.bd.up (Nat.le_add_right _ 14) fun _ _=>rfl) (by have:=hok.s;have:=g3.s;omega) (by have:=hok.x;have:=g3.x;omega)
 rintro vv H7 n7 ⟨rfl,z7,k1,k2,k3,k4,k5⟩;have le6:=r6.le;have g07:H7 nx=_:=(k3 nx (by omega) (r6.nob (Nat.le_refl _) (Nat.lt_succ_self _))).trans g06;refine⟨k2,fun x hx1 hx2 hx3=>by rw [k3 x (by simp at hx2;omega) (fun ho=>by have:=r6.bd.lo ho;omega)];exact hx3,fun _=>⟨g07,_,k1.blk,by show some z7.t=_;rw [k5,hzt6]⟩,?_⟩
 repeat (first | apply ASx.stepG;(focus (first | rfl | (simp [*];done)));(focus simp [*,-Option.some.injEq];rfl);(focus (first | exact Fits.pure rfl | (refine Fits.look rfl fun H2 hS2=>?_;simp [hS2, *];done) | (refine Fits.look rfl fun H2 hS2=>?_;simp [hS2, *,-Option.some.injEq];rfl) | (refine Fits.eff rfl fun hS2=>?_;simp [*];done))) | apply ASx.pass;(focus simp [*];done) | refine ASx.nil ?_;(try simp only [Xx,Xy,reduceIte,Nat.reduceEqDiff]))
 ((apply ASx.callD);(focus (first | rfl | (simp [*];done)));(focus simp [*,-Option.some.injEq];rfl);kernel_rfl)
 ·exact lw_emT k1 _ _ _ _ _ _ _ _ (by have:=hok.c;have:=g3.c;show b3.code.length≤lim;omega)
 rintro vv H8 n8 ⟨rfl,z8,m1,m2,m3,m4,m5⟩;have nob7:∀ x,nx≤x→(x<nx+1∨n6≤x∧x<n6+14)→¬ OB X z7 x:=fun x h1 h2 ho=>by
  rcases k4 x ho with h5 | h5
  ·rcases h2 with h2 | h2
   ·exact r6.nob h1 h2 h5
   ·have:=r6.bd.lo h5;omega
  ·omega
 have g08:H8 nx=_:=(m3 nx (by omega) (nob7 nx (Nat.le_refl _) (.inl (Nat.lt_succ_self _)))).trans g07;obtain⟨tb8,rest8,hz8,htb8,-⟩:=m1.t.pos (i:=b.handlers.length) hgh3;have e8:tb8=tb:=by
  rw [m5,k5,hzt6] at hz8;cases hz8;rfl
 subst e8;refine⟨by omega,fun x hx1 hx2 hx3=>by simp at hx2;rw [m3 x (by omega) (nob7 x (by omega) (.inr ⟨hx1,by omega⟩))];exact hx3,fun _=>⟨g08,_,m1.blk,by show some z8.t=_;rw [hz8];rfl⟩,?_⟩;have hrs:=row_set cvW_len rest8 b3.handlers b.handlers.length 0 hgh3 (by omega) b3.code.length (.int .i64 b3.code.length) rfl;simp only [Nat.mul_one,Nat.add_zero] at hrs;have htb9:H8 tb8=some (.cells (b3.handlers.flatMap cvW++rest8)):=htb8;have hst:storeA Tryz.prog H8 3 (.ptr tb8 b.handlers.length) (.int .i64 ((declB b3).code.length:Nat))=some (.any,.set tb8 (.cells ((b3.handlers.set b.handlers.length b3.code.length).flatMap cvW++rest8))):=by
  have:=store_int (P:=Tryz.prog) (k:=.i64) (n:=b3.code.length) ti_int htb9 hrs.2;rw [hrs.1] at this;exact this
 have tbX:tb8≠X:=m1.nX tb8 (.inr (.inr (.inr ⟨_,_,_,hz8⟩)));have tbn:tb8≠nx:=fun e=>by
  have h1:OB X z6 tb8:=.inr (.inr (.inr (.inr ⟨_,_,_,hzt6⟩)));exact r6.nob (Nat.le_refl _) (Nat.lt_succ_self _) (e▸h1)
 have tbX':¬ X=tb8:=Ne.symm tbX;have tbn':¬ nx=tb8:=Ne.symm tbn;have p8:=bd_setH m1 hz8 b.handlers.length b3.code.length (rest:=rest8);clear hrs htb htb8
 repeat (first | apply ASx.stepG;(focus (first | rfl | (simp [*];done)));(focus simp [*,-Option.some.injEq];rfl);(focus (first | exact Fits.pure rfl | (refine Fits.look rfl fun H2 hS2=>?_;simp [hS2, *];done) | (refine Fits.look rfl fun H2 hS2=>?_;simp [hS2, *,-Option.some.injEq];rfl) | (refine Fits.eff rfl fun hS2=>?_;simp [*];done))) | apply ASx.pass;(focus simp [*];done) | refine ASx.nil ?_;(try simp only [Xx,Xy,reduceIte,Nat.reduceEqDiff]))
 (apply ASx.stepG;(focus rfl);(focus (simp [hst,htb9,-storeA,-Option.some.injEq];rfl));(focus exact Fits.eff rfl fun hS2=>⟨by rw [upd_miss _ _ _ _ (Ne.symm tbn)];exact g08,_,by rw [upd_miss _ _ _ _ (Ne.symm tbX)];exact m1.blk,by show some z8.t=_;rw [hz8];rfl⟩))
 repeat (first | apply ASx.stepG;(focus (first | rfl | (simp [*];done)));(focus simp [*,-Option.some.injEq];rfl);(focus (first | exact Fits.pure rfl | (refine Fits.look rfl fun H2 hS2=>?_;simp [hS2, *];done) | (refine Fits.look rfl fun H2 hS2=>?_;simp [hS2, *,-Option.some.injEq];rfl) | (refine Fits.eff rfl fun hS2=>?_;simp [*];done))) | apply ASx.pass;(focus simp [*];done) | refine ASx.nil ?_;(try simp only [Xx,Xy,reduceIte,Nat.reduceEqDiff]))
 clear hst htb9;obtain⟨z9,r9,e9⟩:=(r6.up (Nat.le_add_right _ 14)).call (b2:=tryB4 b3 b.handlers.length ty) (BdP.seq k2 k3 k4 (BdP.seq m2 m3 m4 p8));have g09:=e9 nx (Nat.le_refl _) (Nat.lt_succ_self _);rw [g06] at g09;have g4:GrS b (tryB4 b3 b.handlers.length ty) _ _:=((g3.trans (GrS.decl _)).trans (GrS.em _ _)).trans (GrS.setH _ _ _);have hE:=hB2 X _ _ _ _ _ u2 r9.bd hx4 hu2 hp4 (hok.grow g4 (by omega) (by omega));have ls4:(tryB4 b3 b.handlers.length ty).scope.length=b3.scope.length+1:=by simp [tryB4,Lx.setH,catB,emitB,declB]
 obtain⟨-,-,-,y4⟩:=hx4.blk hu2 hp4;have g5:=(blB_gr h el (tryB4 b3 b.handlers.length ty)).trans (GrS.cut _ (tryB4 b3 b.handlers.length ty).scope.length);have lc4:b3.code.length≤(tryB4 b3 b.handlers.length ty).code.length:=by simp [tryB4,Lx.setH,catB,emitB,declB]
 refine gD ?_
 ((apply DOpl.callD);(focus rfl);(focus (first | rfl | (simp [*];done)));(focus simp [*,-Option.some.injEq];rfl);kernel_rfl)
 ·exact hE
 rintro vv H10 n10 ⟨rfl,p⟩;obtain⟨z10,r10,e10⟩:=r9.call p;clear hE e10 p e9 g09 g08 g07 g06 p8 m1 m3 m4 k1 k3 k4 hz8 hzt6 hls hX6 hzt r9;have g6:=g4.trans g5;have lc5:=g5.lc;generalize hb4:tryB4 b3 b.handlers.length ty=b4 at *;have lb5:b3.scope.length≤(cutB (blB h b4 el) b4.scope.length).scope.length:=by rw [y4];omega
 clear y4 ls4 g5 g4 hb4;generalize cutB (blB h b4 el) b4.scope.length=b5 at *;obtain⟨c',hcA,hoc,hcn,hform⟩:=own_cutW r10.bd.s lb5;have hX10:H10 X=some (.cells ([.lst (h.map cvD),z10.v,z10.c,.int .i64 b5.slots,.int .i64 b5.next,z10.s,.int .i64 b5.handler,z10.t]++knd X)):=r10.bd.blk;simp only [knd,List.cons_append,List.nil_append] at hX10;have pc:=fun k hk=>bd_cut r10.bd b3.scope.length hoc hcn (k:=k) hk
 have hcl:b2.code.length<(cutB b5 b3.scope.length).code.length:=by show _<b5.code.length;omega
 have hcm:(cutB b5 b3.scope.length).code.length≤lim:=by have:=hok.c;have:=g6.c;show b5.code.length≤lim;omega
 rcases hform with rfl | ⟨b',m,rfl⟩
 ·refine gD ?_;obtain⟨z11,r11,-⟩:=r10.call (pc _ rfl)
  ((apply DOpl.callD);(focus rfl);(focus (first | rfl | (simp [*];done)));(focus simp [*,-Option.some.injEq];rfl);kernel_rfl)
  ·exact lw_here r11.bd b2.code.length hcl hcm
  rintro vv H12 n12 ⟨rfl,p⟩;obtain⟨z12,r12,-⟩:=r11.call p;refine gD ?_
  (refine⟨_,(by simp [*];rfl),?_⟩;(try simp only [packA]))
  exact⟨_,rfl,rfl,r12.fin⟩
 ·refine gD ?_;obtain⟨z11,r11,-⟩:=r10.call (pc _ rfl)
  ((apply DOpl.callD);(focus rfl);(focus (first | rfl | (simp [*];done)));(focus simp [*,-Option.some.injEq];rfl);kernel_rfl)
  ·exact lw_here r11.bd b2.code.length hcl hcm
  rintro vv H12 n12 ⟨rfl,p⟩;obtain⟨z12,r12,-⟩:=r11.call p;refine gD ?_
  (refine⟨_,(by simp [*];rfl),?_⟩;(try simp only [packA]))
  exact⟨_,rfl,rfl,r12.fin⟩
end
end
section
open Lx Ax Go.RowKit
attribute [local simp] stepS Ax.stepT Dl.on qstep astep estep rd putE over argE ofV ofS loadA pickCells isAggD faddA fieldA partA iaddA idxA sliA bnd binA intA strA unA convA bltA mapOf findK keyD scalD storeA appA srcA srcD upd drp Dl.hp Dl.nx CV.cs CV.one buildA placesA fillA zrep tasA ifaceD eqA eqFs eqIs range2 copyA nbeq nble nblt decEq beqI bneI beqS bneS isED Int.ofNat_inj List.getElem?_map List.getElem?_eq_getElem Option.map_some ti_int ti_bool ti_str ti_i64 ti_Strs ti_Flds ti_Fld ti_Ints ti_Ins ti_In ti_Bd ti_Kd ti_Kf ti_Pb ti_Ex ti_Exs ti_St ti_Sts gd gdB callA resA op1
attribute [local simp] nu1 nu2 nu3 nu4 nu5 nu6 nu7 nu8 nu9 nu10 nu11 nu12 nu13 upd_upd
section
variable {h:List Cd} {cls res:Bytes} {T:List Fld}
set_option maxRecDepth 10000 in
set_option maxHeartbeats 8000000 in
theorem lw_st6 (nm ty:Bytes)(es:List Ex)(bd el:List St)(hB1:BlOkL h cls res T bd)(hB2:BlOkL h cls res T el):StOkL h cls res T (.mk 6 nm ty es bd el):=by
 intro X H nx z b sc sc' hi hx hk hp hok;refine DCall.of_body Tryz.func54 rfl ?_;have hlX:=hi.lt;have q0:=far hlX;have hch:=fun H2 n2 z2 (hb:BdI h X H2 n2 z2 b)=>lw_try nm ty es bd el hB1 hB2 X H2 n2 z2 b sc sc' hb hx hk hp hok
 simp only [Ya] at hch;refine gDf Ya ?_;have r:=Run.box hi (.cells [.int .i64 6,.str nm,.str ty,.lst (es.map cvE),.lst (bd.map cvS),.lst (el.map cvS)])
 ((apply DOpl.callD);(focus rfl);(focus (first | rfl | (simp [*];done)));(focus simp [*,-Option.some.injEq];rfl);kernel_rfl)
 ·exact hch _ _ _ r.bd
 rintro vv H3 n3 ⟨rfl,p⟩;obtain⟨z3,r3,-⟩:=r.call p;clear hch;refine gD ?_
 (refine⟨_,(by simp [*];rfl),?_⟩;(try simp only [packA]))
 exact⟨_,rfl,rfl,r3.fin⟩
theorem lw_stAll:∀ (N:Nat) (s:St),stSz s≤N→StOkL h cls res T s
 | 0,.mk k nm ty es bd el,hN=>by rw [stSz] at hN;omega
 | N+1,.mk k nm ty es bd el,hN=>by
   rw [stSz] at hN;have hB1:BlOkL h cls res T bd:=lw_block bd fun s hs=>lw_stAll N s (by have:=stsSz_mem hs;omega)
   have hB2:BlOkL h cls res T el:=lw_block el fun s hs=>lw_stAll N s (by have:=stsSz_mem hs;omega)
   intro X H nx z b sc sc' hi hx hk hp hok;obtain⟨s1,-⟩:=shp_ok (st_shp hk)
   by_cases k1:k=1
   ·subst k1;exact lw_st1 nm ty es bd el X H nx z b sc sc' hi hx hk hp hok
   by_cases k2:k=2
   ·subst k2;exact lw_st2 nm ty es bd el X H nx z b sc sc' hi hx hk hp hok
   by_cases k3:k=3
   ·subst k3;exact lw_st3 nm ty es bd el X H nx z b sc sc' hi hx hk hp hok
   by_cases k4:k=4
   ·subst k4;exact lw_st4 nm ty es bd el hB1 hB2 X H nx z b sc sc' hi hx hk hp hok
   by_cases k5:k=5
   ·subst k5;exact lw_st5 nm ty es bd el hB1 X H nx z b sc sc' hi hx hk hp hok
   by_cases k6:k=6
   ·subst k6;exact lw_st6 nm ty es bd el hB1 hB2 X H nx z b sc sc' hi hx hk hp hok
   by_cases k7:k=7
   ·subst k7;exact lw_st7 nm ty es bd el X H nx z b sc sc' hi hx hk hp hok
   by_cases k8:k=8
   ·subst k8;exact lw_st8 nm ty es bd el X H nx z b sc sc' hi hx hk hp hok
   have k9:k=9:=by omega
   subst k9;exact lw_st9 nm ty es bd el X H nx z b sc sc' hi hx hk hp hok
theorem lw_blockAll (l:List St):BlOkL h cls res T l:=lw_block l fun s _=>lw_stAll (stSz s) s (Nat.le_refl _)
end
section
variable {h:List Cd} {X:Nat} {H:Heap} {nx:Nat} {z:Bv} {b:Bl}
set_option maxRecDepth 10000 in
set_option maxHeartbeats 8000000 in
theorem lw_end (hi:BdI h X H nx z b)(rs:Bytes)(hok:OkS b 2) :
  DCall Tryz.prog tkG 34 [.ptr X 0,.str rs] H nx fun v H' nx'=>v=.tup []∧BdP h X H nx z (endB b rs) H' nx':=by
 refine DCall.of_body Tryz.func34 rfl ?_;have hlX:=hi.lt;have q0:=far hlX;have r:=Run.start (n1:=nx) hi (Nat.le_refl _) (H1:=H) fun _ _=>rfl
 unfold endB
 by_cases h0:rs=[]
 ·subst h0;rw [if_pos rfl];refine gD ?_
  ((apply DOpl.callD);(focus rfl);(focus (first | rfl | (simp [*];done)));(focus simp [*,-Option.some.injEq];rfl);kernel_rfl)
  ·exact lw_em hi _ _ _ _ _ _ _ _ (by have:=hok.c;omega)
  rintro vv H3 n3 ⟨rfl,p⟩;obtain⟨z3,r3,-⟩:=r.call p;refine gD ?_
  (refine⟨_,(by simp [*];rfl),?_⟩;(try simp only [packA]))
  exact⟨_,rfl,rfl,r3.fin⟩
 rw [if_neg h0]
 by_cases h1:rs=intB
 ·subst h1;rw [if_pos rfl];have ht:=lw_temp hi intB (by have:=hok.v;omega) hok.sl;simp only [intB] at ht h0 ⊢;refine gD ?_
  ((apply DOpl.callD);(focus rfl);(focus (first | rfl | (simp [*];done)));(focus simp [*,-Option.some.injEq];rfl);kernel_rfl)
  ·exact ht
  rintro vv H3 n3 ⟨rfl,p⟩;obtain⟨z3,r3,-⟩:=r.call p;clear ht;refine gD ?_
  ((apply DOpl.callD);(focus rfl);(focus (first | rfl | (simp [*];done)));(focus simp [*,-Option.some.injEq];rfl);kernel_rfl)
  ·exact lw_em r3.bd _ _ _ _ _ _ _ _ (by have:=hok.c;show b.code.length≤lim;omega)
  rintro vv H4 n4 ⟨rfl,p⟩;obtain⟨z4,r4,-⟩:=r3.call p;refine gD ?_
  ((apply DOpl.callD);(focus rfl);(focus (first | rfl | (simp [*];done)));(focus simp [*,-Option.some.injEq];rfl);kernel_rfl)
  ·exact lw_em r4.bd _ _ _ _ _ _ _ _ (by have:=hok.c;simp [emitB,tempB];omega)
  rintro vv H5 n5 ⟨rfl,p⟩;obtain⟨z5,r5,-⟩:=r4.call p;refine gD ?_
  (refine⟨_,(by simp [*];rfl),?_⟩;(try simp only [packA]))
  exact⟨_,rfl,rfl,r5.fin⟩
 rw [if_neg h1];have ht:=lw_temp hi nullB (by have:=hok.v;omega) hok.sl;simp only [intB,nullB] at ht h0 h1 ⊢;refine gD ?_
 ((apply DOpl.callD);(focus rfl);(focus (first | rfl | (simp [*];done)));(focus simp [*,-Option.some.injEq];rfl);kernel_rfl)
 ·exact ht
 rintro vv H3 n3 ⟨rfl,p⟩;obtain⟨z3,r3,-⟩:=r.call p;clear ht;refine gD ?_
 ((apply DOpl.callD);(focus rfl);(focus (first | rfl | (simp [*];done)));(focus simp [*,-Option.some.injEq];rfl);kernel_rfl)
 ·exact lw_em r3.bd _ _ _ _ _ _ _ _ (by have:=hok.c;show b.code.length≤lim;omega)
 rintro vv H4 n4 ⟨rfl,p⟩;obtain⟨z4,r4,-⟩:=r3.call p;refine gD ?_
 ((apply DOpl.callD);(focus rfl);(focus (first | rfl | (simp [*];done)));(focus simp [*,-Option.some.injEq];rfl);kernel_rfl)
 ·exact lw_em r4.bd _ _ _ _ _ _ _ _ (by have:=hok.c;simp [emitB,tempB];omega)
 rintro vv H5 n5 ⟨rfl,p⟩;obtain⟨z5,r5,-⟩:=r4.call p;refine gD ?_
 (refine⟨_,(by simp [*];rfl),?_⟩;(try simp only [packA]))
 exact⟨_,rfl,rfl,r5.fin⟩
end
end
section
open Lx Ax Go.RowKit
def cvFu (f:Fu):List CV:=[.str f.cls,.str f.name,.bool f.static,.int .i64 f.params,.lst (f.vars.map cvF),.str f.result,.lst (f.code.map cvJ)]
theorem cvFu_len (f:Fu):(cvFu f).length=7:=rfl
theorem cvFu_one (f:Fu):(cvFu f).all CV.one=true:=rfl
def decB0 (c:Bytes)(m:Me):Bl:=decN (m.params.length+if m.static then 0 else 1) (zBl (slotsB c m))
section
variable {h:List Cd}
theorem meth_C {c:Bytes}{m:Me}(hB:HB h)(hk:methE h c m=0):∃ (cls:Bytes) (T:List Fld) (u:Unit),blT h cls m.result m.params m.body=.ok u∧LwX h cls T m.params (decB0 c m)∧Pre (decB0 c m).next (locsS m.body) (decB0 c m).vars∧CI (C9 h) (C10 h) [] [] (bodB h c m):=by
 unfold methE at hk;split at hk
 ·omega
 split at hk
 ·omega
 cases hp:parT [] m.params with
 | error e =>
   rw [hp] at hk;simp only at hk;subst hk;exact (parT_ne hp).elim
 | ok sc =>
   rw [hp] at hk;simp only at hk;cases hb:blT h (if m.static then [] else c) m.result sc m.body with
   | error e =>
     rw [hb] at hk;simp only at hk;subst hk;exact (blT_ne hb).elim
   | ok u =>
     obtain⟨ns,esc⟩:=parT_ns m.params [] sc hp ⟨by simp,by simp⟩;rw [List.nil_append] at esc;subst esc;obtain⟨d1,d2,d3,d4,d5⟩:=decN_keep (m.params.length+if m.static then 0 else 1) (zBl (slotsB c m));have d6:=decN_scope (m.params.length+if m.static then 0 else 1) (zBl (slotsB c m));have hbod:bodB h c m=endB (cutB (blB h (decB0 c m) m.body) (decB0 c m).scope.length) m.result:=rfl;rw [hbod];have e0:decB0 c m=decN (m.params.length+if m.static then 0 else 1) (zBl (slotsB c m)):=rfl;rw [← e0] at d1 d2 d3 d4 d5 d6;clear e0;generalize hb0:decB0 c m=b0 at d1 d2 d3 d4 d5 d6 ⊢;have hT:slotsB c m=((if m.static then [] else [⟨thisB,c⟩])++m.params)++locsS m.body:=rfl;have hTl:((if m.static then [] else [(⟨thisB,c⟩:Fld)])++m.params).length=m.params.length+if m.static then 0 else 1:=by
      cases m.static <;> simp <;> omega
     have ci0:CI (C9 h) (C10 h) [] [] b0:=by
      have hcode:b0.code=[]:=d2;exact⟨fun o ho=>(by cases ho),.inl d3,fun k i hi=>(by rw [hcode] at hi;cases hi),fun k i hi=>(by rw [hcode] at hi;cases hi),fun k i hi=>(by rw [hcode] at hi;cases hi)⟩
     have vs0:VS (if m.static then [] else c) (if m.static then [] else [⟨thisB,c⟩]) m.params b0:=by
      refine⟨?_,?_,?_,ns⟩
      ·rw [d6,d1,← hTl]
       show (([]:List Nat)++(List.range _).map (0+·)).map (fun s=>(slotsB c m)[s]?)=_
       rw [List.nil_append,List.map_map,hT,← map_range_get _ (locsS m.body)];apply List.map_congr_left;intro i _;simp
      ·cases m.static <;> simp
      ·rw [d1]
       show _→((slotsB c m)[0]?).map (·.typ)=_
       rw [hT];cases m.static <;> simp
     have hpre:Pre b0.next (locsS m.body) b0.vars:=by
      rw [d1,d5];refine⟨_,[],?_,hTl.trans (by show _=0+_;omega)⟩;rw [List.append_nil];exact hT
     obtain⟨sc',o⟩:=blB_C m.body [] [] m.params b0 u hb ci0 vs0 hpre;exact⟨_,_,u,hb,⟨hB,⟨[],[],ci0⟩,vs0⟩,hpre,(end_C (o.ci.cut b0.scope.length) (o.sx.handler.trans d3) m.result).1⟩
/-- The marks at the end are numbers of handlers. -/
theorem ci_han {P9:Bytes→Prop}{P10:Bytes→Bytes→Prop}{b:Bl}(hc:CI P9 P10 [] [] b){k:Nat}(hk:k<b.code.length):b.code[k].han=-1∨∃ o:Nat,b.code[k].han=(o:Int)∧o<b.handlers.length:=by
 rcases hc.han k b.code[k] (List.getElem?_eq_getElem hk) with e | ⟨o,e,_⟩ | ⟨o,c,x,e1,e2,_⟩
 ·exact .inl e
 ·cases e
 ·exact .inr ⟨o,e1,(List.getElem?_eq_some_iff.mp e2).1⟩
/-- The code, of which the marks of the first i instructions are set. -/
def patC (hs:List Nat)(C:List In)(i:Nat):List In:=(C.take i).map (patB hs)++C.drop i
theorem patC_len (hs:List Nat)(C:List In)(i:Nat):(patC hs C i).length=C.length:=by
 simp only [patC,List.length_append,List.length_map,List.length_take,List.length_drop];omega
theorem patC_0 (hs:List Nat)(C:List In):patC hs C 0=C:=by simp [patC]
theorem patC_all (hs:List Nat)(C:List In):patC hs C C.length=C.map (patB hs):=by simp [patC]
theorem patC_get (hs:List Nat)(C:List In){i:Nat}(hi:i<C.length):(patC hs C i)[i]'(by rw [patC_len];exact hi)=C[i]:=by
 have h1:(patC hs C i)[i]?=some C[i]:=by
  unfold patC;rw [List.getElem?_append_right (by simp only [List.length_map,List.length_take];omega)];simp only [List.length_map,List.length_take,List.getElem?_drop];rw [show i+(i-min i C.length)=i by omega,List.getElem?_eq_getElem hi]
 have h2:=List.getElem?_eq_getElem (show i<(patC hs C i).length by rw [patC_len];exact hi);rw [h1] at h2;exact (Option.some.inj h2).symm
theorem patC_set (hs:List Nat)(C:List In){i:Nat}(hi:i<C.length):(patC hs C i).set i (patB hs C[i])=patC hs C (i+1):=by
 unfold patC;have h1:((C.take i).map (patB hs)).length=i:=by simp [List.length_take];omega
 rw [List.set_append_right _ _ (by omega),h1,Nat.sub_self,List.drop_eq_getElem_cons hi,List.set_cons_zero,List.take_succ_eq_append_getElem hi,List.map_append];simp
theorem patC_keep (hs:List Nat)(C:List In){i:Nat}(hi:i<C.length)(hn:C[i].han=-1):patC hs C i=patC hs C (i+1):=by
 rw [← patC_set hs C hi];have:patB hs C[i]=C[i]:=by unfold patB;rw [if_neg (by omega)]
 rw [this];have h2:=patC_get hs C hi
 conv=>lhs;rw [← List.set_getElem_self (show i<(patC hs C i).length by rw [patC_len];exact hi)]
 rw [h2]
end
section
variable {h:List Cd} {X:Nat} {H:Heap} {nx:Nat} {z:Bv} {b:Bl}
theorem BdI.setC (hi:BdI h X H nx z b){cb:Nat}{rest:List CV}(hz:z.c=.sl cb 0 b.code.length 10)(i:Nat)(x:In):BdI h X (upd H cb (.cells ((b.code.set i x).flatMap cvJ++rest))) nx z { b with code:=b.code.set i x }:=by
 have hob:ob z.c cb:=⟨_,_,_,hz⟩;have hcX:cb≠X:=hi.nX cb (.inr (.inl hob));refine⟨?_,hi.v.keep' (by omega) fun x hx=>?_,?_,hi.s.keep' (by omega) fun x hx=>?_,hi.t.keep' (by omega) fun x hx=>?_,hi.lt,hi.nX,hi.vc,hi.vs,hi.vt,hi.cs,hi.ct,hi.st⟩
 ·rw [upd_miss _ _ _ _ (Ne.symm hcX)];exact hi.blk
 ·exact upd_miss _ _ _ _ fun e=>hi.vc x hx (e▸hob)
 ·rw [hz];exact .inr ⟨cb,rest,by simp,upd_hit _ _ _,(hi.c.obl hob).1⟩
 ·exact upd_miss _ _ _ _ fun e=>hi.cs x (e▸hob) hx
 ·exact upd_miss _ _ _ _ fun e=>hi.ct x (e▸hob) hx
end
theorem Ax.OwnR.oneC {α:Type}{cv:α→List CV}{k:Nat}{H:Heap}{nx:Nat}{c:CV}{l:List α}(h:OwnR cv k H nx c l):c=.nils∨∃ b,c=.sl b 0 l.length k:=by
 rcases h with⟨_,h⟩ | ⟨b,rest,h,_⟩
 ·exact .inl h
 ·exact .inr ⟨b,h⟩
theorem decN_snoc:∀ (n:Nat) (b:Bl),decN (n+1) b=declB (decN n b)
 | 0,b=>rfl
 | n+1,b=>by
   rw [decN,decN_snoc n (declB b)];rfl
theorem slotsB_len (c:Bytes)(m:Me):(slotsB c m).length≤1+m.params.length+stsSz m.body:=by
 have:=locsS_len m.body;unfold slotsB;cases m.static <;> simp <;> omega
theorem decN_sz (n:Nat)(l:List Fld):(decN n (zBl l)).next=n∧(decN n (zBl l)).scope.length=n∧(decN n (zBl l)).vars=l∧(decN n (zBl l)).code=[]∧(decN n (zBl l)).handlers=[]∧(decN n (zBl l)).slots=l.length:=by
 obtain⟨d1,d2,d3,d4,d5⟩:=decN_keep n (zBl l);have d6:=decN_scope n (zBl l);refine⟨by rw [d5];show 0+n=n;omega,by rw [d6];simp [zBl],d1,d2,d4,?_⟩;have:∀ (n:Nat) (b:Bl),(decN n b).slots=b.slots:=fun n=>by
  induction n with
  | zero=>exact fun _=>rfl
  | succ n ih=>exact fun b=>by rw [decN,ih];rfl
 rw [this];rfl
theorem decB0_ok {c:Bytes}{m:Me}{n:Nat}(hsz:m.params.length+stsSz m.body+n+2≤lim):OkS (decB0 c m) n:=by
 obtain⟨d1,d2,d3,d4,d5,d6⟩:=decN_sz (m.params.length+if m.static then 0 else 1) (slotsB c m);have hs:=slotsB_len c m;have hb:(if m.static then 0 else 1)≤1:=by split <;> omega
 exact⟨by show (decN _ _).slots≤_;rw [d6,show (decB0 c m).vars=_ from d3];exact Nat.le_refl _,by rw [show (decB0 c m).vars=_ from d3];omega,by rw [show (decB0 c m).code=_ from d4];simp;omega,by rw [show (decB0 c m).scope.length=_ from d2];omega,by rw [show (decB0 c m).next=_ from d1];omega,by rw [show (decB0 c m).handlers=_ from d5];simp;omega⟩
/-- A builder whose function is being made: two blocks ahead of it are the function's own. -/
structure FnS (h:List Cd) (X nx:Nat) (C1 C2:CB) (z:Bv) (b:Bl) (H:Heap) (n:Nat):Prop where
 bd:BdI h X H n z b
 ob:∀ x,OB X z x→nx+1+1+1≤x
 c1:H (nx+1)=some C1
 c2:H (nx+1+1)=some C2
 le:nx+1+1+1≤n
theorem FnS.call {h:List Cd}{X nx:Nat}{C1 C2:CB}{z:Bv}{b b2:Bl}{H H2:Heap}{n n2:Nat}(f:FnS h X nx C1 C2 z b H n)(p:BdP h X H n z b2 H2 n2):∃ z2,FnS h X nx C1 C2 z2 b2 H2 n2:=by
 obtain⟨z2,p1,p2,p3,p4⟩:=p;have hl:=f.le;refine⟨z2,p1,fun x hx=>?_,?_,?_,by omega⟩
 ·rcases p4 x hx with h5 | h5
  ·exact f.ob x h5
  ·omega
 ·rw [p3 _ (by omega) fun ho=>by have:=f.ob _ ho;omega];exact f.c1
 ·rw [p3 _ (by omega) fun ho=>by have:=f.ob _ ho;omega];exact f.c2
theorem FnS.up {h:List Cd}{X nx:Nat}{C1 C2:CB}{z:Bv}{b:Bl}{H H2:Heap}{n n2:Nat}(f:FnS h X nx C1 C2 z b H n)(hn:n≤n2)(hk:∀ x,x<n→H2 x=H x):FnS h X nx C1 C2 z b H2 n2:=by
 have hl:=f.le;exact⟨f.bd.up hn hk,f.ob,by rw [hk _ (by omega)];exact f.c1,by rw [hk _ (by omega)];exact f.c2,by omega⟩
theorem bd_start {h:List Cd}{X:Nat}{H:Heap}{n:Nat}{v:CV}{l:List Fld}(own:OwnR cvF 2 H n v l)(hX:X<n)(hv:∀ x,ob v x→x≠X){k:CB}(hk:k=.cells (bdC h X ⟨v,.nils,.nils,.nils⟩ (zBl l))):BdI h X (upd H X k) n ⟨v,.nils,.nils,.nils⟩ (zBl l):=by
 have nno:∀ x,¬ Go.Proofs.YtoookjadbhdfhaaGreatDoor.ob CV.nils x:=fun x ⟨_,_,_,e⟩=>by cases e
 refine⟨by rw [upd_hit,hk],own.keep' (Nat.le_refl _) fun x hx=>upd_miss _ _ _ _ (hv x hx),OwnR.nil,OwnR.nil,OwnR.nil,hX,fun x hx=>?_,fun x _ h=>nno x h,fun x _ h=>nno x h,fun x _ h=>nno x h,fun x h=>(nno x h).elim,fun x h=>(nno x h).elim,fun x h=>(nno x h).elim⟩;rcases hx with h1 | h1 | h1 | h1
 ·exact hv x h1
 ·exact (nno x h1).elim
 ·exact (nno x h1).elim
 ·exact (nno x h1).elim
theorem FnS.setC {h:List Cd}{X nx:Nat}{C1 C2:CB}{z:Bv}{b:Bl}{H:Heap}{n:Nat}(f:FnS h X nx C1 C2 z b H n){cb:Nat}{rest:List CV}(hz:z.c=.sl cb 0 b.code.length 10)(i:Nat)(x:In):FnS h X nx C1 C2 z { b with code:=b.code.set i x } (upd H cb (.cells ((b.code.set i x).flatMap cvJ++rest))) n:=by
 have ho:=f.ob cb (.inr (.inr (.inl ⟨_,_,_,hz⟩)));exact⟨f.bd.setC hz i x,f.ob,by rw [upd_miss _ _ _ _ (by omega)];exact f.c1,by rw [upd_miss _ _ _ _ (by omega)];exact f.c2,f.le⟩
theorem patB_row {hs:List Nat}{x:In}{o:Nat}(ho:x.han=(o:Int))(hl:o<hs.length):cvJ (patB hs x)=(cvJ x).take 9++[.int .i64 (hs[o]:Nat)]++(cvJ x).drop 10:=by
 unfold patB;rw [if_pos (by omega),ho,Int.toNat_natCast,List.getElem?_eq_getElem hl];rfl
theorem puAv (l:List Int):puV (avV l)=true:=by
 cases l with
 | nil=>rfl
 | cons a l=>simp [avV,puV,puR,puI,puRm puI]
theorem puJ (i:In):puL (cvJ i)=true:=by simp [cvJ,puL,puAv];simp [puV]
theorem puFu (f:Fu):puV (.agg (cvFu f))=true:=by simp [cvFu,puL,puV,puRm puF,puRm puJ]
theorem puFnA (h:List Cd)(c:Bytes)(m:Me):puL [cvH h,.str c,.agg (cvM m)]=true:=by
 have h1:=puH h;have h2:=puM m;simp [puL,h1,puV,h2]
theorem endB_gr (b:Bl)(rs:Bytes):GrS b (endB b rs) 3 0:=by
 unfold endB;split
 ·exact (GrS.em _ _).le (by omega) (by omega)
 ·split
  ·exact (((GrS.tmp b intB).trans (GrS.em _ _)).trans (GrS.em _ _)).le (by omega) (by omega)
  ·exact (((GrS.tmp b nullB).trans (GrS.em _ _)).trans (GrS.em _ _)).le (by omega) (by omega)
theorem funB_sz (h:List Cd)(c:Bytes)(m:Me):(funB h c m).code.length≤4*stsSz m.body+3:=by
 have g:=((blB_gr h m.body (decB0 c m)).trans (GrS.cut _ (decB0 c m).scope.length)).trans (endB_gr _ m.result);have h1:=g.c;have h2:(decB0 c m).code=[]:=(decN_sz (m.params.length+if m.static then 0 else 1) (slotsB c m)).2.2.2.1;have h3:(funB h c m).code.length=(bodB h c m).code.length:=by simp [funB]
 have h4:(bodB h c m).code.length=(endB (cutB (blB h (decB0 c m) m.body) (decB0 c m).scope.length) m.result).code.length:=rfl;rw [h2] at h1;simp only [List.length_nil] at h1;omega
theorem avV_cs' (l:List Int):(avV l).cs=some [avV l]:=by cases l <;> rfl
end
end Go.Proofs.YtoookjadbhdfhaaGreatDoor
