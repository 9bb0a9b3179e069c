/-
  The builder's binary; walked.
-/
import Derived.Test.YtoookjadbhdfhaaGreatDoorUJpBf
import Derived.Test.YtoookjadbhdfhaaGreatDoorUJpAu
set_option linter.unusedSectionVars false
set_option linter.unusedSimpArgs false
set_option linter.unnecessarySimpa false
set_option linter.unusedVariables false
set_option linter.unusedSimpArgs false
set_option linter.unusedVariables false
namespace Go.Proofs.YtoookjadbhdfhaaGreatDoor
section
open Lx Ax Go.RowKit
attribute [local simp] stepS Ax.stepT Dl.on qstep astep estep rd putE over argE ofV ofS loadA pickCells isAggD faddA fieldA partA iaddA idxA sliA bnd binA intA strA unA convA bltA lenA mapOf findK keyD scalD storeA appA srcA srcD upd drp Dl.hp Dl.nx CV.cs CV.one buildA placesA fillA zrep tasA ifaceD eqA eqFs eqIs range2 copyA nbeq nble nblt decEq beqI bneI beqS bneS isED Int.ofNat_inj List.getElem?_map List.getElem?_eq_getElem Option.map_some ti_int ti_bool ti_str ti_i64 ti_Strs ti_Flds ti_Fld ti_Ints ti_Ins ti_In ti_Bd ti_Kd ti_Kf ti_Pb ti_Ex ti_Exs ti_Hi gd gdB callA resA op1
attribute [local simp] nu1 nu2 nu3 nu4 nu5 nu6 nu7 nu8 nu9 nu10 nu11 nu12 nu13 upd_upd
theorem neg64_eq (n:Int):neg64 n=IntKind.i64.wrap (-n):=by
 rw [IntKind.wrap_i64];unfold neg64
 congr 2
 omega
theorem ops2 (h:List Cd)(b:Bl)(e f:Ex):opsB h 2 b [e,f]=((opB h (opB h b e).1 f).1,[(opB h b e).2,(opB h (opB h b e).1 f).2]):=by
 have e2:opsB h (1+1) b (e::[f])=((opsB h 1 (opB h b e).1 [f]).1,(opB h b e).2::(opsB h 1 (opB h b e).1 [f]).2):=by conv=>lhs;rw [opsB]
 rw [show (2:Nat)=1+1 from rfl,e2,ops1]
theorem insE6s {h:List Cd}{b:Bl}{n:Int}{o m:Bytes}{e f:Ex}(hn:n=1∨n=2)(hf:f.kind=1) :
  insE h b (.mk 6 n o m [e,f])=((opB h b e).1,{ zIn with op:=16,a:=(opB h b e).2,n:=if n=1 then f.n else neg64 f.n },intB):=by
 show ((opsB h (cntB 6 n [e,f]) b [e,f]).1,insB h (opsB h (cntB 6 n [e,f]) b [e,f]).1 6 n o m [e,f] (opsB h (cntB 6 n [e,f]) b [e,f]).2)=_
 have hc:cntB 6 n [e,f]=1:=by
  unfold cntB;rw [if_pos ⟨rfl,hn,by simp [hf]⟩]
 rw [hc,ops1];simp [insB]
theorem insE6b {h:List Cd}{b:Bl}{n:Int}{o m:Bytes}{e f:Ex}(hn:¬ ((n=1∨n=2)∧f.kind=1)) :
  insE h b (.mk 6 n o m [e,f])=((opB h (opB h b e).1 f).1,{ zIn with op:=4,a:=(opB h b e).2,b:=(opB h (opB h b e).1 f).2,n:=n },intB):=by
 show ((opsB h (cntB 6 n [e,f]) b [e,f]).1,insB h (opsB h (cntB 6 n [e,f]) b [e,f]).1 6 n o m [e,f] (opsB h (cntB 6 n [e,f]) b [e,f]).2)=_
 have hc:cntB 6 n [e,f]=2:=by
  unfold cntB;rw [if_neg (by simp only [true_and,List.getElem?_cons_succ,List.getElem?_cons_zero,Option.map_some,Option.some.injEq];exact hn),if_pos (by simp)];rfl
 rw [hc,ops2];simp [insB]
section
variable {h:List Cd} {cls:Bytes} {T sc:List Fld} {X:Nat} {H:Heap} {nx:Nat} {z:Bv} {b:Bl}
set_option maxRecDepth 10000 in
set_option maxHeartbeats 16000000 in
theorem lw_binary (n:Int)(o m:Bytes)(e f:Ex)(hop:OpOk h cls T sc e)(hopf:OpOk h cls T sc f)(hi:BdI h X H nx z b)(hx:LwX h cls T sc b)(t u:Bytes)(ht:exT9 h cls sc e=.ok t)(hu:exT9 h cls sc f=.ok u)(hok:OkB b (exSz e+exSz f)) :
  DCall Tryz.prog tkG 27 [.ptr X 0,.agg (cvE (.mk 6 n o m [e,f]))] H nx fun v H' nx'=>v=.tup [.agg (cvJ (insE h b (.mk 6 n o m [e,f])).2.1),.str (insE h b (.mk 6 n o m [e,f])).2.2]∧BdP h X H nx z (insE h b (.mk 6 n o m [e,f])).1 H' nx':=by
 obtain⟨fk,fn,fo,fm,fks⟩:=f;refine DCall.of_body Tryz.func27 rfl ?_;have hcall:=fun H2 n2 (hb2:BdI h X H2 n2 z b)=>hop X H2 n2 z b t hb2 hx ht (hok.grow (n:=0) (Grows.refl _ _) (by omega))
 have hxf:LwX h cls T sc (opB h b e).1:=by
  obtain⟨O,J,hci⟩:=hx.ci;obtain⟨a1,a2,-⟩:=opB_C e b t ht hci hx.vs;exact⟨hx.hb,⟨O,J,a1⟩,hx.vs.grow a2⟩
 have hcallf:=fun H2 n2 z2 (hb2:BdI h X H2 n2 z2 (opB h b e).1)=>hopf X H2 n2 z2 (opB h b e).1 u hb2 hxf hu (hok.grow (opB_gr h e b) (by omega))
 simp only [Xz e] at hcall;simp only [cvE_mk] at hcallf;have hlX:=hi.lt;have q0:=far hlX;refine gDrf cvE_mk ?_;refine DWp.regX [1,3,5,7] (fun H'=>H' nx=some (.cells [.int .i64 6,.int .i64 n,.str o,.str m,.lst [cvE e,cvE (.mk fk fn fo fm fks)]])) (by kernel_rfl) (by kernel_rfl) rfl rfl (fun H1 H2 h12 hS=>by rw [h12 nx (by omega)];exact hS) (by simp [upd,cvE_mk]) ?_
 repeat (first | apply ASx.stepG;(focus (first | rfl | (simp [Xz e,cvE_mk, *];done)));(focus simp [Xz e,cvE_mk, *,-Option.some.injEq];rfl);(focus (first | exact Fits.pure rfl | (refine Fits.look rfl fun H2 hS2=>?_;simp [hS2,Xz e,cvE_mk, *];done) | (refine Fits.look rfl fun H2 hS2=>?_;simp [hS2,Xz e,cvE_mk, *,-Option.some.injEq];rfl) | (refine Fits.eff rfl fun hS2=>?_;simp [Xz e,cvE_mk, *];done))) | apply ASx.pass;(focus simp [Xz e,cvE_mk, *];done) | refine ASx.nil ?_;(try simp only [Xx,Xy,reduceIte,Nat.reduceEqDiff]))
 refine gD ?_
 ((apply DOpl.callD);(focus rfl);(focus (first | rfl | (simp [*];done)));(focus simp [*,-Option.some.injEq];rfl);kernel_rfl)
 ·exact hcall _ _ (hi.up (by omega) fun x hx=>by repeat rw [upd_miss _ _ _ _ (by omega)])
 rintro vv H3 n3 ⟨rfl,z3,k1,k2,k3,k4⟩;clear hcall;have hfin:∀ b2 H4 n4,BdP h X H3 n3 z3 b2 H4 n4→∀ H5,(∀ x,x<n4→x≠nx+1→H5 x=H4 x)→BdP h X H nx z b2 H5 n4:=fun b2 H4 n4 p H5 h5=>by
  exact BdP.own hi (BdP.seq k2 k3 k4 p) (by omega) (fun x hx=>by repeat rw [upd_miss _ _ _ _ (by omega)]) (Nat.le_refl _) fun x hx hb=>h5 x hx (by omega)
 generalize hb1:(opB h b e).1=b1 at *;generalize hr1:(opB h b e).2=r1 at *;have nob:∀ x,nx≤x→¬ OB X z x:=fun x hx ho=>by have:=hi.lo ho;omega
 have nob3:∀ x,nx≤x→x<nx+1+1+12→¬ OB X z3 x:=fun x hx hl ho=>(k4 x ho).elim (nob x hx) (fun h6=>by omega)
 have g0:=k3 nx (by omega) (nob _ (by omega));have g1:=k3 (nx+1) (by omega) (nob _ (by omega));have g9:=k3 (nx+1+1+9) (by omega) (nob _ (by omega));simp [upd] at g0 g1 g9;clear k3 hop hopf
 by_cases c1:fk=1
 case neg =>
  rw [insE6b (f:=.mk fk fn fo fm fks) (fun hh=>c1 hh.2),hb1,hr1];refine gDr ?_;refine DWp.regX [2,5] (fun H'=>H' nx=some (.cells [.int .i64 6,.int .i64 n,.str o,.str m,.lst [cvE e,cvE (.mk fk fn fo fm fks)]])∧H' (nx+1+1+9)=some (.cells (cvE (.mk fk fn fo fm fks)))) (by kernel_rfl) (by kernel_rfl) rfl rfl (fun H1 H2 h12 hS=>⟨by rw [h12 nx (by omega)];exact hS.1,by rw [h12 _ (by omega)];exact hS.2⟩) ⟨by simp [Xz e,cvE_mk, *],by simp [cvE_mk, *]⟩ ?_
  repeat (first | apply ASx.stepG;(focus (first | rfl | (simp [Xz e,cvE_mk, *];done)));(focus simp [Xz e,cvE_mk, *,-Option.some.injEq];rfl);(focus (first | exact Fits.pure rfl | (refine Fits.look rfl fun H2 hS2=>?_;simp [hS2,Xz e,cvE_mk, *];done) | (refine Fits.look rfl fun H2 hS2=>?_;simp [hS2,Xz e,cvE_mk, *,-Option.some.injEq];rfl) | (refine Fits.eff rfl fun hS2=>?_;simp [Xz e,cvE_mk, *];done))) | apply ASx.pass;(focus simp [Xz e,cvE_mk, *];done) | refine ASx.nil ?_;(try simp only [Xx,Xy,reduceIte,Nat.reduceEqDiff]))
  ((apply ASx.callD);(focus (first | rfl | (simp [*];done)));(focus simp [*,-Option.some.injEq];rfl);kernel_rfl)
  ·exact hcallf _ _ _ (k1.up (by omega) fun _ _=>rfl)
  rintro vv H4 n4 ⟨rfl,z4,m1,m2,m3,m4⟩;have g04:=m3 nx (by omega) (nob3 _ (by omega) (by omega));have g14:=m3 (nx+1) (by omega) (nob3 _ (by omega) (by omega));have g94:=m3 (nx+1+1+9) (by omega) (nob3 _ (by omega) (by omega));rw [g0] at g04;rw [g1] at g14;rw [g9] at g94;refine⟨by omega,fun x hx1 hx2 hx3=>by rw [m3 x (by simp at hx2;omega) (fun ho=>by have:=k1.lo ho;omega)];exact hx3,fun _=>⟨by simp [Xz e,cvE_mk, *],by simp [cvE_mk, *]⟩,?_⟩;clear hcallf;generalize hb2:(opB h b1 (.mk fk fn fo fm fks)).1=b2 at *;generalize hr2:(opB h b1 (.mk fk fn fo fm fks)).2=r2 at *;have hfin2:=hfin _ _ _ ⟨z4,m1,by omega,fun x hx ho=>m3 x (by omega) ho,fun x hx=>(m4 x hx).imp id (fun h6=>by omega)⟩
  repeat (first | apply ASx.stepG;(focus (first | rfl | (simp [Xz e,cvE_mk, *];done)));(focus simp [Xz e,cvE_mk, *,-Option.some.injEq];rfl);(focus (first | exact Fits.pure rfl | (refine Fits.look rfl fun H2 hS2=>?_;simp [hS2,Xz e,cvE_mk, *];done) | (refine Fits.look rfl fun H2 hS2=>?_;simp [hS2,Xz e,cvE_mk, *,-Option.some.injEq];rfl) | (refine Fits.eff rfl fun hS2=>?_;simp [Xz e,cvE_mk, *];done))) | apply ASx.pass;(focus simp [Xz e,cvE_mk, *];done) | refine ASx.nil ?_;(try simp only [Xx,Xy,reduceIte,Nat.reduceEqDiff]))
  refine gD ?_
  (refine⟨_,(by simp [*];rfl),?_⟩;(try simp only [packA]))
  exact⟨_,rfl,by rfl,hfin2 _ fun x _ hx=>upd_miss _ _ _ _ hx⟩
 subst c1
 by_cases c2:n=1
 ·subst c2;rw [insE6s (.inl rfl) rfl,hb1,hr1];refine gD ?_
  (refine⟨_,(by simp [*];rfl),?_⟩;(try simp only [packA]))
  exact⟨_,rfl,by rfl,hfin _ _ _ k1.toP _ fun x _ hx=>upd_miss _ _ _ _ hx⟩
 by_cases c3:n=2
 ·subst c3;rw [insE6s (.inr rfl) rfl,hb1,hr1,if_neg (by omega),neg64_eq];refine gD ?_
  (refine⟨_,(by simp [*];rfl),?_⟩;(try simp only [packA]))
  exact⟨_,rfl,by rfl,hfin _ _ _ k1.toP _ fun x _ hx=>upd_miss _ _ _ _ hx⟩
 rw [insE6b (f:=.mk 1 fn fo fm fks) (fun hh=>hh.1.elim c2 c3),hb1,hr1];refine gDr ?_;refine DWp.regX [2,5] (fun H'=>H' nx=some (.cells [.int .i64 6,.int .i64 n,.str o,.str m,.lst [cvE e,cvE (.mk 1 fn fo fm fks)]])∧H' (nx+1+1+9)=some (.cells (cvE (.mk 1 fn fo fm fks)))) (by kernel_rfl) (by kernel_rfl) rfl rfl (fun H1 H2 h12 hS=>⟨by rw [h12 nx (by omega)];exact hS.1,by rw [h12 _ (by omega)];exact hS.2⟩) ⟨by simp [Xz e,cvE_mk, *],by simp [cvE_mk, *]⟩ ?_
 repeat (first | apply ASx.stepG;(focus (first | rfl | (simp [Xz e,cvE_mk, *];done)));(focus simp [Xz e,cvE_mk, *,-Option.some.injEq];rfl);(focus (first | exact Fits.pure rfl | (refine Fits.look rfl fun H2 hS2=>?_;simp [hS2,Xz e,cvE_mk, *];done) | (refine Fits.look rfl fun H2 hS2=>?_;simp [hS2,Xz e,cvE_mk, *,-Option.some.injEq];rfl) | (refine Fits.eff rfl fun hS2=>?_;simp [Xz e,cvE_mk, *];done))) | apply ASx.pass;(focus simp [Xz e,cvE_mk, *];done) | refine ASx.nil ?_;(try simp only [Xx,Xy,reduceIte,Nat.reduceEqDiff]))
 ((apply ASx.callD);(focus (first | rfl | (simp [*];done)));(focus simp [*,-Option.some.injEq];rfl);kernel_rfl)
 ·exact hcallf _ _ _ (k1.up (by omega) fun _ _=>rfl)
 rintro vv H4 n4 ⟨rfl,z4,m1,m2,m3,m4⟩;have g04:=m3 nx (by omega) (nob3 _ (by omega) (by omega));have g14:=m3 (nx+1) (by omega) (nob3 _ (by omega) (by omega));have g94:=m3 (nx+1+1+9) (by omega) (nob3 _ (by omega) (by omega));rw [g0] at g04;rw [g1] at g14;rw [g9] at g94;refine⟨by omega,fun x hx1 hx2 hx3=>by rw [m3 x (by simp at hx2;omega) (fun ho=>by have:=k1.lo ho;omega)];exact hx3,fun _=>⟨by simp [Xz e,cvE_mk, *],by simp [cvE_mk, *]⟩,?_⟩;clear hcallf;generalize hb2:(opB h b1 (.mk 1 fn fo fm fks)).1=b2 at *;generalize hr2:(opB h b1 (.mk 1 fn fo fm fks)).2=r2 at *;have hfin2:=hfin _ _ _ ⟨z4,m1,by omega,fun x hx ho=>m3 x (by omega) ho,fun x hx=>(m4 x hx).imp id (fun h6=>by omega)⟩
 repeat (first | apply ASx.stepG;(focus (first | rfl | (simp [Xz e,cvE_mk, *];done)));(focus simp [Xz e,cvE_mk, *,-Option.some.injEq];rfl);(focus (first | exact Fits.pure rfl | (refine Fits.look rfl fun H2 hS2=>?_;simp [hS2,Xz e,cvE_mk, *];done) | (refine Fits.look rfl fun H2 hS2=>?_;simp [hS2,Xz e,cvE_mk, *,-Option.some.injEq];rfl) | (refine Fits.eff rfl fun hS2=>?_;simp [Xz e,cvE_mk, *];done))) | apply ASx.pass;(focus simp [Xz e,cvE_mk, *];done) | refine ASx.nil ?_;(try simp only [Xx,Xy,reduceIte,Nat.reduceEqDiff]))
 refine gD ?_
 (refine⟨_,(by simp [*];rfl),?_⟩;(try simp only [packA]))
 exact⟨_,rfl,by rfl,hfin2 _ fun x _ hx=>upd_miss _ _ _ _ hx⟩
end
end
section
open Lx Ax Go.RowKit
attribute [local simp] stepS Ax.stepT Dl.on qstep astep estep rd putE over argE ofV ofS loadA pickCells isAggD faddA fieldA partA iaddA idxA bnd binA intA strA unA convA bltA lenA mapOf findK keyD scalD storeA appA srcA srcD upd drp Dl.hp Dl.nx CV.cs CV.one buildA placesA fillA zrep tasA ifaceD eqA eqFs eqIs range2 copyA nbeq nble nblt decEq beqI bneI beqS bneS isED Int.ofNat_inj List.getElem?_map List.getElem?_eq_getElem Option.map_some ti_int ti_bool ti_str ti_i64 ti_Strs ti_Flds ti_Fld ti_Ints ti_Ins ti_In ti_Bd ti_Kd ti_Kf ti_Pb ti_Ex ti_Exs ti_Hi ti_Sg gd gdB callA resA op1
attribute [local simp] nu1 nu2 nu3 nu4 nu5 nu6 nu7 nu8 nu9 nu10 nu11 nu12 nu13 upd_upd
theorem tail_sli (P:Program)(H:Heap){t el:TypeId}{s b1:Nat}{z:Value}{i:TI}(ht:ti P t=some ⟨.slice el,s,z,b1⟩)(hi:ti P el=some i)(hs:i.size=5)(e:Ex)(l:List Ex):sliA P H t (.lst (cvE e::l.map cvE)) (some (.int .i64 1)) none=some (.lst (l.map cvE)):=by
 unfold sliA;have h1:(cvE e::l.map cvE).all (fun r=>Nat.beq r.length i.size)=true:=by
  simp [hs,cvE_len]
 simp only [ht,hi,bnd,h1];have h2:natOf 1=some 1:=rfl;have h3:(l.map cvE).take l.length=l.map cvE:=by rw [← List.length_map (f:=cvE),List.take_length]
 simp [h2,h3]
theorem avV_cs (l:List Int):(avV l).cs=some [avV l]:=by cases l <;> rfl
theorem opsS (h:List Cd)(c:Nat)(b:Bl)(e:Ex)(l:List Ex):opsB h (c+1) b (e::l)=((opsB h c (opB h b e).1 l).1,(opB h b e).2::(opsB h c (opB h b e).1 l).2):=by conv=>lhs;rw [opsB]
theorem insE9 {h:List Cd}{b b1 b2:Bl}{n:Int}{o m t i:Bytes}{g:Sg}{e:Ex}{l:List Ex}{s:Nat}{r:List Int}(h1:(opB h b e).1=b1)(h2:(opB h b e).2=(s:Int))(h3:opsB h l.length b1 l=(b2,r))(h4:typeAt b2 (s:Int)=t)(h5:lookF h t m=some (i,g)) :
  insE h b (.mk 9 n o m (e::l))=(b2,{ zIn with op:=9,a:=s,cls:=t,name:=m,args:=r },g.result):=by
 show ((opsB h (cntB 9 n (e::l)) b (e::l)).1,insB h (opsB h (cntB 9 n (e::l)) b (e::l)).1 9 n o m (e::l) (opsB h (cntB 9 n (e::l)) b (e::l)).2)=_
 have hc:cntB 9 n (e::l)=l.length+1:=by simp [cntB]
 rw [hc,opsS,h1,h2,h3];simp [insB,h4,sigOf,h5]
theorem insE10 {h:List Cd}{b b2:Bl}{n:Int}{o m i:Bytes}{g:Sg}{l:List Ex}{r:List Int}(h3:opsB h l.length b l=(b2,r))(h5:lookF h o m=some (i,g)) :
  insE h b (.mk 10 n o m l)=(b2,{ zIn with op:=10,cls:=i,name:=m,args:=r },g.result):=by
 show ((opsB h (cntB 10 n l) b l).1,insB h (opsB h (cntB 10 n l) b l).1 10 n o m l (opsB h (cntB 10 n l) b l).2)=_
 have hc:cntB 10 n l=l.length:=by simp [cntB]
 rw [hc,h3];simp [insB,sigOf,h5]
section
variable {h:List Cd} {cls:Bytes} {T sc:List Fld} {X:Nat} {H:Heap} {nx:Nat} {z:Bv} {b:Bl}
set_option maxRecDepth 10000 in
set_option maxHeartbeats 16000000 in
theorem lw_static (n:Int)(o m:Bytes)(l:List Ex)(hop:∀ e∈l,OpOk h cls T sc e)(hi:BdI h X H nx z b)(hx:LwX h cls T sc b)(hty:∀ e∈l,isOk (exT9 h cls sc e)=true)(i:Bytes)(g:Sg)(hl:lookF h o m=some (i,g))(hok:OkB b (exsSz l)) :
  DCall Tryz.prog tkG 31 [.ptr X 0,.agg (cvE (.mk 10 n o m l))] H nx fun v H' nx'=>v=.tup [.agg (cvJ (insE h b (.mk 10 n o m l)).2.1),.str (insE h b (.mk 10 n o m l)).2.2]∧BdP h X H nx z (insE h b (.mk 10 n o m l)).1 H' nx':=by
 refine DCall.of_body Tryz.func31 rfl ?_;have hlX:=hi.lt;have q0:=far hlX;have hlk:=tk_Lookup h hx.hb o m;rw [hl] at hlk;simp only [tupG,cvH,cvG] at hlk;obtain⟨r,hr⟩:∃ r,(opsB h l.length b l).2=r:=⟨_,rfl⟩;rw [insE10 (r:=r) (by rw [← hr]) hl];have hcall:=fun H2 n2 (hb2:BdI h X H2 n2 z b)=>lw_operands (H:=H2) (nx:=n2) (z:=z) l hop hty hb2 hx hok
 rw [hr] at hcall;have ho1:=avV_one r;simp only [CV.one] at ho1;have hc1:=avV_cs r;simp only [CV.cs] at hc1;generalize (opsB h l.length b l).1=b2 at *;have hX:H X=some (.cells ([.lst (h.map cvD),z.v,z.c,.int .i64 b.slots,.int .i64 b.next,z.s,.int .i64 b.handler,z.t]++knd X)):=hi.blk;simp only [knd,List.cons_append,List.nil_append] at hX;refine gDrf cvE_mk ?_;refine DWp.regX [3,5,7] (fun H'=>H' nx=some (.cells [.int .i64 10,.int .i64 n,.str o,.str m,.lst (l.map cvE)])∧H' X=H X) (by kernel_rfl) (by kernel_rfl) rfl rfl (fun H1 H2 h12 hS=>⟨by rw [h12 nx (by omega)];exact hS.1,by rw [h12 X (by omega)];exact hS.2⟩) ⟨by simp [upd],by simp [upd, *]⟩ ?_
 repeat (first | apply ASx.stepG;(focus (first | rfl | (simp [cvE_mk, *];done)));(focus simp [cvE_mk, *,-Option.some.injEq];rfl);(focus (first | exact Fits.pure rfl | (refine Fits.look rfl fun H2 hS2=>?_;simp [hS2,cvE_mk, *];done) | (refine Fits.look rfl fun H2 hS2=>?_;simp [hS2,cvE_mk, *,-Option.some.injEq];rfl) | (refine Fits.eff rfl fun hS2=>?_;simp [cvE_mk, *];done))) | apply ASx.pass;(focus simp [cvE_mk, *];done) | refine ASx.nil ?_;(try simp only [Xx,Xy,reduceIte,Nat.reduceEqDiff]))
 ((apply ASx.callD);(focus (first | rfl | (simp [*];done)));(focus simp [*,-Option.some.injEq];rfl);kernel_rfl)
 ·exact DCall.one hlk
 rintro vv H3 n3 ⟨rfl,rfl,rfl⟩;refine⟨Nat.le_refl _,fun _ _ _ hh=>hh,id,?_⟩
 repeat (first | apply ASx.stepG;(focus (first | rfl | (simp [*];done)));(focus simp [*,-Option.some.injEq];rfl);(focus (first | exact Fits.pure rfl | (refine Fits.look rfl fun H2 hS2=>?_;simp [hS2, *];done) | (refine Fits.look rfl fun H2 hS2=>?_;simp [hS2, *,-Option.some.injEq];rfl) | (refine Fits.eff rfl fun hS2=>?_;simp [*];done))) | apply ASx.pass;(focus simp [*];done) | refine ASx.nil ?_;(try simp only [Xx,Xy,reduceIte,Nat.reduceEqDiff]))
 refine gDr ?_;refine DWp.regX [2,5,9] (fun H'=>H' nx=some (.cells [.int .i64 10,.int .i64 n,.str o,.str m,.lst (l.map cvE)])∧H' (nx+1+1+13)=some (.cells [.str g.name,.bool g.static,.lst (g.params.map cvN),.str g.result])) (by kernel_rfl) (by kernel_rfl) rfl rfl (fun H1 H2 h12 hS=>⟨by rw [h12 nx (by omega)];exact hS.1,by rw [h12 _ (by omega)];exact hS.2⟩) ⟨by simp [upd],by simp [upd]⟩ ?_
 repeat (first | apply ASx.stepG;(focus (first | rfl | (simp [*];done)));(focus simp [*,-Option.some.injEq];rfl);(focus (first | exact Fits.pure rfl | (refine Fits.look rfl fun H2 hS2=>?_;simp [hS2, *];done) | (refine Fits.look rfl fun H2 hS2=>?_;simp [hS2, *,-Option.some.injEq];rfl) | (refine Fits.eff rfl fun hS2=>?_;simp [*];done))) | apply ASx.pass;(focus simp [*];done) | refine ASx.nil ?_;(try simp only [Xx,Xy,reduceIte,Nat.reduceEqDiff]))
 ((apply ASx.callD);(focus (first | rfl | (simp [*];done)));(focus simp [*,-Option.some.injEq];rfl);kernel_rfl)
 ·exact hcall _ _ (hi.up (by omega) fun x hx=>by repeat rw [upd_miss _ _ _ _ (by omega)])
 rintro vv H4 n4 ⟨rfl,z4,m1,m2,m3,m4⟩;have nob:∀ x,nx≤x→¬ OB X z x:=fun x hx ho=>by have:=hi.lo ho;omega
 have g0:=m3 nx (by omega) (nob _ (by omega));have g1:=m3 (nx+1) (by omega) (nob _ (by omega));have g9:=m3 (nx+1+1+13) (by omega) (nob _ (by omega));simp [upd] at g0 g1 g9;refine⟨by omega,fun x hx1 hx2 hx3=>by rw [m3 x (by simp at hx2;omega) (nob _ (by omega))];exact hx3,fun _=>⟨g0,g9⟩,?_⟩;have hfin:=fun k=>BdP.own (H4:=upd H4 (nx+1) k) hi ⟨z4,m1,m2,m3,m4⟩ (by omega) (fun x hx=>by repeat rw [upd_miss _ _ _ _ (by omega)]) (Nat.le_refl _) fun x hx hb=>upd_miss _ _ _ _ (by omega)
 clear hcall m3
 repeat (first | apply ASx.stepG;(focus (first | rfl | (simp [*];done)));(focus simp [*,-Option.some.injEq];rfl);(focus (first | exact Fits.pure rfl | (refine Fits.look rfl fun H2 hS2=>?_;simp [hS2, *];done) | (refine Fits.look rfl fun H2 hS2=>?_;simp [hS2, *,-Option.some.injEq];rfl) | (refine Fits.eff rfl fun hS2=>?_;simp [*];done))) | apply ASx.pass;(focus simp [*];done) | refine ASx.nil ?_;(try simp only [Xx,Xy,reduceIte,Nat.reduceEqDiff]))
 refine gD ?_
 (refine⟨_,(by simp [*];rfl),?_⟩;(try simp only [packA]))
 exact⟨_,rfl,by rfl,hfin _⟩
set_option maxRecDepth 10000 in
set_option maxHeartbeats 16000000 in
theorem lw_call (n:Int)(o m:Bytes)(e:Ex)(l:List Ex)(hop:OpOk h cls T sc e)(hopl:∀ e∈l,OpOk h cls T sc e)(hi:BdI h X H nx z b)(hx:LwX h cls T sc b)(t:Bytes)(ht:exT9 h cls sc e=.ok t)(hty:∀ e∈l,isOk (exT9 h cls sc e)=true)(i:Bytes)(g:Sg)(hl:lookF h t m=some (i,g))(hok:OkB b (exSz e+exsSz l)) :
  DCall Tryz.prog tkG 30 [.ptr X 0,.agg (cvE (.mk 9 n o m (e::l)))] H nx fun v H' nx'=>v=.tup [.agg (cvJ (insE h b (.mk 9 n o m (e::l))).2.1),.str (insE h b (.mk 9 n o m (e::l))).2.2]∧BdP h X H nx z (insE h b (.mk 9 n o m (e::l))).1 H' nx':=by
 refine DCall.of_body Tryz.func30 rfl ?_;have hlX:=hi.lt;have q0:=far hlX;have hlk:=tk_Lookup h hx.hb t m;rw [hl] at hlk;simp only [tupG,cvH,cvG] at hlk;have hcall:=fun H2 n2 (hb2:BdI h X H2 n2 z b)=>hop X H2 n2 z b t hb2 hx ht (hok.grow (n:=0) (Grows.refl _ _) (by omega))
 obtain⟨O,J,hci⟩:=hx.ci;obtain⟨a1,a2,s,hs1,hs2⟩:=opB_C e b t ht hci hx.vs;have hx1:LwX h cls T sc (opB h b e).1:=⟨hx.hb,⟨O,J,a1⟩,hx.vs.grow a2⟩;have hok1:OkB (opB h b e).1 (exsSz l):=hok.grow (opB_gr h e b) (by omega);obtain⟨r,hr⟩:∃ r,(opsB h l.length (opB h b e).1 l).2=r:=⟨_,rfl⟩;have hty2:typeAt (opsB h l.length (opB h b e).1 l).1 (s:Int)=t:=by
  obtain⟨-,c2,-⟩:=opsB_C l l.length (opB h b e).1 hty a1 (hx.vs.grow a2);exact typ_at (c2.typ hs2)
 rw [insE9 (s:=s) (r:=r) (b2:=(opsB h l.length (opB h b e).1 l).1) rfl hs1 (by rw [← hr]) hty2 hl];have hcallO:=fun H2 n2 z2 (hb2:BdI h X H2 n2 z2 (opB h b e).1)=>lw_operands (H:=H2) (nx:=n2) (z:=z2) l hopl hty hb2 hx1 hok1
 rw [hr] at hcallO;rw [hs1] at hcall;have hsl:s<(opB h b e).1.vars.length:=by
  cases hv:(opB h b e).1.vars[s]? with
  | none=>rw [hv] at hs2;cases hs2
  | some f=>exact (List.getElem?_eq_some_iff.mp hv).1
 rw [List.getElem?_eq_getElem hsl,Option.map_some,Option.some.injEq] at hs2;clear hty2 hs1 hr hx1 hok1 a1 a2;generalize (opsB h l.length (opB h b e).1 l).1=b2 at *;generalize (opB h b e).1=b1 at *;have ho1:=avV_one r;simp only [CV.one] at ho1;have hc1:=avV_cs r;simp only [CV.cs] at hc1;have htl:∀ H',sliA Tryz.prog H' 61 (.lst (cvE e::l.map cvE)) (some (.int .i64 1)) none=some (.lst (l.map cvE)):=fun H'=>tail_sli _ H' ti_Exs ti_Ex rfl e l
 simp only [Xz e] at hcall htl;refine gDf (And.intro cvE_mk (Xz e)) ?_
 ((apply DOpl.callD);(focus rfl);(focus (first | rfl | (simp [cvE_mk,Xz e, *];done)));(focus simp [cvE_mk,Xz e, *,-Option.some.injEq];rfl);kernel_rfl)
 ·exact hcall _ _ (hi.up (by omega) fun x hx=>by repeat rw [upd_miss _ _ _ _ (by omega)])
 rintro vv H3 n3 ⟨rfl,z3,k1,k2,k3,k4⟩;clear hcall;have hfin:∀ b2 H4 n4,BdP h X H3 n3 z3 b2 H4 n4→∀ H5 n5,n4≤n5→(∀ x,x<n4→x≠nx+1→H5 x=H4 x)→BdP h X H nx z b2 H5 n5:=fun b2 H4 n4 p H5 n5 h6 h5=>by
  exact BdP.own hi (BdP.seq k2 k3 k4 p) (by omega) (fun x hx=>by repeat rw [upd_miss _ _ _ _ (by omega)]) h6 fun x hx hb=>h5 x hx (by omega)
 have nob:∀ x,nx≤x→¬ OB X z x:=fun x hx ho=>by have:=hi.lo ho;omega
 have nob3:∀ x,nx≤x→(x<nx+1+1∨n3≤x)→¬ OB X z3 x:=fun x hx hl ho=>by
  have:=k1.lo ho;exact (k4 x ho).elim (nob x hx) (fun h6=>by omega)
 have g0:=k3 nx (by omega) (nob _ (by omega));have g1:=k3 (nx+1) (by omega) (nob _ (by omega));rw [upd_miss _ _ _ _ (by omega),upd_hit] at g0;rw [upd_hit] at g1;clear k3;obtain⟨vb,rest,hz,hvb,hvl⟩:=k1.v.pos hsl;have hX3:H3 X=some (.cells ([.lst (h.map cvD),z3.v,z3.c,.int .i64 b1.slots,.int .i64 b1.next,z3.s,.int .i64 b1.handler,z3.t]++knd X)):=k1.blk;simp only [knd,List.cons_append,List.nil_append,hz] at hX3;have hro:=row_get cvF_len rest b1.vars s 1 hsl (by omega);refine gDr ?_;have q3:=far (show X<n3 by omega);have q4:=far (show nx<n3 by omega);have q5:=far (show nx+1<n3 by omega);refine DWp.regX [3,6] (fun H'=>H' nx=H3 nx∧H' X=H3 X) (by kernel_rfl) (by kernel_rfl) rfl rfl (fun H1 H2 h12 hS=>⟨by rw [h12 nx (by omega)];exact hS.1,by rw [h12 X (by omega)];exact hS.2⟩) ⟨rfl,rfl⟩ ?_
 repeat (first | apply ASx.stepG;(focus (first | rfl | (simp [*];done)));(focus simp [*,-Option.some.injEq];rfl);(focus (first | exact Fits.pure rfl | (refine Fits.look rfl fun H2 hS2=>?_;simp [hS2, *];done) | (refine Fits.look rfl fun H2 hS2=>?_;simp [hS2, *,-Option.some.injEq];rfl) | (refine Fits.eff rfl fun hS2=>?_;simp [*];done))) | apply ASx.pass;(focus simp [*];done) | refine ASx.nil ?_;(try simp only [Xx,Xy,reduceIte,Nat.reduceEqDiff]))
 ((apply ASx.callD);(focus (first | rfl | (simp [*];done)));(focus simp [*,-Option.some.injEq];rfl);kernel_rfl)
 ·exact DCall.one hlk
 rintro vv H3 n4 ⟨rfl,rfl,rfl⟩;refine⟨Nat.le_refl _,fun _ _ _ hh=>hh,id,?_⟩
 repeat (first | apply ASx.stepG;(focus (first | rfl | (simp [*];done)));(focus simp [*,-Option.some.injEq];rfl);(focus (first | exact Fits.pure rfl | (refine Fits.look rfl fun H2 hS2=>?_;simp [hS2, *];done) | (refine Fits.look rfl fun H2 hS2=>?_;simp [hS2, *,-Option.some.injEq];rfl) | (refine Fits.eff rfl fun hS2=>?_;simp [*];done))) | apply ASx.pass;(focus simp [*];done) | refine ASx.nil ?_;(try simp only [Xx,Xy,reduceIte,Nat.reduceEqDiff]))
 refine gDr ?_;refine DWp.regX [3,6,7] (fun H'=>H' nx=H3 nx) (by kernel_rfl) (by kernel_rfl) rfl rfl (fun H1 H2 h12 hS=>by rw [h12 nx (by omega)];exact hS) (by simp [upd, *]) ?_
 repeat (first | apply ASx.stepG;(focus (first | rfl | (simp [*];done)));(focus simp [*,-Option.some.injEq];rfl);(focus (first | exact Fits.pure rfl | (refine Fits.look rfl fun H2 hS2=>?_;simp [hS2, *];done) | (refine Fits.look rfl fun H2 hS2=>?_;simp [hS2, *,-Option.some.injEq];rfl) | (refine Fits.eff rfl fun hS2=>?_;simp [*];done))) | apply ASx.pass;(focus simp [*];done) | refine ASx.nil ?_;(try simp only [Xx,Xy,reduceIte,Nat.reduceEqDiff]))
 ((apply ASx.callD);(focus (first | rfl | (simp [*];done)));(focus simp [*,-Option.some.injEq];rfl);kernel_rfl)
 ·exact hcallO _ _ _ (k1.up (by omega) fun x hx=>by repeat rw [upd_miss _ _ _ _ (by omega)])
 rintro vv H4 n4 ⟨rfl,z4,m1,m2,m3,m4⟩;have g04:=m3 nx (by omega) (nob3 _ (by omega) (by omega));have g14:=m3 (nx+1) (by omega) (nob3 _ (by omega) (by omega));have g94:=m3 (n3+12) (by omega) (nob3 _ (by omega) (by omega));rw [upd_miss _ _ _ _ (by omega),g0] at g04;rw [upd_miss _ _ _ _ (by omega),g1] at g14;rw [upd_hit] at g94;refine⟨by omega,fun x hx1 hx2 hx3=>by rw [m3 x (by simp at hx2;omega) (nob3 _ (by omega) (by omega))];exact hx3,fun _=>by rw [g04,g0],?_⟩;have hfin2:=fun H5 h5=>hfin _ _ _ (BdP.own (H4:=H5) k1 ⟨z4,m1,m2,m3,m4⟩ (by omega) (fun x hx=>by repeat rw [upd_miss _ _ _ _ (by omega)]) (Nat.le_refl _) h5)
 clear hcallO m3
 repeat (first | apply ASx.stepG;(focus (first | rfl | (simp [*];done)));(focus simp [*,-Option.some.injEq];rfl);(focus (first | exact Fits.pure rfl | (refine Fits.look rfl fun H2 hS2=>?_;simp [hS2, *];done) | (refine Fits.look rfl fun H2 hS2=>?_;simp [hS2, *,-Option.some.injEq];rfl) | (refine Fits.eff rfl fun hS2=>?_;simp [*];done))) | apply ASx.pass;(focus simp [*];done) | refine ASx.nil ?_;(try simp only [Xx,Xy,reduceIte,Nat.reduceEqDiff]))
 refine gDr ?_;refine DWp.regX [0,2] (fun H'=>H' (n3+16+10)=some (.cells [.int .i64 9,.int .i64 0,.int .i64 s,.int .i64 0,.int .i64 0,.str t,.str m,avV r,.int .i64 0,.int .i64 0])∧H' (n3+12)=some (.cells [.str g.name,.bool g.static,.lst (g.params.map cvN),.str g.result])) (by kernel_rfl) (by kernel_rfl) rfl rfl (fun H1 H2 h12 hS=>⟨by rw [h12 _ (by omega)];exact hS.1,by rw [h12 _ (by omega)];exact hS.2⟩) ⟨by simp [upd, *],by rw [upd_miss _ _ _ _ (by omega)];exact g94⟩ ?_;have q6:=far (show nx+1<n3+12 by omega);have q7:=far (show nx+1<n3+16+10 by omega)
 repeat (first | apply ASx.stepG;(focus (first | rfl | (simp [*];done)));(focus simp [*,-Option.some.injEq];rfl);(focus (first | exact Fits.pure rfl | (refine Fits.look rfl fun H2 hS2=>?_;simp [hS2, *];done) | (refine Fits.look rfl fun H2 hS2=>?_;simp [hS2, *,-Option.some.injEq];rfl) | (refine Fits.eff rfl fun hS2=>?_;simp [*];done))) | apply ASx.pass;(focus simp [*];done) | refine ASx.nil ?_;(try simp only [Xx,Xy,reduceIte,Nat.reduceEqDiff]))
 refine gD ?_
 (refine⟨_,(by simp [*];rfl),?_⟩;(try simp only [packA]))
 exact⟨_,rfl,by rfl,hfin2 _ (fun x hx hb=>upd_miss _ _ _ _ (by omega)) _ _ (Nat.le_add_right _ _) fun x hx hb=>upd_miss _ _ _ _ hb⟩
end
end
section
open Lx Ax Go.RowKit
variable {h:List Cd} {cls:Bytes} {T sc:List Fld}
theorem lw_len2 {α:Type}:∀ {l:List α},l.length=2→∃ a b,l=[a,b]
 | [a,b],_=>⟨a,b,rfl⟩
 | [],h=>by simp at h
 | [a],h=>by simp at h
 | a::b::c::l,h=>by simp at h
theorem exSz_in {e:Ex}{l:List Ex}(he:e∈l):exSz e≤exsSz l:=by
 obtain⟨i,hi⟩:=List.getElem?_of_mem he;exact exSz_get l i e hi
theorem ok_ex {e:Ex}(hh:isOk (exT9 h cls sc e)=true):∃ t,exT9 h cls sc e=.ok t:=ok_of hh
theorem lw_kinds (k n:Int)(o m:Bytes)(ks:List Ex)(ih:∀ e∈ks,OpOk h cls T sc e):KnOk h cls T sc (.mk k n o m ks):=by
 intro X H nx z b t hi hx ht hok c3 c4;have kt:=kt_of ht;have ok:=insE_ok (h:=h) hok;simp only [Ex.kind] at c3 c4 ⊢;have hr:=kt.rng;have hkl:=kt.len
 by_cases k1:k=1
 ·subst k1;have e1:insE h b (.mk 1 n o m ks)=(b,{ zIn with op:=1,n:=n },intB):=by rw [ins0 (by simp [cntB])];simp [insB]
  rw [e1] at ok ⊢;exact (lw_integer hi n o m ks).mono fun v H' nx' p=>⟨p.1,ok,p.2⟩
 by_cases k2:k=2
 ·subst k2;have e1:insE h b (.mk 2 n o m ks)=(b,{ zIn with op:=2 },nullB):=by rw [ins0 (by simp [cntB])];simp [insB]
  rw [e1] at ok ⊢;exact (lw_null hi _).mono fun v H' nx' p=>⟨p.1,ok,p.2⟩
 by_cases k5:k=5
 ·subst k5;have e1:insE h b (.mk 5 n o m ks)=(b,{ zIn with op:=5 },intB):=by rw [ins0 (by simp [cntB])];simp [insB]
  rw [e1] at ok ⊢;exact (lw_input hi _).mono fun v H' nx' p=>⟨p.1,ok,p.2⟩
 by_cases k7:k=7
 ·subst k7;have e1:insE h b (.mk 7 n o m ks)=(b,{ zIn with op:=6,cls:=m },m):=by rw [ins0 (by simp [cntB])];simp [insB]
  rw [e1] at ok ⊢;exact (lw_object hi 7 n o m ks).mono fun v H' nx' p=>⟨p.1,ok,p.2⟩
 rw [exSz] at hok
 by_cases k6:k=6
 ·subst k6;unfold kidsT at hkl;simp at hkl;obtain⟨e,f,rfl⟩:=lw_len2 hkl;obtain⟨t1,ht1⟩:=ok_ex (kt.all e (by simp));obtain⟨t2,ht2⟩:=ok_ex (kt.all f (by simp));simp only [exsSz] at hok;exact (lw_binary n o m e f (ih e (by simp)) (ih f (by simp)) hi hx t1 t2 ht1 ht2 (hok.grow (n:=0) (Grows.refl _ _) (by omega))).mono fun v H' nx' p=>⟨p.1,ok,p.2⟩
 by_cases k8:k=8
 ·subst k8;unfold kidsT at hkl;simp at hkl;obtain⟨e,rfl⟩:=List.length_eq_one_iff.1 hkl;obtain⟨t1,ht1⟩:=ok_ex (kt.all e (by simp));simp only [exsSz] at hok;exact (lw_load n o m e (ih e (by simp)) hi hx t1 ht1 (hok.grow (n:=0) (Grows.refl _ _) (by omega))).mono fun v H' nx' p=>⟨p.1,ok,p.2⟩
 by_cases k9:k=9
 ·subst k9;obtain⟨e,c,i,g,h1,h2,h3,h4,h5⟩:=kt.k9 rfl
  match ks,h1,kt,ih,hok,ok with
  | e0::l,h1,kt,ih,hok,ok =>
    simp only [List.getElem?_cons_zero,Option.some.injEq] at h1;subst h1;simp only [exsSz] at hok;exact (lw_call n o m e0 l (ih e0 (by simp)) (fun a ha=>ih a (List.mem_cons_of_mem _ ha)) hi hx c h2 (fun a ha=>kt.all a (List.mem_cons_of_mem _ ha)) i g h4 (hok.grow (n:=0) (Grows.refl _ _) (by omega))).mono fun v H' nx' p=>⟨p.1,ok,p.2⟩
 have k10:k=10:=by omega
 subst k10;obtain⟨i,g,h4,h5⟩:=kt.k10 rfl;exact (lw_static n o m ks ih hi hx kt.all i g h4 (hok.grow (n:=0) (Grows.refl _ _) (by omega))).mono fun v H' nx' p=>⟨p.1,ok,p.2⟩
theorem lw_opAll:∀ (N:Nat) (e:Ex),exSz e≤N→KnOk h cls T sc e∧OpOk h cls T sc e
 | 0,.mk k n o m ks,hN=>by rw [exSz] at hN;omega
 | N+1,.mk k n o m ks,hN=>by
   rw [exSz] at hN;have hk:=lw_kinds (h:=h) (cls:=cls) (T:=T) (sc:=sc) k n o m ks fun e he=>(lw_opAll N e (by have:=exSz_in he;omega)).2
   exact⟨hk,lw_operand _ hk⟩
theorem lw_op (e:Ex):OpOk h cls T sc e:=(lw_opAll (exSz e) e (Nat.le_refl _)).2
theorem lw_kn (e:Ex):KnOk h cls T sc e:=(lw_opAll (exSz e) e (Nat.le_refl _)).1
end
section
open Lx Ax Go.RowKit
/-- Code that works on the builder, in its midst; the blocks from nx to n1 are its own. -/
structure Run (h:List Cd) (X:Nat) (H:Heap) (nx n1:Nat) (z z':Bv) (b':Bl) (H':Heap) (n':Nat):Prop where
 bd:BdI h X H' n' z' b'
 l0:nx≤n1
 le:n1≤n'
 fr:∀ x,x<nx→¬ OB X z x→H' x=H x
 ob:∀ x,OB X z' x→OB X z x∨n1≤x
 lo:∀ x,OB X z x→x<nx
section
variable {h:List Cd} {X:Nat} {H H1 H' H2:Heap} {nx n1 n' n2:Nat} {z z':Bv} {b b' b2:Bl}
theorem Run.start (hi:BdI h X H nx z b)(hn:nx≤n1)(hk:∀ x,x<nx→H1 x=H x):Run h X H nx n1 z z b H1 n1 :=
 ⟨hi.up hn hk,hn,Nat.le_refl _,fun x hx _=>hk x hx,fun x hx=>.inl hx,fun x hx=>hi.lo hx⟩
theorem Run.box (hi:BdI h X H nx z b)(C:CB):Run h X H nx (nx+1) z z b (upd H nx C) (nx+1):=Run.start hi (Nat.le_succ _) fun x hx=>upd_miss _ _ _ _ (by omega)
theorem Run.nob (r:Run h X H nx n1 z z' b' H' n'){x:Nat}(h1:nx≤x)(h2:x<n1):¬ OB X z' x:=fun ho=>by
 rcases r.ob x ho with h3 | h3
 ·have:=r.lo x h3;omega
 ·omega
theorem Run.call (r:Run h X H nx n1 z z' b' H' n')(p:BdP h X H' n' z' b2 H2 n2):∃ z2,Run h X H nx n1 z z2 b2 H2 n2∧∀ x,nx≤x→x<n1→H2 x=H' x:=by
 obtain⟨z2,p1,p2,p3,p4⟩:=p;have hl:=r.le;have hl0:=r.l0;refine⟨z2,⟨p1,r.l0,by omega,fun x hx ho=>?_,fun x hx=>?_,r.lo⟩,fun x h1 h2=>p3 x (by omega) (r.nob h1 h2)⟩
 ·rw [p3 x (by omega) (fun h6=>(r.ob x h6).elim ho (fun h7=>by omega)),r.fr x hx ho]
 ·rcases p4 x hx with h6 | h6
  ·exact r.ob x h6
  ·exact .inr (by omega)
theorem Run.mod (r:Run h X H nx n1 z z' b' H' n')(hN:n'≤n2)(hk:∀ x,x<n'→(x<nx∨n1≤x)→H2 x=H' x):Run h X H nx n1 z z' b' H2 n2:=by
 have hl:=r.le;have hl0:=r.l0;refine⟨r.bd.keep hN fun x hx=>hk x (r.bd.lo hx) ?_,r.l0,by omega,fun x hx ho=>?_,r.ob,r.lo⟩
 ·rcases r.ob x hx with h3 | h3
  ·exact .inl (r.lo x h3)
  ·exact .inr h3
 ·rw [hk x (by omega) (.inl hx),r.fr x hx ho]
theorem Run.up (r:Run h X H nx n1 z z' b' H' n')(hN:n'≤n2):Run h X H nx n1 z z' b' H' n2:=r.mod hN fun _ _ _=>rfl
theorem Run.fin (r:Run h X H nx n1 z z' b' H' n'):BdP h X H nx z b' H' n' :=
 ⟨z',r.bd,by have:=r.le;have:=r.l0;omega,r.fr,fun x hx=>(r.ob x hx).imp id fun h6=>by have:=r.l0;omega⟩
/-- The builder's numbers are set. -/
theorem bd_set (hi:BdI h X H nx z b)(hv:b2.vars=b.vars)(hc:b2.code=b.code)(hs:b2.scope=b.scope)(ht:b2.handlers=b.handlers){k:CB}(hk:k=.cells (bdC h X z b2)):BdP h X H nx z b2 (upd H X k) nx :=
 ⟨z,hi.num hv hc hs ht (Nat.le_refl _) (by rw [upd_hit,hk]) fun x _ hx=>upd_miss _ _ _ _ hx,Nat.le_refl _,fun x _ ho=>upd_miss _ _ _ _ fun e=>ho (.inl e),fun x hx=>.inl hx⟩
theorem bd_next (hi:BdI h X H nx z b)(m:Nat){k:CB}(hk:k=.cells (bdC h X z (nextB b m))):BdP h X H nx z (nextB b m) (upd H X k) nx:=bd_set (b2:=nextB b m) hi rfl rfl rfl rfl hk
theorem bd_hand (hi:BdI h X H nx z b)(m:Int){k:CB}(hk:k=.cells (bdC h X z (handB b m))):BdP h X H nx z (handB b m) (upd H X k) nx:=bd_set (b2:=handB b m) hi rfl rfl rfl rfl hk
/-- A beginning of an own list, sliced. -/
theorem own_cutW {c:CV}{l:List Nat}{n:Nat}(ho:OwnR cvW 1 H nx c l)(hn:n≤l.length):∃ c',(∀ H',sliA Tryz.prog H' 49 c none (some (.int .i64 (n:Int)))=some c')∧OwnR cvW 1 H nx c' (l.take n)∧(∀ x,ob c' x→ob c x)∧(c'=.nils∨∃ b' m,c'=.sl b' 0 m 1):=by
 rcases ho with⟨h1,rfl⟩ | ⟨b,rest,rfl,hb,hlt⟩
 ·have hl:n=0:=by rw [h1] at hn;simpa using hn
  subst hl;refine⟨.nils,fun H'=>?_,by simpa using OwnR.nil,fun x hx=>hx,.inl rfl⟩;unfold sliA;simp only [ti_Ints,ti_int];rfl
 ·refine⟨.sl b 0 n 1,fun H'=>?_,.inr ⟨b,(l.drop n).flatMap cvW++rest,by simp [List.length_take,Nat.min_eq_left hn],?_,hlt⟩,fun x hx=>?_,.inr ⟨b,n,rfl⟩⟩
  ·unfold sliA;simp only [ti_Ints,ti_int,bnd,natOf_cast];rw [Nat.ble_eq_true_of_le (Nat.zero_le _),Nat.ble_eq_true_of_le hn];rfl
  ·rw [← List.append_assoc,← List.flatMap_append,List.take_append_drop];exact hb
  ·obtain⟨o,m,k,e⟩:=hx;cases e;exact⟨_,_,_,rfl⟩
theorem bd_cut (hi:BdI h X H nx z b)(n:Nat){c':CV}(ho:OwnR cvW 1 H nx c' (b.scope.take n))(hs:∀ x,ob c' x→ob z.s x){k:CB}(hk:k=.cells (bdC h X { z with s:=c' } (cutB b n))):BdP h X H nx z (cutB b n) (upd H X k) nx:=by
 have hm:∀ x,ob z.v x∨ob z.c x∨ob z.s x∨ob z.t x→upd H X k x=H x:=fun x hx=>upd_miss _ _ _ _ (hi.nX x hx)
 refine⟨{ z with s:=c' },⟨by rw [upd_hit,hk],hi.v.keep' (Nat.le_refl _) fun x hx=>hm x (.inl hx),hi.c.keep' (Nat.le_refl _) fun x hx=>hm x (.inr (.inl hx)),ho.keep' (Nat.le_refl _) fun x hx=>hm x (.inr (.inr (.inl (hs x hx)))),hi.t.keep' (Nat.le_refl _) fun x hx=>hm x (.inr (.inr (.inr hx))),hi.lt,fun x hx=>hi.nX x (hx.imp id fun h1=>h1.imp id fun h2=>h2.imp (hs x) id),hi.vc,fun x hx hy=>hi.vs x hx (hs x hy),hi.vt,fun x hx hy=>hi.cs x hx (hs x hy),hi.ct,fun x hx=>hi.st x (hs x hx)⟩,Nat.le_refl _,fun x _ ho=>upd_miss _ _ _ _ fun e=>ho (.inl e),fun x hx=>.inl ?_⟩;rcases hx with h1 | h1 | h1 | h1 | h1
 ·exact .inl h1
 ·exact .inr (.inl h1)
 ·exact .inr (.inr (.inl h1))
 ·exact .inr (.inr (.inr (.inl (hs x h1))))
 ·exact .inr (.inr (.inr (.inr h1)))
/-- An instruction without arguments is emitted. -/
theorem lw_em (hi:BdI h X H nx z b)(op dst a c n:Int)(cls nm:Bytes)(g:Int)(hc:b.code.length≤lim) :
  DCall Tryz.prog tkG 56 [.ptr X 0,.agg [.int .i64 op,.int .i64 dst,.int .i64 a,.int .i64 c,.int .i64 n,.str cls,.str nm,.nils,.int .i64 g,.int .i64 0]] H nx fun v H' nx'=>v=.int .i64 b.code.length∧BdP h X H nx z (emitB b { zIn with op:=op,dst:=dst,a:=a,b:=c,n:=n,cls:=cls,name:=nm,goto:=g }) H' nx' :=
 lw_emit hi { zIn with op:=op,dst:=dst,a:=a,b:=c,n:=n,cls:=cls,name:=nm,goto:=g } hc
theorem lw_emT (hi:BdI h X H nx z b)(op dst a c n:Int)(cls nm:Bytes)(g:Int)(hc:b.code.length≤lim) :
  DCall Tryz.prog tkG 56 [.ptr X 0,.agg [.int .i64 op,.int .i64 dst,.int .i64 a,.int .i64 c,.int .i64 n,.str cls,.str nm,.nils,.int .i64 g,.int .i64 0]] H nx fun v H' nx'=>v=.int .i64 b.code.length∧BdPT h X H nx z (emitB b { zIn with op:=op,dst:=dst,a:=a,b:=c,n:=n,cls:=cls,name:=nm,goto:=g }) H' nx' :=
 lw_emitT hi { zIn with op:=op,dst:=dst,a:=a,b:=c,n:=n,cls:=cls,name:=nm,goto:=g } hc
end
/-- A statement is lowered. -/
def StOkL (h:List Cd)(cls res:Bytes)(T:List Fld)(s:St):Prop:=∀ X H nx z b sc sc',BdI h X H nx z b→LwX h cls T sc b→stT h cls res sc s=.ok sc'→Pre b.next (locS s) b.vars→OkS b (4*stSz s) →
 DCall Tryz.prog tkG 54 [.ptr X 0,.agg (cvS s)] H nx fun v H' nx'=>v=.tup []∧BdP h X H nx z (stB h b s) H' nx'
/-- A block is lowered. -/
def BlOkL (h:List Cd)(cls res:Bytes)(T:List Fld)(l:List St):Prop:=∀ X H nx z b sc u,BdI h X H nx z b→LwX h cls T sc b→blT h cls res sc l=.ok u→Pre b.next (locsS l) b.vars→OkS b (4*stsSz l) →
 DCall Tryz.prog tkG 33 [.ptr X 0,.lst (l.map cvS)] H nx fun v H' nx'=>v=.tup []∧BdP h X H nx z (cutB (blB h b l) b.scope.length) H' nx'
section
variable {h:List Cd} {cls res:Bytes} {T sc sc':List Fld}
theorem LwX.op {b:Bl}(hx:LwX h cls T sc b){e:Ex}{t:Bytes}(ht:exT9 h cls sc e=.ok t):LwX h cls T sc (opB h b e).1:=by
 obtain⟨O,J,hci⟩:=hx.ci;obtain⟨a1,a2,-⟩:=opB_C e b t ht hci hx.vs;exact⟨hx.hb,⟨O,J,a1⟩,hx.vs.grow a2⟩
theorem LwX.st {b:Bl}(hx:LwX h cls T sc b){s:St}(hs:stT h cls res sc s=.ok sc')(hp:Pre b.next (locS s) b.vars):LwX h cls T sc' (stB h b s)∧(stB h b s).next=b.next+(locS s).length∧SX b (stB h b s):=by
 obtain⟨O,J,hci⟩:=hx.ci;have o:=stB_C s O J sc sc' b hs hci hx.vs hp;exact⟨⟨hx.hb,⟨O,J,o.ci⟩,o.vs⟩,o.next,o.sx⟩
theorem LwX.em {b:Bl}(hx:LwX h cls T sc b)(i:In)(h15:i.op≠15)(h9:i.op≠9)(h10:i.op≠10):LwX h cls T sc (emitB b i):=by
 obtain⟨O,J,hci⟩:=hx.ci;exact⟨hx.hb,⟨O,J,hci.em i h15 h9 h10⟩,hx.vs.em i⟩
theorem LwX.nxt {b:Bl}(hx:LwX h cls T sc b)(n:Nat):LwX h cls T sc (nextB b n):=by
 obtain⟨O,J,hci⟩:=hx.ci;exact⟨hx.hb,⟨O,J,hci.nxt n⟩,hx.vs.back rfl ⟨[],by simp [nextB]⟩⟩
theorem LwX.here {b:Bl}(hx:LwX h cls T sc b)(j:Nat):LwX h cls T sc (hereB b j):=by
 obtain⟨O,J,hci⟩:=hx.ci;exact⟨hx.hb,⟨O,J,hci.here' j⟩,hx.vs.back (here_kept b j).scope ⟨[],by rw [here_vars];simp⟩⟩
theorem LwX.blk {b:Bl}(hx:LwX h cls T sc b){l:List St}{u:Unit}(hk:blT h cls res sc l=.ok u)(hp:Pre b.next (locsS l) b.vars):LwX h cls T sc (cutB (blB h b l) b.scope.length)∧(blB h b l).next=b.next+(locsS l).length∧SX b (cutB (blB h b l) b.scope.length)∧(cutB (blB h b l) b.scope.length).scope=b.scope:=by
 obtain⟨O,J,hci⟩:=hx.ci;obtain⟨sc2,o⟩:=blB_C l O J sc b u hk hci hx.vs hp;obtain⟨x1,x2⟩:=o.sx.cut;exact⟨⟨hx.hb,⟨O,J,o.ci.cut _⟩,hx.vs.back x2 x1.vars⟩,o.next,x1,x2⟩
theorem st_shp0 {k:Int}{nm ty:Bytes}{es:List Ex}{bd el:List St}(hk:stT h cls res sc (.mk k nm ty es bd el)=.ok sc'):shpE k es.length bd.length el.length=0:=by
 rw [stT] at hk
 by_cases hs:shpE k es.length bd.length el.length=0
 ·exact hs
 ·rw [if_pos hs] at hk;cases hk
theorem ex0_of {es:List Ex}{i:Nat}{t:Bytes}(hk:ex0T h cls sc es i=.ok t):∃ e,es[i]?=some e∧exT9 h cls sc e=.ok t:=by
 unfold ex0T at hk;cases hx:es[i]? with
 | none=>rw [hx] at hk;cases hk
 | some e=>rw [hx] at hk;exact⟨e,rfl,hk⟩
end
end
section
open Lx Ax Go.RowKit
attribute [local simp] stepS Ax.stepT Dl.on qstep astep estep rd putE over argE ofV ofS loadA pickCells isAggD faddA fieldA partA iaddA idxA bnd binA intA strA unA convA bltA mapOf findK keyD scalD storeA appA srcA srcD upd drp Dl.hp Dl.nx CV.cs CV.one buildA placesA fillA zrep tasA ifaceD eqA eqFs eqIs range2 copyA nbeq nble nblt decEq beqI bneI beqS bneS isED Int.ofNat_inj List.getElem?_map List.getElem?_eq_getElem Option.map_some ti_int ti_bool ti_str ti_i64 ti_Strs ti_Flds ti_Fld ti_Ints ti_Ins ti_In ti_Bd ti_Kd ti_Kf ti_Pb ti_Ex ti_Exs ti_St ti_Sts gd gdB callA resA op1
attribute [local simp] nu1 nu2 nu3 nu4 nu5 nu6 nu7 nu8 nu9 nu10 nu11 nu12 nu13 upd_upd
theorem len_stsL {H:Heap}(l:List St):lenA Tryz.prog H 39 (.lst (l.map cvS))=some (.int .i64 l.length):=by
 unfold lenA;simp [ti_Sts]
section
variable {h:List Cd} {cls res:Bytes} {T:List Fld}
set_option maxRecDepth 10000 in
set_option maxHeartbeats 16000000 in
theorem lw_block (l:List St)(hS:∀ s∈l,StOkL h cls res T s):BlOkL h cls res T l:=by
 intro X H nx z b sc u hi hx hk hp hok;refine DCall.of_body Tryz.func33 rfl ?_;have hX:H X=some (.cells ([.lst (h.map cvD),z.v,z.c,.int .i64 b.slots,.int .i64 b.next,z.s,.int .i64 b.handler,z.t]++knd X)):=hi.blk;simp only [knd,List.cons_append,List.nil_append] at hX;have hlX:=hi.lt;have q0:=far hlX;have hll:l.length≤lim:=by have:=stsSz_len l;have:=hok.v;omega
 have hls:∀ H',lenA Tryz.prog H' 39 (.lst (l.map cvS))=some (.int .i64 l.length):=fun H'=>len_stsL l
 have hlz:∀ H',lenA Tryz.prog H' 49 z.s=some (.int .i64 b.scope.length):=hi.s.len ti_Ints;obtain⟨W,hW⟩:∃ W,blB h b l=W:=⟨_,rfl⟩;have hsx:∃ Y,W.scope=b.scope++Y:=by
  obtain⟨O,J,hci⟩:=hx.ci;obtain⟨sc2,o⟩:=blB_C l O J sc b u hk hci hx.vs hp;rw [← hW];exact o.sx.scope
 rw [hW];refine gD ?_;clear hlz hls hX;refine DWp.countO l.length [6,14] 15 (fun i e H1 n1=>e 14=.int .i64 i∧∃ bi sci ui,BdP h X H nx z bi H1 n1∧LwX h cls T sci bi∧blT h cls res sci (l.drop i)=.ok ui∧Pre bi.next (locsS (l.drop i)) bi.vars∧OkS bi (4*stsSz (l.drop i))∧blB h bi (l.drop i)=W) ⟨(by first | (simp (disch:=omega) [putE,over,ofV,ofS, *];done) | (simp (disch:=omega) [putE,over,ofV,ofS, *];rfl)),b,sc,u,hi.toP,hx,by simpa using hk,by simpa using hp,by simpa using hok,by simpa using hW⟩ ?_;clear hk hp hok hW hx;rintro i v H1 n1 hil ⟨h14,bi,sci,ui,⟨zi,i1,i2,i3,i4⟩,hx,hk,hp,hok,hW⟩;refine gD ?_
 (((apply DWp.cond');(focus (simp [*,-Ax.CV.bool.injEq];rfl))) <;> (intro hb) <;> (try simp only [decide_eq_true_eq,decide_eq_false_iff_not,Bool.not_eq_true',Bool.not_eq_false',Bool.not_eq_true,Bool.not_eq_false] at hb))
 ·have hlt:i<l.length:=hb;have hwi:=lim_wrap hlt hll;clear hb;rw [List.drop_eq_getElem_cons hlt] at hk hp hok hW;rw [blT] at hk;rw [locsS] at hp;rw [stsSz] at hok;rw [blB] at hW;have hst:=hS l[i] (List.getElem_mem hlt);generalize hse:l[i]=s at *;cases hs:stT h cls res sci s with
  | error x=>rw [hs] at hk;cases hk
  | ok sc2 =>
  rw [hs] at hk;simp only at hk;obtain⟨x1,x2,x3⟩:=hx.st hs hp.left;have r:=Run.box i1 (.cells (cvS s));have hcall:=hst X _ _ zi bi sci sc2 r.bd hx hs hp.left (hok.le (by omega));have g:=stB_gr h s bi;rw [cvS_eq s] at hcall r;clear hst hx;refine gDf (cvS_eq s) ?_
  ((apply DOpl.callD);(focus rfl);(focus (first | rfl | (simp [cvS_eq s, *];done)));(focus simp [cvS_eq s, *,-Option.some.injEq];rfl);kernel_rfl)
  ·exact hcall
  rintro vv H3 n3 ⟨rfl,p⟩;obtain⟨z3,r3,-⟩:=r.call p;clear hcall;refine gD ?_;refine⟨by ((repeat (first | exact Keeps.base _ _ _ _ | (with_reducible exact Keeps.refl _ _ _) | (refine Keeps.put rfl ?_) | (refine Keeps.over' rfl rfl ?_)))),hlt,(by first | (simp (disch:=omega) [putE,over,ofV,ofS, *];done) | (simp (disch:=omega) [putE,over,ofV,ofS, *];rfl)),stB h bi s,sc2,ui,BdP.seq i2 i3 i4 r3.fin,x1,hk,?_,hok.grow g (by omega) (by omega),hW⟩;obtain⟨V,hV⟩:=x3.vars;rw [x2,hV];exact hp.right.grow
 ·have hi':l.length≤i:=by omega
  rw [List.drop_eq_nil_of_le hi',blB] at hW;subst hW;clear hb hS;obtain⟨Y,hY⟩:=hsx;obtain⟨c',hcA,hoc,hcn,hform⟩:=own_cutW i1.s (show b.scope.length≤bi.scope.length by rw [hY];simp);have hX1:H1 X=some (.cells ([.lst (h.map cvD),zi.v,zi.c,.int .i64 bi.slots,.int .i64 bi.next,zi.s,.int .i64 bi.handler,zi.t]++knd X)):=i1.blk;simp only [knd,List.cons_append,List.nil_append] at hX1;have pc:=fun k hk=>bd_cut i1 b.scope.length hoc hcn (k:=k) hk
  rcases hform with rfl | ⟨b',m,rfl⟩
  ·refine gD ?_
   (refine⟨_,(by simp [*];rfl),?_⟩;(try simp only [packA]))
   exact⟨_,rfl,rfl,BdP.seq i2 i3 i4 (pc _ rfl)⟩
  ·refine gD ?_
   (refine⟨_,(by simp [*];rfl),?_⟩;(try simp only [packA]))
   exact⟨_,rfl,rfl,BdP.seq i2 i3 i4 (pc _ rfl)⟩
end
end
end Go.Proofs.YtoookjadbhdfhaaGreatDoor
