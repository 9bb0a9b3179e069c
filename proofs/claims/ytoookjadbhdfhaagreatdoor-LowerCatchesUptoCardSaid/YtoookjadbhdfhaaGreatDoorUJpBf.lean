/-
  The builder's operand; walked.
-/
import Derived.Test.YtoookjadbhdfhaaGreatDoorUJpAt
import Derived.Test.YtoookjadbhdfhaaGreatDoorUJpBe
import Derived.Test.YtoookjadbhdfhaaGreatDoorUJpAu
set_option linter.unusedSectionVars false
set_option linter.unusedSimpArgs false
set_option linter.unnecessarySimpa false
set_option linter.unusedVariables false
set_option linter.unusedSimpArgs false
set_option linter.unusedVariables false
namespace Go.Proofs.YtoookjadbhdfhaaGreatDoor
section
open Lx Ax Go.RowKit
attribute [local simp] stepS Ax.stepT Dl.on qstep astep estep rd putE over argE ofV ofS loadA pickCells isAggD faddA fieldA partA iaddA idxA sliA bnd binA intA strA unA convA bltA lenA mapOf findK keyD scalD storeA appA srcA srcD upd drp Dl.hp Dl.nx CV.cs CV.one buildA placesA fillA zrep tasA ifaceD eqA eqFs eqIs range2 copyA nbeq nble nblt decEq beqI bneI beqS bneS isED Int.ofNat_inj List.getElem?_map List.getElem?_eq_getElem Option.map_some ti_int ti_bool ti_str ti_i64 ti_Strs ti_Flds ti_Fld ti_Ints ti_Ins ti_In ti_Bd ti_Kd ti_Kf ti_Pb ti_Ex ti_Exs gd gdB callA resA op1
attribute [local simp] nu1 nu2 nu3 nu4 nu5 nu6 nu7 nu8 nu9 nu10 nu11 nu12 nu13 upd_upd
/-- There is room for n more. -/
structure OkB (b:Bl) (n:Nat):Prop where
 sl:b.slots≤b.vars.length
 v:b.vars.length+n≤lim
 c:b.code.length+n≤lim
 s:b.scope.length≤lim
/-- Where expressions are lowered. -/
structure LwX (h:List Cd) (cls:Bytes) (T sc:List Fld) (b:Bl):Prop where
 hb:HB h
 ci:∃ O J,CI (C9 h) (C10 h) O J b
 vs:VS cls T sc b
def OpOk (h:List Cd)(cls:Bytes)(T sc:List Fld)(e:Ex):Prop:=∀ X H nx z b t,BdI h X H nx z b→LwX h cls T sc b→exT9 h cls sc e=.ok t→OkB b (exSz e) →
 DCall Tryz.prog tkG 50 [.ptr X 0,.agg (cvE e)] H nx fun v H' nx'=>v=.int .i64 (opB h b e).2∧BdP h X H nx z (opB h b e).1 H' nx'
/-- The function of a kind. -/
def kfn:Nat→FuncId
 | 1=>24
 | 2=>25
 | 5=>26
 | 6=>27
 | 7=>28
 | 8=>29
 | 9=>30
 | _=>31
def KnOk (h:List Cd)(cls:Bytes)(T sc:List Fld)(e:Ex):Prop:=∀ X H nx z b t,BdI h X H nx z b→LwX h cls T sc b→exT9 h cls sc e=.ok t→OkB b (exSz e)→e.kind≠3→e.kind≠4 →
 DCall Tryz.prog tkG (kfn e.kind.toNat) [.ptr X 0,.agg (cvE e)] H nx fun v H' nx'=>v=.tup [.agg (cvJ (insE h b e).2.1),.str (insE h b e).2.2]∧OkB (insE h b e).1 1∧BdP h X H nx z (insE h b e).1 H' nx'
theorem kfn_ok {k:Nat}(h1:1≤k)(h2:k≤10)(h3:k≠3)(h4:k≠4):enters Tryz.prog (kfn k)=true∧∀ (X:Nat) (l:List CV),l.length=8→(l++knd X)[8+k]?=some (.fn (.func (kfn k)) [.ptr X 0] []):=by
 have key:enters Tryz.prog (kfn k)=true∧∀ X,(knd X)[k]?=some (.fn (.func (kfn k)) [.ptr X 0] []):=by
  match k,h1,h2,h3,h4 with
  | 1,_,_,_,_=>exact⟨by kernel_rfl,fun _=>rfl⟩
  | 2,_,_,_,_=>exact⟨by kernel_rfl,fun _=>rfl⟩
  | 5,_,_,_,_=>exact⟨by kernel_rfl,fun _=>rfl⟩
  | 6,_,_,_,_=>exact⟨by kernel_rfl,fun _=>rfl⟩
  | 7,_,_,_,_=>exact⟨by kernel_rfl,fun _=>rfl⟩
  | 8,_,_,_,_=>exact⟨by kernel_rfl,fun _=>rfl⟩
  | 9,_,_,_,_=>exact⟨by kernel_rfl,fun _=>rfl⟩
  | 10,_,_,_,_=>exact⟨by kernel_rfl,fun _=>rfl⟩
 refine⟨key.1,fun X l hl=>?_⟩;rw [List.getElem?_append_right (by omega),show 8+k-l.length=k by omega];exact key.2 X
theorem Lx.VS.lt {cls:Bytes}{T sc:List Fld}{b:Bl}(hv:VS cls T sc b):∀ s∈b.scope,s<b.vars.length:=fun s hs=>by
 obtain⟨f,_,hf⟩:=hv.mem hs;exact (List.getElem?_eq_some_iff.mp hf).1
set_option maxRecDepth 10000 in
set_option maxHeartbeats 8000000 in
theorem lw_operand {h:List Cd}{cls:Bytes}{T sc:List Fld}(e:Ex)(hk:KnOk h cls T sc e):OpOk h cls T sc e:=by
 intro X H nx z b t hi hx ht hok;refine DCall.of_body Tryz.func50 rfl ?_;have hlX:=hi.lt;have q0:=far hlX;obtain⟨k,n,o,m,ks⟩:=e;have kt:=kt_of ht;obtain⟨kn,rfl⟩:∃ kn:Nat,k=kn:=⟨k.toNat,by have:=kt.rng;omega⟩
 by_cases h3:kn=3
 ·subst h3;rw [opB,if_pos (by rfl)];have hi1:=hi.up (H':=upd H nx (.cells (cvE (.mk 3 n o m ks)))) (nx':=nx+1) (by omega) (fun x hx=>upd_miss _ _ _ _ (by omega));rw [cvE_mk] at hi1;have hsl:=lw_slot hi1 m hok.s hx.vs.lt;refine gDf cvE_mk ?_
  ((apply DOpl.callR);(focus rfl);(focus (first | rfl | (simp [*];done)));(focus simp [*,-Option.some.injEq];rfl);kernel_rfl)
  ·exact hsl
  refine gD ?_
  (refine⟨_,(by simp [*];rfl),?_⟩;(try simp only [packA]))
  refine⟨_,rfl,rfl,z,hi1,by omega,fun x hx _=>upd_miss _ _ _ _ (by omega),fun x hx=>.inl hx⟩
 by_cases h4:kn=4
 ·subst h4;rw [opB,if_neg (by omega),if_pos (by rfl)];have hi1:=hi.up (H':=upd H nx (.cells (cvE (.mk 4 n o m ks)))) (nx':=nx+1) (by omega) (fun x hx=>upd_miss _ _ _ _ (by omega));rw [cvE_mk] at hi1;refine gDf cvE_mk ?_
  (refine⟨_,(by simp [*];rfl),?_⟩;(try simp only [packA]))
  refine⟨_,rfl,rfl,z,hi1,by omega,fun x hx _=>upd_miss _ _ _ _ (by omega),fun x hx=>.inl hx⟩
 have h1:1≤kn:=by have:=kt.rng;omega
 have h10:kn≤10:=by have:=kt.rng;omega
 have c3:¬ (kn:Int)=3:=by omega
 have c4:¬ (kn:Int)=4:=by omega
 rw [opB,if_neg c3,if_neg c4];obtain⟨hent,hkx⟩:=kfn_ok h1 h10 h3 h4;have c11:kn<11:=by omega
 have hke:=hk X (upd H nx (.cells (cvE (.mk kn n o m ks)))) (nx+1+15) z b t (hi.up (by omega) (fun x hx=>upd_miss _ _ _ _ (by omega))) hx ht hok c3 c4;rw [cvE_mk] at hke;have hgx:∀ l:List CV,l.length=8→(l++knd X)[8+kn]?=some (.fn (.func (kfn kn)) [.ptr X 0] []):=fun l hl=>hkx X l hl
 obtain⟨l8,hl8,hX⟩:∃ l,l.length=8∧H X=some (.cells (l++knd X)):=⟨_,rfl,hi.blk⟩;refine gDrf cvE_mk ?_;refine DWp.regX [2,6,7] (fun H'=>H' nx=some (.cells [.int .i64 kn,.int .i64 n,.str o,.str m,.lst (ks.map cvE)])∧∃ l,l.length=8∧H' X=some (.cells (l++knd X))) (by kernel_rfl) (by kernel_rfl) rfl rfl (fun H1 H2 h12 hS=>⟨by rw [h12 nx (by omega)];exact hS.1,by rw [h12 X (by omega)];exact hS.2⟩) ⟨by simp [upd],l8,hl8,by simp [upd, *]⟩ ?_
 repeat (first | apply ASx.stepG;(focus (first | rfl | (simp [*];done)));(focus simp [*,-Option.some.injEq];rfl);(focus (first | exact Fits.pure rfl | (refine Fits.look rfl fun H2 hS2=>?_;simp [hS2, *];done) | (refine Fits.look rfl fun H2 hS2=>?_;simp [hS2, *,-Option.some.injEq];rfl) | (refine Fits.eff rfl fun hS2=>?_;simp [*];done))) | apply ASx.pass;(focus simp [*];done) | refine ASx.nil ?_;(try simp only [Xx,Xy,reduceIte,Nat.reduceEqDiff]))
 (apply ASx.stepG;(focus rfl);(focus (simp [hgx l8 hl8,upd, *,-Option.some.injEq];rfl));focus (refine Fits.look rfl fun H2 hS2=>?_;obtain⟨_,l2,hl2,hX2⟩:=hS2;simp [hX2,hgx l2 hl2]))
 repeat (first | apply ASx.stepG;(focus (first | rfl | (simp [*];done)));(focus simp [*,-Option.some.injEq];rfl);(focus (first | exact Fits.pure rfl | (refine Fits.look rfl fun H2 hS2=>?_;simp [hS2, *];done) | (refine Fits.look rfl fun H2 hS2=>?_;simp [hS2, *,-Option.some.injEq];rfl) | (refine Fits.eff rfl fun hS2=>?_;simp [*];done))) | apply ASx.pass;(focus simp [*];done) | refine ASx.nil ?_;(try simp only [Xx,Xy,reduceIte,Nat.reduceEqDiff]))
 (apply ASx.callD;(focus rfl);(focus (simp [callA, *,-Option.some.injEq];rfl));(focus exact hent);(focus exact hke))
 rintro v H2 n2 ⟨rfl,hok1,z2,g1,g2,g3,g4⟩;have gB:H2 nx=some (.cells [.int .i64 kn,.int .i64 n,.str o,.str m,.lst (ks.map cvE)]):=by
  rw [g3 nx (by omega) (fun ho=>by have:=hi.lo ho;omega)];exact upd_hit _ _ _
 refine⟨g2,fun x hx1 hx2 hx3=>by rw [g3 x (by simp at hx2;omega) (fun ho=>by have:=hi.lo ho;omega)];exact hx3,fun _=>⟨gB,_,rfl,g1.blk⟩,?_⟩;generalize hpE:(insE h b (.mk kn n o m ks)).2=p at *;generalize hbE:(insE h b (.mk kn n o m ks)).1=b1 at *
 repeat (first | apply ASx.stepG;(focus (first | rfl | (simp [cvJ, *];done)));(focus simp [cvJ, *,-Option.some.injEq];rfl);(focus (first | exact Fits.pure rfl | (refine Fits.look rfl fun H2 hS2=>?_;simp [hS2,cvJ, *];done) | (refine Fits.look rfl fun H2 hS2=>?_;simp [hS2,cvJ, *,-Option.some.injEq];rfl) | (refine Fits.eff rfl fun hS2=>?_;simp [cvJ, *];done))) | apply ASx.pass;(focus simp [cvJ, *];done) | refine ASx.nil ?_;(try simp only [Xx,Xy,reduceIte,Nat.reduceEqDiff]))
 have ho1:=avV_one p.1.args;simp only [CV.one] at ho1
 (apply ASx.stepG;(focus rfl);(focus (simp [cvJ, *,-Option.some.injEq];rfl));(focus exact Fits.eff rfl fun hS2=>⟨by rw [upd_miss _ _ _ _ (by omega)];exact gB,_,rfl,by rw [upd_miss _ _ _ _ (by omega)];exact g1.blk⟩))
 repeat (first | apply ASx.stepG;(focus (first | rfl | (simp [cvJ, *];done)));(focus simp [cvJ, *,-Option.some.injEq];rfl);(focus (first | exact Fits.pure rfl | (refine Fits.look rfl fun H2 hS2=>?_;simp [hS2,cvJ, *];done) | (refine Fits.look rfl fun H2 hS2=>?_;simp [hS2,cvJ, *,-Option.some.injEq];rfl) | (refine Fits.eff rfl fun hS2=>?_;simp [cvJ, *];done))) | apply ASx.pass;(focus simp [cvJ, *];done) | refine ASx.nil ?_;(try simp only [Xx,Xy,reduceIte,Nat.reduceEqDiff]))
 have hzz:∀ x,OB X z2 x→x≠nx+1+12:=fun x hx=>by
  rcases g4 x hx with h5 | h5
  ·have:=hi.lo h5;omega
  ·omega
 have gi:∀ k:CB,BdI h X (upd H2 (nx+1+12) k) n2 z2 b1:=fun k=>g1.keep (Nat.le_refl _) (fun x hx=>upd_miss _ _ _ _ (hzz x hx))
 have hT:=fun k=>lw_temp (gi k) p.2 (by have:=hok1.v;omega) hok1.sl
 clear hke hk hgx hkx;refine gD ?_
 ((apply DOpl.callD);(focus rfl);(focus (first | rfl | (simp [*];done)));(focus simp [*,-Option.some.injEq];rfl);kernel_rfl)
 ·exact hT _
 rintro v H3 n3 ⟨rfl,z3,k1,k2,k3,k4⟩;have hn13:H3 (nx+1+12)=some (.cells (cvJ p.1)):=by
  rw [k3 (nx+1+12) (by omega) (fun ho=>hzz _ ho rfl)];exact upd_hit _ _ _
 simp only [cvJ] at hn13;have f2:∀ x,OB X z2 x→OB X z x∨nx≤x:=fun x hx=>(g4 x hx).imp id fun h5=>by omega
 have f3:∀ x,OB X z3 x→OB X z x∨nx≤x:=fun x hx=>by
  rcases k4 x hx with h5 | h5
  ·exact f2 x h5
  ·exact .inr (by omega)
 have hz3:∀ x,OB X z3 x→x≠nx+1+12:=fun x hx=>by
  rcases k4 x hx with h5 | h5
  ·exact hzz x h5
  ·omega
 have gi3:∀ k:CB,BdI h X (upd H3 (nx+1+12) k) n3 z3 (tempB b1 p.2):=fun k=>k1.keep (Nat.le_refl _) (fun x hx=>upd_miss _ _ _ _ (hz3 x hx))
 have hE:=fun k=>lw_emit (gi3 k) { p.1 with dst:=b1.vars.length } (by have:=hok1.c;show b1.code.length≤lim;omega)
 clear hT gi;simp only [cvJ] at hE;refine gD ?_
 ((apply DOpl.callD);(focus rfl);(focus (first | rfl | (simp [*];done)));(focus simp [*,-Option.some.injEq];rfl);kernel_rfl)
 ·exact hE _
 rintro v H4 n4 ⟨rfl,z4,m1,m2,m3,m4⟩;have hn14:H4 (nx+1+12)=_:=(m3 (nx+1+12) (by omega) (fun ho=>hz3 _ ho rfl)).trans (upd_hit _ _ _);clear hE;refine gD ?_
 (refine⟨_,(by simp [*];rfl),?_⟩;(try simp only [packA]))
 subst hpE hbE;refine⟨_,rfl,rfl,z4,m1,by omega,fun x hx ho=>?_,fun x hx=>?_⟩
 ·have o3:¬ OB X z3 x:=fun h5=>(f3 x h5).elim ho (fun h6=>by omega)
  have o2:¬ OB X z2 x:=fun h5=>(f2 x h5).elim ho (fun h6=>by omega)
  rw [m3 x (by omega) o3,upd_miss _ _ _ _ (by omega),k3 x (by omega) o2,upd_miss _ _ _ _ (by omega),g3 x (by omega) ho,upd_miss _ _ _ _ (by omega)]
 ·rcases m4 x hx with h5 | h5
  ·exact f3 x h5
  ·exact .inr (by omega)
end
section
open Lx Ax Go.RowKit
attribute [local simp] stepS Ax.stepT Dl.on qstep astep estep rd putE over argE ofV ofS loadA pickCells isAggD faddA fieldA partA iaddA idxA sliA bnd binA intA strA unA convA bltA lenA mapOf findK keyD scalD storeA appA srcA srcD upd drp Dl.hp Dl.nx CV.cs CV.one buildA placesA fillA zrep tasA ifaceD eqA eqFs eqIs range2 copyA nbeq nble nblt decEq beqI bneI beqS bneS isED Int.ofNat_inj List.getElem?_map List.getElem?_eq_getElem Option.map_some ti_int ti_bool ti_str ti_i64 ti_Strs ti_Flds ti_Fld ti_Ints ti_Ins ti_In ti_Bd ti_Kd ti_Kf ti_Pb ti_Ex ti_Exs gd gdB callA resA op1
attribute [local simp] nu1 nu2 nu3 nu4 nu5 nu6 nu7 nu8 nu9 nu10 nu11 nu12 nu13 upd_upd
/-- How far lowering grows a builder. -/
structure Grows (b b':Bl) (n:Nat):Prop where
 v:b'.vars.length≤b.vars.length+n
 lv:b.vars.length≤b'.vars.length
 c:b'.code.length≤b.code.length+n
 s:b'.slots=b.slots
 sc:b'.scope=b.scope
theorem Grows.refl (b:Bl)(n:Nat):Grows b b n:=⟨by omega,by omega,by omega,rfl,rfl⟩
theorem Grows.trans {a b c:Bl}{n m k:Nat}(h:Grows a b n)(g:Grows b c m)(hk:n+m≤k):Grows a c k:=⟨by have:=h.v;have:=g.v;omega,by have:=h.lv;have:=g.lv;omega,by have:=h.c;have:=g.c;omega,g.s.trans h.s,g.sc.trans h.sc⟩
theorem Grows.fin (b:Bl)(p:In×Bytes):Grows b (finB b p).1 1:=by
 refine⟨?_,?_,?_,rfl,rfl⟩ <;> simp [finB,emitB,tempB]
mutual
theorem opB_gr (h:List Cd):∀ (e:Ex) (b:Bl),Grows b (opB h b e).1 (exSz e)
 | .mk k n o m ks,b=>by
   rw [opB,exSz];split
   ·exact .refl _ _
   split
   ·exact .refl _ _
   exact (opsB_gr h ks (cntB k n ks) b).trans (Grows.fin _ _) (by omega)
theorem opsB_gr (h:List Cd):∀ (l:List Ex) (c:Nat) (b:Bl),Grows b (opsB h c b l).1 (exsSz l)
 | [],0,b=>by rw [opsB];exact .refl _ _
 | e::l,0,b=>by rw [opsB];exact .refl _ _
 | [],c+1,b=>by rw [opsB];exact .refl _ _;simp
 | e::l,c+1,b=>by
   rw [opsB,exsSz];exact (opB_gr h e b).trans (opsB_gr h l c _) (by omega)
end
theorem OkB.grow {b b':Bl}{n m k:Nat}(h:OkB b k)(g:Grows b b' n)(hk:n+m≤k):OkB b' m :=
 ⟨by rw [g.s];have:=h.sl;have:=g.lv;omega,by have:=h.v;have:=g.v;omega,by have:=h.c;have:=g.c;omega,by rw [g.sc];exact h.s⟩
theorem insE_ok {h:List Cd}{b:Bl}{e:Ex}(hok:OkB b (exSz e)):OkB (insE h b e).1 1:=by
 obtain⟨k,n,o,m,ks⟩:=e;rw [exSz] at hok;exact hok.grow (opsB_gr h ks (cntB k n ks) b) (by omega)
theorem opsB_snoc (h:List Cd):∀ (l:List Ex) (i:Nat) (b:Bl) (hi:i<l.length),opsB h (i+1) b l=((opB h (opsB h i b l).1 l[i]).1,(opsB h i b l).2++[(opB h (opsB h i b l).1 l[i]).2])
 | [],i,b,hi=>by simp at hi
 | e::l,0,b,hi=>by
   have e2:opsB h (0+1) b (e::l)=((opsB h 0 (opB h b e).1 l).1,(opB h b e).2::(opsB h 0 (opB h b e).1 l).2):=by conv=>lhs;rw [opsB]
   have e0:∀ b',opsB h 0 b' l=(b',[]):=fun b'=>by cases l <;> rw [opsB]
   have e1:opsB h 0 b (e::l)=(b,[]):=by rw [opsB]
   rw [e2,e0,e1];rfl
 | e::l,i+1,b,hi=>by
   rw [opsB,opsB_snoc h l i (opB h b e).1 (by simpa using hi)];simp only [List.getElem_cons_succ];rw [show opsB h (i+1) b (e::l)=((opsB h i (opB h b e).1 l).1,(opB h b e).2::(opsB h i (opB h b e).1 l).2) from by conv=>lhs;rw [opsB]];rfl
theorem opsB_take (h:List Cd):∀ (l:List Ex) (i:Nat) (b:Bl),opsB h i b l=opsB h i b (l.take i)
 | [],i,b=>by simp
 | e::l,0,b=>by rw [List.take_zero,opsB,opsB]
 | e::l,i+1,b=>by rw [List.take_succ_cons,opsB,opsB,← opsB_take h l i]
theorem exsSz_take:∀ (l:List Ex) (i:Nat) (hi:i<l.length),exsSz (l.take i)+exSz l[i]≤exsSz l
 | [],i,hi=>by simp at hi
 | e::l,0,hi=>by simp only [List.take_zero,exsSz,List.getElem_cons_zero];omega
 | e::l,i+1,hi=>by
   have:=exsSz_take l i (by simpa using hi);simp only [List.take_succ_cons,exsSz,List.getElem_cons_succ];omega
theorem opsB_gri (h:List Cd)(l:List Ex)(i:Nat)(b:Bl):Grows b (opsB h i b l).1 (exsSz (l.take i)):=by
 rw [opsB_take];exact opsB_gr h _ _ _
section
variable {h:List Cd} {X:Nat} {H:Heap} {nx:Nat} {z:Bv} {b:Bl}
theorem ins0 {k n:Int}{o m:Bytes}{ks:List Ex}(hc:cntB k n ks=0):insE h b (.mk k n o m ks)=(b,insB h b k n o m ks []):=by
 have e:opsB h 0 b ks=(b,[]):=by cases ks <;> rw [opsB]
 show ((opsB h (cntB k n ks) b ks).1,insB h (opsB h (cntB k n ks) b ks).1 k n o m ks (opsB h (cntB k n ks) b ks).2)=_
 rw [hc,e]
set_option maxRecDepth 10000 in
set_option maxHeartbeats 4000000 in
theorem lw_integer (hi:BdI h X H nx z b)(n:Int)(o m:Bytes)(ks:List Ex) :
  DCall Tryz.prog tkG 24 [.ptr X 0,.agg (cvE (.mk 1 n o m ks))] H nx fun v H' nx'=>v=.tup [.agg (cvJ { zIn with op:=1,n:=n }),.str intB]∧BdP h X H nx z b H' nx':=by
 refine DCall.of_body Tryz.func24 rfl ?_;refine gDf cvE_mk ?_
 (refine⟨_,(by simp [*];rfl),?_⟩;(try simp only [packA]))
 refine⟨_,rfl,by rfl,?_⟩;exact hi.toP.up (by omega) fun x hx=>by repeat rw [upd_miss _ _ _ _ (by omega)]
set_option maxRecDepth 10000 in
set_option maxHeartbeats 4000000 in
theorem lw_null (hi:BdI h X H nx z b)(e:Ex) :
  DCall Tryz.prog tkG 25 [.ptr X 0,.agg (cvE e)] H nx fun v H' nx'=>v=.tup [.agg (cvJ { zIn with op:=2 }),.str nullB]∧BdP h X H nx z b H' nx':=by
 refine DCall.of_body Tryz.func25 rfl ?_;obtain⟨k,n,o,m,ks⟩:=e;refine gDf cvE_mk ?_
 (refine⟨_,(by simp [*];rfl),?_⟩;(try simp only [packA]))
 refine⟨_,rfl,by rfl,?_⟩;exact hi.toP.up (by omega) fun x hx=>by repeat rw [upd_miss _ _ _ _ (by omega)]
set_option maxRecDepth 10000 in
set_option maxHeartbeats 4000000 in
theorem lw_input (hi:BdI h X H nx z b)(e:Ex) :
  DCall Tryz.prog tkG 26 [.ptr X 0,.agg (cvE e)] H nx fun v H' nx'=>v=.tup [.agg (cvJ { zIn with op:=5 }),.str intB]∧BdP h X H nx z b H' nx':=by
 refine DCall.of_body Tryz.func26 rfl ?_;obtain⟨k,n,o,m,ks⟩:=e;refine gDf cvE_mk ?_
 (refine⟨_,(by simp [*];rfl),?_⟩;(try simp only [packA]))
 refine⟨_,rfl,by rfl,?_⟩;exact hi.toP.up (by omega) fun x hx=>by repeat rw [upd_miss _ _ _ _ (by omega)]
set_option maxRecDepth 10000 in
set_option maxHeartbeats 4000000 in
theorem lw_object (hi:BdI h X H nx z b)(k n:Int)(o m:Bytes)(ks:List Ex) :
  DCall Tryz.prog tkG 28 [.ptr X 0,.agg (cvE (.mk k n o m ks))] H nx fun v H' nx'=>v=.tup [.agg (cvJ { zIn with op:=6,cls:=m }),.str m]∧BdP h X H nx z b H' nx':=by
 refine DCall.of_body Tryz.func28 rfl ?_;refine gDrf cvE_mk ?_;refine DWp.regX [1,4] (fun H'=>H' nx=some (.cells [.int .i64 k,.int .i64 n,.str o,.str m,.lst (ks.map cvE)])) (by kernel_rfl) (by kernel_rfl) rfl rfl (fun H1 H2 h12 hS=>by rw [h12 nx (by omega)];exact hS) (by simp [upd]) ?_
 repeat (first | apply ASx.stepG;(focus (first | rfl | (simp [*];done)));(focus simp [*,-Option.some.injEq];rfl);(focus (first | exact Fits.pure rfl | (refine Fits.look rfl fun H2 hS2=>?_;simp [hS2, *];done) | (refine Fits.look rfl fun H2 hS2=>?_;simp [hS2, *,-Option.some.injEq];rfl) | (refine Fits.eff rfl fun hS2=>?_;simp [*];done))) | apply ASx.pass;(focus simp [*];done) | refine ASx.nil ?_;(try simp only [Xx,Xy,reduceIte,Nat.reduceEqDiff]))
 refine gD ?_
 (refine⟨_,(by simp [*];rfl),?_⟩;(try simp only [packA]))
 refine⟨_,rfl,by rfl,?_⟩;exact hi.toP.up (by omega) fun x hx=>by repeat rw [upd_miss _ _ _ _ (by omega)]
end
end
section
open Lx
mutual
theorem locS_len:∀ s:St,(locS s).length≤stSz s
 | .mk k nm ty es b el=>by
   rw [locS,stSz];have h1:=locsS_len b;have h2:=locsS_len el;simp only [List.length_append]
   by_cases k1:k=1
   ·rw [if_pos k1,if_neg (by omega)];simp only [List.length_cons,List.length_nil];omega
   ·rw [if_neg k1]
    by_cases k6:k=6
    ·rw [if_pos k6];simp only [List.length_cons,List.length_nil];omega
    ·rw [if_neg k6];simp only [List.length_nil];omega
theorem locsS_len:∀ l:List St,(locsS l).length≤stsSz l
 | []=>by rw [locsS,stsSz];exact Nat.le_refl _
 | s::l=>by
   rw [locsS,stsSz,List.length_append];have h1:=locS_len s;have h2:=locsS_len l;omega
end
/-- There is room for n more of all. -/
structure OkS (b:Bl) (n:Nat):Prop where
 sl:b.slots≤b.vars.length
 v:b.vars.length+n≤lim
 c:b.code.length+n≤lim
 s:b.scope.length+n≤lim
 x:b.next+n≤lim
 t:b.handlers.length+n≤lim
structure GrS (b b':Bl) (n m:Nat):Prop where
 v:b'.vars.length≤b.vars.length+n
 lv:b.vars.length≤b'.vars.length
 c:b'.code.length≤b.code.length+n
 lc:b.code.length≤b'.code.length
 sl:b'.slots=b.slots
 s:b'.scope.length≤b.scope.length+n
 x:b'.next≤b.next+m
 t:b'.handlers.length≤b.handlers.length+n
 lt:b.handlers.length≤b'.handlers.length
theorem GrS.refl (b:Bl):GrS b b 0 0:=⟨by omega,by omega,by omega,by omega,rfl,by omega,by omega,by omega,by omega⟩
theorem GrS.trans {a b c:Bl}{n m n' m':Nat}(h:GrS a b n m)(g:GrS b c n' m'):GrS a c (n+n') (m+m'):=by
 obtain⟨h1,h2,h3,h4,h5,h6,h7,h8,h9⟩:=h;obtain⟨g1,g2,g3,g4,g5,g6,g7,g8,g9⟩:=g;exact⟨by omega,by omega,by omega,by omega,g5.trans h5,by omega,by omega,by omega,by omega⟩
theorem GrS.le {a b:Bl}{n m n' m':Nat}(h:GrS a b n m)(hn:n≤n')(hm:m≤m'):GrS a b n' m':=by
 obtain⟨h1,h2,h3,h4,h5,h6,h7,h8,h9⟩:=h;exact⟨by omega,by omega,by omega,by omega,h5,by omega,by omega,by omega,by omega⟩
theorem OkS.grow {b b':Bl}{n m j k:Nat}(h:OkS b k)(g:GrS b b' n m)(hk:n+j≤k)(hm:m+j≤k):OkS b' j:=by
 obtain⟨h1,h2,h3,h4,h5,h6⟩:=h;obtain⟨g1,g2,g3,g4,g5,g6,g7,g8,g9⟩:=g;exact⟨by omega,by omega,by omega,by omega,by omega,by omega⟩
theorem OkS.b {b:Bl}{n m:Nat}(h:OkS b n)(hm:m≤n):OkB b m:=by
 obtain⟨h1,h2,h3,h4,h5,h6⟩:=h;exact⟨h1,by omega,by omega,by omega⟩
theorem OkS.le {b:Bl}{n m:Nat}(h:OkS b n)(hm:m≤n):OkS b m:=by
 obtain⟨h1,h2,h3,h4,h5,h6⟩:=h;exact⟨h1,by omega,by omega,by omega,by omega,by omega⟩
/-- What lowering an expression keeps. -/
structure Kp (b b':Bl):Prop where
 x:b'.next=b.next
 t:b'.handlers=b.handlers
 lc:b.code.length≤b'.code.length
theorem Kp.refl (b:Bl):Kp b b:=⟨rfl,rfl,Nat.le_refl _⟩
theorem Kp.trans {a b c:Bl}(h:Kp a b)(g:Kp b c):Kp a c:=⟨g.x.trans h.x,g.t.trans h.t,Nat.le_trans h.lc g.lc⟩
theorem Kp.fin (b:Bl)(p:In×Bytes):Kp b (finB b p).1:=⟨rfl,rfl,by simp [finB,emitB,tempB]⟩
mutual
theorem opB_kp (h:List Cd):∀ (e:Ex) (b:Bl),Kp b (opB h b e).1
 | .mk k n o m ks,b=>by
   rw [opB];split
   ·exact .refl _
   split
   ·exact .refl _
   exact (opsB_kp h ks (cntB k n ks) b).trans (Kp.fin _ _)
theorem opsB_kp (h:List Cd):∀ (l:List Ex) (c:Nat) (b:Bl),Kp b (opsB h c b l).1
 | [],0,b=>by rw [opsB];exact .refl _
 | e::l,0,b=>by rw [opsB];exact .refl _
 | [],c+1,b=>by rw [opsB];exact .refl _;simp
 | e::l,c+1,b=>by
   rw [opsB];exact (opB_kp h e b).trans (opsB_kp h l c _)
end
theorem Grows.s' {b b':Bl}{n:Nat}(g:Grows b b' n)(k:Kp b b'):GrS b b' n 0:=by
 obtain⟨g1,g2,g3,g4,g5⟩:=g;obtain⟨k1,k2,k3⟩:=k;exact⟨g1,g2,g3,k3,g4,by rw [g5];omega,by omega,by rw [k2];omega,by rw [k2];omega⟩
theorem opB_grs (h:List Cd)(e:Ex)(b:Bl):GrS b (opB h b e).1 (exSz e) 0:=(opB_gr h e b).s' (opB_kp h e b)
theorem exSz_get:∀ (l:List Ex) (i:Nat) (e:Ex),l[i]?=some e→exSz e≤exsSz l
 | [],i,e,h=>by simp at h
 | a::l,0,e,h=>by simp at h;subst h;rw [exsSz];omega
 | a::l,i+1,e,h=>by
   have:=exSz_get l i e (by simpa using h);rw [exsSz];omega
theorem op0_grs (h:List Cd)(es:List Ex)(i:Nat)(b:Bl):GrS b (op0B h b es i).1 (exsSz es) 0:=by
 unfold op0B;cases hx:es[i]? with
 | none=>exact (GrS.refl b).le (Nat.zero_le _) (Nat.zero_le _)
 | some e=>exact (opB_grs h e b).le (exSz_get es i e hx) (Nat.zero_le _)
theorem insE_grs (h:List Cd)(e:Ex)(b:Bl):GrS b (insE h b e).1 (exSz e) 0:=by
 obtain⟨k,n,o,m,ks⟩:=e;exact ((opsB_gr h ks (cntB k n ks) b).s' (opsB_kp h ks (cntB k n ks) b)).le (by rw [exSz];omega) (Nat.zero_le _)
theorem GrS.em (b:Bl)(i:In):GrS b (emitB b i) 1 0:=⟨by simp [emitB],by simp [emitB],by simp [emitB],by simp [emitB],rfl,by simp [emitB],by simp [emitB],by simp [emitB],by simp [emitB]⟩
theorem GrS.decl (b:Bl):GrS b (declB b) 1 1:=⟨by simp [declB],by simp [declB],by simp [declB],by simp [declB],rfl,by simp [declB],by simp [declB],by simp [declB],by simp [declB]⟩
theorem GrS.tmp (b:Bl)(t:Bytes):GrS b (tempB b t) 1 0:=⟨by simp [tempB],by simp [tempB],by simp [tempB],by simp [tempB],rfl,by simp [tempB],by simp [tempB],by simp [tempB],by simp [tempB]⟩
theorem GrS.hnd (b:Bl):GrS b (hndB b) 1 0:=⟨by simp [hndB],by simp [hndB],by simp [hndB],by simp [hndB],rfl,by simp [hndB],by simp [hndB],by simp [hndB],by simp [hndB]⟩
theorem GrS.hand (b:Bl)(n:Int):GrS b (handB b n) 0 0:=⟨by simp [handB],by simp [handB],by simp [handB],by simp [handB],rfl,by simp [handB],by simp [handB],by simp [handB],by simp [handB]⟩
theorem GrS.setH (b:Bl)(i v:Nat):GrS b (setH b i v) 0 0:=⟨by simp [Lx.setH],by simp [Lx.setH],by simp [Lx.setH],by simp [Lx.setH],rfl,by simp [Lx.setH],by simp [Lx.setH],by simp [Lx.setH],by simp [Lx.setH]⟩
theorem GrS.here (b:Bl)(i:Nat):GrS b (hereB b i) 0 0:=by
 unfold hereB;cases b.code[i]? with
 | none=>exact .refl b
 | some x=>exact⟨by simp,by simp,by simp,by simp,rfl,by simp,by simp,by simp,by simp⟩
theorem GrS.cut (b:Bl)(n:Nat):GrS b (cutB b n) 0 0:=⟨by simp [cutB],by simp [cutB],by simp [cutB],by simp [cutB],rfl,by simp [cutB,List.length_take];omega,by simp [cutB],by simp [cutB],by simp [cutB]⟩
/-- The next slot is set; what is left of it is known. -/
theorem GrS.nxt (b:Bl)(x n:Nat)(h:x≤b.next+n):GrS b (nextB b x) 0 n:=⟨by simp [nextB],by simp [nextB],by simp [nextB],by simp [nextB],rfl,by simp [nextB],by simpa [nextB] using h,by simp [nextB],by simp [nextB]⟩
theorem GrS.nxt' {a b:Bl}{n m:Nat}(g:GrS a b n m)(x m':Nat)(h:x≤a.next+m'):GrS a (nextB b x) n m':=by
 obtain⟨h1,h2,h3,h4,h5,h6,h7,h8,h9⟩:=g;exact⟨h1,h2,h3,h4,h5,h6,h,h8,h9⟩
theorem sim_gr (h:List Cd)(b:Bl)(k:Int)(nm:Bytes)(es:List Ex):GrS b (simB h b k nm es) (2*exsSz es+2) 1:=by
 have g0:=op0_grs h es 0 b;unfold simB;split
 ·split
  ·exact (GrS.decl b).le (by omega) (by omega)
  ·exact ((g0.trans (GrS.decl _)).trans (GrS.em _ _)).le (by omega) (by omega)
 split
 ·exact (g0.trans (GrS.em _ _)).le (by omega) (by omega)
 split
 ·exact ((g0.trans (op0_grs h es 1 _)).trans (GrS.em _ _)).le (by omega) (by omega)
 split
 ·exact (g0.trans (GrS.em _ _)).le (by omega) (by omega)
 split
 ·split
  ·exact (GrS.em _ _).le (by omega) (by omega)
  ·exact (g0.trans (GrS.em _ _)).le (by omega) (by omega)
 ·cases hx:es[0]? with
  | none=>exact (GrS.refl b).le (by omega) (by omega)
  | some e =>
    have:=exSz_get es 0 e hx;exact ((insE_grs h e b).trans (GrS.em _ _)).le (by omega) (by omega)
mutual
theorem stB_gr (h:List Cd):∀ (s:St) (b:Bl),GrS b (stB h b s) (4*stSz s) (stSz s)
 | .mk k nm ty es bd el,b=>by
   have g0:=op0_grs h es 0 b;have hl:=locsS_len bd;rw [stB,stSz];split
   ·simp only;generalize (op0B h b es 0).1=b1 at g0 ⊢;have g2:GrS b (brB b1 (op0B h b es 0).2) _ _:=g0.trans (GrS.em _ _);generalize brB b1 (op0B h b es 0).2=b2 at g2 ⊢;have g3:=(g2.trans (GrS.nxt b2 (b2.next+(locsS bd).length) _ (Nat.le_refl _))).trans ((blB_gr h el (nextB b2 (b2.next+(locsS bd).length))).trans (GrS.cut _ b2.scope.length));generalize cutB (blB h (nextB b2 (b2.next+(locsS bd).length)) el) b2.scope.length=b3 at g3 ⊢;have g4:GrS b (jmpB b3 0) _ _:=g3.trans (GrS.em _ _);generalize jmpB b3 0=b4 at g4 ⊢;have hb1:=g0.x;have hb3:=g3.x;have g5:=(((g4.trans (GrS.here _ b1.code.length)).nxt' b1.next 0 (by omega)).trans (blB_gr h bd (nextB (hereB b4 b1.code.length) b1.next))).trans (GrS.cut _ b4.scope.length);have g6:=g5.nxt' b3.next _ hb3;exact (g6.trans (GrS.here _ _)).le (by omega) (by omega)
   split
   ·simp only;generalize (op0B h b es 0).1=b1 at g0 ⊢;have g2:GrS b (jmpB (brB b1 (op0B h b es 0).2) 0) _ _:=(g0.trans (GrS.em _ _)).trans (GrS.em _ _);generalize jmpB (brB b1 (op0B h b es 0).2) 0=b2 at g2 ⊢;have g3:=((g2.trans (GrS.here _ b1.code.length)).trans (blB_gr h bd _)).trans (GrS.cut _ b2.scope.length);exact ((g3.trans (show GrS _ (jmpB _ _) _ _ from GrS.em _ _)).trans (GrS.here _ _)).le (by omega) (by omega)
   split
   ·simp only;have g1:=(GrS.hnd b).trans (GrS.hand _ b.handlers.length);generalize handB (hndB b) b.handlers.length=b1 at g1 ⊢;have g2:=((g1.trans (blB_gr h bd b1)).trans (GrS.cut _ b1.scope.length)).trans (GrS.hand _ b.handler);generalize handB (cutB (blB h b1 bd) b1.scope.length) b.handler=b2 at g2 ⊢;have g3:GrS b (jmpB b2 0) _ _:=g2.trans (GrS.em _ _);generalize jmpB b2 0=b3 at g3 ⊢;have g4:=(g3.trans (show GrS b3 (catB b3 ty) (1+1) (1+0) from (GrS.decl _).trans (GrS.em _ _))).trans (GrS.setH _ b.handlers.length b3.code.length);generalize setH (catB b3 ty) b.handlers.length b3.code.length=b4 at g4 ⊢;exact ((((g4.trans (blB_gr h el b4)).trans (GrS.cut _ b4.scope.length)).trans (GrS.cut _ b3.scope.length)).trans (GrS.here _ _)).le (by omega) (by omega)
   ·exact (sim_gr h b k nm es).le (by omega) (by omega)
theorem blB_gr (h:List Cd):∀ (l:List St) (b:Bl),GrS b (blB h b l) (4*stsSz l) (stsSz l)
 | [],b=>by rw [blB,stsSz];exact GrS.refl b
 | s::l,b=>by
   rw [blB,stsSz];exact ((stB_gr h s b).trans (blB_gr h l _)).le (by omega) (by omega)
end
end
section
open Lx Ax Go.RowKit
attribute [local simp] stepS Ax.stepT Dl.on qstep astep estep rd putE over argE ofV ofS loadA pickCells isAggD faddA fieldA partA iaddA idxA sliA bnd binA intA strA unA convA bltA lenA mapOf findK keyD scalD storeA appA srcA srcD upd drp Dl.hp Dl.nx CV.cs CV.one buildA placesA fillA zrep tasA ifaceD eqA eqFs eqIs range2 copyA nbeq nble nblt decEq beqI bneI beqS bneS isED Int.ofNat_inj List.getElem?_map List.getElem?_eq_getElem Option.map_some ti_int ti_bool ti_str ti_i64 ti_Strs ti_Flds ti_Fld ti_Ints ti_Ins ti_In ti_Bd ti_Kd ti_Kf ti_Pb ti_Ex ti_Exs gd gdB callA resA op1
attribute [local simp] nu1 nu2 nu3 nu4 nu5 nu6 nu7 nu8 nu9 nu10 nu11 nu12 nu13 upd_upd
section
variable {h:List Cd} {cls:Bytes} {T sc:List Fld} {X:Nat} {H:Heap} {nx:Nat} {z:Bv} {b:Bl}
theorem LwX.ops (hx:LwX h cls T sc b){l:List Ex}(hty:∀ e∈l,isOk (exT9 h cls sc e)=true)(i:Nat):LwX h cls T sc (opsB h i b l).1:=by
 obtain⟨O,J,hc⟩:=hx.ci;obtain⟨a1,a2,_⟩:=opsB_C l i b hty hc hx.vs;exact⟨hx.hb,⟨O,J,a1⟩,hx.vs.grow a2⟩
theorem opsB_n (h:List Cd):∀ (l:List Ex) (i:Nat) (b:Bl),(opsB h i b l).2.length≤i
 | [],0,b=>by rw [opsB];exact Nat.le_refl _
 | e::l,0,b=>by rw [opsB];exact Nat.le_refl _
 | [],i+1,b=>by
   have e:opsB h (i+1) b []=(b,[]):=by rw [opsB];simp
   rw [e];exact Nat.zero_le _
 | e::l,i+1,b=>by
   have e2:opsB h (i+1) b (e::l)=((opsB h i (opB h b e).1 l).1,(opB h b e).2::(opsB h i (opB h b e).1 l).2):=by conv=>lhs;rw [opsB]
   have:=opsB_n h l i (opB h b e).1;rw [e2];simp only [List.length_cons];omega
/-- The state of the loop over the operands. -/
def OpsS (h:List Cd)(X:Nat)(H:Heap)(nx:Nat)(z:Bv)(b:Bl)(l:List Ex)(i:Nat)(c:CV)(H1:Heap)(n1:Nat):Prop :=
 ∃ zi,OwnR cvI 1 H1 n1 c (opsB h i b l).2∧(∀ x,ob c x→nx≤x∧¬ OB X zi x)∧BdI h X H1 n1 zi (opsB h i b l).1∧nx≤n1∧(∀ x,x<nx→¬ OB X z x→H1 x=H x)∧(∀ x,OB X zi x→OB X z x∨nx≤x)∧((opsB h i b l).2=[]→c=.nils)
set_option maxRecDepth 10000 in
set_option maxHeartbeats 8000000 in
theorem lw_operands (l:List Ex)(hop:∀ e∈l,OpOk h cls T sc e)(hty:∀ e∈l,isOk (exT9 h cls sc e)=true)(hi:BdI h X H nx z b)(hx:LwX h cls T sc b)(hok:OkB b (exsSz l)) :
  DCall Tryz.prog tkG 53 [.ptr X 0,.lst (l.map cvE)] H nx fun v H' nx'=>v=avV (opsB h l.length b l).2∧BdP h X H nx z (opsB h l.length b l).1 H' nx':=by
 refine DCall.of_body Tryz.func53 rfl ?_;have hll:l.length≤lim:=by have:=exsSz_len l;have:=hok.v;omega
 have e0:opsB h 0 b l=(b,[]):=by cases l <;> rw [opsB]
 refine gD ?_;refine DWp.countO l.length [5,7,10] 11 (fun i e H1 n1=>e 10=.int .i64 i∧OpsS h X H nx z b l i (e 5) H1 n1) ⟨(by first | (simp (disch:=omega) [putE,over,ofV,ofS, *];done) | (simp (disch:=omega) [putE,over,ofV,ofS, *];rfl)),z,?_,?_,by rw [e0];exact hi,Nat.le_refl _,fun _ _ _=>rfl,fun _ hx=>.inl hx,fun _=>(by first | (simp (disch:=omega) [putE,over,ofV,ofS, *];done) | (simp (disch:=omega) [putE,over,ofV,ofS, *];rfl))⟩ ?_
 ·rw [e0];have e5:∀ c,c=CV.nils→OwnR cvI 1 H nx c []:=fun c hc=>hc▸OwnR.nil
  exact e5 _ (by first | (simp (disch:=omega) [putE,over,ofV,ofS, *];done) | (simp (disch:=omega) [putE,over,ofV,ofS, *];rfl))
 ·intro x hx;have e5:∀ c,c=CV.nils→ob c x→False:=fun c hc=>by rintro⟨o,m,k,rfl⟩;cases hc
  exact (e5 _ (by first | (simp (disch:=omega) [putE,over,ofV,ofS, *];done) | (simp (disch:=omega) [putE,over,ofV,ofS, *];rfl)) hx).elim
 rintro i v H1 n1 hil ⟨h10,zi,s1,s2,s3,s4,s5,s6,s7⟩;generalize hv5:v 5=c at *;refine gD ?_
 (((apply DWp.cond');(focus (simp [*,-Ax.CV.bool.injEq];rfl))) <;> (intro hb) <;> (try simp only [decide_eq_true_eq,decide_eq_false_iff_not,Bool.not_eq_true',Bool.not_eq_false',Bool.not_eq_true,Bool.not_eq_false] at hb))
 ·have hlt:i<l.length:=hb;have hwi:=lim_wrap hlt hll;clear hb;have hmem:=List.getElem_mem hlt;obtain⟨t,htt⟩:∃ t,exT9 h cls sc l[i]=.ok t:=by
   have:=hty _ hmem;cases hh:exT9 h cls sc l[i] with
   | error x=>rw [hh] at this;cases this
   | ok t=>exact⟨t,rfl⟩
  have hoki:OkB (opsB h i b l).1 (exSz l[i]):=hok.grow (opsB_gri h l i b) (exsSz_take l i hlt);have hcall:=fun H2 n2 (hb2:BdI h X H2 n2 zi (opsB h i b l).1)=>hop _ hmem X H2 n2 zi _ t hb2 (hx.ops hty i) htt hoki
  have hsn:=opsB_snoc h l i b hlt;generalize hse:l[i]=e at *;simp only [Xz e] at hcall;refine gDf (Xz e) ?_;have hlb:∀ x,ob c x→x<n1:=fun x hx=>(s1.obl hx).1
  ((apply DOpl.callD);(focus rfl);(focus (first | rfl | (simp [Xz e, *];done)));(focus simp [Xz e, *,-Option.some.injEq];rfl);kernel_rfl)
  ·exact hcall _ _ (s3.up (by omega) fun x hx=>upd_miss _ _ _ _ (by omega))
  rintro vv H3 n3 ⟨rfl,z3,k1,k2,k3,k4⟩;have s1':OwnR cvI 1 H3 n3 c (opsB h i b l).2:=s1.keep' (by omega) fun x hx=>by
   have:=hlb x hx;rw [k3 x (by omega) (s2 x hx).2,upd_miss _ _ _ _ (by omega)]
  have hll2:(opsB h i b l).2.length<1000000000:=by have:=opsB_n h l i b;simp only [lim] at hll;omega
  clear hcall;refine gD ?_;refine DOpl.appQ cvI_len cvI_one ti_Ints ti_int (opB h (opsB h i b l).1 e).2 (s1'.keep' (by omega) fun x hx=>upd_miss _ _ _ _ (by have:=(s1'.obl hx).1;omega)) hll2 ?_ (hxb:=by simp [upd,cvI]);intro H4 hN hfr;have hcn:∀ b',c=.sl b' 0 (opsB h i b l).2.length 1→ob c b':=fun b' e=>⟨_,_,_,e⟩
  have keep4:∀ x,x<n3→¬ ob c x→H4 x=H3 x:=fun x hx ho=>by
   rw [hfr x (by omega) (fun b' e2 e3=>ho (e3▸hcn b' e2)),upd_miss _ _ _ _ (by omega)]
  have z3c:∀ x,OB X z3 x→¬ ob c x:=fun x hx ho=>by
   rcases k4 x hx with h5 | h5
   ·exact (s2 x ho).2 h5
   ·have:=hlb x ho;omega
  refine gD ?_;refine⟨by ((repeat (first | exact Keeps.base _ _ _ _ | (with_reducible exact Keeps.refl _ _ _) | (refine Keeps.put rfl ?_) | (refine Keeps.over' rfl rfl ?_)))),hlt,(by first | (simp (disch:=omega) [putE,over,ofV,ofS, *];done) | (simp (disch:=omega) [putE,over,ofV,ofS, *];rfl)),z3,?_,?_,?_,by omega,fun x hx ho=>?_,fun x hx=>?_,fun hh=>by
   rw [hsn] at hh;have:=congrArg List.length hh;simp only [List.length_append,List.length_cons,List.length_nil] at this;omega⟩
  ·rw [hsn];simp only [List.length_append,List.length_cons,List.length_nil];exact OwnR.isN0 hN (by omega) _ (by simp)
  ·intro x hx;have:=ob_sl hx;exact⟨by omega,fun ho=>by have:=k1.lo ho;omega⟩
  ·rw [hsn];exact k1.keep (by omega) fun x hx=>keep4 x (k1.lo hx) (z3c x hx)
  ·have o3:¬ OB X zi x:=fun h5=>(s6 x h5).elim ho (fun h6=>by omega)
   rw [keep4 x (by omega) (fun h5=>by have:=(s2 x h5).1;omega),k3 x (by omega) o3,upd_miss _ _ _ _ (by omega)];exact s5 x hx ho
  ·rcases k4 x hx with h5 | h5
   ·exact s6 x h5
   ·exact .inr (by omega)
 ·have hi':i=l.length:=by omega
  subst hi';clear hb hop;rcases s1 with⟨hr,hc⟩ | ⟨N,rest,hc,hNb,hNl⟩
  ·rw [hc] at hv5;refine gD ?_
   (refine⟨_,(by simp [*];rfl),?_⟩;(try simp only [packA]))
   refine⟨_,rfl,by rw [hr];rfl,zi,s3,s4,s5,s6⟩
  ·rw [hc] at hv5;obtain⟨r,hr⟩:∃ r,(opsB h l.length b l).2=r:=⟨_,rfl⟩;rw [hr] at hNb hv5 s7;rw [hr];refine DWp.frzR cvI_len 5 r rest ?_ hNb ?_
   ·simp [putE,over,ofV,ofS, *]
   intro H5 hf5;refine gD ?_
   (refine⟨_,(by simp [*];rfl),?_⟩;(try simp only [packA]))
   have hN2:=s2 N (hc▸⟨_,_,_,rfl⟩);refine⟨_,rfl,?_,zi,s3.keep (Nat.le_refl _) fun x hx=>hf5 x (fun e=>hN2.2 (e▸hx)),s4,fun x hx ho=>by rw [hf5 x (by omega)];exact s5 x hx ho,s6⟩;cases r with
   | nil=>rw [hc] at s7;exact absurd (s7 rfl) (by intro h;cases h)
   | cons a r=>rfl
end
end
section
open Lx Ax Go.RowKit
attribute [local simp] stepS Ax.stepT Dl.on qstep astep estep rd putE over argE ofV ofS loadA pickCells isAggD faddA fieldA partA iaddA idxA sliA bnd binA intA strA unA convA bltA lenA mapOf findK keyD scalD storeA appA srcA srcD upd drp Dl.hp Dl.nx CV.cs CV.one buildA placesA fillA zrep tasA ifaceD eqA eqFs eqIs range2 copyA nbeq nble nblt decEq beqI bneI beqS bneS isED Int.ofNat_inj List.getElem?_map List.getElem?_eq_getElem Option.map_some ti_int ti_bool ti_str ti_i64 ti_Strs ti_Flds ti_Fld ti_Ints ti_Ins ti_In ti_Bd ti_Kd ti_Kf ti_Pb ti_Ex ti_Exs ti_Hi gd gdB callA resA op1
attribute [local simp] nu1 nu2 nu3 nu4 nu5 nu6 nu7 nu8 nu9 nu10 nu11 nu12 nu13 upd_upd
theorem row_get {α:Type}{cv:α→List CV}{k:Nat}(hk:∀ a,(cv a).length=k)(rest:List CV):∀ (l:List α) (i j:Nat) (hi:i<l.length) (_:j<k),(l.flatMap cv++rest)[i*k+j]?=(cv l[i])[j]?
 | [],i,j,hi,_=>by simp at hi
 | a::l,0,j,hi,hj=>by
   have ha:=hk a;simp only [Nat.zero_mul,Nat.zero_add,List.flatMap_cons,List.append_assoc,List.getElem_cons_zero];rw [List.getElem?_append_left (by omega)]
 | a::l,i+1,j,hi,hj=>by
   have ha:=hk a;simp only [List.flatMap_cons,List.append_assoc,List.getElem_cons_succ];rw [List.getElem?_append_right (by rw [ha,Nat.succ_mul];omega),ha,show (i+1)*k+j-k=i*k+j by rw [Nat.succ_mul];omega];exact row_get hk rest l i j (by simpa using hi) hj
theorem Ax.OwnR.pos {α:Type}{cv:α→List CV}{k:Nat}{H:Heap}{nx:Nat}{c:CV}{l:List α}(h:OwnR cv k H nx c l){i:Nat}(hi:i<l.length):∃ vb rest,c=.sl vb 0 l.length k∧H vb=some (.cells (l.flatMap cv++rest))∧vb<nx:=by
 rcases h with⟨rfl,_⟩ | ⟨b,rest,h1,h2,h3⟩
 ·simp at hi
 ·exact⟨b,rest,h1,h2,h3⟩
theorem ops1 (h:List Cd)(b:Bl)(e:Ex)(l:List Ex):opsB h 1 b (e::l)=((opB h b e).1,[(opB h b e).2]):=by
 have e2:opsB h (0+1) b (e::l)=((opsB h 0 (opB h b e).1 l).1,(opB h b e).2::(opsB h 0 (opB h b e).1 l).2):=by conv=>lhs;rw [opsB]
 have e0:∀ b',opsB h 0 b' l=(b',[]):=fun b'=>by cases l <;> rw [opsB]
 rw [show (1:Nat)=0+1 from rfl,e2,e0]
def fldTy:Option (Bytes×Bytes)→Bytes
 | some (_,t)=>t
 | none=>[]
theorem insE8 {h:List Cd}{b b1:Bl}{n:Int}{o m t:Bytes}{e:Ex}{s:Nat}(h1:(opB h b e).1=b1)(h2:(opB h b e).2=(s:Int))(h3:typeAt b1 (s:Int)=t) :
  insE h b (.mk 8 n o m [e])=(b1,{ zIn with op:=7,a:=s,name:=m },fldTy (fieldF h t m)):=by
 show ((opsB h (cntB 8 n [e]) b [e]).1,insB h (opsB h (cntB 8 n [e]) b [e]).1 8 n o m [e] (opsB h (cntB 8 n [e]) b [e]).2)=_
 have hc:cntB 8 n [e]=1:=by simp [cntB]
 rw [hc,ops1,h1,h2,← h3];simp [insB];rfl
theorem BdP.seq {h:List Cd}{X:Nat}{H2 H3 H4:Heap}{n2 n3 n4:Nat}{z z3:Bv}{b2:Bl}(k2:n2≤n3)(k3:∀ x,x<n2→¬ OB X z x→H3 x=H2 x)(k4:∀ x,OB X z3 x→OB X z x∨n2≤x)(p:BdP h X H3 n3 z3 b2 H4 n4):BdP h X H2 n2 z b2 H4 n4:=by
 obtain⟨z4,m1,m2,m3,m4⟩:=p;refine⟨z4,m1,by omega,fun x hx ho=>?_,fun x hx=>?_⟩
 ·rw [m3 x (by omega) (fun h6=>(k4 x h6).elim ho (fun h7=>by omega)),k3 x hx ho]
 ·rcases m4 x hx with h6 | h6
  ·exact k4 x h6
  ·exact .inr (by omega)
/-- Blocks of one's own between the two heaps. -/
theorem BdP.own {h:List Cd}{X:Nat}{H H2 H3 H4:Heap}{nx n2 n3 n4:Nat}{z:Bv}{b b':Bl}(hi:BdI h X H nx z b)(p:BdP h X H2 n2 z b' H3 n3)(hn:nx≤n2)(hk:∀ x,x<nx→H2 x=H x)(hN:n3≤n4)(hk4:∀ x,x<n3→(x<nx∨n2≤x)→H4 x=H3 x):BdP h X H nx z b' H4 n4:=by
 obtain⟨z3,k1,k2,k3,k4⟩:=p;refine⟨z3,k1.keep hN fun x hx=>hk4 x (k1.lo hx) ?_,by omega,fun x hx ho=>?_,fun x hx=>?_⟩
 ·rcases k4 x hx with h5 | h5
  ·exact .inl (hi.lo h5)
  ·exact .inr h5
 ·rw [hk4 x (by omega) (.inl hx),k3 x (by omega) ho,hk x hx]
 ·rcases k4 x hx with h5 | h5
  ·exact .inl h5
  ·exact .inr (by omega)
section
variable {h:List Cd} {cls:Bytes} {T sc:List Fld} {X:Nat} {H:Heap} {nx:Nat} {z:Bv} {b:Bl}
set_option maxRecDepth 10000 in
set_option maxHeartbeats 8000000 in
theorem lw_load (n:Int)(o m:Bytes)(e:Ex)(hop:OpOk h cls T sc e)(hi:BdI h X H nx z b)(hx:LwX h cls T sc b)(t:Bytes)(ht:exT9 h cls sc e=.ok t)(hok:OkB b (exSz e)) :
  DCall Tryz.prog tkG 29 [.ptr X 0,.agg (cvE (.mk 8 n o m [e]))] H nx fun v H' nx'=>v=.tup [.agg (cvJ (insE h b (.mk 8 n o m [e])).2.1),.str (insE h b (.mk 8 n o m [e])).2.2]∧BdP h X H nx z (insE h b (.mk 8 n o m [e])).1 H' nx':=by
 refine DCall.of_body Tryz.func29 rfl ?_;have hcall:=fun H2 n2 (hb2:BdI h X H2 n2 z b)=>hop X H2 n2 z b t hb2 hx ht hok
 simp only [Xz e] at hcall;obtain⟨O,J,hci⟩:=hx.ci;obtain⟨-,-,s,hs1,hs2⟩:=opB_C e b t ht hci hx.vs;rw [insE8 rfl hs1 (typ_at hs2)];have hlX:=hi.lt;have hfld:=tk_Field h hx.hb t m;refine gDf (And.intro cvE_mk (Xz e)) ?_
 ((apply DOpl.callD);(focus rfl);(focus (first | rfl | (simp [cvE_mk,Xz e, *];done)));(focus simp [cvE_mk,Xz e, *,-Option.some.injEq];rfl);kernel_rfl)
 ·exact hcall _ _ (hi.up (by omega) fun x hx=>by repeat rw [upd_miss _ _ _ _ (by omega)])
 rintro vv H3 n3 ⟨rfl,z3,k1,k2,k3,k4⟩;rw [hs1];clear hcall;have hsl:s<(opB h b e).1.vars.length:=by
  cases hv:(opB h b e).1.vars[s]? with
  | none=>rw [hv] at hs2;cases hs2
  | some f=>exact (List.getElem?_eq_some_iff.mp hv).1
 rw [List.getElem?_eq_getElem hsl,Option.map_some,Option.some.injEq] at hs2;generalize (opB h b e).1=b1 at *;have nob:∀ x,nx≤x→¬ OB X z x:=fun x hx ho=>by have:=hi.lo ho;omega
 have g0:=k3 nx (by omega) (nob _ (by omega));have g1:=k3 (nx+1) (by omega) (nob _ (by omega));rw [upd_miss _ _ _ _ (by omega),upd_hit] at g0;rw [upd_hit] at g1;obtain⟨vb,rest,hz,hvb,hvl⟩:=k1.v.pos hsl;have hX3:H3 X=some (.cells ([.lst (h.map cvD),z3.v,z3.c,.int .i64 b1.slots,.int .i64 b1.next,z3.s,.int .i64 b1.handler,z3.t]++knd X)):=k1.blk;simp only [knd,List.cons_append,List.nil_append,hz] at hX3;have hro:=row_get cvF_len rest b1.vars s 1 hsl (by omega);simp only [cvH] at hfld;refine gD ?_;have hfin:∀ k,BdP h X H nx z b1 (upd H3 (nx+1) k) (n3+22):=fun k=>BdP.own hi ⟨z3,k1,k2,k3,k4⟩ (by omega) (fun x hx=>by repeat rw [upd_miss _ _ _ _ (by omega)]) (by omega) fun x hx hb=>upd_miss _ _ _ _ (by omega)
 cases hff:fieldF h t m with
 | none =>
   rw [hff] at hfld;simp only [tupF] at hfld
   (first | (first | (apply DOpl.callN;rfl) | apply ASl.call);(focus simp [*,-Option.some.injEq];rfl);kernel_rfl | (first | (apply DOpl.callNG;rfl) | apply ASl.callg);(focus simp [*];done);(focus simp [*,-Option.some.injEq];rfl);kernel_rfl)
   ·exact hfld
   refine gD ?_
   (refine⟨_,(by simp [*];rfl),?_⟩;(try simp only [packA]))
   exact⟨_,rfl,by rfl,hfin _⟩
 | some p =>
   obtain⟨c,ty⟩:=p;rw [hff] at hfld;simp only [tupF] at hfld
   (first | (first | (apply DOpl.callN;rfl) | apply ASl.call);(focus simp [*,-Option.some.injEq];rfl);kernel_rfl | (first | (apply DOpl.callNG;rfl) | apply ASl.callg);(focus simp [*];done);(focus simp [*,-Option.some.injEq];rfl);kernel_rfl)
   ·exact hfld
   refine gD ?_
   (refine⟨_,(by simp [*];rfl),?_⟩;(try simp only [packA]))
   exact⟨_,rfl,by rfl,hfin _⟩
end
end
end Go.Proofs.YtoookjadbhdfhaaGreatDoor
