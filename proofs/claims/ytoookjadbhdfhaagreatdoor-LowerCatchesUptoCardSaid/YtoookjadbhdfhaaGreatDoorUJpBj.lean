/-
  lower.function; walked.
-/
import Derived.Test.YtoookjadbhdfhaaGreatDoorUJpBi
import Derived.Test.YtoookjadbhdfhaaGreatDoorUJpBa
import Derived.Test.YtoookjadbhdfhaaGreatDoorUJpAr
import Derived.Test.YtoookjadbhdfhaaGreatDoorUJpBc
set_option linter.unusedSectionVars false
set_option linter.unusedSimpArgs false
set_option linter.unnecessarySimpa false
set_option linter.unusedVariables false
set_option linter.unusedSimpArgs false
set_option linter.unusedVariables false
namespace Go.Proofs.YtoookjadbhdfhaaGreatDoor
section
open Lx Ax Go.RowKit
attribute [local simp] stepS Ax.stepT Dl.on qstep astep estep rd putE over argE ofV ofS loadA pickCells isAggD faddA fieldA partA iaddA idxA sliA bnd binA intA strA unA convA bltA mapOf findK keyD scalD storeA appA srcA srcD upd drp Dl.hp Dl.nx CV.cs CV.one buildA placesA fillA zrep tasA ifaceD eqA eqFs eqIs range2 copyA nbeq nble nblt decEq beqI bneI beqS bneS isED Int.ofNat_inj List.getElem?_map List.getElem?_eq_getElem Option.map_some ti_int ti_bool ti_str ti_i64 ti_Strs ti_Flds ti_Fld ti_Ints ti_Ins ti_In ti_Bd ti_Kd ti_Kf ti_Pb ti_Ex ti_Exs ti_St ti_Sts ti_Me ti_Mes ti_Fn ti_Hi gd gdB callA resA op1
attribute [local simp] nu1 nu2 nu3 nu4 nu5 nu6 nu7 nu8 nu9 nu10 nu11 nu12 nu13 upd_upd
theorem len_lstF' {H:Heap}(l:List Fld):lenA Tryz.prog H 35 (.lst (l.map cvF))=some (.int .i64 l.length):=by
 unfold lenA;simp [ti_Flds]
section
variable {h:List Cd}
set_option maxRecDepth 10000 in
set_option maxHeartbeats 32000000 in
theorem lw_function (hB:HB h)(c:Bytes)(m:Me)(hk:methE h c m=0)(hsz:2*m.params.length+6*stsSz m.body+10≤lim):FCall1 Tryz.prog tkG 14 [cvH h,.str c,.agg (cvM m)] (.agg (cvFu (funB h c m))):=by
 refine FCall.one tkG_pu (puFnA h c m) (puFu _) ?_;refine FCall.ofBody Tryz.func14 rfl rfl fun nx=>?_
 obtain⟨cls,T,u,hbl,hx0,hpre,hci⟩:=meth_C (c:=c) hB hk;refine gWrf (And.intro cvH.eq_1 cvM.eq_1) ?_;refine AWp.regX [0,2] (fun H'=>H' nx=some (.cells [.lst (h.map cvD)])∧H' (nx+1)=some (.cells [.str m.name,.bool m.static,.lst (m.params.map cvF),.str m.result,.lst (m.body.map cvS)])) (by kernel_rfl) (by kernel_rfl) rfl rfl (fun H1 H2 h12 hS=>⟨by rw [h12 nx (by omega)];exact hS.1,by rw [h12 _ (by omega)];exact hS.2⟩) ⟨by simp [upd],by simp [upd]⟩ ?_
 repeat (first | apply ASx.stepG;(focus (first | rfl | (simp [*];done)));(focus simp [*,-Option.some.injEq];rfl);(focus (first | exact Fits.pure rfl | (refine Fits.look rfl fun H2 hS2=>?_;simp [hS2, *];done) | (refine Fits.look rfl fun H2 hS2=>?_;simp [hS2, *,-Option.some.injEq];rfl) | (refine Fits.eff rfl fun hS2=>?_;simp [*];done))) | apply ASx.pass;(focus simp [*];done) | refine ASx.nil ?_;(try simp only [Xx,Xy,reduceIte,Nat.reduceEqDiff]))
 ((apply ASx.callD);(focus (first | rfl | (simp [*];done)));(focus simp [*,-Option.some.injEq];rfl);kernel_rfl)
 ·exact (lw_Slots c m (by omega) _ _)
 rintro v H2 n2 t;have nno:∀ x,¬ ob CV.nils x:=fun x ⟨_,_,_,e⟩=>by cases e
 have g0:=t.fr nx (by omega) (nno _);have g1:=t.fr (nx+1) (by omega) (nno _);have g2:=t.fr (nx+1+1) (by omega) (nno _);simp [upd] at g0 g1 g2;have hle:=t.le;refine⟨hle,fun x hx1 hx2 hx3=>by rw [t.fr x (by simp at hx2;omega) (nno _)];exact hx3,fun _=>⟨g0,g1⟩,?_⟩;have hv1:v.one=true:=by rcases t.own.oneC with rfl | ⟨b,rfl⟩ <;> rfl
 have hv2:v.cs=some [v]:=by rcases t.own.oneC with rfl | ⟨b,rfl⟩ <;> rfl
 simp only [CV.one] at hv1;simp only [CV.cs] at hv2;have hlv:∀ H',lenA Tryz.prog H' 35 v=some (.int .i64 (slotsB c m).length):=t.own.len ti_Flds;have hlp:∀ H',lenA Tryz.prog H' 35 (.lst (m.params.map cvF))=some (.int .i64 m.params.length):=fun H'=>len_lstF' _
 repeat (first | apply ASx.stepG;(focus (first | rfl | (simp [*];done)));(focus simp [*,-Option.some.injEq];rfl);(focus (first | exact Fits.pure rfl | (refine Fits.look rfl fun H2 hS2=>?_;simp [hS2, *];done) | (refine Fits.look rfl fun H2 hS2=>?_;simp [hS2, *,-Option.some.injEq];rfl) | (refine Fits.eff rfl fun hS2=>?_;simp [*];done))) | apply ASx.pass;(focus simp [*];done) | refine ASx.nil ?_;(try simp only [Xx,Xy,reduceIte,Nat.reduceEqDiff]))
 refine gW ?_;have hps:m.params.length≤lim:=by omega
 refine AWp.cutO [8] 11 (fun e H' n'=>e 8=.int .i64 ((m.params.length+if m.static then 0 else 1:Nat):Int)∧FnS h (nx+1+1+1+5) nx (.cells [.str m.name,.bool m.static,.lst (m.params.map cvF),.str m.result,.lst (m.body.map cvS)]) (.cells [.str [],.str [],.bool false,.int .i64 0,.nils,.str [],.nils]) ⟨v,.nils,.nils,.nils⟩ (zBl (slotsB c m)) H' n') ?_ ?_
 ·have hbs:=bd_start (h:=h) (X:=nx+1+1+1+5) t.own (by omega) (fun x hx=>by
   rcases t.ob x hx with h5 | h5
   ·exact (nno _ h5).elim
   ·omega) rfl
  have hfs:FnS h (nx+1+1+1+5) nx (.cells [.str m.name,.bool m.static,.lst (m.params.map cvF),.str m.result,.lst (m.body.map cvS)]) (.cells [.str [],.str [],.bool false,.int .i64 0,.nils,.str [],.nils]) ⟨v,.nils,.nils,.nils⟩ (zBl (slotsB c m)) (upd H2 (nx+1+1+1+5) (.cells (bdC h (nx+1+1+1+5) ⟨v,.nils,.nils,.nils⟩ (zBl (slotsB c m))))) n2:=by
   refine⟨hbs,fun x hx=>?_,by rw [upd_miss _ _ _ _ (by omega)];exact g1,by rw [upd_miss _ _ _ _ (by omega)];exact g2,by omega⟩;rcases hx with h1 | h1 | h1 | h1 | h1
   ·omega
   ·rcases t.ob x h1 with h5 | h5
    ·exact (nno _ h5).elim
    ·omega
   ·exact (nno _ h1).elim
   ·exact (nno _ h1).elim
   ·exact (nno _ h1).elim
  cases hst:m.static with
  | true =>
    rw [hst] at hfs;simp only [if_true,Nat.add_zero];refine gW ?_;exact⟨by ((repeat (first | exact Keeps.base _ _ _ _ | (with_reducible exact Keeps.refl _ _ _) | (refine Keeps.put rfl ?_) | (refine Keeps.over' rfl rfl ?_)))),(by first | (simp (disch:=omega) [putE,over,ofV,ofS, *];done) | (simp (disch:=omega) [putE,over,ofV,ofS, *];rfl)),hfs⟩
  | false =>
    rw [hst] at hfs;have hw:IntKind.i64.wrap ((m.params.length:Int)+1)=((m.params.length+1:Nat):Int):=by
     rw [IntKind.wrap_i64];simp only [lim] at hps;omega
    simp only [Bool.false_eq_true,if_false];generalize m.params.length+1=k1 at *;refine gW ?_;exact⟨by ((repeat (first | exact Keeps.base _ _ _ _ | (with_reducible exact Keeps.refl _ _ _) | (refine Keeps.put rfl ?_) | (refine Keeps.over' rfl rfl ?_)))),(by first | (simp (disch:=omega) [putE,over,ofV,ofS, *];done) | (simp (disch:=omega) [putE,over,ofV,ofS, *];rfl)),hfs⟩
 clear hle hv1 hv2 hlv hlp g0 g1 g2 t;rintro v8 H3 n3 hn3 ⟨h8,f0⟩;obtain⟨N,hN⟩:∃ N,(m.params.length+if m.static then 0 else 1)=N:=⟨_,rfl⟩;rw [hN] at h8;have hNl:N≤lim:=by
  have:(if m.static then 0 else 1)≤1:=by split <;> omega
  omega
 have hdb:decB0 c m=decN N (zBl (slotsB c m)):=by rw [← hN];rfl
 have hok0:OkS (decB0 c m) (4*stsSz m.body+3):=decB0_ok (by omega);obtain⟨C1,hC1⟩:∃ C,C=CB.cells [.str m.name,.bool m.static,.lst (m.params.map cvF),.str m.result,.lst (m.body.map cvS)]:=⟨_,rfl⟩;obtain⟨C2,hC2⟩:∃ C,C=CB.cells [.str [],.str [],.bool false,.int .i64 0,.nils,.str [],.nils]:=⟨_,rfl⟩;rw [← hC1,← hC2] at f0;refine gW ?_;refine AWp.countO N [54] 55 (fun i e H1 n1=>e 54=.int .i64 i∧∃ zi,FnS h (nx+1+1+1+5) nx C1 C2 zi (decN i (zBl (slotsB c m))) H1 n1) ⟨(by first | (simp (disch:=omega) [putE,over,ofV,ofS, *];done) | (simp (disch:=omega) [putE,over,ofV,ofS, *];rfl)),_,f0⟩ ?_;clear f0;rintro i v1 H1 n1 hi hn1 ⟨h54,zi,fi⟩;refine gW ?_
 (((apply AWp.cond');(focus (simp [*,-Ax.CV.bool.injEq];rfl))) <;> (intro hb) <;> (try simp only [decide_eq_true_eq,decide_eq_false_iff_not,Bool.not_eq_true',Bool.not_eq_false',Bool.not_eq_true,Bool.not_eq_false] at hb))
 ·have hlt:i<N:=hb;have hwi:=lim_wrap hlt hNl;clear hb;obtain⟨d1,d2,d3,d4,d5,d6⟩:=decN_sz i (slotsB c m);have hcall:=lw_declare fi.bd (by rw [d2];omega) (by rw [d1];omega);rw [← decN_snoc] at hcall;refine gW ?_
  ((apply AOpl.callD);(focus rfl);(focus (first | rfl | (simp [*];done)));(focus simp [*,-Option.some.injEq];rfl);kernel_rfl)
  ·exact hcall
  rintro vv H4 n4 ⟨rfl,p⟩;obtain⟨z4,f4⟩:=fi.call p;clear hcall;refine gW ?_;exact⟨by ((repeat (first | exact Keeps.base _ _ _ _ | (with_reducible exact Keeps.refl _ _ _) | (refine Keeps.put rfl ?_) | (refine Keeps.over' rfl rfl ?_)))),hlt,(by first | (simp (disch:=omega) [putE,over,ofV,ofS, *];done) | (simp (disch:=omega) [putE,over,ofV,ofS, *];rfl)),z4,f4⟩
 have hi':i=N:=by omega
 rw [hi',← hdb] at fi;clear hb;have e1:=fi.c1;rw [hC1] at e1;have hblk:=lw_blockAll m.body _ _ _ _ _ _ u fi.bd hx0 hbl hpre (hok0.le (by omega));refine gW ?_
 ((apply AOpl.callD);(focus rfl);(focus (first | rfl | (simp [*];done)));(focus simp [*,-Option.some.injEq];rfl);kernel_rfl)
 ·exact hblk
 rintro vv H4 n4 ⟨rfl,p⟩;obtain⟨z4,f4⟩:=fi.call p;have g4:=(blB_gr h m.body (decB0 c m)).trans (GrS.cut _ (decB0 c m).scope.length);have hend:=lw_end f4.bd m.result (hok0.grow g4 (by omega) (by have:=stsSz_len m.body;omega));have e4:=f4.c1;rw [hC1] at e4;clear hblk e1 fi p;refine gW ?_
 ((apply AOpl.callD);(focus rfl);(focus (first | rfl | (simp [*];done)));(focus simp [*,-Option.some.injEq];rfl);kernel_rfl)
 ·exact hend
 rintro vv H5 n5 ⟨rfl,p⟩;obtain⟨z5,f5⟩:=f4.call (b2:=bodB h c m) p;have e5:=f5.c1;rw [hC1] at e5;have hcl:(bodB h c m).code.length≤lim:=by
  have h1:=(g4.trans (endB_gr _ m.result)).c;have h2:=hok0.c;have h3:(bodB h c m).code.length=(endB (cutB (blB h (decB0 c m) m.body) (decB0 c m).scope.length) m.result).code.length:=rfl;omega
 clear hend f4 e4 p;obtain⟨bE,hbE⟩:∃ bE,bodB h c m=bE:=⟨_,rfl⟩;rw [hbE] at f5 hci hcl;have hX5:H5 (nx+1+1+1+5)=some (.cells ([.lst (h.map cvD),z5.v,z5.c,.int .i64 bE.slots,.int .i64 bE.next,z5.s,.int .i64 bE.handler,z5.t]++knd (nx+1+1+1+5))):=f5.bd.blk;simp only [knd,List.cons_append,List.nil_append] at hX5;have hlc:∀ H',lenA Tryz.prog H' 44 z5.c=some (.int .i64 bE.code.length):=f5.bd.c.len ti_Ins;refine gW ?_;refine AWp.countO bE.code.length [9,10,72] 73 (fun i e H1 n1=>e 72=.int .i64 i∧FnS h (nx+1+1+1+5) nx C1 C2 z5 { bE with code:=patC bE.handlers bE.code i } H1 n1) ⟨(by first | (simp (disch:=omega) [putE,over,ofV,ofS, *];done) | (simp (disch:=omega) [putE,over,ofV,ofS, *];rfl)),by rw [patC_0];exact f5⟩ ?_;clear f5 e5 hX5 hlc;rintro i v6 H6 n6 hi6 hn6 ⟨h72,f6⟩;have e6:=f6.c1;rw [hC1] at e6;have hX6:H6 (nx+1+1+1+5)=some (.cells ([.lst (h.map cvD),z5.v,z5.c,.int .i64 bE.slots,.int .i64 bE.next,z5.s,.int .i64 bE.handler,z5.t]++knd (nx+1+1+1+5))):=f6.bd.blk;simp only [knd,List.cons_append,List.nil_append] at hX6;refine gW ?_
 (((apply AWp.cond');(focus (simp [*,-Ax.CV.bool.injEq];rfl))) <;> (intro hb) <;> (try simp only [decide_eq_true_eq,decide_eq_false_iff_not,Bool.not_eq_true',Bool.not_eq_false',Bool.not_eq_true,Bool.not_eq_false] at hb))
 ·have hlt:i<bE.code.length:=hb;have hwi:=lim_wrap hlt hcl;clear hb;have hpl:i<(patC bE.handlers bE.code i).length:=by rw [patC_len];exact hlt
  obtain⟨cb,rest,hzc,hcb,hcl6⟩:=f6.bd.c.pos (i:=i) hpl;have hcb':H6 cb=some (.cells ((patC bE.handlers bE.code i).flatMap cvJ++rest)):=hcb;rw [show (({ bE with code:=patC bE.handlers bE.code i }:Bl).code.length)=bE.code.length from patC_len _ _ _] at hzc;rw [hzc] at hX6;have hro:=row_get cvJ_len rest (patC bE.handlers bE.code i) i 9 hpl (by omega);rw [patC_get _ _ hlt] at hro;have hro':((patC bE.handlers bE.code i).flatMap cvJ++rest)[i*10+9]?=some (.int .i64 bE.code[i].han):=hro;have hcX:=f6.bd.nX cb (.inr (.inl ⟨_,_,_,hzc⟩));clear hro hcb;rcases ci_han hci hlt with hn | ⟨o,ho,hol⟩
  ·rw [hn] at hro';rw [patC_keep _ _ hlt hn] at f6;refine gW ?_;exact⟨by ((repeat (first | exact Keeps.base _ _ _ _ | (with_reducible exact Keeps.refl _ _ _) | (refine Keeps.put rfl ?_) | (refine Keeps.over' rfl rfl ?_)))),hlt,(by first | (simp (disch:=omega) [putE,over,ofV,ofS, *];done) | (simp (disch:=omega) [putE,over,ofV,ofS, *];rfl)),f6.up (by omega) fun x hx=>rfl⟩
  ·have hge:(0:Int)≤bE.code[i].han:=by omega
   rw [ho] at hro';obtain⟨tb,rest2,hzt,htb,htl⟩:=f6.bd.t.pos (i:=o) hol;have htb':H6 tb=some (.cells (bE.handlers.flatMap cvW++rest2)):=htb;rw [show (({ bE with code:=patC bE.handlers bE.code i }:Bl).handlers.length)=bE.handlers.length from rfl] at hzt;rw [hzt] at hX6;have hto:=row_get cvW_len rest2 bE.handlers o 0 hol (by omega);simp only [Nat.mul_one,Nat.add_zero] at hto;have hto':(bE.handlers.flatMap cvW++rest2)[o]?=some (.int .i64 (bE.handlers[o]:Nat)):=hto;clear hto htb;refine gW ?_;have hrs:=row_set cvJ_len rest (patC bE.handlers bE.code i) i 9 hpl (by omega) (patB bE.handlers bE.code[i]) (.int .i64 (bE.handlers[o]:Nat)) (by rw [patC_get _ _ hlt];exact patB_row ho hol);have hst:=store_int (P:=Tryz.prog) (k:=.i64) (n:=(bE.handlers[o]:Nat)) ti_int hcb' hrs.2;rw [hrs.1,patC_set _ _ hlt] at hst;have f7:=f6.setC (rest:=rest) (show z5.c=.sl cb 0 (patC bE.handlers bE.code i).length 10 by rw [patC_len];exact hzc) i (patB bE.handlers bE.code[i]);rw [show ({ bE with code:=patC bE.handlers bE.code i }:Bl).code=patC bE.handlers bE.code i from rfl,patC_set _ _ hlt] at f7;have hcN:n6≤n6+15:=Nat.le_add_right _ _
   ((apply Xj);(focus (simp [hst,hcb',-storeA,-Option.some.injEq];rfl)))
   clear hst hrs hro' hto' hcb' htb' hX6 e6;refine gW ?_;exact⟨by ((repeat (first | exact Keeps.base _ _ _ _ | (with_reducible exact Keeps.refl _ _ _) | (refine Keeps.put rfl ?_) | (refine Keeps.over' rfl rfl ?_)))),hlt,(by first | (simp (disch:=omega) [putE,over,ofV,ofS, *];done) | (simp (disch:=omega) [putE,over,ofV,ofS, *];rfl)),f7.up (by omega) fun x hx=>rfl⟩
 have hi':i=bE.code.length:=by omega
 subst hi';rw [patC_all] at f6;clear hb hX6;have hX6:H6 (nx+1+1+1+5)=some (.cells ([.lst (h.map cvD),z5.v]++z5.c::([.int .i64 bE.slots,.int .i64 bE.next,z5.s,.int .i64 bE.handler,z5.t]++knd (nx+1+1+1+5)))):=f6.bd.blk;refine AWp.own2lstR cvJ_len [.lst (h.map cvD),z5.v] _ f6.bd.c hX6 (fun ho=>f6.bd.nX _ (.inr (.inl ho)) rfl) ?_;intro H7 hX7 hf7;have lo:∀ x,x<nx+1+1+1→¬ ob z5.c x∧¬ ob z5.v x∧x≠nx+1+1+1+5:=fun x hx=>⟨fun ho=>by have:=f6.ob x (.inr (.inr (.inl ho)));omega,fun ho=>by have:=f6.ob x (.inr (.inl ho));omega,by omega⟩
 have hv7:=f6.bd.v.keep' (H':=H7) (Nat.le_refl _) fun x hx=>hf7 x (f6.bd.vc x hx) (f6.bd.nX x (.inl hx))
 refine AWp.own2lstR cvF_len [.lst (h.map cvD)] _ hv7 hX7 (fun ho=>f6.bd.nX _ (.inl ho) rfl) ?_;intro H8 hX8 hf8;have e8:H8 (nx+1)=_:=(hf8 _ (lo _ (by omega)).2.1 (lo _ (by omega)).2.2).trans ((hf7 _ (lo _ (by omega)).1 (lo _ (by omega)).2.2).trans f6.c1);have g8:H8 (nx+1+1)=_:=(hf8 _ (lo _ (by omega)).2.1 (lo _ (by omega)).2.2).trans ((hf7 _ (lo _ (by omega)).1 (lo _ (by omega)).2.2).trans f6.c2);simp only [knd,List.cons_append,List.nil_append] at hX8;rw [hC1] at e8;rw [hC2] at g8;have hfu:funB h c m=⟨c,m.name,m.static,N,bE.vars,m.result,bE.code.map (patB bE.handlers)⟩:=by rw [← hbE,← hN];rfl
 clear hf7 hf8 hv7 hX7 hX6 lo f6 e6 hci;generalize bE.code.map (patB bE.handlers)=CC at *;refine gW ?_
 (refine⟨_,(by simp [*];rfl),?_⟩;(try simp only [packA]))
 rw [hfu];rfl
end
end
section
open Lx Ax Go.RowKit
attribute [local simp] stepS Ax.stepT Dl.on qstep astep estep rd putE over argE ofV ofS loadA pickCells isAggD faddA fieldA partA iaddA idxA sliA bnd binA intA strA unA convA bltA lenA mapOf findK keyD scalD storeA appA srcA srcD upd drp Dl.hp Dl.nx CV.cs CV.one buildA placesA fillA zrep tasA ifaceD eqA eqFs eqIs range2 copyA nbeq nble nblt decEq beqI bneI beqS bneS isED Int.ofNat_inj List.getElem?_map List.getElem?_eq_getElem Option.map_some ti_int ti_bool ti_str ti_i64 ti_Strs ti_Flds ti_Fld ti_Cds ti_Cd ti_Sgs ti_Sg ti_Hi ti_Exs ti_Ex ti_Sts ti_St ti_Chk ti_Flt ti_Errno ti_Me ti_Mes gd gdB callA resA op1
attribute [local simp] nu1 nu2 nu3 nu4 nu5 nu6 nu7 nu8 nu9 nu10 nu11 nu12 nu13 upd_upd
def mainP (g:Sg):Bool:=g.name == mainB && g.static && decide (g.params.length=0) && g.result == []
set_option maxRecDepth 10000 in
set_option maxHeartbeats 4000000 in
theorem ixc_P (g:Sg):FCall1 Tryz.prog tkG 40 [.agg (cvG g)] (.bool (mainP g)):=by
 refine FCall.one tkG_pu (by simp [puL,puV,puG]) rfl ?_;refine FCall.ofBody Tryz.func40 rfl rfl fun nx=>?_
 obtain⟨w,hw⟩:∃ w,mainP g=w:=⟨_,rfl⟩;rw [hw];unfold mainP mainB at hw
 by_cases h1:g.name=[109,97,105,110]
 case neg =>
  have hb:(g.name == [109,97,105,110])=false:=by simpa using h1
  rw [hb] at hw;simp only [Bool.false_and] at hw;rw [← hw];clear hw hb;refine gWf cvG.eq_1 ?_
  (refine⟨_,(by simp [*];rfl),?_⟩;(try simp only [packA]))
 have hb:(g.name == [109,97,105,110])=true:=by simpa using h1
 rw [hb,Bool.true_and] at hw;clear hb;cases h2:g.static with
 | false =>
   rw [h2] at hw;simp only [Bool.false_and] at hw;rw [← hw];clear hw;refine gWf cvG.eq_1 ?_
   (refine⟨_,(by simp [*];rfl),?_⟩;(try simp only [packA]))
 | true =>
 rw [h2,Bool.true_and] at hw
 by_cases h3:g.params=[]
 case neg =>
  have hb:decide (g.params.length=0)=false:=decide_eq_false (fun e=>h3 (List.length_eq_zero_iff.mp e));rw [hb,Bool.false_and] at hw;rw [← hw];clear hw hb;refine gWf cvG.eq_1 ?_
  (refine⟨_,(by simp [*];rfl),?_⟩;(try simp only [packA]))
 have hb:decide (g.params.length=0)=true:=decide_eq_true (by rw [h3];rfl);rw [hb,Bool.true_and] at hw;clear hb
 by_cases h4:g.result=[]
 case neg =>
  have hb:(g.result == [])=false:=by simpa using h4
  rw [hb] at hw;rw [← hw];clear hw hb;refine gWf cvG.eq_1 ?_
  (refine⟨_,(by simp [*];rfl),?_⟩;(try simp only [packA]))
 have hb:(g.result == [])=true:=by simpa using h4
 rw [hb] at hw;rw [← hw];clear hw hb;refine gWf cvG.eq_1 ?_
 (refine⟨_,(by simp [*];rfl),?_⟩;(try simp only [packA]))
set_option maxRecDepth 10000 in
set_option maxHeartbeats 8000000 in
theorem ix_P (l:List Sg)(hl:l.length≤lim) :
  FCall1 Tryz.prog tkG 65 [.lst (l.map cvG),.fn (.func 40) [] []] (.int .i64 (ofN (l.findIdx? mainP))):=by
 refine FCall.one tkG_pu (by simp [puL,puV,puRm puG]) rfl ?_;refine FCall.ofBody Tryz.func65 rfl rfl fun nx=>?_
 refine gW ?_;refine AWp.countO l.length [4,5,8] 9 (fun i e H1 _=>e 8=.int .i64 i∧(l.take i).any mainP=false) ⟨(by first | (simp (disch:=omega) [putE,over,ofV,ofS, *];done) | (simp (disch:=omega) [putE,over,ofV,ofS, *];rfl)),rfl⟩ ?_;rintro i v H1 nx1 hi hn1 ⟨h8,ha⟩;refine gW ?_
 (((apply AWp.cond');(focus (simp [*,-Ax.CV.bool.injEq];rfl))) <;> (intro hb) <;> (try simp only [decide_eq_true_eq,decide_eq_false_iff_not,Bool.not_eq_true',Bool.not_eq_false',Bool.not_eq_true,Bool.not_eq_false] at hb))
 ·have hlt:i<l.length:=hb;have hwi:=lim_wrap hlt hl;clear hb;have hx:=ixc_P l[i];cases hc:mainP l[i] with
  | true =>
    have hf2:=idx_hit hlt ha hc;rw [hc] at hx;clear hc ha;refine gW ?_
    ((apply Xr);(focus rfl);(focus (first | rfl | (simp [*];done)));(focus simp [*,-Option.some.injEq];rfl);kernel_rfl)
    ·exact hx _
    refine gW ?_
    (refine⟨_,(by simp [*];rfl),?_⟩;(try simp only [packA]))
    all_goals (first | (rw [hf2];done) | (rw [hf2];rfl))
  | false =>
    have ha2:=any_next hlt ha hc;rw [hc] at hx;clear hc ha;refine gW ?_
    ((apply Xr);(focus rfl);(focus (first | rfl | (simp [*];done)));(focus simp [*,-Option.some.injEq];rfl);kernel_rfl)
    ·exact hx _
    refine gW ?_;exact⟨by ((repeat (first | exact Keeps.base _ _ _ _ | (with_reducible exact Keeps.refl _ _ _) | (refine Keeps.put rfl ?_) | (refine Keeps.over' rfl rfl ?_)))),hlt,(by first | (simp (disch:=omega) [putE,over,ofV,ofS, *];done) | (simp (disch:=omega) [putE,over,ofV,ofS, *];rfl)),ha2⟩
 ·have hi':i=l.length:=by omega
  rw [hi',List.take_length] at ha;have hf2:=idx_no ha;clear ha hb;refine gW ?_
  (refine⟨_,(by simp [*];rfl),?_⟩;(try simp only [packA]))
  all_goals (first | (rw [hf2];done) | (rw [hf2];rfl))
theorem any_ix {α:Type}(p:α→Bool)(l:List α):decide (0≤ofN (l.findIdx? p))=l.any p:=by
 cases h:l.findIdx? p with
 | none =>
   have:l.any p=false:=by
    rw [List.any_eq_false];intro x hx;rw [List.findIdx?_eq_none_iff] at h;have:=h x hx;simp [this]
   rw [this];rfl
 | some i =>
   obtain⟨h1,h2,_⟩:=List.findIdx?_eq_some_iff_getElem.mp h;have:l.any p=true:=List.any_eq_true.mpr ⟨_,List.getElem_mem h1,h2⟩;rw [this];simp [ofN]
set_option maxRecDepth 10000 in
set_option maxHeartbeats 4000000 in
theorem tk_contains (l:List Sg)(hl:l.length≤lim):FCall1 Tryz.prog tkG 39 [.lst (l.map cvG),.fn (.func 40) [] []] (.bool (l.any mainP)):=by
 refine FCall.one tkG_pu (by simp [puL,puV,puRm puG]) rfl ?_;refine FCall.ofBody Tryz.func39 rfl rfl fun nx=>?_
 have hx:=ix_P l hl;rw [← any_ix];generalize ofN (l.findIdx? mainP)=z at *;refine gW ?_
 ((apply Xr);(focus rfl);(focus (first | rfl | (simp [*];done)));(focus simp [*,-Option.some.injEq];rfl);kernel_rfl)
 ·exact hx _
 refine gW ?_
 (refine⟨_,(by simp [*];rfl),?_⟩;(try simp only [packA]))
set_option maxRecDepth 10000 in
set_option maxHeartbeats 4000000 in
theorem tk_hasMain (h:List Cd)(hB:HB h):FCall1 Tryz.prog tkG 20 [cvH h] (.bool (hasMain h)):=by
 refine FCall.one tkG_pu (by simp [puL,puH]) rfl ?_;refine FCall.ofBody Tryz.func20 rfl rfl fun nx=>?_
 have hf:=tk_Find h hB.len MainB;obtain⟨w,hw⟩:∃ w,hasMain h=w:=⟨_,rfl⟩;rw [hw];unfold hasMain at hw;cases hi:findN h MainB with
 | none =>
   have hv:findI h MainB=-1:=by simp only [findI,hi]
   rw [hi] at hw;simp only at hw;rw [hv] at hf;rw [← hw];clear hw hi hv;simp only [MainB] at hf;refine gWf cvH.eq_1 ?_
   ((apply Xr);(focus rfl);(focus (first | rfl | (simp [cvH, *];done)));(focus simp [cvH, *,-Option.some.injEq];rfl);kernel_rfl)
   ·exact hf _
   refine gW ?_
   (refine⟨_,(by simp [*];rfl),?_⟩;(try simp only [packA]))
 | some i =>
   obtain⟨hil,_⟩:=findN_lt hi;have hv:findI h MainB=(i:Int):=by simp only [findI,hi]
   have hx:=tk_contains h[i].methods (hB.ml _ (List.getElem_mem hil));rw [hi] at hw;simp only [List.getElem?_eq_getElem hil] at hw;have hw':h[i].methods.any mainP=w:=hw;rw [hw'] at hx;rw [hv] at hf;clear hw hi hv hw';simp only [MainB] at hf;refine gWf cvH.eq_1 ?_
   ((apply Xr);(focus rfl);(focus (first | rfl | (simp [cvH, *];done)));(focus simp [cvH, *,-Option.some.injEq];rfl);kernel_rfl)
   ·exact hf _
   refine gWf cvD.eq_1 ?_
   ((apply Xr);(focus rfl);(focus (first | rfl | (simp [cvD, *];done)));(focus simp [cvD, *,-Option.some.injEq];rfl);kernel_rfl)
   ·exact hx _
   cases w
   ·refine gW ?_
    (refine⟨_,(by simp [*];rfl),?_⟩;(try simp only [packA]))
   ·refine gW ?_
    (refine⟨_,(by simp [*];rfl),?_⟩;(try simp only [packA]))
end
section
open Lx Ax Go.RowKit
attribute [local simp] stepS Ax.stepT Dl.on qstep astep estep rd putE over argE ofV ofS loadA pickCells isAggD faddA fieldA partA iaddA idxA sliA bnd binA intA strA unA convA bltA lenA mapOf findK keyD scalD storeA appA srcA srcD upd drp Dl.hp Dl.nx CV.cs CV.one buildA placesA fillA zrep tasA ifaceD eqA eqFs eqIs range2 copyA nbeq nble nblt decEq beqI bneI beqS bneS isED Int.ofNat_inj List.getElem?_map List.getElem?_eq_getElem Option.map_some ti_int ti_bool ti_str ti_i64 ti_Strs ti_Flds ti_Fld ti_Cds ti_Cd ti_Sgs ti_Sg ti_Hi ti_Exs ti_Ex ti_Sts ti_St ti_Chk ti_Flt ti_Errno ti_Me ti_Mes gd gdB callA resA op1
attribute [local simp] nu1 nu2 nu3 nu4 nu5 nu6 nu7 nu8 nu9 nu10 nu11 nu12 nu13 upd_upd
section
variable (h:List Cd)
set_option maxRecDepth 10000 in
set_option maxHeartbeats 4000000 in
theorem tk_clo (hc:HC h)(cls res:Bytes)(B:Nat)(m:Me)(hnm:NmSs m.body)(H:Heap)(nx:Nat)(c:CV)(sc:List Fld)(a:Int)(hlen:sc.length+stsSz m.body≤lim)(hi:CkI h cls res B H nx c sc a)(X Y:Nat)(hX:H X=some (.cells [.ptr B 0]))(hY:H Y=some (.cells [.str m.name,.bool m.static,.lst (m.params.map cvF),.str m.result,.lst (m.body.map cvS)])) :
  ACall Tryz.prog tkG 46 [.ptr X 0,.ptr Y 0] H nx (StQ h cls res B H nx c (blQ (blT h cls res sc m.body) sc)):=by
 refine ACall.of_body Tryz.func46 rfl ?_;have hbl:=tk_blockAll h cls res B hc m.body hnm H nx c sc a hlen hi;refine gW ?_
 ((apply AOpl.callG);(focus rfl);(focus (first | rfl | (simp [*];done)));(focus simp [*,-Option.some.injEq];rfl);kernel_rfl)
 refine hbl.mono ?_;rintro r H2 nx2 hq;cases hbt:blT h cls res sc m.body with
 | error x =>
   rw [hbt] at hq;obtain⟨rfl,sc',c',a',P3⟩:=hq;exact⟨rfl,sc',c',a',P3⟩
 | ok u =>
   rw [hbt] at hq;obtain⟨rfl,c',a',P3⟩:=hq;simp only;clear hbl hbt hX hY;refine gW ?_
   (refine⟨_,(by simp [*];rfl),?_⟩;(try simp only [packA]))
   exact⟨rfl,c',a',P3⟩
def blE (t:Tk Unit):Nat:=match t with
 | .error e=>e
 | .ok _=>0
theorem tk_run (hc:HC h)(cls res:Bytes)(B:Nat)(m:Me)(hnm:NmSs m.body)(H:Heap)(nx:Nat)(c:CV)(sc:List Fld)(a:Int)(hlen:sc.length+stsSz m.body≤lim)(hi:CkI h cls res B H nx c sc a)(X Y:Nat)(hX:H X=some (.cells [.ptr B 0]))(hY:H Y=some (.cells [.str m.name,.bool m.static,.lst (m.params.map cvF),.str m.result,.lst (m.body.map cvS)]))(p:CV) :
  ACall Tryz.prog tkG 45 [p,.fn (.func 46) [] [.ptr X 0,.ptr Y 0]] H nx fun r H' nx'=>r=.ret (.int .i64 (blE (blT h cls res sc m.body):Nat))∧∃ sc' c' a',CkP h cls res B H nx c sc' H' nx' c' a':=by
 refine tc_run (by kernel_rfl) ((tk_clo h hc cls res B m hnm H nx c sc a hlen hi X Y hX hY).mono ?_);intro r H' nx' hq;cases hbt:blT h cls res sc m.body with
 | error x =>
   rw [hbt] at hq;obtain⟨rfl,sc',c',a',P3⟩:=hq;exact⟨x,rfl,rfl,sc',c',a',P3⟩
 | ok u =>
   rw [hbt] at hq;obtain⟨rfl,c',a',P3⟩:=hq;exact⟨rfl,sc,c',a',P3⟩
theorem stsDepth_le {l:List St}{n:Nat}(h:∀ s∈l,stDepth s≤n):stsDepth l≤n:=by
 induction l with
 | nil=>simp [stsDepth]
 | cons a l ih =>
   have h1:=h a (by simp);have h2:=ih fun s hs=>h s (by simp [hs])
   rw [stsDepth];omega
theorem stsDepth_mem {l:List St}{s:St}(h:s∈l):stDepth s≤stsDepth l:=by
 induction l with
 | nil=>cases h
 | cons a l ih =>
   rw [stsDepth];rcases List.mem_cons.mp h with rfl | h
   ·omega
   ·have:=ih h;omega
set_option maxRecDepth 10000 in
set_option maxHeartbeats 16000000 in
theorem tk_meth (hc:HC h)(c0:Bytes)(m:Me)(hnm:NmSs m.body)(hpn:∀ f∈m.params,f.name.length≤maxLen)(hlm:m.params.length+stsSz m.body≤lim) :
  FCall Tryz.prog tkG 21 [cvH h,.str c0,.agg (cvM m)] fun r=>∃ k:Int,r=.ret (.tup [.int .i64 k,.int .i64 (methE h c0 m:Nat)]):=by
 refine FCall.ofBody Tryz.func21 rfl rfl fun nx=>?_
 have hbl:m.body.length≤lim:=by have:=stsSz_len m.body;omega
 have hcnt:=tk_count lim m.body (by omega) (by omega);have hdep:=fun s (hs:stSz s≤lim)=>tk_stDepth lim s hs hs
 have hret:=tk_Returns lim m.body (by omega) (by omega);obtain⟨w,hw⟩:∃ w,methE h c0 m=w:=⟨_,rfl⟩;rw [hw];unfold methE at hw;refine gWf (And.intro cvM.eq_1 cvH.eq_1) ?_
 ((apply Xr);(focus rfl);(focus (first | rfl | (simp [*];done)));(focus simp [*,-Option.some.injEq];rfl);kernel_rfl)
 ·exact hcnt _
 clear hcnt
 by_cases h1:200<stsCount m.body
 ·rw [if_pos h1] at hw;rw [← hw];clear hw;have h1':(200:Int)<stsCount m.body:=by omega
  refine gW ?_
  (refine⟨_,(by simp [*];rfl),?_⟩;(try simp only [packA]))
  exact⟨_,rfl⟩
 rw [if_neg h1] at hw;have h1':¬ (200:Int)<stsCount m.body:=by omega
 refine gW ?_;clear h1 h1';refine AWp.countO m.body.length [6,7,9,21] 22 (fun i e H1 nx1=>e 21=.int .i64 i∧H1 nx=some (.cells [.lst (h.map cvD)])∧H1 (nx+1)=some (.cells [.str m.name,.bool m.static,.lst (m.params.map cvF),.str m.result,.lst (m.body.map cvS)])∧∀ s∈m.body.take i,stDepth s≤32) ⟨(by first | (simp (disch:=omega) [putE,over,ofV,ofS, *];done) | (simp (disch:=omega) [putE,over,ofV,ofS, *];rfl)),by simp [upd],by simp [upd],by simp⟩ ?_;rintro i v H1 nx1 hi hn1 ⟨h21,hA,hY,hd⟩;have q1:=far (show nx<nx1 by omega);have q2:=far (show nx+1<nx1 by omega);refine gW ?_
 (((apply AWp.cond');(focus (simp [*,-Ax.CV.bool.injEq];rfl))) <;> (intro hb) <;> (try simp only [decide_eq_true_eq,decide_eq_false_iff_not,Bool.not_eq_true',Bool.not_eq_false',Bool.not_eq_true,Bool.not_eq_false] at hb))
 ·have hlt:i<m.body.length:=hb;have hwi:=lim_wrap hlt hbl;clear hb;have hx:=hdep m.body[i] (by have:=stsSz_mem (List.getElem_mem hlt);omega);have hmem:=stsDepth_mem (List.getElem_mem hlt);have htk:=take_snoc hlt;generalize hse:m.body[i]=s at *;rw [cvS_eq s] at hx;clear hdep hret
  by_cases h2:32<stDepth s
  ·rw [if_pos (by omega)] at hw;rw [← hw];clear hw hmem hd htk;have h2':(32:Int)<stDepth s:=by omega
   refine gWf (cvS_eq s) ?_
   ((apply Xr);(focus rfl);(focus (first | rfl | (simp [cvS_eq s, *];done)));(focus simp [cvS_eq s, *,-Option.some.injEq];rfl);kernel_rfl)
   ·exact hx _
   refine gW ?_
   (refine⟨_,(by simp [*];rfl),?_⟩;(try simp only [packA]))
   exact⟨_,rfl⟩
  ·have h2':¬ (32:Int)<stDepth s:=by omega
   have hd2:∀ x∈m.body.take (i+1),stDepth x≤32:=by
    rw [htk];intro x hx;rcases List.mem_append.mp hx with hx | hx
    ·exact hd x hx
    ·simp only [List.mem_singleton] at hx;subst hx;omega
   clear hw hmem hd htk;refine gWf (cvS_eq s) ?_
   ((apply Xr);(focus rfl);(focus (first | rfl | (simp [cvS_eq s, *];done)));(focus simp [cvS_eq s, *,-Option.some.injEq];rfl);kernel_rfl)
   ·exact hx _
   refine gW ?_;exact⟨by ((repeat (first | exact Keeps.base _ _ _ _ | (with_reducible exact Keeps.refl _ _ _) | (refine Keeps.put rfl ?_) | (refine Keeps.over' rfl rfl ?_)))),hlt,(by first | (simp (disch:=omega) [putE,over,ofV,ofS, *];done) | (simp (disch:=omega) [putE,over,ofV,ofS, *];rfl)),by simp [upd, *],by simp [upd, *],hd2⟩
 have hi':i=m.body.length:=by omega
 rw [hi',List.take_length] at hd;have hd32:=stsDepth_le hd;rw [if_neg (by omega)] at hw;clear hb hi' hi h21 hd hd32 hdep;cases hst:m.static with
 | false =>
   rw [hst] at hw hY;rw [if_neg (by simp)] at hw;have hst':=hst;refine gW ?_;clear hst;obtain⟨W,hW⟩:∃ W,parT [] m.params=W:=⟨_,rfl⟩;rw [hW] at hw;refine AWp.countO m.params.length [6,7,12,43] 44 (fun i e H2 nx2=>e 43=.int .i64 i∧∃ sc c a,CkI h c0 m.result nx1 H2 nx2 c sc a∧H2 (nx1+1)=some (.cells [.ptr nx1 0])∧H2 (nx+1)=some (.cells [.str m.name,.bool false,.lst (m.params.map cvF),.str m.result,.lst (m.body.map cvS)])∧(∀ x k,c=.sl x 0 k 2→nx1+1+1≤x)∧sc.length=i∧parT sc (m.params.drop i)=W) ⟨(by first | (simp (disch:=omega) [putE,over,ofV,ofS, *];done) | (simp (disch:=omega) [putE,over,ofV,ofS, *];rfl)),[],.nils,-1,⟨by simp [upd],OwnR.nil,by omega,(fun _ h=>by cases h)⟩,by simp [upd],by simp [upd, *],(fun _ _ h=>by cases h),rfl,hW⟩ ?_;clear hW hY hA q1 q2;rintro i v2 H2 nx2 hi hn2 ⟨h43,sc,c,a,ck,hX,hY,hlow,hsl,hf⟩;have q1:=far (show nx1+1<nx2 by omega);have q2:=far (show nx+1<nx2 by omega);have q3:=far ck.lt;have hb0:=ck.blk;refine gW ?_
   (((apply AWp.cond');(focus (simp [*,-Ax.CV.bool.injEq];rfl))) <;> (intro hb) <;> (try simp only [decide_eq_true_eq,decide_eq_false_iff_not,Bool.not_eq_true',Bool.not_eq_false',Bool.not_eq_true,Bool.not_eq_false] at hb))
   ·have hlt:i<m.params.length:=hb;have hwi:=lim_wrap hlt (by omega);clear hb;rw [List.drop_eq_getElem_cons hlt,parT] at hf;have hid:=tk_ident m.params[i].name (hpn _ (List.getElem_mem hlt));have hhs:=tk_has h c0 m.result sc a (by omega) m.params[i].name;generalize hpe:m.params[i]=p at *;obtain⟨pn,pt⟩:=p;simp only at hid hhs hf;cases e1:isIdent pn with
    | false =>
      rw [if_pos e1] at hf;rw [e1] at hid;rw [← hf] at hw;simp only at hw;rw [← hw];clear hw hf e1 hret;refine gWf cvF.eq_1 ?_
      ((apply Xr);(focus rfl);(focus (first | rfl | (simp [*];done)));(focus simp [*,-Option.some.injEq];rfl);kernel_rfl)
      ·exact hid _
      refine gW ?_
      (refine⟨_,(by simp [*];rfl),?_⟩;(try simp only [packA]))
      exact⟨_,rfl⟩
    | true =>
    rw [if_neg (by rw [e1];simp)] at hf;rw [e1] at hid;clear e1;have P1:=ck.same (H1:=upd H2 nx2 (.cells [.str pn,.str pt])) (by rw [upd_miss _ _ _ _ (by omega)];exact hb0) (Nat.le_succ nx2) (fun x hx _=>upd_miss _ _ _ _ (by omega))
    by_cases e2:varF sc pn=none
    case neg =>
     rw [if_pos e2] at hf;have hsm:(varF sc pn).isSome=true:=by cases hv:varF sc pn <;> simp_all
     rw [hsm] at hhs;rw [← hf] at hw;simp only at hw;rw [← hw];clear hw hf e2 hret hsm;refine gWf cvF.eq_1 ?_
     ((apply Xr);(focus rfl);(focus (first | rfl | (simp [*];done)));(focus simp [*,-Option.some.injEq];rfl);kernel_rfl)
     ·exact hid _
     refine gW ?_
     ((apply Xr);(focus rfl);(focus (first | rfl | (simp [*];done)));(focus simp [*,-Option.some.injEq];rfl);kernel_rfl)
     ·exact FCall1.lend tkG_pu hhs (by simp [puL,puV,ckV_pu]) rfl (P1.ck.ln _)
     refine gW ?_
     (refine⟨_,(by simp [*];rfl),?_⟩;(try simp only [packA]))
     exact⟨_,rfl⟩
    rw [if_neg (by simp [e2])] at hf;rw [e2] at hhs;have hhs':FCall1 Tryz.prog tkG 44 [ckV h c0 m.result sc a,.str pn] (.bool false):=hhs;clear e2 hhs hw hret;refine gWf cvF.eq_1 ?_
    ((apply Xr);(focus rfl);(focus (first | rfl | (simp [*];done)));(focus simp [*,-Option.some.injEq];rfl);kernel_rfl)
    ·exact hid _
    refine gW ?_
    ((apply Xr);(focus rfl);(focus (first | rfl | (simp [*];done)));(focus simp [*,-Option.some.injEq];rfl);kernel_rfl)
    ·exact FCall1.lend tkG_pu hhs' (by simp [puL,puV,ckV_pu]) rfl (P1.ck.ln _)
    clear hhs' hid;refine gWr ?_;refine AWp.regTB [0] (fun b=>b=nx1+1) (by kernel_rfl) (by kernel_rfl) rfl rfl (fun b hb=>by subst hb;omega) ?_
    repeat (first | ((apply ASlK.stepG);(focus rfl);(focus (simp [*,-Option.some.injEq];rfl));(focus (first | (intro h;exact Bool.noConfusion (show false=true from h)) | (intro hk0 H1 hk1;have hk2:=hk1 _ rfl;clear hk1;simp [*] at hk2;simp [*,-Option.some.injEq];rfl) | (intro hk0 H1 hk1;have hk2:=hk1 _ rfl;simp [*] at hk2;simp [*,-Option.some.injEq];done) | (intro hk0 H1 hk1;have hk2:=hk1 _ rfl;simp [*] at hk2;simp [*,-Option.some.injEq])));(focus (first | (intro _ _;rfl) | (intro b hb;replace hb:b=_:=hb;simp [hb, *];done)))) | ((apply ASlK.stepG);(focus simp [*];done);(focus (simp [*,-Option.some.injEq];rfl));(focus (first | (intro h;exact Bool.noConfusion (show false=true from h)) | (intro hk0 H1 hk1;have hk2:=hk1 _ rfl;clear hk1;simp [*] at hk2;simp [*,-Option.some.injEq];rfl) | (intro hk0 H1 hk1;have hk2:=hk1 _ rfl;simp [*] at hk2;simp [*,-Option.some.injEq];done) | (intro hk0 H1 hk1;have hk2:=hk1 _ rfl;simp [*] at hk2;simp [*,-Option.some.injEq])));(focus (first | (intro _ _;rfl) | (intro b hb;replace hb:b=_:=hb;simp [hb, *];done)))) | ((apply ASlK.pass);(focus simp [*];done)) | ((refine ASlK.nil ?_);(try simp only [Xx,Xy,reduceIte,Nat.reduceEqDiff])))
    refine ASlK.appQ cvF_len cvF_one ti_Flds ti_Fld (⟨pn,pt⟩:Fld) (ck.own.keep (by omega) fun x hx _=>by rw [upd_miss _ _ _ _ (by omega),upd_miss _ _ _ _ (by omega)]) (by simp only [lim] at hlm;omega) (fun b hb=>by
     have hb':b=nx1+1:=hb;subst hb';exact⟨by omega,fun b' hcb e=>by have:=hlow b' _ hcb;omega⟩) ?_ (hxb:=by simp [upd,cvF])
    intro H3 hN hfr;have hb3:H3 nx1=some (.cells [.lst (h.map cvD),.str c0,.str m.result,c,.int .i64 a]):=by
     rw [hfr nx1 (by omega) (fun b' hcb e=>ck.ne _ (by rw [e];exact hcb)),upd_miss _ _ _ _ (by omega),upd_miss _ _ _ _ (by omega)];exact hb0
    have hX3:H3 (nx1+1)=some (.cells [.ptr nx1 0]):=by
     rw [hfr (nx1+1) (by omega) (fun b' hcb e=>by have:=hlow b' _ hcb;omega),upd_miss _ _ _ _ (by omega),upd_miss _ _ _ _ (by omega)];exact hX
    have hY3:H3 (nx+1)=some (.cells [.str m.name,.bool false,.lst (m.params.map cvF),.str m.result,.lst (m.body.map cvS)]):=by
     rw [hfr (nx+1) (by omega) (fun b' hcb e=>by have:=hlow b' _ hcb;omega),upd_miss _ _ _ _ (by omega),upd_miss _ _ _ _ (by omega)];exact hY
    repeat (first | ((apply ASlK.stepG);(focus rfl);(focus (simp [*,-Option.some.injEq];rfl));(focus (first | (intro h;exact Bool.noConfusion (show false=true from h)) | (intro hk0 H1 hk1;have hk2:=hk1 _ rfl;clear hk1;simp [*] at hk2;simp [*,-Option.some.injEq];rfl) | (intro hk0 H1 hk1;have hk2:=hk1 _ rfl;simp [*] at hk2;simp [*,-Option.some.injEq];done) | (intro hk0 H1 hk1;have hk2:=hk1 _ rfl;simp [*] at hk2;simp [*,-Option.some.injEq])));(focus (first | (intro _ _;rfl) | (intro b hb;replace hb:b=_:=hb;simp [hb, *];done)))) | ((apply ASlK.stepG);(focus simp [*];done);(focus (simp [*,-Option.some.injEq];rfl));(focus (first | (intro h;exact Bool.noConfusion (show false=true from h)) | (intro hk0 H1 hk1;have hk2:=hk1 _ rfl;clear hk1;simp [*] at hk2;simp [*,-Option.some.injEq];rfl) | (intro hk0 H1 hk1;have hk2:=hk1 _ rfl;simp [*] at hk2;simp [*,-Option.some.injEq];done) | (intro hk0 H1 hk1;have hk2:=hk1 _ rfl;simp [*] at hk2;simp [*,-Option.some.injEq])));(focus (first | (intro _ _;rfl) | (intro b hb;replace hb:b=_:=hb;simp [hb, *];done)))) | ((apply ASlK.pass);(focus simp [*];done)) | ((refine ASlK.nil ?_);(try simp only [Xx,Xy,reduceIte,Nat.reduceEqDiff])))
    refine gW ?_;refine⟨by ((repeat (first | exact Keeps.base _ _ _ _ | (with_reducible exact Keeps.refl _ _ _) | (refine Keeps.put rfl ?_) | (refine Keeps.over' rfl rfl ?_)))),hlt,(by first | (simp (disch:=omega) [putE,over,ofV,ofS, *];done) | (simp (disch:=omega) [putE,over,ofV,ofS, *];rfl)),sc++[⟨pn,pt⟩],_,a,⟨upd_hit _ _ _,OwnR.isN0 (by rw [upd_miss _ _ _ _ (by omega)];exact hN) (by omega) _ (by simp [hsl]),by omega,(fun k hk=>by cases hk;omega)⟩,by rw [upd_miss _ _ _ _ (by omega)];exact hX3,by rw [upd_miss _ _ _ _ (by omega)];exact hY3,(fun x k hk=>by cases hk;omega),by simp [hsl],hf⟩
   ·have hi':i=m.params.length:=by omega
    subst hi';rw [List.drop_eq_nil_of_le (Nat.le_refl _),parT] at hf;rw [← hf] at hw;simp only at hw;clear hf hb hi h43;have hrun:=tk_run h hc c0 m.result nx1 m hnm H2 nx2 c sc a (by omega) ck (nx1+1) (nx+1) hX (by rw [hst'];exact hY) (.ptr nx1 0);refine gW ?_
    ((apply AOpl.callG);(focus rfl);(focus (first | rfl | (simp [*];done)));(focus simp [*,-Option.some.injEq];rfl);kernel_rfl)
    refine hrun.mono ?_;rintro r H3 nx3 ⟨rfl,sc',c',a',P3⟩;simp only;clear hrun;have hX3:H3 (nx1+1)=some (.cells [.ptr nx1 0]):=by rw [P3.fr (nx1+1) (by omega) (by omega) (fun k hk=>by have:=hlow _ _ hk;omega)];exact hX
    have hY3:H3 (nx+1)=some (.cells [.str m.name,.bool false,.lst (m.params.map cvF),.str m.result,.lst (m.body.map cvS)]):=by rw [P3.fr (nx+1) (by omega) (by omega) (fun k hk=>by have:=hlow _ _ hk;omega)];exact hY
    have hb3:=P3.ck.blk;clear P3 hX hY hb0 ck hlow q1 q2 q3;cases hbt:blT h c0 m.result sc m.body with
    | error x =>
      have hx0:¬ x=0:=fun e=>by subst e;exact blT_ne hbt
      rw [hbt] at hw;simp only at hw;subst hw;have e1:blE (.error x)=x:=rfl;rw [e1];clear e1 hbt hret;refine gW ?_
      (refine⟨_,(by simp [*];rfl),?_⟩;(try simp only [packA]))
      exact⟨_,rfl⟩
    | ok u =>
      rw [hbt] at hw;simp only at hw;have e1:((blE (.ok u):Nat):Int)=0:=rfl;rw [e1];clear e1 hbt
      by_cases hr:m.result=[]
      ·rw [if_neg (fun h=>h.1 hr)] at hw;rw [← hw];clear hw hret;refine gW ?_
       (refine⟨_,(by simp [*];rfl),?_⟩;(try simp only [packA]))
       exact⟨_,rfl⟩
      cases hrt:retsT m.body with
      | false =>
        rw [if_pos ⟨hr,hrt⟩] at hw;rw [hrt] at hret;rw [← hw];clear hw hrt;refine gW ?_
        ((apply Xr);(focus rfl);(focus (first | rfl | (simp [*];done)));(focus simp [*,-Option.some.injEq];rfl);kernel_rfl)
        ·exact hret _
        refine gW ?_
        (refine⟨_,(by simp [*];rfl),?_⟩;(try simp only [packA]))
        exact⟨_,rfl⟩
      | true =>
        rw [if_neg (fun h=>by rw [hrt] at h;cases h.2)] at hw;rw [hrt] at hret;rw [← hw];clear hw hrt;refine gW ?_
        ((apply Xr);(focus rfl);(focus (first | rfl | (simp [*];done)));(focus simp [*,-Option.some.injEq];rfl);kernel_rfl)
        ·exact hret _
        refine gW ?_
        (refine⟨_,(by simp [*];rfl),?_⟩;(try simp only [packA]))
        exact⟨_,rfl⟩
 | true =>
   rw [hst] at hw hY;rw [if_pos rfl] at hw;have hst':=hst;refine gW ?_;clear hst;obtain⟨W,hW⟩:∃ W,parT [] m.params=W:=⟨_,rfl⟩;rw [hW] at hw;refine AWp.countO m.params.length [6,7,12,43] 44 (fun i e H2 nx2=>e 43=.int .i64 i∧∃ sc c a,CkI h [] m.result nx1 H2 nx2 c sc a∧H2 (nx1+1)=some (.cells [.ptr nx1 0])∧H2 (nx+1)=some (.cells [.str m.name,.bool true,.lst (m.params.map cvF),.str m.result,.lst (m.body.map cvS)])∧(∀ x k,c=.sl x 0 k 2→nx1+1+1≤x)∧sc.length=i∧parT sc (m.params.drop i)=W) ⟨(by first | (simp (disch:=omega) [putE,over,ofV,ofS, *];done) | (simp (disch:=omega) [putE,over,ofV,ofS, *];rfl)),[],.nils,-1,⟨by simp [upd],OwnR.nil,by omega,(fun _ h=>by cases h)⟩,by simp [upd],by simp [upd, *],(fun _ _ h=>by cases h),rfl,hW⟩ ?_;clear hW hY hA q1 q2;rintro i v2 H2 nx2 hi hn2 ⟨h43,sc,c,a,ck,hX,hY,hlow,hsl,hf⟩;have q1:=far (show nx1+1<nx2 by omega);have q2:=far (show nx+1<nx2 by omega);have q3:=far ck.lt;have hb0:=ck.blk;refine gW ?_
   (((apply AWp.cond');(focus (simp [*,-Ax.CV.bool.injEq];rfl))) <;> (intro hb) <;> (try simp only [decide_eq_true_eq,decide_eq_false_iff_not,Bool.not_eq_true',Bool.not_eq_false',Bool.not_eq_true,Bool.not_eq_false] at hb))
   ·have hlt:i<m.params.length:=hb;have hwi:=lim_wrap hlt (by omega);clear hb;rw [List.drop_eq_getElem_cons hlt,parT] at hf;have hid:=tk_ident m.params[i].name (hpn _ (List.getElem_mem hlt));have hhs:=tk_has h [] m.result sc a (by omega) m.params[i].name;generalize hpe:m.params[i]=p at *;obtain⟨pn,pt⟩:=p;simp only at hid hhs hf;cases e1:isIdent pn with
    | false =>
      rw [if_pos e1] at hf;rw [e1] at hid;rw [← hf] at hw;simp only at hw;rw [← hw];clear hw hf e1 hret;refine gWf cvF.eq_1 ?_
      ((apply Xr);(focus rfl);(focus (first | rfl | (simp [*];done)));(focus simp [*,-Option.some.injEq];rfl);kernel_rfl)
      ·exact hid _
      refine gW ?_
      (refine⟨_,(by simp [*];rfl),?_⟩;(try simp only [packA]))
      exact⟨_,rfl⟩
    | true =>
    rw [if_neg (by rw [e1];simp)] at hf;rw [e1] at hid;clear e1;have P1:=ck.same (H1:=upd H2 nx2 (.cells [.str pn,.str pt])) (by rw [upd_miss _ _ _ _ (by omega)];exact hb0) (Nat.le_succ nx2) (fun x hx _=>upd_miss _ _ _ _ (by omega))
    by_cases e2:varF sc pn=none
    case neg =>
     rw [if_pos e2] at hf;have hsm:(varF sc pn).isSome=true:=by cases hv:varF sc pn <;> simp_all
     rw [hsm] at hhs;rw [← hf] at hw;simp only at hw;rw [← hw];clear hw hf e2 hret hsm;refine gWf cvF.eq_1 ?_
     ((apply Xr);(focus rfl);(focus (first | rfl | (simp [*];done)));(focus simp [*,-Option.some.injEq];rfl);kernel_rfl)
     ·exact hid _
     refine gW ?_
     ((apply Xr);(focus rfl);(focus (first | rfl | (simp [*];done)));(focus simp [*,-Option.some.injEq];rfl);kernel_rfl)
     ·exact FCall1.lend tkG_pu hhs (by simp [puL,puV,ckV_pu]) rfl (P1.ck.ln _)
     refine gW ?_
     (refine⟨_,(by simp [*];rfl),?_⟩;(try simp only [packA]))
     exact⟨_,rfl⟩
    rw [if_neg (by simp [e2])] at hf;rw [e2] at hhs;have hhs':FCall1 Tryz.prog tkG 44 [ckV h [] m.result sc a,.str pn] (.bool false):=hhs;clear e2 hhs hw hret;refine gWf cvF.eq_1 ?_
    ((apply Xr);(focus rfl);(focus (first | rfl | (simp [*];done)));(focus simp [*,-Option.some.injEq];rfl);kernel_rfl)
    ·exact hid _
    refine gW ?_
    ((apply Xr);(focus rfl);(focus (first | rfl | (simp [*];done)));(focus simp [*,-Option.some.injEq];rfl);kernel_rfl)
    ·exact FCall1.lend tkG_pu hhs' (by simp [puL,puV,ckV_pu]) rfl (P1.ck.ln _)
    clear hhs' hid;refine gWr ?_;refine AWp.regTB [0] (fun b=>b=nx1+1) (by kernel_rfl) (by kernel_rfl) rfl rfl (fun b hb=>by subst hb;omega) ?_
    repeat (first | ((apply ASlK.stepG);(focus rfl);(focus (simp [*,-Option.some.injEq];rfl));(focus (first | (intro h;exact Bool.noConfusion (show false=true from h)) | (intro hk0 H1 hk1;have hk2:=hk1 _ rfl;clear hk1;simp [*] at hk2;simp [*,-Option.some.injEq];rfl) | (intro hk0 H1 hk1;have hk2:=hk1 _ rfl;simp [*] at hk2;simp [*,-Option.some.injEq];done) | (intro hk0 H1 hk1;have hk2:=hk1 _ rfl;simp [*] at hk2;simp [*,-Option.some.injEq])));(focus (first | (intro _ _;rfl) | (intro b hb;replace hb:b=_:=hb;simp [hb, *];done)))) | ((apply ASlK.stepG);(focus simp [*];done);(focus (simp [*,-Option.some.injEq];rfl));(focus (first | (intro h;exact Bool.noConfusion (show false=true from h)) | (intro hk0 H1 hk1;have hk2:=hk1 _ rfl;clear hk1;simp [*] at hk2;simp [*,-Option.some.injEq];rfl) | (intro hk0 H1 hk1;have hk2:=hk1 _ rfl;simp [*] at hk2;simp [*,-Option.some.injEq];done) | (intro hk0 H1 hk1;have hk2:=hk1 _ rfl;simp [*] at hk2;simp [*,-Option.some.injEq])));(focus (first | (intro _ _;rfl) | (intro b hb;replace hb:b=_:=hb;simp [hb, *];done)))) | ((apply ASlK.pass);(focus simp [*];done)) | ((refine ASlK.nil ?_);(try simp only [Xx,Xy,reduceIte,Nat.reduceEqDiff])))
    refine ASlK.appQ cvF_len cvF_one ti_Flds ti_Fld (⟨pn,pt⟩:Fld) (ck.own.keep (by omega) fun x hx _=>by rw [upd_miss _ _ _ _ (by omega),upd_miss _ _ _ _ (by omega)]) (by simp only [lim] at hlm;omega) (fun b hb=>by
     have hb':b=nx1+1:=hb;subst hb';exact⟨by omega,fun b' hcb e=>by have:=hlow b' _ hcb;omega⟩) ?_ (hxb:=by simp [upd,cvF])
    intro H3 hN hfr;have hb3:H3 nx1=some (.cells [.lst (h.map cvD),.str [],.str m.result,c,.int .i64 a]):=by
     rw [hfr nx1 (by omega) (fun b' hcb e=>ck.ne _ (by rw [e];exact hcb)),upd_miss _ _ _ _ (by omega),upd_miss _ _ _ _ (by omega)];exact hb0
    have hX3:H3 (nx1+1)=some (.cells [.ptr nx1 0]):=by
     rw [hfr (nx1+1) (by omega) (fun b' hcb e=>by have:=hlow b' _ hcb;omega),upd_miss _ _ _ _ (by omega),upd_miss _ _ _ _ (by omega)];exact hX
    have hY3:H3 (nx+1)=some (.cells [.str m.name,.bool true,.lst (m.params.map cvF),.str m.result,.lst (m.body.map cvS)]):=by
     rw [hfr (nx+1) (by omega) (fun b' hcb e=>by have:=hlow b' _ hcb;omega),upd_miss _ _ _ _ (by omega),upd_miss _ _ _ _ (by omega)];exact hY
    repeat (first | ((apply ASlK.stepG);(focus rfl);(focus (simp [*,-Option.some.injEq];rfl));(focus (first | (intro h;exact Bool.noConfusion (show false=true from h)) | (intro hk0 H1 hk1;have hk2:=hk1 _ rfl;clear hk1;simp [*] at hk2;simp [*,-Option.some.injEq];rfl) | (intro hk0 H1 hk1;have hk2:=hk1 _ rfl;simp [*] at hk2;simp [*,-Option.some.injEq];done) | (intro hk0 H1 hk1;have hk2:=hk1 _ rfl;simp [*] at hk2;simp [*,-Option.some.injEq])));(focus (first | (intro _ _;rfl) | (intro b hb;replace hb:b=_:=hb;simp [hb, *];done)))) | ((apply ASlK.stepG);(focus simp [*];done);(focus (simp [*,-Option.some.injEq];rfl));(focus (first | (intro h;exact Bool.noConfusion (show false=true from h)) | (intro hk0 H1 hk1;have hk2:=hk1 _ rfl;clear hk1;simp [*] at hk2;simp [*,-Option.some.injEq];rfl) | (intro hk0 H1 hk1;have hk2:=hk1 _ rfl;simp [*] at hk2;simp [*,-Option.some.injEq];done) | (intro hk0 H1 hk1;have hk2:=hk1 _ rfl;simp [*] at hk2;simp [*,-Option.some.injEq])));(focus (first | (intro _ _;rfl) | (intro b hb;replace hb:b=_:=hb;simp [hb, *];done)))) | ((apply ASlK.pass);(focus simp [*];done)) | ((refine ASlK.nil ?_);(try simp only [Xx,Xy,reduceIte,Nat.reduceEqDiff])))
    refine gW ?_;refine⟨by ((repeat (first | exact Keeps.base _ _ _ _ | (with_reducible exact Keeps.refl _ _ _) | (refine Keeps.put rfl ?_) | (refine Keeps.over' rfl rfl ?_)))),hlt,(by first | (simp (disch:=omega) [putE,over,ofV,ofS, *];done) | (simp (disch:=omega) [putE,over,ofV,ofS, *];rfl)),sc++[⟨pn,pt⟩],_,a,⟨upd_hit _ _ _,OwnR.isN0 (by rw [upd_miss _ _ _ _ (by omega)];exact hN) (by omega) _ (by simp [hsl]),by omega,(fun k hk=>by cases hk;omega)⟩,by rw [upd_miss _ _ _ _ (by omega)];exact hX3,by rw [upd_miss _ _ _ _ (by omega)];exact hY3,(fun x k hk=>by cases hk;omega),by simp [hsl],hf⟩
   ·have hi':i=m.params.length:=by omega
    subst hi';rw [List.drop_eq_nil_of_le (Nat.le_refl _),parT] at hf;rw [← hf] at hw;simp only at hw;clear hf hb hi h43;have hrun:=tk_run h hc [] m.result nx1 m hnm H2 nx2 c sc a (by omega) ck (nx1+1) (nx+1) hX (by rw [hst'];exact hY) (.ptr nx1 0);refine gW ?_
    ((apply AOpl.callG);(focus rfl);(focus (first | rfl | (simp [*];done)));(focus simp [*,-Option.some.injEq];rfl);kernel_rfl)
    refine hrun.mono ?_;rintro r H3 nx3 ⟨rfl,sc',c',a',P3⟩;simp only;clear hrun;have hX3:H3 (nx1+1)=some (.cells [.ptr nx1 0]):=by rw [P3.fr (nx1+1) (by omega) (by omega) (fun k hk=>by have:=hlow _ _ hk;omega)];exact hX
    have hY3:H3 (nx+1)=some (.cells [.str m.name,.bool true,.lst (m.params.map cvF),.str m.result,.lst (m.body.map cvS)]):=by rw [P3.fr (nx+1) (by omega) (by omega) (fun k hk=>by have:=hlow _ _ hk;omega)];exact hY
    have hb3:=P3.ck.blk;clear P3 hX hY hb0 ck hlow q1 q2 q3;cases hbt:blT h [] m.result sc m.body with
    | error x =>
      have hx0:¬ x=0:=fun e=>by subst e;exact blT_ne hbt
      rw [hbt] at hw;simp only at hw;subst hw;have e1:blE (.error x)=x:=rfl;rw [e1];clear e1 hbt hret;refine gW ?_
      (refine⟨_,(by simp [*];rfl),?_⟩;(try simp only [packA]))
      exact⟨_,rfl⟩
    | ok u =>
      rw [hbt] at hw;simp only at hw;have e1:((blE (.ok u):Nat):Int)=0:=rfl;rw [e1];clear e1 hbt
      by_cases hr:m.result=[]
      ·rw [if_neg (fun h=>h.1 hr)] at hw;rw [← hw];clear hw hret;refine gW ?_
       (refine⟨_,(by simp [*];rfl),?_⟩;(try simp only [packA]))
       exact⟨_,rfl⟩
      cases hrt:retsT m.body with
      | false =>
        rw [if_pos ⟨hr,hrt⟩] at hw;rw [hrt] at hret;rw [← hw];clear hw hrt;refine gW ?_
        ((apply Xr);(focus rfl);(focus (first | rfl | (simp [*];done)));(focus simp [*,-Option.some.injEq];rfl);kernel_rfl)
        ·exact hret _
        refine gW ?_
        (refine⟨_,(by simp [*];rfl),?_⟩;(try simp only [packA]))
        exact⟨_,rfl⟩
      | true =>
        rw [if_neg (fun h=>by rw [hrt] at h;cases h.2)] at hw;rw [hrt] at hret;rw [← hw];clear hw hrt;refine gW ?_
        ((apply Xr);(focus rfl);(focus (first | rfl | (simp [*];done)));(focus simp [*,-Option.some.injEq];rfl);kernel_rfl)
        ·exact hret _
        refine gW ?_
        (refine⟨_,(by simp [*];rfl),?_⟩;(try simp only [packA]))
        exact⟨_,rfl⟩
end
end
end Go.Proofs.YtoookjadbhdfhaaGreatDoor
