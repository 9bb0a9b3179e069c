/-
  Supers, IsSub, Field, lookup, Lookup; walked.
-/
import Derived.Test.YtoookjadbhdfhaaDoorTTkSl
set_option linter.unusedSectionVars false
set_option linter.unusedSimpArgs false
set_option linter.unnecessarySimpa false
set_option linter.unusedVariables false
set_option linter.unusedSimpArgs false
set_option linter.unusedVariables false
namespace Go.Proofs.YtoookjadbhdfhaaDoor
section
open Lx Ax Go.RowKit
attribute [local simp] stepS Ax.stepT Dl.on qstep astep estep rd putE over argE ofV ofS loadA pickCells isAggD faddA fieldA partA iaddA idxA sliA bnd binA intA strA unA convA bltA lenA mapOf findK keyD scalD storeA appA srcA srcD upd drp Dl.hp Dl.nx CV.cs CV.one buildA placesA fillA zrep tasA ifaceD eqA eqFs eqIs range2 copyA nbeq nble nblt decEq beqI bneI beqS bneS isED Int.ofNat_inj List.getElem?_map List.getElem?_eq_getElem Option.map_some ti_int ti_bool ti_str ti_i64 ti_Strs ti_Cds ti_Cd ti_Flds ti_Fld ti_Sgs ti_Sg ti_Tb ti_Hi ti_Ints gd gdB callA resA op1
attribute [local simp] nu1 nu2 nu3 nu4 nu5 nu6 nu7 nu8 nu9 nu10 nu11 nu12 nu13 upd_upd
/-- The lists of a hierarchy fit. -/
structure HB (h:List Cd):Prop where
 len:h.length≤lim
 fl:∀ c∈h,c.fields.length≤lim
 ml:∀ c∈h,c.methods.length≤lim
 pl:∀ c∈h,∀ m∈c.methods,m.params.length≤lim
 cn:∀ c∈h,c.name.length≤maxLen
 fn:∀ c∈h,∀ f∈c.fields,f.name.length≤maxLen
 mn:∀ c∈h,∀ m∈c.methods,m.name.length≤maxLen
theorem named_mem {h:List Cd}{s:Bytes}{i:Nat}(hi:i∈namedC h s):i<h.length:=chainC_mem h (findI_lt h s) i hi
theorem lim_len {n:Nat}(h:n≤lim+1):n<1000000000:=by simp only [lim] at h;omega
theorem lim_wrap1 {i n:Nat}(h:i<n)(hn:n≤lim+1):IntKind.i64.wrap ((i:Int)+1)=((i+1:Nat):Int):=by
 rw [IntKind.wrap_i64];simp only [lim] at hn;omega
theorem named_len {h:List Cd}(hl:h.length≤lim)(s:Bytes):(namedC h s).length≤lim+1:=by
 have:=chainC_len h (findI h s)
 show (chainC h (findI h s)).1.length≤lim+1
 omega
theorem take_snoc {α:Type}{l:List α}{i:Nat}(h:i<l.length):l.take (i+1)=l.take i++[l[i]]:=List.take_succ_eq_append_getElem h
set_option maxRecDepth 10000 in
set_option maxHeartbeats 4000000 in
theorem tk_Supers (h:List Cd)(hl:h.length≤lim)(s:Bytes):FCall1 Tryd.prog tkG 74 [cvH h,.str s] (.lst ((supersF h s).map cvN)):=by
 refine FCall.one tkG_pu (by simp [puL,puV,puH]) (by simp [puL,puV,puRm puN]) ?_;refine FCall.ofBodyL cvN_len Tryd.func74 rfl rfl fun nx=>?_
 obtain⟨L,hL⟩:∃ L,L=namedC h s:=⟨_,rfl⟩;have hLl:L.length≤lim+1:=by rw [hL];exact named_len hl s
 have hLm:∀ i∈L,i<h.length:=fun i hi=>named_mem (by rw [← hL];exact hi)
 obtain⟨R,hR⟩:∃ R,R=supersF h s:=⟨_,rfl⟩;have hRl:R.length=L.length:=by rw [hR,hL];simp [supersF]
 have hRg:∀ i (hi:i<L.length),R[i]'(by omega)=(h[L[i]]'(hLm _ (List.getElem_mem hi))).name:=by
  intro i hi;have hq:=hLm _ (List.getElem_mem hi);subst hL;simp [hR,supersF,hq]
 rw [← hR];have hn:=tk_named h hl s;rw [← hL] at hn;clear hR hL
 repeat (first | (first | (apply Xf;rfl) | apply Xj);focus simp [cvH, *,-Option.some.injEq];rfl | (first | (apply Xa;rfl) | apply Xb);(focus simp [cvH, *];done);focus simp [cvH, *,-Option.some.injEq];rfl | (first | (apply Xg;rfl) | apply Xk);(focus simp [cvH, *];done) | (first | refine Xl ?_ | refine Xi ?_ | refine Xh ?_ | refine Xo ?_ | refine Xq ?_);try simp only [Xw,Xx,reduceIte,Nat.reduceEqDiff] | refine Xn ?_ | refine Xp rfl ?_ | refine Xc ?_ | apply Xd;focus simp [cvH, *];done | apply Xe;focus simp [cvH, *];done | refine Ya rfl rfl ?_)
 ((apply Xr);(focus rfl);(focus (first | rfl | (simp [cvH, *];done)));(focus simp [cvH, *,-Option.some.injEq];rfl);kernel_rfl)
 ·exact tk_tableOf h hl _
 repeat (first | (first | (apply Xf;rfl) | apply Xj);focus simp [cvTb, *,-Option.some.injEq];rfl | (first | (apply Xa;rfl) | apply Xb);(focus simp [cvTb, *];done);focus simp [cvTb, *,-Option.some.injEq];rfl | (first | (apply Xg;rfl) | apply Xk);(focus simp [cvTb, *];done) | (first | refine Xl ?_ | refine Xi ?_ | refine Xh ?_ | refine Xo ?_ | refine Xq ?_);try simp only [Xw,Xx,reduceIte,Nat.reduceEqDiff] | refine Xn ?_ | refine Xp rfl ?_ | refine Xc ?_ | apply Xd;focus simp [cvTb, *];done | apply Xe;focus simp [cvTb, *];done | refine Ya rfl rfl ?_)
 ((apply Xr);(focus rfl);(focus (first | rfl | (simp [cvTb, *];done)));(focus simp [cvTb, *,-Option.some.injEq];rfl);kernel_rfl)
 ·exact hn _
 repeat (first | (first | (apply Xf;rfl) | apply Xj);focus simp [*,-Option.some.injEq];rfl | (first | (apply Xa;rfl) | apply Xb);(focus simp [*];done);focus simp [*,-Option.some.injEq];rfl | (first | (apply Xg;rfl) | apply Xk);(focus simp [*];done) | (first | refine Xl ?_ | refine Xi ?_ | refine Xh ?_ | refine Xo ?_ | refine Xq ?_);try simp only [Xw,Xx,reduceIte,Nat.reduceEqDiff] | refine Xn ?_ | refine Xp rfl ?_ | refine Xc ?_ | apply Xd;focus simp [*];done | apply Xe;focus simp [*];done | refine Ya rfl rfl ?_)
 clear hn;refine AWp.countO L.length [6,8,15] 16 (fun i e H1 nx1=>e 15=.int .i64 i∧OwnL cvN 1 H1 nx1 (e 6) (R.take i)∧H1 (nx+1)=some (.cells [.lst (h.map cvD),.fmp ((frN h h.length).map .str) (frV h h.length)])) ⟨(by first | (simp (disch:=omega) [putE,over,ofV,ofS, *];done) | (simp (disch:=omega) [putE,over,ofV,ofS, *];rfl)),.inl ⟨rfl,(by first | (simp (disch:=omega) [putE,over,ofV,ofS, *];done) | (simp (disch:=omega) [putE,over,ofV,ofS, *];rfl))⟩,by simp [upd]⟩ ?_;rintro i v H1 nx1 hi hn1 ⟨h15,ho,hT⟩;obtain⟨x,hx⟩:∃ x,v 6=x:=⟨_,rfl⟩;rw [hx] at ho
 repeat (first | (first | (apply Xf;rfl) | apply Xj);focus simp [*,-Option.some.injEq];rfl | (first | (apply Xa;rfl) | apply Xb);(focus simp [*];done);focus simp [*,-Option.some.injEq];rfl | (first | (apply Xg;rfl) | apply Xk);(focus simp [*];done) | (first | refine Xl ?_ | refine Xi ?_ | refine Xh ?_ | refine Xo ?_ | refine Xq ?_);try simp only [Xw,Xx,reduceIte,Nat.reduceEqDiff] | refine Xn ?_ | refine Xp rfl ?_ | refine Xc ?_ | apply Xd;focus simp [*];done | apply Xe;focus simp [*];done | refine Ya rfl rfl ?_)
 (((apply AWp.cond');(focus (simp [*,-Ax.CV.bool.injEq];rfl))) <;> (intro hb) <;> (try simp only [decide_eq_true_eq,decide_eq_false_iff_not,Bool.not_eq_true',Bool.not_eq_false',Bool.not_eq_true,Bool.not_eq_false] at hb))
 ·have hlt:i<L.length:=hb;have hwi:=lim_wrap1 hlt hLl;have hq:=hLm _ (List.getElem_mem hlt);have hg:=hRg i hlt;have q1:=far (show nx+1<nx1 by omega);have hTne:∀ b',x=.sl b' 0 (R.take i).length 1→nx+1≠b':=own_row ho hT (by
   intro e;cases hc:R.take i with
   | nil=>rw [hc] at e;cases e
   | cons a l=>rw [hc] at e;simp [cvN] at e)
  have hli:=lim_len hLl;clear hb
  repeat (first | (first | (apply Xf;rfl) | apply Xj);focus simp [cvX,cvD, *,-Option.some.injEq];rfl | (first | (apply Xa;rfl) | apply Xb);(focus simp [cvX,cvD, *];done);focus simp [cvX,cvD, *,-Option.some.injEq];rfl | (first | (apply Xg;rfl) | apply Xk);(focus simp [cvX,cvD, *];done) | (first | refine Xl ?_ | refine Xi ?_ | refine Xh ?_ | refine Xo ?_ | refine Xq ?_);try simp only [Xw,Xx,reduceIte,Nat.reduceEqDiff] | refine Xn ?_ | refine Xp rfl ?_ | refine Xc ?_ | apply Xd;focus simp [cvX,cvD, *];done | apply Xe;focus simp [cvX,cvD, *];done | refine Ya rfl rfl ?_)
  have ho2:OwnL cvN 1 (upd H1 (nx1) (.cells [.str h[L[i]].name])) (nx1+1) x (R.take i):=(ho.upd (Nat.le_refl _)).up (Nat.le_succ _);refine AOpl.appR cvN_len cvN_one ti_Strs ti_str h[L[i]].name ho2 (by rw [List.length_take];omega) ?_;intro H2 hN hfr;have hT2:H2 (nx+1)=some (.cells [.lst (h.map cvD),.fmp ((frN h h.length).map .str) (frV h h.length)]):=by rw [hfr (nx+1) (by omega) hTne];simp [upd, *]
  repeat (first | (first | (apply Xf;rfl) | apply Xj);focus simp [*,-Option.some.injEq];rfl | (first | (apply Xa;rfl) | apply Xb);(focus simp [*];done);focus simp [*,-Option.some.injEq];rfl | (first | (apply Xg;rfl) | apply Xk);(focus simp [*];done) | (first | refine Xl ?_ | refine Xi ?_ | refine Xh ?_ | refine Xo ?_ | refine Xq ?_);try simp only [Xw,Xx,reduceIte,Nat.reduceEqDiff] | refine Xn ?_ | refine Xp rfl ?_ | refine Xc ?_ | apply Xd;focus simp [*];done | apply Xe;focus simp [*];done | refine Ya rfl rfl ?_)
  exact⟨by ((repeat (first | exact Keeps.base _ _ _ _ | (with_reducible exact Keeps.refl _ _ _) | (refine Keeps.put rfl ?_) | (refine Keeps.over' rfl rfl ?_)))),hlt,(by first | (simp (disch:=omega) [putE,over,ofV,ofS, *];done) | (simp (disch:=omega) [putE,over,ofV,ofS, *];rfl)),by
   have e:=take_snoc (l:=R) (i:=i) (by omega);rw [hg] at e;rw [e];simp only [putE,over];exact OwnL.isN hN (by omega) _ (by simp;omega),hT2⟩
 ·have hi':i=L.length:=by omega
  rw [hi',← hRl,List.take_length] at ho
  repeat (first | (first | (apply Xf;rfl) | apply Xj);focus simp [*,-Option.some.injEq];rfl | (first | (apply Xa;rfl) | apply Xb);(focus simp [*];done);focus simp [*,-Option.some.injEq];rfl | (first | (apply Xg;rfl) | apply Xk);(focus simp [*];done) | (first | refine Xl ?_ | refine Xi ?_ | refine Xh ?_ | refine Xo ?_ | refine Xq ?_);try simp only [Xw,Xx,reduceIte,Nat.reduceEqDiff] | refine Xn ?_ | refine Xp rfl ?_ | refine Xc ?_ | apply Xd;focus simp [*];done | apply Xe;focus simp [*];done | refine Ya rfl rfl ?_)
  (refine⟨_,(by simp [*];rfl),?_⟩;(try simp only [packA]))
  exact⟨_,rfl,ho⟩
set_option maxRecDepth 10000 in
set_option maxHeartbeats 4000000 in
theorem tk_IsSub (h:List Cd)(hl:h.length+1≤lim)(a b:Bytes):FCall1 Tryd.prog tkG 69 [cvH h,.str a,.str b] (.bool (subF h a b)):=by
 refine FCall.one tkG_pu (by simp [puL,puV,puH]) rfl ?_;refine FCall.ofBody Tryd.func69 rfl rfl fun nx=>?_
 have h1:=tk_Supers h (by omega) a;have h2:(supersF h a).length≤lim:=by
  have:=chainC_len h (findI h a);have e:(supersF h a).length=(chainC h (findI h a)).1.length:=by simp [supersF,namedC]
  omega
 have h3:=contains_N b (supersF h a) h2;have hd:(supersF h a).contains b=subF h a b:=rfl;rw [hd] at h3
 repeat (first | (first | (apply Xf;rfl) | apply Xj);focus simp [cvH, *,-Option.some.injEq];rfl | (first | (apply Xa;rfl) | apply Xb);(focus simp [cvH, *];done);focus simp [cvH, *,-Option.some.injEq];rfl | (first | (apply Xg;rfl) | apply Xk);(focus simp [cvH, *];done) | (first | refine Xl ?_ | refine Xi ?_ | refine Xh ?_ | refine Xo ?_ | refine Xq ?_);try simp only [Xw,Xx,reduceIte,Nat.reduceEqDiff] | refine Xn ?_ | refine Xp rfl ?_ | refine Xc ?_ | apply Xd;focus simp [cvH, *];done | apply Xe;focus simp [cvH, *];done | refine Ya rfl rfl ?_)
 ((apply Xr);(focus rfl);(focus (first | rfl | (simp [cvH, *];done)));(focus simp [cvH, *,-Option.some.injEq];rfl);kernel_rfl)
 ·exact h1 _
 repeat (first | (first | (apply Xf;rfl) | apply Xj);focus simp [*,-Option.some.injEq];rfl | (first | (apply Xa;rfl) | apply Xb);(focus simp [*];done);focus simp [*,-Option.some.injEq];rfl | (first | (apply Xg;rfl) | apply Xk);(focus simp [*];done) | (first | refine Xl ?_ | refine Xi ?_ | refine Xh ?_ | refine Xo ?_ | refine Xq ?_);try simp only [Xw,Xx,reduceIte,Nat.reduceEqDiff] | refine Xn ?_ | refine Xp rfl ?_ | refine Xc ?_ | apply Xd;focus simp [*];done | apply Xe;focus simp [*];done | refine Ya rfl rfl ?_)
 ((apply Xr);(focus rfl);(focus (first | rfl | (simp [*];done)));(focus simp [*,-Option.some.injEq];rfl);kernel_rfl)
 ·exact h3 _
 repeat (first | (first | (apply Xf;rfl) | apply Xj);focus simp [*,-Option.some.injEq];rfl | (first | (apply Xa;rfl) | apply Xb);(focus simp [*];done);focus simp [*,-Option.some.injEq];rfl | (first | (apply Xg;rfl) | apply Xk);(focus simp [*];done) | (first | refine Xl ?_ | refine Xi ?_ | refine Xh ?_ | refine Xo ?_ | refine Xq ?_);try simp only [Xw,Xx,reduceIte,Nat.reduceEqDiff] | refine Xn ?_ | refine Xp rfl ?_ | refine Xc ?_ | apply Xd;focus simp [*];done | apply Xe;focus simp [*];done | refine Ya rfl rfl ?_)
 (refine⟨_,(by simp [*];rfl),?_⟩;(try simp only [packA]))
def tupF:Option (Bytes×Bytes)→CV
 | none=>.tup [.str [],.str [],.bool false]
 | some (c,t)=>.tup [.str c,.str t,.bool true]
set_option maxRecDepth 10000 in
set_option maxHeartbeats 4000000 in
theorem tk_Field (h:List Cd)(hB:HB h)(s f:Bytes):FCall1 Tryd.prog tkG 64 [cvH h,.str s,.str f] (tupF (fieldF h s f)):=by
 refine FCall.one tkG_pu (by simp [puL,puV,puH]) (by unfold tupF;split <;> rfl) ?_;refine FCall.ofBody Tryd.func64 rfl rfl fun nx=>?_
 have hl:=hB.len;have hn:=tk_named h hl s;have hLl:=named_len hl s;have hLm:∀ i∈namedC h s,i<h.length:=fun i hi=>named_mem hi
 obtain⟨w,hw⟩:∃ w,fieldF h s f=w:=⟨_,rfl⟩;rw [hw];unfold fieldF at hw;generalize namedC h s=L at *
 repeat (first | (first | (apply Xf;rfl) | apply Xj);focus simp [cvH, *,-Option.some.injEq];rfl | (first | (apply Xa;rfl) | apply Xb);(focus simp [cvH, *];done);focus simp [cvH, *,-Option.some.injEq];rfl | (first | (apply Xg;rfl) | apply Xk);(focus simp [cvH, *];done) | (first | refine Xl ?_ | refine Xi ?_ | refine Xh ?_ | refine Xo ?_ | refine Xq ?_);try simp only [Xw,Xx,reduceIte,Nat.reduceEqDiff] | refine Xn ?_ | refine Xp rfl ?_ | refine Xc ?_ | apply Xd;focus simp [cvH, *];done | apply Xe;focus simp [cvH, *];done | refine Ya rfl rfl ?_)
 ((apply Xr);(focus rfl);(focus (first | rfl | (simp [cvH, *];done)));(focus simp [cvH, *,-Option.some.injEq];rfl);kernel_rfl)
 ·exact tk_tableOf h hl _
 repeat (first | (first | (apply Xf;rfl) | apply Xj);focus simp [cvTb, *,-Option.some.injEq];rfl | (first | (apply Xa;rfl) | apply Xb);(focus simp [cvTb, *];done);focus simp [cvTb, *,-Option.some.injEq];rfl | (first | (apply Xg;rfl) | apply Xk);(focus simp [cvTb, *];done) | (first | refine Xl ?_ | refine Xi ?_ | refine Xh ?_ | refine Xo ?_ | refine Xq ?_);try simp only [Xw,Xx,reduceIte,Nat.reduceEqDiff] | refine Xn ?_ | refine Xp rfl ?_ | refine Xc ?_ | apply Xd;focus simp [cvTb, *];done | apply Xe;focus simp [cvTb, *];done | refine Ya rfl rfl ?_)
 ((apply Xr);(focus rfl);(focus (first | rfl | (simp [cvTb, *];done)));(focus simp [cvTb, *,-Option.some.injEq];rfl);kernel_rfl)
 ·exact hn _
 repeat (first | (first | (apply Xf;rfl) | apply Xj);focus simp [*,-Option.some.injEq];rfl | (first | (apply Xa;rfl) | apply Xb);(focus simp [*];done);focus simp [*,-Option.some.injEq];rfl | (first | (apply Xg;rfl) | apply Xk);(focus simp [*];done) | (first | refine Xl ?_ | refine Xi ?_ | refine Xh ?_ | refine Xo ?_ | refine Xq ?_);try simp only [Xw,Xx,reduceIte,Nat.reduceEqDiff] | refine Xn ?_ | refine Xp rfl ?_ | refine Xc ?_ | apply Xd;focus simp [*];done | apply Xe;focus simp [*];done | refine Ya rfl rfl ?_)
 clear hn;refine AWp.countO L.length [6,7,8,11,12,13,20] 21 (fun i e H1 nx1=>e 20=.int .i64 i∧H1 (nx+1)=some (.cells [.lst (h.map cvD),.fmp ((frN h h.length).map .str) (frV h h.length)])∧fieldW h f (L.drop i)=w) ⟨(by first | (simp (disch:=omega) [putE,over,ofV,ofS, *];done) | (simp (disch:=omega) [putE,over,ofV,ofS, *];rfl)),by simp [upd],hw⟩ ?_;rintro i v H1 nx1 hi hn1 ⟨h20,hT,hf⟩;clear hw;have q1:=far (show nx+1<nx1 by omega)
 repeat (first | (first | (apply Xf;rfl) | apply Xj);focus simp [*,-Option.some.injEq];rfl | (first | (apply Xa;rfl) | apply Xb);(focus simp [*];done);focus simp [*,-Option.some.injEq];rfl | (first | (apply Xg;rfl) | apply Xk);(focus simp [*];done) | (first | refine Xl ?_ | refine Xi ?_ | refine Xh ?_ | refine Xo ?_ | refine Xq ?_);try simp only [Xw,Xx,reduceIte,Nat.reduceEqDiff] | refine Xn ?_ | refine Xp rfl ?_ | refine Xc ?_ | apply Xd;focus simp [*];done | apply Xe;focus simp [*];done | refine Ya rfl rfl ?_)
 (((apply AWp.cond');(focus (simp [*,-Ax.CV.bool.injEq];rfl))) <;> (intro hb) <;> (try simp only [decide_eq_true_eq,decide_eq_false_iff_not,Bool.not_eq_true',Bool.not_eq_false',Bool.not_eq_true,Bool.not_eq_false] at hb))
 ·have hlt:i<L.length:=hb;have hwi:=lim_wrap1 hlt hLl;have hq:=hLm _ (List.getElem_mem hlt);have hfl:=hB.fl _ (List.getElem_mem hq);rw [List.drop_eq_getElem_cons hlt,fieldW,List.getElem?_eq_getElem hq] at hf;simp only at hf;clear hb;have hx:=tk_fieldIn h[L[i]] hfl f
  repeat (first | (first | (apply Xf;rfl) | apply Xj);focus simp [cvX,cvD, *,-Option.some.injEq];rfl | (first | (apply Xa;rfl) | apply Xb);(focus simp [cvX,cvD, *];done);focus simp [cvX,cvD, *,-Option.some.injEq];rfl | (first | (apply Xg;rfl) | apply Xk);(focus simp [cvX,cvD, *];done) | (first | refine Xl ?_ | refine Xi ?_ | refine Xh ?_ | refine Xo ?_ | refine Xq ?_);try simp only [Xw,Xx,reduceIte,Nat.reduceEqDiff] | refine Xn ?_ | refine Xp rfl ?_ | refine Xc ?_ | apply Xd;focus simp [cvX,cvD, *];done | apply Xe;focus simp [cvX,cvD, *];done | refine Ya rfl rfl ?_)
  ((apply Xr);(focus rfl);(focus (first | rfl | (simp [cvD, *];done)));(focus simp [cvD, *,-Option.some.injEq];rfl);kernel_rfl)
  ·exact hx _
  clear hx;cases hk:fieldN h[L[i]] f with
  | some k =>
    have hkl:k<h[L[i]].fields.length:=(List.findIdx?_eq_some_iff_getElem.mp hk).1;have e1:ofN (some k)=(k:Int):=rfl;rw [hk] at hf;simp only [List.getElem?_eq_getElem hkl,Option.map_some,Option.getD_some] at hf;rw [← hf,e1];clear hf hk
    repeat (first | (first | (apply Xf;rfl) | apply Xj);focus simp [cvD,cvF, *,-Option.some.injEq];rfl | (first | (apply Xa;rfl) | apply Xb);(focus simp [cvD,cvF, *];done);focus simp [cvD,cvF, *,-Option.some.injEq];rfl | (first | (apply Xg;rfl) | apply Xk);(focus simp [cvD,cvF, *];done) | (first | refine Xl ?_ | refine Xi ?_ | refine Xh ?_ | refine Xo ?_ | refine Xq ?_);try simp only [Xw,Xx,reduceIte,Nat.reduceEqDiff] | refine Xn ?_ | refine Xp rfl ?_ | refine Xc ?_ | apply Xd;focus simp [cvD,cvF, *];done | apply Xe;focus simp [cvD,cvF, *];done | refine Ya rfl rfl ?_)
    (refine⟨_,(by simp [*];rfl),?_⟩;(try simp only [packA]))
    all_goals rfl
  | none =>
    have e1:ofN none=-1:=rfl;rw [hk] at hf;simp only at hf;rw [e1];clear hk
    repeat (first | (first | (apply Xf;rfl) | apply Xj);focus simp [*,-Option.some.injEq];rfl | (first | (apply Xa;rfl) | apply Xb);(focus simp [*];done);focus simp [*,-Option.some.injEq];rfl | (first | (apply Xg;rfl) | apply Xk);(focus simp [*];done) | (first | refine Xl ?_ | refine Xi ?_ | refine Xh ?_ | refine Xo ?_ | refine Xq ?_);try simp only [Xw,Xx,reduceIte,Nat.reduceEqDiff] | refine Xn ?_ | refine Xp rfl ?_ | refine Xc ?_ | apply Xd;focus simp [*];done | apply Xe;focus simp [*];done | refine Ya rfl rfl ?_)
    exact⟨by ((repeat (first | exact Keeps.base _ _ _ _ | (with_reducible exact Keeps.refl _ _ _) | (refine Keeps.put rfl ?_) | (refine Keeps.over' rfl rfl ?_)))),hlt,(by first | (simp (disch:=omega) [putE,over,ofV,ofS, *];done) | (simp (disch:=omega) [putE,over,ofV,ofS, *];rfl)),by simp [upd, *],hf⟩
 ·have hi':L.length≤i:=by omega
  rw [List.drop_eq_nil_of_le hi',fieldW] at hf;rw [← hf]
  repeat (first | (first | (apply Xf;rfl) | apply Xj);focus simp [*,-Option.some.injEq];rfl | (first | (apply Xa;rfl) | apply Xb);(focus simp [*];done);focus simp [*,-Option.some.injEq];rfl | (first | (apply Xg;rfl) | apply Xk);(focus simp [*];done) | (first | refine Xl ?_ | refine Xi ?_ | refine Xh ?_ | refine Xo ?_ | refine Xq ?_);try simp only [Xw,Xx,reduceIte,Nat.reduceEqDiff] | refine Xn ?_ | refine Xp rfl ?_ | refine Xc ?_ | apply Xd;focus simp [*];done | apply Xe;focus simp [*];done | refine Ya rfl rfl ?_)
  (refine⟨_,(by simp [*];rfl),?_⟩;(try simp only [packA]))
  all_goals rfl
end
section
open Lx Ax Go.RowKit
attribute [local simp] stepS Ax.stepT Dl.on qstep astep estep rd putE over argE ofV ofS loadA pickCells isAggD faddA fieldA partA iaddA idxA sliA bnd binA intA strA unA convA bltA lenA mapOf findK keyD scalD storeA appA srcA srcD upd drp Dl.hp Dl.nx CV.cs CV.one buildA placesA fillA zrep tasA ifaceD eqA eqFs eqIs range2 copyA nbeq nble nblt decEq beqI bneI beqS bneS isED Int.ofNat_inj List.getElem?_map List.getElem?_eq_getElem Option.map_some ti_int ti_bool ti_str ti_i64 ti_Strs ti_Cds ti_Cd ti_Flds ti_Fld ti_Sgs ti_Sg ti_Tb ti_Hi ti_Ints gd gdB callA resA op1
attribute [local simp] nu1 nu2 nu3 nu4 nu5 nu6 nu7 nu8 nu9 nu10 nu11 nu12 nu13 upd_upd
def tupL:Option (Nat×Nat)→CV
 | none=>.tup [.int .i64 (-1),.int .i64 (-1)]
 | some (j,k)=>.tup [.int .i64 (j:Int),.int .i64 (k:Int)]
set_option maxRecDepth 10000 in
set_option maxHeartbeats 4000000 in
theorem tk_lookup (h:List Cd)(hB:HB h)(i0:Int)(hi0:i0<h.length)(m:Bytes):FCall1 Tryd.prog tkG 71 [cvTb h,.int .i64 i0,.str m] (tupL (lookN h i0 m)):=by
 refine FCall.one tkG_pu (by simp [puL,puV,puTb]) (by unfold tupL;split <;> rfl) ?_;refine FCall.ofBody Tryd.func71 rfl rfl fun nx=>?_
 have hl:=hB.len;have hn:=tk_chain h hl i0 hi0;have hLl:(chainC h i0).1.length≤lim+1:=by have:=chainC_len h i0;omega
 have hLm:∀ i∈(chainC h i0).1,i<h.length:=chainC_mem h hi0;obtain⟨w,hw⟩:∃ w,lookN h i0 m=w:=⟨_,rfl⟩;rw [hw];unfold lookN at hw;generalize (chainC h i0).1=L at *;generalize (chainC h i0).2=cy at *
 repeat (first | (first | (apply Xf;rfl) | apply Xj);focus simp [cvTb, *,-Option.some.injEq];rfl | (first | (apply Xa;rfl) | apply Xb);(focus simp [cvTb, *];done);focus simp [cvTb, *,-Option.some.injEq];rfl | (first | (apply Xg;rfl) | apply Xk);(focus simp [cvTb, *];done) | (first | refine Xl ?_ | refine Xi ?_ | refine Xh ?_ | refine Xo ?_ | refine Xq ?_);try simp only [Xw,Xx,reduceIte,Nat.reduceEqDiff] | refine Xn ?_ | refine Xp rfl ?_ | refine Xc ?_ | apply Xd;focus simp [cvTb, *];done | apply Xe;focus simp [cvTb, *];done | refine Ya rfl rfl ?_)
 ((apply Xr);(focus rfl);(focus (first | rfl | (simp [cvTb, *];done)));(focus simp [cvTb, *,-Option.some.injEq];rfl);kernel_rfl)
 ·exact hn _
 repeat (first | (first | (apply Xf;rfl) | apply Xj);focus simp [*,-Option.some.injEq];rfl | (first | (apply Xa;rfl) | apply Xb);(focus simp [*];done);focus simp [*,-Option.some.injEq];rfl | (first | (apply Xg;rfl) | apply Xk);(focus simp [*];done) | (first | refine Xl ?_ | refine Xi ?_ | refine Xh ?_ | refine Xo ?_ | refine Xq ?_);try simp only [Xw,Xx,reduceIte,Nat.reduceEqDiff] | refine Xn ?_ | refine Xp rfl ?_ | refine Xc ?_ | apply Xd;focus simp [*];done | apply Xe;focus simp [*];done | refine Ya rfl rfl ?_)
 clear hn;refine AWp.countO L.length [6,7,11,12,21] 22 (fun i e H1 nx1=>e 21=.int .i64 i∧H1 nx=some (.cells [.lst (h.map cvD),.fmp ((frN h h.length).map .str) (frV h h.length)])∧lookW h m (L.drop i)=w) ⟨(by first | (simp (disch:=omega) [putE,over,ofV,ofS, *];done) | (simp (disch:=omega) [putE,over,ofV,ofS, *];rfl)),by simp [upd],hw⟩ ?_;rintro i v H1 nx1 hi hn1 ⟨h21,hT,hf⟩;clear hw;have q1:=far (show nx<nx1 by omega)
 repeat (first | (first | (apply Xf;rfl) | apply Xj);focus simp [*,-Option.some.injEq];rfl | (first | (apply Xa;rfl) | apply Xb);(focus simp [*];done);focus simp [*,-Option.some.injEq];rfl | (first | (apply Xg;rfl) | apply Xk);(focus simp [*];done) | (first | refine Xl ?_ | refine Xi ?_ | refine Xh ?_ | refine Xo ?_ | refine Xq ?_);try simp only [Xw,Xx,reduceIte,Nat.reduceEqDiff] | refine Xn ?_ | refine Xp rfl ?_ | refine Xc ?_ | apply Xd;focus simp [*];done | apply Xe;focus simp [*];done | refine Ya rfl rfl ?_)
 (((apply AWp.cond');(focus (simp [*,-Ax.CV.bool.injEq];rfl))) <;> (intro hb) <;> (try simp only [decide_eq_true_eq,decide_eq_false_iff_not,Bool.not_eq_true',Bool.not_eq_false',Bool.not_eq_true,Bool.not_eq_false] at hb))
 ·have hlt:i<L.length:=hb;have hwi:=lim_wrap1 hlt hLl;have hq:=hLm _ (List.getElem_mem hlt);have hml:=hB.ml _ (List.getElem_mem hq);rw [List.drop_eq_getElem_cons hlt,lookW,List.getElem?_eq_getElem hq] at hf;simp only at hf;clear hb;have hx:=tk_methodIn h[L[i]] hml m
  repeat (first | (first | (apply Xf;rfl) | apply Xj);focus simp [cvX,cvD, *,-Option.some.injEq];rfl | (first | (apply Xa;rfl) | apply Xb);(focus simp [cvX,cvD, *];done);focus simp [cvX,cvD, *,-Option.some.injEq];rfl | (first | (apply Xg;rfl) | apply Xk);(focus simp [cvX,cvD, *];done) | (first | refine Xl ?_ | refine Xi ?_ | refine Xh ?_ | refine Xo ?_ | refine Xq ?_);try simp only [Xw,Xx,reduceIte,Nat.reduceEqDiff] | refine Xn ?_ | refine Xp rfl ?_ | refine Xc ?_ | apply Xd;focus simp [cvX,cvD, *];done | apply Xe;focus simp [cvX,cvD, *];done | refine Ya rfl rfl ?_)
  ((apply Xr);(focus rfl);(focus (first | rfl | (simp [cvD, *];done)));(focus simp [cvD, *,-Option.some.injEq];rfl);kernel_rfl)
  ·exact hx _
  clear hx;cases hk:methN h[L[i]] m with
  | some k =>
    have e1:ofN (some k)=(k:Int):=rfl;rw [hk] at hf;simp only at hf;rw [← hf,e1];clear hf hk
    repeat (first | (first | (apply Xf;rfl) | apply Xj);focus simp [cvD,cvG, *,-Option.some.injEq];rfl | (first | (apply Xa;rfl) | apply Xb);(focus simp [cvD,cvG, *];done);focus simp [cvD,cvG, *,-Option.some.injEq];rfl | (first | (apply Xg;rfl) | apply Xk);(focus simp [cvD,cvG, *];done) | (first | refine Xl ?_ | refine Xi ?_ | refine Xh ?_ | refine Xo ?_ | refine Xq ?_);try simp only [Xw,Xx,reduceIte,Nat.reduceEqDiff] | refine Xn ?_ | refine Xp rfl ?_ | refine Xc ?_ | apply Xd;focus simp [cvD,cvG, *];done | apply Xe;focus simp [cvD,cvG, *];done | refine Ya rfl rfl ?_)
    (refine⟨_,(by simp [*];rfl),?_⟩;(try simp only [packA]))
    all_goals rfl
  | none =>
    have e1:ofN none=-1:=rfl;rw [hk] at hf;simp only at hf;rw [e1];clear hk
    repeat (first | (first | (apply Xf;rfl) | apply Xj);focus simp [*,-Option.some.injEq];rfl | (first | (apply Xa;rfl) | apply Xb);(focus simp [*];done);focus simp [*,-Option.some.injEq];rfl | (first | (apply Xg;rfl) | apply Xk);(focus simp [*];done) | (first | refine Xl ?_ | refine Xi ?_ | refine Xh ?_ | refine Xo ?_ | refine Xq ?_);try simp only [Xw,Xx,reduceIte,Nat.reduceEqDiff] | refine Xn ?_ | refine Xp rfl ?_ | refine Xc ?_ | apply Xd;focus simp [*];done | apply Xe;focus simp [*];done | refine Ya rfl rfl ?_)
    exact⟨by ((repeat (first | exact Keeps.base _ _ _ _ | (with_reducible exact Keeps.refl _ _ _) | (refine Keeps.put rfl ?_) | (refine Keeps.over' rfl rfl ?_)))),hlt,(by first | (simp (disch:=omega) [putE,over,ofV,ofS, *];done) | (simp (disch:=omega) [putE,over,ofV,ofS, *];rfl)),by simp [upd, *],hf⟩
 ·have hi':L.length≤i:=by omega
  rw [List.drop_eq_nil_of_le hi',lookW] at hf;rw [← hf]
  repeat (first | (first | (apply Xf;rfl) | apply Xj);focus simp [*,-Option.some.injEq];rfl | (first | (apply Xa;rfl) | apply Xb);(focus simp [*];done);focus simp [*,-Option.some.injEq];rfl | (first | (apply Xg;rfl) | apply Xk);(focus simp [*];done) | (first | refine Xl ?_ | refine Xi ?_ | refine Xh ?_ | refine Xo ?_ | refine Xq ?_);try simp only [Xw,Xx,reduceIte,Nat.reduceEqDiff] | refine Xn ?_ | refine Xp rfl ?_ | refine Xc ?_ | apply Xd;focus simp [*];done | apply Xe;focus simp [*];done | refine Ya rfl rfl ?_)
  (refine⟨_,(by simp [*];rfl),?_⟩;(try simp only [packA]))
  all_goals rfl
theorem lookW_some {h:List Cd}{m:Bytes}{j k:Nat}:∀ {l:List Nat},lookW h m l=some (j,k)→∃ hj:j<h.length,k<h[j].methods.length
 | [],hl=>by cases hl
 | i::l,hl=>by
   rw [lookW] at hl;cases hi:h[i]? with
   | none=>rw [hi] at hl;cases hl
   | some c =>
     rw [hi] at hl;simp only at hl;cases hk:methN c m with
     | none=>rw [hk] at hl;exact lookW_some hl
     | some q =>
       rw [hk] at hl;simp only [Option.some.injEq,Prod.mk.injEq] at hl;obtain⟨rfl,rfl⟩:=hl;obtain⟨h1,h2⟩:=List.getElem?_eq_some_iff.mp hi;refine⟨h1,?_⟩;rw [h2];exact (List.findIdx?_eq_some_iff_getElem.mp hk).1
def zSg:List CV:=[.str [],.bool false,.nils,.str []]
def tupG:Option (Bytes×Sg)→CV
 | none=>.tup [.str [],.agg zSg,.bool false]
 | some (c,g)=>.tup [.str c,.agg (cvG g),.bool true]
set_option maxRecDepth 10000 in
set_option maxHeartbeats 4000000 in
theorem tk_Lookup (h:List Cd)(hB:HB h)(s m:Bytes):FCall1 Tryd.prog tkG 65 [cvH h,.str s,.str m] (tupG (lookF h s m)):=by
 refine FCall.one tkG_pu (by simp [puL,puV,puH]) (by unfold tupG;split <;> simp [puL,puV,puG,zSg]) ?_;refine FCall.ofBody Tryd.func65 rfl rfl fun nx=>?_
 have hl:=hB.len;have hf:=tk_find h s;have hn:=tk_lookup h hB (findI h s) (findI_lt h s) m;obtain⟨w,hw⟩:∃ w,lookF h s m=w:=⟨_,rfl⟩;rw [hw];unfold lookF at hw;cases hx:lookN h (findI h s) m with
 | none =>
   rw [hx] at hw hn;simp only at hw;rw [← hw];have hn':FCall1 Tryd.prog tkG 71 [cvTb h,.int .i64 (findI h s),.str m] (.tup [.int .i64 (-1),.int .i64 (-1)]):=hn;clear hx hw hn;generalize findI h s=i0 at *
   repeat (first | (first | (apply Xf;rfl) | apply Xj);focus simp [cvH, *,-Option.some.injEq];rfl | (first | (apply Xa;rfl) | apply Xb);(focus simp [cvH, *];done);focus simp [cvH, *,-Option.some.injEq];rfl | (first | (apply Xg;rfl) | apply Xk);(focus simp [cvH, *];done) | (first | refine Xl ?_ | refine Xi ?_ | refine Xh ?_ | refine Xo ?_ | refine Xq ?_);try simp only [Xw,Xx,reduceIte,Nat.reduceEqDiff] | refine Xn ?_ | refine Xp rfl ?_ | refine Xc ?_ | apply Xd;focus simp [cvH, *];done | apply Xe;focus simp [cvH, *];done | refine Ya rfl rfl ?_)
   ((apply Xr);(focus rfl);(focus (first | rfl | (simp [cvH, *];done)));(focus simp [cvH, *,-Option.some.injEq];rfl);kernel_rfl)
   ·exact tk_tableOf h hl _
   repeat (first | (first | (apply Xf;rfl) | apply Xj);focus simp [cvTb, *,-Option.some.injEq];rfl | (first | (apply Xa;rfl) | apply Xb);(focus simp [cvTb, *];done);focus simp [cvTb, *,-Option.some.injEq];rfl | (first | (apply Xg;rfl) | apply Xk);(focus simp [cvTb, *];done) | (first | refine Xl ?_ | refine Xi ?_ | refine Xh ?_ | refine Xo ?_ | refine Xq ?_);try simp only [Xw,Xx,reduceIte,Nat.reduceEqDiff] | refine Xn ?_ | refine Xp rfl ?_ | refine Xc ?_ | apply Xd;focus simp [cvTb, *];done | apply Xe;focus simp [cvTb, *];done | refine Ya rfl rfl ?_)
   (first | (first | (apply AOpl.callN;rfl) | apply ASl.call);(focus simp [cvTb, *,-Option.some.injEq];rfl);kernel_rfl | (first | (apply AOpl.callNG;rfl) | apply ASl.callg);(focus simp [cvTb, *];done);(focus simp [cvTb, *,-Option.some.injEq];rfl);kernel_rfl)
   ·exact hf
   repeat (first | (first | (apply Xf;rfl) | apply Xj);focus simp [cvTb, *,-Option.some.injEq];rfl | (first | (apply Xa;rfl) | apply Xb);(focus simp [cvTb, *];done);focus simp [cvTb, *,-Option.some.injEq];rfl | (first | (apply Xg;rfl) | apply Xk);(focus simp [cvTb, *];done) | (first | refine Xl ?_ | refine Xi ?_ | refine Xh ?_ | refine Xo ?_ | refine Xq ?_);try simp only [Xw,Xx,reduceIte,Nat.reduceEqDiff] | refine Xn ?_ | refine Xp rfl ?_ | refine Xc ?_ | apply Xd;focus simp [cvTb, *];done | apply Xe;focus simp [cvTb, *];done | refine Ya rfl rfl ?_)
   (first | (first | (apply AOpl.callN;rfl) | apply ASl.call);(focus simp [cvTb, *,-Option.some.injEq];rfl);kernel_rfl | (first | (apply AOpl.callNG;rfl) | apply ASl.callg);(focus simp [cvTb, *];done);(focus simp [cvTb, *,-Option.some.injEq];rfl);kernel_rfl)
   ·exact hn'
   repeat (first | (first | (apply Xf;rfl) | apply Xj);focus simp [*,-Option.some.injEq];rfl | (first | (apply Xa;rfl) | apply Xb);(focus simp [*];done);focus simp [*,-Option.some.injEq];rfl | (first | (apply Xg;rfl) | apply Xk);(focus simp [*];done) | (first | refine Xl ?_ | refine Xi ?_ | refine Xh ?_ | refine Xo ?_ | refine Xq ?_);try simp only [Xw,Xx,reduceIte,Nat.reduceEqDiff] | refine Xn ?_ | refine Xp rfl ?_ | refine Xc ?_ | apply Xd;focus simp [*];done | apply Xe;focus simp [*];done | refine Ya rfl rfl ?_)
   (refine⟨_,(by simp [*];rfl),?_⟩;(try simp only [packA]))
   all_goals rfl
 | some p =>
   obtain⟨j,k⟩:=p;obtain⟨hj,hk⟩:=lookW_some hx;rw [hx] at hw hn;simp only [List.getElem?_eq_getElem hj,List.getElem?_eq_getElem hk] at hw;rw [← hw];have hn':FCall1 Tryd.prog tkG 71 [cvTb h,.int .i64 (findI h s),.str m] (.tup [.int .i64 (j:Int),.int .i64 (k:Int)]):=hn;have hc:=clone_N h[j].methods[k].params (hB.pl _ (List.getElem_mem hj) _ (List.getElem_mem hk));clear hx hw hn;generalize findI h s=i0 at *;have hji:¬ (j:Int)<0:=by omega
   repeat (first | (first | (apply Xf;rfl) | apply Xj);focus simp [cvH, *,-Option.some.injEq];rfl | (first | (apply Xa;rfl) | apply Xb);(focus simp [cvH, *];done);focus simp [cvH, *,-Option.some.injEq];rfl | (first | (apply Xg;rfl) | apply Xk);(focus simp [cvH, *];done) | (first | refine Xl ?_ | refine Xi ?_ | refine Xh ?_ | refine Xo ?_ | refine Xq ?_);try simp only [Xw,Xx,reduceIte,Nat.reduceEqDiff] | refine Xn ?_ | refine Xp rfl ?_ | refine Xc ?_ | apply Xd;focus simp [cvH, *];done | apply Xe;focus simp [cvH, *];done | refine Ya rfl rfl ?_)
   ((apply Xr);(focus rfl);(focus (first | rfl | (simp [cvH, *];done)));(focus simp [cvH, *,-Option.some.injEq];rfl);kernel_rfl)
   ·exact tk_tableOf h hl _
   repeat (first | (first | (apply Xf;rfl) | apply Xj);focus simp [cvTb, *,-Option.some.injEq];rfl | (first | (apply Xa;rfl) | apply Xb);(focus simp [cvTb, *];done);focus simp [cvTb, *,-Option.some.injEq];rfl | (first | (apply Xg;rfl) | apply Xk);(focus simp [cvTb, *];done) | (first | refine Xl ?_ | refine Xi ?_ | refine Xh ?_ | refine Xo ?_ | refine Xq ?_);try simp only [Xw,Xx,reduceIte,Nat.reduceEqDiff] | refine Xn ?_ | refine Xp rfl ?_ | refine Xc ?_ | apply Xd;focus simp [cvTb, *];done | apply Xe;focus simp [cvTb, *];done | refine Ya rfl rfl ?_)
   (first | (first | (apply AOpl.callN;rfl) | apply ASl.call);(focus simp [cvTb, *,-Option.some.injEq];rfl);kernel_rfl | (first | (apply AOpl.callNG;rfl) | apply ASl.callg);(focus simp [cvTb, *];done);(focus simp [cvTb, *,-Option.some.injEq];rfl);kernel_rfl)
   ·exact hf
   repeat (first | (first | (apply Xf;rfl) | apply Xj);focus simp [cvTb, *,-Option.some.injEq];rfl | (first | (apply Xa;rfl) | apply Xb);(focus simp [cvTb, *];done);focus simp [cvTb, *,-Option.some.injEq];rfl | (first | (apply Xg;rfl) | apply Xk);(focus simp [cvTb, *];done) | (first | refine Xl ?_ | refine Xi ?_ | refine Xh ?_ | refine Xo ?_ | refine Xq ?_);try simp only [Xw,Xx,reduceIte,Nat.reduceEqDiff] | refine Xn ?_ | refine Xp rfl ?_ | refine Xc ?_ | apply Xd;focus simp [cvTb, *];done | apply Xe;focus simp [cvTb, *];done | refine Ya rfl rfl ?_)
   (first | (first | (apply AOpl.callN;rfl) | apply ASl.call);(focus simp [cvTb, *,-Option.some.injEq];rfl);kernel_rfl | (first | (apply AOpl.callNG;rfl) | apply ASl.callg);(focus simp [cvTb, *];done);(focus simp [cvTb, *,-Option.some.injEq];rfl);kernel_rfl)
   ·exact hn'
   repeat (first | (first | (apply Xf;rfl) | apply Xj);focus simp [cvD,cvG, *,-Option.some.injEq];rfl | (first | (apply Xa;rfl) | apply Xb);(focus simp [cvD,cvG, *];done);focus simp [cvD,cvG, *,-Option.some.injEq];rfl | (first | (apply Xg;rfl) | apply Xk);(focus simp [cvD,cvG, *];done) | (first | refine Xl ?_ | refine Xi ?_ | refine Xh ?_ | refine Xo ?_ | refine Xq ?_);try simp only [Xw,Xx,reduceIte,Nat.reduceEqDiff] | refine Xn ?_ | refine Xp rfl ?_ | refine Xc ?_ | apply Xd;focus simp [cvD,cvG, *];done | apply Xe;focus simp [cvD,cvG, *];done | refine Ya rfl rfl ?_)
   ((apply Xr);(focus rfl);(focus (first | rfl | (simp [cvD,cvG, *];done)));(focus simp [cvD,cvG, *,-Option.some.injEq];rfl);kernel_rfl)
   ·exact hc _
   repeat (first | (first | (apply Xf;rfl) | apply Xj);focus simp [cvD,cvG, *,-Option.some.injEq];rfl | (first | (apply Xa;rfl) | apply Xb);(focus simp [cvD,cvG, *];done);focus simp [cvD,cvG, *,-Option.some.injEq];rfl | (first | (apply Xg;rfl) | apply Xk);(focus simp [cvD,cvG, *];done) | (first | refine Xl ?_ | refine Xi ?_ | refine Xh ?_ | refine Xo ?_ | refine Xq ?_);try simp only [Xw,Xx,reduceIte,Nat.reduceEqDiff] | refine Xn ?_ | refine Xp rfl ?_ | refine Xc ?_ | apply Xd;focus simp [cvD,cvG, *];done | apply Xe;focus simp [cvD,cvG, *];done | refine Ya rfl rfl ?_)
   (refine⟨_,(by simp [*];rfl),?_⟩;(try simp only [packA]))
   all_goals rfl
end
end Go.Proofs.YtoookjadbhdfhaaDoor
