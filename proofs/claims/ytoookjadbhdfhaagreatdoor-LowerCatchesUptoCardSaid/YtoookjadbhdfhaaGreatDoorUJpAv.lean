/-
  overrides, field, method, class, Check of hier; walked.
-/
import Derived.Test.YtoookjadbhdfhaaGreatDoorUJpAu
import Derived.Test.YtoookjadbhdfhaaGreatDoorUJpAs
set_option linter.unusedSectionVars false
set_option linter.unusedSimpArgs false
set_option linter.unnecessarySimpa false
set_option linter.unusedVariables false
set_option linter.unusedSimpArgs false
set_option linter.unusedVariables false
namespace Go.Proofs.YtoookjadbhdfhaaGreatDoor
section
open Lx Ax Go.RowKit
attribute [local simp] stepS Ax.stepT Dl.on qstep astep estep rd putE over argE ofV ofS loadA pickCells isAggD faddA fieldA partA iaddA idxA bnd binA intA strA unA convA bltA lenA mapOf findK keyD scalD storeA appA srcA srcD upd drp Dl.hp Dl.nx CV.cs CV.one buildA placesA fillA zrep tasA ifaceD eqA eqFs eqIs range2 copyA nbeq nble nblt decEq beqI bneI beqS bneS isED Int.ofNat_inj List.getElem?_map List.getElem?_eq_getElem Option.map_some ti_int ti_bool ti_str ti_i64 ti_Strs ti_Cds ti_Cd ti_Flds ti_Fld ti_Sgs ti_Sg ti_Tb ti_Hi ti_Ints ti_Errno gd gdB callA resA op1
attribute [local simp] nu1 nu2 nu3 nu4 nu5 nu6 nu7 nu8 nu9 nu10 nu11 nu12 nu13 upd_upd
set_option maxRecDepth 10000 in
set_option maxHeartbeats 4000000 in
theorem tk_overrides (m o:Sg)(hm:m.params.length≤lim):FCall1 Tryz.prog tkG 86 [.agg (cvG m),.agg (cvG o)] (.bool (overF m o)):=by
 refine FCall.one tkG_pu (by simp [puL,puV,puG]) rfl ?_;refine FCall.ofBody Tryz.func86 rfl rfl fun nx=>?_
 have he:=equal_N m.params o.params hm;obtain⟨w,hw⟩:∃ w,overF m o=w:=⟨_,rfl⟩;rw [hw];unfold overF at hw;cases h1:m.static with
 | true =>
   rw [h1] at hw;simp only [Bool.not_true,Bool.false_and] at hw;rw [← hw];clear hw;refine gWf cvG.eq_1 ?_
   (refine⟨_,(by simp [*];rfl),?_⟩;(try simp only [packA]))
 | false =>
   cases h2:o.static with
   | true =>
     rw [h1,h2] at hw;simp only [Bool.not_true,Bool.not_false,Bool.and_false,Bool.false_and] at hw;rw [← hw];clear hw;refine gWf cvG.eq_1 ?_
     (refine⟨_,(by simp [*];rfl),?_⟩;(try simp only [packA]))
   | false =>
     rw [h1,h2] at hw
     by_cases h3:m.result=o.result
     ·have hb:(m.result == o.result)=true:=by simp [h3]
      rw [hb] at hw;simp only [Bool.not_false,Bool.and_true,Bool.true_and] at hw;rw [← hw];clear hw hb;generalize (m.params == o.params)=z at *;refine gWf cvG.eq_1 ?_
      ((apply Xr);(focus rfl);(focus (first | rfl | (simp [cvG, *];done)));(focus simp [cvG, *,-Option.some.injEq];rfl);kernel_rfl)
      ·exact he _
      cases z
      ·refine gW ?_
       (refine⟨_,(by simp [*];rfl),?_⟩;(try simp only [packA]))
      ·refine gW ?_
       (refine⟨_,(by simp [*];rfl),?_⟩;(try simp only [packA]))
     ·have hb:(m.result == o.result)=false:=by simpa using h3
      rw [hb] at hw;simp only [Bool.and_false,Bool.false_and] at hw;rw [← hw];clear hw hb;refine gWf cvG.eq_1 ?_
      (refine⟨_,(by simp [*];rfl),?_⟩;(try simp only [packA]))
theorem sli_tail {H:Heap}(a:Nat)(up:List Nat):sliA Tryz.prog H 49 (.lst ([.int .i64 (a:Int)]::up.map cvX)) (some (.int .i64 1)) none=some (.lst (up.map cvX)):=by
 have:=sliA_lo (P:=Tryz.prog) (H:=H) (kk:=.i64) (rows:=cvX a::up.map cvX) (m:=1) ti_Ints ti_int (fun r hr=>by
  rcases List.mem_cons.mp hr with rfl | hr
  ·rfl
  ·obtain⟨b,_,rfl⟩:=List.mem_map.mp hr;rfl) (by simp)
 simpa [cvX] using this
def inF (h:List Cd)(s:Bytes)(i:Nat):Bool:=match h[i]? with
 | some d=>decide (0≤ofN (fieldN d s))
 | none=>false
theorem fldE_eq (h:List Cd)(c:Cd)(up:List Nat)(k:Nat)(f:Fld):fldE h c up k f=if isIdent f.name=false then 5 else if typB h f.typ=false then 8 else if ofN (fieldN c f.name)<(k:Int) then 7 else if up.any (inF h f.name)=true then 7 else 0:=rfl
set_option maxRecDepth 10000 in
set_option maxHeartbeats 4000000 in
theorem tk_field (h:List Cd)(hB:HB h)(a:Nat)(up:List Nat)(ha:a<h.length)(hup:∀ i∈up,i<h.length)(hul:up.length≤lim)(k:Nat)(hk:k<h[a].fields.length) :
  FCall1 Tryz.prog tkG 61 [cvTb h,.lst (cvX a::up.map cvX),.int .i64 k] (.int .i64 (fldE h h[a] up k h[a].fields[k]:Nat)):=by
 refine FCall.one tkG_pu (by simp [puL,puV,puTb,puRm puX,puR,puX]) rfl ?_;refine FCall.ofBody Tryz.func61 rfl rfl fun nx=>?_
 have hsl:∀ H:Heap,sliA Tryz.prog H 49 (.lst ([.int .i64 (a:Int)]::up.map cvX)) (some (.int .i64 1)) none=some (.lst (up.map cvX)):=fun H=>sli_tail a up
 have hfl:=hB.fl _ (List.getElem_mem ha);have hnm:=hB.fn _ (List.getElem_mem ha) _ (List.getElem_mem hk);have hid:=tk_ident h[a].fields[k].name hnm;have hty:=tk_isType h h[a].fields[k].typ;have hfi:=tk_fieldIn h[a] hfl h[a].fields[k].name;obtain⟨w,hw⟩:∃ w,fldE h h[a] up k h[a].fields[k]=w:=⟨_,rfl⟩;rw [hw];rw [fldE_eq] at hw;refine gWf (And.intro cvTb.eq_1 (And.intro cvX.eq_1 (And.intro cvD.eq_1 cvF.eq_1))) ?_
 ((apply Xr);(focus rfl);(focus (first | rfl | (simp [cvTb,cvF, *];done)));(focus simp [cvTb,cvF, *,-Option.some.injEq];rfl);kernel_rfl)
 ·exact hid _
 clear hid;cases h1:isIdent h[a].fields[k].name with
 | false =>
   rw [if_pos h1] at hw;rw [← hw];clear hw;refine gW ?_
   (refine⟨_,(by simp [*];rfl),?_⟩;(try simp only [packA]))
   all_goals rfl
 | true =>
 rw [if_neg (by rw [h1];simp)] at hw;clear h1;refine gWf cvF.eq_1 ?_
 ((apply Xr);(focus rfl);(focus (first | rfl | (simp [cvTb, *];done)));(focus simp [cvTb, *,-Option.some.injEq];rfl);kernel_rfl)
 ·exact hty _
 clear hty;cases h2:typB h h[a].fields[k].typ with
 | false =>
   rw [if_pos h2] at hw;rw [← hw];clear hw;refine gW ?_
   (refine⟨_,(by simp [*];rfl),?_⟩;(try simp only [packA]))
   all_goals rfl
 | true =>
 rw [if_neg (by rw [h2];simp)] at hw;clear h2;refine gWf cvD.eq_1 ?_
 ((apply Xr);(focus rfl);(focus (first | rfl | (simp [cvD, *];done)));(focus simp [cvD, *,-Option.some.injEq];rfl);kernel_rfl)
 ·exact hfi _
 clear hfi;generalize ofN (fieldN h[a] h[a].fields[k].name)=z at *
 by_cases h3:z<(k:Int)
 ·rw [if_pos h3] at hw;rw [← hw];clear hw;refine gW ?_
  (refine⟨_,(by simp [*];rfl),?_⟩;(try simp only [packA]))
  all_goals rfl
 rw [if_neg h3] at hw;refine gWf cvX.eq_1 ?_;refine AWp.countO up.length [6,10,41] 42 (fun i e H1 nx1=>e 41=.int .i64 i∧H1 nx=some (.cells [.lst (h.map cvD),.fmp ((frN h h.length).map .str) (frV h h.length)])∧H1 (nx+1+9)=some (.cells [.str h[a].fields[k].name,.str h[a].fields[k].typ])∧(up.take i).any (inF h h[a].fields[k].name)=false) ⟨(by first | (simp (disch:=omega) [putE,over,ofV,ofS, *];done) | (simp (disch:=omega) [putE,over,ofV,ofS, *];rfl)),by simp [upd],by simp [upd],rfl⟩ ?_;rintro i v H1 nx1 hi hn1 ⟨h41,hT,h8,hf⟩;have q1:=far (show nx<nx1 by omega);have q2:=far (show nx+1+9<nx1 by omega);refine gW ?_
 (((apply AWp.cond');(focus (simp [*,-Ax.CV.bool.injEq];rfl))) <;> (intro hb) <;> (try simp only [decide_eq_true_eq,decide_eq_false_iff_not,Bool.not_eq_true',Bool.not_eq_false',Bool.not_eq_true,Bool.not_eq_false] at hb))
 ·have hlt:i<up.length:=hb;have hwi:=lim_wrap hlt hul;have hq:=hup _ (List.getElem_mem hlt);have hfl2:=hB.fl _ (List.getElem_mem hq);clear hb;have hx:=tk_fieldIn h[up[i]] hfl2 h[a].fields[k].name;have hin:inF h h[a].fields[k].name up[i]=decide (0≤ofN (fieldN h[up[i]] h[a].fields[k].name)):=by simp only [inF,List.getElem?_eq_getElem hq]
  generalize ofN (fieldN h[up[i]] h[a].fields[k].name)=y at *;refine gWf (And.intro cvX.eq_1 cvD.eq_1) ?_
  (first | (first | (apply AOpl.callN;rfl) | apply ASl.call);(focus simp [cvD, *,-Option.some.injEq];rfl);kernel_rfl | (first | (apply AOpl.callNG;rfl) | apply ASl.callg);(focus simp [cvD, *];done);(focus simp [cvD, *,-Option.some.injEq];rfl);kernel_rfl)
  ·exact hx
  clear hx
  by_cases hy:0≤y
  ·have ha2:up.any (inF h h[a].fields[k].name)=true:=List.any_eq_true.mpr ⟨_,List.getElem_mem hlt,by rw [hin];simp [hy]⟩;rw [if_pos ha2] at hw;rw [← hw];clear hw hin hf;refine gW ?_
   (refine⟨_,(by simp [*];rfl),?_⟩;(try simp only [packA]))
   all_goals rfl
  ·have ha2:=any_next hlt hf (by rw [hin];simp [hy]);clear hin hf;refine gW ?_;exact⟨by ((repeat (first | exact Keeps.base _ _ _ _ | (with_reducible exact Keeps.refl _ _ _) | (refine Keeps.put rfl ?_) | (refine Keeps.over' rfl rfl ?_)))),hlt,(by first | (simp (disch:=omega) [putE,over,ofV,ofS, *];done) | (simp (disch:=omega) [putE,over,ofV,ofS, *];rfl)),by simp [upd, *],by simp [upd, *],ha2⟩
 ·have hi':i=up.length:=by omega
  rw [hi',List.take_length] at hf;rw [if_neg (by rw [hf];simp)] at hw;rw [← hw];clear hw hf hb;refine gW ?_
  (refine⟨_,(by simp [*];rfl),?_⟩;(try simp only [packA]))
  all_goals rfl
end
section
open Lx Ax Go.RowKit
attribute [local simp] stepS Ax.stepT Dl.on qstep astep estep rd putE over argE ofV ofS loadA pickCells isAggD faddA fieldA partA iaddA idxA bnd binA intA strA unA convA bltA lenA mapOf findK keyD scalD storeA appA srcA srcD upd drp Dl.hp Dl.nx CV.cs CV.one buildA placesA fillA zrep tasA ifaceD eqA eqFs eqIs range2 copyA nbeq nble nblt decEq beqI bneI beqS bneS isED Int.ofNat_inj List.getElem?_map List.getElem?_eq_getElem Option.map_some ti_int ti_bool ti_str ti_i64 ti_Strs ti_Cds ti_Cd ti_Flds ti_Fld ti_Sgs ti_Sg ti_Tb ti_Hi ti_Ints ti_Errno gd gdB callA resA op1
attribute [local simp] nu1 nu2 nu3 nu4 nu5 nu6 nu7 nu8 nu9 nu10 nu11 nu12 nu13 upd_upd
def badM (m o:Sg):Bool:=o.name == m.name && !overF m o
def inM (h:List Cd)(m:Sg)(i:Nat):Bool:=match h[i]? with
 | some d=>d.methods.any (badM m)
 | none=>false
theorem metE_eq (h:List Cd)(c:Cd)(up:List Nat)(k:Nat)(m:Sg):metE h c up k m=if isIdent m.name=false then 5 else if ofN (methN c m.name)<(k:Int) then 7 else if 6<m.params.length then 3
 else if m.params.any (fun p=>!typB h p)=true then 8 else if m.result≠[]∧typB h m.result=false then 8
 else if up.any (inM h m)=true then 11 else 0:=rfl
set_option maxRecDepth 10000 in
set_option maxHeartbeats 8000000 in
theorem tk_method (h:List Cd)(hB:HB h)(a:Nat)(up:List Nat)(ha:a<h.length)(hup:∀ i∈up,i<h.length)(hul:up.length≤lim)(k:Nat)(hk:k<h[a].methods.length) :
  FCall1 Tryz.prog tkG 62 [cvTb h,.lst (cvX a::up.map cvX),.int .i64 k] (.int .i64 (metE h h[a] up k h[a].methods[k]:Nat)):=by
 refine FCall.one tkG_pu (by simp [puL,puV,puTb,puRm puX,puR,puX]) rfl ?_;refine FCall.ofBody Tryz.func62 rfl rfl fun nx=>?_
 have hsl:∀ H:Heap,sliA Tryz.prog H 49 (.lst ([.int .i64 (a:Int)]::up.map cvX)) (some (.int .i64 1)) none=some (.lst (up.map cvX)):=fun H=>sli_tail a up
 have hml:=hB.ml _ (List.getElem_mem ha);have hnm:=hB.mn _ (List.getElem_mem ha) _ (List.getElem_mem hk);have hpl:=hB.pl _ (List.getElem_mem ha) _ (List.getElem_mem hk);obtain⟨m,hm⟩:∃ m,h[a].methods[k]=m:=⟨_,rfl⟩;have hget:h[a].methods[k]?=some m:=by rw [List.getElem?_eq_getElem hk,hm]
 rw [hm] at hnm hpl ⊢;have hid:=tk_ident m.name hnm;have hty:=tk_isType h m.result;have hfi:=tk_methodIn h[a] hml m.name;obtain⟨w,hw⟩:∃ w,metE h h[a] up k m=w:=⟨_,rfl⟩;rw [hw];rw [metE_eq] at hw;refine gWf (And.intro cvTb.eq_1 (And.intro cvX.eq_1 (And.intro cvD.eq_1 cvG.eq_1))) ?_
 ((apply Xr);(focus rfl);(focus (first | rfl | (simp [cvTb, *];done)));(focus simp [cvTb, *,-Option.some.injEq];rfl);kernel_rfl)
 ·exact hid _
 clear hid;cases h1:isIdent m.name with
 | false =>
   rw [if_pos h1] at hw;rw [← hw];clear hw;refine gW ?_
   (refine⟨_,(by simp [*];rfl),?_⟩;(try simp only [packA]))
   all_goals rfl
 | true =>
 rw [if_neg (by rw [h1];simp)] at hw;clear h1;refine gWf cvD.eq_1 ?_
 ((apply Xr);(focus rfl);(focus (first | rfl | (simp [cvD, *];done)));(focus simp [cvD, *,-Option.some.injEq];rfl);kernel_rfl)
 ·exact hfi _
 clear hfi;generalize ofN (methN h[a] m.name)=z at *
 by_cases h3:z<(k:Int)
 ·rw [if_pos h3] at hw;rw [← hw];clear hw;refine gW ?_
  (refine⟨_,(by simp [*];rfl),?_⟩;(try simp only [packA]))
  all_goals rfl
 rw [if_neg h3] at hw
 by_cases h4:6<m.params.length
 ·rw [if_pos h4] at hw;rw [← hw];clear hw;have h4':(6:Int)<m.params.length:=by omega
  refine gW ?_
  (refine⟨_,(by simp [*];rfl),?_⟩;(try simp only [packA]))
  all_goals rfl
 rw [if_neg h4] at hw;have h4':¬ (6:Int)<m.params.length:=by omega
 refine gW ?_;clear h4 h4';refine AWp.countO m.params.length [6,10,44] 45 (fun i e H1 nx1=>e 44=.int .i64 i∧H1 nx=some (.cells [.lst (h.map cvD),.fmp ((frN h h.length).map .str) (frV h h.length)])∧H1 (nx+1+9)=some (.cells [.str m.name,.bool m.static,.lst (m.params.map cvN),.str m.result])∧(m.params.take i).any (fun p=>!typB h p)=false) ⟨(by first | (simp (disch:=omega) [putE,over,ofV,ofS, *];done) | (simp (disch:=omega) [putE,over,ofV,ofS, *];rfl)),by simp [upd],by simp [upd],rfl⟩ ?_;rintro i v H1 nx1 hi hn1 ⟨h44,hT,h8,hf⟩;have q1:=far (show nx<nx1 by omega);have q2:=far (show nx+1+9<nx1 by omega);refine gW ?_
 (((apply AWp.cond');(focus (simp [*,-Ax.CV.bool.injEq];rfl))) <;> (intro hb) <;> (try simp only [decide_eq_true_eq,decide_eq_false_iff_not,Bool.not_eq_true',Bool.not_eq_false',Bool.not_eq_true,Bool.not_eq_false] at hb))
 ·have hlt:i<m.params.length:=hb;have hwi:=lim_wrap hlt hpl;clear hb;have hx:=tk_isType h m.params[i];cases hy:typB h m.params[i] with
  | false =>
    rw [hy] at hx;rw [if_pos (List.any_eq_true.mpr ⟨_,List.getElem_mem hlt,by rw [hy];rfl⟩)] at hw;rw [← hw];clear hw hf hy;refine gWf cvN.eq_1 ?_
    ((apply Xr);(focus rfl);(focus (first | rfl | (simp [cvTb, *];done)));(focus simp [cvTb, *,-Option.some.injEq];rfl);kernel_rfl)
    ·exact hx _
    refine gW ?_
    (refine⟨_,(by simp [*];rfl),?_⟩;(try simp only [packA]))
    all_goals rfl
  | true =>
    have ha2:=any_next (p:=fun p=>!typB h p) hlt hf (by rw [hy];rfl);rw [hy] at hx;clear hf hy;refine gWf cvN.eq_1 ?_
    ((apply Xr);(focus rfl);(focus (first | rfl | (simp [cvTb, *];done)));(focus simp [cvTb, *,-Option.some.injEq];rfl);kernel_rfl)
    ·exact hx _
    refine gW ?_;exact⟨by ((repeat (first | exact Keeps.base _ _ _ _ | (with_reducible exact Keeps.refl _ _ _) | (refine Keeps.put rfl ?_) | (refine Keeps.over' rfl rfl ?_)))),hlt,(by first | (simp (disch:=omega) [putE,over,ofV,ofS, *];done) | (simp (disch:=omega) [putE,over,ofV,ofS, *];rfl)),by simp [upd, *],by simp [upd, *],ha2⟩
 have hi':i=m.params.length:=by omega
 rw [hi',List.take_length] at hf;rw [if_neg (by rw [hf];simp)] at hw;clear hf hb hi' hi h44 hm hget
 repeat (first | (first | (apply Xf;rfl) | apply Xj);focus simp [*,-Option.some.injEq];rfl | (first | (apply Xa;rfl) | apply Xb);(focus simp [*];done);focus simp [*,-Option.some.injEq];rfl | (first | (apply Xg;rfl) | apply Xk);(focus simp [*];done) | (first | refine Xl ?_ | refine Xi ?_ | refine Xh ?_ | refine Xo ?_ | refine Xq ?_);try simp only [Xx,Xy,reduceIte,Nat.reduceEqDiff] | refine Xn ?_ | refine Xp rfl ?_ | refine Xc ?_ | apply Xd;focus simp [*];done | apply Xe;focus simp [*];done | refine Yb rfl rfl ?_ | (first | (apply AOpl.pickOrZ;rfl) | (apply AOpl.pickAndZ;rfl));(focus (simp [*,-Ax.CV.bool.injEq];rfl));(focus (intro hq;(try simp only [Bool.not_eq_true',Bool.not_eq_false',decide_eq_true_eq,decide_eq_false_iff_not,Bool.and_eq_true,Bool.or_eq_false_iff] at hq);simp [*,-Ax.CV.bool.injEq];rfl));intro z hz | (first | (apply AOpl.pickOrGZ;rfl) | (apply AOpl.pickAndGZ;rfl));(focus simp [*];done);(focus (simp [*,-Ax.CV.bool.injEq];rfl));(focus (intro hq;(try simp only [Bool.not_eq_true',Bool.not_eq_false',decide_eq_true_eq,decide_eq_false_iff_not,Bool.and_eq_true,Bool.or_eq_false_iff] at hq);simp [*,-Ax.CV.bool.injEq];rfl));intro z hz | (first | (apply AOpl.pickOrCZ;rfl) | (apply AOpl.pickAndCZ;rfl));(focus (simp [*,-Ax.CV.bool.injEq,-Option.some.injEq];rfl));(focus (intro hq;(try simp only [Bool.not_eq_true',Bool.not_eq_false',decide_eq_true_eq,decide_eq_false_iff_not,Bool.and_eq_true,Bool.or_eq_false_iff] at hq);simp [*,-Ax.CV.bool.injEq];rfl));(focus (intro hp hq;(try simp only [Bool.not_eq_true',Bool.not_eq_false',decide_eq_true_eq,decide_eq_false_iff_not,Bool.and_eq_true,Bool.or_eq_false_iff] at hp hq);simp [*,-Ax.CV.bool.injEq];rfl));intro z hz | (apply AOpl.passC;rfl);focus simp [*,-Ax.CV.bool.injEq];done | (apply AOpl.lookC;rfl);(focus (simp [*,-Ax.CV.bool.injEq,-Option.some.injEq];rfl));focus intro _;simp [*,-Option.some.injEq];rfl)
 ((apply AOpl.callC);(focus rfl);(focus (simp [cvTb, *,-Ax.CV.bool.injEq,-Option.some.injEq];rfl));(focus (intro _;simp [cvTb, *,-Option.some.injEq];rfl));(focus (kernel_rfl)))
 ·intro _;exact hty.f
 intro nx2 hn2;clear hty
 repeat (first | (first | (apply Xf;rfl) | apply Xj);focus simp [*,-Option.some.injEq];rfl | (first | (apply Xa;rfl) | apply Xb);(focus simp [*];done);focus simp [*,-Option.some.injEq];rfl | (first | (apply Xg;rfl) | apply Xk);(focus simp [*];done) | (first | refine Xl ?_ | refine Xi ?_ | refine Xh ?_ | refine Xo ?_ | refine Xq ?_);try simp only [Xx,Xy,reduceIte,Nat.reduceEqDiff] | refine Xn ?_ | refine Xp rfl ?_ | refine Xc ?_ | apply Xd;focus simp [*];done | apply Xe;focus simp [*];done | refine Yb rfl rfl ?_ | (first | (apply AOpl.pickOrZ;rfl) | (apply AOpl.pickAndZ;rfl));(focus (simp [*,-Ax.CV.bool.injEq];rfl));(focus (intro hq;(try simp only [Bool.not_eq_true',Bool.not_eq_false',decide_eq_true_eq,decide_eq_false_iff_not,Bool.and_eq_true,Bool.or_eq_false_iff] at hq);simp [*,-Ax.CV.bool.injEq];rfl));intro z hz | (first | (apply AOpl.pickOrGZ;rfl) | (apply AOpl.pickAndGZ;rfl));(focus simp [*];done);(focus (simp [*,-Ax.CV.bool.injEq];rfl));(focus (intro hq;(try simp only [Bool.not_eq_true',Bool.not_eq_false',decide_eq_true_eq,decide_eq_false_iff_not,Bool.and_eq_true,Bool.or_eq_false_iff] at hq);simp [*,-Ax.CV.bool.injEq];rfl));intro z hz | (first | (apply AOpl.pickOrCZ;rfl) | (apply AOpl.pickAndCZ;rfl));(focus (simp [*,-Ax.CV.bool.injEq,-Option.some.injEq];rfl));(focus (intro hq;(try simp only [Bool.not_eq_true',Bool.not_eq_false',decide_eq_true_eq,decide_eq_false_iff_not,Bool.and_eq_true,Bool.or_eq_false_iff] at hq);simp [*,-Ax.CV.bool.injEq];rfl));(focus (intro hp hq;(try simp only [Bool.not_eq_true',Bool.not_eq_false',decide_eq_true_eq,decide_eq_false_iff_not,Bool.and_eq_true,Bool.or_eq_false_iff] at hp hq);simp [*,-Ax.CV.bool.injEq];rfl));intro z hz | (apply AOpl.passC;rfl);focus simp [*,-Ax.CV.bool.injEq];done | (apply AOpl.lookC;rfl);(focus (simp [*,-Ax.CV.bool.injEq,-Option.some.injEq];rfl));focus intro _;simp [*,-Option.some.injEq];rfl)
 cases z with
 | true =>
   rw [if_pos (by simpa using hz)] at hw;rw [← hw];clear hw hz;refine gW ?_
   (refine⟨_,(by simp [*];rfl),?_⟩;(try simp only [packA]))
   all_goals rfl
 | false =>
 rw [if_neg (by simp at hz ⊢;exact hz)] at hw;clear hz h3;have q1:=far (show nx<nx2 by omega);have q2:=far (show nx+1+9<nx2 by omega);refine gWf cvX.eq_1 ?_;refine AWp.countO up.length [6,12,14,66] 67 (fun i e H1 nx1=>e 66=.int .i64 i∧H1 nx=some (.cells [.lst (h.map cvD),.fmp ((frN h h.length).map .str) (frV h h.length)])∧H1 (nx+1+9)=some (.cells [.str m.name,.bool m.static,.lst (m.params.map cvN),.str m.result])∧(up.take i).any (inM h m)=false) ⟨(by first | (simp (disch:=omega) [putE,over,ofV,ofS, *];done) | (simp (disch:=omega) [putE,over,ofV,ofS, *];rfl)),by simp [upd, *],by simp [upd, *],rfl⟩ ?_;clear hT h8 q1 q2;rintro i v2 H1 nx3 hi hn3 ⟨h66,hT,h8,hf⟩;have q1:=far (show nx<nx3 by omega);have q2:=far (show nx+1+9<nx3 by omega);refine gW ?_
 (((apply AWp.cond');(focus (simp [*,-Ax.CV.bool.injEq];rfl))) <;> (intro hb) <;> (try simp only [decide_eq_true_eq,decide_eq_false_iff_not,Bool.not_eq_true',Bool.not_eq_false',Bool.not_eq_true,Bool.not_eq_false] at hb))
 ·have hlt:i<up.length:=hb;have hwi:=lim_wrap hlt hul;have hq:=hup _ (List.getElem_mem hlt);have hml2:=hB.ml _ (List.getElem_mem hq);clear hb;have hin:inM h m up[i]=h[up[i]].methods.any (badM m):=by simp only [inM,List.getElem?_eq_getElem hq]
  refine gWf (And.intro cvX.eq_1 cvD.eq_1) ?_;refine AWp.countO h[up[i]].methods.length [6,14,77] 78 (fun j e H1 nx1=>e 77=.int .i64 j∧H1 nx=some (.cells [.lst (h.map cvD),.fmp ((frN h h.length).map .str) (frV h h.length)])∧H1 (nx+1+9)=some (.cells [.str m.name,.bool m.static,.lst (m.params.map cvN),.str m.result])∧(h[up[i]].methods.take j).any (badM m)=false) ⟨(by first | (simp (disch:=omega) [putE,over,ofV,ofS, *];done) | (simp (disch:=omega) [putE,over,ofV,ofS, *];rfl)),by simp [upd, *],by simp [upd, *],rfl⟩ ?_;clear hT h8 q1 q2;rintro j v3 H2 nx4 hj hn4 ⟨h77,hT,h8,hg⟩;have q1:=far (show nx<nx4 by omega);have q2:=far (show nx+1+9<nx4 by omega);refine gW ?_
  (((apply AWp.cond');(focus (simp [*,-Ax.CV.bool.injEq];rfl))) <;> (intro hb) <;> (try simp only [decide_eq_true_eq,decide_eq_false_iff_not,Bool.not_eq_true',Bool.not_eq_false',Bool.not_eq_true,Bool.not_eq_false] at hb))
  ·have hlj:j<h[up[i]].methods.length:=hb;have hwj:=lim_wrap hlj hml2;clear hb;have hov:=tk_overrides m h[up[i]].methods[j] hpl;have hbad:badM m h[up[i]].methods[j]=(h[up[i]].methods[j].name == m.name && !overF m h[up[i]].methods[j]):=rfl;have hany:badM m h[up[i]].methods[j]=true→(11:Nat)=w:=fun hb=>by
    have h1:h[up[i]].methods.any (badM m)=true:=List.any_eq_true.mpr ⟨_,List.getElem_mem hlj,hb⟩;rw [if_pos (List.any_eq_true.mpr ⟨_,List.getElem_mem hlt,by rw [hin];exact h1⟩)] at hw;exact hw
   have hgo:=fun hb=>any_next (p:=badM m) hlj hg hb
   by_cases ho:h[up[i]].methods[j].name=m.name
   ·have hoe:(h[up[i]].methods[j].name == m.name)=true:=by simp [ho]
    rw [hoe,Bool.true_and] at hbad;clear hoe;generalize hoq:h[up[i]].methods[j]=o at *;obtain⟨on,ost,op,ore⟩:=o;simp only at ho;subst ho;cases hv:overF m ⟨m.name,ost,op,ore⟩ with
    | true =>
      rw [hv] at hbad hov;have hg2:=hgo hbad;clear hv hbad hany hgo hg hin hf hw;refine gWf cvG.eq_1 ?_
      ((apply Xr);(focus rfl);(focus (first | rfl | (simp [cvG, *];done)));(focus simp [cvG, *,-Option.some.injEq];rfl);kernel_rfl)
      ·exact hov _
      refine gW ?_;exact⟨by ((repeat (first | exact Keeps.base _ _ _ _ | (with_reducible exact Keeps.refl _ _ _) | (refine Keeps.put rfl ?_) | (refine Keeps.over' rfl rfl ?_)))),hlj,(by first | (simp (disch:=omega) [putE,over,ofV,ofS, *];done) | (simp (disch:=omega) [putE,over,ofV,ofS, *];rfl)),by simp [upd, *],by simp [upd, *],hg2⟩
    | false =>
      rw [hv] at hbad hov;have hg2:=hany hbad;rw [← hg2];clear hv hbad hany hgo hg hin hf hw;refine gWf cvG.eq_1 ?_
      ((apply Xr);(focus rfl);(focus (first | rfl | (simp [cvG, *];done)));(focus simp [cvG, *,-Option.some.injEq];rfl);kernel_rfl)
      ·exact hov _
      refine gW ?_
      (refine⟨_,(by simp [*];rfl),?_⟩;(try simp only [packA]))
      all_goals rfl
   ·have hoe:(h[up[i]].methods[j].name == m.name)=false:=by simpa using ho
    rw [hoe,Bool.false_and] at hbad;have hg2:=hgo hbad;clear hoe hbad hany hgo hg hin hf hw hov;refine gWf cvG.eq_1 ?_;exact⟨by ((repeat (first | exact Keeps.base _ _ _ _ | (with_reducible exact Keeps.refl _ _ _) | (refine Keeps.put rfl ?_) | (refine Keeps.over' rfl rfl ?_)))),hlj,(by first | (simp (disch:=omega) [putE,over,ofV,ofS, *];done) | (simp (disch:=omega) [putE,over,ofV,ofS, *];rfl)),by simp [upd, *],by simp [upd, *],hg2⟩
  ·have hj':j=h[up[i]].methods.length:=by omega
   rw [hj',List.take_length] at hg;have ha2:=any_next (p:=inM h m) hlt hf (by rw [hin];exact hg);clear hin hg hf hj' hb hw;refine gW ?_;exact⟨by ((repeat (first | exact Keeps.base _ _ _ _ | (with_reducible exact Keeps.refl _ _ _) | (refine Keeps.put rfl ?_) | (refine Keeps.over' rfl rfl ?_)))),hlt,(by first | (simp (disch:=omega) [putE,over,ofV,ofS, *];done) | (simp (disch:=omega) [putE,over,ofV,ofS, *];rfl)),by simp [upd, *],by simp [upd, *],ha2⟩
 ·have hi':i=up.length:=by omega
  rw [hi',List.take_length] at hf;rw [if_neg (by rw [hf];simp)] at hw;rw [← hw];clear hw hf hb;refine gW ?_
  (refine⟨_,(by simp [*];rfl),?_⟩;(try simp only [packA]))
  all_goals rfl
end
section
open Lx Ax Go.RowKit
attribute [local simp] stepS Ax.stepT Dl.on qstep astep estep rd putE over argE ofV ofS loadA pickCells isAggD faddA fieldA partA iaddA idxA bnd binA intA strA unA convA bltA lenA mapOf findK keyD scalD storeA appA srcA srcD upd drp Dl.hp Dl.nx CV.cs CV.one buildA placesA fillA zrep tasA ifaceD eqA eqFs eqIs range2 copyA nbeq nble nblt decEq beqI bneI beqS bneS isED Int.ofNat_inj List.getElem?_map List.getElem?_eq_getElem Option.map_some ti_int ti_bool ti_str ti_i64 ti_Strs ti_Cds ti_Cd ti_Flds ti_Fld ti_Sgs ti_Sg ti_Tb ti_Hi ti_Ints ti_Errno gd gdB callA resA op1
attribute [local simp] nu1 nu2 nu3 nu4 nu5 nu6 nu7 nu8 nu9 nu10 nu11 nu12 nu13 upd_upd
theorem chainF_pre (h:List Cd):∀ (n:Nat) (acc:List Nat) (i:Int),∃ r,(chainF h n acc i).1=acc++r
 | 0,acc,i=>⟨[],by simp [chainF]⟩
 | n+1,acc,i=>by
   simp only [chainF];split
   ·exact⟨[],by simp⟩
   ·split
    ·exact⟨[],by simp⟩
    ·obtain⟨r,hr⟩:=chainF_pre h n (acc++[i.toNat]) (superI h i.toNat);exact⟨i.toNat::r,by rw [hr];simp⟩
theorem chain_head (h:List Cd)(i:Nat):(chainC h (i:Int)).1=i::(chainC h (i:Int)).1.drop 1:=by
 unfold chainC;rw [chainF];have h1:¬ (i:Int)<0:=by omega
 simp only [h1,if_false,List.contains_nil,Bool.false_eq_true,Int.toNat_natCast,List.nil_append];obtain⟨r,hr⟩:=chainF_pre h h.length [i] (superI h i);rw [hr];rfl
theorem firstAt_hit {α:Type}{f:Nat→α→Nat}{k:Nat}{x:α}{l:List α}(h:f k x≠0):firstAt f k (x::l)=f k x:=by rw [firstAt,if_pos h]
theorem firstAt_miss {α:Type}{f:Nat→α→Nat}{k:Nat}{x:α}{l:List α}(h:f k x=0):firstAt f k (x::l)=firstAt f (k+1) l:=by rw [firstAt,if_neg (by rw [h];simp)]
set_option maxRecDepth 10000 in
set_option maxHeartbeats 8000000 in
theorem tk_class (h:List Cd)(hB:HB h)(a:Nat)(ha:a<h.length):FCall1 Tryz.prog tkG 37 [cvTb h,.int .i64 a] (.int .i64 (clsE h a h[a]:Nat)):=by
 refine FCall.one tkG_pu (by simp [puL,puV,puTb]) rfl ?_;refine FCall.ofBody Tryz.func37 rfl rfl fun nx=>?_
 have hl:=hB.len;have hfl:=hB.fl _ (List.getElem_mem ha);have hml:=hB.ml _ (List.getElem_mem ha);have hid:=tk_ident h[a].name (hB.cn _ (List.getElem_mem ha));have hf1:=tk_find h h[a].name;have hf2:=tk_find h h[a].super;have hch:=tk_chain h hl (a:Int) (by omega);obtain⟨up,hup⟩:∃ up,(chainC h (a:Int)).1.drop 1=up:=⟨_,rfl⟩;have hL:=chain_head h a;rw [hup] at hL;have hupm:∀ i∈up,i<h.length:=fun i hi=>chainC_mem h (i:=(a:Int)) (by omega) i (by rw [hL];exact List.mem_cons_of_mem _ hi)
 have hupl:up.length≤lim:=by
  have:=chainC_len h (a:Int);rw [hL] at this;simp only [List.length_cons] at this;omega
 have hfd:=fun k hk=>tk_field h hB a up ha hupm hupl k hk
 have hmt:=fun k hk=>tk_method h hB a up ha hupm hupl k hk
 obtain⟨w,hw⟩:∃ w,clsE h a h[a]=w:=⟨_,rfl⟩;rw [hw];unfold clsE at hw;rw [hup] at hw;rw [hL,List.map_cons] at hch;clear hL hup;generalize (chainC h (a:Int)).2=cy at *;refine gWf (And.intro cvTb.eq_1 cvD.eq_1) ?_
 ((apply Xr);(focus rfl);(focus (first | rfl | (simp [*];done)));(focus simp [*,-Option.some.injEq];rfl);kernel_rfl)
 ·exact hid _
 clear hid;cases h1:isIdent h[a].name with
 | false =>
   rw [if_pos h1] at hw;rw [← hw];clear hw;refine gW ?_
   (refine⟨_,(by simp [*];rfl),?_⟩;(try simp only [packA]))
   all_goals rfl
 | true =>
 rw [if_neg (by rw [h1];simp)] at hw;clear h1;refine gW ?_
 ((apply Xr);(focus rfl);(focus (first | rfl | (simp [cvTb, *];done)));(focus simp [cvTb, *,-Option.some.injEq];rfl);kernel_rfl)
 ·exact hf1 _
 clear hf1;generalize findI h h[a].name=z1 at *
 by_cases h2:z1=(a:Int)
 case neg =>
  rw [if_pos h2] at hw;rw [← hw];clear hw;refine gW ?_
  (refine⟨_,(by simp [*];rfl),?_⟩;(try simp only [packA]))
  all_goals rfl
 rw [if_neg (by rw [h2];simp)] at hw;subst h2
 repeat (first | (first | (apply Xf;rfl) | apply Xj);focus simp [*,-Option.some.injEq];rfl | (first | (apply Xa;rfl) | apply Xb);(focus simp [*];done);focus simp [*,-Option.some.injEq];rfl | (first | (apply Xg;rfl) | apply Xk);(focus simp [*];done) | (first | refine Xl ?_ | refine Xi ?_ | refine Xh ?_ | refine Xo ?_ | refine Xq ?_);try simp only [Xx,Xy,reduceIte,Nat.reduceEqDiff] | refine Xn ?_ | refine Xp rfl ?_ | refine Xc ?_ | apply Xd;focus simp [*];done | apply Xe;focus simp [*];done | refine Yb rfl rfl ?_ | (first | (apply AOpl.pickOrZ;rfl) | (apply AOpl.pickAndZ;rfl));(focus (simp [*,-Ax.CV.bool.injEq];rfl));(focus (intro hq;(try simp only [Bool.not_eq_true',Bool.not_eq_false',decide_eq_true_eq,decide_eq_false_iff_not,Bool.and_eq_true,Bool.or_eq_false_iff] at hq);simp [*,-Ax.CV.bool.injEq];rfl));intro z hz | (first | (apply AOpl.pickOrGZ;rfl) | (apply AOpl.pickAndGZ;rfl));(focus simp [*];done);(focus (simp [*,-Ax.CV.bool.injEq];rfl));(focus (intro hq;(try simp only [Bool.not_eq_true',Bool.not_eq_false',decide_eq_true_eq,decide_eq_false_iff_not,Bool.and_eq_true,Bool.or_eq_false_iff] at hq);simp [*,-Ax.CV.bool.injEq];rfl));intro z hz | (first | (apply AOpl.pickOrCZ;rfl) | (apply AOpl.pickAndCZ;rfl));(focus (simp [*,-Ax.CV.bool.injEq,-Option.some.injEq];rfl));(focus (intro hq;(try simp only [Bool.not_eq_true',Bool.not_eq_false',decide_eq_true_eq,decide_eq_false_iff_not,Bool.and_eq_true,Bool.or_eq_false_iff] at hq);simp [*,-Ax.CV.bool.injEq];rfl));(focus (intro hp hq;(try simp only [Bool.not_eq_true',Bool.not_eq_false',decide_eq_true_eq,decide_eq_false_iff_not,Bool.and_eq_true,Bool.or_eq_false_iff] at hp hq);simp [*,-Ax.CV.bool.injEq];rfl));intro z hz | (apply AOpl.passC;rfl);focus simp [*,-Ax.CV.bool.injEq];done | (apply AOpl.lookC;rfl);(focus (simp [*,-Ax.CV.bool.injEq,-Option.some.injEq];rfl));focus intro _;simp [*,-Option.some.injEq];rfl)
 ((apply AOpl.callC);(focus rfl);(focus (simp [cvTb, *,-Ax.CV.bool.injEq,-Option.some.injEq];rfl));(focus (intro _;simp [cvTb, *,-Option.some.injEq];rfl));(focus (kernel_rfl)))
 ·intro _;exact hf2.f
 intro nx2 hn2;clear hf2
 repeat (first | (first | (apply Xf;rfl) | apply Xj);focus simp [*,-Option.some.injEq];rfl | (first | (apply Xa;rfl) | apply Xb);(focus simp [*];done);focus simp [*,-Option.some.injEq];rfl | (first | (apply Xg;rfl) | apply Xk);(focus simp [*];done) | (first | refine Xl ?_ | refine Xi ?_ | refine Xh ?_ | refine Xo ?_ | refine Xq ?_);try simp only [Xx,Xy,reduceIte,Nat.reduceEqDiff] | refine Xn ?_ | refine Xp rfl ?_ | refine Xc ?_ | apply Xd;focus simp [*];done | apply Xe;focus simp [*];done | refine Yb rfl rfl ?_ | (first | (apply AOpl.pickOrZ;rfl) | (apply AOpl.pickAndZ;rfl));(focus (simp [*,-Ax.CV.bool.injEq];rfl));(focus (intro hq;(try simp only [Bool.not_eq_true',Bool.not_eq_false',decide_eq_true_eq,decide_eq_false_iff_not,Bool.and_eq_true,Bool.or_eq_false_iff] at hq);simp [*,-Ax.CV.bool.injEq];rfl));intro z hz | (first | (apply AOpl.pickOrGZ;rfl) | (apply AOpl.pickAndGZ;rfl));(focus simp [*];done);(focus (simp [*,-Ax.CV.bool.injEq];rfl));(focus (intro hq;(try simp only [Bool.not_eq_true',Bool.not_eq_false',decide_eq_true_eq,decide_eq_false_iff_not,Bool.and_eq_true,Bool.or_eq_false_iff] at hq);simp [*,-Ax.CV.bool.injEq];rfl));intro z hz | (first | (apply AOpl.pickOrCZ;rfl) | (apply AOpl.pickAndCZ;rfl));(focus (simp [*,-Ax.CV.bool.injEq,-Option.some.injEq];rfl));(focus (intro hq;(try simp only [Bool.not_eq_true',Bool.not_eq_false',decide_eq_true_eq,decide_eq_false_iff_not,Bool.and_eq_true,Bool.or_eq_false_iff] at hq);simp [*,-Ax.CV.bool.injEq];rfl));(focus (intro hp hq;(try simp only [Bool.not_eq_true',Bool.not_eq_false',decide_eq_true_eq,decide_eq_false_iff_not,Bool.and_eq_true,Bool.or_eq_false_iff] at hp hq);simp [*,-Ax.CV.bool.injEq];rfl));intro z hz | (apply AOpl.passC;rfl);focus simp [*,-Ax.CV.bool.injEq];done | (apply AOpl.lookC;rfl);(focus (simp [*,-Ax.CV.bool.injEq,-Option.some.injEq];rfl));focus intro _;simp [*,-Option.some.injEq];rfl)
 cases z with
 | true =>
   rw [if_pos (by simpa using hz)] at hw;rw [← hw];clear hw hz;refine gW ?_
   (refine⟨_,(by simp [*];rfl),?_⟩;(try simp only [packA]))
   all_goals rfl
 | false =>
 rw [if_neg (by simp at hz ⊢;exact hz)] at hw;clear hz;have q1:=far (show nx<nx2 by omega);have q2:=far (show nx+1<nx2 by omega);refine gW ?_
 ((apply Xr);(focus rfl);(focus (first | rfl | (simp [cvTb, *];done)));(focus simp [cvTb, *,-Option.some.injEq];rfl);kernel_rfl)
 ·exact hch _
 clear hch;cases cy with
 | true =>
   rw [if_pos rfl] at hw;rw [← hw];clear hw;refine gW ?_
   (refine⟨_,(by simp [*];rfl),?_⟩;(try simp only [packA]))
   all_goals rfl
 | false =>
 rw [if_neg (by simp)] at hw
 by_cases h3:16<h[a].fields.length
 ·rw [if_pos (.inl h3)] at hw;rw [← hw];clear hw;have h3':(16:Int)<h[a].fields.length:=by omega
  refine gW ?_
  (refine⟨_,(by simp [*];rfl),?_⟩;(try simp only [packA]))
  all_goals rfl
 have h3':¬ (16:Int)<h[a].fields.length:=by omega
 by_cases h4:16<h[a].methods.length
 ·rw [if_pos (.inr h4)] at hw;rw [← hw];clear hw;have h4':(16:Int)<h[a].methods.length:=by omega
  refine gW ?_
  (refine⟨_,(by simp [*];rfl),?_⟩;(try simp only [packA]))
  all_goals rfl
 have h4':¬ (16:Int)<h[a].methods.length:=by omega
 rw [if_neg (by omega)] at hw;clear h3 h4;obtain⟨F,hF⟩:∃ F,firstAt (fldE h h[a] up) 0 h[a].fields=F:=⟨_,rfl⟩;rw [hF] at hw;refine gW ?_;refine AWp.countO h[a].fields.length [4,8,9,57] 58 (fun i e H1 nx1=>e 57=.int .i64 i∧H1 nx=some (.cells [.lst (h.map cvD),.fmp ((frN h h.length).map .str) (frV h h.length)])∧H1 (nx+1)=some (.cells [.str h[a].name,.str h[a].super,.lst (h[a].fields.map cvF),.lst (h[a].methods.map cvG)])∧firstAt (fldE h h[a] up) i (h[a].fields.drop i)=F) ⟨(by first | (simp (disch:=omega) [putE,over,ofV,ofS, *];done) | (simp (disch:=omega) [putE,over,ofV,ofS, *];rfl)),by simp [upd, *],by simp [upd, *],hF⟩ ?_;clear hF;rintro i v H1 nx1 hi hn1 ⟨h57,hT,hC,hf⟩;have q1:=far (show nx<nx1 by omega);have q2:=far (show nx+1<nx1 by omega);refine gW ?_
 (((apply AWp.cond');(focus (simp [*,-Ax.CV.bool.injEq];rfl))) <;> (intro hb) <;> (try simp only [decide_eq_true_eq,decide_eq_false_iff_not,Bool.not_eq_true',Bool.not_eq_false',Bool.not_eq_true,Bool.not_eq_false] at hb))
 ·have hlt:i<h[a].fields.length:=hb;have hwi:=lim_wrap hlt hfl;clear hb;have hx:=hfd i hlt;rw [List.drop_eq_getElem_cons hlt] at hf
  by_cases hz:fldE h h[a] up i h[a].fields[i]=0
  ·rw [firstAt_miss hz] at hf;rw [hz,show ((0:Nat):Int)=0 from rfl] at hx;clear hz hw hfd hmt;refine gW ?_
   ((apply Xr);(focus rfl);(focus (first | rfl | (simp [cvTb,cvX, *];done)));(focus simp [cvTb,cvX, *,-Option.some.injEq];rfl);kernel_rfl)
   ·exact hx _
   refine gW ?_;exact⟨by ((repeat (first | exact Keeps.base _ _ _ _ | (with_reducible exact Keeps.refl _ _ _) | (refine Keeps.put rfl ?_) | (refine Keeps.over' rfl rfl ?_)))),hlt,(by first | (simp (disch:=omega) [putE,over,ofV,ofS, *];done) | (simp (disch:=omega) [putE,over,ofV,ofS, *];rfl)),by simp [upd, *],by simp [upd, *],hf⟩
  ·rw [firstAt_hit hz] at hf;rw [hf] at hx hz;rw [if_pos hz] at hw;rw [← hw];clear hw;have hz':¬ ((F:Nat):Int)=0:=by omega
   clear hfd hmt hf;refine gW ?_
   ((apply Xr);(focus rfl);(focus (first | rfl | (simp [cvTb,cvX, *];done)));(focus simp [cvTb,cvX, *,-Option.some.injEq];rfl);kernel_rfl)
   ·exact hx _
   refine gW ?_
   (refine⟨_,(by simp [*];rfl),?_⟩;(try simp only [packA]))
 ·have hi':h[a].fields.length≤i:=by omega
  rw [List.drop_eq_nil_of_le hi',firstAt] at hf;subst hf;clear hb hi';rw [if_neg (by simp)] at hw;obtain⟨F,hF⟩:∃ F,firstAt (metE h h[a] up) 0 h[a].methods=F:=⟨_,rfl⟩;rw [hF] at hw;subst hw;clear h57 hi;refine gW ?_;refine AWp.countO h[a].methods.length [4,10,11,71] 72 (fun i e H1 nx1=>e 71=.int .i64 i∧H1 nx=some (.cells [.lst (h.map cvD),.fmp ((frN h h.length).map .str) (frV h h.length)])∧H1 (nx+1)=some (.cells [.str h[a].name,.str h[a].super,.lst (h[a].fields.map cvF),.lst (h[a].methods.map cvG)])∧firstAt (metE h h[a] up) i (h[a].methods.drop i)=F) ⟨(by first | (simp (disch:=omega) [putE,over,ofV,ofS, *];done) | (simp (disch:=omega) [putE,over,ofV,ofS, *];rfl)),by simp [upd, *],by simp [upd, *],hF⟩ ?_;clear hF;clear hT hC q1 q2;rintro i v2 H2 nx4 hi hn4 ⟨h71,hT,hC,hf⟩;have q1:=far (show nx<nx4 by omega);have q2:=far (show nx+1<nx4 by omega);refine gW ?_
  (((apply AWp.cond');(focus (simp [*,-Ax.CV.bool.injEq];rfl))) <;> (intro hb) <;> (try simp only [decide_eq_true_eq,decide_eq_false_iff_not,Bool.not_eq_true',Bool.not_eq_false',Bool.not_eq_true,Bool.not_eq_false] at hb))
  ·have hlt:i<h[a].methods.length:=hb;have hwi:=lim_wrap hlt hml;clear hb;have hx:=hmt i hlt;rw [List.drop_eq_getElem_cons hlt] at hf
   by_cases hz:metE h h[a] up i h[a].methods[i]=0
   ·rw [firstAt_miss hz] at hf;rw [hz,show ((0:Nat):Int)=0 from rfl] at hx;clear hz hfd hmt;refine gW ?_
    ((apply Xr);(focus rfl);(focus (first | rfl | (simp [cvTb,cvX, *];done)));(focus simp [cvTb,cvX, *,-Option.some.injEq];rfl);kernel_rfl)
    ·exact hx _
    refine gW ?_;exact⟨by ((repeat (first | exact Keeps.base _ _ _ _ | (with_reducible exact Keeps.refl _ _ _) | (refine Keeps.put rfl ?_) | (refine Keeps.over' rfl rfl ?_)))),hlt,(by first | (simp (disch:=omega) [putE,over,ofV,ofS, *];done) | (simp (disch:=omega) [putE,over,ofV,ofS, *];rfl)),by simp [upd, *],by simp [upd, *],hf⟩
   ·rw [firstAt_hit hz] at hf;rw [hf] at hx hz
    skip
    have hz':¬ ((F:Nat):Int)=0:=by omega
    clear hfd hmt hf;refine gW ?_
    ((apply Xr);(focus rfl);(focus (first | rfl | (simp [cvTb,cvX, *];done)));(focus simp [cvTb,cvX, *,-Option.some.injEq];rfl);kernel_rfl)
    ·exact hx _
    refine gW ?_
    (refine⟨_,(by simp [*];rfl),?_⟩;(try simp only [packA]))
  ·have hi':h[a].methods.length≤i:=by omega
   rw [List.drop_eq_nil_of_le hi',firstAt] at hf;subst hf;clear hb hi';refine gW ?_
   (refine⟨_,(by simp [*];rfl),?_⟩;(try simp only [packA]))
   all_goals rfl
end
section
open Lx Ax Go.RowKit
attribute [local simp] stepS Ax.stepT Dl.on qstep astep estep rd putE over argE ofV ofS loadA pickCells isAggD faddA fieldA partA iaddA idxA sliA bnd binA intA strA unA convA bltA lenA mapOf findK keyD scalD storeA appA srcA srcD upd drp Dl.hp Dl.nx CV.cs CV.one buildA placesA fillA zrep tasA ifaceD eqA eqFs eqIs range2 copyA nbeq nble nblt decEq beqI bneI beqS bneS isED Int.ofNat_inj List.getElem?_map List.getElem?_eq_getElem Option.map_some ti_int ti_bool ti_str ti_i64 ti_Strs ti_Cds ti_Cd ti_Flds ti_Fld ti_Sgs ti_Sg ti_Tb ti_Hi ti_Ints ti_Errno gd gdB callA resA op1
attribute [local simp] nu1 nu2 nu3 nu4 nu5 nu6 nu7 nu8 nu9 nu10 nu11 nu12 nu13 upd_upd
set_option maxRecDepth 10000 in
set_option maxHeartbeats 8000000 in
theorem tk_Check (h:List Cd)(hB:HB h):FCall1 Tryz.prog tkG 19 [cvH h] (.tup [.int .i64 (checkF h).1,.int .i64 ((checkF h).2:Nat)]):=by
 refine FCall.one tkG_pu (by simp [puL,puV,puH]) rfl ?_;refine FCall.ofBody Tryz.func19 rfl rfl fun nx=>?_
 have hl:=hB.len;obtain⟨w,hw⟩:∃ w,checkF h=w:=⟨_,rfl⟩;rw [hw];unfold checkF at hw
 by_cases h1:64<h.length
 ·rw [if_pos h1] at hw;rw [← hw];clear hw;have h1':(64:Int)<h.length:=by omega
  refine gWf cvH.eq_1 ?_
  (refine⟨_,(by simp [*];rfl),?_⟩;(try simp only [packA]))
  all_goals rfl
 rw [if_neg h1] at hw;have h1':¬ (64:Int)<h.length:=by omega
 refine gWf cvH.eq_1 ?_
 ((apply Xr);(focus rfl);(focus (first | rfl | (simp [cvH, *];done)));(focus simp [cvH, *,-Option.some.injEq];rfl);kernel_rfl)
 ·exact tk_tableOf h hl _
 refine gWf cvTb.eq_1 ?_;clear h1 h1';refine AWp.countO h.length [2,3,5,6,16] 17 (fun i e H1 nx1=>e 16=.int .i64 i∧H1 (nx+1)=some (.cells [.lst (h.map cvD),.fmp ((frN h h.length).map .str) (frV h h.length)])∧checkW h i (h.drop i)=w) ⟨(by first | (simp (disch:=omega) [putE,over,ofV,ofS, *];done) | (simp (disch:=omega) [putE,over,ofV,ofS, *];rfl)),by simp [upd],hw⟩ ?_;clear hw;rintro i v H1 nx1 hi hn1 ⟨h16,hT,hf⟩;have q2:=far (show nx+1<nx1 by omega);refine gW ?_
 (((apply AWp.cond');(focus (simp [*,-Ax.CV.bool.injEq];rfl))) <;> (intro hb) <;> (try simp only [decide_eq_true_eq,decide_eq_false_iff_not,Bool.not_eq_true',Bool.not_eq_false',Bool.not_eq_true,Bool.not_eq_false] at hb))
 ·have hlt:i<h.length:=hb;have hwi:=lim_wrap hlt hl;clear hb;have hx:=tk_class h hB i hlt;rw [List.drop_eq_getElem_cons hlt,checkW] at hf
  by_cases hz:clsE h i h[i]=0
  ·rw [if_neg (by rw [hz];simp)] at hf;rw [hz,show ((0:Nat):Int)=0 from rfl] at hx;clear hz;refine gW ?_
   ((apply Xr);(focus rfl);(focus (first | rfl | (simp [cvTb, *];done)));(focus simp [cvTb, *,-Option.some.injEq];rfl);kernel_rfl)
   ·exact hx _
   refine gW ?_;exact⟨by ((repeat (first | exact Keeps.base _ _ _ _ | (with_reducible exact Keeps.refl _ _ _) | (refine Keeps.put rfl ?_) | (refine Keeps.over' rfl rfl ?_)))),hlt,(by first | (simp (disch:=omega) [putE,over,ofV,ofS, *];done) | (simp (disch:=omega) [putE,over,ofV,ofS, *];rfl)),by simp [upd, *],hf⟩
  ·rw [if_pos hz] at hf;subst hf;generalize clsE h i h[i]=F at *;refine gW ?_
   ((apply Xr);(focus rfl);(focus (first | rfl | (simp [cvTb, *];done)));(focus simp [cvTb, *,-Option.some.injEq];rfl);kernel_rfl)
   ·exact hx _
   refine gW ?_
   (refine⟨_,(by simp [*];rfl),?_⟩;(try simp only [packA]))
 ·have hi':h.length≤i:=by omega
  rw [List.drop_eq_nil_of_le hi',checkW] at hf;subst hf;clear hb hi';refine gW ?_
  (refine⟨_,(by simp [*];rfl),?_⟩;(try simp only [packA]))
  all_goals rfl
set_option maxRecDepth 10000 in
set_option maxHeartbeats 4000000 in
theorem tk_Type (h:List Cd)(hl:h.length≤lim)(s:Bytes):FCall1 Tryz.prog tkG 92 [cvH h,.str s] (.bool (typB h s)):=by
 refine FCall.one tkG_pu (by simp [puL,puV,puH]) rfl ?_;refine FCall.ofBody Tryz.func92 rfl rfl fun nx=>?_
 obtain⟨w,hw⟩:∃ w,w=typB h s:=⟨_,rfl⟩;rw [← hw];unfold typB intB at hw
 by_cases h1:s=[105,110,116]
 ·subst h1;have:w=true:=by rw [hw];rfl
  subst this;clear hw;refine gW ?_
  (refine⟨_,(by simp [*];rfl),?_⟩;(try simp only [packA]))
 ·have hb:(s == [105,110,116])=false:=by simpa using h1
  rw [hb,Bool.false_or] at hw;clear hb;refine gWf cvH.eq_1 ?_
  ((apply Xr);(focus rfl);(focus (first | rfl | (simp [cvH, *];done)));(focus simp [cvH, *,-Option.some.injEq];rfl);kernel_rfl)
  ·exact tk_Find h hl s _
  refine gW ?_
  (refine⟨_,(by simp [*];rfl),?_⟩;(try simp only [packA]))
  all_goals (rw [hw] <;> rfl)
set_option maxRecDepth 10000 in
set_option maxHeartbeats 4000000 in
theorem tk_isClass (h:List Cd)(hl:h.length≤lim)(s:Bytes):FCall1 Tryz.prog tkG 97 [cvH h,.str s] (.bool (clsB h s)):=by
 refine FCall.one tkG_pu (by simp [puL,puV,puH]) rfl ?_;refine FCall.ofBody Tryz.func97 rfl rfl fun nx=>?_
 obtain⟨w,hw⟩:∃ w,w=clsB h s:=⟨_,rfl⟩;rw [← hw];unfold clsB intB at hw
 by_cases h1:s=[105,110,116]
 ·subst h1;have:w=false:=by rw [hw];rfl
  subst this;clear hw;refine gW ?_
  (refine⟨_,(by simp [*];rfl),?_⟩;(try simp only [packA]))
 ·have hb:(s != [105,110,116])=true:=by simpa using h1
  rw [hb,Bool.true_and] at hw;clear hb;refine gWf cvH.eq_1 ?_
  ((apply Xr);(focus rfl);(focus (first | rfl | (simp [cvH, *];done)));(focus simp [cvH, *,-Option.some.injEq];rfl);kernel_rfl)
  ·exact tk_Find h hl s _
  refine gW ?_
  (refine⟨_,(by simp [*];rfl),?_⟩;(try simp only [packA]))
  all_goals (rw [hw] <;> rfl)
set_option maxRecDepth 10000 in
set_option maxHeartbeats 4000000 in
theorem tk_Assignable (h:List Cd)(hl:h.length+1≤lim)(a b:Bytes):FCall1 Tryz.prog tkG 102 [cvH h,.str a,.str b] (.bool (asgB h a b)):=by
 refine FCall.one tkG_pu (by simp [puL,puV,puH]) rfl ?_;refine FCall.ofBody Tryz.func102 rfl rfl fun nx=>?_
 have hca:=tk_isClass h (by omega) a;have hcb:=tk_isClass h (by omega) b;have hsub:=tk_IsSub h hl a b;obtain⟨w,hw⟩:∃ w,asgB h a b=w:=⟨_,rfl⟩;rw [hw];unfold asgB intB nullB at hw
 by_cases h1:b=[105,110,116]
 ·rw [if_pos h1] at hw;rw [beqS] at hw;rw [← hw];clear hw;refine gW ?_
  (refine⟨_,(by simp [*];rfl),?_⟩;(try simp only [packA]))
 rw [if_neg h1] at hw;cases h2:clsB h b with
 | false =>
   rw [if_pos h2] at hw;rw [h2] at hcb;rw [← hw];clear hw h2;refine gWf cvH.eq_1 ?_
   ((apply Xr);(focus rfl);(focus (first | rfl | (simp [cvH, *];done)));(focus simp [cvH, *,-Option.some.injEq];rfl);kernel_rfl)
   ·exact hcb _
   refine gW ?_
   (refine⟨_,(by simp [*];rfl),?_⟩;(try simp only [packA]))
 | true =>
   rw [if_neg (by rw [h2];simp)] at hw;rw [h2] at hcb;clear h2
   by_cases h3:a=b
   ·have hb3:(a == b)=true:=by simp [h3]
    rw [hb3,Bool.true_or,Bool.true_or] at hw;rw [← hw];clear hw hb3;refine gWf cvH.eq_1 ?_
    ((apply Xr);(focus rfl);(focus (first | rfl | (simp [cvH, *];done)));(focus simp [cvH, *,-Option.some.injEq];rfl);kernel_rfl)
    ·exact hcb _
    refine gW ?_
    (refine⟨_,(by simp [*];rfl),?_⟩;(try simp only [packA]))
   ·have hb3:(a == b)=false:=by simpa using h3
    rw [hb3,Bool.false_or] at hw
    by_cases h4:a=[110,117,108,108]
    ·have hb4:(a == [110,117,108,108])=true:=by simp [h4]
     rw [hb4,Bool.true_or] at hw;rw [← hw];clear hw hb3 hb4;refine gWf cvH.eq_1 ?_
     ((apply Xr);(focus rfl);(focus (first | rfl | (simp [cvH, *];done)));(focus simp [cvH, *,-Option.some.injEq];rfl);kernel_rfl)
     ·exact hcb _
     subst h4;refine gW ?_
     (refine⟨_,(by simp [*];rfl),?_⟩;(try simp only [packA]))
    ·have hb4:(a == [110,117,108,108])=false:=by simpa using h4
     rw [hb4,Bool.false_or] at hw;clear hb3 hb4;cases h5:clsB h a with
     | false =>
       rw [h5,Bool.false_and] at hw;rw [h5] at hca;rw [← hw];clear hw h5;refine gWf cvH.eq_1 ?_
       ((apply Xr);(focus rfl);(focus (first | rfl | (simp [cvH, *];done)));(focus simp [cvH, *,-Option.some.injEq];rfl);kernel_rfl)
       ·exact hcb _
       refine gWf cvH.eq_1 ?_
       ((apply Xr);(focus rfl);(focus (first | rfl | (simp [cvH, *];done)));(focus simp [cvH, *,-Option.some.injEq];rfl);kernel_rfl)
       ·exact hca _
       refine gW ?_
       (refine⟨_,(by simp [*];rfl),?_⟩;(try simp only [packA]))
     | true =>
       rw [h5,Bool.true_and] at hw;rw [h5] at hca;rw [hw] at hsub;clear hw h5;refine gWf cvH.eq_1 ?_
       ((apply Xr);(focus rfl);(focus (first | rfl | (simp [cvH, *];done)));(focus simp [cvH, *,-Option.some.injEq];rfl);kernel_rfl)
       ·exact hcb _
       refine gWf cvH.eq_1 ?_
       ((apply Xr);(focus rfl);(focus (first | rfl | (simp [cvH, *];done)));(focus simp [cvH, *,-Option.some.injEq];rfl);kernel_rfl)
       ·exact hca _
       refine gWf cvH.eq_1 ?_
       ((apply Xr);(focus rfl);(focus (first | rfl | (simp [cvH, *];done)));(focus simp [cvH, *,-Option.some.injEq];rfl);kernel_rfl)
       ·exact hsub _
       refine gW ?_
       (refine⟨_,(by simp [*];rfl),?_⟩;(try simp only [packA]))
end
end Go.Proofs.YtoookjadbhdfhaaGreatDoor
