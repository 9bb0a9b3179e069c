/-
  overrides, field, method, class, Check of hier; walked.
-/
import Derived.Test.YtoookjadbhdfhaaDoorTJpAz
import Derived.Test.YtoookjadbhdfhaaDoorTJpAv
set_option linter.unusedSectionVars false
set_option linter.unusedSimpArgs false
set_option linter.unnecessarySimpa false
set_option linter.unusedVariables false
set_option linter.unusedSimpArgs false
set_option linter.unusedVariables false
namespace Go.Proofs.YtoookjadbhdfhaaDoor
open Lx Ax Go.RowKit
attribute [local simp] stepS Ax.stepT Dl.on qstep astep estep rd putE over argE ofV ofS loadA pickCells isAggD faddA fieldA partA iaddA idxA bnd binA intA strA unA convA bltA lenA mapOf findK keyD scalD storeA appA srcA srcD upd drp Dl.hp Dl.nx CV.cs CV.one buildA placesA fillA zrep tasA ifaceD eqA eqFs eqIs range2 copyA nbeq nble nblt decEq beqI bneI beqS bneS isED Int.ofNat_inj List.getElem?_map List.getElem?_eq_getElem Option.map_some ti_int ti_bool ti_str ti_i64 ti_Strs ti_Cds ti_Cd ti_Flds ti_Fld ti_Sgs ti_Sg ti_Tb ti_Hi ti_Ints ti_Errno gd gdB callA resA op1
attribute [local simp] nu1 nu2 nu3 nu4 nu5 nu6 nu7 nu8 nu9 nu10 nu11 nu12 nu13 upd_upd
set_option maxRecDepth 10000 in
set_option maxHeartbeats 4000000 in
theorem tk_overrides (m o:Sg)(hm:m.params.length≤lim):FCall1 Tryd.prog tkG 56 [.agg (cvG m),.agg (cvG o)] (.bool (overF m o)):=by
 refine FCall.one tkG_pu (by simp [puL,puV,puG]) rfl ?_;refine FCall.ofBody Tryd.func56 rfl rfl fun nx=>?_
 have he:=equal_N m.params o.params hm;obtain⟨w,hw⟩:∃ w,overF m o=w:=⟨_,rfl⟩;rw [hw];unfold overF at hw;cases h1:m.static with
 | true =>
   rw [h1] at hw;simp only [Bool.not_true,Bool.false_and] at hw;rw [← hw];clear hw
   repeat (first | (first | (apply Xf;rfl) | apply Xj);focus simp [cvG, *,-Option.some.injEq];rfl | (first | (apply Xa;rfl) | apply Xb);(focus simp [cvG, *];done);focus simp [cvG, *,-Option.some.injEq];rfl | (first | (apply Xg;rfl) | apply Xk);(focus simp [cvG, *];done) | (first | refine Xl ?_ | refine Xi ?_ | refine Xh ?_ | refine Xo ?_ | refine Xq ?_);try simp only [Xw,Xx,reduceIte,Nat.reduceEqDiff] | refine Xn ?_ | refine Xp rfl ?_ | refine Xc ?_ | apply Xd;focus simp [cvG, *];done | apply Xe;focus simp [cvG, *];done | refine Ya rfl rfl ?_)
   (refine⟨_,(by simp [*];rfl),?_⟩;(try simp only [packA]))
 | false =>
   cases h2:o.static with
   | true =>
     rw [h1,h2] at hw;simp only [Bool.not_true,Bool.not_false,Bool.and_false,Bool.false_and] at hw;rw [← hw];clear hw
     repeat (first | (first | (apply Xf;rfl) | apply Xj);focus simp [cvG, *,-Option.some.injEq];rfl | (first | (apply Xa;rfl) | apply Xb);(focus simp [cvG, *];done);focus simp [cvG, *,-Option.some.injEq];rfl | (first | (apply Xg;rfl) | apply Xk);(focus simp [cvG, *];done) | (first | refine Xl ?_ | refine Xi ?_ | refine Xh ?_ | refine Xo ?_ | refine Xq ?_);try simp only [Xw,Xx,reduceIte,Nat.reduceEqDiff] | refine Xn ?_ | refine Xp rfl ?_ | refine Xc ?_ | apply Xd;focus simp [cvG, *];done | apply Xe;focus simp [cvG, *];done | refine Ya rfl rfl ?_)
     (refine⟨_,(by simp [*];rfl),?_⟩;(try simp only [packA]))
   | false =>
     rw [h1,h2] at hw
     by_cases h3:m.result=o.result
     ·have hb:(m.result == o.result)=true:=by simp [h3]
      rw [hb] at hw;simp only [Bool.not_false,Bool.and_true,Bool.true_and] at hw;rw [← hw];clear hw hb;generalize (m.params == o.params)=z at *
      repeat (first | (first | (apply Xf;rfl) | apply Xj);focus simp [cvG, *,-Option.some.injEq];rfl | (first | (apply Xa;rfl) | apply Xb);(focus simp [cvG, *];done);focus simp [cvG, *,-Option.some.injEq];rfl | (first | (apply Xg;rfl) | apply Xk);(focus simp [cvG, *];done) | (first | refine Xl ?_ | refine Xi ?_ | refine Xh ?_ | refine Xo ?_ | refine Xq ?_);try simp only [Xw,Xx,reduceIte,Nat.reduceEqDiff] | refine Xn ?_ | refine Xp rfl ?_ | refine Xc ?_ | apply Xd;focus simp [cvG, *];done | apply Xe;focus simp [cvG, *];done | refine Ya rfl rfl ?_)
      ((apply Xr);(focus rfl);(focus (first | rfl | (simp [cvG, *];done)));(focus simp [cvG, *,-Option.some.injEq];rfl);kernel_rfl)
      ·exact he _
      cases z
      ·repeat (first | (first | (apply Xf;rfl) | apply Xj);focus simp [*,-Option.some.injEq];rfl | (first | (apply Xa;rfl) | apply Xb);(focus simp [*];done);focus simp [*,-Option.some.injEq];rfl | (first | (apply Xg;rfl) | apply Xk);(focus simp [*];done) | (first | refine Xl ?_ | refine Xi ?_ | refine Xh ?_ | refine Xo ?_ | refine Xq ?_);try simp only [Xw,Xx,reduceIte,Nat.reduceEqDiff] | refine Xn ?_ | refine Xp rfl ?_ | refine Xc ?_ | apply Xd;focus simp [*];done | apply Xe;focus simp [*];done | refine Ya rfl rfl ?_)
       (refine⟨_,(by simp [*];rfl),?_⟩;(try simp only [packA]))
      ·repeat (first | (first | (apply Xf;rfl) | apply Xj);focus simp [*,-Option.some.injEq];rfl | (first | (apply Xa;rfl) | apply Xb);(focus simp [*];done);focus simp [*,-Option.some.injEq];rfl | (first | (apply Xg;rfl) | apply Xk);(focus simp [*];done) | (first | refine Xl ?_ | refine Xi ?_ | refine Xh ?_ | refine Xo ?_ | refine Xq ?_);try simp only [Xw,Xx,reduceIte,Nat.reduceEqDiff] | refine Xn ?_ | refine Xp rfl ?_ | refine Xc ?_ | apply Xd;focus simp [*];done | apply Xe;focus simp [*];done | refine Ya rfl rfl ?_)
       (refine⟨_,(by simp [*];rfl),?_⟩;(try simp only [packA]))
     ·have hb:(m.result == o.result)=false:=by simpa using h3
      rw [hb] at hw;simp only [Bool.and_false,Bool.false_and] at hw;rw [← hw];clear hw hb
      repeat (first | (first | (apply Xf;rfl) | apply Xj);focus simp [cvG, *,-Option.some.injEq];rfl | (first | (apply Xa;rfl) | apply Xb);(focus simp [cvG, *];done);focus simp [cvG, *,-Option.some.injEq];rfl | (first | (apply Xg;rfl) | apply Xk);(focus simp [cvG, *];done) | (first | refine Xl ?_ | refine Xi ?_ | refine Xh ?_ | refine Xo ?_ | refine Xq ?_);try simp only [Xw,Xx,reduceIte,Nat.reduceEqDiff] | refine Xn ?_ | refine Xp rfl ?_ | refine Xc ?_ | apply Xd;focus simp [cvG, *];done | apply Xe;focus simp [cvG, *];done | refine Ya rfl rfl ?_)
      (refine⟨_,(by simp [*];rfl),?_⟩;(try simp only [packA]))
theorem sli_tail {H:Heap}(a:Nat)(up:List Nat):sliA Tryd.prog H 87 (.lst ([.int .i64 (a:Int)]::up.map cvX)) (some (.int .i64 1)) none=some (.lst (up.map cvX)):=by
 have:=sliA_lo (P:=Tryd.prog) (H:=H) (kk:=.i64) (rows:=cvX a::up.map cvX) (m:=1) ti_Ints ti_int (fun r hr=>by
  rcases List.mem_cons.mp hr with rfl | hr
  ·rfl
  ·obtain⟨b,_,rfl⟩:=List.mem_map.mp hr;rfl) (by simp)
 simpa [cvX] using this
def inF (h:List Cd)(s:Bytes)(i:Nat):Bool:=match h[i]? with
 | some d=>decide (0≤ofN (fieldN d s))
 | none=>false
theorem fldE_eq (h:List Cd)(c:Cd)(up:List Nat)(k:Nat)(f:Fld):fldE h c up k f=if isIdent f.name=false then 5 else if typB h f.typ=false then 8 else if ofN (fieldN c f.name)<(k:Int) then 7 else if up.any (inF h f.name)=true then 7 else 0:=rfl
set_option maxRecDepth 10000 in
set_option maxHeartbeats 4000000 in
theorem tk_field (h:List Cd)(hB:HB h)(a:Nat)(up:List Nat)(ha:a<h.length)(hup:∀ i∈up,i<h.length)(hul:up.length≤lim)(k:Nat)(hk:k<h[a].fields.length) :
  FCall1 Tryd.prog tkG 34 [cvTb h,.lst (cvX a::up.map cvX),.int .i64 k] (.int .i64 (fldE h h[a] up k h[a].fields[k]:Nat)):=by
 refine FCall.one tkG_pu (by simp [puL,puV,puTb,puRm puX,puR,puX]) rfl ?_;refine FCall.ofBody Tryd.func34 rfl rfl fun nx=>?_
 have hsl:∀ H:Heap,sliA Tryd.prog H 87 (.lst ([.int .i64 (a:Int)]::up.map cvX)) (some (.int .i64 1)) none=some (.lst (up.map cvX)):=fun H=>sli_tail a up
 have hfl:=hB.fl _ (List.getElem_mem ha);have hnm:=hB.fn _ (List.getElem_mem ha) _ (List.getElem_mem hk);have hid:=tk_ident h[a].fields[k].name hnm;have hty:=tk_isType h h[a].fields[k].typ;have hfi:=tk_fieldIn h[a] hfl h[a].fields[k].name;obtain⟨w,hw⟩:∃ w,fldE h h[a] up k h[a].fields[k]=w:=⟨_,rfl⟩;rw [hw];rw [fldE_eq] at hw
 repeat (first | (first | (apply Xf;rfl) | apply Xj);focus simp [cvTb,cvX,cvD,cvF, *,-Option.some.injEq];rfl | (first | (apply Xa;rfl) | apply Xb);(focus simp [cvTb,cvX,cvD,cvF, *];done);focus simp [cvTb,cvX,cvD,cvF, *,-Option.some.injEq];rfl | (first | (apply Xg;rfl) | apply Xk);(focus simp [cvTb,cvX,cvD,cvF, *];done) | (first | refine Xl ?_ | refine Xi ?_ | refine Xh ?_ | refine Xo ?_ | refine Xq ?_);try simp only [Xw,Xx,reduceIte,Nat.reduceEqDiff] | refine Xn ?_ | refine Xp rfl ?_ | refine Xc ?_ | apply Xd;focus simp [cvTb,cvX,cvD,cvF, *];done | apply Xe;focus simp [cvTb,cvX,cvD,cvF, *];done | refine Ya rfl rfl ?_)
 ((apply Xr);(focus rfl);(focus (first | rfl | (simp [cvTb,cvF, *];done)));(focus simp [cvTb,cvF, *,-Option.some.injEq];rfl);kernel_rfl)
 ·exact hid _
 clear hid;cases h1:isIdent h[a].fields[k].name with
 | false =>
   rw [if_pos h1] at hw;rw [← hw];clear hw
   repeat (first | (first | (apply Xf;rfl) | apply Xj);focus simp [*,-Option.some.injEq];rfl | (first | (apply Xa;rfl) | apply Xb);(focus simp [*];done);focus simp [*,-Option.some.injEq];rfl | (first | (apply Xg;rfl) | apply Xk);(focus simp [*];done) | (first | refine Xl ?_ | refine Xi ?_ | refine Xh ?_ | refine Xo ?_ | refine Xq ?_);try simp only [Xw,Xx,reduceIte,Nat.reduceEqDiff] | refine Xn ?_ | refine Xp rfl ?_ | refine Xc ?_ | apply Xd;focus simp [*];done | apply Xe;focus simp [*];done | refine Ya rfl rfl ?_)
   (refine⟨_,(by simp [*];rfl),?_⟩;(try simp only [packA]))
   all_goals rfl
 | true =>
 rw [if_neg (by rw [h1];simp)] at hw;clear h1
 repeat (first | (first | (apply Xf;rfl) | apply Xj);focus simp [cvF, *,-Option.some.injEq];rfl | (first | (apply Xa;rfl) | apply Xb);(focus simp [cvF, *];done);focus simp [cvF, *,-Option.some.injEq];rfl | (first | (apply Xg;rfl) | apply Xk);(focus simp [cvF, *];done) | (first | refine Xl ?_ | refine Xi ?_ | refine Xh ?_ | refine Xo ?_ | refine Xq ?_);try simp only [Xw,Xx,reduceIte,Nat.reduceEqDiff] | refine Xn ?_ | refine Xp rfl ?_ | refine Xc ?_ | apply Xd;focus simp [cvF, *];done | apply Xe;focus simp [cvF, *];done | refine Ya rfl rfl ?_)
 ((apply Xr);(focus rfl);(focus (first | rfl | (simp [cvTb, *];done)));(focus simp [cvTb, *,-Option.some.injEq];rfl);kernel_rfl)
 ·exact hty _
 clear hty;cases h2:typB h h[a].fields[k].typ with
 | false =>
   rw [if_pos h2] at hw;rw [← hw];clear hw
   repeat (first | (first | (apply Xf;rfl) | apply Xj);focus simp [*,-Option.some.injEq];rfl | (first | (apply Xa;rfl) | apply Xb);(focus simp [*];done);focus simp [*,-Option.some.injEq];rfl | (first | (apply Xg;rfl) | apply Xk);(focus simp [*];done) | (first | refine Xl ?_ | refine Xi ?_ | refine Xh ?_ | refine Xo ?_ | refine Xq ?_);try simp only [Xw,Xx,reduceIte,Nat.reduceEqDiff] | refine Xn ?_ | refine Xp rfl ?_ | refine Xc ?_ | apply Xd;focus simp [*];done | apply Xe;focus simp [*];done | refine Ya rfl rfl ?_)
   (refine⟨_,(by simp [*];rfl),?_⟩;(try simp only [packA]))
   all_goals rfl
 | true =>
 rw [if_neg (by rw [h2];simp)] at hw;clear h2
 repeat (first | (first | (apply Xf;rfl) | apply Xj);focus simp [cvD, *,-Option.some.injEq];rfl | (first | (apply Xa;rfl) | apply Xb);(focus simp [cvD, *];done);focus simp [cvD, *,-Option.some.injEq];rfl | (first | (apply Xg;rfl) | apply Xk);(focus simp [cvD, *];done) | (first | refine Xl ?_ | refine Xi ?_ | refine Xh ?_ | refine Xo ?_ | refine Xq ?_);try simp only [Xw,Xx,reduceIte,Nat.reduceEqDiff] | refine Xn ?_ | refine Xp rfl ?_ | refine Xc ?_ | apply Xd;focus simp [cvD, *];done | apply Xe;focus simp [cvD, *];done | refine Ya rfl rfl ?_)
 ((apply Xr);(focus rfl);(focus (first | rfl | (simp [cvD, *];done)));(focus simp [cvD, *,-Option.some.injEq];rfl);kernel_rfl)
 ·exact hfi _
 clear hfi;generalize ofN (fieldN h[a] h[a].fields[k].name)=z at *
 by_cases h3:z<(k:Int)
 ·rw [if_pos h3] at hw;rw [← hw];clear hw
  repeat (first | (first | (apply Xf;rfl) | apply Xj);focus simp [*,-Option.some.injEq];rfl | (first | (apply Xa;rfl) | apply Xb);(focus simp [*];done);focus simp [*,-Option.some.injEq];rfl | (first | (apply Xg;rfl) | apply Xk);(focus simp [*];done) | (first | refine Xl ?_ | refine Xi ?_ | refine Xh ?_ | refine Xo ?_ | refine Xq ?_);try simp only [Xw,Xx,reduceIte,Nat.reduceEqDiff] | refine Xn ?_ | refine Xp rfl ?_ | refine Xc ?_ | apply Xd;focus simp [*];done | apply Xe;focus simp [*];done | refine Ya rfl rfl ?_)
  (refine⟨_,(by simp [*];rfl),?_⟩;(try simp only [packA]))
  all_goals rfl
 rw [if_neg h3] at hw
 repeat (first | (first | (apply Xf;rfl) | apply Xj);focus simp [cvX, *,-Option.some.injEq];rfl | (first | (apply Xa;rfl) | apply Xb);(focus simp [cvX, *];done);focus simp [cvX, *,-Option.some.injEq];rfl | (first | (apply Xg;rfl) | apply Xk);(focus simp [cvX, *];done) | (first | refine Xl ?_ | refine Xi ?_ | refine Xh ?_ | refine Xo ?_ | refine Xq ?_);try simp only [Xw,Xx,reduceIte,Nat.reduceEqDiff] | refine Xn ?_ | refine Xp rfl ?_ | refine Xc ?_ | apply Xd;focus simp [cvX, *];done | apply Xe;focus simp [cvX, *];done | refine Ya rfl rfl ?_)
 refine AWp.countO up.length [6,10,41] 42 (fun i e H1 nx1=>e 41=.int .i64 i∧H1 nx=some (.cells [.lst (h.map cvD),.fmp ((frN h h.length).map .str) (frV h h.length)])∧H1 (nx+1+9)=some (.cells [.str h[a].fields[k].name,.str h[a].fields[k].typ])∧(up.take i).any (inF h h[a].fields[k].name)=false) ⟨(by first | (simp (disch:=omega) [putE,over,ofV,ofS, *];done) | (simp (disch:=omega) [putE,over,ofV,ofS, *];rfl)),by simp [upd],by simp [upd],rfl⟩ ?_;rintro i v H1 nx1 hi hn1 ⟨h41,hT,h8,hf⟩;have q1:=far (show nx<nx1 by omega);have q2:=far (show nx+1+9<nx1 by omega)
 repeat (first | (first | (apply Xf;rfl) | apply Xj);focus simp [*,-Option.some.injEq];rfl | (first | (apply Xa;rfl) | apply Xb);(focus simp [*];done);focus simp [*,-Option.some.injEq];rfl | (first | (apply Xg;rfl) | apply Xk);(focus simp [*];done) | (first | refine Xl ?_ | refine Xi ?_ | refine Xh ?_ | refine Xo ?_ | refine Xq ?_);try simp only [Xw,Xx,reduceIte,Nat.reduceEqDiff] | refine Xn ?_ | refine Xp rfl ?_ | refine Xc ?_ | apply Xd;focus simp [*];done | apply Xe;focus simp [*];done | refine Ya rfl rfl ?_)
 (((apply AWp.cond');(focus (simp [*,-Ax.CV.bool.injEq];rfl))) <;> (intro hb) <;> (try simp only [decide_eq_true_eq,decide_eq_false_iff_not,Bool.not_eq_true',Bool.not_eq_false',Bool.not_eq_true,Bool.not_eq_false] at hb))
 ·have hlt:i<up.length:=hb;have hwi:=lim_wrap hlt hul;have hq:=hup _ (List.getElem_mem hlt);have hfl2:=hB.fl _ (List.getElem_mem hq);clear hb;have hx:=tk_fieldIn h[up[i]] hfl2 h[a].fields[k].name;have hin:inF h h[a].fields[k].name up[i]=decide (0≤ofN (fieldN h[up[i]] h[a].fields[k].name)):=by simp only [inF,List.getElem?_eq_getElem hq]
  generalize ofN (fieldN h[up[i]] h[a].fields[k].name)=y at *
  repeat (first | (first | (apply Xf;rfl) | apply Xj);focus simp [cvX,cvD, *,-Option.some.injEq];rfl | (first | (apply Xa;rfl) | apply Xb);(focus simp [cvX,cvD, *];done);focus simp [cvX,cvD, *,-Option.some.injEq];rfl | (first | (apply Xg;rfl) | apply Xk);(focus simp [cvX,cvD, *];done) | (first | refine Xl ?_ | refine Xi ?_ | refine Xh ?_ | refine Xo ?_ | refine Xq ?_);try simp only [Xw,Xx,reduceIte,Nat.reduceEqDiff] | refine Xn ?_ | refine Xp rfl ?_ | refine Xc ?_ | apply Xd;focus simp [cvX,cvD, *];done | apply Xe;focus simp [cvX,cvD, *];done | refine Ya rfl rfl ?_)
  (first | (first | (apply AOpl.callN;rfl) | apply ASl.call);(focus simp [cvD, *,-Option.some.injEq];rfl);kernel_rfl | (first | (apply AOpl.callNG;rfl) | apply ASl.callg);(focus simp [cvD, *];done);(focus simp [cvD, *,-Option.some.injEq];rfl);kernel_rfl)
  ·exact hx
  clear hx
  by_cases hy:0≤y
  ·have ha2:up.any (inF h h[a].fields[k].name)=true:=List.any_eq_true.mpr ⟨_,List.getElem_mem hlt,by rw [hin];simp [hy]⟩;rw [if_pos ha2] at hw;rw [← hw];clear hw hin hf
   repeat (first | (first | (apply Xf;rfl) | apply Xj);focus simp [*,-Option.some.injEq];rfl | (first | (apply Xa;rfl) | apply Xb);(focus simp [*];done);focus simp [*,-Option.some.injEq];rfl | (first | (apply Xg;rfl) | apply Xk);(focus simp [*];done) | (first | refine Xl ?_ | refine Xi ?_ | refine Xh ?_ | refine Xo ?_ | refine Xq ?_);try simp only [Xw,Xx,reduceIte,Nat.reduceEqDiff] | refine Xn ?_ | refine Xp rfl ?_ | refine Xc ?_ | apply Xd;focus simp [*];done | apply Xe;focus simp [*];done | refine Ya rfl rfl ?_)
   (refine⟨_,(by simp [*];rfl),?_⟩;(try simp only [packA]))
   all_goals rfl
  ·have ha2:=any_next hlt hf (by rw [hin];simp [hy]);clear hin hf
   repeat (first | (first | (apply Xf;rfl) | apply Xj);focus simp [*,-Option.some.injEq];rfl | (first | (apply Xa;rfl) | apply Xb);(focus simp [*];done);focus simp [*,-Option.some.injEq];rfl | (first | (apply Xg;rfl) | apply Xk);(focus simp [*];done) | (first | refine Xl ?_ | refine Xi ?_ | refine Xh ?_ | refine Xo ?_ | refine Xq ?_);try simp only [Xw,Xx,reduceIte,Nat.reduceEqDiff] | refine Xn ?_ | refine Xp rfl ?_ | refine Xc ?_ | apply Xd;focus simp [*];done | apply Xe;focus simp [*];done | refine Ya rfl rfl ?_)
   exact⟨by ((repeat (first | exact Keeps.base _ _ _ _ | (with_reducible exact Keeps.refl _ _ _) | (refine Keeps.put rfl ?_) | (refine Keeps.over' rfl rfl ?_)))),hlt,(by first | (simp (disch:=omega) [putE,over,ofV,ofS, *];done) | (simp (disch:=omega) [putE,over,ofV,ofS, *];rfl)),by simp [upd, *],by simp [upd, *],ha2⟩
 ·have hi':i=up.length:=by omega
  rw [hi',List.take_length] at hf;rw [if_neg (by rw [hf];simp)] at hw;rw [← hw];clear hw hf hb
  repeat (first | (first | (apply Xf;rfl) | apply Xj);focus simp [*,-Option.some.injEq];rfl | (first | (apply Xa;rfl) | apply Xb);(focus simp [*];done);focus simp [*,-Option.some.injEq];rfl | (first | (apply Xg;rfl) | apply Xk);(focus simp [*];done) | (first | refine Xl ?_ | refine Xi ?_ | refine Xh ?_ | refine Xo ?_ | refine Xq ?_);try simp only [Xw,Xx,reduceIte,Nat.reduceEqDiff] | refine Xn ?_ | refine Xp rfl ?_ | refine Xc ?_ | apply Xd;focus simp [*];done | apply Xe;focus simp [*];done | refine Ya rfl rfl ?_)
  (refine⟨_,(by simp [*];rfl),?_⟩;(try simp only [packA]))
  all_goals rfl
end Go.Proofs.YtoookjadbhdfhaaDoor
