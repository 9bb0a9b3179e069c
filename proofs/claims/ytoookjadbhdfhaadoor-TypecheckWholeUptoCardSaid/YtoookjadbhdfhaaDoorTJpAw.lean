/-
  slices.IndexFunc with functions that compare names; walked.
-/
import Derived.Test.YtoookjadbhdfhaaDoorTJpAv
import Derived.Test.YtoookjadbhdfhaaDoorTJpAs
set_option linter.unusedSectionVars false
set_option linter.unusedSimpArgs false
set_option linter.unnecessarySimpa false
set_option linter.unusedVariables false
set_option linter.unusedSimpArgs false
set_option linter.unusedVariables false
namespace Go.Proofs.YtoookjadbhdfhaaDoor
section
open Lx Ax Go.RowKit
attribute [local simp] stepS Ax.stepT Dl.on qstep astep estep rd putE over argE ofV ofS loadA pickCells isAggD faddA fieldA partA iaddA idxA sliA bnd binA intA strA unA convA bltA lenA mapOf lookA findK keyD scalD storeA mupA appA srcA srcD upd drp Dl.hp Dl.nx CV.cs CV.one buildA placesA fillA zrep tasA ifaceD eqA eqFs eqIs range2 copyA nbeq nble nblt decEq beqI bneI beqS bneS isED Int.ofNat_inj List.getElem?_map List.getElem?_eq_getElem Option.map_some ti_int ti_bool ti_str ti_i64 ti_Strs ti_Cds ti_Cd ti_Flds ti_Fld ti_Sgs ti_Sg gd gdB callA resA op1
theorem idx_hit {α:Type}{l:List α}{p:α→Bool}{i:Nat}(hlt:i<l.length)(hn:(l.take i).any p=false)(hs:p l[i]=true):l.findIdx? p=some i:=by
 refine List.findIdx?_eq_some_iff_getElem.mpr ⟨hlt,hs,fun j hj=>?_⟩;have h3:=List.any_eq_false.mp hn l[j] (by rw [List.mem_take_iff_getElem];exact⟨j,by omega,rfl⟩);exact h3
theorem idx_no {α:Type}{l:List α}{p:α→Bool}(hn:l.any p=false):l.findIdx? p=none:=by
 refine List.findIdx?_eq_none_iff.mpr fun c hc=>?_
 have:=List.any_eq_false.mp hn c hc;simpa using this
theorem any_next {α:Type}{l:List α}{p:α→Bool}{i:Nat}(hlt:i<l.length)(hn:(l.take i).any p=false)(hs:p l[i]=false):(l.take (i+1)).any p=false:=by
 rw [List.take_succ_eq_append_getElem hlt,List.any_append,hn];simp [hs]
/-- Lists in memory are no longer than this. -/
def lim:Nat:=100000000
theorem lim_wrap {i n:Nat}(h:i<n)(hn:n≤lim):IntKind.i64.wrap ((i:Int)+1)=((i+1:Nat):Int):=by
 rw [IntKind.wrap_i64];simp only [lim] at hn;omega
set_option maxRecDepth 10000 in
set_option maxHeartbeats 4000000 in
theorem ixc_D (s:Bytes)(c:Cd):FCall1 Tryd.prog tkG 37 [.agg (cvD c),.rop [.str s]] (.bool (c.name == s)):=by
 refine FCall.one tkG_pu (by simp [puL,puV,puD]) rfl ?_;refine FCall.ofBody Tryd.func37 rfl rfl fun nx=>?_
 repeat (first | (first | (apply Xf;rfl) | apply Xj);focus simp [cvD, *,-Option.some.injEq];rfl | (first | (apply Xa;rfl) | apply Xb);(focus simp [cvD, *];done);focus simp [cvD, *,-Option.some.injEq];rfl | (first | (apply Xg;rfl) | apply Xk);(focus simp [cvD, *];done) | (first | refine Xl ?_ | refine Xi ?_ | refine Xh ?_ | refine Xo ?_ | refine Xq ?_);try simp only [Xw,Xx,reduceIte,Nat.reduceEqDiff] | refine Xn ?_ | refine Xp rfl ?_ | refine Xc ?_ | apply Xd;focus simp [cvD, *];done | apply Xe;focus simp [cvD, *];done | refine Ya rfl rfl ?_)
 (refine⟨_,(by simp [*];rfl),?_⟩;(try simp only [packA]))
 all_goals (rw [beqS])
set_option maxRecDepth 10000 in
set_option maxHeartbeats 8000000 in
theorem ix_D (s:Bytes)(l:List Cd)(hl:l.length≤lim) :
  FCall1 Tryd.prog tkG 36 [.lst (l.map cvD),.fn (.func 37) [] [.rop [.str s]]] (.int .i64 (ofN (l.findIdx? fun c=>c.name == s))):=by
 refine FCall.one tkG_pu (by simp [puL,puV,puRm puD]) rfl ?_;refine FCall.ofBody Tryd.func36 rfl rfl fun nx=>?_
 repeat (first | (first | (apply Xf;rfl) | apply Xj);focus simp [*,-Option.some.injEq];rfl | (first | (apply Xa;rfl) | apply Xb);(focus simp [*];done);focus simp [*,-Option.some.injEq];rfl | (first | (apply Xg;rfl) | apply Xk);(focus simp [*];done) | (first | refine Xl ?_ | refine Xi ?_ | refine Xh ?_ | refine Xo ?_ | refine Xq ?_);try simp only [Xw,Xx,reduceIte,Nat.reduceEqDiff] | refine Xn ?_ | refine Xp rfl ?_ | refine Xc ?_ | apply Xd;focus simp [*];done | apply Xe;focus simp [*];done | refine Ya rfl rfl ?_)
 refine AWp.countO l.length [4,5,8] 9 (fun i e H1 _=>e 8=.int .i64 i∧(l.take i).any (fun c=>c.name == s)=false) ⟨(by first | (simp (disch:=omega) [putE,over,ofV,ofS, *];done) | (simp (disch:=omega) [putE,over,ofV,ofS, *];rfl)),rfl⟩ ?_;rintro i v H1 nx1 hi hn1 ⟨h8,ha⟩
 repeat (first | (first | (apply Xf;rfl) | apply Xj);focus simp [*,-Option.some.injEq];rfl | (first | (apply Xa;rfl) | apply Xb);(focus simp [*];done);focus simp [*,-Option.some.injEq];rfl | (first | (apply Xg;rfl) | apply Xk);(focus simp [*];done) | (first | refine Xl ?_ | refine Xi ?_ | refine Xh ?_ | refine Xo ?_ | refine Xq ?_);try simp only [Xw,Xx,reduceIte,Nat.reduceEqDiff] | refine Xn ?_ | refine Xp rfl ?_ | refine Xc ?_ | apply Xd;focus simp [*];done | apply Xe;focus simp [*];done | refine Ya rfl rfl ?_)
 (((apply AWp.cond');(focus (simp [*,-Ax.CV.bool.injEq];rfl))) <;> (intro hb) <;> (try simp only [decide_eq_true_eq,decide_eq_false_iff_not,Bool.not_eq_true',Bool.not_eq_false',Bool.not_eq_true,Bool.not_eq_false] at hb))
 ·have hlt:i<l.length:=hb;have hwi:=lim_wrap hlt hl;clear hb
  repeat (first | (first | (apply Xf;rfl) | apply Xj);focus simp [*,-Option.some.injEq];rfl | (first | (apply Xa;rfl) | apply Xb);(focus simp [*];done);focus simp [*,-Option.some.injEq];rfl | (first | (apply Xg;rfl) | apply Xk);(focus simp [*];done) | (first | refine Xl ?_ | refine Xi ?_ | refine Xh ?_ | refine Xo ?_ | refine Xq ?_);try simp only [Xw,Xx,reduceIte,Nat.reduceEqDiff] | refine Xn ?_ | refine Xp rfl ?_ | refine Xc ?_ | apply Xd;focus simp [*];done | apply Xe;focus simp [*];done | refine Ya rfl rfl ?_)
  ((apply Xr);(focus rfl);(focus (first | rfl | (simp [*];done)));(focus simp [*,-Option.some.injEq];rfl);kernel_rfl)
  ·exact ixc_D s l[i] _
  cases hc:(l[i].name == s) with
  | true =>
    have hf2:=idx_hit hlt ha hc;clear hc ha
    repeat (first | (first | (apply Xf;rfl) | apply Xj);focus simp [*,-Option.some.injEq];rfl | (first | (apply Xa;rfl) | apply Xb);(focus simp [*];done);focus simp [*,-Option.some.injEq];rfl | (first | (apply Xg;rfl) | apply Xk);(focus simp [*];done) | (first | refine Xl ?_ | refine Xi ?_ | refine Xh ?_ | refine Xo ?_ | refine Xq ?_);try simp only [Xw,Xx,reduceIte,Nat.reduceEqDiff] | refine Xn ?_ | refine Xp rfl ?_ | refine Xc ?_ | apply Xd;focus simp [*];done | apply Xe;focus simp [*];done | refine Ya rfl rfl ?_)
    (refine⟨_,(by simp [*];rfl),?_⟩;(try simp only [packA]))
    all_goals (first | (rw [hf2];done) | (rw [hf2];rfl))
  | false =>
    have ha2:=any_next hlt ha hc;clear hc ha
    repeat (first | (first | (apply Xf;rfl) | apply Xj);focus simp [*,-Option.some.injEq];rfl | (first | (apply Xa;rfl) | apply Xb);(focus simp [*];done);focus simp [*,-Option.some.injEq];rfl | (first | (apply Xg;rfl) | apply Xk);(focus simp [*];done) | (first | refine Xl ?_ | refine Xi ?_ | refine Xh ?_ | refine Xo ?_ | refine Xq ?_);try simp only [Xw,Xx,reduceIte,Nat.reduceEqDiff] | refine Xn ?_ | refine Xp rfl ?_ | refine Xc ?_ | apply Xd;focus simp [*];done | apply Xe;focus simp [*];done | refine Ya rfl rfl ?_)
    exact⟨by ((repeat (first | exact Keeps.base _ _ _ _ | (with_reducible exact Keeps.refl _ _ _) | (refine Keeps.put rfl ?_) | (refine Keeps.over' rfl rfl ?_)))),hlt,(by first | (simp (disch:=omega) [putE,over,ofV,ofS, *];done) | (simp (disch:=omega) [putE,over,ofV,ofS, *];rfl)),ha2⟩
 ·have hi':i=l.length:=by omega
  rw [hi',List.take_length] at ha;have hf2:=idx_no ha;clear ha hb
  repeat (first | (first | (apply Xf;rfl) | apply Xj);focus simp [*,-Option.some.injEq];rfl | (first | (apply Xa;rfl) | apply Xb);(focus simp [*];done);focus simp [*,-Option.some.injEq];rfl | (first | (apply Xg;rfl) | apply Xk);(focus simp [*];done) | (first | refine Xl ?_ | refine Xi ?_ | refine Xh ?_ | refine Xo ?_ | refine Xq ?_);try simp only [Xw,Xx,reduceIte,Nat.reduceEqDiff] | refine Xn ?_ | refine Xp rfl ?_ | refine Xc ?_ | apply Xd;focus simp [*];done | apply Xe;focus simp [*];done | refine Ya rfl rfl ?_)
  (refine⟨_,(by simp [*];rfl),?_⟩;(try simp only [packA]))
  all_goals (first | (rw [hf2];done) | (rw [hf2];rfl))
set_option maxRecDepth 10000 in
set_option maxHeartbeats 4000000 in
theorem ixc_F (s:Bytes)(c:Fld):FCall1 Tryd.prog tkG 66 [.agg (cvF c),.rop [.str s]] (.bool (c.name == s)):=by
 refine FCall.one tkG_pu (by simp [puL,puV,puF]) rfl ?_;refine FCall.ofBody Tryd.func66 rfl rfl fun nx=>?_
 repeat (first | (first | (apply Xf;rfl) | apply Xj);focus simp [cvF, *,-Option.some.injEq];rfl | (first | (apply Xa;rfl) | apply Xb);(focus simp [cvF, *];done);focus simp [cvF, *,-Option.some.injEq];rfl | (first | (apply Xg;rfl) | apply Xk);(focus simp [cvF, *];done) | (first | refine Xl ?_ | refine Xi ?_ | refine Xh ?_ | refine Xo ?_ | refine Xq ?_);try simp only [Xw,Xx,reduceIte,Nat.reduceEqDiff] | refine Xn ?_ | refine Xp rfl ?_ | refine Xc ?_ | apply Xd;focus simp [cvF, *];done | apply Xe;focus simp [cvF, *];done | refine Ya rfl rfl ?_)
 (refine⟨_,(by simp [*];rfl),?_⟩;(try simp only [packA]))
 all_goals (rw [beqS])
set_option maxRecDepth 10000 in
set_option maxHeartbeats 8000000 in
theorem ix_F (s:Bytes)(l:List Fld)(hl:l.length≤lim) :
  FCall1 Tryd.prog tkG 58 [.lst (l.map cvF),.fn (.func 66) [] [.rop [.str s]]] (.int .i64 (ofN (l.findIdx? fun c=>c.name == s))):=by
 refine FCall.one tkG_pu (by simp [puL,puV,puRm puF]) rfl ?_;refine FCall.ofBody Tryd.func58 rfl rfl fun nx=>?_
 repeat (first | (first | (apply Xf;rfl) | apply Xj);focus simp [*,-Option.some.injEq];rfl | (first | (apply Xa;rfl) | apply Xb);(focus simp [*];done);focus simp [*,-Option.some.injEq];rfl | (first | (apply Xg;rfl) | apply Xk);(focus simp [*];done) | (first | refine Xl ?_ | refine Xi ?_ | refine Xh ?_ | refine Xo ?_ | refine Xq ?_);try simp only [Xw,Xx,reduceIte,Nat.reduceEqDiff] | refine Xn ?_ | refine Xp rfl ?_ | refine Xc ?_ | apply Xd;focus simp [*];done | apply Xe;focus simp [*];done | refine Ya rfl rfl ?_)
 refine AWp.countO l.length [4,5,8] 9 (fun i e H1 _=>e 8=.int .i64 i∧(l.take i).any (fun c=>c.name == s)=false) ⟨(by first | (simp (disch:=omega) [putE,over,ofV,ofS, *];done) | (simp (disch:=omega) [putE,over,ofV,ofS, *];rfl)),rfl⟩ ?_;rintro i v H1 nx1 hi hn1 ⟨h8,ha⟩
 repeat (first | (first | (apply Xf;rfl) | apply Xj);focus simp [*,-Option.some.injEq];rfl | (first | (apply Xa;rfl) | apply Xb);(focus simp [*];done);focus simp [*,-Option.some.injEq];rfl | (first | (apply Xg;rfl) | apply Xk);(focus simp [*];done) | (first | refine Xl ?_ | refine Xi ?_ | refine Xh ?_ | refine Xo ?_ | refine Xq ?_);try simp only [Xw,Xx,reduceIte,Nat.reduceEqDiff] | refine Xn ?_ | refine Xp rfl ?_ | refine Xc ?_ | apply Xd;focus simp [*];done | apply Xe;focus simp [*];done | refine Ya rfl rfl ?_)
 (((apply AWp.cond');(focus (simp [*,-Ax.CV.bool.injEq];rfl))) <;> (intro hb) <;> (try simp only [decide_eq_true_eq,decide_eq_false_iff_not,Bool.not_eq_true',Bool.not_eq_false',Bool.not_eq_true,Bool.not_eq_false] at hb))
 ·have hlt:i<l.length:=hb;have hwi:=lim_wrap hlt hl;clear hb
  repeat (first | (first | (apply Xf;rfl) | apply Xj);focus simp [*,-Option.some.injEq];rfl | (first | (apply Xa;rfl) | apply Xb);(focus simp [*];done);focus simp [*,-Option.some.injEq];rfl | (first | (apply Xg;rfl) | apply Xk);(focus simp [*];done) | (first | refine Xl ?_ | refine Xi ?_ | refine Xh ?_ | refine Xo ?_ | refine Xq ?_);try simp only [Xw,Xx,reduceIte,Nat.reduceEqDiff] | refine Xn ?_ | refine Xp rfl ?_ | refine Xc ?_ | apply Xd;focus simp [*];done | apply Xe;focus simp [*];done | refine Ya rfl rfl ?_)
  ((apply Xr);(focus rfl);(focus (first | rfl | (simp [*];done)));(focus simp [*,-Option.some.injEq];rfl);kernel_rfl)
  ·exact ixc_F s l[i] _
  cases hc:(l[i].name == s) with
  | true =>
    have hf2:=idx_hit hlt ha hc;clear hc ha
    repeat (first | (first | (apply Xf;rfl) | apply Xj);focus simp [*,-Option.some.injEq];rfl | (first | (apply Xa;rfl) | apply Xb);(focus simp [*];done);focus simp [*,-Option.some.injEq];rfl | (first | (apply Xg;rfl) | apply Xk);(focus simp [*];done) | (first | refine Xl ?_ | refine Xi ?_ | refine Xh ?_ | refine Xo ?_ | refine Xq ?_);try simp only [Xw,Xx,reduceIte,Nat.reduceEqDiff] | refine Xn ?_ | refine Xp rfl ?_ | refine Xc ?_ | apply Xd;focus simp [*];done | apply Xe;focus simp [*];done | refine Ya rfl rfl ?_)
    (refine⟨_,(by simp [*];rfl),?_⟩;(try simp only [packA]))
    all_goals (first | (rw [hf2];done) | (rw [hf2];rfl))
  | false =>
    have ha2:=any_next hlt ha hc;clear hc ha
    repeat (first | (first | (apply Xf;rfl) | apply Xj);focus simp [*,-Option.some.injEq];rfl | (first | (apply Xa;rfl) | apply Xb);(focus simp [*];done);focus simp [*,-Option.some.injEq];rfl | (first | (apply Xg;rfl) | apply Xk);(focus simp [*];done) | (first | refine Xl ?_ | refine Xi ?_ | refine Xh ?_ | refine Xo ?_ | refine Xq ?_);try simp only [Xw,Xx,reduceIte,Nat.reduceEqDiff] | refine Xn ?_ | refine Xp rfl ?_ | refine Xc ?_ | apply Xd;focus simp [*];done | apply Xe;focus simp [*];done | refine Ya rfl rfl ?_)
    exact⟨by ((repeat (first | exact Keeps.base _ _ _ _ | (with_reducible exact Keeps.refl _ _ _) | (refine Keeps.put rfl ?_) | (refine Keeps.over' rfl rfl ?_)))),hlt,(by first | (simp (disch:=omega) [putE,over,ofV,ofS, *];done) | (simp (disch:=omega) [putE,over,ofV,ofS, *];rfl)),ha2⟩
 ·have hi':i=l.length:=by omega
  rw [hi',List.take_length] at ha;have hf2:=idx_no ha;clear ha hb
  repeat (first | (first | (apply Xf;rfl) | apply Xj);focus simp [*,-Option.some.injEq];rfl | (first | (apply Xa;rfl) | apply Xb);(focus simp [*];done);focus simp [*,-Option.some.injEq];rfl | (first | (apply Xg;rfl) | apply Xk);(focus simp [*];done) | (first | refine Xl ?_ | refine Xi ?_ | refine Xh ?_ | refine Xo ?_ | refine Xq ?_);try simp only [Xw,Xx,reduceIte,Nat.reduceEqDiff] | refine Xn ?_ | refine Xp rfl ?_ | refine Xc ?_ | apply Xd;focus simp [*];done | apply Xe;focus simp [*];done | refine Ya rfl rfl ?_)
  (refine⟨_,(by simp [*];rfl),?_⟩;(try simp only [packA]))
  all_goals (first | (rw [hf2];done) | (rw [hf2];rfl))
set_option maxRecDepth 10000 in
set_option maxHeartbeats 4000000 in
theorem ixc_M (s:Bytes)(c:Sg):FCall1 Tryd.prog tkG 67 [.agg (cvG c),.rop [.str s]] (.bool (c.name == s)):=by
 refine FCall.one tkG_pu (by simp [puL,puV,puG]) rfl ?_;refine FCall.ofBody Tryd.func67 rfl rfl fun nx=>?_
 repeat (first | (first | (apply Xf;rfl) | apply Xj);focus simp [cvG, *,-Option.some.injEq];rfl | (first | (apply Xa;rfl) | apply Xb);(focus simp [cvG, *];done);focus simp [cvG, *,-Option.some.injEq];rfl | (first | (apply Xg;rfl) | apply Xk);(focus simp [cvG, *];done) | (first | refine Xl ?_ | refine Xi ?_ | refine Xh ?_ | refine Xo ?_ | refine Xq ?_);try simp only [Xw,Xx,reduceIte,Nat.reduceEqDiff] | refine Xn ?_ | refine Xp rfl ?_ | refine Xc ?_ | apply Xd;focus simp [cvG, *];done | apply Xe;focus simp [cvG, *];done | refine Ya rfl rfl ?_)
 (refine⟨_,(by simp [*];rfl),?_⟩;(try simp only [packA]))
 all_goals (rw [beqS])
set_option maxRecDepth 10000 in
set_option maxHeartbeats 8000000 in
theorem ix_M (s:Bytes)(l:List Sg)(hl:l.length≤lim) :
  FCall1 Tryd.prog tkG 38 [.lst (l.map cvG),.fn (.func 67) [] [.rop [.str s]]] (.int .i64 (ofN (l.findIdx? fun c=>c.name == s))):=by
 refine FCall.one tkG_pu (by simp [puL,puV,puRm puG]) rfl ?_;refine FCall.ofBody Tryd.func38 rfl rfl fun nx=>?_
 repeat (first | (first | (apply Xf;rfl) | apply Xj);focus simp [*,-Option.some.injEq];rfl | (first | (apply Xa;rfl) | apply Xb);(focus simp [*];done);focus simp [*,-Option.some.injEq];rfl | (first | (apply Xg;rfl) | apply Xk);(focus simp [*];done) | (first | refine Xl ?_ | refine Xi ?_ | refine Xh ?_ | refine Xo ?_ | refine Xq ?_);try simp only [Xw,Xx,reduceIte,Nat.reduceEqDiff] | refine Xn ?_ | refine Xp rfl ?_ | refine Xc ?_ | apply Xd;focus simp [*];done | apply Xe;focus simp [*];done | refine Ya rfl rfl ?_)
 refine AWp.countO l.length [4,5,8] 9 (fun i e H1 _=>e 8=.int .i64 i∧(l.take i).any (fun c=>c.name == s)=false) ⟨(by first | (simp (disch:=omega) [putE,over,ofV,ofS, *];done) | (simp (disch:=omega) [putE,over,ofV,ofS, *];rfl)),rfl⟩ ?_;rintro i v H1 nx1 hi hn1 ⟨h8,ha⟩
 repeat (first | (first | (apply Xf;rfl) | apply Xj);focus simp [*,-Option.some.injEq];rfl | (first | (apply Xa;rfl) | apply Xb);(focus simp [*];done);focus simp [*,-Option.some.injEq];rfl | (first | (apply Xg;rfl) | apply Xk);(focus simp [*];done) | (first | refine Xl ?_ | refine Xi ?_ | refine Xh ?_ | refine Xo ?_ | refine Xq ?_);try simp only [Xw,Xx,reduceIte,Nat.reduceEqDiff] | refine Xn ?_ | refine Xp rfl ?_ | refine Xc ?_ | apply Xd;focus simp [*];done | apply Xe;focus simp [*];done | refine Ya rfl rfl ?_)
 (((apply AWp.cond');(focus (simp [*,-Ax.CV.bool.injEq];rfl))) <;> (intro hb) <;> (try simp only [decide_eq_true_eq,decide_eq_false_iff_not,Bool.not_eq_true',Bool.not_eq_false',Bool.not_eq_true,Bool.not_eq_false] at hb))
 ·have hlt:i<l.length:=hb;have hwi:=lim_wrap hlt hl;clear hb
  repeat (first | (first | (apply Xf;rfl) | apply Xj);focus simp [*,-Option.some.injEq];rfl | (first | (apply Xa;rfl) | apply Xb);(focus simp [*];done);focus simp [*,-Option.some.injEq];rfl | (first | (apply Xg;rfl) | apply Xk);(focus simp [*];done) | (first | refine Xl ?_ | refine Xi ?_ | refine Xh ?_ | refine Xo ?_ | refine Xq ?_);try simp only [Xw,Xx,reduceIte,Nat.reduceEqDiff] | refine Xn ?_ | refine Xp rfl ?_ | refine Xc ?_ | apply Xd;focus simp [*];done | apply Xe;focus simp [*];done | refine Ya rfl rfl ?_)
  ((apply Xr);(focus rfl);(focus (first | rfl | (simp [*];done)));(focus simp [*,-Option.some.injEq];rfl);kernel_rfl)
  ·exact ixc_M s l[i] _
  cases hc:(l[i].name == s) with
  | true =>
    have hf2:=idx_hit hlt ha hc;clear hc ha
    repeat (first | (first | (apply Xf;rfl) | apply Xj);focus simp [*,-Option.some.injEq];rfl | (first | (apply Xa;rfl) | apply Xb);(focus simp [*];done);focus simp [*,-Option.some.injEq];rfl | (first | (apply Xg;rfl) | apply Xk);(focus simp [*];done) | (first | refine Xl ?_ | refine Xi ?_ | refine Xh ?_ | refine Xo ?_ | refine Xq ?_);try simp only [Xw,Xx,reduceIte,Nat.reduceEqDiff] | refine Xn ?_ | refine Xp rfl ?_ | refine Xc ?_ | apply Xd;focus simp [*];done | apply Xe;focus simp [*];done | refine Ya rfl rfl ?_)
    (refine⟨_,(by simp [*];rfl),?_⟩;(try simp only [packA]))
    all_goals (first | (rw [hf2];done) | (rw [hf2];rfl))
  | false =>
    have ha2:=any_next hlt ha hc;clear hc ha
    repeat (first | (first | (apply Xf;rfl) | apply Xj);focus simp [*,-Option.some.injEq];rfl | (first | (apply Xa;rfl) | apply Xb);(focus simp [*];done);focus simp [*,-Option.some.injEq];rfl | (first | (apply Xg;rfl) | apply Xk);(focus simp [*];done) | (first | refine Xl ?_ | refine Xi ?_ | refine Xh ?_ | refine Xo ?_ | refine Xq ?_);try simp only [Xw,Xx,reduceIte,Nat.reduceEqDiff] | refine Xn ?_ | refine Xp rfl ?_ | refine Xc ?_ | apply Xd;focus simp [*];done | apply Xe;focus simp [*];done | refine Ya rfl rfl ?_)
    exact⟨by ((repeat (first | exact Keeps.base _ _ _ _ | (with_reducible exact Keeps.refl _ _ _) | (refine Keeps.put rfl ?_) | (refine Keeps.over' rfl rfl ?_)))),hlt,(by first | (simp (disch:=omega) [putE,over,ofV,ofS, *];done) | (simp (disch:=omega) [putE,over,ofV,ofS, *];rfl)),ha2⟩
 ·have hi':i=l.length:=by omega
  rw [hi',List.take_length] at ha;have hf2:=idx_no ha;clear ha hb
  repeat (first | (first | (apply Xf;rfl) | apply Xj);focus simp [*,-Option.some.injEq];rfl | (first | (apply Xa;rfl) | apply Xb);(focus simp [*];done);focus simp [*,-Option.some.injEq];rfl | (first | (apply Xg;rfl) | apply Xk);(focus simp [*];done) | (first | refine Xl ?_ | refine Xi ?_ | refine Xh ?_ | refine Xo ?_ | refine Xq ?_);try simp only [Xw,Xx,reduceIte,Nat.reduceEqDiff] | refine Xn ?_ | refine Xp rfl ?_ | refine Xc ?_ | apply Xd;focus simp [*];done | apply Xe;focus simp [*];done | refine Ya rfl rfl ?_)
  (refine⟨_,(by simp [*];rfl),?_⟩;(try simp only [packA]))
  all_goals (first | (rw [hf2];done) | (rw [hf2];rfl))
set_option maxRecDepth 10000 in
set_option maxHeartbeats 4000000 in
theorem ixc_V (s:Bytes)(c:Fld):FCall1 Tryd.prog tkG 59 [.agg (cvF c),.rop [.str s]] (.bool (c.name == s)):=by
 refine FCall.one tkG_pu (by simp [puL,puV,puF]) rfl ?_;refine FCall.ofBody Tryd.func59 rfl rfl fun nx=>?_
 repeat (first | (first | (apply Xf;rfl) | apply Xj);focus simp [cvF, *,-Option.some.injEq];rfl | (first | (apply Xa;rfl) | apply Xb);(focus simp [cvF, *];done);focus simp [cvF, *,-Option.some.injEq];rfl | (first | (apply Xg;rfl) | apply Xk);(focus simp [cvF, *];done) | (first | refine Xl ?_ | refine Xi ?_ | refine Xh ?_ | refine Xo ?_ | refine Xq ?_);try simp only [Xw,Xx,reduceIte,Nat.reduceEqDiff] | refine Xn ?_ | refine Xp rfl ?_ | refine Xc ?_ | apply Xd;focus simp [cvF, *];done | apply Xe;focus simp [cvF, *];done | refine Ya rfl rfl ?_)
 (refine⟨_,(by simp [*];rfl),?_⟩;(try simp only [packA]))
 all_goals (rw [beqS])
set_option maxRecDepth 10000 in
set_option maxHeartbeats 8000000 in
theorem ix_V (s:Bytes)(l:List Fld)(hl:l.length≤lim) :
  FCall1 Tryd.prog tkG 58 [.lst (l.map cvF),.fn (.func 59) [] [.rop [.str s]]] (.int .i64 (ofN (l.findIdx? fun c=>c.name == s))):=by
 refine FCall.one tkG_pu (by simp [puL,puV,puRm puF]) rfl ?_;refine FCall.ofBody Tryd.func58 rfl rfl fun nx=>?_
 repeat (first | (first | (apply Xf;rfl) | apply Xj);focus simp [*,-Option.some.injEq];rfl | (first | (apply Xa;rfl) | apply Xb);(focus simp [*];done);focus simp [*,-Option.some.injEq];rfl | (first | (apply Xg;rfl) | apply Xk);(focus simp [*];done) | (first | refine Xl ?_ | refine Xi ?_ | refine Xh ?_ | refine Xo ?_ | refine Xq ?_);try simp only [Xw,Xx,reduceIte,Nat.reduceEqDiff] | refine Xn ?_ | refine Xp rfl ?_ | refine Xc ?_ | apply Xd;focus simp [*];done | apply Xe;focus simp [*];done | refine Ya rfl rfl ?_)
 refine AWp.countO l.length [4,5,8] 9 (fun i e H1 _=>e 8=.int .i64 i∧(l.take i).any (fun c=>c.name == s)=false) ⟨(by first | (simp (disch:=omega) [putE,over,ofV,ofS, *];done) | (simp (disch:=omega) [putE,over,ofV,ofS, *];rfl)),rfl⟩ ?_;rintro i v H1 nx1 hi hn1 ⟨h8,ha⟩
 repeat (first | (first | (apply Xf;rfl) | apply Xj);focus simp [*,-Option.some.injEq];rfl | (first | (apply Xa;rfl) | apply Xb);(focus simp [*];done);focus simp [*,-Option.some.injEq];rfl | (first | (apply Xg;rfl) | apply Xk);(focus simp [*];done) | (first | refine Xl ?_ | refine Xi ?_ | refine Xh ?_ | refine Xo ?_ | refine Xq ?_);try simp only [Xw,Xx,reduceIte,Nat.reduceEqDiff] | refine Xn ?_ | refine Xp rfl ?_ | refine Xc ?_ | apply Xd;focus simp [*];done | apply Xe;focus simp [*];done | refine Ya rfl rfl ?_)
 (((apply AWp.cond');(focus (simp [*,-Ax.CV.bool.injEq];rfl))) <;> (intro hb) <;> (try simp only [decide_eq_true_eq,decide_eq_false_iff_not,Bool.not_eq_true',Bool.not_eq_false',Bool.not_eq_true,Bool.not_eq_false] at hb))
 ·have hlt:i<l.length:=hb;have hwi:=lim_wrap hlt hl;clear hb
  repeat (first | (first | (apply Xf;rfl) | apply Xj);focus simp [*,-Option.some.injEq];rfl | (first | (apply Xa;rfl) | apply Xb);(focus simp [*];done);focus simp [*,-Option.some.injEq];rfl | (first | (apply Xg;rfl) | apply Xk);(focus simp [*];done) | (first | refine Xl ?_ | refine Xi ?_ | refine Xh ?_ | refine Xo ?_ | refine Xq ?_);try simp only [Xw,Xx,reduceIte,Nat.reduceEqDiff] | refine Xn ?_ | refine Xp rfl ?_ | refine Xc ?_ | apply Xd;focus simp [*];done | apply Xe;focus simp [*];done | refine Ya rfl rfl ?_)
  ((apply Xr);(focus rfl);(focus (first | rfl | (simp [*];done)));(focus simp [*,-Option.some.injEq];rfl);kernel_rfl)
  ·exact ixc_V s l[i] _
  cases hc:(l[i].name == s) with
  | true =>
    have hf2:=idx_hit hlt ha hc;clear hc ha
    repeat (first | (first | (apply Xf;rfl) | apply Xj);focus simp [*,-Option.some.injEq];rfl | (first | (apply Xa;rfl) | apply Xb);(focus simp [*];done);focus simp [*,-Option.some.injEq];rfl | (first | (apply Xg;rfl) | apply Xk);(focus simp [*];done) | (first | refine Xl ?_ | refine Xi ?_ | refine Xh ?_ | refine Xo ?_ | refine Xq ?_);try simp only [Xw,Xx,reduceIte,Nat.reduceEqDiff] | refine Xn ?_ | refine Xp rfl ?_ | refine Xc ?_ | apply Xd;focus simp [*];done | apply Xe;focus simp [*];done | refine Ya rfl rfl ?_)
    (refine⟨_,(by simp [*];rfl),?_⟩;(try simp only [packA]))
    all_goals (first | (rw [hf2];done) | (rw [hf2];rfl))
  | false =>
    have ha2:=any_next hlt ha hc;clear hc ha
    repeat (first | (first | (apply Xf;rfl) | apply Xj);focus simp [*,-Option.some.injEq];rfl | (first | (apply Xa;rfl) | apply Xb);(focus simp [*];done);focus simp [*,-Option.some.injEq];rfl | (first | (apply Xg;rfl) | apply Xk);(focus simp [*];done) | (first | refine Xl ?_ | refine Xi ?_ | refine Xh ?_ | refine Xo ?_ | refine Xq ?_);try simp only [Xw,Xx,reduceIte,Nat.reduceEqDiff] | refine Xn ?_ | refine Xp rfl ?_ | refine Xc ?_ | apply Xd;focus simp [*];done | apply Xe;focus simp [*];done | refine Ya rfl rfl ?_)
    exact⟨by ((repeat (first | exact Keeps.base _ _ _ _ | (with_reducible exact Keeps.refl _ _ _) | (refine Keeps.put rfl ?_) | (refine Keeps.over' rfl rfl ?_)))),hlt,(by first | (simp (disch:=omega) [putE,over,ofV,ofS, *];done) | (simp (disch:=omega) [putE,over,ofV,ofS, *];rfl)),ha2⟩
 ·have hi':i=l.length:=by omega
  rw [hi',List.take_length] at ha;have hf2:=idx_no ha;clear ha hb
  repeat (first | (first | (apply Xf;rfl) | apply Xj);focus simp [*,-Option.some.injEq];rfl | (first | (apply Xa;rfl) | apply Xb);(focus simp [*];done);focus simp [*,-Option.some.injEq];rfl | (first | (apply Xg;rfl) | apply Xk);(focus simp [*];done) | (first | refine Xl ?_ | refine Xi ?_ | refine Xh ?_ | refine Xo ?_ | refine Xq ?_);try simp only [Xw,Xx,reduceIte,Nat.reduceEqDiff] | refine Xn ?_ | refine Xp rfl ?_ | refine Xc ?_ | apply Xd;focus simp [*];done | apply Xe;focus simp [*];done | refine Ya rfl rfl ?_)
  (refine⟨_,(by simp [*];rfl),?_⟩;(try simp only [packA]))
  all_goals (first | (rw [hf2];done) | (rw [hf2];rfl))
end
section
open Lx Ax Go.RowKit
attribute [local simp] stepS Ax.stepT Dl.on qstep astep estep rd putE over argE ofV ofS loadA pickCells isAggD faddA fieldA partA iaddA idxA sliA bnd binA intA strA unA convA bltA lenA mapOf findK keyD scalD storeA mupA appA srcA srcD upd drp Dl.hp Dl.nx CV.cs CV.one buildA placesA fillA zrep tasA ifaceD eqA eqFs eqIs range2 copyA nbeq nble nblt decEq beqI bneI beqS bneS isED Int.ofNat_inj List.getElem?_map List.getElem?_eq_getElem Option.map_some ti_int ti_bool ti_str ti_i64 ti_Cds ti_Cd ti_Tb gd gdB callA resA op1
theorem look_t {H:Heap}(h:List Cd)(s:Bytes):lookA Tryd.prog H 67 (.fmp ((frN h h.length).map .str) (frV h h.length)) (.str s) true=some (lkV h s):=look_tab ti_Msi ti_str rfl ti_int rfl h s
set_option maxRecDepth 10000 in
set_option maxHeartbeats 4000000 in
theorem tk_find (h:List Cd)(s:Bytes):FCall1 Tryd.prog tkG 32 [cvTb h,.str s] (.int .i64 (findI h s)):=by
 refine FCall.one tkG_pu (by simp [puL,puV,puTb]) rfl ?_;refine FCall.ofBody Tryd.func32 rfl rfl fun nx=>?_
 have hl:∀ H:Heap,lookA Tryd.prog H 67 (.fmp ((frN h h.length).map .str) (frV h h.length)) (.str s) true=some (lkV h s):=fun H=>look_t h s
 cases hf:findN h s with
 | some i =>
   have hv:findI h s=(i:Int):=by simp only [findI,hf]
   have hk:lkV h s=.tup [.int .i64 i,.bool true]:=by simp only [lkV,hf]
   rw [hk] at hl;rw [hv]
   repeat (first | (first | (apply Xf;rfl) | apply Xj);focus simp [cvTb, *,-Option.some.injEq];rfl | (first | (apply Xa;rfl) | apply Xb);(focus simp [cvTb, *];done);focus simp [cvTb, *,-Option.some.injEq];rfl | (first | (apply Xg;rfl) | apply Xk);(focus simp [cvTb, *];done) | (first | refine Xl ?_ | refine Xi ?_ | refine Xh ?_ | refine Xo ?_ | refine Xq ?_);try simp only [Xw,Xx,reduceIte,Nat.reduceEqDiff] | refine Xn ?_ | refine Xp rfl ?_ | refine Xc ?_ | apply Xd;focus simp [cvTb, *];done | apply Xe;focus simp [cvTb, *];done | refine Ya rfl rfl ?_)
   (refine⟨_,(by simp [*];rfl),?_⟩;(try simp only [packA]))
 | none =>
   have hv:findI h s=-1:=by simp only [findI,hf]
   have hk:lkV h s=.tup [.int .i64 0,.bool false]:=by simp only [lkV,hf]
   rw [hk] at hl;rw [hv]
   repeat (first | (first | (apply Xf;rfl) | apply Xj);focus simp [cvTb, *,-Option.some.injEq];rfl | (first | (apply Xa;rfl) | apply Xb);(focus simp [cvTb, *];done);focus simp [cvTb, *,-Option.some.injEq];rfl | (first | (apply Xg;rfl) | apply Xk);(focus simp [cvTb, *];done) | (first | refine Xl ?_ | refine Xi ?_ | refine Xh ?_ | refine Xo ?_ | refine Xq ?_);try simp only [Xw,Xx,reduceIte,Nat.reduceEqDiff] | refine Xn ?_ | refine Xp rfl ?_ | refine Xc ?_ | apply Xd;focus simp [cvTb, *];done | apply Xe;focus simp [cvTb, *];done | refine Ya rfl rfl ?_)
   (refine⟨_,(by simp [*];rfl),?_⟩;(try simp only [packA]))
end
section
open Lx Ax Go.RowKit
attribute [local simp] stepS Ax.stepT Dl.on qstep astep estep rd putE over argE ofV ofS loadA pickCells isAggD faddA fieldA partA iaddA idxA sliA bnd binA intA strA unA convA bltA lenA mapOf findK keyD scalD storeA mupA appA srcA srcD upd drp Dl.hp Dl.nx CV.cs CV.one buildA placesA fillA zrep tasA ifaceD eqA eqFs eqIs range2 copyA nbeq nble nblt decEq beqI bneI beqS bneS isED Int.ofNat_inj List.getElem?_map List.getElem?_eq_getElem Option.map_some ti_int ti_bool ti_str ti_i64 ti_Cds ti_Cd ti_Tb ti_Hi gd gdB callA resA op1
set_option maxRecDepth 10000 in
set_option maxHeartbeats 4000000 in
theorem tk_isType (h:List Cd)(s:Bytes):FCall1 Tryd.prog tkG 53 [cvTb h,.str s] (.bool (typB h s)):=by
 refine FCall.one tkG_pu (by simp [puL,puV,puTb]) rfl ?_;refine FCall.ofBody Tryd.func53 rfl rfl fun nx=>?_
 obtain⟨w,hw⟩:∃ w,w=typB h s:=⟨_,rfl⟩;rw [← hw];unfold typB intB at hw
 by_cases h1:s=[105,110,116]
 ·subst h1;have:w=true:=by rw [hw];rfl
  subst this;clear hw
  repeat (first | (first | (apply Xf;rfl) | apply Xj);focus simp [*,-Option.some.injEq];rfl | (first | (apply Xa;rfl) | apply Xb);(focus simp [*];done);focus simp [*,-Option.some.injEq];rfl | (first | (apply Xg;rfl) | apply Xk);(focus simp [*];done) | (first | refine Xl ?_ | refine Xi ?_ | refine Xh ?_ | refine Xo ?_ | refine Xq ?_);try simp only [Xw,Xx,reduceIte,Nat.reduceEqDiff] | refine Xn ?_ | refine Xp rfl ?_ | refine Xc ?_ | apply Xd;focus simp [*];done | apply Xe;focus simp [*];done | refine Ya rfl rfl ?_)
  (refine⟨_,(by simp [*];rfl),?_⟩;(try simp only [packA]))
 ·have hb:(s == [105,110,116])=false:=by simpa using h1
  rw [hb,Bool.false_or] at hw;clear hb
  repeat (first | (first | (apply Xf;rfl) | apply Xj);focus simp [*,-Option.some.injEq];rfl | (first | (apply Xa;rfl) | apply Xb);(focus simp [*];done);focus simp [*,-Option.some.injEq];rfl | (first | (apply Xg;rfl) | apply Xk);(focus simp [*];done) | (first | refine Xl ?_ | refine Xi ?_ | refine Xh ?_ | refine Xo ?_ | refine Xq ?_);try simp only [Xw,Xx,reduceIte,Nat.reduceEqDiff] | refine Xn ?_ | refine Xp rfl ?_ | refine Xc ?_ | apply Xd;focus simp [*];done | apply Xe;focus simp [*];done | refine Ya rfl rfl ?_)
  ((apply Xr);(focus rfl);(focus (first | rfl | (simp [cvTb, *];done)));(focus simp [cvTb, *,-Option.some.injEq];rfl);kernel_rfl)
  ·exact tk_find h s _
  repeat (first | (first | (apply Xf;rfl) | apply Xj);focus simp [*,-Option.some.injEq];rfl | (first | (apply Xa;rfl) | apply Xb);(focus simp [*];done);focus simp [*,-Option.some.injEq];rfl | (first | (apply Xg;rfl) | apply Xk);(focus simp [*];done) | (first | refine Xl ?_ | refine Xi ?_ | refine Xh ?_ | refine Xo ?_ | refine Xq ?_);try simp only [Xw,Xx,reduceIte,Nat.reduceEqDiff] | refine Xn ?_ | refine Xp rfl ?_ | refine Xc ?_ | apply Xd;focus simp [*];done | apply Xe;focus simp [*];done | refine Ya rfl rfl ?_)
  (refine⟨_,(by simp [*];rfl),?_⟩;(try simp only [packA]))
  all_goals (rw [hw] <;> rfl)
set_option maxRecDepth 10000 in
set_option maxHeartbeats 4000000 in
theorem tk_super (h:List Cd)(i:Nat)(hi:i<h.length):FCall1 Tryd.prog tkG 52 [cvTb h,.int .i64 i] (.int .i64 (superI h i)):=by
 refine FCall.one tkG_pu (by simp [puL,puV,puTb]) rfl ?_;refine FCall.ofBody Tryd.func52 rfl rfl fun nx=>?_
 obtain⟨w,hw⟩:∃ w,w=superI h i:=⟨_,rfl⟩;rw [← hw];simp only [superI,List.getElem?_eq_getElem hi] at hw
 by_cases h1:h[i].super=[]
 ·rw [if_pos h1] at hw
  repeat (first | (first | (apply Xf;rfl) | apply Xj);focus simp [cvTb,cvD, *,-Option.some.injEq];rfl | (first | (apply Xa;rfl) | apply Xb);(focus simp [cvTb,cvD, *];done);focus simp [cvTb,cvD, *,-Option.some.injEq];rfl | (first | (apply Xg;rfl) | apply Xk);(focus simp [cvTb,cvD, *];done) | (first | refine Xl ?_ | refine Xi ?_ | refine Xh ?_ | refine Xo ?_ | refine Xq ?_);try simp only [Xw,Xx,reduceIte,Nat.reduceEqDiff] | refine Xn ?_ | refine Xp rfl ?_ | refine Xc ?_ | apply Xd;focus simp [cvTb,cvD, *];done | apply Xe;focus simp [cvTb,cvD, *];done | refine Ya rfl rfl ?_)
  (refine⟨_,(by simp [*];rfl),?_⟩;(try simp only [packA]))
  all_goals (rw [hw] <;> rfl)
 ·rw [if_neg h1] at hw
  repeat (first | (first | (apply Xf;rfl) | apply Xj);focus simp [cvTb,cvD, *,-Option.some.injEq];rfl | (first | (apply Xa;rfl) | apply Xb);(focus simp [cvTb,cvD, *];done);focus simp [cvTb,cvD, *,-Option.some.injEq];rfl | (first | (apply Xg;rfl) | apply Xk);(focus simp [cvTb,cvD, *];done) | (first | refine Xl ?_ | refine Xi ?_ | refine Xh ?_ | refine Xo ?_ | refine Xq ?_);try simp only [Xw,Xx,reduceIte,Nat.reduceEqDiff] | refine Xn ?_ | refine Xp rfl ?_ | refine Xc ?_ | apply Xd;focus simp [cvTb,cvD, *];done | apply Xe;focus simp [cvTb,cvD, *];done | refine Ya rfl rfl ?_)
  (first | (first | (apply AOpl.callN;rfl) | apply ASl.call);(focus simp [cvTb,cvD, *,-Option.some.injEq];rfl);kernel_rfl | (first | (apply AOpl.callNG;rfl) | apply ASl.callg);(focus simp [cvTb,cvD, *];done);(focus simp [cvTb,cvD, *,-Option.some.injEq];rfl);kernel_rfl)
  ·exact tk_find h _
  repeat (first | (first | (apply Xf;rfl) | apply Xj);focus simp [*,-Option.some.injEq];rfl | (first | (apply Xa;rfl) | apply Xb);(focus simp [*];done);focus simp [*,-Option.some.injEq];rfl | (first | (apply Xg;rfl) | apply Xk);(focus simp [*];done) | (first | refine Xl ?_ | refine Xi ?_ | refine Xh ?_ | refine Xo ?_ | refine Xq ?_);try simp only [Xw,Xx,reduceIte,Nat.reduceEqDiff] | refine Xn ?_ | refine Xp rfl ?_ | refine Xc ?_ | apply Xd;focus simp [*];done | apply Xe;focus simp [*];done | refine Ya rfl rfl ?_)
  (refine⟨_,(by simp [*];rfl),?_⟩;(try simp only [packA]))
  all_goals (rw [hw] <;> rfl)
theorem ix_find (h:List Cd)(s:Bytes):ofN (h.findIdx? fun c=>c.name == s)=findI h s:=by
 unfold findI findN ofN;cases h.findIdx? fun c=>c.name == s <;> rfl
set_option maxRecDepth 10000 in
set_option maxHeartbeats 4000000 in
theorem tk_Find (h:List Cd)(hl:h.length≤lim)(s:Bytes):FCall1 Tryd.prog tkG 18 [cvH h,.str s] (.int .i64 (findI h s)):=by
 refine FCall.one tkG_pu (by simp [puL,puV,puH]) rfl ?_;refine FCall.ofBody Tryd.func18 rfl rfl fun nx=>?_
 have hx:=ix_D s h hl;rw [ix_find] at hx
 repeat (first | (first | (apply Xf;rfl) | apply Xj);focus simp [cvH, *,-Option.some.injEq];rfl | (first | (apply Xa;rfl) | apply Xb);(focus simp [cvH, *];done);focus simp [cvH, *,-Option.some.injEq];rfl | (first | (apply Xg;rfl) | apply Xk);(focus simp [cvH, *];done) | (first | refine Xl ?_ | refine Xi ?_ | refine Xh ?_ | refine Xo ?_ | refine Xq ?_);try simp only [Xw,Xx,reduceIte,Nat.reduceEqDiff] | refine Xn ?_ | refine Xp rfl ?_ | refine Xc ?_ | apply Xd;focus simp [cvH, *];done | apply Xe;focus simp [cvH, *];done | refine Ya rfl rfl ?_)
 ((apply Xr);(focus rfl);(focus (first | rfl | (simp [*];done)));(focus simp [*,-Option.some.injEq];rfl);kernel_rfl)
 ·exact FCall1.lend tkG_pu hx (by simp [puL,puV,puRm puD])
 repeat (first | (first | (apply Xf;rfl) | apply Xj);focus simp [*,-Option.some.injEq];rfl | (first | (apply Xa;rfl) | apply Xb);(focus simp [*];done);focus simp [*,-Option.some.injEq];rfl | (first | (apply Xg;rfl) | apply Xk);(focus simp [*];done) | (first | refine Xl ?_ | refine Xi ?_ | refine Xh ?_ | refine Xo ?_ | refine Xq ?_);try simp only [Xw,Xx,reduceIte,Nat.reduceEqDiff] | refine Xn ?_ | refine Xp rfl ?_ | refine Xc ?_ | apply Xd;focus simp [*];done | apply Xe;focus simp [*];done | refine Ya rfl rfl ?_)
 (refine⟨_,(by simp [*];rfl),?_⟩;(try simp only [packA]))
end
end Go.Proofs.YtoookjadbhdfhaaDoor
