/-
  slices.IndexFunc with functions that compare names; walked.
-/
import Derived.Test.YtoookjadbhdfhaaGreatDoorUJpAs
import Derived.Test.YtoookjadbhdfhaaGreatDoorUJpAp
set_option linter.unusedSectionVars false
set_option linter.unusedSimpArgs false
set_option linter.unnecessarySimpa false
set_option linter.unusedVariables false
set_option linter.unusedSimpArgs false
set_option linter.unusedVariables false
namespace Go.Proofs.YtoookjadbhdfhaaGreatDoor
section
open Lx Ax Go.RowKit
attribute [local simp] stepS Ax.stepT Dl.on qstep astep estep rd putE over argE ofV ofS loadA pickCells isAggD faddA fieldA partA iaddA idxA sliA bnd binA intA strA unA convA bltA lenA mapOf lookA findK keyD scalD storeA mupA appA srcA srcD upd drp Dl.hp Dl.nx CV.cs CV.one buildA placesA fillA zrep tasA ifaceD eqA eqFs eqIs range2 copyA nbeq nble nblt decEq beqI bneI beqS bneS isED Int.ofNat_inj List.getElem?_map List.getElem?_eq_getElem Option.map_some ti_int ti_bool ti_str ti_i64 ti_Strs ti_Cds ti_Cd ti_Flds ti_Fld ti_Sgs ti_Sg gd gdB callA resA op1
theorem idx_hit {α:Type}{l:List α}{p:α→Bool}{i:Nat}(hlt:i<l.length)(hn:(l.take i).any p=false)(hs:p l[i]=true):l.findIdx? p=some i:=by
 refine List.findIdx?_eq_some_iff_getElem.mpr ⟨hlt,hs,fun j hj=>?_⟩;have h3:=List.any_eq_false.mp hn l[j] (by rw [List.mem_take_iff_getElem];exact⟨j,by omega,rfl⟩);exact h3
theorem idx_no {α:Type}{l:List α}{p:α→Bool}(hn:l.any p=false):l.findIdx? p=none:=by
 refine List.findIdx?_eq_none_iff.mpr fun c hc=>?_
 have:=List.any_eq_false.mp hn c hc;simpa using this
theorem any_next {α:Type}{l:List α}{p:α→Bool}{i:Nat}(hlt:i<l.length)(hn:(l.take i).any p=false)(hs:p l[i]=false):(l.take (i+1)).any p=false:=by
 rw [List.take_succ_eq_append_getElem hlt,List.any_append,hn];simp [hs]
/-- Lists in memory are no longer than this. -/
def lim:Nat:=100000000
theorem lim_wrap {i n:Nat}(h:i<n)(hn:n≤lim):IntKind.i64.wrap ((i:Int)+1)=((i+1:Nat):Int):=by
 rw [IntKind.wrap_i64];simp only [lim] at hn;omega
set_option maxRecDepth 10000 in
set_option maxHeartbeats 4000000 in
theorem ixc_D (s:Bytes)(c:Cd):FCall1 Tryz.prog tkG 64 [.agg (cvD c),.rop [.str s]] (.bool (c.name == s)):=by
 refine FCall.one tkG_pu (by simp [puL,puV,puD]) rfl ?_;refine FCall.ofBody Tryz.func64 rfl rfl fun nx=>?_
 repeat (first | (first | (apply Xf;rfl) | apply Xj);focus simp [cvD, *,-Option.some.injEq];rfl | (first | (apply Xa;rfl) | apply Xb);(focus simp [cvD, *];done);focus simp [cvD, *,-Option.some.injEq];rfl | (first | (apply Xg;rfl) | apply Xk);(focus simp [cvD, *];done) | (first | refine Xl ?_ | refine Xi ?_ | refine Xh ?_ | refine Xo ?_ | refine Xq ?_);try simp only [Xx,Xy,reduceIte,Nat.reduceEqDiff] | refine Xn ?_ | refine Xp rfl ?_ | refine Xc ?_ | apply Xd;focus simp [cvD, *];done | apply Xe;focus simp [cvD, *];done | refine Yb rfl rfl ?_)
 (refine⟨_,(by simp [*];rfl),?_⟩;(try simp only [packA]))
 all_goals (rw [beqS])
set_option maxRecDepth 10000 in
set_option maxHeartbeats 8000000 in
theorem ix_D (s:Bytes)(l:List Cd)(hl:l.length≤lim) :
  FCall1 Tryz.prog tkG 63 [.lst (l.map cvD),.fn (.func 64) [] [.rop [.str s]]] (.int .i64 (ofN (l.findIdx? fun c=>c.name == s))):=by
 refine FCall.one tkG_pu (by simp [puL,puV,puRm puD]) rfl ?_;refine FCall.ofBody Tryz.func63 rfl rfl fun nx=>?_
 repeat (first | (first | (apply Xf;rfl) | apply Xj);focus simp [*,-Option.some.injEq];rfl | (first | (apply Xa;rfl) | apply Xb);(focus simp [*];done);focus simp [*,-Option.some.injEq];rfl | (first | (apply Xg;rfl) | apply Xk);(focus simp [*];done) | (first | refine Xl ?_ | refine Xi ?_ | refine Xh ?_ | refine Xo ?_ | refine Xq ?_);try simp only [Xx,Xy,reduceIte,Nat.reduceEqDiff] | refine Xn ?_ | refine Xp rfl ?_ | refine Xc ?_ | apply Xd;focus simp [*];done | apply Xe;focus simp [*];done | refine Yb rfl rfl ?_)
 refine AWp.countO l.length [4,5,8] 9 (fun i e H1 _=>e 8=.int .i64 i∧(l.take i).any (fun c=>c.name == s)=false) ⟨(by first | (simp (disch:=omega) [putE,over,ofV,ofS, *];done) | (simp (disch:=omega) [putE,over,ofV,ofS, *];rfl)),rfl⟩ ?_;rintro i v H1 nx1 hi hn1 ⟨h8,ha⟩
 repeat (first | (first | (apply Xf;rfl) | apply Xj);focus simp [*,-Option.some.injEq];rfl | (first | (apply Xa;rfl) | apply Xb);(focus simp [*];done);focus simp [*,-Option.some.injEq];rfl | (first | (apply Xg;rfl) | apply Xk);(focus simp [*];done) | (first | refine Xl ?_ | refine Xi ?_ | refine Xh ?_ | refine Xo ?_ | refine Xq ?_);try simp only [Xx,Xy,reduceIte,Nat.reduceEqDiff] | refine Xn ?_ | refine Xp rfl ?_ | refine Xc ?_ | apply Xd;focus simp [*];done | apply Xe;focus simp [*];done | refine Yb rfl rfl ?_)
 (((apply AWp.cond');(focus (simp [*,-Ax.CV.bool.injEq];rfl))) <;> (intro hb) <;> (try simp only [decide_eq_true_eq,decide_eq_false_iff_not,Bool.not_eq_true',Bool.not_eq_false',Bool.not_eq_true,Bool.not_eq_false] at hb))
 ·have hlt:i<l.length:=hb;have hwi:=lim_wrap hlt hl;clear hb
  repeat (first | (first | (apply Xf;rfl) | apply Xj);focus simp [*,-Option.some.injEq];rfl | (first | (apply Xa;rfl) | apply Xb);(focus simp [*];done);focus simp [*,-Option.some.injEq];rfl | (first | (apply Xg;rfl) | apply Xk);(focus simp [*];done) | (first | refine Xl ?_ | refine Xi ?_ | refine Xh ?_ | refine Xo ?_ | refine Xq ?_);try simp only [Xx,Xy,reduceIte,Nat.reduceEqDiff] | refine Xn ?_ | refine Xp rfl ?_ | refine Xc ?_ | apply Xd;focus simp [*];done | apply Xe;focus simp [*];done | refine Yb rfl rfl ?_)
  ((apply Xr);(focus rfl);(focus (first | rfl | (simp [*];done)));(focus simp [*,-Option.some.injEq];rfl);kernel_rfl)
  ·exact ixc_D s l[i] _
  cases hc:(l[i].name == s) with
  | true =>
    have hf2:=idx_hit hlt ha hc;clear hc ha
    repeat (first | (first | (apply Xf;rfl) | apply Xj);focus simp [*,-Option.some.injEq];rfl | (first | (apply Xa;rfl) | apply Xb);(focus simp [*];done);focus simp [*,-Option.some.injEq];rfl | (first | (apply Xg;rfl) | apply Xk);(focus simp [*];done) | (first | refine Xl ?_ | refine Xi ?_ | refine Xh ?_ | refine Xo ?_ | refine Xq ?_);try simp only [Xx,Xy,reduceIte,Nat.reduceEqDiff] | refine Xn ?_ | refine Xp rfl ?_ | refine Xc ?_ | apply Xd;focus simp [*];done | apply Xe;focus simp [*];done | refine Yb rfl rfl ?_)
    (refine⟨_,(by simp [*];rfl),?_⟩;(try simp only [packA]))
    all_goals (first | (rw [hf2];done) | (rw [hf2];rfl))
  | false =>
    have ha2:=any_next hlt ha hc;clear hc ha
    repeat (first | (first | (apply Xf;rfl) | apply Xj);focus simp [*,-Option.some.injEq];rfl | (first | (apply Xa;rfl) | apply Xb);(focus simp [*];done);focus simp [*,-Option.some.injEq];rfl | (first | (apply Xg;rfl) | apply Xk);(focus simp [*];done) | (first | refine Xl ?_ | refine Xi ?_ | refine Xh ?_ | refine Xo ?_ | refine Xq ?_);try simp only [Xx,Xy,reduceIte,Nat.reduceEqDiff] | refine Xn ?_ | refine Xp rfl ?_ | refine Xc ?_ | apply Xd;focus simp [*];done | apply Xe;focus simp [*];done | refine Yb rfl rfl ?_)
    exact⟨by ((repeat (first | exact Keeps.base _ _ _ _ | (with_reducible exact Keeps.refl _ _ _) | (refine Keeps.put rfl ?_) | (refine Keeps.over' rfl rfl ?_)))),hlt,(by first | (simp (disch:=omega) [putE,over,ofV,ofS, *];done) | (simp (disch:=omega) [putE,over,ofV,ofS, *];rfl)),ha2⟩
 ·have hi':i=l.length:=by omega
  rw [hi',List.take_length] at ha;have hf2:=idx_no ha;clear ha hb
  repeat (first | (first | (apply Xf;rfl) | apply Xj);focus simp [*,-Option.some.injEq];rfl | (first | (apply Xa;rfl) | apply Xb);(focus simp [*];done);focus simp [*,-Option.some.injEq];rfl | (first | (apply Xg;rfl) | apply Xk);(focus simp [*];done) | (first | refine Xl ?_ | refine Xi ?_ | refine Xh ?_ | refine Xo ?_ | refine Xq ?_);try simp only [Xx,Xy,reduceIte,Nat.reduceEqDiff] | refine Xn ?_ | refine Xp rfl ?_ | refine Xc ?_ | apply Xd;focus simp [*];done | apply Xe;focus simp [*];done | refine Yb rfl rfl ?_)
  (refine⟨_,(by simp [*];rfl),?_⟩;(try simp only [packA]))
  all_goals (first | (rw [hf2];done) | (rw [hf2];rfl))
set_option maxRecDepth 10000 in
set_option maxHeartbeats 4000000 in
theorem ixc_F (s:Bytes)(c:Fld):FCall1 Tryz.prog tkG 98 [.agg (cvF c),.rop [.str s]] (.bool (c.name == s)):=by
 refine FCall.one tkG_pu (by simp [puL,puV,puF]) rfl ?_;refine FCall.ofBody Tryz.func98 rfl rfl fun nx=>?_
 repeat (first | (first | (apply Xf;rfl) | apply Xj);focus simp [cvF, *,-Option.some.injEq];rfl | (first | (apply Xa;rfl) | apply Xb);(focus simp [cvF, *];done);focus simp [cvF, *,-Option.some.injEq];rfl | (first | (apply Xg;rfl) | apply Xk);(focus simp [cvF, *];done) | (first | refine Xl ?_ | refine Xi ?_ | refine Xh ?_ | refine Xo ?_ | refine Xq ?_);try simp only [Xx,Xy,reduceIte,Nat.reduceEqDiff] | refine Xn ?_ | refine Xp rfl ?_ | refine Xc ?_ | apply Xd;focus simp [cvF, *];done | apply Xe;focus simp [cvF, *];done | refine Yb rfl rfl ?_)
 (refine⟨_,(by simp [*];rfl),?_⟩;(try simp only [packA]))
 all_goals (rw [beqS])
set_option maxRecDepth 10000 in
set_option maxHeartbeats 8000000 in
theorem ix_F (s:Bytes)(l:List Fld)(hl:l.length≤lim) :
  FCall1 Tryz.prog tkG 88 [.lst (l.map cvF),.fn (.func 98) [] [.rop [.str s]]] (.int .i64 (ofN (l.findIdx? fun c=>c.name == s))):=by
 refine FCall.one tkG_pu (by simp [puL,puV,puRm puF]) rfl ?_;refine FCall.ofBody Tryz.func88 rfl rfl fun nx=>?_
 repeat (first | (first | (apply Xf;rfl) | apply Xj);focus simp [*,-Option.some.injEq];rfl | (first | (apply Xa;rfl) | apply Xb);(focus simp [*];done);focus simp [*,-Option.some.injEq];rfl | (first | (apply Xg;rfl) | apply Xk);(focus simp [*];done) | (first | refine Xl ?_ | refine Xi ?_ | refine Xh ?_ | refine Xo ?_ | refine Xq ?_);try simp only [Xx,Xy,reduceIte,Nat.reduceEqDiff] | refine Xn ?_ | refine Xp rfl ?_ | refine Xc ?_ | apply Xd;focus simp [*];done | apply Xe;focus simp [*];done | refine Yb rfl rfl ?_)
 refine AWp.countO l.length [4,5,8] 9 (fun i e H1 _=>e 8=.int .i64 i∧(l.take i).any (fun c=>c.name == s)=false) ⟨(by first | (simp (disch:=omega) [putE,over,ofV,ofS, *];done) | (simp (disch:=omega) [putE,over,ofV,ofS, *];rfl)),rfl⟩ ?_;rintro i v H1 nx1 hi hn1 ⟨h8,ha⟩
 repeat (first | (first | (apply Xf;rfl) | apply Xj);focus simp [*,-Option.some.injEq];rfl | (first | (apply Xa;rfl) | apply Xb);(focus simp [*];done);focus simp [*,-Option.some.injEq];rfl | (first | (apply Xg;rfl) | apply Xk);(focus simp [*];done) | (first | refine Xl ?_ | refine Xi ?_ | refine Xh ?_ | refine Xo ?_ | refine Xq ?_);try simp only [Xx,Xy,reduceIte,Nat.reduceEqDiff] | refine Xn ?_ | refine Xp rfl ?_ | refine Xc ?_ | apply Xd;focus simp [*];done | apply Xe;focus simp [*];done | refine Yb rfl rfl ?_)
 (((apply AWp.cond');(focus (simp [*,-Ax.CV.bool.injEq];rfl))) <;> (intro hb) <;> (try simp only [decide_eq_true_eq,decide_eq_false_iff_not,Bool.not_eq_true',Bool.not_eq_false',Bool.not_eq_true,Bool.not_eq_false] at hb))
 ·have hlt:i<l.length:=hb;have hwi:=lim_wrap hlt hl;clear hb
  repeat (first | (first | (apply Xf;rfl) | apply Xj);focus simp [*,-Option.some.injEq];rfl | (first | (apply Xa;rfl) | apply Xb);(focus simp [*];done);focus simp [*,-Option.some.injEq];rfl | (first | (apply Xg;rfl) | apply Xk);(focus simp [*];done) | (first | refine Xl ?_ | refine Xi ?_ | refine Xh ?_ | refine Xo ?_ | refine Xq ?_);try simp only [Xx,Xy,reduceIte,Nat.reduceEqDiff] | refine Xn ?_ | refine Xp rfl ?_ | refine Xc ?_ | apply Xd;focus simp [*];done | apply Xe;focus simp [*];done | refine Yb rfl rfl ?_)
  ((apply Xr);(focus rfl);(focus (first | rfl | (simp [*];done)));(focus simp [*,-Option.some.injEq];rfl);kernel_rfl)
  ·exact ixc_F s l[i] _
  cases hc:(l[i].name == s) with
  | true =>
    have hf2:=idx_hit hlt ha hc;clear hc ha
    repeat (first | (first | (apply Xf;rfl) | apply Xj);focus simp [*,-Option.some.injEq];rfl | (first | (apply Xa;rfl) | apply Xb);(focus simp [*];done);focus simp [*,-Option.some.injEq];rfl | (first | (apply Xg;rfl) | apply Xk);(focus simp [*];done) | (first | refine Xl ?_ | refine Xi ?_ | refine Xh ?_ | refine Xo ?_ | refine Xq ?_);try simp only [Xx,Xy,reduceIte,Nat.reduceEqDiff] | refine Xn ?_ | refine Xp rfl ?_ | refine Xc ?_ | apply Xd;focus simp [*];done | apply Xe;focus simp [*];done | refine Yb rfl rfl ?_)
    (refine⟨_,(by simp [*];rfl),?_⟩;(try simp only [packA]))
    all_goals (first | (rw [hf2];done) | (rw [hf2];rfl))
  | false =>
    have ha2:=any_next hlt ha hc;clear hc ha
    repeat (first | (first | (apply Xf;rfl) | apply Xj);focus simp [*,-Option.some.injEq];rfl | (first | (apply Xa;rfl) | apply Xb);(focus simp [*];done);focus simp [*,-Option.some.injEq];rfl | (first | (apply Xg;rfl) | apply Xk);(focus simp [*];done) | (first | refine Xl ?_ | refine Xi ?_ | refine Xh ?_ | refine Xo ?_ | refine Xq ?_);try simp only [Xx,Xy,reduceIte,Nat.reduceEqDiff] | refine Xn ?_ | refine Xp rfl ?_ | refine Xc ?_ | apply Xd;focus simp [*];done | apply Xe;focus simp [*];done | refine Yb rfl rfl ?_)
    exact⟨by ((repeat (first | exact Keeps.base _ _ _ _ | (with_reducible exact Keeps.refl _ _ _) | (refine Keeps.put rfl ?_) | (refine Keeps.over' rfl rfl ?_)))),hlt,(by first | (simp (disch:=omega) [putE,over,ofV,ofS, *];done) | (simp (disch:=omega) [putE,over,ofV,ofS, *];rfl)),ha2⟩
 ·have hi':i=l.length:=by omega
  rw [hi',List.take_length] at ha;have hf2:=idx_no ha;clear ha hb
  repeat (first | (first | (apply Xf;rfl) | apply Xj);focus simp [*,-Option.some.injEq];rfl | (first | (apply Xa;rfl) | apply Xb);(focus simp [*];done);focus simp [*,-Option.some.injEq];rfl | (first | (apply Xg;rfl) | apply Xk);(focus simp [*];done) | (first | refine Xl ?_ | refine Xi ?_ | refine Xh ?_ | refine Xo ?_ | refine Xq ?_);try simp only [Xx,Xy,reduceIte,Nat.reduceEqDiff] | refine Xn ?_ | refine Xp rfl ?_ | refine Xc ?_ | apply Xd;focus simp [*];done | apply Xe;focus simp [*];done | refine Yb rfl rfl ?_)
  (refine⟨_,(by simp [*];rfl),?_⟩;(try simp only [packA]))
  all_goals (first | (rw [hf2];done) | (rw [hf2];rfl))
set_option maxRecDepth 10000 in
set_option maxHeartbeats 4000000 in
theorem ixc_M (s:Bytes)(c:Sg):FCall1 Tryz.prog tkG 100 [.agg (cvG c),.rop [.str s]] (.bool (c.name == s)):=by
 refine FCall.one tkG_pu (by simp [puL,puV,puG]) rfl ?_;refine FCall.ofBody Tryz.func100 rfl rfl fun nx=>?_
 repeat (first | (first | (apply Xf;rfl) | apply Xj);focus simp [cvG, *,-Option.some.injEq];rfl | (first | (apply Xa;rfl) | apply Xb);(focus simp [cvG, *];done);focus simp [cvG, *,-Option.some.injEq];rfl | (first | (apply Xg;rfl) | apply Xk);(focus simp [cvG, *];done) | (first | refine Xl ?_ | refine Xi ?_ | refine Xh ?_ | refine Xo ?_ | refine Xq ?_);try simp only [Xx,Xy,reduceIte,Nat.reduceEqDiff] | refine Xn ?_ | refine Xp rfl ?_ | refine Xc ?_ | apply Xd;focus simp [cvG, *];done | apply Xe;focus simp [cvG, *];done | refine Yb rfl rfl ?_)
 (refine⟨_,(by simp [*];rfl),?_⟩;(try simp only [packA]))
 all_goals (rw [beqS])
set_option maxRecDepth 10000 in
set_option maxHeartbeats 8000000 in
theorem ix_M (s:Bytes)(l:List Sg)(hl:l.length≤lim) :
  FCall1 Tryz.prog tkG 65 [.lst (l.map cvG),.fn (.func 100) [] [.rop [.str s]]] (.int .i64 (ofN (l.findIdx? fun c=>c.name == s))):=by
 refine FCall.one tkG_pu (by simp [puL,puV,puRm puG]) rfl ?_;refine FCall.ofBody Tryz.func65 rfl rfl fun nx=>?_
 repeat (first | (first | (apply Xf;rfl) | apply Xj);focus simp [*,-Option.some.injEq];rfl | (first | (apply Xa;rfl) | apply Xb);(focus simp [*];done);focus simp [*,-Option.some.injEq];rfl | (first | (apply Xg;rfl) | apply Xk);(focus simp [*];done) | (first | refine Xl ?_ | refine Xi ?_ | refine Xh ?_ | refine Xo ?_ | refine Xq ?_);try simp only [Xx,Xy,reduceIte,Nat.reduceEqDiff] | refine Xn ?_ | refine Xp rfl ?_ | refine Xc ?_ | apply Xd;focus simp [*];done | apply Xe;focus simp [*];done | refine Yb rfl rfl ?_)
 refine AWp.countO l.length [4,5,8] 9 (fun i e H1 _=>e 8=.int .i64 i∧(l.take i).any (fun c=>c.name == s)=false) ⟨(by first | (simp (disch:=omega) [putE,over,ofV,ofS, *];done) | (simp (disch:=omega) [putE,over,ofV,ofS, *];rfl)),rfl⟩ ?_;rintro i v H1 nx1 hi hn1 ⟨h8,ha⟩
 repeat (first | (first | (apply Xf;rfl) | apply Xj);focus simp [*,-Option.some.injEq];rfl | (first | (apply Xa;rfl) | apply Xb);(focus simp [*];done);focus simp [*,-Option.some.injEq];rfl | (first | (apply Xg;rfl) | apply Xk);(focus simp [*];done) | (first | refine Xl ?_ | refine Xi ?_ | refine Xh ?_ | refine Xo ?_ | refine Xq ?_);try simp only [Xx,Xy,reduceIte,Nat.reduceEqDiff] | refine Xn ?_ | refine Xp rfl ?_ | refine Xc ?_ | apply Xd;focus simp [*];done | apply Xe;focus simp [*];done | refine Yb rfl rfl ?_)
 (((apply AWp.cond');(focus (simp [*,-Ax.CV.bool.injEq];rfl))) <;> (intro hb) <;> (try simp only [decide_eq_true_eq,decide_eq_false_iff_not,Bool.not_eq_true',Bool.not_eq_false',Bool.not_eq_true,Bool.not_eq_false] at hb))
 ·have hlt:i<l.length:=hb;have hwi:=lim_wrap hlt hl;clear hb
  repeat (first | (first | (apply Xf;rfl) | apply Xj);focus simp [*,-Option.some.injEq];rfl | (first | (apply Xa;rfl) | apply Xb);(focus simp [*];done);focus simp [*,-Option.some.injEq];rfl | (first | (apply Xg;rfl) | apply Xk);(focus simp [*];done) | (first | refine Xl ?_ | refine Xi ?_ | refine Xh ?_ | refine Xo ?_ | refine Xq ?_);try simp only [Xx,Xy,reduceIte,Nat.reduceEqDiff] | refine Xn ?_ | refine Xp rfl ?_ | refine Xc ?_ | apply Xd;focus simp [*];done | apply Xe;focus simp [*];done | refine Yb rfl rfl ?_)
  ((apply Xr);(focus rfl);(focus (first | rfl | (simp [*];done)));(focus simp [*,-Option.some.injEq];rfl);kernel_rfl)
  ·exact ixc_M s l[i] _
  cases hc:(l[i].name == s) with
  | true =>
    have hf2:=idx_hit hlt ha hc;clear hc ha
    repeat (first | (first | (apply Xf;rfl) | apply Xj);focus simp [*,-Option.some.injEq];rfl | (first | (apply Xa;rfl) | apply Xb);(focus simp [*];done);focus simp [*,-Option.some.injEq];rfl | (first | (apply Xg;rfl) | apply Xk);(focus simp [*];done) | (first | refine Xl ?_ | refine Xi ?_ | refine Xh ?_ | refine Xo ?_ | refine Xq ?_);try simp only [Xx,Xy,reduceIte,Nat.reduceEqDiff] | refine Xn ?_ | refine Xp rfl ?_ | refine Xc ?_ | apply Xd;focus simp [*];done | apply Xe;focus simp [*];done | refine Yb rfl rfl ?_)
    (refine⟨_,(by simp [*];rfl),?_⟩;(try simp only [packA]))
    all_goals (first | (rw [hf2];done) | (rw [hf2];rfl))
  | false =>
    have ha2:=any_next hlt ha hc;clear hc ha
    repeat (first | (first | (apply Xf;rfl) | apply Xj);focus simp [*,-Option.some.injEq];rfl | (first | (apply Xa;rfl) | apply Xb);(focus simp [*];done);focus simp [*,-Option.some.injEq];rfl | (first | (apply Xg;rfl) | apply Xk);(focus simp [*];done) | (first | refine Xl ?_ | refine Xi ?_ | refine Xh ?_ | refine Xo ?_ | refine Xq ?_);try simp only [Xx,Xy,reduceIte,Nat.reduceEqDiff] | refine Xn ?_ | refine Xp rfl ?_ | refine Xc ?_ | apply Xd;focus simp [*];done | apply Xe;focus simp [*];done | refine Yb rfl rfl ?_)
    exact⟨by ((repeat (first | exact Keeps.base _ _ _ _ | (with_reducible exact Keeps.refl _ _ _) | (refine Keeps.put rfl ?_) | (refine Keeps.over' rfl rfl ?_)))),hlt,(by first | (simp (disch:=omega) [putE,over,ofV,ofS, *];done) | (simp (disch:=omega) [putE,over,ofV,ofS, *];rfl)),ha2⟩
 ·have hi':i=l.length:=by omega
  rw [hi',List.take_length] at ha;have hf2:=idx_no ha;clear ha hb
  repeat (first | (first | (apply Xf;rfl) | apply Xj);focus simp [*,-Option.some.injEq];rfl | (first | (apply Xa;rfl) | apply Xb);(focus simp [*];done);focus simp [*,-Option.some.injEq];rfl | (first | (apply Xg;rfl) | apply Xk);(focus simp [*];done) | (first | refine Xl ?_ | refine Xi ?_ | refine Xh ?_ | refine Xo ?_ | refine Xq ?_);try simp only [Xx,Xy,reduceIte,Nat.reduceEqDiff] | refine Xn ?_ | refine Xp rfl ?_ | refine Xc ?_ | apply Xd;focus simp [*];done | apply Xe;focus simp [*];done | refine Yb rfl rfl ?_)
  (refine⟨_,(by simp [*];rfl),?_⟩;(try simp only [packA]))
  all_goals (first | (rw [hf2];done) | (rw [hf2];rfl))
set_option maxRecDepth 10000 in
set_option maxHeartbeats 4000000 in
theorem ixc_V (s:Bytes)(c:Fld):FCall1 Tryz.prog tkG 89 [.agg (cvF c),.rop [.str s]] (.bool (c.name == s)):=by
 refine FCall.one tkG_pu (by simp [puL,puV,puF]) rfl ?_;refine FCall.ofBody Tryz.func89 rfl rfl fun nx=>?_
 repeat (first | (first | (apply Xf;rfl) | apply Xj);focus simp [cvF, *,-Option.some.injEq];rfl | (first | (apply Xa;rfl) | apply Xb);(focus simp [cvF, *];done);focus simp [cvF, *,-Option.some.injEq];rfl | (first | (apply Xg;rfl) | apply Xk);(focus simp [cvF, *];done) | (first | refine Xl ?_ | refine Xi ?_ | refine Xh ?_ | refine Xo ?_ | refine Xq ?_);try simp only [Xx,Xy,reduceIte,Nat.reduceEqDiff] | refine Xn ?_ | refine Xp rfl ?_ | refine Xc ?_ | apply Xd;focus simp [cvF, *];done | apply Xe;focus simp [cvF, *];done | refine Yb rfl rfl ?_)
 (refine⟨_,(by simp [*];rfl),?_⟩;(try simp only [packA]))
 all_goals (rw [beqS])
set_option maxRecDepth 10000 in
set_option maxHeartbeats 8000000 in
theorem ix_V (s:Bytes)(l:List Fld)(hl:l.length≤lim) :
  FCall1 Tryz.prog tkG 88 [.lst (l.map cvF),.fn (.func 89) [] [.rop [.str s]]] (.int .i64 (ofN (l.findIdx? fun c=>c.name == s))):=by
 refine FCall.one tkG_pu (by simp [puL,puV,puRm puF]) rfl ?_;refine FCall.ofBody Tryz.func88 rfl rfl fun nx=>?_
 repeat (first | (first | (apply Xf;rfl) | apply Xj);focus simp [*,-Option.some.injEq];rfl | (first | (apply Xa;rfl) | apply Xb);(focus simp [*];done);focus simp [*,-Option.some.injEq];rfl | (first | (apply Xg;rfl) | apply Xk);(focus simp [*];done) | (first | refine Xl ?_ | refine Xi ?_ | refine Xh ?_ | refine Xo ?_ | refine Xq ?_);try simp only [Xx,Xy,reduceIte,Nat.reduceEqDiff] | refine Xn ?_ | refine Xp rfl ?_ | refine Xc ?_ | apply Xd;focus simp [*];done | apply Xe;focus simp [*];done | refine Yb rfl rfl ?_)
 refine AWp.countO l.length [4,5,8] 9 (fun i e H1 _=>e 8=.int .i64 i∧(l.take i).any (fun c=>c.name == s)=false) ⟨(by first | (simp (disch:=omega) [putE,over,ofV,ofS, *];done) | (simp (disch:=omega) [putE,over,ofV,ofS, *];rfl)),rfl⟩ ?_;rintro i v H1 nx1 hi hn1 ⟨h8,ha⟩
 repeat (first | (first | (apply Xf;rfl) | apply Xj);focus simp [*,-Option.some.injEq];rfl | (first | (apply Xa;rfl) | apply Xb);(focus simp [*];done);focus simp [*,-Option.some.injEq];rfl | (first | (apply Xg;rfl) | apply Xk);(focus simp [*];done) | (first | refine Xl ?_ | refine Xi ?_ | refine Xh ?_ | refine Xo ?_ | refine Xq ?_);try simp only [Xx,Xy,reduceIte,Nat.reduceEqDiff] | refine Xn ?_ | refine Xp rfl ?_ | refine Xc ?_ | apply Xd;focus simp [*];done | apply Xe;focus simp [*];done | refine Yb rfl rfl ?_)
 (((apply AWp.cond');(focus (simp [*,-Ax.CV.bool.injEq];rfl))) <;> (intro hb) <;> (try simp only [decide_eq_true_eq,decide_eq_false_iff_not,Bool.not_eq_true',Bool.not_eq_false',Bool.not_eq_true,Bool.not_eq_false] at hb))
 ·have hlt:i<l.length:=hb;have hwi:=lim_wrap hlt hl;clear hb
  repeat (first | (first | (apply Xf;rfl) | apply Xj);focus simp [*,-Option.some.injEq];rfl | (first | (apply Xa;rfl) | apply Xb);(focus simp [*];done);focus simp [*,-Option.some.injEq];rfl | (first | (apply Xg;rfl) | apply Xk);(focus simp [*];done) | (first | refine Xl ?_ | refine Xi ?_ | refine Xh ?_ | refine Xo ?_ | refine Xq ?_);try simp only [Xx,Xy,reduceIte,Nat.reduceEqDiff] | refine Xn ?_ | refine Xp rfl ?_ | refine Xc ?_ | apply Xd;focus simp [*];done | apply Xe;focus simp [*];done | refine Yb rfl rfl ?_)
  ((apply Xr);(focus rfl);(focus (first | rfl | (simp [*];done)));(focus simp [*,-Option.some.injEq];rfl);kernel_rfl)
  ·exact ixc_V s l[i] _
  cases hc:(l[i].name == s) with
  | true =>
    have hf2:=idx_hit hlt ha hc;clear hc ha
    repeat (first | (first | (apply Xf;rfl) | apply Xj);focus simp [*,-Option.some.injEq];rfl | (first | (apply Xa;rfl) | apply Xb);(focus simp [*];done);focus simp [*,-Option.some.injEq];rfl | (first | (apply Xg;rfl) | apply Xk);(focus simp [*];done) | (first | refine Xl ?_ | refine Xi ?_ | refine Xh ?_ | refine Xo ?_ | refine Xq ?_);try simp only [Xx,Xy,reduceIte,Nat.reduceEqDiff] | refine Xn ?_ | refine Xp rfl ?_ | refine Xc ?_ | apply Xd;focus simp [*];done | apply Xe;focus simp [*];done | refine Yb rfl rfl ?_)
    (refine⟨_,(by simp [*];rfl),?_⟩;(try simp only [packA]))
    all_goals (first | (rw [hf2];done) | (rw [hf2];rfl))
  | false =>
    have ha2:=any_next hlt ha hc;clear hc ha
    repeat (first | (first | (apply Xf;rfl) | apply Xj);focus simp [*,-Option.some.injEq];rfl | (first | (apply Xa;rfl) | apply Xb);(focus simp [*];done);focus simp [*,-Option.some.injEq];rfl | (first | (apply Xg;rfl) | apply Xk);(focus simp [*];done) | (first | refine Xl ?_ | refine Xi ?_ | refine Xh ?_ | refine Xo ?_ | refine Xq ?_);try simp only [Xx,Xy,reduceIte,Nat.reduceEqDiff] | refine Xn ?_ | refine Xp rfl ?_ | refine Xc ?_ | apply Xd;focus simp [*];done | apply Xe;focus simp [*];done | refine Yb rfl rfl ?_)
    exact⟨by ((repeat (first | exact Keeps.base _ _ _ _ | (with_reducible exact Keeps.refl _ _ _) | (refine Keeps.put rfl ?_) | (refine Keeps.over' rfl rfl ?_)))),hlt,(by first | (simp (disch:=omega) [putE,over,ofV,ofS, *];done) | (simp (disch:=omega) [putE,over,ofV,ofS, *];rfl)),ha2⟩
 ·have hi':i=l.length:=by omega
  rw [hi',List.take_length] at ha;have hf2:=idx_no ha;clear ha hb
  repeat (first | (first | (apply Xf;rfl) | apply Xj);focus simp [*,-Option.some.injEq];rfl | (first | (apply Xa;rfl) | apply Xb);(focus simp [*];done);focus simp [*,-Option.some.injEq];rfl | (first | (apply Xg;rfl) | apply Xk);(focus simp [*];done) | (first | refine Xl ?_ | refine Xi ?_ | refine Xh ?_ | refine Xo ?_ | refine Xq ?_);try simp only [Xx,Xy,reduceIte,Nat.reduceEqDiff] | refine Xn ?_ | refine Xp rfl ?_ | refine Xc ?_ | apply Xd;focus simp [*];done | apply Xe;focus simp [*];done | refine Yb rfl rfl ?_)
  (refine⟨_,(by simp [*];rfl),?_⟩;(try simp only [packA]))
  all_goals (first | (rw [hf2];done) | (rw [hf2];rfl))
end
section
open Lx Ax Go.RowKit
attribute [local simp] stepS Ax.stepT Dl.on qstep astep estep rd putE over argE ofV ofS loadA pickCells isAggD faddA fieldA partA iaddA idxA sliA bnd binA intA strA unA convA bltA mapOf findK keyD scalD storeA appA srcA srcD upd drp Dl.hp Dl.nx CV.cs CV.one buildA placesA fillA zrep tasA ifaceD eqA eqFs eqIs range2 copyA nbeq nble nblt decEq beqI bneI beqS bneS isED Int.ofNat_inj List.getElem?_map List.getElem?_eq_getElem Option.map_some ti_int ti_bool ti_str ti_i64 ti_Strs ti_Flds ti_Fld ti_Ints ti_Ins ti_In ti_Bd ti_Kd ti_Kf ti_Pb gd gdB callA resA op1
attribute [local simp] nu1 nu2 nu3 nu4 nu5 nu6 nu7 nu8 nu9 nu10 nu11 nu12 nu13 upd_upd
/-- As BdP, and the handlers stay where they are. -/
def BdPT (h:List Cd)(X:Nat)(H:Heap)(nx:Nat)(z:Bv)(b':Bl)(H':Heap)(nx':Nat):Prop :=
 ∃ z',BdI h X H' nx' z' b'∧nx≤nx'∧(∀ x,x<nx→¬ OB X z x→H' x=H x)∧(∀ x,OB X z' x→OB X z x∨nx≤x)∧z'.t=z.t
section
variable {h:List Cd} {X:Nat} {H:Heap} {nx:Nat} {z:Bv} {b:Bl}
theorem BdPT.p {b':Bl}{H':Heap}{nx':Nat}(p:BdPT h X H nx z b' H' nx'):BdP h X H nx z b' H' nx':=by
 obtain⟨z',h1,h2,h3,h4,_⟩:=p;exact⟨z',h1,h2,h3,h4⟩
set_option maxRecDepth 10000 in
set_option maxHeartbeats 4000000 in
theorem lw_declareT (hi:BdI h X H nx z b)(hs:b.scope.length≤lim)(hn:b.next≤lim) :
  DCall Tryz.prog tkG 32 [.ptr X 0] H nx fun v H' nx'=>v=.int .i64 b.next∧BdPT h X H nx z (declB b) H' nx':=by
 refine DCall.of_body Tryz.func32 rfl ?_;have hX:H X=some (.cells ([.lst (h.map cvD),z.v,z.c,.int .i64 b.slots,.int .i64 b.next,z.s,.int .i64 b.handler,z.t]++knd X)):=hi.blk;simp only [knd,List.cons_append,List.nil_append] at hX;have hlX:=hi.lt;have q0:=far hlX;have hw:IntKind.i64.wrap ((b.next:Int)+1)=((b.next+1:Nat):Int):=by rw [IntKind.wrap_i64];simp only [lim] at hn;omega
 refine gD ?_;have hi1:=hi.up (H':=upd H nx (.cells [.int .i64 b.next])) (nx':=nx+1) (by omega) (fun x hx=>upd_miss _ _ _ _ (by omega));refine DOpl.appQ cvW_len cvW_one ti_Ints ti_int b.next hi1.s (by simp only [lim] at hs;omega) ?_ (hxb:=by simp [upd,cvW]);intro H2 hN hfr;have sX:∀ b',z.s=.sl b' 0 b.scope.length 1→X≠b':=fun b' e=>(hi.nX b' (.inr (.inr (.inl ⟨_,_,_,e⟩)))).symm
 have hX2:H2 X=H X:=by rw [hfr X (by omega) sX,upd_miss _ _ _ _ (by omega)]
 rw [hX] at hX2;refine gD ?_
 (refine⟨_,(by simp [*];rfl),?_⟩;(try simp only [packA]))
 refine⟨_,rfl,rfl,{ z with s:=.sl (nx+1) 0 (b.scope.length+1) 1 },?_,by omega,fun x hx ho=>?_,fun x hx=>?_,rfl⟩
 ·refine hi.newS (b':=declB b) rfl rfl rfl (N:=nx+1) (by omega) (by omega) ?_ _ (by simp [declB]) ?_ fun x hx hxX ho=>?_
  ·simp [declB,upd, *]
  ·simp [bdC,declB,knd,upd]
  ·have hlt:=hi.lo hx;rw [upd_miss _ _ _ _ hxX,hfr x (by omega) (fun b' e e2=>ho (e2▸⟨_,_,_,e⟩)),upd_miss _ _ _ _ (by omega)]
 ·have hxX:x≠X:=fun e=>ho (.inl e)
  rw [upd_miss _ _ _ _ hxX,hfr x (by omega) (fun b' e e2=>ho (.inr (.inr (.inr (.inl (e2▸⟨_,_,_,e⟩)))))),upd_miss _ _ _ _ (by omega)]
 ·rcases hx with hx | hx | hx | hx | hx
  ·exact .inl (.inl hx)
  ·exact .inl (.inr (.inl hx))
  ·exact .inl (.inr (.inr (.inl hx)))
  ·have:=ob_sl hx;exact .inr (by omega)
  ·exact .inl (.inr (.inr (.inr (.inr hx))))
theorem lw_declare (hi:BdI h X H nx z b)(hs:b.scope.length≤lim)(hn:b.next≤lim) :
  DCall Tryz.prog tkG 32 [.ptr X 0] H nx fun v H' nx'=>v=.int .i64 b.next∧BdP h X H nx z (declB b) H' nx':=(lw_declareT hi hs hn).mono fun _ _ _ p=>⟨p.1,p.2.p⟩
set_option maxRecDepth 10000 in
set_option maxHeartbeats 4000000 in
theorem lw_emitT (hi:BdI h X H nx z b)(i:In)(hc:b.code.length≤lim) :
  DCall Tryz.prog tkG 56 [.ptr X 0,.agg (cvJ i)] H nx fun v H' nx'=>v=.int .i64 b.code.length∧BdPT h X H nx z (emitB b i) H' nx':=by
 refine DCall.of_body Tryz.func56 rfl ?_;have hX:H X=some (.cells ([.lst (h.map cvD),z.v,z.c,.int .i64 b.slots,.int .i64 b.next,z.s,.int .i64 b.handler,z.t]++knd X)):=hi.blk;simp only [knd,List.cons_append,List.nil_append] at hX;have hlX:=hi.lt;have q0:=far hlX;have hw:IntKind.i64.wrap (b.code.length:Int)=(b.code.length:Int):=by rw [IntKind.wrap_i64];simp only [lim] at hc;omega
 refine gDf cvJ.eq_1 ?_;refine ASl.appQ cvJ_len cvJ_one ti_Ins ti_In { i with han:=b.handler } (hi.c.keep' (by omega) fun x hx=>by have:=(hi.c.obl hx).1;rw [upd_miss _ _ _ _ (by omega),upd_miss _ _ _ _ (by omega)]) (by simp only [lim] at hc;omega) ?_ (hxb:=by simp [upd,cvJ]);intro H2 hN hfr;have sX:∀ b',z.c=.sl b' 0 b.code.length 10→X≠b':=fun b' e=>(hi.nX b' (.inr (.inl ⟨_,_,_,e⟩))).symm
 have hX2:H2 X=H X:=by rw [hfr X (by omega) sX,upd_miss _ _ _ _ (by omega),upd_miss _ _ _ _ (by omega)]
 rw [hX] at hX2;refine gD ?_
 (refine⟨_,(by simp [*];rfl),?_⟩;(try simp only [packA]))
 refine⟨_,rfl,rfl,{ z with c:=.sl (nx+12) 0 (b.code.length+1) 10 },?_,by omega,fun x hx ho=>?_,fun x hx=>?_,rfl⟩
 ·refine hi.newC (b':=emitB b i) rfl rfl rfl (N:=nx+12) (by omega) (by omega) ?_ _ (by simp [emitB]) ?_ fun x hx hxX ho=>?_
  ·simp [emitB,upd, *]
  ·simp [bdC,emitB,knd,upd]
  ·have hlt:=hi.lo hx;rw [upd_miss _ _ _ _ hxX,hfr x (by omega) (fun b' e e2=>ho (e2▸⟨_,_,_,e⟩)),upd_miss _ _ _ _ (by omega),upd_miss _ _ _ _ (by omega)]
 ·have hxX:x≠X:=fun e=>ho (.inl e)
  rw [upd_miss _ _ _ _ hxX,hfr x (by omega) (fun b' e e2=>ho (.inr (.inr (.inl (e2▸⟨_,_,_,e⟩))))),upd_miss _ _ _ _ (by omega),upd_miss _ _ _ _ (by omega)]
 ·rcases hx with hx | hx | hx | hx | hx
  ·exact .inl (.inl hx)
  ·exact .inl (.inr (.inl hx))
  ·have:=ob_sl hx;exact .inr (by omega)
  ·exact .inl (.inr (.inr (.inr (.inl hx))))
  ·exact .inl (.inr (.inr (.inr (.inr hx))))
theorem lw_emit (hi:BdI h X H nx z b)(i:In)(hc:b.code.length≤lim) :
  DCall Tryz.prog tkG 56 [.ptr X 0,.agg (cvJ i)] H nx fun v H' nx'=>v=.int .i64 b.code.length∧BdP h X H nx z (emitB b i) H' nx':=(lw_emitT hi i hc).mono fun _ _ _ p=>⟨p.1,p.2.p⟩
set_option maxRecDepth 10000 in
set_option maxHeartbeats 4000000 in
theorem lw_temp (hi:BdI h X H nx z b)(t:Bytes)(hv:b.vars.length≤lim)(hs:b.slots≤b.vars.length) :
  DCall Tryz.prog tkG 55 [.ptr X 0,.str t] H nx fun v H' nx'=>v=.int .i64 b.vars.length∧BdP h X H nx z (tempB b t) H' nx':=by
 refine DCall.of_body Tryz.func55 rfl ?_;have hX:H X=some (.cells ([.lst (h.map cvD),z.v,z.c,.int .i64 b.slots,.int .i64 b.next,z.s,.int .i64 b.handler,z.t]++knd X)):=hi.blk;simp only [knd,List.cons_append,List.nil_append] at hX;have hlX:=hi.lt;have q0:=far hlX;have hw:IntKind.i64.wrap ((b.vars.length:Int)-b.slots)=((b.vars.length-b.slots:Nat):Int):=by rw [IntKind.wrap_i64];simp only [lim] at hv;omega
 have hit:=lw_itoa (n:=((b.vars.length-b.slots:Nat):Int)) ⟨by omega,by simp only [lim] at hv;omega⟩;have hnl:=numText_len (n:=((b.vars.length-b.slots:Nat):Int)) ⟨by omega,by simp only [lim] at hv;omega⟩;have hle:1+(numText ((b.vars.length-b.slots:Nat):Int)).length≤9223372036854775807:=by omega
 have hle2:(numText ((b.vars.length-b.slots:Nat):Int)).length+1≤9223372036854775807:=by omega
 have hln:∀ H',lenA Tryz.prog H' 35 z.v=some (.int .i64 b.vars.length):=hi.v.len ti_Flds;refine gD ?_
 (first | (first | (apply DOpl.callN;rfl) | apply ASl.call);(focus simp [*,-Option.some.injEq];rfl);kernel_rfl | (first | (apply DOpl.callNG;rfl) | apply ASl.callg);(focus simp [*];done);(focus simp [*,-Option.some.injEq];rfl);kernel_rfl)
 ·exact hit
 refine gD ?_;refine ASl.appQ cvF_len cvF_one' ti_Flds ti_Fld (⟨tempN (b.vars.length-b.slots),t⟩:Fld) (hi.v.keep' (by omega) fun x hx=>by have:=(hi.v.obl hx).1;rw [upd_miss _ _ _ _ (by omega)]) (by simp only [lim] at hv;omega) ?_ (hxb:=by simp [upd,cvF,tempN]);intro H2 hN hfr;have sX:∀ b',z.v=.sl b' 0 b.vars.length 2→X≠b':=fun b' e=>(hi.nX b' (.inl ⟨_,_,_,e⟩)).symm
 have hX2:H2 X=H X:=by rw [hfr X (by omega) sX,upd_miss _ _ _ _ (by omega)]
 rw [hX] at hX2;refine gD ?_
 (refine⟨_,(by simp [*];rfl),?_⟩;(try simp only [packA]))
 refine⟨_,rfl,rfl,{ z with v:=.sl (nx+20) 0 (b.vars.length+1) 2 },?_,by omega,fun x hx ho=>?_,fun x hx=>?_⟩
 ·refine hi.newV (b':=tempB b t) rfl rfl rfl (N:=nx+20) (by omega) (by omega) ?_ _ (by simp [tempB]) ?_ fun x hx hxX ho=>?_
  ·simp [tempB,upd, *]
  ·simp [bdC,tempB,knd,upd]
  ·have hlt:=hi.lo hx;rw [upd_miss _ _ _ _ hxX,hfr x (by omega) (fun b' e e2=>ho (e2▸⟨_,_,_,e⟩)),upd_miss _ _ _ _ (by omega)]
 ·have hxX:x≠X:=fun e=>ho (.inl e)
  rw [upd_miss _ _ _ _ hxX,hfr x (by omega) (fun b' e e2=>ho (.inr (.inl (e2▸⟨_,_,_,e⟩)))),upd_miss _ _ _ _ (by omega)]
 ·rcases hx with hx | hx | hx | hx | hx
  ·exact .inl (.inl hx)
  ·have:=ob_sl hx;exact .inr (by omega)
  ·exact .inl (.inr (.inr (.inl hx)))
  ·exact .inl (.inr (.inr (.inr (.inl hx))))
  ·exact .inl (.inr (.inr (.inr (.inr hx))))
end
end
section
open Lx Ax Go.RowKit
attribute [local simp] stepS Ax.stepT Dl.on qstep astep estep rd putE over argE ofV ofS loadA pickCells isAggD faddA fieldA partA iaddA idxA sliA bnd binA intA strA unA convA bltA mapOf findK keyD scalD appA srcA srcD upd drp Dl.hp Dl.nx CV.cs CV.one buildA placesA fillA zrep tasA ifaceD eqA eqFs eqIs range2 copyA nbeq nble nblt decEq beqI bneI beqS bneS isED Int.ofNat_inj List.getElem?_map List.getElem?_eq_getElem Option.map_some ti_int ti_bool ti_str ti_i64 ti_Strs ti_Flds ti_Fld ti_Ints ti_Ins ti_In ti_Bd ti_Kd ti_Kf ti_Pb gd gdB callA resA op1
attribute [local simp] nu1 nu2 nu3 nu4 nu5 nu6 nu7 nu8 nu9 nu10 nu11 nu12 nu13 upd_upd
theorem store_int {P:Program}{H:Heap}{t k:_}{n:Int}{cb o:Nat}{cs:List CV}{D:TypeDesc}{z:Value}{y:Nat}(ht:ti P t=some ⟨D,1,z,y⟩)(hb:H cb=some (.cells cs))(ho:o+1≤cs.length) :
  storeA P H t (.ptr cb o) (.int k n)=some (.any,.set cb (.cells (cs.take o++[.int k n]++cs.drop (o+1)))):=by
 unfold storeA;simp [hb,ht,CV.cs,CV.one,ho]
theorem row_set {α:Type}{cv:α→List CV}{k:Nat}(hk:∀ a,(cv a).length=k)(rest:List CV):∀ (l:List α) (i j:Nat) (hi:i<l.length) (hj:j<k) (x:α) (c:CV),cv x=(cv l[i]).take j++[c]++(cv l[i]).drop (j+1) →
  (l.flatMap cv++rest).take (i*k+j)++[c]++(l.flatMap cv++rest).drop (i*k+j+1)=(l.set i x).flatMap cv++rest∧i*k+j+1≤(l.flatMap cv++rest).length
 | [],i,j,hi,_,_,_,_=>by simp at hi
 | a::l,0,j,hi,hj,x,c,hx=>by
   simp only [List.getElem_cons_zero] at hx;have ha:=hk a;refine⟨?_,by simp only [List.flatMap_cons,List.length_append];omega⟩;simp only [Nat.zero_mul,Nat.zero_add,List.flatMap_cons,List.set_cons_zero,List.append_assoc];rw [List.take_append_of_le_length (by omega),List.drop_append_of_le_length (by omega),hx];simp
 | a::l,i+1,j,hi,hj,x,c,hx=>by
   simp only [List.getElem_cons_succ] at hx;obtain⟨h1,h2⟩:=row_set hk rest l i j (by simpa using hi) hj x c hx;have ha:=hk a;have e:(i+1)*k+j=k+(i*k+j):=by rw [Nat.succ_mul];omega
   refine⟨?_,by rw [e];simp only [List.flatMap_cons,List.length_append] at h2 ⊢;omega⟩;rw [e];simp only [List.flatMap_cons,List.set_cons_succ,List.append_assoc];rw [show k+(i*k+j)+1=k+(i*k+j+1) by omega,List.take_append,List.drop_append,ha];rw [List.take_of_length_le (by omega),show (cv a).drop (k+(i*k+j+1))=[] from List.drop_eq_nil_of_le (by omega),show k+(i*k+j)-k=i*k+j by omega,show k+(i*k+j+1)-k=i*k+j+1 by omega];simp only [List.append_assoc,List.nil_append] at h1 ⊢;rw [h1]
section
variable {h:List Cd} {X:Nat} {H:Heap} {nx:Nat} {z:Bv} {b:Bl}
set_option maxRecDepth 10000 in
set_option maxHeartbeats 4000000 in
theorem lw_here (hi:BdI h X H nx z b)(i:Nat)(hl:i<b.code.length)(hc:b.code.length≤lim) :
  DCall Tryz.prog tkG 80 [.ptr X 0,.int .i64 i] H nx fun v H' nx'=>v=.tup []∧BdP h X H nx z (hereB b i) H' nx':=by
 refine DCall.of_body Tryz.func80 rfl ?_;have hX:H X=some (.cells ([.lst (h.map cvD),z.v,z.c,.int .i64 b.slots,.int .i64 b.next,z.s,.int .i64 b.handler,z.t]++knd X)):=hi.blk;simp only [knd,List.cons_append,List.nil_append] at hX;have hlX:=hi.lt;have q0:=far hlX;have hln:∀ H',lenA Tryz.prog H' 44 z.c=some (.int .i64 b.code.length):=hi.c.len ti_Ins;rcases hi.c with⟨h0,_⟩ | ⟨cb,rest,hz,hcb,hlt⟩
 ·rw [h0] at hl;simp at hl
 rw [hz] at hX;have hll:(i:Int)<b.code.length:=by omega
 rw [hz] at hln;have hrs:=row_set cvJ_len rest b.code i 8 hl (by omega) { b.code[i] with goto:=b.code.length } (.int .i64 b.code.length) rfl;have hst:=store_int (P:=Tryz.prog) (k:=.i64) (n:=b.code.length) ti_int hcb hrs.2;rw [hrs.1] at hst;have e1:hereB b i={ b with code:=b.code.set i { b.code[i] with goto:=b.code.length } }:=by unfold hereB;rw [List.getElem?_eq_getElem hl]
 rw [e1];clear e1 hrs;have hcX:cb≠X:=hi.nX cb (.inr (.inl ⟨_,_,_,hz⟩));refine gD ?_;refine⟨[],rfl,_,rfl,rfl,z,?_,by omega,fun x hx ho=>?_,fun x hx=>.inl hx⟩
 ·refine⟨?_,hi.v.keep' (by omega) fun x hx=>?_,?_,hi.s.keep' (by omega) fun x hx=>?_,hi.t.keep' (by omega) fun x hx=>?_,by omega,hi.nX,hi.vc,hi.vs,hi.vt,hi.cs,hi.ct,hi.st⟩
  ·rw [upd_miss _ _ _ _ (Ne.symm hcX)];exact hi.blk
  ·exact upd_miss _ _ _ _ fun e=>hi.vc x hx (e▸⟨_,_,_,hz⟩)
  ·rw [hz];exact .inr ⟨cb,rest,by simp,upd_hit _ _ _,by omega⟩
  ·exact upd_miss _ _ _ _ fun e=>hi.cs x (e▸⟨_,_,_,hz⟩) hx
  ·exact upd_miss _ _ _ _ fun e=>hi.ct x (e▸⟨_,_,_,hz⟩) hx
 ·exact upd_miss _ _ _ _ fun e=>ho (.inr (.inr (.inl (e▸⟨_,_,_,hz⟩))))
end
end
section
open Lx Ax Go.RowKit
attribute [local simp] stepS Ax.stepT Dl.on qstep astep estep rd putE over argE ofV ofS loadA pickCells isAggD faddA fieldA partA iaddA idxA sliA bnd binA intA strA unA convA bltA lenA mapOf findK keyD scalD storeA appA srcA srcD upd drp Dl.hp Dl.nx CV.cs CV.one buildA placesA fillA zrep tasA ifaceD eqA eqFs eqIs range2 copyA nbeq nble nblt decEq beqI bneI beqS bneS isED Int.ofNat_inj List.getElem?_map List.getElem?_eq_getElem Option.map_some ti_int ti_bool ti_str ti_i64 ti_Strs ti_Flds ti_Fld ti_Ints ti_Ins ti_In ti_Bd ti_Kd ti_Kf ti_Pb gd gdB callA resA op1
attribute [local simp] nu1 nu2 nu3 nu4 nu5 nu6 nu7 nu8 nu9 nu10 nu11 nu12 nu13 upd_upd
/-- The builder, lent. -/
def bdF (h:List Cd)(b:Bl):List CV:=[.lst (h.map cvD),.lst (b.vars.map cvF),.any,.int .i64 b.slots,.int .i64 b.next,.lst (b.scope.map cvW),.int .i64 b.handler,.any,.any,.any,.any,.any,.any,.any,.any,.any,.any,.any,.any]
theorem puW (n:Nat):puL (cvW n)=true:=rfl
theorem puBdF (h:List Cd)(b:Bl):puV (.rop (bdF h b))=true:=by simp [bdF,puV,puL,puRm puD,puRm puF,puRm puW]
def slotsF (b:Bl)(nm:Bytes)(l:List Nat):Int:=match l.find? fun s=>match b.vars[s]? with | some f=>f.name == nm | none=>false with
 | some s=>s
 | none=>-1
set_option maxRecDepth 10000 in
set_option maxHeartbeats 4000000 in
theorem lw_slotF (h:List Cd)(b:Bl)(nm:Bytes)(hl:b.scope.length≤lim)(hsc:∀ s∈b.scope,s<b.vars.length):FCall1 Tryz.prog tkG 74 [.rop (bdF h b),.str nm] (.int .i64 (slotB b nm)):=by
 refine FCall.one tkG_pu (by have:=puBdF h b;simp only [puV] at this;simp [puL,puV,this]) rfl ?_;refine FCall.ofBody Tryz.func74 rfl rfl fun nx=>?_
 obtain⟨w,hw⟩:∃ w,slotsF b nm b.scope.reverse=w:=⟨_,rfl⟩;have hww:slotB b nm=w:=hw;rw [hww];have hw0:IntKind.i64.wrap ((b.scope.length:Int)-1)=(b.scope.length:Int)-1:=by rw [IntKind.wrap_i64];simp only [lim] at hl;omega
 refine gWf bdF.eq_1 ?_;refine AWp.countO b.scope.length [5,6] 13 (fun j e H1 nx1=>e 5=.int .i64 ((b.scope.length:Int)-1-(j:Int))∧slotsF b nm (b.scope.reverse.drop j)=w) ⟨(by first | (simp (disch:=omega) [putE,over,ofV,ofS, *];done) | (simp (disch:=omega) [putE,over,ofV,ofS, *];rfl)),hw⟩ ?_;clear hw hww hw0;rintro j v H1 nx1 hj hn1 ⟨h5,hf⟩;rcases Nat.lt_or_ge j b.scope.length with hlt | hge
 ·obtain⟨i,hi,hil⟩:∃ i:Nat,(b.scope.length:Int)-1-(j:Int)=(i:Int)∧i<b.scope.length:=⟨b.scope.length-1-j,by omega,by omega⟩;have hR:b.scope.reverse.drop j=b.scope[i]::b.scope.reverse.drop (j+1):=by
   rw [List.drop_eq_getElem_cons (by simpa using hlt)]
   congr 1
   rw [List.getElem_reverse]
   congr 1
   omega
  have hs:=hsc b.scope[i] (List.getElem_mem hil);rw [hR] at hf;have hw1:IntKind.i64.wrap ((i:Int)-1)=(b.scope.length:Int)-1-((j:Int)+1):=by rw [IntKind.wrap_i64];simp only [lim] at hl;omega
  rw [hi] at h5;generalize hse:b.scope[i]=s at *;have hvs:b.vars[s]?=some b.vars[s]:=List.getElem?_eq_getElem hs
  by_cases hnm:b.vars[s].name=nm
  ·have e1:w=(s:Int):=by rw [← hf];simp [slotsF,hvs,hnm]
   rw [e1];clear hf e1 hsc hR hw1 hi;refine gWf (And.intro cvW.eq_1 cvF.eq_1) ?_
   (refine⟨_,(by simp [*];rfl),?_⟩;(try simp only [packA]))
  ·have e1:slotsF b nm (b.scope.reverse.drop (j+1))=w:=by rw [← hf];simp [slotsF,hvs,hnm]
   clear hf hsc hR hi;refine gWf (And.intro cvW.eq_1 cvF.eq_1) ?_;exact⟨by ((repeat (first | exact Keeps.base _ _ _ _ | (with_reducible exact Keeps.refl _ _ _) | (refine Keeps.put rfl ?_) | (refine Keeps.over' rfl rfl ?_)))),hlt,(by first | (simp (disch:=omega) [putE,over,ofV,ofS, *];done) | (simp (disch:=omega) [putE,over,ofV,ofS, *];rfl)),e1⟩
 ·have hj':j=b.scope.length:=by omega
  rw [hj',List.drop_eq_nil_of_le (by simp)] at hf;have h5':v 5=.int .i64 (-1):=by rw [h5];congr 1;omega
  clear h5;have e0:slotsF b nm []=-1:=rfl;rw [e0] at hf;rw [← hf];clear hf hsc e0;refine gW ?_
  (refine⟨_,(by simp [*];rfl),?_⟩;(try simp only [packA]))
theorem lw_slot {h:List Cd}{X:Nat}{H:Heap}{nx:Nat}{z:Bv}{b:Bl}(hi:BdI h X H nx z b)(nm:Bytes)(hl:b.scope.length≤lim)(hsc:∀ s∈b.scope,s<b.vars.length)(n:Nat) :
  ACall Tryz.prog tkG 74 [.ptr X 0,.str nm] H n fun r H' nx'=>r=.ret (.int .i64 (slotB b nm))∧H'=H∧nx'=n:=by
 refine FCall1.lend tkG_pu (lw_slotF h b nm hl hsc) (by have:=puBdF h b;simp only [puV] at this;simp [puL,puV,this]) rfl ?_ n;refine LnL.cons (Ln.ptrL hi.blk ?_) (LnL.same _);have l1:=hi.v.ln cvF_len;have l2:=hi.s.ln cvW_len;exact LnL.cons (.same _) (LnL.cons l1 (LnL.cons (.any _) (LnL.cons (.same _) (LnL.cons (.same _) (LnL.cons l2 (LnL.cons (.same _) (LnL.cons (.any _) (LnL.cons (.any _) (LnL.cons (.any _) (LnL.cons (.any _) (LnL.cons (.any _) (LnL.cons (.any _) (LnL.cons (.any _) (LnL.cons (.any _) (LnL.cons (.any _) (LnL.cons (.any _) (LnL.cons (.any _) (LnL.cons (.any _) LnL.nil))))))))))))))))))
end
section
open Lx Ax Go.RowKit
attribute [local simp] stepS Ax.stepT Dl.on qstep astep estep rd putE over argE ofV ofS loadA pickCells isAggD faddA fieldA partA iaddA idxA sliA bnd binA intA strA unA convA bltA lenA mapOf findK keyD scalD storeA mupA appA srcA srcD upd drp Dl.hp Dl.nx CV.cs CV.one buildA placesA fillA zrep tasA ifaceD eqA eqFs eqIs range2 copyA nbeq nble nblt decEq beqI bneI beqS bneS isED Int.ofNat_inj List.getElem?_map List.getElem?_eq_getElem Option.map_some ti_int ti_bool ti_str ti_i64 ti_Cds ti_Cd ti_Tb gd gdB callA resA op1
theorem look_t {H:Heap}(h:List Cd)(s:Bytes):lookA Tryz.prog H 91 (.fmp ((frN h h.length).map .str) (frV h h.length)) (.str s) true=some (lkV h s):=look_tab ti_Msi ti_str rfl ti_int rfl h s
set_option maxRecDepth 10000 in
set_option maxHeartbeats 4000000 in
theorem tk_find (h:List Cd)(s:Bytes):FCall1 Tryz.prog tkG 59 [cvTb h,.str s] (.int .i64 (findI h s)):=by
 refine FCall.one tkG_pu (by simp [puL,puV,puTb]) rfl ?_;refine FCall.ofBody Tryz.func59 rfl rfl fun nx=>?_
 have hl:∀ H:Heap,lookA Tryz.prog H 91 (.fmp ((frN h h.length).map .str) (frV h h.length)) (.str s) true=some (lkV h s):=fun H=>look_t h s
 cases hf:findN h s with
 | some i =>
   have hv:findI h s=(i:Int):=by simp only [findI,hf]
   have hk:lkV h s=.tup [.int .i64 i,.bool true]:=by simp only [lkV,hf]
   rw [hk] at hl;rw [hv]
   repeat (first | (first | (apply Xf;rfl) | apply Xj);focus simp [cvTb, *,-Option.some.injEq];rfl | (first | (apply Xa;rfl) | apply Xb);(focus simp [cvTb, *];done);focus simp [cvTb, *,-Option.some.injEq];rfl | (first | (apply Xg;rfl) | apply Xk);(focus simp [cvTb, *];done) | (first | refine Xl ?_ | refine Xi ?_ | refine Xh ?_ | refine Xo ?_ | refine Xq ?_);try simp only [Xx,Xy,reduceIte,Nat.reduceEqDiff] | refine Xn ?_ | refine Xp rfl ?_ | refine Xc ?_ | apply Xd;focus simp [cvTb, *];done | apply Xe;focus simp [cvTb, *];done | refine Yb rfl rfl ?_)
   (refine⟨_,(by simp [*];rfl),?_⟩;(try simp only [packA]))
 | none =>
   have hv:findI h s=-1:=by simp only [findI,hf]
   have hk:lkV h s=.tup [.int .i64 0,.bool false]:=by simp only [lkV,hf]
   rw [hk] at hl;rw [hv]
   repeat (first | (first | (apply Xf;rfl) | apply Xj);focus simp [cvTb, *,-Option.some.injEq];rfl | (first | (apply Xa;rfl) | apply Xb);(focus simp [cvTb, *];done);focus simp [cvTb, *,-Option.some.injEq];rfl | (first | (apply Xg;rfl) | apply Xk);(focus simp [cvTb, *];done) | (first | refine Xl ?_ | refine Xi ?_ | refine Xh ?_ | refine Xo ?_ | refine Xq ?_);try simp only [Xx,Xy,reduceIte,Nat.reduceEqDiff] | refine Xn ?_ | refine Xp rfl ?_ | refine Xc ?_ | apply Xd;focus simp [cvTb, *];done | apply Xe;focus simp [cvTb, *];done | refine Yb rfl rfl ?_)
   (refine⟨_,(by simp [*];rfl),?_⟩;(try simp only [packA]))
end
end Go.Proofs.YtoookjadbhdfhaaGreatDoor
