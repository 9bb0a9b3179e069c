/-
  Numbers of statements, as the checker and the reference count them; Returns; walked.
-/
import Derived.Test.YtoookjadbhdfhaaDoorTJpBo
set_option linter.unusedSectionVars false
set_option linter.unusedSimpArgs false
set_option linter.unnecessarySimpa false
set_option linter.unusedVariables false
set_option linter.unusedSimpArgs false
set_option linter.unusedVariables false
namespace Go.Proofs.YtoookjadbhdfhaaDoor
open Lx Ax Go.RowKit
attribute [local simp] stepS Ax.stepT Dl.on qstep astep estep rd putE over argE ofV ofS loadA pickCells isAggD faddA fieldA partA iaddA idxA sliA bnd binA intA strA unA convA bltA lenA mapOf findK keyD scalD storeA appA srcA srcD upd drp Dl.hp Dl.nx CV.cs CV.one buildA placesA fillA zrep tasA ifaceD eqA eqFs eqIs range2 copyA nbeq nble nblt decEq beqI bneI beqS bneS isED Int.ofNat_inj List.getElem?_map List.getElem?_eq_getElem Option.map_some ti_int ti_bool ti_str ti_i64 ti_Strs ti_Exs ti_Ex ti_Sts ti_St gd gdB callA resA op1
attribute [local simp] nu1 nu2 nu3 nu4 nu5 nu6 nu7 nu8 nu9 nu10 nu11 nu12 nu13 upd_upd
theorem stsCount_snoc (l:List St)(e:St):stsCount (l++[e])=stsCount l+1+stCount e:=by
 induction l with
 | nil=>simp [stsCount]
 | cons x l ih=>simp only [List.cons_append,stsCount,ih];omega
theorem stsCount_snoc' (l:List St)(i:Nat)(h:i<l.length):stsCount (l.take (i+1))=stsCount (l.take i)+1+stCount l[i]:=by
 rw [take_snoc h,stsCount_snoc]
theorem stsCount_take (l:List St)(i:Nat):stsCount (l.take i)≤stsCount l:=by
 induction l generalizing i with
 | nil=>simp
 | cons x l ih =>
   cases i with
   | zero=>simp [stsCount]
   | succ i=>simp only [List.take_succ_cons,stsCount];have:=ih i;omega
theorem stCount_eq (s:St):stCount s=stsCount s.p4+stsCount s.p5:=by cases s;rw [stCount];rfl
theorem stSz_kids (s:St):stsSz s.p4<stSz s∧stsSz s.p5<stSz s:=by
 cases s;rw [stSz_mk];simp only [St.p4,St.p5];omega
theorem wrapA {a b:Nat}(h:a+b≤lim):IntKind.i64.wrap ((a:Int)+(b:Int))=((a+b:Nat):Int):=by rw [IntKind.wrap_i64];simp only [lim] at h;omega
set_option maxRecDepth 10000 in
set_option maxHeartbeats 4000000 in
theorem tk_count1 (l:List St)(hl:stsSz l≤lim)(ih:∀ m,stsSz m<stsSz l→FCall1 Tryd.prog tkG 21 [.lst (m.map cvS)] (.int .i64 (stsCount m:Nat))) :
  FCall1 Tryd.prog tkG 21 [.lst (l.map cvS)] (.int .i64 (stsCount l:Nat)):=by
 refine FCall.one tkG_pu (by simp [puL,puV,puSs]) rfl ?_;refine FCall.ofBody Tryd.func21 rfl rfl fun nx=>?_
 have hll:l.length≤lim:=by have:=stsSz_len l;omega
 have hcz:=stsCount_sz l
 repeat (first | (first | (apply Xf;rfl) | apply Xj);focus simp [*,-Option.some.injEq];rfl | (first | (apply Xa;rfl) | apply Xb);(focus simp [*];done);focus simp [*,-Option.some.injEq];rfl | (first | (apply Xg;rfl) | apply Xk);(focus simp [*];done) | (first | refine Xl ?_ | refine Xi ?_ | refine Xh ?_ | refine Xo ?_ | refine Xq ?_);try simp only [Xw,Xx,reduceIte,Nat.reduceEqDiff] | refine Xn ?_ | refine Xp rfl ?_ | refine Xc ?_ | apply Xd;focus simp [*];done | apply Xe;focus simp [*];done | refine Ya rfl rfl ?_)
 refine AWp.countO l.length [3,5,10] 11 (fun i e H1 nx1=>e 10=.int .i64 i∧∃ n:Nat,e 3=.int .i64 n∧n+i=l.length+stsCount (l.take i)) ⟨(by first | (simp (disch:=omega) [putE,over,ofV,ofS, *];done) | (simp (disch:=omega) [putE,over,ofV,ofS, *];rfl)),l.length,(by first | (simp (disch:=omega) [putE,over,ofV,ofS, *];done) | (simp (disch:=omega) [putE,over,ofV,ofS, *];rfl)),by simp [stsCount]⟩ ?_;rintro i v H1 nx1 hi hn1 ⟨h10,n,h3,hn⟩
 repeat (first | (first | (apply Xf;rfl) | apply Xj);focus simp [*,-Option.some.injEq];rfl | (first | (apply Xa;rfl) | apply Xb);(focus simp [*];done);focus simp [*,-Option.some.injEq];rfl | (first | (apply Xg;rfl) | apply Xk);(focus simp [*];done) | (first | refine Xl ?_ | refine Xi ?_ | refine Xh ?_ | refine Xo ?_ | refine Xq ?_);try simp only [Xw,Xx,reduceIte,Nat.reduceEqDiff] | refine Xn ?_ | refine Xp rfl ?_ | refine Xc ?_ | apply Xd;focus simp [*];done | apply Xe;focus simp [*];done | refine Ya rfl rfl ?_)
 (((apply AWp.cond');(focus (simp [*,-Ax.CV.bool.injEq];rfl))) <;> (intro hb) <;> (try simp only [decide_eq_true_eq,decide_eq_false_iff_not,Bool.not_eq_true',Bool.not_eq_false',Bool.not_eq_true,Bool.not_eq_false] at hb))
 ·have hlt:i<l.length:=hb;have hwi:=lim_wrap hlt hll;clear hb;have hm:=stsSz_mem (List.getElem_mem hlt);have hk:=stSz_kids l[i];have h1:=ih l[i].p4 (by omega);have h2:=ih l[i].p5 (by omega);have hs:=stsCount_snoc' l i hlt;have hq:=stCount_eq l[i];have ht:=stsCount_take l (i+1);have htl:∀ q,stsCount l=q→q≤lim:=fun q hq=>by omega
  have hcnt:∀ j,j≤l.length→j≤stsCount (l.take j):=by
   intro j hj;have:∀ m:List St,m.length≤stsCount m:=by
    intro m
    induction m with
    | nil=>simp
    | cons a m ih=>simp only [List.length_cons,stsCount];omega
   have:=this (l.take j);rw [List.length_take] at this;omega
  have hdr:l.length-(i+1)+stsCount (l.take (i+1))≤stsCount l:=by
   have:∀ (m:List St) (j:Nat),m.length-j+stsCount (m.take j)≤stsCount m:=by
    intro m
    induction m with
    | nil=>intro j;simp [stsCount]
    | cons a m ih =>
      intro j;cases j with
      | zero =>
        have:=ih 0;simp only [List.take_zero,stsCount] at this ⊢;simp only [List.length_cons];omega
      | succ j =>
        have:=ih j;simp only [List.take_succ_cons,stsCount,List.length_cons] at this ⊢;omega
   exact this l (i+1)
  generalize hse:l[i]=s at *;generalize stsCount s.p4=x1 at *;generalize stsCount s.p5=x2 at *;have w1:=wrapA (a:=x1) (b:=x2) (by omega);have w2:=wrapA (a:=n) (b:=x1+x2) (by omega);have w2':IntKind.i64.wrap ((n:Int)+((x1:Int)+(x2:Int)))=((n+(x1+x2):Nat):Int):=by rw [← w2];rfl
  have hn2:n+(x1+x2)+(i+1)=l.length+stsCount (l.take (i+1)):=by omega
  clear hs w2 hdr hcnt htl ht hcz ih
  repeat (first | (first | (apply Xf;rfl) | apply Xj);focus simp [cvS_eq s, *,-Option.some.injEq];rfl | (first | (apply Xa;rfl) | apply Xb);(focus simp [cvS_eq s, *];done);focus simp [cvS_eq s, *,-Option.some.injEq];rfl | (first | (apply Xg;rfl) | apply Xk);(focus simp [cvS_eq s, *];done) | (first | refine Xl ?_ | refine Xi ?_ | refine Xh ?_ | refine Xo ?_ | refine Xq ?_);try simp only [Xw,Xx,reduceIte,Nat.reduceEqDiff] | refine Xn ?_ | refine Xp rfl ?_ | refine Xc ?_ | apply Xd;focus simp [cvS_eq s, *];done | apply Xe;focus simp [cvS_eq s, *];done | refine Ya rfl rfl ?_)
  (first | (first | (apply AOpl.callN;rfl) | apply ASl.call);(focus simp [cvS_eq s, *,-Option.some.injEq];rfl);kernel_rfl | (first | (apply AOpl.callNG;rfl) | apply ASl.callg);(focus simp [cvS_eq s, *];done);(focus simp [cvS_eq s, *,-Option.some.injEq];rfl);kernel_rfl)
  ·exact h1
  repeat (first | (first | (apply Xf;rfl) | apply Xj);focus simp [cvS_eq s, *,-Option.some.injEq];rfl | (first | (apply Xa;rfl) | apply Xb);(focus simp [cvS_eq s, *];done);focus simp [cvS_eq s, *,-Option.some.injEq];rfl | (first | (apply Xg;rfl) | apply Xk);(focus simp [cvS_eq s, *];done) | (first | refine Xl ?_ | refine Xi ?_ | refine Xh ?_ | refine Xo ?_ | refine Xq ?_);try simp only [Xw,Xx,reduceIte,Nat.reduceEqDiff] | refine Xn ?_ | refine Xp rfl ?_ | refine Xc ?_ | apply Xd;focus simp [cvS_eq s, *];done | apply Xe;focus simp [cvS_eq s, *];done | refine Ya rfl rfl ?_)
  (first | (first | (apply AOpl.callN;rfl) | apply ASl.call);(focus simp [cvS_eq s, *,-Option.some.injEq];rfl);kernel_rfl | (first | (apply AOpl.callNG;rfl) | apply ASl.callg);(focus simp [cvS_eq s, *];done);(focus simp [cvS_eq s, *,-Option.some.injEq];rfl);kernel_rfl)
  ·exact h2
  repeat (first | (first | (apply Xf;rfl) | apply Xj);focus simp [*,-Option.some.injEq];rfl | (first | (apply Xa;rfl) | apply Xb);(focus simp [*];done);focus simp [*,-Option.some.injEq];rfl | (first | (apply Xg;rfl) | apply Xk);(focus simp [*];done) | (first | refine Xl ?_ | refine Xi ?_ | refine Xh ?_ | refine Xo ?_ | refine Xq ?_);try simp only [Xw,Xx,reduceIte,Nat.reduceEqDiff] | refine Xn ?_ | refine Xp rfl ?_ | refine Xc ?_ | apply Xd;focus simp [*];done | apply Xe;focus simp [*];done | refine Ya rfl rfl ?_)
  exact⟨by ((repeat (first | exact Keeps.base _ _ _ _ | (with_reducible exact Keeps.refl _ _ _) | (refine Keeps.put rfl ?_) | (refine Keeps.over' rfl rfl ?_)))),hlt,(by first | (simp (disch:=omega) [putE,over,ofV,ofS, *];done) | (simp (disch:=omega) [putE,over,ofV,ofS, *];rfl)),n+(x1+x2),by simp [putE,over],hn2⟩
 ·have hi':i=l.length:=by omega
  rw [hi',List.take_length] at hn;have e:n=stsCount l:=by omega
  subst e;clear hb ih
  repeat (first | (first | (apply Xf;rfl) | apply Xj);focus simp [*,-Option.some.injEq];rfl | (first | (apply Xa;rfl) | apply Xb);(focus simp [*];done);focus simp [*,-Option.some.injEq];rfl | (first | (apply Xg;rfl) | apply Xk);(focus simp [*];done) | (first | refine Xl ?_ | refine Xi ?_ | refine Xh ?_ | refine Xo ?_ | refine Xq ?_);try simp only [Xw,Xx,reduceIte,Nat.reduceEqDiff] | refine Xn ?_ | refine Xp rfl ?_ | refine Xc ?_ | apply Xd;focus simp [*];done | apply Xe;focus simp [*];done | refine Ya rfl rfl ?_)
  (refine⟨_,(by simp [*];rfl),?_⟩;(try simp only [packA]))
theorem tk_count:∀ (N:Nat) (l:List St),stsSz l≤N→stsSz l≤lim→FCall1 Tryd.prog tkG 21 [.lst (l.map cvS)] (.int .i64 (stsCount l:Nat))
 | 0,l,h0,hl=>tk_count1 l hl fun m hm=>absurd hm (by omega)
 | N+1,l,hN,hl=>tk_count1 l hl fun m hm=>tk_count N m (by omega) (by omega)
set_option maxRecDepth 10000 in
set_option maxHeartbeats 4000000 in
theorem rf_Count1 (l:List St)(hl:stsSz l≤lim)(ih:∀ m,stsSz m<stsSz l→FCall1 Tryd.prog tkG 6 [.lst (m.map cvS)] (.int .i64 (stsCount m:Nat))) :
  FCall1 Tryd.prog tkG 6 [.lst (l.map cvS)] (.int .i64 (stsCount l:Nat)):=by
 refine FCall.one tkG_pu (by simp [puL,puV,puSs]) rfl ?_;refine FCall.ofBody Tryd.func6 rfl rfl fun nx=>?_
 have hll:l.length≤lim:=by have:=stsSz_len l;omega
 have hcz:=stsCount_sz l
 repeat (first | (first | (apply Xf;rfl) | apply Xj);focus simp [*,-Option.some.injEq];rfl | (first | (apply Xa;rfl) | apply Xb);(focus simp [*];done);focus simp [*,-Option.some.injEq];rfl | (first | (apply Xg;rfl) | apply Xk);(focus simp [*];done) | (first | refine Xl ?_ | refine Xi ?_ | refine Xh ?_ | refine Xo ?_ | refine Xq ?_);try simp only [Xw,Xx,reduceIte,Nat.reduceEqDiff] | refine Xn ?_ | refine Xp rfl ?_ | refine Xc ?_ | apply Xd;focus simp [*];done | apply Xe;focus simp [*];done | refine Ya rfl rfl ?_)
 refine AWp.countO l.length [3,4] 5 (fun i e H1 nx1=>e 4=.int .i64 i∧e 3=.int .i64 (stsCount (l.take i):Nat)) ⟨(by first | (simp (disch:=omega) [putE,over,ofV,ofS, *];done) | (simp (disch:=omega) [putE,over,ofV,ofS, *];rfl)),by simp [putE,ofV,ofS,stsCount]⟩ ?_;rintro i v H1 nx1 hi hn1 ⟨h4,h3⟩
 repeat (first | (first | (apply Xf;rfl) | apply Xj);focus simp [*,-Option.some.injEq];rfl | (first | (apply Xa;rfl) | apply Xb);(focus simp [*];done);focus simp [*,-Option.some.injEq];rfl | (first | (apply Xg;rfl) | apply Xk);(focus simp [*];done) | (first | refine Xl ?_ | refine Xi ?_ | refine Xh ?_ | refine Xo ?_ | refine Xq ?_);try simp only [Xw,Xx,reduceIte,Nat.reduceEqDiff] | refine Xn ?_ | refine Xp rfl ?_ | refine Xc ?_ | apply Xd;focus simp [*];done | apply Xe;focus simp [*];done | refine Ya rfl rfl ?_)
 (((apply AWp.cond');(focus (simp [*,-Ax.CV.bool.injEq];rfl))) <;> (intro hb) <;> (try simp only [decide_eq_true_eq,decide_eq_false_iff_not,Bool.not_eq_true',Bool.not_eq_false',Bool.not_eq_true,Bool.not_eq_false] at hb))
 ·have hlt:i<l.length:=hb;have hwi:=lim_wrap hlt hll;clear hb;have hm:=stsSz_mem (List.getElem_mem hlt);have hk:=stSz_kids l[i];have h1:=ih l[i].p4 (by omega);have h2:=ih l[i].p5 (by omega);have hs:=stsCount_snoc' l i hlt;have hq:=stCount_eq l[i];have ht:=stsCount_take l (i+1);generalize hse:l[i]=s at *;generalize stsCount s.p4=x1 at *;generalize stsCount s.p5=x2 at *;generalize stsCount (l.take i)=n at *;have w0:IntKind.i64.wrap (1+(x1:Int))=((1+x1:Nat):Int):=wrapA (a:=1) (b:=x1) (by omega);have w1:=wrapA (a:=1+x1) (b:=x2) (by omega);have w2:=wrapA (a:=n) (b:=1+x1+x2) (by omega);have w0':IntKind.i64.wrap (1+(x1:Int))=1+(x1:Int):=by rw [w0];rfl
  have w1':IntKind.i64.wrap (1+(x1:Int)+(x2:Int))=1+(x1:Int)+(x2:Int):=by
   have:((1+x1:Nat):Int)=1+(x1:Int):=by omega
   rw [← this,w1];omega
  have w2':IntKind.i64.wrap ((n:Int)+(1+(x1:Int)+(x2:Int)))=(stsCount (l.take (i+1)):Nat):=by
   have:((1+x1+x2:Nat):Int)=1+(x1:Int)+(x2:Int):=by omega
   rw [← this,w2,hs,hq];omega
  clear hs w0 w1 w2 ht hcz ih hq
  repeat (first | (first | (apply Xf;rfl) | apply Xj);focus simp [cvS_eq s, *,-Option.some.injEq];rfl | (first | (apply Xa;rfl) | apply Xb);(focus simp [cvS_eq s, *];done);focus simp [cvS_eq s, *,-Option.some.injEq];rfl | (first | (apply Xg;rfl) | apply Xk);(focus simp [cvS_eq s, *];done) | (first | refine Xl ?_ | refine Xi ?_ | refine Xh ?_ | refine Xo ?_ | refine Xq ?_);try simp only [Xw,Xx,reduceIte,Nat.reduceEqDiff] | refine Xn ?_ | refine Xp rfl ?_ | refine Xc ?_ | apply Xd;focus simp [cvS_eq s, *];done | apply Xe;focus simp [cvS_eq s, *];done | refine Ya rfl rfl ?_)
  (first | (first | (apply AOpl.callN;rfl) | apply ASl.call);(focus simp [cvS_eq s, *,-Option.some.injEq];rfl);kernel_rfl | (first | (apply AOpl.callNG;rfl) | apply ASl.callg);(focus simp [cvS_eq s, *];done);(focus simp [cvS_eq s, *,-Option.some.injEq];rfl);kernel_rfl)
  ·exact h1
  repeat (first | (first | (apply Xf;rfl) | apply Xj);focus simp [cvS_eq s, *,-Option.some.injEq];rfl | (first | (apply Xa;rfl) | apply Xb);(focus simp [cvS_eq s, *];done);focus simp [cvS_eq s, *,-Option.some.injEq];rfl | (first | (apply Xg;rfl) | apply Xk);(focus simp [cvS_eq s, *];done) | (first | refine Xl ?_ | refine Xi ?_ | refine Xh ?_ | refine Xo ?_ | refine Xq ?_);try simp only [Xw,Xx,reduceIte,Nat.reduceEqDiff] | refine Xn ?_ | refine Xp rfl ?_ | refine Xc ?_ | apply Xd;focus simp [cvS_eq s, *];done | apply Xe;focus simp [cvS_eq s, *];done | refine Ya rfl rfl ?_)
  (first | (first | (apply AOpl.callN;rfl) | apply ASl.call);(focus simp [cvS_eq s, *,-Option.some.injEq];rfl);kernel_rfl | (first | (apply AOpl.callNG;rfl) | apply ASl.callg);(focus simp [cvS_eq s, *];done);(focus simp [cvS_eq s, *,-Option.some.injEq];rfl);kernel_rfl)
  ·exact h2
  repeat (first | (first | (apply Xf;rfl) | apply Xj);focus simp [*,-Option.some.injEq];rfl | (first | (apply Xa;rfl) | apply Xb);(focus simp [*];done);focus simp [*,-Option.some.injEq];rfl | (first | (apply Xg;rfl) | apply Xk);(focus simp [*];done) | (first | refine Xl ?_ | refine Xi ?_ | refine Xh ?_ | refine Xo ?_ | refine Xq ?_);try simp only [Xw,Xx,reduceIte,Nat.reduceEqDiff] | refine Xn ?_ | refine Xp rfl ?_ | refine Xc ?_ | apply Xd;focus simp [*];done | apply Xe;focus simp [*];done | refine Ya rfl rfl ?_)
  exact⟨by ((repeat (first | exact Keeps.base _ _ _ _ | (with_reducible exact Keeps.refl _ _ _) | (refine Keeps.put rfl ?_) | (refine Keeps.over' rfl rfl ?_)))),hlt,(by first | (simp (disch:=omega) [putE,over,ofV,ofS, *];done) | (simp (disch:=omega) [putE,over,ofV,ofS, *];rfl)),(by first | (simp (disch:=omega) [putE,over,ofV,ofS, *];done) | (simp (disch:=omega) [putE,over,ofV,ofS, *];rfl))⟩
 ·have hi':i=l.length:=by omega
  rw [hi',List.take_length] at h3;clear hb ih
  repeat (first | (first | (apply Xf;rfl) | apply Xj);focus simp [*,-Option.some.injEq];rfl | (first | (apply Xa;rfl) | apply Xb);(focus simp [*];done);focus simp [*,-Option.some.injEq];rfl | (first | (apply Xg;rfl) | apply Xk);(focus simp [*];done) | (first | refine Xl ?_ | refine Xi ?_ | refine Xh ?_ | refine Xo ?_ | refine Xq ?_);try simp only [Xw,Xx,reduceIte,Nat.reduceEqDiff] | refine Xn ?_ | refine Xp rfl ?_ | refine Xc ?_ | apply Xd;focus simp [*];done | apply Xe;focus simp [*];done | refine Ya rfl rfl ?_)
  (refine⟨_,(by simp [*];rfl),?_⟩;(try simp only [packA]))
theorem rf_Count:∀ (N:Nat) (l:List St),stsSz l≤N→stsSz l≤lim→FCall1 Tryd.prog tkG 6 [.lst (l.map cvS)] (.int .i64 (stsCount l:Nat))
 | 0,l,h0,hl=>rf_Count1 l hl fun m hm=>absurd hm (by omega)
 | N+1,l,hN,hl=>rf_Count1 l hl fun m hm=>rf_Count N m (by omega) (by omega)
theorem retT_eq (s:St):retT s=(decide (s.p0=7∨s.p0=8) || (decide (s.p0=4∨s.p0=6) && retsT s.p4 && retsT s.p5)):=by cases s;rw [retT];rfl
set_option maxRecDepth 10000 in
set_option maxHeartbeats 8000000 in
theorem tk_Returns1 (l:List St)(hl:stsSz l≤lim)(ih:∀ m,stsSz m<stsSz l→FCall1 Tryd.prog tkG 8 [.lst (m.map cvS)] (.bool (retsT m))) :
  FCall1 Tryd.prog tkG 8 [.lst (l.map cvS)] (.bool (retsT l)):=by
 refine FCall.one tkG_pu (by simp [puL,puV,puSs]) rfl ?_;refine FCall.ofBody Tryd.func8 rfl rfl fun nx=>?_
 have hll:l.length≤lim:=by have:=stsSz_len l;omega
 obtain⟨w,hw⟩:∃ w,retsT l=w:=⟨_,rfl⟩;rw [hw]
 repeat (first | (first | (apply Xf;rfl) | apply Xj);focus simp [*,-Option.some.injEq];rfl | (first | (apply Xa;rfl) | apply Xb);(focus simp [*];done);focus simp [*,-Option.some.injEq];rfl | (first | (apply Xg;rfl) | apply Xk);(focus simp [*];done) | (first | refine Xl ?_ | refine Xi ?_ | refine Xh ?_ | refine Xo ?_ | refine Xq ?_);try simp only [Xw,Xx,reduceIte,Nat.reduceEqDiff] | refine Xn ?_ | refine Xp rfl ?_ | refine Xc ?_ | apply Xd;focus simp [*];done | apply Xe;focus simp [*];done | refine Ya rfl rfl ?_)
 refine AWp.countO l.length [2,4,7] 8 (fun i e H1 nx1=>e 7=.int .i64 i∧retsT (l.drop i)=w) ⟨(by first | (simp (disch:=omega) [putE,over,ofV,ofS, *];done) | (simp (disch:=omega) [putE,over,ofV,ofS, *];rfl)),hw⟩ ?_;clear hw;rintro i v H1 nx1 hi hn1 ⟨h7,hf⟩
 repeat (first | (first | (apply Xf;rfl) | apply Xj);focus simp [*,-Option.some.injEq];rfl | (first | (apply Xa;rfl) | apply Xb);(focus simp [*];done);focus simp [*,-Option.some.injEq];rfl | (first | (apply Xg;rfl) | apply Xk);(focus simp [*];done) | (first | refine Xl ?_ | refine Xi ?_ | refine Xh ?_ | refine Xo ?_ | refine Xq ?_);try simp only [Xw,Xx,reduceIte,Nat.reduceEqDiff] | refine Xn ?_ | refine Xp rfl ?_ | refine Xc ?_ | apply Xd;focus simp [*];done | apply Xe;focus simp [*];done | refine Ya rfl rfl ?_)
 (((apply AWp.cond');(focus (simp [*,-Ax.CV.bool.injEq];rfl))) <;> (intro hb) <;> (try simp only [decide_eq_true_eq,decide_eq_false_iff_not,Bool.not_eq_true',Bool.not_eq_false',Bool.not_eq_true,Bool.not_eq_false] at hb))
 ·have hlt:i<l.length:=hb;have hwi:=lim_wrap hlt hll;clear hb;have hm:=stsSz_mem (List.getElem_mem hlt);have hk:=stSz_kids l[i];have h1:=ih l[i].p4 (by omega);have h2:=ih l[i].p5 (by omega);rw [List.drop_eq_getElem_cons hlt,retsT,retT_eq] at hf;clear ih;generalize hse:l[i]=s at *
  by_cases k8:s.p0=8
  ·rw [k8] at hf;have hw:true=w:=by rw [← hf];rfl
   subst hw;clear hf h1 h2 hk hm
   repeat (first | (first | (apply Xf;rfl) | apply Xj);focus simp [cvS_eq s, *,-Option.some.injEq];rfl | (first | (apply Xa;rfl) | apply Xb);(focus simp [cvS_eq s, *];done);focus simp [cvS_eq s, *,-Option.some.injEq];rfl | (first | (apply Xg;rfl) | apply Xk);(focus simp [cvS_eq s, *];done) | (first | refine Xl ?_ | refine Xi ?_ | refine Xh ?_ | refine Xo ?_ | refine Xq ?_);try simp only [Xw,Xx,reduceIte,Nat.reduceEqDiff] | refine Xn ?_ | refine Xp rfl ?_ | refine Xc ?_ | apply Xd;focus simp [cvS_eq s, *];done | apply Xe;focus simp [cvS_eq s, *];done | refine Ya rfl rfl ?_)
   (refine⟨_,(by simp [*];rfl),?_⟩;(try simp only [packA]))
  by_cases k7:s.p0=7
  ·rw [k7] at hf;have hw:true=w:=by rw [← hf];rfl
   subst hw;clear hf h1 h2 hk hm
   repeat (first | (first | (apply Xf;rfl) | apply Xj);focus simp [cvS_eq s, *,-Option.some.injEq];rfl | (first | (apply Xa;rfl) | apply Xb);(focus simp [cvS_eq s, *];done);focus simp [cvS_eq s, *,-Option.some.injEq];rfl | (first | (apply Xg;rfl) | apply Xk);(focus simp [cvS_eq s, *];done) | (first | refine Xl ?_ | refine Xi ?_ | refine Xh ?_ | refine Xo ?_ | refine Xq ?_);try simp only [Xw,Xx,reduceIte,Nat.reduceEqDiff] | refine Xn ?_ | refine Xp rfl ?_ | refine Xc ?_ | apply Xd;focus simp [cvS_eq s, *];done | apply Xe;focus simp [cvS_eq s, *];done | refine Ya rfl rfl ?_)
   (refine⟨_,(by simp [*];rfl),?_⟩;(try simp only [packA]))
  have hd:decide (s.p0=7∨s.p0=8)=false:=decide_eq_false (by omega);rw [hd,Bool.false_or] at hf;clear hd
  by_cases k46:s.p0=4∨s.p0=6
  case neg =>
   have hd:decide (s.p0=4∨s.p0=6)=false:=decide_eq_false k46;rw [hd,Bool.false_and,Bool.false_and,Bool.false_or] at hf;have k4:¬ s.p0=4:=fun h=>k46 (.inl h)
   have k6:¬ s.p0=6:=fun h=>k46 (.inr h)
   clear hd k46 h1 h2 hk hm
   repeat (first | (first | (apply Xf;rfl) | apply Xj);focus simp [cvS_eq s, *,-Option.some.injEq];rfl | (first | (apply Xa;rfl) | apply Xb);(focus simp [cvS_eq s, *];done);focus simp [cvS_eq s, *,-Option.some.injEq];rfl | (first | (apply Xg;rfl) | apply Xk);(focus simp [cvS_eq s, *];done) | (first | refine Xl ?_ | refine Xi ?_ | refine Xh ?_ | refine Xo ?_ | refine Xq ?_);try simp only [Xw,Xx,reduceIte,Nat.reduceEqDiff] | refine Xn ?_ | refine Xp rfl ?_ | refine Xc ?_ | apply Xd;focus simp [cvS_eq s, *];done | apply Xe;focus simp [cvS_eq s, *];done | refine Ya rfl rfl ?_)
   exact⟨by ((repeat (first | exact Keeps.base _ _ _ _ | (with_reducible exact Keeps.refl _ _ _) | (refine Keeps.put rfl ?_) | (refine Keeps.over' rfl rfl ?_)))),hlt,(by first | (simp (disch:=omega) [putE,over,ofV,ofS, *];done) | (simp (disch:=omega) [putE,over,ofV,ofS, *];rfl)),hf⟩
  have hd:decide (s.p0=4∨s.p0=6)=true:=decide_eq_true k46;rw [hd,Bool.true_and] at hf;clear hd;have tail:∀ (r1 r2:Bool),retsT s.p4=r1→retsT s.p5=r2→((r1 && r2) || retsT (l.drop (i+1)))=w:=fun r1 r2 e1 e2=>by rw [← e1,← e2];exact hf
  clear hf;cases r1:retsT s.p4 with
  | false =>
    have hf:=tail _ _ r1 rfl;rw [Bool.false_and,Bool.false_or] at hf;rw [r1] at h1;clear tail r1 h2 hk hm;rcases k46 with k46 | k46
    ·repeat (first | (first | (apply Xf;rfl) | apply Xj);focus simp [cvS_eq s, *,-Option.some.injEq];rfl | (first | (apply Xa;rfl) | apply Xb);(focus simp [cvS_eq s, *];done);focus simp [cvS_eq s, *,-Option.some.injEq];rfl | (first | (apply Xg;rfl) | apply Xk);(focus simp [cvS_eq s, *];done) | (first | refine Xl ?_ | refine Xi ?_ | refine Xh ?_ | refine Xo ?_ | refine Xq ?_);try simp only [Xw,Xx,reduceIte,Nat.reduceEqDiff] | refine Xn ?_ | refine Xp rfl ?_ | refine Xc ?_ | apply Xd;focus simp [cvS_eq s, *];done | apply Xe;focus simp [cvS_eq s, *];done | refine Ya rfl rfl ?_)
     ((apply Xr);(focus rfl);(focus (first | rfl | (simp [cvS_eq s, *];done)));(focus simp [cvS_eq s, *,-Option.some.injEq];rfl);kernel_rfl)
     ·exact h1 _
     repeat (first | (first | (apply Xf;rfl) | apply Xj);focus simp [*,-Option.some.injEq];rfl | (first | (apply Xa;rfl) | apply Xb);(focus simp [*];done);focus simp [*,-Option.some.injEq];rfl | (first | (apply Xg;rfl) | apply Xk);(focus simp [*];done) | (first | refine Xl ?_ | refine Xi ?_ | refine Xh ?_ | refine Xo ?_ | refine Xq ?_);try simp only [Xw,Xx,reduceIte,Nat.reduceEqDiff] | refine Xn ?_ | refine Xp rfl ?_ | refine Xc ?_ | apply Xd;focus simp [*];done | apply Xe;focus simp [*];done | refine Ya rfl rfl ?_)
     exact⟨by ((repeat (first | exact Keeps.base _ _ _ _ | (with_reducible exact Keeps.refl _ _ _) | (refine Keeps.put rfl ?_) | (refine Keeps.over' rfl rfl ?_)))),hlt,(by first | (simp (disch:=omega) [putE,over,ofV,ofS, *];done) | (simp (disch:=omega) [putE,over,ofV,ofS, *];rfl)),hf⟩
    ·repeat (first | (first | (apply Xf;rfl) | apply Xj);focus simp [cvS_eq s, *,-Option.some.injEq];rfl | (first | (apply Xa;rfl) | apply Xb);(focus simp [cvS_eq s, *];done);focus simp [cvS_eq s, *,-Option.some.injEq];rfl | (first | (apply Xg;rfl) | apply Xk);(focus simp [cvS_eq s, *];done) | (first | refine Xl ?_ | refine Xi ?_ | refine Xh ?_ | refine Xo ?_ | refine Xq ?_);try simp only [Xw,Xx,reduceIte,Nat.reduceEqDiff] | refine Xn ?_ | refine Xp rfl ?_ | refine Xc ?_ | apply Xd;focus simp [cvS_eq s, *];done | apply Xe;focus simp [cvS_eq s, *];done | refine Ya rfl rfl ?_)
     ((apply Xr);(focus rfl);(focus (first | rfl | (simp [cvS_eq s, *];done)));(focus simp [cvS_eq s, *,-Option.some.injEq];rfl);kernel_rfl)
     ·exact h1 _
     repeat (first | (first | (apply Xf;rfl) | apply Xj);focus simp [*,-Option.some.injEq];rfl | (first | (apply Xa;rfl) | apply Xb);(focus simp [*];done);focus simp [*,-Option.some.injEq];rfl | (first | (apply Xg;rfl) | apply Xk);(focus simp [*];done) | (first | refine Xl ?_ | refine Xi ?_ | refine Xh ?_ | refine Xo ?_ | refine Xq ?_);try simp only [Xw,Xx,reduceIte,Nat.reduceEqDiff] | refine Xn ?_ | refine Xp rfl ?_ | refine Xc ?_ | apply Xd;focus simp [*];done | apply Xe;focus simp [*];done | refine Ya rfl rfl ?_)
     exact⟨by ((repeat (first | exact Keeps.base _ _ _ _ | (with_reducible exact Keeps.refl _ _ _) | (refine Keeps.put rfl ?_) | (refine Keeps.over' rfl rfl ?_)))),hlt,(by first | (simp (disch:=omega) [putE,over,ofV,ofS, *];done) | (simp (disch:=omega) [putE,over,ofV,ofS, *];rfl)),hf⟩
  | true =>
    cases r2:retsT s.p5 with
    | false =>
      have hf:=tail _ _ r1 r2;rw [Bool.and_false,Bool.false_or] at hf;rw [r1] at h1;rw [r2] at h2;clear tail r1 r2 hk hm;rcases k46 with k46 | k46
      ·repeat (first | (first | (apply Xf;rfl) | apply Xj);focus simp [cvS_eq s, *,-Option.some.injEq];rfl | (first | (apply Xa;rfl) | apply Xb);(focus simp [cvS_eq s, *];done);focus simp [cvS_eq s, *,-Option.some.injEq];rfl | (first | (apply Xg;rfl) | apply Xk);(focus simp [cvS_eq s, *];done) | (first | refine Xl ?_ | refine Xi ?_ | refine Xh ?_ | refine Xo ?_ | refine Xq ?_);try simp only [Xw,Xx,reduceIte,Nat.reduceEqDiff] | refine Xn ?_ | refine Xp rfl ?_ | refine Xc ?_ | apply Xd;focus simp [cvS_eq s, *];done | apply Xe;focus simp [cvS_eq s, *];done | refine Ya rfl rfl ?_)
       ((apply Xr);(focus rfl);(focus (first | rfl | (simp [cvS_eq s, *];done)));(focus simp [cvS_eq s, *,-Option.some.injEq];rfl);kernel_rfl)
       ·exact h1 _
       repeat (first | (first | (apply Xf;rfl) | apply Xj);focus simp [cvS_eq s, *,-Option.some.injEq];rfl | (first | (apply Xa;rfl) | apply Xb);(focus simp [cvS_eq s, *];done);focus simp [cvS_eq s, *,-Option.some.injEq];rfl | (first | (apply Xg;rfl) | apply Xk);(focus simp [cvS_eq s, *];done) | (first | refine Xl ?_ | refine Xi ?_ | refine Xh ?_ | refine Xo ?_ | refine Xq ?_);try simp only [Xw,Xx,reduceIte,Nat.reduceEqDiff] | refine Xn ?_ | refine Xp rfl ?_ | refine Xc ?_ | apply Xd;focus simp [cvS_eq s, *];done | apply Xe;focus simp [cvS_eq s, *];done | refine Ya rfl rfl ?_)
       ((apply Xr);(focus rfl);(focus (first | rfl | (simp [cvS_eq s, *];done)));(focus simp [cvS_eq s, *,-Option.some.injEq];rfl);kernel_rfl)
       ·exact h2 _
       repeat (first | (first | (apply Xf;rfl) | apply Xj);focus simp [*,-Option.some.injEq];rfl | (first | (apply Xa;rfl) | apply Xb);(focus simp [*];done);focus simp [*,-Option.some.injEq];rfl | (first | (apply Xg;rfl) | apply Xk);(focus simp [*];done) | (first | refine Xl ?_ | refine Xi ?_ | refine Xh ?_ | refine Xo ?_ | refine Xq ?_);try simp only [Xw,Xx,reduceIte,Nat.reduceEqDiff] | refine Xn ?_ | refine Xp rfl ?_ | refine Xc ?_ | apply Xd;focus simp [*];done | apply Xe;focus simp [*];done | refine Ya rfl rfl ?_)
       exact⟨by ((repeat (first | exact Keeps.base _ _ _ _ | (with_reducible exact Keeps.refl _ _ _) | (refine Keeps.put rfl ?_) | (refine Keeps.over' rfl rfl ?_)))),hlt,(by first | (simp (disch:=omega) [putE,over,ofV,ofS, *];done) | (simp (disch:=omega) [putE,over,ofV,ofS, *];rfl)),hf⟩
      ·repeat (first | (first | (apply Xf;rfl) | apply Xj);focus simp [cvS_eq s, *,-Option.some.injEq];rfl | (first | (apply Xa;rfl) | apply Xb);(focus simp [cvS_eq s, *];done);focus simp [cvS_eq s, *,-Option.some.injEq];rfl | (first | (apply Xg;rfl) | apply Xk);(focus simp [cvS_eq s, *];done) | (first | refine Xl ?_ | refine Xi ?_ | refine Xh ?_ | refine Xo ?_ | refine Xq ?_);try simp only [Xw,Xx,reduceIte,Nat.reduceEqDiff] | refine Xn ?_ | refine Xp rfl ?_ | refine Xc ?_ | apply Xd;focus simp [cvS_eq s, *];done | apply Xe;focus simp [cvS_eq s, *];done | refine Ya rfl rfl ?_)
       ((apply Xr);(focus rfl);(focus (first | rfl | (simp [cvS_eq s, *];done)));(focus simp [cvS_eq s, *,-Option.some.injEq];rfl);kernel_rfl)
       ·exact h1 _
       repeat (first | (first | (apply Xf;rfl) | apply Xj);focus simp [cvS_eq s, *,-Option.some.injEq];rfl | (first | (apply Xa;rfl) | apply Xb);(focus simp [cvS_eq s, *];done);focus simp [cvS_eq s, *,-Option.some.injEq];rfl | (first | (apply Xg;rfl) | apply Xk);(focus simp [cvS_eq s, *];done) | (first | refine Xl ?_ | refine Xi ?_ | refine Xh ?_ | refine Xo ?_ | refine Xq ?_);try simp only [Xw,Xx,reduceIte,Nat.reduceEqDiff] | refine Xn ?_ | refine Xp rfl ?_ | refine Xc ?_ | apply Xd;focus simp [cvS_eq s, *];done | apply Xe;focus simp [cvS_eq s, *];done | refine Ya rfl rfl ?_)
       ((apply Xr);(focus rfl);(focus (first | rfl | (simp [cvS_eq s, *];done)));(focus simp [cvS_eq s, *,-Option.some.injEq];rfl);kernel_rfl)
       ·exact h2 _
       repeat (first | (first | (apply Xf;rfl) | apply Xj);focus simp [*,-Option.some.injEq];rfl | (first | (apply Xa;rfl) | apply Xb);(focus simp [*];done);focus simp [*,-Option.some.injEq];rfl | (first | (apply Xg;rfl) | apply Xk);(focus simp [*];done) | (first | refine Xl ?_ | refine Xi ?_ | refine Xh ?_ | refine Xo ?_ | refine Xq ?_);try simp only [Xw,Xx,reduceIte,Nat.reduceEqDiff] | refine Xn ?_ | refine Xp rfl ?_ | refine Xc ?_ | apply Xd;focus simp [*];done | apply Xe;focus simp [*];done | refine Ya rfl rfl ?_)
       exact⟨by ((repeat (first | exact Keeps.base _ _ _ _ | (with_reducible exact Keeps.refl _ _ _) | (refine Keeps.put rfl ?_) | (refine Keeps.over' rfl rfl ?_)))),hlt,(by first | (simp (disch:=omega) [putE,over,ofV,ofS, *];done) | (simp (disch:=omega) [putE,over,ofV,ofS, *];rfl)),hf⟩
    | true =>
      have hf:=tail _ _ r1 r2;have hw:true=w:=by rw [← hf];rfl
      subst hw;rw [r1] at h1;rw [r2] at h2;clear tail r1 r2 hk hm hf;rcases k46 with k46 | k46
      ·repeat (first | (first | (apply Xf;rfl) | apply Xj);focus simp [cvS_eq s, *,-Option.some.injEq];rfl | (first | (apply Xa;rfl) | apply Xb);(focus simp [cvS_eq s, *];done);focus simp [cvS_eq s, *,-Option.some.injEq];rfl | (first | (apply Xg;rfl) | apply Xk);(focus simp [cvS_eq s, *];done) | (first | refine Xl ?_ | refine Xi ?_ | refine Xh ?_ | refine Xo ?_ | refine Xq ?_);try simp only [Xw,Xx,reduceIte,Nat.reduceEqDiff] | refine Xn ?_ | refine Xp rfl ?_ | refine Xc ?_ | apply Xd;focus simp [cvS_eq s, *];done | apply Xe;focus simp [cvS_eq s, *];done | refine Ya rfl rfl ?_)
       ((apply Xr);(focus rfl);(focus (first | rfl | (simp [cvS_eq s, *];done)));(focus simp [cvS_eq s, *,-Option.some.injEq];rfl);kernel_rfl)
       ·exact h1 _
       repeat (first | (first | (apply Xf;rfl) | apply Xj);focus simp [cvS_eq s, *,-Option.some.injEq];rfl | (first | (apply Xa;rfl) | apply Xb);(focus simp [cvS_eq s, *];done);focus simp [cvS_eq s, *,-Option.some.injEq];rfl | (first | (apply Xg;rfl) | apply Xk);(focus simp [cvS_eq s, *];done) | (first | refine Xl ?_ | refine Xi ?_ | refine Xh ?_ | refine Xo ?_ | refine Xq ?_);try simp only [Xw,Xx,reduceIte,Nat.reduceEqDiff] | refine Xn ?_ | refine Xp rfl ?_ | refine Xc ?_ | apply Xd;focus simp [cvS_eq s, *];done | apply Xe;focus simp [cvS_eq s, *];done | refine Ya rfl rfl ?_)
       ((apply Xr);(focus rfl);(focus (first | rfl | (simp [cvS_eq s, *];done)));(focus simp [cvS_eq s, *,-Option.some.injEq];rfl);kernel_rfl)
       ·exact h2 _
       repeat (first | (first | (apply Xf;rfl) | apply Xj);focus simp [*,-Option.some.injEq];rfl | (first | (apply Xa;rfl) | apply Xb);(focus simp [*];done);focus simp [*,-Option.some.injEq];rfl | (first | (apply Xg;rfl) | apply Xk);(focus simp [*];done) | (first | refine Xl ?_ | refine Xi ?_ | refine Xh ?_ | refine Xo ?_ | refine Xq ?_);try simp only [Xw,Xx,reduceIte,Nat.reduceEqDiff] | refine Xn ?_ | refine Xp rfl ?_ | refine Xc ?_ | apply Xd;focus simp [*];done | apply Xe;focus simp [*];done | refine Ya rfl rfl ?_)
       (refine⟨_,(by simp [*];rfl),?_⟩;(try simp only [packA]))
      ·repeat (first | (first | (apply Xf;rfl) | apply Xj);focus simp [cvS_eq s, *,-Option.some.injEq];rfl | (first | (apply Xa;rfl) | apply Xb);(focus simp [cvS_eq s, *];done);focus simp [cvS_eq s, *,-Option.some.injEq];rfl | (first | (apply Xg;rfl) | apply Xk);(focus simp [cvS_eq s, *];done) | (first | refine Xl ?_ | refine Xi ?_ | refine Xh ?_ | refine Xo ?_ | refine Xq ?_);try simp only [Xw,Xx,reduceIte,Nat.reduceEqDiff] | refine Xn ?_ | refine Xp rfl ?_ | refine Xc ?_ | apply Xd;focus simp [cvS_eq s, *];done | apply Xe;focus simp [cvS_eq s, *];done | refine Ya rfl rfl ?_)
       ((apply Xr);(focus rfl);(focus (first | rfl | (simp [cvS_eq s, *];done)));(focus simp [cvS_eq s, *,-Option.some.injEq];rfl);kernel_rfl)
       ·exact h1 _
       repeat (first | (first | (apply Xf;rfl) | apply Xj);focus simp [cvS_eq s, *,-Option.some.injEq];rfl | (first | (apply Xa;rfl) | apply Xb);(focus simp [cvS_eq s, *];done);focus simp [cvS_eq s, *,-Option.some.injEq];rfl | (first | (apply Xg;rfl) | apply Xk);(focus simp [cvS_eq s, *];done) | (first | refine Xl ?_ | refine Xi ?_ | refine Xh ?_ | refine Xo ?_ | refine Xq ?_);try simp only [Xw,Xx,reduceIte,Nat.reduceEqDiff] | refine Xn ?_ | refine Xp rfl ?_ | refine Xc ?_ | apply Xd;focus simp [cvS_eq s, *];done | apply Xe;focus simp [cvS_eq s, *];done | refine Ya rfl rfl ?_)
       ((apply Xr);(focus rfl);(focus (first | rfl | (simp [cvS_eq s, *];done)));(focus simp [cvS_eq s, *,-Option.some.injEq];rfl);kernel_rfl)
       ·exact h2 _
       repeat (first | (first | (apply Xf;rfl) | apply Xj);focus simp [*,-Option.some.injEq];rfl | (first | (apply Xa;rfl) | apply Xb);(focus simp [*];done);focus simp [*,-Option.some.injEq];rfl | (first | (apply Xg;rfl) | apply Xk);(focus simp [*];done) | (first | refine Xl ?_ | refine Xi ?_ | refine Xh ?_ | refine Xo ?_ | refine Xq ?_);try simp only [Xw,Xx,reduceIte,Nat.reduceEqDiff] | refine Xn ?_ | refine Xp rfl ?_ | refine Xc ?_ | apply Xd;focus simp [*];done | apply Xe;focus simp [*];done | refine Ya rfl rfl ?_)
       (refine⟨_,(by simp [*];rfl),?_⟩;(try simp only [packA]))
 ·have hi':l.length≤i:=by omega
  rw [List.drop_eq_nil_of_le hi',retsT] at hf;subst hf;clear hb ih
  repeat (first | (first | (apply Xf;rfl) | apply Xj);focus simp [*,-Option.some.injEq];rfl | (first | (apply Xa;rfl) | apply Xb);(focus simp [*];done);focus simp [*,-Option.some.injEq];rfl | (first | (apply Xg;rfl) | apply Xk);(focus simp [*];done) | (first | refine Xl ?_ | refine Xi ?_ | refine Xh ?_ | refine Xo ?_ | refine Xq ?_);try simp only [Xw,Xx,reduceIte,Nat.reduceEqDiff] | refine Xn ?_ | refine Xp rfl ?_ | refine Xc ?_ | apply Xd;focus simp [*];done | apply Xe;focus simp [*];done | refine Ya rfl rfl ?_)
  (refine⟨_,(by simp [*];rfl),?_⟩;(try simp only [packA]))
theorem tk_Returns:∀ (N:Nat) (l:List St),stsSz l≤N→stsSz l≤lim→FCall1 Tryd.prog tkG 8 [.lst (l.map cvS)] (.bool (retsT l))
 | 0,l,h0,hl=>tk_Returns1 l hl fun m hm=>absurd hm (by omega)
 | N+1,l,hN,hl=>tk_Returns1 l hl fun m hm=>tk_Returns N m (by omega) (by omega)
end Go.Proofs.YtoookjadbhdfhaaDoor
