/-
  The table of a hierarchy is made; chains; walked.
-/
import Derived.Test.YtoookjadbhdfhaaDoorTJpAw
set_option linter.unusedSectionVars false
set_option linter.unusedSimpArgs false
set_option linter.unnecessarySimpa false
set_option linter.unusedVariables false
set_option linter.unusedSimpArgs false
set_option linter.unusedVariables false
namespace Go.Proofs.YtoookjadbhdfhaaDoor
section
open Lx Ax Go.RowKit
attribute [local simp] stepS Ax.stepT Dl.on qstep astep estep rd putE over argE ofV ofS loadA pickCells isAggD faddA fieldA partA iaddA idxA sliA bnd binA intA strA unA convA bltA lenA mapOf findK keyD scalD storeA appA srcA srcD upd drp Dl.hp Dl.nx CV.cs CV.one buildA placesA fillA zrep tasA ifaceD eqA eqFs eqIs range2 copyA nbeq nble nblt decEq beqI bneI beqS bneS isED Int.ofNat_inj List.getElem?_map List.getElem?_eq_getElem Option.map_some ti_int ti_bool ti_str ti_i64 ti_Cds ti_Cd ti_Tb ti_Hi ti_Msi ti_Mib ti_Ints gd gdB callA resA op1
attribute [local simp] nu1 nu2 nu3 nu4 nu5 nu6 nu7 nu8 nu9 nu10 nu11 nu12 nu13 upd_upd
theorem fr_val {s:Bytes}{h:List Cd}{i q:Nat}(hq:((frN h i)).findIdx? (· == s)=some q):∃ v,(frV h i)[q]?=some v:=by
 obtain⟨h1,_⟩:=List.findIdx?_eq_some_iff_getElem.mp hq;refine⟨_,List.getElem?_eq_getElem ?_⟩;simp only [frN,frV,List.length_map] at h1 ⊢;exact h1
set_option maxRecDepth 10000 in
set_option maxHeartbeats 4000000 in
theorem tk_tableOf (h:List Cd)(hl:h.length≤lim):FCall1 Tryd.prog tkG 16 [cvH h] (cvTb h):=by
 refine FCall.one tkG_pu (by simp [puL,puV,puH]) (puTb h) ?_;refine FCall.ofBodyM Tryd.func16 rfl rfl fun nx=>?_
 repeat (first | (first | (apply Xf;rfl) | apply Xj);focus simp [cvH, *,-Option.some.injEq];rfl | (first | (apply Xa;rfl) | apply Xb);(focus simp [cvH, *];done);focus simp [cvH, *,-Option.some.injEq];rfl | (first | (apply Xg;rfl) | apply Xk);(focus simp [cvH, *];done) | (first | refine Xl ?_ | refine Xi ?_ | refine Xh ?_ | refine Xo ?_ | refine Xq ?_);try simp only [Xw,Xx,reduceIte,Nat.reduceEqDiff] | refine Xn ?_ | refine Xp rfl ?_ | refine Xc ?_ | apply Xd;focus simp [cvH, *];done | apply Xe;focus simp [cvH, *];done | refine Ya rfl rfl ?_)
 refine AWp.countO h.length [4,5,6,7,18] 19 (fun i e H1 _=>e 18=.int .i64 i∧H1 (nx+1)=some (.cells [.nils,.nilm])∧H1 (nx+1+1+7)=some (.cells [.lst (h.map cvD),.mp (nx+1+1+5)])∧H1 (nx+1+1+5)=some (.map ((frN h i).map .str) (frV h i))) ⟨(by first | (simp (disch:=omega) [putE,over,ofV,ofS, *];done) | (simp (disch:=omega) [putE,over,ofV,ofS, *];rfl)),by simp [upd],by simp [upd],by simp [upd];exact⟨rfl,rfl⟩⟩ ?_;rintro i v H1 nx1 hi hn1 ⟨h18,h2,h3,hm⟩;have q1:=far (show nx+1<nx1 by omega);have q2:=far (show nx+1+1+7<nx1 by omega);have q3:=far (show nx+1+1+5<nx1 by omega)
 repeat (first | (first | (apply Xf;rfl) | apply Xj);focus simp [*,-Option.some.injEq];rfl | (first | (apply Xa;rfl) | apply Xb);(focus simp [*];done);focus simp [*,-Option.some.injEq];rfl | (first | (apply Xg;rfl) | apply Xk);(focus simp [*];done) | (first | refine Xl ?_ | refine Xi ?_ | refine Xh ?_ | refine Xo ?_ | refine Xq ?_);try simp only [Xw,Xx,reduceIte,Nat.reduceEqDiff] | refine Xn ?_ | refine Xp rfl ?_ | refine Xc ?_ | apply Xd;focus simp [*];done | apply Xe;focus simp [*];done | refine Ya rfl rfl ?_)
 (((apply AWp.cond');(focus (simp [*,-Ax.CV.bool.injEq];rfl))) <;> (intro hb) <;> (try simp only [decide_eq_true_eq,decide_eq_false_iff_not,Bool.not_eq_true',Bool.not_eq_false',Bool.not_eq_true,Bool.not_eq_false] at hb))
 ·have hlt:i<h.length:=hb;have hwi:=lim_wrap hlt hl;clear hb;have hlk:∀ H':Heap,H' (nx+1+1+5)=some (.map ((frN h i).map .str) (frV h i))→lookA Tryd.prog H' 67 (.mp (nx+1+1+5)) (.str h[i].name) true=match (frN h i).findIdx? (· == h[i].name) with
   | some q=>((frV h i)[q]?).map fun v=>(.tup [v,.bool true]:CV)
   | none=>some (.tup [.int .i64 0,.bool false]):=fun H' hH'=>by
   rw [lookA_str ti_Msi ti_str rfl ti_int (ks:=frN h i) (vs:=frV h i) (by simp only [mapOf,hH']) h[i].name true];rfl
  have hth:=frT_there h i h[i].name;cases hq:(frN h i).findIdx? (· == h[i].name) with
  | some q =>
    obtain⟨u,hu⟩:=fr_val hq;simp only [hq,hu,Option.map_some] at hlk;have hy:frT h (i+1)=frT h i:=frT_yes hlt (by rw [← hth];show ((frN h i).findIdx? (· == h[i].name)).isSome=true;rw [hq];rfl);have e1:frN h (i+1)=frN h i:=by simp only [frN,hy]
    have e2:frV h (i+1)=frV h i:=by simp only [frV,hy]
    clear hq hu hth hy
    repeat (first | (first | (apply Xf;rfl) | apply Xj);focus simp [cvD, *,-Option.some.injEq];rfl | (first | (apply Xa;rfl) | apply Xb);(focus simp [cvD, *];done);focus simp [cvD, *,-Option.some.injEq];rfl | (first | (apply Xg;rfl) | apply Xk);(focus simp [cvD, *];done) | (first | refine Xl ?_ | refine Xi ?_ | refine Xh ?_ | refine Xo ?_ | refine Xq ?_);try simp only [Xw,Xx,reduceIte,Nat.reduceEqDiff] | refine Xn ?_ | refine Xp rfl ?_ | refine Xc ?_ | apply Xd;focus simp [cvD, *];done | apply Xe;focus simp [cvD, *];done | refine Ya rfl rfl ?_)
    exact⟨by ((repeat (first | exact Keeps.base _ _ _ _ | (with_reducible exact Keeps.refl _ _ _) | (refine Keeps.put rfl ?_) | (refine Keeps.over' rfl rfl ?_)))),hlt,(by first | (simp (disch:=omega) [putE,over,ofV,ofS, *];done) | (simp (disch:=omega) [putE,over,ofV,ofS, *];rfl)),by simp [upd, *],by simp [upd, *],by rw [e1,e2];simp [upd, *]⟩
  | none =>
    simp only [hq] at hlk;have hy:frT h (i+1)=frT h i++[(h[i].name,i)]:=frT_no hlt (by rw [← hth];show ((frN h i).findIdx? (· == h[i].name)).isSome=false;rw [hq];rfl);have e1:frN h (i+1)=frN h i++[h[i].name]:=by simp only [frN,hy,List.map_append,List.map_cons,List.map_nil]
    have e2:frV h (i+1)=frV h i++[.int .i64 i]:=by simp only [frV,hy,List.map_append,List.map_cons,List.map_nil]
    have hup:∀ H':Heap,H' (nx+1+1+5)=some (.map ((frN h i).map .str) (frV h i))→mupA Tryd.prog H' 67 (.mp (nx+1+1+5)) (.str h[i].name) (.int .i64 i)=some (.any,.set (nx+1+1+5) (.map ((frN h (i+1)).map .str) (frV h (i+1)))):=fun H' hH'=>by
     rw [mupA_str ti_Msi ti_str rfl hH' _ hq,e1,e2]
    clear hq hth hy e1 e2
    repeat (first | (first | (apply Xf;rfl) | apply Xj);focus simp [cvD, *,-Option.some.injEq];rfl | (first | (apply Xa;rfl) | apply Xb);(focus simp [cvD, *];done);focus simp [cvD, *,-Option.some.injEq];rfl | (first | (apply Xg;rfl) | apply Xk);(focus simp [cvD, *];done) | (first | refine Xl ?_ | refine Xi ?_ | refine Xh ?_ | refine Xo ?_ | refine Xq ?_);try simp only [Xw,Xx,reduceIte,Nat.reduceEqDiff] | refine Xn ?_ | refine Xp rfl ?_ | refine Xc ?_ | apply Xd;focus simp [cvD, *];done | apply Xe;focus simp [cvD, *];done | refine Ya rfl rfl ?_)
    exact⟨by ((repeat (first | exact Keeps.base _ _ _ _ | (with_reducible exact Keeps.refl _ _ _) | (refine Keeps.put rfl ?_) | (refine Keeps.over' rfl rfl ?_)))),hlt,(by first | (simp (disch:=omega) [putE,over,ofV,ofS, *];done) | (simp (disch:=omega) [putE,over,ofV,ofS, *];rfl)),by simp [upd, *],by simp [upd, *],by simp [upd, *]⟩
 ·have hi':i=h.length:=by omega
  subst hi'
  repeat (first | (first | (apply Xf;rfl) | apply Xj);focus simp [*,-Option.some.injEq];rfl | (first | (apply Xa;rfl) | apply Xb);(focus simp [*];done);focus simp [*,-Option.some.injEq];rfl | (first | (apply Xg;rfl) | apply Xk);(focus simp [*];done) | (first | refine Xl ?_ | refine Xi ?_ | refine Xh ?_ | refine Xo ?_ | refine Xq ?_);try simp only [Xw,Xx,reduceIte,Nat.reduceEqDiff] | refine Xn ?_ | refine Xp rfl ?_ | refine Xc ?_ | apply Xd;focus simp [*];done | apply Xe;focus simp [*];done | refine Ya rfl rfl ?_)
  (refine⟨_,(by simp [*];rfl),?_⟩;(try simp only [packA]))
  refine⟨nx+1+1+5,(frN h h.length).map .str,frV h h.length,.ret (cvTb h),by simp [hm],?_,rfl⟩;refine .ret (FM.aggs rfl fun j a b=>?_)
  match j,a with
  | 0,_=>exact .same _
  | 1,_=>exact .mp
/-! chains -/
def cvX (i:Nat):List CV:=[.int .i64 (i:Int)]
theorem cvX_len (i:Nat):(cvX i).length=1:=rfl
theorem cvX_one (i:Nat):(cvX i).all CV.one=true:=rfl
theorem puX (i:Nat):puL (cvX i)=true:=rfl
theorem RV.nil_tup2 {M:Mp}{d:CV}{v:Value}(h:RV M (.tup [.nils,d]) v):RV M (.tup [.lst [],d]) v:=by
 cases h with
 | tup cs vs hl hr =>
   refine .tup _ vs hl fun j a b=>?_
   have:=hr j (by simpa using a) b
   match j,a,b,this with
   | 0,_,_,this=>exact RV.nil_lst this
   | 1,_,_,this=>exact this
/-- A function that gives back an own list and a second value. -/
theorem FCall.ofBodyLB2 {P:Program}{G:Nat→CV}{f:FuncId}{fn:Func}{c:Code}{args:List CV}{n:Nat}{α:Type}{cv:α→List CV}{k:Nat}{l:List α}{d:CV}(hk:∀ a,(cv a).length=k)(hf:P.funcs[f]?=some fn)(hb:fn.body=some c)(hn:max args.length fn.ntmps=n)
  (h:∀ nx,AWp P G n c (argE args) Heap.no nx (BodyQ P fn fun r H' nx'=>∃ c,r=.ret (.tup [c,d])∧OwnL cv k H' nx' c l)):FCall P G f args fun r=>r=.ret (.tup [.lst (l.map cv),d]):=by
 refine FCall.of fun nx=>?_
 intro M w vs g r v;refine (ACall.of_body hf hb (hn▸h nx) M w vs g r v).mono ?_;rintro e w' ⟨M1,x,H1,n1,a1,a2,a3,c,rfl,ho⟩;have:∃ M',EndR M' (.ret (.tup [.lst (l.map cv),d])) e∧Rep M' Heap.no n1 w'∧Fr H1 M1 n1 w' Heap.no M' n1 w':=by
  rcases ho with⟨rfl,rfl⟩ | ⟨b,rfl,hb,_⟩
  ·cases e <;> simp only [EndR] at a1;exact⟨M1,RV.nil_tup2 a1,a2.weak (Sub.no _),Fr.weak (Sub.no _)⟩
  ·refine Fz.sound (.step (r1:=.ret (.tup [.lst (l.map cv),d])) b _ hb (.ret ?_) (.done _ _ _ (Sub.no _))) a2 a1;have:=FV.sl (b:=b) (cs:=l.flatMap cv) 0 l.length k (by rw [flatMap_len hk];omega);rw [OwnL.frozen hk] at this;refine .tup _ _ rfl fun j a b'=>?_
   match j,a with
   | 0,_=>exact this
   | 1,_=>exact .same _
 obtain⟨M2,b1,b2,b3⟩:=this;exact⟨M2,_,Heap.no,n1,b1,b2,a3.trans b3,rfl⟩
theorem int_mem (l:List Nat)(k:Nat):(l.map fun i:Nat=>(i:Int)).contains (k:Int)=l.contains k:=by
 induction l with
 | nil=>rfl
 | cons a l ih =>
   simp only [List.map_cons,List.contains_cons,ih]
   congr 1
   by_cases h:k=a
   ·subst h;simp
   ·have:¬ (k:Int)=(a:Int):=by omega
    simp [h,this]
theorem int_idx {l:List Nat}{k:Nat}(h:l.contains k=false):(l.map fun i:Nat=>(i:Int)).findIdx? (· == (k:Int))=none:=by
 rw [List.findIdx?_eq_none_iff];intro x hx;obtain⟨a,ha,rfl⟩:=List.mem_map.mp hx;have:a≠k:=fun e=>by
  subst e;have:l.contains a=true:=List.contains_iff_mem.mpr ha;rw [h] at this;cases this
 simp;omega
/-- The set of a list of numbers, as a map. -/
def setV (l:List Nat):CB:=.map ((l.map fun i:Nat=>(i:Int)).map (.int .i64)) (l.map fun _=>.bool true)
theorem look_set {H:Heap}{b:Nat}{l:List Nat}(hb:H b=some (setV l))(k:Nat):lookA Tryd.prog H 106 (.mp b) (.int .i64 (k:Int)) false=some (.bool (l.contains k)):=by
 rw [lookA_set ti_Mib ti_int rfl ti_bool rfl (l:=l.map fun i:Nat=>(i:Int)) (by simp only [mapOf,hb,setV,List.map_map];rfl) (k:Int),int_mem]
theorem up_set {H:Heap}{b:Nat}{l:List Nat}(hb:H b=some (setV l)){k:Nat}(hk:l.contains k=false):mupA Tryd.prog H 106 (.mp b) (.int .i64 (k:Int)) (.bool true)=some (.any,.set b (setV (l++[k]))):=by
 rw [mupA_int ti_Mib ti_int rfl hb (k:Int) (int_idx hk)];simp [setV]
end
section
open Lx Ax Go.RowKit
attribute [local simp] stepS Ax.stepT Dl.on qstep astep estep rd putE over argE ofV ofS loadA pickCells isAggD faddA fieldA partA iaddA idxA sliA bnd binA intA strA unA convA bltA lenA mapOf findK keyD scalD storeA appA srcA srcD upd drp Dl.hp Dl.nx CV.cs CV.one buildA placesA fillA zrep tasA ifaceD eqA eqFs eqIs range2 copyA nbeq nble nblt decEq beqI bneI beqS bneS isED Int.ofNat_inj List.getElem?_map List.getElem?_eq_getElem Option.map_some ti_int ti_bool ti_str ti_i64 ti_Cds ti_Cd ti_Tb ti_Hi ti_Msi ti_Mib ti_Ints gd gdB callA resA op1
attribute [local simp] nu1 nu2 nu3 nu4 nu5 nu6 nu7 nu8 nu9 nu10 nu11 nu12 nu13 upd_upd
set_option maxRecDepth 10000 in
set_option maxHeartbeats 4000000 in
theorem tk_chain (h:List Cd)(hl:h.length≤lim)(i0:Int)(hi0:i0<h.length):FCall1 Tryd.prog tkG 33 [cvTb h,.int .i64 i0] (.tup [.lst ((chainC h i0).1.map cvX),.bool (chainC h i0).2]):=by
 refine FCall.one tkG_pu (by simp [puL,puV,puTb]) (by simp [puL,puV,puRm puX]) ?_;refine FCall.ofBodyLB2 cvX_len Tryd.func33 rfl rfl fun nx=>?_
 have esc:∀ (e:Env) (H:Heap) (nx':Nat) (acc:List Nat) (i:Int),OwnL cvX 1 H nx' (e 4) acc→e 5=.bool (decide (0≤i))→chainC h i0=(acc,decide (0≤i))→∃ x,resA Tryd.prog H e (Tryd.f33).results.toList=some x∧∃ c,Res.ret (packA x)=.ret (.tup [c,.bool (chainC h i0).2])∧OwnL cvX 1 H nx' c (chainC h i0).1:=by
  intro e H nx' acc i ho hb h;exact⟨[e 4,.bool (decide (0≤i))],by simp [Tryd.results33,resA,hb],e 4,by rw [h];rfl,by rw [h];exact ho⟩
 repeat (first | (first | (apply Xf;rfl) | apply Xj);focus simp [cvTb, *,-Option.some.injEq];rfl | (first | (apply Xa;rfl) | apply Xb);(focus simp [cvTb, *];done);focus simp [cvTb, *,-Option.some.injEq];rfl | (first | (apply Xg;rfl) | apply Xk);(focus simp [cvTb, *];done) | (first | refine Xl ?_ | refine Xi ?_ | refine Xh ?_ | refine Xo ?_ | refine Xq ?_);try simp only [Xw,Xx,reduceIte,Nat.reduceEqDiff] | refine Xn ?_ | refine Xp rfl ?_ | refine Xc ?_ | apply Xd;focus simp [cvTb, *];done | apply Xe;focus simp [cvTb, *];done | refine Ya rfl rfl ?_)
 refine AWp.loopO (α:=List Nat×Int) (fun x e H nx1=>e 1=.int .i64 x.2∧x.2<h.length∧OwnL cvX 1 H nx1 (e 4) x.1∧H nx=some (.cells [.lst (h.map cvD),.fmp ((frN h h.length).map .str) (frV h h.length)])∧H (nx+1)=some (setV x.1)∧x.1.Nodup∧(∀ y∈x.1,y<h.length)∧nx+2≤nx1∧chainF h (h.length+1-x.1.length) x.1 x.2=chainC h i0) (fun x=>h.length+1-x.1.length) ([],i0) [1,4] 8 ?_ ?_
 ·exact⟨(by first | (simp (disch:=omega) [putE,over,ofV,ofS, *];done) | (simp (disch:=omega) [putE,over,ofV,ofS, *];rfl)),hi0,.inl ⟨rfl,(by first | (simp (disch:=omega) [putE,over,ofV,ofS, *];done) | (simp (disch:=omega) [putE,over,ofV,ofS, *];rfl))⟩,by simp [upd],by simp [upd,setV],List.nodup_nil,by simp,by omega,rfl⟩
 rintro⟨acc,i⟩ v H nx1 hn1 ⟨h1,hi,ho,hT,hS,hnd,hlt,hnx,hch⟩;simp only at h1 hi ho hS hnd hlt hch ⊢;have hal:=nodup_lt hnd hlt;have hfu:h.length+1-acc.length=(h.length-acc.length)+1:=by omega
 rw [hfu,chainF] at hch
 by_cases hneg:i<0
 ·have hge:¬ 0≤i:=by omega
  rw [if_pos hneg] at hch;obtain⟨x,hx⟩:∃ x,v 4=x:=⟨_,rfl⟩;rw [hx] at ho
  repeat (first | (first | (apply Xf;rfl) | apply Xj);focus simp [*,-Option.some.injEq];rfl | (first | (apply Xa;rfl) | apply Xb);(focus simp [*];done);focus simp [*,-Option.some.injEq];rfl | (first | (apply Xg;rfl) | apply Xk);(focus simp [*];done) | (first | refine Xl ?_ | refine Xi ?_ | refine Xh ?_ | refine Xo ?_ | refine Xq ?_);try simp only [Xw,Xx,reduceIte,Nat.reduceEqDiff] | refine Xn ?_ | refine Xp rfl ?_ | refine Xc ?_ | apply Xd;focus simp [*];done | apply Xe;focus simp [*];done | refine Ya rfl rfl ?_)
  refine esc _ _ _ acc i (by simpa [putE,over,hx] using ho) (by first | (simp (disch:=omega) [putE,over,ofV,ofS, *];done) | (simp (disch:=omega) [putE,over,ofV,ofS, *];rfl)) (by rw [← hch];simp [hge])
 ·rw [if_neg hneg] at hch;obtain⟨k,rfl⟩:∃ k:Nat,i=k:=⟨i.toNat,by omega⟩;have hk:k<h.length:=by omega
  have hlk:∀ H':Heap,H' (nx+1)=some (setV acc)→lookA Tryd.prog H' 106 (.mp (nx+1)) (.int .i64 (k:Int)) false=some (.bool (acc.contains k)):=fun H' hH'=>look_set hH' k
  rw [Int.toNat_natCast] at hch;obtain⟨x,hx⟩:∃ x,v 4=x:=⟨_,rfl⟩;rw [hx] at ho;cases hc:acc.contains k with
  | true =>
    rw [hc] at hlk;rw [hc,if_pos rfl] at hch;clear hneg
    repeat (first | (first | (apply Xf;rfl) | apply Xj);focus simp [*,-Option.some.injEq];rfl | (first | (apply Xa;rfl) | apply Xb);(focus simp [*];done);focus simp [*,-Option.some.injEq];rfl | (first | (apply Xg;rfl) | apply Xk);(focus simp [*];done) | (first | refine Xl ?_ | refine Xi ?_ | refine Xh ?_ | refine Xo ?_ | refine Xq ?_);try simp only [Xw,Xx,reduceIte,Nat.reduceEqDiff] | refine Xn ?_ | refine Xp rfl ?_ | refine Xc ?_ | apply Xd;focus simp [*];done | apply Xe;focus simp [*];done | refine Ya rfl rfl ?_)
    refine esc _ _ _ acc k (by simpa [putE,over,hx] using ho) (by first | (simp (disch:=omega) [putE,over,ofV,ofS, *];done) | (simp (disch:=omega) [putE,over,ofV,ofS, *];rfl)) (by rw [← hch];simp)
  | false =>
    rw [hc] at hlk;rw [hc,if_neg (by simp)] at hch;have hup:∀ H':Heap,H' (nx+1)=some (setV acc)→mupA Tryd.prog H' 106 (.mp (nx+1)) (.int .i64 (k:Int)) (.bool true)=some (.any,.set (nx+1) (setV (acc++[k]))):=fun H' hH'=>up_set hH' hc
    have q1:=far (show nx<nx1 by omega);have q2:=far (show nx+1<nx1 by omega);have hsep:∀ b',x=.sl b' 0 acc.length 1→nx+1≠b':=own_row ho hS (by simp [setV]);have hnd':(acc++[k]).Nodup:=by
     rw [List.nodup_append];exact⟨hnd,by simp,fun a ha b hb=>by
      simp only [List.mem_singleton] at hb;subst hb;exact fun e=>by subst e;rw [List.contains_iff_mem.mpr ha] at hc;cases hc⟩
    have hlt':∀ y∈acc++[k],y<h.length:=fun y hy=>by
     rcases List.mem_append.mp hy with hy | hy
     ·exact hlt y hy
     ·simp only [List.mem_singleton] at hy;subst hy;exact hk
    have hal':=nodup_lt hnd' hlt';simp only [List.length_append,List.length_cons,List.length_nil] at hal';have hll:acc.length+1<1000000000:=by simp only [lim] at hl;omega
    have hTne:∀ b',x=.sl b' 0 acc.length 1→nx≠b':=by
     refine own_row ho hT ?_;intro e;cases acc with
     | nil=>cases e
     | cons a l=>simp [cvX] at e
    clear hneg hc
    repeat (first | (first | (apply Xf;rfl) | apply Xj);focus simp [*,-Option.some.injEq];rfl | (first | (apply Xa;rfl) | apply Xb);(focus simp [*];done);focus simp [*,-Option.some.injEq];rfl | (first | (apply Xg;rfl) | apply Xk);(focus simp [*];done) | (first | refine Xl ?_ | refine Xi ?_ | refine Xh ?_ | refine Xo ?_ | refine Xq ?_);try simp only [Xw,Xx,reduceIte,Nat.reduceEqDiff] | refine Xn ?_ | refine Xp rfl ?_ | refine Xc ?_ | apply Xd;focus simp [*];done | apply Xe;focus simp [*];done | refine Ya rfl rfl ?_)
    have ho2:OwnL cvX 1 (upd (upd H (nx+1) (setV (acc++[k]))) nx1 (.cells [.int .i64 k])) (nx1+1) x acc:=((ho.updS hsep).upd (Nat.le_refl _)).up (Nat.le_succ _);refine AOpl.appR cvX_len cvX_one ti_Ints ti_int k ho2 (by omega) ?_;intro H2 hN hfr;have hT2:H2 nx=some (.cells [.lst (h.map cvD),.fmp ((frN h h.length).map .str) (frV h h.length)]):=by rw [hfr nx (by omega) hTne];simp [upd, *]
    have hS2:H2 (nx+1)=some (setV (acc++[k])):=by rw [hfr (nx+1) (by omega) hsep];simp [upd, *]
    clear hup hlk hT hS
    repeat (first | (first | (apply Xf;rfl) | apply Xj);focus simp [*,-Option.some.injEq];rfl | (first | (apply Xa;rfl) | apply Xb);(focus simp [*];done);focus simp [*,-Option.some.injEq];rfl | (first | (apply Xg;rfl) | apply Xk);(focus simp [*];done) | (first | refine Xl ?_ | refine Xi ?_ | refine Xh ?_ | refine Xo ?_ | refine Xq ?_);try simp only [Xw,Xx,reduceIte,Nat.reduceEqDiff] | refine Xn ?_ | refine Xp rfl ?_ | refine Xc ?_ | apply Xd;focus simp [*];done | apply Xe;focus simp [*];done | refine Ya rfl rfl ?_)
    ((apply Xr);(focus rfl);(focus (first | rfl | (simp [cvTb, *];done)));(focus simp [cvTb, *,-Option.some.injEq];rfl);kernel_rfl)
    ·exact tk_super h k hk _
    repeat (first | (first | (apply Xf;rfl) | apply Xj);focus simp [*,-Option.some.injEq];rfl | (first | (apply Xa;rfl) | apply Xb);(focus simp [*];done);focus simp [*,-Option.some.injEq];rfl | (first | (apply Xg;rfl) | apply Xk);(focus simp [*];done) | (first | refine Xl ?_ | refine Xi ?_ | refine Xh ?_ | refine Xo ?_ | refine Xq ?_);try simp only [Xw,Xx,reduceIte,Nat.reduceEqDiff] | refine Xn ?_ | refine Xp rfl ?_ | refine Xc ?_ | apply Xd;focus simp [*];done | apply Xe;focus simp [*];done | refine Ya rfl rfl ?_)
    refine⟨by ((repeat (first | exact Keeps.base _ _ _ _ | (with_reducible exact Keeps.refl _ _ _) | (refine Keeps.put rfl ?_) | (refine Keeps.over' rfl rfl ?_)))),(acc++[k],superI h k),?_,(by first | (simp (disch:=omega) [putE,over,ofV,ofS, *];done) | (simp (disch:=omega) [putE,over,ofV,ofS, *];rfl)),superI_lt h k,?_,hT2,hS2,hnd',hlt',by omega,?_⟩
    ·simp only [List.length_append,List.length_cons,List.length_nil];omega
    ·exact OwnL.isN hN (by omega) _ (by simp)
    ·rw [← hch];congr 1;simp only [List.length_append,List.length_cons,List.length_nil];omega
set_option maxRecDepth 10000 in
set_option maxHeartbeats 4000000 in
theorem tk_named (h:List Cd)(hl:h.length≤lim)(s:Bytes):FCall1 Tryd.prog tkG 70 [cvTb h,.str s] (.lst ((namedC h s).map cvX)):=by
 refine FCall.one tkG_pu (by simp [puL,puV,puTb]) (by simp [puL,puV,puRm puX]) ?_;refine FCall.ofBody Tryd.func70 rfl rfl fun nx=>?_
 repeat (first | (first | (apply Xf;rfl) | apply Xj);focus simp [cvTb, *,-Option.some.injEq];rfl | (first | (apply Xa;rfl) | apply Xb);(focus simp [cvTb, *];done);focus simp [cvTb, *,-Option.some.injEq];rfl | (first | (apply Xg;rfl) | apply Xk);(focus simp [cvTb, *];done) | (first | refine Xl ?_ | refine Xi ?_ | refine Xh ?_ | refine Xo ?_ | refine Xq ?_);try simp only [Xw,Xx,reduceIte,Nat.reduceEqDiff] | refine Xn ?_ | refine Xp rfl ?_ | refine Xc ?_ | apply Xd;focus simp [cvTb, *];done | apply Xe;focus simp [cvTb, *];done | refine Ya rfl rfl ?_)
 (first | (first | (apply AOpl.callN;rfl) | apply ASl.call);(focus simp [cvTb, *,-Option.some.injEq];rfl);kernel_rfl | (first | (apply AOpl.callNG;rfl) | apply ASl.callg);(focus simp [cvTb, *];done);(focus simp [cvTb, *,-Option.some.injEq];rfl);kernel_rfl)
 ·exact tk_find h s
 repeat (first | (first | (apply Xf;rfl) | apply Xj);focus simp [*,-Option.some.injEq];rfl | (first | (apply Xa;rfl) | apply Xb);(focus simp [*];done);focus simp [*,-Option.some.injEq];rfl | (first | (apply Xg;rfl) | apply Xk);(focus simp [*];done) | (first | refine Xl ?_ | refine Xi ?_ | refine Xh ?_ | refine Xo ?_ | refine Xq ?_);try simp only [Xw,Xx,reduceIte,Nat.reduceEqDiff] | refine Xn ?_ | refine Xp rfl ?_ | refine Xc ?_ | apply Xd;focus simp [*];done | apply Xe;focus simp [*];done | refine Ya rfl rfl ?_)
 (first | (first | (apply AOpl.callN;rfl) | apply ASl.call);(focus simp [cvTb, *,-Option.some.injEq];rfl);kernel_rfl | (first | (apply AOpl.callNG;rfl) | apply ASl.callg);(focus simp [cvTb, *];done);(focus simp [cvTb, *,-Option.some.injEq];rfl);kernel_rfl)
 ·exact tk_chain h hl (findI h s) (findI_lt h s)
 repeat (first | (first | (apply Xf;rfl) | apply Xj);focus simp [*,-Option.some.injEq];rfl | (first | (apply Xa;rfl) | apply Xb);(focus simp [*];done);focus simp [*,-Option.some.injEq];rfl | (first | (apply Xg;rfl) | apply Xk);(focus simp [*];done) | (first | refine Xl ?_ | refine Xi ?_ | refine Xh ?_ | refine Xo ?_ | refine Xq ?_);try simp only [Xw,Xx,reduceIte,Nat.reduceEqDiff] | refine Xn ?_ | refine Xp rfl ?_ | refine Xc ?_ | apply Xd;focus simp [*];done | apply Xe;focus simp [*];done | refine Ya rfl rfl ?_)
 (refine⟨_,(by simp [*];rfl),?_⟩;(try simp only [packA]))
 all_goals rfl
end
end Go.Proofs.YtoookjadbhdfhaaDoor
