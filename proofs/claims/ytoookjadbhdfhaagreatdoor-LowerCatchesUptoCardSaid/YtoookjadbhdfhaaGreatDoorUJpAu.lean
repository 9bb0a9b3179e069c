/-
  The table of a hierarchy: super, isType, tableOf; Find; walked.
-/
import Derived.Test.YtoookjadbhdfhaaGreatDoorUJpAt
set_option linter.unusedSectionVars false
set_option linter.unusedSimpArgs false
set_option linter.unnecessarySimpa false
set_option linter.unusedVariables false
set_option linter.unusedSimpArgs false
set_option linter.unusedVariables false
namespace Go.Proofs.YtoookjadbhdfhaaGreatDoor
section
open Lx Ax Go.RowKit
attribute [local simp] stepS Ax.stepT Dl.on qstep astep estep rd putE over argE ofV ofS loadA pickCells isAggD faddA fieldA partA iaddA idxA sliA bnd binA intA strA unA convA bltA lenA mapOf findK keyD scalD storeA mupA appA srcA srcD upd drp Dl.hp Dl.nx CV.cs CV.one buildA placesA fillA zrep tasA ifaceD eqA eqFs eqIs range2 copyA nbeq nble nblt decEq beqI bneI beqS bneS isED Int.ofNat_inj List.getElem?_map List.getElem?_eq_getElem Option.map_some ti_int ti_bool ti_str ti_i64 ti_Cds ti_Cd ti_Tb ti_Hi gd gdB callA resA op1
set_option maxRecDepth 10000 in
set_option maxHeartbeats 4000000 in
theorem tk_isType (h:List Cd)(s:Bytes):FCall1 Tryz.prog tkG 84 [cvTb h,.str s] (.bool (typB h s)):=by
 refine FCall.one tkG_pu (by simp [puL,puV,puTb]) rfl ?_;refine FCall.ofBody Tryz.func84 rfl rfl fun nx=>?_
 obtain⟨w,hw⟩:∃ w,w=typB h s:=⟨_,rfl⟩;rw [← hw];unfold typB intB at hw
 by_cases h1:s=[105,110,116]
 ·subst h1;have:w=true:=by rw [hw];rfl
  subst this;clear hw;refine gW ?_
  (refine⟨_,(by simp [*];rfl),?_⟩;(try simp only [packA]))
 ·have hb:(s == [105,110,116])=false:=by simpa using h1
  rw [hb,Bool.false_or] at hw;clear hb;refine gW ?_
  ((apply Xr);(focus rfl);(focus (first | rfl | (simp [cvTb, *];done)));(focus simp [cvTb, *,-Option.some.injEq];rfl);kernel_rfl)
  ·exact tk_find h s _
  refine gW ?_
  (refine⟨_,(by simp [*];rfl),?_⟩;(try simp only [packA]))
  all_goals (rw [hw] <;> rfl)
set_option maxRecDepth 10000 in
set_option maxHeartbeats 4000000 in
theorem tk_super (h:List Cd)(i:Nat)(hi:i<h.length):FCall1 Tryz.prog tkG 83 [cvTb h,.int .i64 i] (.int .i64 (superI h i)):=by
 refine FCall.one tkG_pu (by simp [puL,puV,puTb]) rfl ?_;refine FCall.ofBody Tryz.func83 rfl rfl fun nx=>?_
 obtain⟨w,hw⟩:∃ w,w=superI h i:=⟨_,rfl⟩;rw [← hw];simp only [superI,List.getElem?_eq_getElem hi] at hw
 by_cases h1:h[i].super=[]
 ·rw [if_pos h1] at hw;refine gWf (And.intro cvTb.eq_1 cvD.eq_1) ?_
  (refine⟨_,(by simp [*];rfl),?_⟩;(try simp only [packA]))
  all_goals (rw [hw] <;> rfl)
 ·rw [if_neg h1] at hw;refine gWf (And.intro cvTb.eq_1 cvD.eq_1) ?_
  (first | (first | (apply AOpl.callN;rfl) | apply ASl.call);(focus simp [cvTb,cvD, *,-Option.some.injEq];rfl);kernel_rfl | (first | (apply AOpl.callNG;rfl) | apply ASl.callg);(focus simp [cvTb,cvD, *];done);(focus simp [cvTb,cvD, *,-Option.some.injEq];rfl);kernel_rfl)
  ·exact tk_find h _
  refine gW ?_
  (refine⟨_,(by simp [*];rfl),?_⟩;(try simp only [packA]))
  all_goals (rw [hw] <;> rfl)
theorem ix_find (h:List Cd)(s:Bytes):ofN (h.findIdx? fun c=>c.name == s)=findI h s:=by
 unfold findI findN ofN;cases h.findIdx? fun c=>c.name == s <;> rfl
set_option maxRecDepth 10000 in
set_option maxHeartbeats 4000000 in
theorem tk_Find (h:List Cd)(hl:h.length≤lim)(s:Bytes):FCall1 Tryz.prog tkG 38 [cvH h,.str s] (.int .i64 (findI h s)):=by
 refine FCall.one tkG_pu (by simp [puL,puV,puH]) rfl ?_;refine FCall.ofBody Tryz.func38 rfl rfl fun nx=>?_
 have hx:=ix_D s h hl;rw [ix_find] at hx;refine gWf cvH.eq_1 ?_
 ((apply Xr);(focus rfl);(focus (first | rfl | (simp [*];done)));(focus simp [*,-Option.some.injEq];rfl);kernel_rfl)
 ·exact FCall1.lend tkG_pu hx (by simp [puL,puV,puRm puD])
 refine gW ?_
 (refine⟨_,(by simp [*];rfl),?_⟩;(try simp only [packA]))
end
section
open Lx Ax Go.RowKit
attribute [local simp] stepS Ax.stepT Dl.on qstep astep estep rd putE over argE ofV ofS loadA pickCells isAggD faddA fieldA partA iaddA idxA sliA bnd binA intA strA unA convA bltA lenA mapOf findK keyD scalD storeA appA srcA srcD upd drp Dl.hp Dl.nx CV.cs CV.one buildA placesA fillA zrep tasA ifaceD eqA eqFs eqIs range2 copyA nbeq nble nblt decEq beqI bneI beqS bneS isED Int.ofNat_inj List.getElem?_map List.getElem?_eq_getElem Option.map_some ti_int ti_bool ti_str ti_i64 ti_Cds ti_Cd ti_Tb ti_Hi ti_Msi ti_Mib ti_Ints gd gdB callA resA op1
attribute [local simp] nu1 nu2 nu3 nu4 nu5 nu6 nu7 nu8 nu9 nu10 nu11 nu12 nu13 upd_upd
theorem fr_val {s:Bytes}{h:List Cd}{i q:Nat}(hq:((frN h i)).findIdx? (· == s)=some q):∃ v,(frV h i)[q]?=some v:=by
 obtain⟨h1,_⟩:=List.findIdx?_eq_some_iff_getElem.mp hq;refine⟨_,List.getElem?_eq_getElem ?_⟩;simp only [frN,frV,List.length_map] at h1 ⊢;exact h1
set_option maxRecDepth 10000 in
set_option maxHeartbeats 4000000 in
theorem tk_tableOf (h:List Cd)(hl:h.length≤lim):FCall1 Tryz.prog tkG 36 [cvH h] (cvTb h):=by
 refine FCall.one tkG_pu (by simp [puL,puV,puH]) (puTb h) ?_;refine FCall.ofBodyM Tryz.func36 rfl rfl fun nx=>?_
 refine gWf cvH.eq_1 ?_;refine AWp.countO h.length [4,5,6,7,18] 19 (fun i e H1 _=>e 18=.int .i64 i∧H1 (nx+1)=some (.cells [.nils,.nilm])∧H1 (nx+1+1+7)=some (.cells [.lst (h.map cvD),.mp (nx+1+1+5)])∧H1 (nx+1+1+5)=some (.map ((frN h i).map .str) (frV h i))) ⟨(by first | (simp (disch:=omega) [putE,over,ofV,ofS, *];done) | (simp (disch:=omega) [putE,over,ofV,ofS, *];rfl)),by simp [upd],by simp [upd],by simp [upd];exact⟨rfl,rfl⟩⟩ ?_;rintro i v H1 nx1 hi hn1 ⟨h18,h2,h3,hm⟩;have q1:=far (show nx+1<nx1 by omega);have q2:=far (show nx+1+1+7<nx1 by omega);have q3:=far (show nx+1+1+5<nx1 by omega);refine gW ?_
 (((apply AWp.cond');(focus (simp [*,-Ax.CV.bool.injEq];rfl))) <;> (intro hb) <;> (try simp only [decide_eq_true_eq,decide_eq_false_iff_not,Bool.not_eq_true',Bool.not_eq_false',Bool.not_eq_true,Bool.not_eq_false] at hb))
 ·have hlt:i<h.length:=hb;have hwi:=lim_wrap hlt hl;clear hb;have hlk:∀ H':Heap,H' (nx+1+1+5)=some (.map ((frN h i).map .str) (frV h i))→lookA Tryz.prog H' 91 (.mp (nx+1+1+5)) (.str h[i].name) true=match (frN h i).findIdx? (· == h[i].name) with
   | some q=>((frV h i)[q]?).map fun v=>(.tup [v,.bool true]:CV)
   | none=>some (.tup [.int .i64 0,.bool false]):=fun H' hH'=>by
   rw [lookA_str ti_Msi ti_str rfl ti_int (ks:=frN h i) (vs:=frV h i) (by simp only [mapOf,hH']) h[i].name true];rfl
  have hth:=frT_there h i h[i].name;cases hq:(frN h i).findIdx? (· == h[i].name) with
  | some q =>
    obtain⟨u,hu⟩:=fr_val hq;simp only [hq,hu,Option.map_some] at hlk;have hy:frT h (i+1)=frT h i:=frT_yes hlt (by rw [← hth];show ((frN h i).findIdx? (· == h[i].name)).isSome=true;rw [hq];rfl);have e1:frN h (i+1)=frN h i:=by simp only [frN,hy]
    have e2:frV h (i+1)=frV h i:=by simp only [frV,hy]
    clear hq hu hth hy;refine gWf cvD.eq_1 ?_;exact⟨by ((repeat (first | exact Keeps.base _ _ _ _ | (with_reducible exact Keeps.refl _ _ _) | (refine Keeps.put rfl ?_) | (refine Keeps.over' rfl rfl ?_)))),hlt,(by first | (simp (disch:=omega) [putE,over,ofV,ofS, *];done) | (simp (disch:=omega) [putE,over,ofV,ofS, *];rfl)),by simp [upd, *],by simp [upd, *],by rw [e1,e2];simp [upd, *]⟩
  | none =>
    simp only [hq] at hlk;have hy:frT h (i+1)=frT h i++[(h[i].name,i)]:=frT_no hlt (by rw [← hth];show ((frN h i).findIdx? (· == h[i].name)).isSome=false;rw [hq];rfl);have e1:frN h (i+1)=frN h i++[h[i].name]:=by simp only [frN,hy,List.map_append,List.map_cons,List.map_nil]
    have e2:frV h (i+1)=frV h i++[.int .i64 i]:=by simp only [frV,hy,List.map_append,List.map_cons,List.map_nil]
    have hup:∀ H':Heap,H' (nx+1+1+5)=some (.map ((frN h i).map .str) (frV h i))→mupA Tryz.prog H' 91 (.mp (nx+1+1+5)) (.str h[i].name) (.int .i64 i)=some (.any,.set (nx+1+1+5) (.map ((frN h (i+1)).map .str) (frV h (i+1)))):=fun H' hH'=>by
     rw [mupA_str ti_Msi ti_str rfl hH' _ hq,e1,e2]
    clear hq hth hy e1 e2;refine gWf cvD.eq_1 ?_;exact⟨by ((repeat (first | exact Keeps.base _ _ _ _ | (with_reducible exact Keeps.refl _ _ _) | (refine Keeps.put rfl ?_) | (refine Keeps.over' rfl rfl ?_)))),hlt,(by first | (simp (disch:=omega) [putE,over,ofV,ofS, *];done) | (simp (disch:=omega) [putE,over,ofV,ofS, *];rfl)),by simp [upd, *],by simp [upd, *],by simp [upd, *]⟩
 ·have hi':i=h.length:=by omega
  subst hi';refine gW ?_
  (refine⟨_,(by simp [*];rfl),?_⟩;(try simp only [packA]))
  refine⟨nx+1+1+5,(frN h h.length).map .str,frV h h.length,.ret (cvTb h),by simp [hm],?_,rfl⟩;refine .ret (FM.aggs rfl fun j a b=>?_)
  match j,a with
  | 0,_=>exact .same _
  | 1,_=>exact .mp
/-! chains -/
def cvX (i:Nat):List CV:=[.int .i64 (i:Int)]
theorem cvX_len (i:Nat):(cvX i).length=1:=rfl
theorem cvX_one (i:Nat):(cvX i).all CV.one=true:=rfl
theorem puX (i:Nat):puL (cvX i)=true:=rfl
theorem RV.nil_tup2 {M:Mp}{d:CV}{v:Value}(h:RV M (.tup [.nils,d]) v):RV M (.tup [.lst [],d]) v:=by
 cases h with
 | tup cs vs hl hr =>
   refine .tup _ vs hl fun j a b=>?_
   have:=hr j (by simpa using a) b
   match j,a,b,this with
   | 0,_,_,this=>exact RV.nil_lst this
   | 1,_,_,this=>exact this
/-- A function that gives back an own list and a second value. -/
theorem FCall.ofBodyLB2 {P:Program}{G:Nat→CV}{f:FuncId}{fn:Func}{c:Code}{args:List CV}{n:Nat}{α:Type}{cv:α→List CV}{k:Nat}{l:List α}{d:CV}(hk:∀ a,(cv a).length=k)(hf:P.funcs[f]?=some fn)(hb:fn.body=some c)(hn:max args.length fn.ntmps=n)
  (h:∀ nx,AWp P G n c (argE args) Heap.no nx (BodyQ P fn fun r H' nx'=>∃ c,r=.ret (.tup [c,d])∧OwnL cv k H' nx' c l)):FCall P G f args fun r=>r=.ret (.tup [.lst (l.map cv),d]):=by
 refine FCall.of fun nx=>?_
 intro M w vs g r v;refine (ACall.of_body hf hb (hn▸h nx) M w vs g r v).mono ?_;rintro e w' ⟨M1,x,H1,n1,a1,a2,a3,c,rfl,ho⟩;have:∃ M',EndR M' (.ret (.tup [.lst (l.map cv),d])) e∧Rep M' Heap.no n1 w'∧Fr H1 M1 n1 w' Heap.no M' n1 w':=by
  rcases ho with⟨rfl,rfl⟩ | ⟨b,rfl,hb,_⟩
  ·cases e <;> simp only [EndR] at a1;exact⟨M1,RV.nil_tup2 a1,a2.weak (Sub.no _),Fr.weak (Sub.no _)⟩
  ·refine Fz.sound (.step (r1:=.ret (.tup [.lst (l.map cv),d])) b _ hb (.ret ?_) (.done _ _ _ (Sub.no _))) a2 a1;have:=FV.sl (b:=b) (cs:=l.flatMap cv) 0 l.length k (by rw [flatMap_len hk];omega);rw [OwnL.frozen hk] at this;refine .tup _ _ rfl fun j a b'=>?_
   match j,a with
   | 0,_=>exact this
   | 1,_=>exact .same _
 obtain⟨M2,b1,b2,b3⟩:=this;exact⟨M2,_,Heap.no,n1,b1,b2,a3.trans b3,rfl⟩
theorem int_mem (l:List Nat)(k:Nat):(l.map fun i:Nat=>(i:Int)).contains (k:Int)=l.contains k:=by
 induction l with
 | nil=>rfl
 | cons a l ih =>
   simp only [List.map_cons,List.contains_cons,ih]
   congr 1
   by_cases h:k=a
   ·subst h;simp
   ·have:¬ (k:Int)=(a:Int):=by omega
    simp [h,this]
theorem int_idx {l:List Nat}{k:Nat}(h:l.contains k=false):(l.map fun i:Nat=>(i:Int)).findIdx? (· == (k:Int))=none:=by
 rw [List.findIdx?_eq_none_iff];intro x hx;obtain⟨a,ha,rfl⟩:=List.mem_map.mp hx;have:a≠k:=fun e=>by
  subst e;have:l.contains a=true:=List.contains_iff_mem.mpr ha;rw [h] at this;cases this
 simp;omega
/-- The set of a list of numbers, as a map. -/
def setV (l:List Nat):CB:=.map ((l.map fun i:Nat=>(i:Int)).map (.int .i64)) (l.map fun _=>.bool true)
theorem look_set {H:Heap}{b:Nat}{l:List Nat}(hb:H b=some (setV l))(k:Nat):lookA Tryz.prog H 135 (.mp b) (.int .i64 (k:Int)) false=some (.bool (l.contains k)):=by
 rw [lookA_set ti_Mib ti_int rfl ti_bool rfl (l:=l.map fun i:Nat=>(i:Int)) (by simp only [mapOf,hb,setV,List.map_map];rfl) (k:Int),int_mem]
theorem up_set {H:Heap}{b:Nat}{l:List Nat}(hb:H b=some (setV l)){k:Nat}(hk:l.contains k=false):mupA Tryz.prog H 135 (.mp b) (.int .i64 (k:Int)) (.bool true)=some (.any,.set b (setV (l++[k]))):=by
 rw [mupA_int ti_Mib ti_int rfl hb (k:Int) (int_idx hk)];simp [setV]
end
section
open Lx Ax Go.RowKit
attribute [local simp] stepS Ax.stepT Dl.on qstep astep estep rd putE over argE ofV ofS loadA pickCells isAggD faddA fieldA partA iaddA idxA sliA bnd binA intA strA unA convA bltA lenA mapOf findK keyD scalD storeA appA srcA srcD upd drp Dl.hp Dl.nx CV.cs CV.one buildA placesA fillA zrep tasA ifaceD eqA eqFs eqIs range2 copyA nbeq nble nblt decEq beqI bneI beqS bneS isED Int.ofNat_inj List.getElem?_map List.getElem?_eq_getElem Option.map_some ti_int ti_bool ti_str ti_i64 ti_Cds ti_Cd ti_Tb ti_Hi ti_Msi ti_Mib ti_Ints gd gdB callA resA op1
attribute [local simp] nu1 nu2 nu3 nu4 nu5 nu6 nu7 nu8 nu9 nu10 nu11 nu12 nu13 upd_upd
set_option maxRecDepth 10000 in
set_option maxHeartbeats 4000000 in
theorem tk_chain (h:List Cd)(hl:h.length≤lim)(i0:Int)(hi0:i0<h.length):FCall1 Tryz.prog tkG 60 [cvTb h,.int .i64 i0] (.tup [.lst ((chainC h i0).1.map cvX),.bool (chainC h i0).2]):=by
 refine FCall.one tkG_pu (by simp [puL,puV,puTb]) (by simp [puL,puV,puRm puX]) ?_;refine FCall.ofBodyLB2 cvX_len Tryz.func60 rfl rfl fun nx=>?_
 have esc:∀ (e:Env) (H:Heap) (nx':Nat) (acc:List Nat) (i:Int),OwnL cvX 1 H nx' (e 4) acc→e 5=.bool (decide (0≤i))→chainC h i0=(acc,decide (0≤i))→∃ x,resA Tryz.prog H e (Tryz.f60).results.toList=some x∧∃ c,Res.ret (packA x)=.ret (.tup [c,.bool (chainC h i0).2])∧OwnL cvX 1 H nx' c (chainC h i0).1:=by
  intro e H nx' acc i ho hb h;exact⟨[e 4,.bool (decide (0≤i))],by simp [Tryz.results60,resA,hb],e 4,by rw [h];rfl,by rw [h];exact ho⟩
 refine gWf cvTb.eq_1 ?_;refine AWp.loopO (α:=List Nat×Int) (fun x e H nx1=>e 1=.int .i64 x.2∧x.2<h.length∧OwnL cvX 1 H nx1 (e 4) x.1∧H nx=some (.cells [.lst (h.map cvD),.fmp ((frN h h.length).map .str) (frV h h.length)])∧H (nx+1)=some (setV x.1)∧x.1.Nodup∧(∀ y∈x.1,y<h.length)∧nx+2≤nx1∧chainF h (h.length+1-x.1.length) x.1 x.2=chainC h i0) (fun x=>h.length+1-x.1.length) ([],i0) [1,4] 8 ?_ ?_
 ·exact⟨(by first | (simp (disch:=omega) [putE,over,ofV,ofS, *];done) | (simp (disch:=omega) [putE,over,ofV,ofS, *];rfl)),hi0,.inl ⟨rfl,(by first | (simp (disch:=omega) [putE,over,ofV,ofS, *];done) | (simp (disch:=omega) [putE,over,ofV,ofS, *];rfl))⟩,by simp [upd],by simp [upd,setV],List.nodup_nil,by simp,by omega,rfl⟩
 rintro⟨acc,i⟩ v H nx1 hn1 ⟨h1,hi,ho,hT,hS,hnd,hlt,hnx,hch⟩;simp only at h1 hi ho hS hnd hlt hch ⊢;have hal:=nodup_lt hnd hlt;have hfu:h.length+1-acc.length=(h.length-acc.length)+1:=by omega
 rw [hfu,chainF] at hch
 by_cases hneg:i<0
 ·have hge:¬ 0≤i:=by omega
  rw [if_pos hneg] at hch;obtain⟨x,hx⟩:∃ x,v 4=x:=⟨_,rfl⟩;rw [hx] at ho;refine gW ?_;refine esc _ _ _ acc i (by simpa [putE,over,hx] using ho) (by first | (simp (disch:=omega) [putE,over,ofV,ofS, *];done) | (simp (disch:=omega) [putE,over,ofV,ofS, *];rfl)) (by rw [← hch];simp [hge])
 ·rw [if_neg hneg] at hch;obtain⟨k,rfl⟩:∃ k:Nat,i=k:=⟨i.toNat,by omega⟩;have hk:k<h.length:=by omega
  have hlk:∀ H':Heap,H' (nx+1)=some (setV acc)→lookA Tryz.prog H' 135 (.mp (nx+1)) (.int .i64 (k:Int)) false=some (.bool (acc.contains k)):=fun H' hH'=>look_set hH' k
  rw [Int.toNat_natCast] at hch;obtain⟨x,hx⟩:∃ x,v 4=x:=⟨_,rfl⟩;rw [hx] at ho;cases hc:acc.contains k with
  | true =>
    rw [hc] at hlk;rw [hc,if_pos rfl] at hch;clear hneg;refine gW ?_;refine esc _ _ _ acc k (by simpa [putE,over,hx] using ho) (by first | (simp (disch:=omega) [putE,over,ofV,ofS, *];done) | (simp (disch:=omega) [putE,over,ofV,ofS, *];rfl)) (by rw [← hch];simp)
  | false =>
    rw [hc] at hlk;rw [hc,if_neg (by simp)] at hch;have hup:∀ H':Heap,H' (nx+1)=some (setV acc)→mupA Tryz.prog H' 135 (.mp (nx+1)) (.int .i64 (k:Int)) (.bool true)=some (.any,.set (nx+1) (setV (acc++[k]))):=fun H' hH'=>up_set hH' hc
    have q1:=far (show nx<nx1 by omega);have q2:=far (show nx+1<nx1 by omega);have hsep:∀ b',x=.sl b' 0 acc.length 1→nx+1≠b':=own_row ho hS (by simp [setV]);have hnd':(acc++[k]).Nodup:=by
     rw [List.nodup_append];exact⟨hnd,by simp,fun a ha b hb=>by
      simp only [List.mem_singleton] at hb;subst hb;exact fun e=>by subst e;rw [List.contains_iff_mem.mpr ha] at hc;cases hc⟩
    have hlt':∀ y∈acc++[k],y<h.length:=fun y hy=>by
     rcases List.mem_append.mp hy with hy | hy
     ·exact hlt y hy
     ·simp only [List.mem_singleton] at hy;subst hy;exact hk
    have hal':=nodup_lt hnd' hlt';simp only [List.length_append,List.length_cons,List.length_nil] at hal';have hll:acc.length+1<1000000000:=by simp only [lim] at hl;omega
    have hTne:∀ b',x=.sl b' 0 acc.length 1→nx≠b':=by
     refine own_row ho hT ?_;intro e;cases acc with
     | nil=>cases e
     | cons a l=>simp [cvX] at e
    clear hneg hc;refine gW ?_;have ho2:OwnL cvX 1 (upd (upd H (nx+1) (setV (acc++[k]))) nx1 (.cells [.int .i64 k])) (nx1+1) x acc:=((ho.updS hsep).upd (Nat.le_refl _)).up (Nat.le_succ _);refine AOpl.appR cvX_len cvX_one ti_Ints ti_int k ho2 (by omega) ?_;intro H2 hN hfr;have hT2:H2 nx=some (.cells [.lst (h.map cvD),.fmp ((frN h h.length).map .str) (frV h h.length)]):=by rw [hfr nx (by omega) hTne];simp [upd, *]
    have hS2:H2 (nx+1)=some (setV (acc++[k])):=by rw [hfr (nx+1) (by omega) hsep];simp [upd, *]
    clear hup hlk hT hS;refine gW ?_
    ((apply Xr);(focus rfl);(focus (first | rfl | (simp [cvTb, *];done)));(focus simp [cvTb, *,-Option.some.injEq];rfl);kernel_rfl)
    ·exact tk_super h k hk _
    refine gW ?_;refine⟨by ((repeat (first | exact Keeps.base _ _ _ _ | (with_reducible exact Keeps.refl _ _ _) | (refine Keeps.put rfl ?_) | (refine Keeps.over' rfl rfl ?_)))),(acc++[k],superI h k),?_,(by first | (simp (disch:=omega) [putE,over,ofV,ofS, *];done) | (simp (disch:=omega) [putE,over,ofV,ofS, *];rfl)),superI_lt h k,?_,hT2,hS2,hnd',hlt',by omega,?_⟩
    ·simp only [List.length_append,List.length_cons,List.length_nil];omega
    ·exact OwnL.isN hN (by omega) _ (by simp)
    ·rw [← hch];congr 1;simp only [List.length_append,List.length_cons,List.length_nil];omega
set_option maxRecDepth 10000 in
set_option maxHeartbeats 4000000 in
theorem tk_named (h:List Cd)(hl:h.length≤lim)(s:Bytes):FCall1 Tryz.prog tkG 75 [cvTb h,.str s] (.lst ((namedC h s).map cvX)):=by
 refine FCall.one tkG_pu (by simp [puL,puV,puTb]) (by simp [puL,puV,puRm puX]) ?_;refine FCall.ofBody Tryz.func75 rfl rfl fun nx=>?_
 refine gWf cvTb.eq_1 ?_
 (first | (first | (apply AOpl.callN;rfl) | apply ASl.call);(focus simp [cvTb, *,-Option.some.injEq];rfl);kernel_rfl | (first | (apply AOpl.callNG;rfl) | apply ASl.callg);(focus simp [cvTb, *];done);(focus simp [cvTb, *,-Option.some.injEq];rfl);kernel_rfl)
 ·exact tk_find h s
 refine gW ?_
 (first | (first | (apply AOpl.callN;rfl) | apply ASl.call);(focus simp [cvTb, *,-Option.some.injEq];rfl);kernel_rfl | (first | (apply AOpl.callNG;rfl) | apply ASl.callg);(focus simp [cvTb, *];done);(focus simp [cvTb, *,-Option.some.injEq];rfl);kernel_rfl)
 ·exact tk_chain h hl (findI h s) (findI_lt h s)
 refine gW ?_
 (refine⟨_,(by simp [*];rfl),?_⟩;(try simp only [packA]))
 all_goals rfl
end
section
open Lx Ax Go.RowKit
attribute [local simp] stepS Ax.stepT Dl.on qstep astep estep rd putE over argE ofV ofS loadA pickCells isAggD faddA fieldA partA iaddA idxA sliA bnd binA intA strA unA convA bltA lenA mapOf lookA findK keyD scalD storeA mupA appA srcA srcD upd drp Dl.hp Dl.nx CV.cs CV.one buildA placesA fillA zrep tasA ifaceD eqA eqFs eqIs range2 copyA nbeq nble nblt decEq beqI bneI beqS bneS isED Int.ofNat_inj List.getElem?_map List.getElem?_eq_getElem Option.map_some ti_int ti_bool ti_str ti_i64 ti_Strs ti_Cds ti_Cd ti_Flds ti_Fld ti_Sgs ti_Sg gd gdB callA resA op1
attribute [local simp] nu1 nu2 nu3 nu4 nu5 nu6 nu7 nu8 nu9 nu10 nu11 nu12 nu13 upd_upd
set_option maxRecDepth 10000 in
set_option maxHeartbeats 4000000 in
theorem clone_N (l:List Bytes)(hl:l.length≤lim):FCall1 Tryz.prog tkG 78 [.lst (l.map cvN)] (.lst (l.map cvN)):=by
 refine FCall.one tkG_pu (by simp [puL,puV,puRm puN]) (by simp [puL,puV,puRm puN]) ?_;refine FCall.ofBodyL cvN_len Tryz.func78 rfl rfl fun nx=>?_
 have hn:l.length<1000000000:=by simp only [lim] at hl;omega
 cases l with
 | nil =>
   refine gW ?_;refine AOpl.nilU ti_Strs (by simp) ?_;intro b;cases b with
   | true =>
     refine gW ?_
     (refine⟨_,(by simp [*];rfl),?_⟩;(try simp only [packA]))
     exact⟨_,rfl,.inl ⟨rfl,rfl⟩⟩
   | false =>
     refine gW ?_
     (refine⟨_,(by simp [*];rfl),?_⟩;(try simp only [packA]))
     exact⟨_,rfl,.inr ⟨_,rfl,by simp [upd],by omega⟩⟩
 | cons a l =>
   refine gW ?_;refine AOpl.appLst (k:=1) (cv:=cvN) (l:=[]) (l2:=a::l) ti_Strs ti_str rfl rfl (by decide) (by simp) cvN_len cvN_one rfl rfl (by first | (simp [*];done) | (simp [*];rfl)) (by first | (simp [*];done) | (simp [*];rfl)) (.inr ⟨nx,rfl,by simp [upd],by omega⟩) (by simpa using hn) ?_;intro c' H' nx' ho _ _;refine gW ?_
   (refine⟨_,(by simp [*];rfl),?_⟩;(try simp only [packA]))
   exact⟨_,rfl,by simpa using ho⟩
set_option maxRecDepth 10000 in
set_option maxHeartbeats 4000000 in
theorem clone_F (l:List Fld)(hl:l.length≤lim):FCall1 Tryz.prog tkG 22 [.lst (l.map cvF)] (.lst (l.map cvF)):=by
 refine FCall.one tkG_pu (by simp [puL,puV,puRm puF]) (by simp [puL,puV,puRm puF]) ?_;refine FCall.ofBodyL cvF_len Tryz.func22 rfl rfl fun nx=>?_
 have hn:l.length<1000000000:=by simp only [lim] at hl;omega
 cases l with
 | nil =>
   refine gW ?_;refine AOpl.nilU ti_Flds (by simp) ?_;intro b;cases b with
   | true =>
     refine gW ?_
     (refine⟨_,(by simp [*];rfl),?_⟩;(try simp only [packA]))
     exact⟨_,rfl,.inl ⟨rfl,rfl⟩⟩
   | false =>
     refine gW ?_
     (refine⟨_,(by simp [*];rfl),?_⟩;(try simp only [packA]))
     exact⟨_,rfl,.inr ⟨_,rfl,by simp [upd],by omega⟩⟩
 | cons a l =>
   refine gW ?_;refine AOpl.appLst (k:=2) (cv:=cvF) (l:=[]) (l2:=a::l) ti_Flds ti_Fld rfl rfl (by decide) (by simp) cvF_len cvF_one rfl rfl (by first | (simp [*];done) | (simp [*];rfl)) (by first | (simp [*];done) | (simp [*];rfl)) (.inr ⟨nx,rfl,by simp [upd],by omega⟩) (by simpa using hn) ?_;intro c' H' nx' ho _ _;refine gW ?_
   (refine⟨_,(by simp [*];rfl),?_⟩;(try simp only [packA]))
   exact⟨_,rfl,by simpa using ho⟩
set_option maxRecDepth 10000 in
set_option maxHeartbeats 4000000 in
theorem index_N (s:Bytes)(l:List Bytes)(hl:l.length≤lim):FCall1 Tryz.prog tkG 119 [.lst (l.map cvN),.str s] (.int .i64 (ofN (l.findIdx? fun c=>c == s))):=by
 refine FCall.one tkG_pu (by simp [puL,puV,puRm puN]) rfl ?_;refine FCall.ofBody Tryz.func119 rfl rfl fun nx=>?_
 refine gW ?_;refine AWp.countO l.length [4,5,8] 9 (fun i e H1 _=>e 8=.int .i64 i∧(l.take i).any (fun c=>c == s)=false) ⟨(by first | (simp (disch:=omega) [putE,over,ofV,ofS, *];done) | (simp (disch:=omega) [putE,over,ofV,ofS, *];rfl)),rfl⟩ ?_;rintro i v H1 nx1 hi hn1 ⟨h8,ha⟩;refine gW ?_
 (((apply AWp.cond');(focus (simp [*,-Ax.CV.bool.injEq];rfl))) <;> (intro hb) <;> (try simp only [decide_eq_true_eq,decide_eq_false_iff_not,Bool.not_eq_true',Bool.not_eq_false',Bool.not_eq_true,Bool.not_eq_false] at hb))
 ·have hlt:i<l.length:=hb;have hwi:=lim_wrap hlt hl;clear hb;cases hc:(l[i] == s) with
  | true =>
    have hf2:=idx_hit hlt ha hc;have hc':l[i]=s:=by simpa using hc
    clear hc ha;refine gWf cvN.eq_1 ?_
    (refine⟨_,(by simp [*];rfl),?_⟩;(try simp only [packA]))
    all_goals (first | (rw [hf2];done) | (rw [hf2];rfl))
  | false =>
    have ha2:=any_next hlt ha hc;have hc':¬ s=l[i]:=by
     intro e;rw [e] at hc;simp at hc
    clear hc ha;refine gWf cvN.eq_1 ?_;exact⟨by ((repeat (first | exact Keeps.base _ _ _ _ | (with_reducible exact Keeps.refl _ _ _) | (refine Keeps.put rfl ?_) | (refine Keeps.over' rfl rfl ?_)))),hlt,(by first | (simp (disch:=omega) [putE,over,ofV,ofS, *];done) | (simp (disch:=omega) [putE,over,ofV,ofS, *];rfl)),ha2⟩
 ·have hi':i=l.length:=by omega
  rw [hi',List.take_length] at ha;have hf2:=idx_no ha;clear ha hb;refine gW ?_
  (refine⟨_,(by simp [*];rfl),?_⟩;(try simp only [packA]))
  all_goals (first | (rw [hf2];done) | (rw [hf2];rfl))
theorem contains_ix (l:List Bytes)(s:Bytes):decide (0≤ofN (l.findIdx? fun c=>c == s))=l.contains s:=by
 cases h:l.findIdx? (fun c=>c == s) with
 | none =>
   have:l.contains s=false:=by
    cases hc:l.contains s with
    | false=>rfl
    | true =>
      rw [List.findIdx?_eq_none_iff] at h;have:=h s (List.contains_iff_mem.mp hc);simp at this
   rw [this];rfl
 | some i =>
   obtain⟨h1,h2,_⟩:=List.findIdx?_eq_some_iff_getElem.mp h;have:l.contains s=true:=by
    rw [List.contains_iff_mem];have:l[i]=s:=by simpa using h2
    rw [← this];exact List.getElem_mem h1
   rw [this];simp [ofN]
set_option maxRecDepth 10000 in
set_option maxHeartbeats 4000000 in
theorem contains_N (s:Bytes)(l:List Bytes)(hl:l.length≤lim):FCall1 Tryz.prog tkG 112 [.lst (l.map cvN),.str s] (.bool (l.contains s)):=by
 refine FCall.one tkG_pu (by simp [puL,puV,puRm puN]) rfl ?_;refine FCall.ofBody Tryz.func112 rfl rfl fun nx=>?_
 obtain⟨w,hw⟩:∃ w,w=ofN (l.findIdx? fun c=>c == s):=⟨_,rfl⟩;have hx:=index_N s l hl;rw [← contains_ix,← hw];rw [← hw] at hx;refine gW ?_
 ((apply Xr);(focus rfl);(focus (first | rfl | (simp [*];done)));(focus simp [*,-Option.some.injEq];rfl);kernel_rfl)
 ·exact hx _
 refine gW ?_
 (refine⟨_,(by simp [*];rfl),?_⟩;(try simp only [packA]))
 all_goals (rw [hw];simp only [beqS])
set_option maxRecDepth 10000 in
set_option maxHeartbeats 4000000 in
theorem equal_N (l m:List Bytes)(hl:l.length≤lim):FCall1 Tryz.prog tkG 101 [.lst (l.map cvN),.lst (m.map cvN)] (.bool (l == m)):=by
 refine FCall.one tkG_pu (by simp [puL,puV,puRm puN]) rfl ?_;refine FCall.ofBody Tryz.func101 rfl rfl fun nx=>?_
 by_cases h1:l.length=m.length
 case neg =>
  have hne:(l == m)=false:=by
   cases hc:(l == m) with
   | false=>rfl
   | true=>exact absurd (by rw [show l=m by simpa using hc]) h1
  rw [hne];refine gW ?_
  (refine⟨_,(by simp [*];rfl),?_⟩;(try simp only [packA]))
 refine gW ?_;refine AWp.countO l.length [4,5,13] 14 (fun i e H1 _=>e 13=.int .i64 i∧l.take i=m.take i) ⟨(by first | (simp (disch:=omega) [putE,over,ofV,ofS, *];done) | (simp (disch:=omega) [putE,over,ofV,ofS, *];rfl)),rfl⟩ ?_;rintro i v H1 nx1 hi hn1 ⟨h8,ha⟩;refine gW ?_
 (((apply AWp.cond');(focus (simp [*,-Ax.CV.bool.injEq];rfl))) <;> (intro hb) <;> (try simp only [decide_eq_true_eq,decide_eq_false_iff_not,Bool.not_eq_true',Bool.not_eq_false',Bool.not_eq_true,Bool.not_eq_false] at hb))
 ·have hlt:i<l.length:=by omega
  have hlt':i<m.length:=by omega
  have hwi:=lim_wrap hlt hl;clear hb
  by_cases hc:l[i]=m[i]
  ·have ha2:l.take (i+1)=m.take (i+1):=by rw [List.take_succ_eq_append_getElem hlt,List.take_succ_eq_append_getElem hlt',ha,hc]
   clear ha;refine gWf cvN.eq_1 ?_;exact⟨by ((repeat (first | exact Keeps.base _ _ _ _ | (with_reducible exact Keeps.refl _ _ _) | (refine Keeps.put rfl ?_) | (refine Keeps.over' rfl rfl ?_)))),hlt,(by first | (simp (disch:=omega) [putE,over,ofV,ofS, *];done) | (simp (disch:=omega) [putE,over,ofV,ofS, *];rfl)),ha2⟩
  ·have hne:(l == m)=false:=by
    cases hd:(l == m) with
    | false=>rfl
    | true =>
      have e:l=m:=by simpa using hd
      subst e;exact absurd rfl hc
   rw [hne];clear ha hne;refine gWf cvN.eq_1 ?_
   (refine⟨_,(by simp [*];rfl),?_⟩;(try simp only [packA]))
 ·have hi':i=l.length:=by omega
  have e:l=m:=by
   rw [hi',List.take_length,h1,List.take_length] at ha;exact ha
  have he:(l == m)=true:=by rw [e];simp
  rw [he];clear ha hb he;refine gW ?_
  (refine⟨_,(by simp [*];rfl),?_⟩;(try simp only [packA]))
set_option maxRecDepth 10000 in
set_option maxHeartbeats 4000000 in
theorem tk_fieldIn (c:Cd)(hl:c.fields.length≤lim)(s:Bytes):FCall1 Tryz.prog tkG 76 [.agg (cvD c),.str s] (.int .i64 (ofN (fieldN c s))):=by
 refine FCall.one tkG_pu (by simp [puL,puV,puD]) rfl ?_;refine FCall.ofBody Tryz.func76 rfl rfl fun nx=>?_
 have hx:=ix_F s c.fields hl;have hd:(c.fields.findIdx? fun c=>c.name == s)=fieldN c s:=rfl;rw [hd] at hx;refine gWf cvD.eq_1 ?_
 ((apply Xr);(focus rfl);(focus (first | rfl | (simp [*];done)));(focus simp [*,-Option.some.injEq];rfl);kernel_rfl)
 ·exact FCall1.lend tkG_pu hx (by simp [puL,puV,puRm puF])
 refine gW ?_
 (refine⟨_,(by simp [*];rfl),?_⟩;(try simp only [packA]))
set_option maxRecDepth 10000 in
set_option maxHeartbeats 4000000 in
theorem tk_methodIn (c:Cd)(hl:c.methods.length≤lim)(s:Bytes):FCall1 Tryz.prog tkG 85 [.agg (cvD c),.str s] (.int .i64 (ofN (methN c s))):=by
 refine FCall.one tkG_pu (by simp [puL,puV,puD]) rfl ?_;refine FCall.ofBody Tryz.func85 rfl rfl fun nx=>?_
 have hx:=ix_M s c.methods hl;have hd:(c.methods.findIdx? fun c=>c.name == s)=methN c s:=rfl;rw [hd] at hx;refine gWf cvD.eq_1 ?_
 ((apply Xr);(focus rfl);(focus (first | rfl | (simp [*];done)));(focus simp [*,-Option.some.injEq];rfl);kernel_rfl)
 ·exact FCall1.lend tkG_pu hx (by simp [puL,puV,puRm puG])
 refine gW ?_
 (refine⟨_,(by simp [*];rfl),?_⟩;(try simp only [packA]))
end
section
open Lx Ax Go.RowKit
attribute [local simp] stepS Ax.stepT Dl.on qstep astep estep rd putE over argE ofV ofS loadA pickCells isAggD faddA fieldA partA iaddA idxA sliA bnd binA intA strA unA convA bltA lenA mapOf findK keyD scalD storeA appA srcA srcD upd drp Dl.hp Dl.nx CV.cs CV.one buildA placesA fillA zrep tasA ifaceD eqA eqFs eqIs range2 copyA nbeq nble nblt decEq beqI bneI beqS bneS isED Int.ofNat_inj List.getElem?_map List.getElem?_eq_getElem Option.map_some ti_int ti_bool ti_str ti_i64 ti_Strs ti_Cds ti_Cd ti_Flds ti_Fld ti_Sgs ti_Sg ti_Tb ti_Hi ti_Ints gd gdB callA resA op1
attribute [local simp] nu1 nu2 nu3 nu4 nu5 nu6 nu7 nu8 nu9 nu10 nu11 nu12 nu13 upd_upd
/-- The lists of a hierarchy fit. -/
structure HB (h:List Cd):Prop where
 len:h.length≤lim
 fl:∀ c∈h,c.fields.length≤lim
 ml:∀ c∈h,c.methods.length≤lim
 pl:∀ c∈h,∀ m∈c.methods,m.params.length≤lim
 cn:∀ c∈h,c.name.length≤maxLen
 fn:∀ c∈h,∀ f∈c.fields,f.name.length≤maxLen
 mn:∀ c∈h,∀ m∈c.methods,m.name.length≤maxLen
theorem named_mem {h:List Cd}{s:Bytes}{i:Nat}(hi:i∈namedC h s):i<h.length:=chainC_mem h (findI_lt h s) i hi
theorem lim_len {n:Nat}(h:n≤lim+1):n<1000000000:=by simp only [lim] at h;omega
theorem lim_wrap1 {i n:Nat}(h:i<n)(hn:n≤lim+1):IntKind.i64.wrap ((i:Int)+1)=((i+1:Nat):Int):=by
 rw [IntKind.wrap_i64];simp only [lim] at hn;omega
theorem named_len {h:List Cd}(hl:h.length≤lim)(s:Bytes):(namedC h s).length≤lim+1:=by
 have:=chainC_len h (findI h s)
 show (chainC h (findI h s)).1.length≤lim+1
 omega
theorem take_snoc {α:Type}{l:List α}{i:Nat}(h:i<l.length):l.take (i+1)=l.take i++[l[i]]:=List.take_succ_eq_append_getElem h
set_option maxRecDepth 10000 in
set_option maxHeartbeats 4000000 in
theorem tk_Supers (h:List Cd)(hl:h.length≤lim)(s:Bytes):FCall1 Tryz.prog tkG 113 [cvH h,.str s] (.lst ((supersF h s).map cvN)):=by
 refine FCall.one tkG_pu (by simp [puL,puV,puH]) (by simp [puL,puV,puRm puN]) ?_;refine FCall.ofBodyL cvN_len Tryz.func113 rfl rfl fun nx=>?_
 obtain⟨L,hL⟩:∃ L,L=namedC h s:=⟨_,rfl⟩;have hLl:L.length≤lim+1:=by rw [hL];exact named_len hl s
 have hLm:∀ i∈L,i<h.length:=fun i hi=>named_mem (by rw [← hL];exact hi)
 obtain⟨R,hR⟩:∃ R,R=supersF h s:=⟨_,rfl⟩;have hRl:R.length=L.length:=by rw [hR,hL];simp [supersF]
 have hRg:∀ i (hi:i<L.length),R[i]'(by omega)=(h[L[i]]'(hLm _ (List.getElem_mem hi))).name:=by
  intro i hi;have hq:=hLm _ (List.getElem_mem hi);subst hL;simp [hR,supersF,hq]
 rw [← hR];have hn:=tk_named h hl s;rw [← hL] at hn;clear hR hL;refine gWf cvH.eq_1 ?_
 ((apply Xr);(focus rfl);(focus (first | rfl | (simp [cvH, *];done)));(focus simp [cvH, *,-Option.some.injEq];rfl);kernel_rfl)
 ·exact tk_tableOf h hl _
 refine gWf cvTb.eq_1 ?_
 ((apply Xr);(focus rfl);(focus (first | rfl | (simp [cvTb, *];done)));(focus simp [cvTb, *,-Option.some.injEq];rfl);kernel_rfl)
 ·exact hn _
 refine gW ?_;clear hn;refine AWp.countO L.length [6,8,15] 16 (fun i e H1 nx1=>e 15=.int .i64 i∧OwnL cvN 1 H1 nx1 (e 6) (R.take i)∧H1 (nx+1)=some (.cells [.lst (h.map cvD),.fmp ((frN h h.length).map .str) (frV h h.length)])) ⟨(by first | (simp (disch:=omega) [putE,over,ofV,ofS, *];done) | (simp (disch:=omega) [putE,over,ofV,ofS, *];rfl)),.inl ⟨rfl,(by first | (simp (disch:=omega) [putE,over,ofV,ofS, *];done) | (simp (disch:=omega) [putE,over,ofV,ofS, *];rfl))⟩,by simp [upd]⟩ ?_;rintro i v H1 nx1 hi hn1 ⟨h15,ho,hT⟩;obtain⟨x,hx⟩:∃ x,v 6=x:=⟨_,rfl⟩;rw [hx] at ho;refine gW ?_
 (((apply AWp.cond');(focus (simp [*,-Ax.CV.bool.injEq];rfl))) <;> (intro hb) <;> (try simp only [decide_eq_true_eq,decide_eq_false_iff_not,Bool.not_eq_true',Bool.not_eq_false',Bool.not_eq_true,Bool.not_eq_false] at hb))
 ·have hlt:i<L.length:=hb;have hwi:=lim_wrap1 hlt hLl;have hq:=hLm _ (List.getElem_mem hlt);have hg:=hRg i hlt;have q1:=far (show nx+1<nx1 by omega);have hTne:∀ b',x=.sl b' 0 (R.take i).length 1→nx+1≠b':=own_row ho hT (by
   intro e;cases hc:R.take i with
   | nil=>rw [hc] at e;cases e
   | cons a l=>rw [hc] at e;simp [cvN] at e)
  have hli:=lim_len hLl;clear hb;refine gWf (And.intro cvX.eq_1 cvD.eq_1) ?_;have ho2:OwnL cvN 1 (upd H1 (nx1) (.cells [.str h[L[i]].name])) (nx1+1) x (R.take i):=(ho.upd (Nat.le_refl _)).up (Nat.le_succ _);refine AOpl.appR cvN_len cvN_one ti_Strs ti_str h[L[i]].name ho2 (by rw [List.length_take];omega) ?_;intro H2 hN hfr;have hT2:H2 (nx+1)=some (.cells [.lst (h.map cvD),.fmp ((frN h h.length).map .str) (frV h h.length)]):=by rw [hfr (nx+1) (by omega) hTne];simp [upd, *]
  refine gW ?_;exact⟨by ((repeat (first | exact Keeps.base _ _ _ _ | (with_reducible exact Keeps.refl _ _ _) | (refine Keeps.put rfl ?_) | (refine Keeps.over' rfl rfl ?_)))),hlt,(by first | (simp (disch:=omega) [putE,over,ofV,ofS, *];done) | (simp (disch:=omega) [putE,over,ofV,ofS, *];rfl)),by
   have e:=take_snoc (l:=R) (i:=i) (by omega);rw [hg] at e;rw [e];simp only [putE,over];exact OwnL.isN hN (by omega) _ (by simp;omega),hT2⟩
 ·have hi':i=L.length:=by omega
  rw [hi',← hRl,List.take_length] at ho;refine gW ?_
  (refine⟨_,(by simp [*];rfl),?_⟩;(try simp only [packA]))
  exact⟨_,rfl,ho⟩
set_option maxRecDepth 10000 in
set_option maxHeartbeats 4000000 in
theorem tk_IsSub (h:List Cd)(hl:h.length+1≤lim)(a b:Bytes):FCall1 Tryz.prog tkG 107 [cvH h,.str a,.str b] (.bool (subF h a b)):=by
 refine FCall.one tkG_pu (by simp [puL,puV,puH]) rfl ?_;refine FCall.ofBody Tryz.func107 rfl rfl fun nx=>?_
 have h1:=tk_Supers h (by omega) a;have h2:(supersF h a).length≤lim:=by
  have:=chainC_len h (findI h a);have e:(supersF h a).length=(chainC h (findI h a)).1.length:=by simp [supersF,namedC]
  omega
 have h3:=contains_N b (supersF h a) h2;have hd:(supersF h a).contains b=subF h a b:=rfl;rw [hd] at h3;refine gWf cvH.eq_1 ?_
 ((apply Xr);(focus rfl);(focus (first | rfl | (simp [cvH, *];done)));(focus simp [cvH, *,-Option.some.injEq];rfl);kernel_rfl)
 ·exact h1 _
 refine gW ?_
 ((apply Xr);(focus rfl);(focus (first | rfl | (simp [*];done)));(focus simp [*,-Option.some.injEq];rfl);kernel_rfl)
 ·exact h3 _
 refine gW ?_
 (refine⟨_,(by simp [*];rfl),?_⟩;(try simp only [packA]))
def tupF:Option (Bytes×Bytes)→CV
 | none=>.tup [.str [],.str [],.bool false]
 | some (c,t)=>.tup [.str c,.str t,.bool true]
set_option maxRecDepth 10000 in
set_option maxHeartbeats 4000000 in
theorem tk_Field (h:List Cd)(hB:HB h)(s f:Bytes):FCall1 Tryz.prog tkG 51 [cvH h,.str s,.str f] (tupF (fieldF h s f)):=by
 refine FCall.one tkG_pu (by simp [puL,puV,puH]) (by unfold tupF;split <;> rfl) ?_;refine FCall.ofBody Tryz.func51 rfl rfl fun nx=>?_
 have hl:=hB.len;have hn:=tk_named h hl s;have hLl:=named_len hl s;have hLm:∀ i∈namedC h s,i<h.length:=fun i hi=>named_mem hi
 obtain⟨w,hw⟩:∃ w,fieldF h s f=w:=⟨_,rfl⟩;rw [hw];unfold fieldF at hw;generalize namedC h s=L at *;refine gWf cvH.eq_1 ?_
 ((apply Xr);(focus rfl);(focus (first | rfl | (simp [cvH, *];done)));(focus simp [cvH, *,-Option.some.injEq];rfl);kernel_rfl)
 ·exact tk_tableOf h hl _
 refine gWf cvTb.eq_1 ?_
 ((apply Xr);(focus rfl);(focus (first | rfl | (simp [cvTb, *];done)));(focus simp [cvTb, *,-Option.some.injEq];rfl);kernel_rfl)
 ·exact hn _
 refine gW ?_;clear hn;refine AWp.countO L.length [6,7,8,11,12,13,20] 21 (fun i e H1 nx1=>e 20=.int .i64 i∧H1 (nx+1)=some (.cells [.lst (h.map cvD),.fmp ((frN h h.length).map .str) (frV h h.length)])∧fieldW h f (L.drop i)=w) ⟨(by first | (simp (disch:=omega) [putE,over,ofV,ofS, *];done) | (simp (disch:=omega) [putE,over,ofV,ofS, *];rfl)),by simp [upd],hw⟩ ?_;rintro i v H1 nx1 hi hn1 ⟨h20,hT,hf⟩;clear hw;have q1:=far (show nx+1<nx1 by omega);refine gW ?_
 (((apply AWp.cond');(focus (simp [*,-Ax.CV.bool.injEq];rfl))) <;> (intro hb) <;> (try simp only [decide_eq_true_eq,decide_eq_false_iff_not,Bool.not_eq_true',Bool.not_eq_false',Bool.not_eq_true,Bool.not_eq_false] at hb))
 ·have hlt:i<L.length:=hb;have hwi:=lim_wrap1 hlt hLl;have hq:=hLm _ (List.getElem_mem hlt);have hfl:=hB.fl _ (List.getElem_mem hq);rw [List.drop_eq_getElem_cons hlt,fieldW,List.getElem?_eq_getElem hq] at hf;simp only at hf;clear hb;have hx:=tk_fieldIn h[L[i]] hfl f;refine gWf (And.intro cvX.eq_1 cvD.eq_1) ?_
  ((apply Xr);(focus rfl);(focus (first | rfl | (simp [cvD, *];done)));(focus simp [cvD, *,-Option.some.injEq];rfl);kernel_rfl)
  ·exact hx _
  clear hx;cases hk:fieldN h[L[i]] f with
  | some k =>
    have hkl:k<h[L[i]].fields.length:=(List.findIdx?_eq_some_iff_getElem.mp hk).1;have e1:ofN (some k)=(k:Int):=rfl;rw [hk] at hf;simp only [List.getElem?_eq_getElem hkl,Option.map_some,Option.getD_some] at hf;rw [← hf,e1];clear hf hk;refine gWf (And.intro cvD.eq_1 cvF.eq_1) ?_
    (refine⟨_,(by simp [*];rfl),?_⟩;(try simp only [packA]))
    all_goals rfl
  | none =>
    have e1:ofN none=-1:=rfl;rw [hk] at hf;simp only at hf;rw [e1];clear hk;refine gW ?_;exact⟨by ((repeat (first | exact Keeps.base _ _ _ _ | (with_reducible exact Keeps.refl _ _ _) | (refine Keeps.put rfl ?_) | (refine Keeps.over' rfl rfl ?_)))),hlt,(by first | (simp (disch:=omega) [putE,over,ofV,ofS, *];done) | (simp (disch:=omega) [putE,over,ofV,ofS, *];rfl)),by simp [upd, *],hf⟩
 ·have hi':L.length≤i:=by omega
  rw [List.drop_eq_nil_of_le hi',fieldW] at hf;rw [← hf];refine gW ?_
  (refine⟨_,(by simp [*];rfl),?_⟩;(try simp only [packA]))
  all_goals rfl
end
section
open Lx Ax Go.RowKit
attribute [local simp] stepS Ax.stepT Dl.on qstep astep estep rd putE over argE ofV ofS loadA pickCells isAggD faddA fieldA partA iaddA idxA sliA bnd binA intA strA unA convA bltA lenA mapOf findK keyD scalD storeA appA srcA srcD upd drp Dl.hp Dl.nx CV.cs CV.one buildA placesA fillA zrep tasA ifaceD eqA eqFs eqIs range2 copyA nbeq nble nblt decEq beqI bneI beqS bneS isED Int.ofNat_inj List.getElem?_map List.getElem?_eq_getElem Option.map_some ti_int ti_bool ti_str ti_i64 ti_Strs ti_Cds ti_Cd ti_Flds ti_Fld ti_Sgs ti_Sg ti_Tb ti_Hi ti_Ints gd gdB callA resA op1
attribute [local simp] nu1 nu2 nu3 nu4 nu5 nu6 nu7 nu8 nu9 nu10 nu11 nu12 nu13 upd_upd
def tupL:Option (Nat×Nat)→CV
 | none=>.tup [.int .i64 (-1),.int .i64 (-1)]
 | some (j,k)=>.tup [.int .i64 (j:Int),.int .i64 (k:Int)]
set_option maxRecDepth 10000 in
set_option maxHeartbeats 4000000 in
theorem tk_lookup (h:List Cd)(hB:HB h)(i0:Int)(hi0:i0<h.length)(m:Bytes):FCall1 Tryz.prog tkG 77 [cvTb h,.int .i64 i0,.str m] (tupL (lookN h i0 m)):=by
 refine FCall.one tkG_pu (by simp [puL,puV,puTb]) (by unfold tupL;split <;> rfl) ?_;refine FCall.ofBody Tryz.func77 rfl rfl fun nx=>?_
 have hl:=hB.len;have hn:=tk_chain h hl i0 hi0;have hLl:(chainC h i0).1.length≤lim+1:=by have:=chainC_len h i0;omega
 have hLm:∀ i∈(chainC h i0).1,i<h.length:=chainC_mem h hi0;obtain⟨w,hw⟩:∃ w,lookN h i0 m=w:=⟨_,rfl⟩;rw [hw];unfold lookN at hw;generalize (chainC h i0).1=L at *;generalize (chainC h i0).2=cy at *;refine gWf cvTb.eq_1 ?_
 ((apply Xr);(focus rfl);(focus (first | rfl | (simp [cvTb, *];done)));(focus simp [cvTb, *,-Option.some.injEq];rfl);kernel_rfl)
 ·exact hn _
 refine gW ?_;clear hn;refine AWp.countO L.length [6,7,11,12,21] 22 (fun i e H1 nx1=>e 21=.int .i64 i∧H1 nx=some (.cells [.lst (h.map cvD),.fmp ((frN h h.length).map .str) (frV h h.length)])∧lookW h m (L.drop i)=w) ⟨(by first | (simp (disch:=omega) [putE,over,ofV,ofS, *];done) | (simp (disch:=omega) [putE,over,ofV,ofS, *];rfl)),by simp [upd],hw⟩ ?_;rintro i v H1 nx1 hi hn1 ⟨h21,hT,hf⟩;clear hw;have q1:=far (show nx<nx1 by omega);refine gW ?_
 (((apply AWp.cond');(focus (simp [*,-Ax.CV.bool.injEq];rfl))) <;> (intro hb) <;> (try simp only [decide_eq_true_eq,decide_eq_false_iff_not,Bool.not_eq_true',Bool.not_eq_false',Bool.not_eq_true,Bool.not_eq_false] at hb))
 ·have hlt:i<L.length:=hb;have hwi:=lim_wrap1 hlt hLl;have hq:=hLm _ (List.getElem_mem hlt);have hml:=hB.ml _ (List.getElem_mem hq);rw [List.drop_eq_getElem_cons hlt,lookW,List.getElem?_eq_getElem hq] at hf;simp only at hf;clear hb;have hx:=tk_methodIn h[L[i]] hml m;refine gWf (And.intro cvX.eq_1 cvD.eq_1) ?_
  ((apply Xr);(focus rfl);(focus (first | rfl | (simp [cvD, *];done)));(focus simp [cvD, *,-Option.some.injEq];rfl);kernel_rfl)
  ·exact hx _
  clear hx;cases hk:methN h[L[i]] m with
  | some k =>
    have e1:ofN (some k)=(k:Int):=rfl;rw [hk] at hf;simp only at hf;rw [← hf,e1];clear hf hk;refine gWf (And.intro cvD.eq_1 cvG.eq_1) ?_
    (refine⟨_,(by simp [*];rfl),?_⟩;(try simp only [packA]))
    all_goals rfl
  | none =>
    have e1:ofN none=-1:=rfl;rw [hk] at hf;simp only at hf;rw [e1];clear hk;refine gW ?_;exact⟨by ((repeat (first | exact Keeps.base _ _ _ _ | (with_reducible exact Keeps.refl _ _ _) | (refine Keeps.put rfl ?_) | (refine Keeps.over' rfl rfl ?_)))),hlt,(by first | (simp (disch:=omega) [putE,over,ofV,ofS, *];done) | (simp (disch:=omega) [putE,over,ofV,ofS, *];rfl)),by simp [upd, *],hf⟩
 ·have hi':L.length≤i:=by omega
  rw [List.drop_eq_nil_of_le hi',lookW] at hf;rw [← hf];refine gW ?_
  (refine⟨_,(by simp [*];rfl),?_⟩;(try simp only [packA]))
  all_goals rfl
theorem lookW_some {h:List Cd}{m:Bytes}{j k:Nat}:∀ {l:List Nat},lookW h m l=some (j,k)→∃ hj:j<h.length,k<h[j].methods.length
 | [],hl=>by cases hl
 | i::l,hl=>by
   rw [lookW] at hl;cases hi:h[i]? with
   | none=>rw [hi] at hl;cases hl
   | some c =>
     rw [hi] at hl;simp only at hl;cases hk:methN c m with
     | none=>rw [hk] at hl;exact lookW_some hl
     | some q =>
       rw [hk] at hl;simp only [Option.some.injEq,Prod.mk.injEq] at hl;obtain⟨rfl,rfl⟩:=hl;obtain⟨h1,h2⟩:=List.getElem?_eq_some_iff.mp hi;refine⟨h1,?_⟩;rw [h2];exact (List.findIdx?_eq_some_iff_getElem.mp hk).1
def zSg:List CV:=[.str [],.bool false,.nils,.str []]
def tupG:Option (Bytes×Sg)→CV
 | none=>.tup [.str [],.agg zSg,.bool false]
 | some (c,g)=>.tup [.str c,.agg (cvG g),.bool true]
set_option maxRecDepth 10000 in
set_option maxHeartbeats 4000000 in
theorem tk_Lookup (h:List Cd)(hB:HB h)(s m:Bytes):FCall1 Tryz.prog tkG 52 [cvH h,.str s,.str m] (tupG (lookF h s m)):=by
 refine FCall.one tkG_pu (by simp [puL,puV,puH]) (by unfold tupG;split <;> simp [puL,puV,puG,zSg]) ?_;refine FCall.ofBody Tryz.func52 rfl rfl fun nx=>?_
 have hl:=hB.len;have hf:=tk_find h s;have hn:=tk_lookup h hB (findI h s) (findI_lt h s) m;obtain⟨w,hw⟩:∃ w,lookF h s m=w:=⟨_,rfl⟩;rw [hw];unfold lookF at hw;cases hx:lookN h (findI h s) m with
 | none =>
   rw [hx] at hw hn;simp only at hw;rw [← hw];have hn':FCall1 Tryz.prog tkG 77 [cvTb h,.int .i64 (findI h s),.str m] (.tup [.int .i64 (-1),.int .i64 (-1)]):=hn;clear hx hw hn;generalize findI h s=i0 at *;refine gWf cvH.eq_1 ?_
   ((apply Xr);(focus rfl);(focus (first | rfl | (simp [cvH, *];done)));(focus simp [cvH, *,-Option.some.injEq];rfl);kernel_rfl)
   ·exact tk_tableOf h hl _
   refine gWf cvTb.eq_1 ?_
   (first | (first | (apply AOpl.callN;rfl) | apply ASl.call);(focus simp [cvTb, *,-Option.some.injEq];rfl);kernel_rfl | (first | (apply AOpl.callNG;rfl) | apply ASl.callg);(focus simp [cvTb, *];done);(focus simp [cvTb, *,-Option.some.injEq];rfl);kernel_rfl)
   ·exact hf
   refine gWf cvTb.eq_1 ?_
   (first | (first | (apply AOpl.callN;rfl) | apply ASl.call);(focus simp [cvTb, *,-Option.some.injEq];rfl);kernel_rfl | (first | (apply AOpl.callNG;rfl) | apply ASl.callg);(focus simp [cvTb, *];done);(focus simp [cvTb, *,-Option.some.injEq];rfl);kernel_rfl)
   ·exact hn'
   refine gW ?_
   (refine⟨_,(by simp [*];rfl),?_⟩;(try simp only [packA]))
   all_goals rfl
 | some p =>
   obtain⟨j,k⟩:=p;obtain⟨hj,hk⟩:=lookW_some hx;rw [hx] at hw hn;simp only [List.getElem?_eq_getElem hj,List.getElem?_eq_getElem hk] at hw;rw [← hw];have hn':FCall1 Tryz.prog tkG 77 [cvTb h,.int .i64 (findI h s),.str m] (.tup [.int .i64 (j:Int),.int .i64 (k:Int)]):=hn;have hc:=clone_N h[j].methods[k].params (hB.pl _ (List.getElem_mem hj) _ (List.getElem_mem hk));clear hx hw hn;generalize findI h s=i0 at *;have hji:¬ (j:Int)<0:=by omega
   refine gWf cvH.eq_1 ?_
   ((apply Xr);(focus rfl);(focus (first | rfl | (simp [cvH, *];done)));(focus simp [cvH, *,-Option.some.injEq];rfl);kernel_rfl)
   ·exact tk_tableOf h hl _
   refine gWf cvTb.eq_1 ?_
   (first | (first | (apply AOpl.callN;rfl) | apply ASl.call);(focus simp [cvTb, *,-Option.some.injEq];rfl);kernel_rfl | (first | (apply AOpl.callNG;rfl) | apply ASl.callg);(focus simp [cvTb, *];done);(focus simp [cvTb, *,-Option.some.injEq];rfl);kernel_rfl)
   ·exact hf
   refine gWf cvTb.eq_1 ?_
   (first | (first | (apply AOpl.callN;rfl) | apply ASl.call);(focus simp [cvTb, *,-Option.some.injEq];rfl);kernel_rfl | (first | (apply AOpl.callNG;rfl) | apply ASl.callg);(focus simp [cvTb, *];done);(focus simp [cvTb, *,-Option.some.injEq];rfl);kernel_rfl)
   ·exact hn'
   refine gWf (And.intro cvD.eq_1 cvG.eq_1) ?_
   ((apply Xr);(focus rfl);(focus (first | rfl | (simp [cvD,cvG, *];done)));(focus simp [cvD,cvG, *,-Option.some.injEq];rfl);kernel_rfl)
   ·exact hc _
   refine gWf (And.intro cvD.eq_1 cvG.eq_1) ?_
   (refine⟨_,(by simp [*];rfl),?_⟩;(try simp only [packA]))
   all_goals rfl
end
end Go.Proofs.YtoookjadbhdfhaaGreatDoor
