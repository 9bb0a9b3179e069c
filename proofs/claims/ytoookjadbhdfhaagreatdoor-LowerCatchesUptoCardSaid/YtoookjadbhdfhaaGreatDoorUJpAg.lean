/-
  AX: values without blocks of their own; closed runs as contracts.
-/
import Derived.Test.YtoookjadbhdfhaaGreatDoorUJpAf
set_option linter.unusedSectionVars false
set_option linter.unusedSimpArgs false
set_option linter.unnecessarySimpa false
set_option linter.unusedVariables false
set_option linter.unusedSimpArgs false
set_option linter.unusedVariables false
namespace Go.Proofs.YtoookjadbhdfhaaGreatDoor
section
namespace Ax
mutual
def puV:CV→Bool
 | .ptr _ _=>false
 | .sl _ _ _ _=>false
 | .mp _=>false
 | .rop cs=>puL cs
 | .lst rows=>puR rows
 | .fmp a b=>puL a && puL b
 | .fn _ a b=>puL a && puL b
 | .iface _ v=>puV v
 | .agg cs=>puL cs
 | .tup cs=>puL cs
 | .opt _ c=>puV c
 | _=>true
def puL:List CV→Bool
 | []=>true
 | c::cs=>puV c && puL cs
def puR:List (List CV)→Bool
 | []=>true
 | r::rs=>puL r && puR rs
end
theorem puL_get:∀ {cs:List CV},puL cs=true→∀ j (h:j<cs.length),puV cs[j]=true
 | [],_,j,h=>by simp at h
 | c::cs,hp,j,h=>by
   simp only [puL,Bool.and_eq_true] at hp;cases j with
   | zero=>exact hp.1
   | succ j=>exact puL_get hp.2 j (by simpa using h)
theorem puR_get:∀ {rs:List (List CV)},puR rs=true→∀ j (h:j<rs.length),puL rs[j]=true
 | [],_,j,h=>by simp at h
 | c::cs,hp,j,h=>by
   simp only [puR,Bool.and_eq_true] at hp;cases j with
   | zero=>exact hp.1
   | succ j=>exact puR_get hp.2 j (by simpa using h)
theorem RV.swap {M M':Mp}(hz:∀ g x,M.fz g=some x→M'.fz g=some x){c:CV}{v:Value}(h:RV M c v)(hp:puV c=true):RV M' c v:=by
 induction h with
 | any v=>exact .any v
 | bool b=>exact .bool b
 | int k n=>exact .int k n
 | str l s h=>exact .str l s h
 | nilp=>exact .nilp
 | ptr b o g m h=>cases hp
 | rop cs g o arr T fr h hl _ ih=>exact .rop cs g o arr T fr (hz _ _ h) hl (fun j a b=>ih j a b (puL_get hp j a))
 | nils=>exact .nils
 | sl b o n k g m c h hn hm=>cases hp
 | lst0 a c=>exact .lst0 a c
 | lst rows g o n k c arr T fr h hn hc hk hl _ ih=>exact .lst rows g o n k c arr T fr (hz _ _ h) hn hc hk hl (fun i a j b d=>ih i a j b d (puL_get (puR_get hp i a) j b))
 | nilm=>exact .nilm
 | mp b g m h=>cases hp
 | fmp ks vs g en clock h h1 h2 _ _ i1 i2 =>
   simp only [puV,Bool.and_eq_true] at hp;exact .fmp ks vs g en clock (hz _ _ h) h1 h2 (fun j a b=>i1 j a b (puL_get hp.1 j a)) (fun j a b=>i2 j a b (puL_get hp.2 j a))
 | nilf=>exact .nilf
 | fn f fs cs fs' cs' l1 l2 _ _ i1 i2 =>
   simp only [puV,Bool.and_eq_true] at hp;exact .fn f fs cs fs' cs' l1 l2 (fun j a b=>i1 j a b (puL_get hp.1 j a)) (fun j a b=>i2 j a b (puL_get hp.2 j a))
 | nili=>exact .nili
 | iface t x v _ ih=>exact .iface t x v (ih hp)
 | agg cs vs hl _ ih=>exact .agg cs vs hl (fun j a b=>ih j a b (puL_get hp j a))
 | tup cs vs hl _ ih=>exact .tup cs vs hl (fun j a b=>ih j a b (puL_get hp j a))
 | opt g c v _ h0 ih=>exact .opt g c v (fun hg=>ih hg hp) h0
theorem RVs.swap {M M':Mp}(hz:∀ g x,M.fz g=some x→M'.fz g=some x){cs:List CV}{vs:List Value}(h:RVs M cs vs)(hp:puL cs=true):RVs M' cs vs :=
 ⟨h.1,fun j a b=>(h.2 j a b).swap hz (puL_get hp j a)⟩
theorem RG.swap {G:Nat→CV}{M M':Mp}(hz:∀ g x,M.fz g=some x→M'.fz g=some x)(h:RG G M)(hG:∀ g,puV (G g)=true):RG G M':=fun g=>⟨(h g).1.swap hz (hG g),(h g).2.swap hz⟩
def Res.pu:Res→Bool
 | .ret v=>puV v
 | .pan v=>puV v
theorem EndR.swap {M M':Mp}(hz:∀ g x,M.fz g=some x→M'.fz g=some x){r:Res}{e:Ending}(h:EndR M r e)(hp:r.pu=true):EndR M' r e:=by
 cases r with
 | ret v=>cases e <;> simp only [EndR] at h ⊢;exact h.swap hz hp
 | pan v=>cases e <;> simp only [EndR] at h ⊢;obtain⟨z,h1,h2⟩:=h;exact⟨z,h1,h2.swap hz hp⟩
/-- What holds with no block of one's own holds beside all blocks. -/
theorem FCall.of0 {P:Program}{G:Nat→CV}{f:FuncId}{args:List CV}{Q:Res→Prop}(hG:∀ g,puV (G g)=true)(ha:puL args=true)(hr:∀ r,Q r→r.pu=true)(h:ACall P G f args Heap.no 0 fun r _ _=>Q r):FCall P G f args Q:=by
 refine FCall.of fun nx=>?_
 intro M w vs g r v;have r0:Rep ⟨M.fz,fun _=>none⟩ Heap.no 0 w:=⟨fun _ _ h=>(by cases h),fun _ _ _ _ _ _ _ h=>(by cases h),fun _ _=>rfl,r.fz,fun _ _ _ _ _ _ h=>(by cases h)⟩;refine (h ⟨M.fz,fun _=>none⟩ w vs (RG.swap (M:=M) (M':=⟨M.fz,fun _=>none⟩) (fun _ _ h=>h) g hG) r0 (RVs.swap (M:=M) (M':=⟨M.fz,fun _=>none⟩) (fun _ _ h=>h) v ha)).mono ?_;rintro e w' ⟨M1,x,H1,nx1,a1,a2,a3,a4⟩;refine⟨⟨M1.fz,M.bk⟩,x,Heap.no,nx,EndR.swap (M:=M1) (M':=⟨M1.fz,M.bk⟩) (fun _ _ h=>h) a1 (hr x a4),⟨fun _ _ h=>(by cases h),fun _ _ _ _ _ _ _ h=>(by cases h),r.fresh,a2.fz,fun _ _ _ _ _ _ h=>(by cases h)⟩,?_,a4⟩;refine⟨⟨fun x y h=>a3.ext.fz x y h,fun _ _ h=>h⟩,a3.os,a3.tape,a3.output,a3.grown,fun x hx _=>a3.kept x hx (fun ⟨_,_,_,h,_⟩=>by cases h),fun x ⟨_,_,_,h,_⟩=>(by cases h),fun _ _=>rfl,Nat.le_refl _,fun x y h=>?_⟩;rcases a3.fzn x y h with h1 | ⟨_,_,_,h1,_⟩ | h1
 ·exact .inl h1
 ·cases h1
 ·exact .inr (.inr h1)
def yes:Option (Res×Tr CB×Nat)→Bool
 | some (.ret (.bool b),_,_)=>b
 | _=>false
/-- A closed run that returns true. -/
theorem FCall.closed {P:Program}{G:Nat→CV}{call:Call1}(hc:CallOk P G call)(hG:∀ g,puV (G g)=true){f:FuncId}(h:yes (call f [] .lf 0)=true):FCall P G f [] fun r=>r=.ret (.bool true):=by
 refine FCall.of0 hG rfl (fun r hr=>by subst hr;rfl) ?_;cases hx:call f [] .lf 0 with
 | none=>rw [hx] at h;cases h
 | some x =>
   obtain⟨r,h',nx'⟩:=x;rw [hx] at h;cases r with
   | pan v=>cases h
   | ret v=>cases v with
     | bool b =>
       have hb:b=true:=h;subst hb;exact (hc _ _ _ _ _ _ _ hx).mono fun _ _ _ ⟨a,_,_⟩=>a
     | _=>cases h
end Ax
end
section
namespace Ax
/-- Rows of k cells. -/
def rowsOf (cs:List CV)(o k n:Nat):List (List CV):=(List.range n).map fun i=>(cs.drop (o+i*k)).take k
theorem rowsOf_flat {k:Nat}:∀ {rows:List (List CV)},(∀ r∈rows,r.length=k)→∀ (pre rest:List CV),rowsOf (pre++rows.flatten++rest) pre.length k rows.length=rows
 | [],_,pre,rest=>rfl
 | r::rows,h,pre,rest=>by
   have hr:r.length=k:=h r (by simp);have ih:=rowsOf_flat (fun x hx=>h x (List.mem_cons_of_mem _ hx)) (pre++r) rest;unfold rowsOf at ih ⊢;rw [List.length_cons,List.range_succ_eq_map,List.map_cons,List.map_map];have e0:List.take k (List.drop (pre.length+0*k) (pre++(r::rows).flatten++rest))=r:=by
    simp only [Nat.zero_mul,Nat.add_zero,List.flatten_cons,List.append_assoc];rw [List.drop_left,← hr,List.take_left]
   rw [e0];have e1:(pre++(r::rows).flatten++rest)=(pre++r++rows.flatten++rest):=by simp
   rw [e1];refine congrArg (r::·) (Eq.trans ?_ ih);apply List.map_congr_left;intro i hi;have e:pre.length+(i+1)*k=(pre++r).length+i*k:=by rw [Nat.add_mul,List.length_append,hr];omega
   simp only [Function.comp,e]
theorem rowsOf_flat0 {k:Nat}{rows:List (List CV)}(h:∀ r∈rows,r.length=k):rowsOf rows.flatten 0 k rows.length=rows:=by
 have:=rowsOf_flat h [] [];simpa using this
/-- A value that speaks of a frozen block. -/
inductive FV (b:Nat) (cs:List CV):CV→CV→Prop
 | same (c:CV):FV b cs c c
 | any (c:CV):FV b cs c .any
 | ptr (o:Nat) (h:o≤cs.length):FV b cs (.ptr b o) (.rop (cs.drop o))
 | sl (o n k:Nat) (h:o+n*k≤cs.length):FV b cs (.sl b o n k) (.lst (rowsOf cs o k n))
 | agg (l l':List CV) (hl:l'.length=l.length) (h:∀ j (a:j<l.length) (b':j<l'.length),FV b cs l[j] l'[j]):FV b cs (.agg l) (.agg l')
 | tup (l l':List CV) (hl:l'.length=l.length) (h:∀ j (a:j<l.length) (b':j<l'.length),FV b cs l[j] l'[j]):FV b cs (.tup l) (.tup l')
theorem FV.aggs {b:Nat}{cs l l':List CV}(hl:l'.length=l.length)(h:∀ j (a:j<l.length) (b':j<l'.length),FV b cs l[j] l'[j]):FV b cs (.agg l) (.agg l'):=.agg l l' hl h
theorem mul_lt_row {i k j n:Nat}(hi:i<n)(hj:j<k):i*k+j<n*k:=by
 have:(i+1)*k≤n*k:=Nat.mul_le_mul_right _ hi;rw [Nat.add_mul] at this;omega
theorem RV.frz {M M':Mp}{b g m:Nat}{cs:List CV}{arr:Array Value}{T:TypeId}{fr:Nat×Nat}(he:Ext M M')(hb:M.bk b=some (g,m))(hz:M'.fz g=some (.cells arr T fr))(hs:arr.size=m)(hr:RVs M cs (arr.toList.take cs.length)){c c':CV}(hf:FV b cs c c'):∀ {v:Value},RV M c v→RV M' c' v:=by
 have hl:cs.length≤arr.size:=by have:=hr.1;simp at this;omega
 have cell:∀ j (a:j<cs.length) (h:j<arr.size),RV M' cs[j] arr[j]:=fun j a h=>by
  have:=(hr.2 j a (by simp;omega)).ext he;simpa using this
 induction hf with
 | same c=>intro v h;exact h.ext he
 | any c=>intro v h;exact .any v
 | ptr o ho =>
   intro v h;cases h with
   | ptr _ _ g' m' h' =>
     rw [hb] at h';cases h';refine .rop _ g o arr T fr hz (by simp;omega) (fun j a d=>?_);have:=cell (o+j) (by simp at a;omega) d;simpa using this
 | sl o n k ho =>
   intro v h;cases h with
   | sl _ _ _ _ g' m' c h' hn hm =>
     rw [hb] at h';cases h';have hrow:∀ i,i<n→((cs.drop (o+i*k)).take k).length=k:=fun i hi=>by
      have:(i+1)*k≤n*k:=Nat.mul_le_mul_right _ hi;rw [Nat.add_mul] at this;simp;omega
     refine .lst _ g o n k c arr T fr hz (by simp [rowsOf]) hn (fun r hr'=>?_) (by omega) (fun i a j d dd=>?_)
     ·obtain⟨i,hi,rfl⟩:=List.mem_map.mp hr';exact hrow i (by simpa using hi)
     ·have hi:i<n:=by simpa [rowsOf] using a
      simp only [rowsOf,List.getElem_map,List.getElem_range] at d ⊢;have hj:j<k:=by rw [hrow i hi] at d;exact d
      have hlt:=mul_lt_row (k:=k) hi hj;have:=cell (o+i*k+j) (by omega) dd;simpa [Nat.add_assoc] using this
 | agg l l' hl' _ ih =>
   intro v h;cases h with
   | agg _ vs h1 h2=>exact .agg _ vs (by omega) (fun j a d=>ih j (by omega) a (h2 j (by omega) d))
 | tup l l' hl' _ ih =>
   intro v h;cases h with
   | tup _ vs h1 h2=>exact .tup _ vs (by omega) (fun j a d=>ih j (by omega) a (h2 j (by omega) d))
/-- The state with a block frozen. -/
theorem Rep.freeze {M:Mp}{H:Heap}{nx:Nat}{w:World}(r:Rep M H nx w){b:Nat}{cs:List CV}(hb:H b=some (.cells cs)) :
  ∃ M',Ext M M'∧Rep M' (drp H b) nx w∧Fr H M nx w (drp H b) M' nx w∧∀ {c c':CV} {v:Value},FV b cs c c'→RV M c v→RV M' c' v:=by
 obtain⟨g,m,hm,arr,T,hw,hs,hr⟩:=r.blk b _ hb;obtain⟨r',f'⟩:=r.frz b g m (.cells cs) (.cells arr T (0,0)) hb hm hw;exact⟨_,f'.ext,r',f',fun hf hv=>hv.frz (T:=T) (fr:=(0,0)) f'.ext hm (by simp) hs hr hf⟩
section
variable {P:Program} {G:Nat→CV} {n:Nat} {e e':Env} {H:Heap} {nx:Nat} {Q:AExit→Env→Heap→Nat→Prop} {ops:Array Oper} {os:List Oper} {b:Nat} {cs:List CV}
theorem EnvR.frz {M M':Mp}{a:Act}(v:EnvR M n e a)(he:∀ t,FV b cs (e t) (e' t))(h:∀ {c c':CV} {u:Value},FV b cs c c'→RV M c u→RV M' c' u):EnvR M' n e' a:=⟨v.1,v.2.1,fun t=>h (he t) (v.2.2 t)⟩
theorem AWp.frz {c:Code}(hb:H b=some (.cells cs))(he:∀ t,FV b cs (e t) (e' t))(h:AWp P G n c e' (drp H b) nx Q):AWp P G n c e H nx Q:=fun M a w g r v=>by
 obtain⟨M',hx,r',f',hv⟩:=r.freeze hb;exact wp_mono (h M' a w (g.ext hx) r' (v.frz he hv)) fun _ _ _ hp=>hp.trans f'
theorem AOps.frz {l:List Nat}(hb:H b=some (.cells cs))(he:∀ t,FV b cs (e t) (e' t))(h:AOps P G n ops l e' (drp H b) nx Q):AOps P G n ops l e H nx Q:=fun M a w g r v=>by
 obtain⟨M',hx,r',f',hv⟩:=r.freeze hb;exact wpOps_mono (fun _ _ _ hp=>hp.trans f') l (h M' a w (g.ext hx) r' (v.frz he hv))
theorem AOpl.frz (hb:H b=some (.cells cs))(he:∀ t,FV b cs (e t) (e' t))(h:AOpl P G n ops os e' (drp H b) nx Q):AOpl P G n ops os e H nx Q:=fun k hk=>AOps.frz hb he (h k hk)
theorem frz_put {t0:Nat}{c:CV}(h:FV b cs (e t0) c):∀ t,FV b cs (e t) (putE e (some t0) c t):=fun t=>by
 by_cases ht:t=t0
 ·subst ht;simp only [putE,if_true];exact h
 ·simp only [putE,ht,if_false];exact .same _
/-- One temporary's slice becomes a frozen one. -/
theorem AOpl.frzT (t0:Nat){o m k:Nat}(h0:e t0=.sl b o m k)(hb:H b=some (.cells cs))(hl:o+m*k≤cs.length)(h:AOpl P G n ops os (putE e (some t0) (.lst (rowsOf cs o k m))) (drp H b) nx Q):AOpl P G n ops os e H nx Q :=
 AOpl.frz hb (frz_put (h0▸.sl o m k hl)) h
theorem AWp.frzT {c:Code}(t0:Nat){o m k:Nat}(h0:e t0=.sl b o m k)(hb:H b=some (.cells cs))(hl:o+m*k≤cs.length)(h:AWp P G n c (putE e (some t0) (.lst (rowsOf cs o k m))) (drp H b) nx Q):AWp P G n c e H nx Q :=
 AWp.frz hb (frz_put (h0▸.sl o m k hl)) h
end
/-! results -/
inductive FVr (b:Nat) (cs:List CV):Res→Res→Prop
 | ret {c c':CV} (h:FV b cs c c'):FVr b cs (.ret c) (.ret c')
 | pan {c c':CV} (h:FV b cs c c'):FVr b cs (.pan c) (.pan c')
theorem EndR.frz {M M':Mp}{b:Nat}{cs:List CV}(h:∀ {c c':CV} {v:Value},FV b cs c c'→RV M c v→RV M' c' v){r r':Res}(hf:FVr b cs r r'){e:Ending}(he:EndR M r e):EndR M' r' e:=by
 cases hf with
 | ret hf=>cases e <;> simp only [EndR] at he ⊢;exact h hf he
 | pan hf=>cases e <;> simp only [EndR] at he ⊢;obtain⟨z,h1,h2⟩:=he;exact⟨z,h1,h hf h2⟩
/-- Blocks frozen one after the other. -/
inductive Fz:Heap→Res→Res→Heap→Prop
 | done (H H':Heap) (r:Res) (s:Sub H' H):Fz H r r H'
 | step {H H':Heap} (b:Nat) (cs:List CV) {r r1 r2:Res} (hb:H b=some (.cells cs)) (hf:FVr b cs r r1) (h:Fz (drp H b) r1 r2 H'):Fz H r r2 H'
theorem Fz.sound {H H':Heap}{r r':Res}(h:Fz H r r' H'):∀ {M:Mp} {nx:Nat} {w:World} {e:Ending},Rep M H nx w→EndR M r e→∃ M',EndR M' r' e∧Rep M' H' nx w∧Fr H M nx w H' M' nx w:=by
 induction h with
 | done H H' r s=>intro M nx w e hr he;exact⟨M,he,hr.weak s,Fr.weak s⟩
 | step b cs hb hf _ ih =>
   intro M nx w e hr he;obtain⟨M1,hx,r1,f1,hv⟩:=hr.freeze hb;obtain⟨M2,h1,h2,h3⟩:=ih r1 (he.frz hv hf);exact⟨M2,h1,h2,f1.trans h3⟩
theorem ACall.frz {P:Program}{G:Nat→CV}{f:FuncId}{args:List CV}{H:Heap}{nx:Nat}{Q:Res→Heap→Nat→Prop}(h:ACall P G f args H nx fun r H' nx'=>∃ r' H'',Fz H' r r' H''∧Q r' H'' nx'):ACall P G f args H nx Q :=
 fun M w vs g r v=>(h M w vs g r v).mono fun e w' ⟨M1,x,H1,n1,a1,a2,a3,r',H'',hz,hq⟩=>by
  obtain⟨M2,b1,b2,b3⟩:=hz.sound a2 a1;exact⟨M2,r',H'',n1,b1,b2,a3.trans b3,hq⟩
theorem FCall.frz {P:Program}{G:Nat→CV}{f:FuncId}{args:List CV}{Q:Res→Prop}(h:∀ nx,ACall P G f args Heap.no nx fun r H' _=>∃ r' H'',Fz H' r r' H''∧Q r'):FCall P G f args Q :=
 FCall.of fun nx=>ACall.frz ((h nx).mono fun r H' nx' ⟨r',H'',a,b⟩=>⟨r',H'',a,b⟩)
end Ax
end
section
namespace Ax
/-- What can be seen of a drawn region from its text. -/
def statO (n:Nat)(ops:Array Oper)(i:Nat)(o:Oper):Bool :=
 (match o.dst with
  | some t=>Nat.blt t n && eqON (wr ops t) i
  | none=>true) &&
 (o.looksAt ops).all (fun t=>match wr ops t with
  | some j=>anc (ancs ops) i j || anc (ancs ops) j i
  | none=>true) &&
 o.after.toList.all (fun e=>!Region.binds .any e || Nat.blt e.on i)
def statL (n:Nat)(ops:Array Oper):Nat→List Oper→Bool
 | _,[]=>true
 | i,o::os=>statO n ops i o && statL n ops (i+1) os
def isCall (o:Oper):Bool:=match o.op with
 | .call c=>match c.callee with
   | .value _=>true
   | _=>false
 | _=>false
def isCallAt (ops:Array Oper)(i:Nat):Bool:=match ops[i]? with
 | some o=>isCall o
 | none=>false
/-- Calls stand in one order. -/
def statC (ops:Array Oper):Bool:=(List.range ops.size).all fun i=>!isCallAt ops i || (List.range i).all fun j=>!isCallAt ops j || anc (ancs ops) i j
def stat (n:Nat)(ops:Array Oper):Bool:=statL n ops 0 ops.toList && statC ops
theorem statC_spec {ops:Array Oper}(h:statC ops=true){i j:Nat}(hi:isCallAt ops i=true)(hj:isCallAt ops j=true)(hl:j<i):anc (ancs ops) i j=true:=by
 have hs:i<ops.size:=by
  unfold isCallAt at hi;split at hi
  ·rename_i o ho;exact (Array.getElem?_eq_some_iff.mp ho).1
  ·cases hi
 have h1:=List.all_eq_true.mp h i (List.mem_range.mpr hs);rw [hi,Bool.not_true,Bool.false_or] at h1;have h2:=List.all_eq_true.mp h1 j (List.mem_range.mpr hl);rw [hj,Bool.not_true,Bool.false_or] at h2;exact h2
theorem statL_spec {n:Nat}{ops:Array Oper}:∀ {os:List Oper} {k:Nat},statL n ops k os=true→∀ (i:Nat) o,os[i]?=some o→statO n ops (k+i) o=true
 | [],k,h,i,o,ho=>by simp at ho
 | x::os,k,h,i,o,ho=>by
   simp only [statL,Bool.and_eq_true] at h;cases i with
   | zero=>simp at ho;subst ho;exact h.1
   | succ i=>have:=statL_spec h.2 i o (by simpa using ho);rwa [show k+1+i=k+(i+1) by omega] at this
/-- Operations that look, or call what leaves the memory alone, one after the other; the calls are numbered. -/
inductive QRun (P:Program) (G:Nat→CV) (H:Heap) (ops:Array Oper):Nat→List Oper→Env→List Act1→Env→Nat→Prop
 | nil (j:Nat) (e:Env):QRun P G H ops j [] e [] e j
 | look {j m:Nat} {o:Oper} {os:List Oper} {e e':Env} {l:List Act1} (c:CV) (hg:gd ops e o=some true) (hq:qstep P H (rd G e) o.op=some c) (h:QRun P G H ops j os (putE e o.dst c) l e' m):QRun P G H ops j (o::os) e (.quiet c::l) e' m
 | skip {j m:Nat} {o:Oper} {os:List Oper} {e e':Env} {l:List Act1} (hg:gd ops e o=some false) (h:QRun P G H ops j os (putE e o.dst (.tup [])) l e' m):QRun P G H ops j (o::os) e (.skip::l) e' m
 | call {j m:Nat} {o:Oper} {os:List Oper} {e e':Env} {l:List Act1} {f:FuncId} {args:List CV} (c:CV) (hg:gd ops e o=some true) (hq:callA (rd G e) o.op=some (f,args)) (he:enters P f=true)
   (hf:∀ nx,ACall P G f args H nx fun r H' nx'=>r=.ret c∧H'=H∧nx'=nx) (h:QRun P G H ops (j+1) os (putE e o.dst c) l e' m):QRun P G H ops j (o::os) e (.eff j c::l) e' m
theorem callA_isCall {ρ:Operand→CV}{o:Oper}{x:FuncId×List CV}(h:callA ρ o.op=some x):isCall o=true:=by
 unfold callA at h;split at h
 ·rename_i c hc;split at h
  ·rename_i y hy;unfold isCall;simp only [hc,hy]
  ·cases h
 ·cases h
theorem callA_congr {ρ ρ':Operand→CV}{op:Op}(h:∀ x∈op.operands,ρ x=ρ' x):callA ρ op=callA ρ' op:=by
 unfold callA;split
 ·rename_i c;split
  ·rename_i y hy;have h0:ρ y=ρ' y:=h y (by simp [Op.operands,Call.operands,hy]);have h1:c.args.toList.map ρ=c.args.toList.map ρ':=List.map_congr_left fun x hx=>h x (by simp [Op.operands,Call.operands,hy];right;simpa using hx)
   rw [h0,h1]
  ·rfl
 ·rfl
theorem qstep_congr {P:Program}{H:Heap}{ρ ρ':Operand→CV}{op:Op}(h:∀ x∈op.operands,ρ x=ρ' x):qstep P H ρ op=qstep P H ρ' op:=by
 unfold qstep;cases op
 case makeFunc fn a b =>
  have h1:a.toList.map ρ=a.toList.map ρ':=List.map_congr_left fun x hx=>h x (by simp [Op.operands];left;simpa using hx)
  have h2:b.toList.map ρ=b.toList.map ρ':=List.map_congr_left fun x hx=>h x (by simp [Op.operands];right;simpa using hx)
  simp only [h1,h2]
 case slice t x lo hi mx =>
  have h0:ρ x=ρ' x:=h x (by simp [Op.operands]);have h1:lo.map ρ=lo.map ρ':=by cases lo with
   | none=>rfl
   | some y=>simp only [Option.map_some];rw [h y (by simp [Op.operands])]
  have h2:hi.map ρ=hi.map ρ':=by cases hi with
   | none=>rfl
   | some y=>simp only [Option.map_some];rw [h y (by cases lo <;> simp [Op.operands])]
  simp only [h0,h1,h2]
 case call c =>
  have h1:c.args.toList.map ρ=c.args.toList.map ρ':=List.map_congr_left fun x hx=>h x (by cases hc:c.callee <;> simp [Op.operands,Call.operands,hc] <;> first | exact (Array.mem_def.mpr hx) | exact .inr (Array.mem_def.mpr hx))
  simp only [h1]
 case build t ps =>
  have h1:(ps.toList.map fun p=>(p.1,ρ p.2))=ps.toList.map fun p=>(p.1,ρ' p.2):=List.map_congr_left fun x hx=>by
   rw [h x.2 (by simp [Op.operands];exact⟨x.1,by simpa using hx⟩)]
  simp only [h1]
 all_goals (try (simp [Op.operands] at h))
 all_goals first
  | rfl
  | (simp only [h];done)
section
variable {P:Program} {G:Nat→CV} {n:Nat} {ops:Array Oper} {H:Heap} {nx:Nat} {Q:AExit→Env→Heap→Nat→Prop}
theorem QRun.len {j m:Nat}{os:List Oper}{e e':Env}{l:List Act1}(h:QRun P G H ops j os e l e' m):l.length=os.length:=by
 induction h with
 | nil=>rfl
 | look _ _ _ _ ih=>simp [ih]
 | skip _ _ ih=>simp [ih]
 | call _ _ _ _ _ _ ih=>simp [ih]
/-- The numbers of the calls. -/
theorem QRun.nums {j m:Nat}{os:List Oper}{e e':Env}{l:List Act1}(h:QRun P G H ops j os e l e' m) :
  j≤m∧(∀ (k i:Nat) (c:CV),l[k]?=some (Act1.eff i c)→j≤i∧i<m)∧(∀ i,j≤i→i<m→∃ (k:Nat) (c:CV),l[k]?=some (Act1.eff i c))∧∀ (k k' i i':Nat) (c c':CV),l[k]?=some (Act1.eff i c)→l[k']?=some (Act1.eff i' c')→k<k'→i<i':=by
 have shift:∀ {a:Act1} {l:List Act1} {j m:Nat},(∀ i c,a≠.eff i c)→(j≤m∧(∀ (k i:Nat) (c:CV),l[k]?=some (Act1.eff i c)→j≤i∧i<m)∧(∀ i,j≤i→i<m→∃ (k:Nat) (c:CV),l[k]?=some (Act1.eff i c))∧∀ (k k' i i':Nat) (c c':CV),l[k]?=some (Act1.eff i c)→l[k']?=some (Act1.eff i' c')→k<k'→i<i') →
   (j≤m∧(∀ (k i:Nat) (c:CV),(a::l)[k]?=some (Act1.eff i c)→j≤i∧i<m)∧(∀ i,j≤i→i<m→∃ (k:Nat) (c:CV),(a::l)[k]?=some (Act1.eff i c))∧∀ (k k' i i':Nat) (c c':CV),(a::l)[k]?=some (Act1.eff i c)→(a::l)[k']?=some (Act1.eff i' c')→k<k'→i<i'):=by
  intro a l j m ha ⟨h1,h2,h3,h4⟩;refine⟨h1,fun k i c hk=>?_,fun i a1 a2=>?_,fun k k' i i' c c' hk hk' hlt=>?_⟩
  ·cases k with
   | zero=>simp at hk;exact absurd hk (ha i c)
   | succ k=>exact h2 k i c (by simpa using hk)
  ·obtain⟨k,c,hk⟩:=h3 i a1 a2;exact⟨k+1,c,by simpa using hk⟩
  ·cases k with
   | zero=>simp at hk;exact absurd hk (ha i c)
   | succ k=>cases k' with
     | zero=>omega
     | succ k'=>exact h4 k k' i i' c c' (by simpa using hk) (by simpa using hk') (by omega)
 induction h with
 | nil j e=>exact⟨Nat.le_refl _,fun k i c hk=>by simp at hk,fun i a1 a2=>by omega,fun k k' i i' c c' hk=>by simp at hk⟩
 | look c hg hq _ ih=>exact shift (fun _ _ h=>by cases h) ih
 | skip hg _ ih=>exact shift (fun _ _ h=>by cases h) ih
 | @call j m o os e e' l f args c hg hq he hf _ ih =>
   obtain⟨h1,h2,h3,h4⟩:=ih;refine⟨by omega,fun k i c' hk=>?_,fun i a1 a2=>?_,fun k k' i i' c1 c2 hk hk' hlt=>?_⟩
   ·cases k with
    | zero=>simp at hk;omega
    | succ k=>have:=h2 k i c' (by simpa using hk);omega
   ·by_cases hij:i=j
    ·exact⟨0,c,by simp [hij]⟩
    ·obtain⟨k,c',hk⟩:=h3 i (by omega) a2;exact⟨k+1,c',by simpa using hk⟩
   ·cases k' with
    | zero=>omega
    | succ k' =>
      have hk2:=h2 k' i' c2 (by simpa using hk');cases k with
      | zero=>simp at hk;omega
      | succ k=>exact h4 k k' i i' c1 c2 (by simpa using hk) (by simpa using hk') (by omega)
def isEffJ (j:Nat):Option Act1→Bool
 | some (.eff i _)=>Nat.beq i j
 | _=>false
theorem isEffJ_spec {j:Nat}{x:Option Act1}(h:isEffJ j x=true):∃ c,x=some (.eff j c):=by
 unfold isEffJ at h;split at h
 ·rename_i i c;exact⟨c,by rw [beq_eq (a:=i) (b:=j) h]⟩
 ·cases h
/-- Where a call stands. -/
def effAt (l:List Act1)(N j:Nat):Nat:=((List.range l.length).find? fun (k:Nat)=>isEffJ j l[k]?).getD N
theorem effAt_spec {j m:Nat}{os:List Oper}{e e':Env}{l:List Act1}{N:Nat}(h:QRun P G H ops j os e l e' m):(∀ (k i:Nat) (c:CV),l[k]?=some (Act1.eff i c)→effAt l N i=k)∧effAt l N m=N:=by
 obtain⟨_,h2,_,h4⟩:=h.nums;constructor
 ·intro k i c hk;unfold effAt;cases hf:(List.range l.length).find? fun (k:Nat)=>isEffJ i l[k]? with
  | none =>
    have hl:k<l.length:=(List.getElem?_eq_some_iff.mp hk).1;have:=List.find?_eq_none.mp hf k (List.mem_range.mpr hl);rw [hk] at this;simp [isEffJ] at this
  | some k' =>
    have hf':isEffJ i l[k']?=true:=List.find?_some (p:=fun (k:Nat)=>isEffJ i l[k]?) hf;obtain⟨c',hk'⟩:=isEffJ_spec hf';simp only [Option.getD_some];rcases Nat.lt_trichotomy k' k with hlt | heq | hlt
    ·have:=h4 _ _ _ _ _ _ hk' hk hlt;omega
    ·exact heq
    ·have:=h4 _ _ _ _ _ _ hk hk' hlt;omega
 ·unfold effAt;cases hf:(List.range l.length).find? fun (k:Nat)=>isEffJ m l[k]? with
  | none=>rfl
  | some k' =>
    have hf':isEffJ m l[k']?=true:=List.find?_some (p:=fun (k:Nat)=>isEffJ m l[k]?) hf;obtain⟨c',hk'⟩:=isEffJ_spec hf';have:=h2 _ _ _ hk';omega
/-- The plan of such a run. -/
def planQ (ops:Array Oper)(H:Heap)(nx:Nat)(l:List Act1)(m:Nat):Plan:=⟨fun i=>(l[i]?).getD .skip,fun _=>H,fun _=>nx+ops.size,m,effAt l ops.size⟩
theorem statO_dst {i:Nat}{o:Oper}(h:statO n ops i o=true):∀ t,o.dst=some t→t<n∧wr ops t=some i:=by
 intro t ht;simp only [statO,Bool.and_eq_true,ht] at h;refine⟨blt_lt h.1.1.1,?_⟩;have h2:=h.1.1.2;cases hw:wr ops t with
 | none=>rw [hw] at h2;cases h2
 | some j=>rw [hw] at h2;rw [beq_eq (a:=j) (b:=i) h2]
theorem statO_looks {i:Nat}{o:Oper}(h:statO n ops i o=true):∀ t∈o.looksAt ops,∀ j,wr ops t=some j→anc (ancs ops) i j=true∨anc (ancs ops) j i=true:=by
 intro t ht j hj;simp only [statO,Bool.and_eq_true] at h;have:=List.all_eq_true.mp h.1.2 t ht;rw [hj] at this;simpa using this
theorem statO_edges {i:Nat}{o:Oper}(h:statO n ops i o=true):∀ e∈o.after.toList,Region.binds .any e=true→e.on<i:=by
 intro e he hb;simp only [statO,Bool.and_eq_true] at h;have:=List.all_eq_true.mp h.2 e he;rw [hb] at this;exact blt_lt (by simpa using this)
/-- What the run knows behind k operations. -/
theorem QRun.env {j0 m:Nat}{os:List Oper}{e e':Env}{l:List Act1}(h:QRun P G H ops j0 os e l e' m):∀ (k:Nat) (e0:Env) (pre:List Act1),ops.toList.drop k=os→pre.length=k→stat n ops=true →
  (∀ t,e t=match wr ops t with
   | some j=>if j<k then ((pre[j]?).getD .skip).val else e0 t
   | none=>e0 t) →
  (∀ t,e' t=match wr ops t with
   | some j=>if j<ops.size then (((pre++l)[j]?).getD .skip).val else e0 t
   | none=>e0 t) ∧
  ∀ i o,k≤i→ops[i]?=some o→∃ ei,(∀ t,ei t=match wr ops t with
   | some j=>if j<i then (((pre++l)[j]?).getD .skip).val else e0 t
   | none=>e0 t)∧((∃ c,(pre++l)[i]?=some (.quiet c)∧gd ops ei o=some true∧qstep P H (rd G ei) o.op=some c)∨((pre++l)[i]?=some .skip∧gd ops ei o=some false) ∨
     ∃ j c f args,(pre++l)[i]?=some (.eff j c)∧gd ops ei o=some true∧callA (rd G ei) o.op=some (f,args)∧enters P f=true∧∀ nx,ACall P G f args H nx fun r H' nx'=>r=.ret c∧H'=H∧nx'=nx):=by
 have step:∀ {k:Nat} {o:Oper} {e e0:Env} {pre:List Act1} {a:Act1} {c:CV},ops[k]?=some o→pre.length=k→stat n ops=true→a.val=c →
   (∀ t,e t=match wr ops t with
    | some j=>if j<k then ((pre[j]?).getD .skip).val else e0 t
    | none=>e0 t) →
   ∀ t,putE e o.dst c t=match wr ops t with
    | some j=>if j<k+1 then (((pre++[a])[j]?).getD .skip).val else e0 t
    | none=>e0 t:=by
  intro k o e e0 pre a c ho hpre hst hav he t;have hst':=hst;simp only [stat,Bool.and_eq_true] at hst';have hso:=statL_spec (k:=0) hst'.1 k o (by simpa using ho);rw [Nat.zero_add] at hso;have hput:(o.dst=some t∧putE e o.dst c t=c)∨(o.dst≠some t∧putE e o.dst c t=e t):=by
   cases hd:o.dst with
   | none=>right;exact⟨by simp,rfl⟩
   | some d =>
     by_cases hdt:t=d
     ·left;subst hdt;exact⟨rfl,by simp [putE]⟩
     ·right;exact⟨fun h=>hdt (by cases h;rfl),by simp [putE,hdt]⟩
  rcases hput with⟨h1,h2⟩ | ⟨h1,h2⟩
  ·rw [h2,(statO_dst hso t h1).2];simp only [Nat.lt_succ_self,if_true];rw [List.getElem?_append_right (by omega),hpre,Nat.sub_self];simp [hav]
  ·rw [h2,he t];cases hw:wr ops t with
   | none=>rfl
   | some j =>
     simp only;obtain⟨oj,hoj,hdj⟩:=wr_some hw;have hjk:j≠k:=fun e=>by subst e;rw [ho] at hoj;cases hoj;exact h1 hdj
     by_cases hlt:j<k
     ·rw [if_pos hlt,if_pos (by omega),List.getElem?_append_left (by omega)]
     ·rw [if_neg hlt,if_neg (by omega)]
 have drop_succ:∀ {k:Nat} {o:Oper} {os:List Oper},ops.toList.drop k=o::os→ops[k]?=some o∧ops.toList.drop (k+1)=os:=by
  intro k o os hk;constructor
  ·have:=congrArg List.head? hk;simpa [List.head?_drop] using this
  ·have:=congrArg List.tail hk;simpa [List.tail_drop] using this
 induction h with
 | nil j e =>
   intro k e0 pre hk hpre hst he;have hsz:ops.size≤k:=by
    have:=congrArg List.length hk;simp at this;omega
   refine⟨fun t=>?_,fun i o hi ho=>?_⟩
   ·rw [he t];cases hw:wr ops t with
    | none=>rfl
    | some j =>
      obtain⟨oj,hoj,_⟩:=wr_some hw;have hlt:=(Array.getElem?_eq_some_iff.mp hoj).1;simp only [hlt,if_true,List.append_nil];rw [if_pos (by omega)]
   ·have:=(Array.getElem?_eq_some_iff.mp ho).1;omega
 | @look j m o os e e' l c hg hq _ ih =>
   intro k e0 pre hk hpre hst he;obtain⟨ho,hk'⟩:=drop_succ hk;obtain⟨i1,i2⟩:=ih (k+1) e0 (pre++[Act1.quiet c]) hk' (by simp [hpre]) hst (step (a:=.quiet c) (c:=c) ho hpre hst rfl he);simp only [List.append_assoc,List.cons_append,List.nil_append] at i1 i2;refine⟨i1,fun i oi hi hoi=>?_⟩;rcases Nat.lt_or_eq_of_le hi with h1 | h1
   ·exact i2 i oi h1 hoi
   ·subst h1;rw [ho] at hoi;cases hoi;refine⟨e,fun t=>?_,.inl ⟨c,?_,hg,hq⟩⟩
    ·rw [he t];cases hw:wr ops t with
     | none=>rfl
     | some j =>
       simp only
       by_cases hlt:j<k
       ·rw [if_pos hlt,if_pos hlt,List.getElem?_append_left (by omega)]
       ·rw [if_neg hlt,if_neg hlt]
    ·rw [List.getElem?_append_right (by omega),hpre,Nat.sub_self];rfl
 | @call j m o os e e' l f args c hg hq hen hf _ ih =>
   intro k e0 pre hk hpre hst he;obtain⟨ho,hk'⟩:=drop_succ hk;obtain⟨i1,i2⟩:=ih (k+1) e0 (pre++[Act1.eff j c]) hk' (by simp [hpre]) hst (step (a:=.eff j c) (c:=c) ho hpre hst rfl he);simp only [List.append_assoc,List.cons_append,List.nil_append] at i1 i2;refine⟨i1,fun i oi hi hoi=>?_⟩;rcases Nat.lt_or_eq_of_le hi with h1 | h1
   ·exact i2 i oi h1 hoi
   ·subst h1;rw [ho] at hoi;cases hoi;refine⟨e,fun t=>?_,.inr (.inr ⟨j,c,f,args,?_,hg,hq,hen,hf⟩)⟩
    ·rw [he t];cases hw:wr ops t with
     | none=>rfl
     | some j =>
       simp only
       by_cases hlt:j<k
       ·rw [if_pos hlt,if_pos hlt,List.getElem?_append_left (by omega)]
       ·rw [if_neg hlt,if_neg hlt]
    ·rw [List.getElem?_append_right (by omega),hpre,Nat.sub_self];rfl
 | @skip j m o os e e' l hg _ ih =>
   intro k e0 pre hk hpre hst he;obtain⟨ho,hk'⟩:=drop_succ hk;obtain⟨i1,i2⟩:=ih (k+1) e0 (pre++[Act1.skip]) hk' (by simp [hpre]) hst (step (a:=.skip) (c:=.tup []) ho hpre hst rfl he);simp only [List.append_assoc,List.cons_append,List.nil_append] at i1 i2;refine⟨i1,fun i oi hi hoi=>?_⟩;rcases Nat.lt_or_eq_of_le hi with h1 | h1
   ·exact i2 i oi h1 hoi
   ·subst h1;rw [ho] at hoi;cases hoi;refine⟨e,fun t=>?_,.inr (.inl ⟨?_,hg⟩)⟩
    ·rw [he t];cases hw:wr ops t with
     | none=>rfl
     | some j =>
       simp only
       by_cases hlt:j<k
       ·rw [if_pos hlt,if_pos hlt,List.getElem?_append_left (by omega)]
       ·rw [if_neg hlt,if_neg hlt]
    ·rw [List.getElem?_append_right (by omega),hpre,Nat.sub_self];rfl
/-- A drawn region of which every operation only looks, or calls what leaves the memory alone. -/
theorem AWp.regQ {id m:Nat}{e e':Env}{l:List Act1}(hm:P.follows .mixedOrders=true)(hst:stat n ops=true)(hr:QRun P G H ops 0 ops.toList e l e' m)(h:Q .normal e' H (nx+ops.size)):AWp P G n (.region id ops true) e H nx Q:=by
 have hlen:l.length=ops.size:=by have:=hr.len;simpa using this
 obtain⟨_,n2,n3,n4⟩:=hr.nums;obtain⟨ea,em⟩:=effAt_spec (N:=ops.size) hr;obtain⟨h1,h2⟩:=hr.env (n:=n) 0 e [] (by simp) rfl hst (fun t=>by cases wr ops t <;> simp);simp only [List.nil_append] at h1 h2;simp only [stat,Bool.and_eq_true] at hst;have acts:∀ k,k<ops.size→∀ a,l[k]?=some a→∃ o,ops[k]?=some o∧((∃ c,a=.quiet c)∨a=.skip∨∃ j c,a=.eff j c∧isCallAt ops k=true):=by
  intro k hk a ha;have ho:ops[k]?=some ops[k]:=by simp [hk]
  obtain⟨_,_,h3⟩:=h2 k _ (Nat.zero_le _) ho;refine⟨_,ho,?_⟩;rcases h3 with⟨c,h3,_⟩ | ⟨h3,_⟩ | ⟨j,c,f,args,h3,_,h4,_⟩
  ·rw [ha] at h3;cases h3;exact .inl ⟨c,rfl⟩
  ·rw [ha] at h3;cases h3;exact .inr (.inl rfl)
  ·rw [ha] at h3;cases h3;exact .inr (.inr ⟨j,c,rfl,by unfold isCallAt;rw [ho];exact callA_isCall h4⟩)
 have hact:∀ k,(planQ ops H nx l m).act k=(l[k]?).getD .skip:=fun _=>rfl
 have noalloc:∀ k c kk,(planQ ops H nx l m).act k≠.alloc c kk:=by
  intro k c kk hx;rw [hact] at hx;cases hl:l[k]? with
  | none=>rw [hl] at hx;cases hx
  | some a =>
    have hlt:=(List.getElem?_eq_some_iff.mp hl).1;rw [hl] at hx;simp only [Option.getD_some] at hx;subst hx;obtain⟨_,_,h3⟩:=acts k (by omega) _ hl;rcases h3 with⟨_,h3⟩ | h3 | ⟨_,_,h3,_⟩ <;> cases h3
 have hnl:∀ J L b,newL ops (planQ ops H nx l m) nx J L b=none:=by
  intro J L b;unfold newL;split
  ·split
   ·rename_i c k hx;exact absurd hx (noalloc _ _ _)
   ·rfl
  ·rfl
 have hhl:∀ J L,heapL ops (planQ ops H nx l m) nx J L=H:=by
  intro J L;funext b;unfold heapL;rw [hnl];rfl
 have hskip:(planQ ops H nx l m).act ops.size=.skip:=by
  rw [hact,List.getElem?_eq_none (by omega)];rfl
 have hall:envL ops (planQ ops H nx l m) e (allL ops)=e':=by
  funext t
  rw [h1 t];unfold envL;cases hw:wr ops t with
  | none=>rfl
  | some j =>
    obtain⟨oj,hoj,_⟩:=wr_some hw;have hlt:=(Array.getElem?_eq_some_iff.mp hoj).1;simp only [allL,lt_blt hlt,hlt,if_true];rfl
 have ok:Plan.Ok P G n ops (planQ ops H nx l m) e H nx:=by
  refine⟨fun i o ho=>?_,Sub.refl _,rfl,fun j _=>Nat.le_refl _,fun J i c k _ ha hi _=>absurd ha (noalloc _ _ _),fun j hj=>?_,.inr ?_⟩
  ·have hso:=statL_spec (k:=0) hst.1 i o (by simpa using ho);rw [Nat.zero_add] at hso;have hil:i<ops.size:=(Array.getElem?_eq_some_iff.mp ho).1;have hed:∀ i o,ops[i]?=some o→∀ e∈o.after.toList,Region.binds .any e=true→e.on<i:=by
    intro i o ho;have:=statL_spec (k:=0) hst.1 i o (by simpa using ho);rw [Nat.zero_add] at this;exact statO_edges this
   obtain⟨ei,he,hac⟩:=h2 i o (Nat.zero_le _) ho;have hagree:∀ t∈o.looksAt ops,envL ops (planQ ops H nx l m) e (before ops i) t=ei t:=by
    intro t ht;rw [he t];unfold envL;cases hw:wr ops t with
    | none=>rfl
    | some j =>
      simp only;rcases statO_looks hso t ht j hw with ha | ha
      ·have hlt:=anc_lt hed ha;simp only [before,ha,if_pos hlt];rfl
      ·have hlt:=anc_lt hed ha;have hn:anc (ancs ops) i j=false:=by
        cases hx:anc (ancs ops) i j with
        | false=>rfl
        | true=>have:=anc_lt hed hx;omega
       simp only [before,hn];rw [if_neg (by omega)]
   refine⟨statO_dst hso,statO_looks hso,statO_edges hso,?_⟩;have hgd:=gd_congr (o:=o) hagree;have hrd:=rd_congr (G:=G) (o:=o) hagree;rcases hac with⟨c,hl,hg,hq⟩ | ⟨hl,hg⟩ | ⟨j,c,f,args,hl,hg,hq,hen,hf⟩
   ·have:(planQ ops H nx l m).act i=.quiet c:=by rw [hact,hl];rfl
    simp only [this];refine⟨by rw [hgd];exact hg,fun J _ _ _=>?_⟩;rw [hhl,qstep_congr hrd];exact hq
   ·have:(planQ ops H nx l m).act i=.skip:=by rw [hact,hl];rfl
    simp only [this];rw [hgd];exact hg
   ·have:(planQ ops H nx l m).act i=.eff j c:=by rw [hact,hl];rfl
    simp only [this];have hci:isCallAt ops i=true:=by unfold isCallAt;rw [ho];exact callA_isCall hq
    refine⟨by rw [hgd];exact hg,ea i j c hl,(n2 i j c hl).2,fun j' hj'=>?_,?_⟩
    ·obtain⟨k',c',hk'⟩:=n3 j' (Nat.zero_le _) (by have:=(n2 i j c hl).2;omega);have e1:(planQ ops H nx l m).eix j'=k':=ea k' j' c' hk';rw [e1];have hk'l:k'<ops.size:=by have:=(List.getElem?_eq_some_iff.mp hk').1;omega
     have hlt:k'<i:=by
      rcases Nat.lt_trichotomy k' i with h | h | h
      ·exact h
      ·subst h;rw [hl] at hk';cases hk';omega
      ·have:=n4 _ _ _ _ _ _ hl hk' h;omega
     obtain⟨_,_,h3⟩:=acts k' hk'l _ hk';rcases h3 with⟨_,h3⟩ | h3 | ⟨_,_,_,h3⟩
     ·cases h3
     ·cases h3
     ·exact statC_spec hst.2 hci h3 hlt
    ·rw [hhl];exact EffOk.call (by rw [callA_congr hrd];exact hq) hen (hf (nx+ops.size))
  ·obtain⟨k,c,hk⟩:=n3 j (Nat.zero_le _) hj;have e1:(planQ ops H nx l m).eix j=k:=ea k j c hk;refine⟨by rw [e1];have:=(List.getElem?_eq_some_iff.mp hk).1;omega,c,?_⟩;rw [e1,hact,hk];rfl
  ·show ops.size≤effAt l ops.size m
   rw [em];exact Nat.le_refl _
 have hmm:(planQ ops H nx l m).eix (planQ ops H nx l m).m=ops.size:=em;refine AWp.drawn hm ok (fun j v hv=>?_) (fun _=>?_)
 ·exfalso;rw [hmm,hskip] at hv;cases hv
 ·rw [hall,hhl];exact h
end
end Ax
end
end Go.Proofs.YtoookjadbhdfhaaGreatDoor
