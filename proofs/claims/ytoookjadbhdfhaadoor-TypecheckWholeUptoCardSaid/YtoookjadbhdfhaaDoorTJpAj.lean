/-
  AX: the closed executor once more, with every value made plain before it is put away (so that the kernel runs it fast).
-/
import Derived.Test.YtoookjadbhdfhaaDoorTJpAi
set_option linter.unusedSectionVars false
set_option linter.unusedSimpArgs false
set_option linter.unnecessarySimpa false
set_option linter.unusedVariables false
set_option linter.unusedSimpArgs false
set_option linter.unusedVariables false
namespace Go.Proofs.YtoookjadbhdfhaaDoor
section
namespace Ax
noncomputable section
end
end Ax
end
section
namespace Ax
/-- A value with all its blocks frozen. -/
def dvV (H:Heap):Nat→CV→CV
 | 0,_=>.any
 | f+1,c=>match c with
   | .ptr b o=>match H b with
     | some (.cells cs)=>match Nat.ble o cs.length with
       | true=>.rop ((cs.drop o).map (dvV H f))
       | false=>.any
     | _=>.any
   | .sl b o n k=>match H b with
     | some (.cells cs)=>match Nat.ble (o+n*k) cs.length with
       | true=>.lst ((rowsOf cs o k n).map fun r=>r.map (dvV H f))
       | false=>.any
     | _=>.any
   | .mp _=>.any
   | .rop cs=>.rop (cs.map (dvV H f))
   | .lst rows=>.lst (rows.map fun r=>r.map (dvV H f))
   | .fmp _ _=>.any
   | .fn g a b=>.fn g (a.map (dvV H f)) (b.map (dvV H f))
   | .iface t v=>.iface t (dvV H f v)
   | .agg cs=>.agg (cs.map (dvV H f))
   | .tup cs=>.tup (cs.map (dvV H f))
   | c=>c
/-- All blocks frozen. -/
noncomputable def Mp.all (M:Mp) (H:Heap) (w:World):Mp:=⟨fun g=>open Classical in if Im H M g then w.heap[g]? else M.fz g,M.bk⟩
theorem Mp.all_ext {M:Mp}{H:Heap}{nx:Nat}{w:World}(r:Rep M H nx w):Ext M (M.all H w):=by
 refine⟨fun g x hx=>?_,fun _ _ h=>h⟩;unfold Mp.all
 by_cases h:Im H M g
 ·obtain⟨b,k,m,h1,h2⟩:=h;exact (r.sep g x b k m hx h1 h2).elim
 ·simp only [h,if_false];exact hx
theorem Rep.all {M:Mp}{H:Heap}{nx:Nat}{w:World}(r:Rep M H nx w):Rep (M.all H w) Heap.no nx w∧Fr H M nx w Heap.no (M.all H w) nx w:=by
 refine⟨⟨fun _ _ h=>(by cases h),fun _ _ _ _ _ _ _ h=>(by cases h),r.fresh,fun g o h=>?_,fun _ _ _ _ _ _ h=>(by cases h)⟩,⟨Mp.all_ext r,rfl,rfl,rfl,Nat.le_refl _,fun _ _ _=>rfl,fun g ⟨_,_,_,h,_⟩=>(by cases h),fun _ _=>rfl,Nat.le_refl _,fun g o h=>?_⟩⟩
 ·unfold Mp.all at h
  by_cases hi:Im H M g
  ·simp only [hi,if_true] at h;exact h
  ·simp only [hi,if_false] at h;exact r.fz g o h
 ·unfold Mp.all at h
  by_cases hi:Im H M g
  ·exact .inr (.inl hi)
  ·simp only [hi,if_false] at h;exact .inl h
theorem rows_len {cs:List CV}{o k n:Nat}(h:o+n*k≤cs.length){i:Nat}(hi:i<n):((cs.drop (o+i*k)).take k).length=k:=by
 have:(i+1)*k≤n*k:=Nat.mul_le_mul_right _ hi;rw [Nat.add_mul] at this;simp;omega
theorem RV.all {M:Mp}{H:Heap}{nx:Nat}{w:World}(r:Rep M H nx w):∀ (f:Nat) (c:CV) (v:Value),RV M c v→RV (M.all H w) (dvV H f c) v:=by
 have he:=Mp.all_ext r;intro f
 induction f with
 | zero=>intro c v _;unfold dvV;exact .any _
 | succ f ih =>
   have lst:∀ {cs:List CV} {vs:List Value},RVs M cs vs→RVs (M.all H w) (cs.map (dvV H f)) vs:=by
    intro cs vs h;exact⟨by simpa using h.1,fun j a b=>by rw [List.getElem_map];exact ih _ _ (h.2 j (by simpa using a) b)⟩
   have blk:∀ {b:Nat} {cs:List CV} {g m:Nat},H b=some (.cells cs)→M.bk b=some (g,m)→∃ arr T,(M.all H w).fz g=some (.cells arr T (0,0))∧cs.length≤arr.size∧∀ j (a:j<cs.length) (h:j<arr.size),RV M cs[j] arr[j]:=by
    intro b cs g m hb hm;obtain⟨g',m',hm',arr,T,hw,hs,hr⟩:=r.blk b _ hb;rw [hm] at hm';cases hm';have hl:cs.length≤arr.size:=by have:=hr.1;simp at this;omega
    refine⟨arr,T,?_,hl,fun j a h=>?_⟩
    ·have hi:Im H M g:=⟨b,_,m,hb,hm⟩
     show (open Classical in if Im H M g then w.heap[g]? else M.fz g)=_
     simp only [hi,if_true];exact hw
    ·have:=hr.2 j a (by simp;omega);simpa using this
   intro c v h;cases h with
   | any v=>unfold dvV;exact .any v
   | bool b=>unfold dvV;exact .bool b
   | int k n=>unfold dvV;exact .int k n
   | str l s h=>unfold dvV;exact .str l s h
   | nilp=>unfold dvV;exact .nilp
   | nils=>unfold dvV;exact .nils
   | nilm=>unfold dvV;exact .nilm
   | nilf=>unfold dvV;exact .nilf
   | nili=>unfold dvV;exact .nili
   | mp b g m h=>unfold dvV;exact .any _
   | fmp=>unfold dvV;exact .any _
   | ptr b o g m h =>
     unfold dvV;dsimp only;split
     ·rename_i cs hb;split
      ·rename_i ho;have ho':=Nat.le_of_ble_eq_true ho;obtain⟨arr,T,hz,hl,hr⟩:=blk hb h;refine .rop _ g o arr T (0,0) hz (by simp;omega) (fun j a d=>?_);rw [List.getElem_map,List.getElem_drop];exact ih _ _ (hr (o+j) (by simp at a;omega) d)
      ·exact .any _
     ·exact .any _
   | sl b o n k g m c h hn hm =>
     unfold dvV;dsimp only;split
     ·rename_i cs hb;split
      ·rename_i ho;have ho':=Nat.le_of_ble_eq_true ho;obtain⟨arr,T,hz,hl,hr⟩:=blk hb h;refine .lst _ g o n k c arr T (0,0) hz (by simp [rowsOf]) hn (fun x hx=>?_) (by omega) (fun i a j d dd=>?_)
       ·obtain⟨x1,h1,rfl⟩:=List.mem_map.mp hx;obtain⟨i,hi,rfl⟩:=List.mem_map.mp h1;rw [List.length_map];exact rows_len ho' (by simpa using hi)
       ·have hi:i<n:=by simpa [rowsOf] using a
        have hj:j<k:=by
         simp only [rowsOf,List.getElem_map,List.getElem_range,List.length_map] at d;rw [rows_len ho' hi] at d;exact d
        have hlt:=mul_lt_row (k:=k) hi hj;simp only [rowsOf,List.getElem_map,List.getElem_range,List.getElem_take,List.getElem_drop];exact ih _ _ (hr (o+i*k+j) (by omega) dd)
      ·exact .any _
     ·exact .any _
   | rop cs g o arr T fr h hl hr =>
     unfold dvV;exact .rop _ g o arr T fr (he.fz _ _ h) (by simpa using hl) (fun j a b=>by rw [List.getElem_map];exact ih _ _ (hr j (by simpa using a) b))
   | lst0 a c=>unfold dvV;exact .lst0 a c
   | lst rows g o n k c arr T fr h hn hc hk hl hr =>
     unfold dvV;refine .lst _ g o n k c arr T fr (he.fz _ _ h) (by simpa using hn) hc (fun x hx=>?_) hl (fun i a j b d=>?_)
     ·obtain⟨x1,h1,rfl⟩:=List.mem_map.mp hx;rw [List.length_map];exact hk x1 h1
     ·simp only [List.getElem_map] at b ⊢;exact ih _ _ (hr i (by simpa using a) j (by simpa using b) d)
   | fn g a b a' b' l1 l2 h1 h2 =>
     unfold dvV;have r1:=lst (cs:=a) (vs:=a') ⟨l1,h1⟩;have r2:=lst (cs:=b) (vs:=b') ⟨l2,h2⟩;exact .fn g _ _ a' b' r1.1 r2.1 r1.2 r2.2
   | iface t x v h=>unfold dvV;exact .iface t _ v (ih _ _ h)
   | agg cs vs hl hr =>
     unfold dvV;have r1:=lst (cs:=cs) (vs:=vs) ⟨hl,hr⟩;exact .agg _ vs r1.1 r1.2
   | tup cs vs hl hr =>
     unfold dvV;have r1:=lst (cs:=cs) (vs:=vs) ⟨hl,hr⟩;exact .tup _ vs r1.1 r1.2
   | opt g c v h1 h0=>unfold dvV;exact (RV.opt g c v h1 h0).ext he
/-- A contract that leaves the memory and the numbers alone. -/
def FCall1 (P:Program)(G:Nat→CV)(f:FuncId)(args:List CV)(v:CV):Prop:=∀ H nx,ACall P G f args H nx fun r H' nx'=>r=.ret v∧H'=H∧nx'=nx
theorem FCall1.f {P:Program}{G:Nat→CV}{f:FuncId}{args:List CV}{v:CV}(h:FCall1 P G f args v):FCall P G f args fun r=>r=.ret v:=fun H nx=>(h H nx).mono fun _ _ _ ⟨a,b,_⟩=>⟨b,a⟩
/-- What a closed run leaves, frozen. -/
theorem FCall1.closed {P:Program}{G:Nat→CV}{call:Call1}(hc:CallOk P G call)(hG:∀ g,puV (G g)=true){f:FuncId}{args:List CV}{v u:CV}{h':Tr CB}{nx':Nat}(ha:puL args=true)(hr:call f args .lf 0=some (.ret v,h',nx'))(fu:Nat)(hu:dvV (hv h') fu v=u)(hp:puV u=true) :
  FCall1 P G f args u:=by
 intro H nx M w vs g r rv;have r0:Rep ⟨M.fz,fun _=>none⟩ Heap.no 0 w:=⟨fun _ _ h=>(by cases h),fun _ _ _ _ _ _ _ h=>(by cases h),fun _ _=>rfl,r.fz,fun _ _ _ _ _ _ h=>(by cases h)⟩;refine (hc f args .lf 0 _ _ _ hr ⟨M.fz,fun _=>none⟩ w vs (RG.swap (M:=M) (M':=⟨M.fz,fun _=>none⟩) (fun _ _ h=>h) g hG) (r0.weak (fun b k h=>by simp [hv,Tr.get] at h)) (RVs.swap (M:=M) (M':=⟨M.fz,fun _=>none⟩) (fun _ _ h=>h) rv ha)).mono ?_;rintro e w' ⟨M1,x,H1,nx1,a1,a2,a3,rfl,rfl,rfl⟩;cases e <;> simp only [EndR] at a1;rename_i val;obtain⟨b1,b2⟩:=a2.all;have hval:=RV.all a2 fu v val a1;rw [hu] at hval;have fno:Fr Heap.no ⟨M.fz,fun _=>none⟩ 0 w Heap.no (M1.all (hv h') w') nx1 w':=by
  have:=a3.trans b2;have e0:hv (.lf:Tr CB)=Heap.no:=rfl;rw [e0] at this;exact this
 -- back beside the caller's blocks
 have hlow:∀ g o,(M1.all (hv h') w').fz g=some o→w'.heap[g]?=some o:=b1.fz;have rr:Rep ⟨(M1.all (hv h') w').fz,M.bk⟩ H nx w'∧Fr H M nx w H ⟨(M1.all (hv h') w').fz,M.bk⟩ nx w':=by
  have ni:∀ b k g m,H b=some k→M.bk b=some (g,m)→g<w.heap.size∧w'.heap[g]?=w.heap[g]?∧∀ o,(M1.all (hv h') w').fz g≠some o:=by
   intro b k g m hb hm;have hlt:=r.lt hb hm;refine⟨hlt,fno.kept g hlt (fun ⟨_,_,_,h,_⟩=>by cases h),fun o ho=>?_⟩;rcases fno.fzn g o ho with h1 | ⟨_,_,_,h1,_⟩ | h1
   ·exact r.sep g o b k m h1 hb hm
   ·cases h1
   ·omega
  have he:Ext M ⟨(M1.all (hv h') w').fz,M.bk⟩:=⟨fun x y h=>fno.ext.fz x y h,fun _ _ h=>h⟩;refine⟨⟨fun b k hb=>?_,r.inj,r.fresh,hlow,fun g o b k m hz hb hm=>(ni b k g m hb hm).2.2 o hz⟩,⟨he,fno.os,fno.tape,fno.output,fno.grown,fun g hg _=>fno.kept g hg (fun ⟨_,_,_,h,_⟩=>by cases h),fun _ h=>.inl h,fun _ _=>rfl,Nat.le_refl _,fun g o h=>?_⟩⟩
  ·obtain⟨g,m,h1,h2⟩:=r.blk b k hb;exact⟨g,m,h1,h2.ext he (ni b k g m hb h1).2.1⟩
  ·rcases fno.fzn g o h with h1 | ⟨_,_,_,h1,_⟩ | h1
   ·exact .inl h1
   ·cases h1
   ·exact .inr (.inr h1)
 exact⟨⟨(M1.all (hv h') w').fz,M.bk⟩,.ret u,H,nx,hval.swap (M:=M1.all (hv h') w') (M':=⟨(M1.all (hv h') w').fz,M.bk⟩) (fun _ _ h=>h) hp,rr.1,rr.2,rfl,rfl,rfl⟩
/-- What a run gives, frozen. -/
def dvOut (x:Option (Res×Tr CB×Nat)):Option CV:=match x with
 | some (.ret v,h,_)=>some (dvV (hv h) 60 v)
 | _=>none
theorem FCall1.run {P:Program}{G:Nat→CV}{call:Call1}(hc:CallOk P G call)(hG:∀ g,puV (G g)=true){f:FuncId}{args:List CV}{u:CV}(ha:puL args=true)(hr:dvOut (call f args .lf 0)=some u)(hp:puV u=true):FCall1 P G f args u:=by
 unfold dvOut at hr;split at hr
 ·rename_i v h n hx;cases hr;exact FCall1.closed hc hG ha hx 60 rfl hp
 ·cases hr
end Ax
end
section
namespace Ax
/-- The operations of a drawn region that are left. -/
def AQl (P:Program)(G:Nat→CV)(H:Heap)(ops:Array Oper)(os:List Oper)(e:Env)(K:Env→Prop):Prop:=∀ j,∃ l e' m,QRun P G H ops j os e l e' m∧K e'
section
variable {P:Program} {G:Nat→CV} {n:Nat} {e:Env} {H:Heap} {nx:Nat} {Q:AExit→Env→Heap→Nat→Prop} {ops:Array Oper} {os:List Oper} {K:Env→Prop}
theorem AQl.nil (h:K e):AQl P G H ops [] e K:=fun j=>⟨[],e,j,.nil j e,h⟩
variable {d:Option Nat} {op:Op} {ty:TypeId} {pos:String} {af:Array Edge} {g:Option (Nat×Bool)}
theorem AQl.stepG (hg:gd ops e ⟨d,op,ty,pos,af,g⟩=some true){c:CV}(hq:qstep P H (rd G e) op=some c)(h:AQl P G H ops os (putE e d c) K):AQl P G H ops (⟨d,op,ty,pos,af,g⟩::os) e K:=fun j=>by
 obtain⟨l,e',m,h1,h2⟩:=h j;exact⟨_,e',m,.look (o:=⟨d,op,ty,pos,af,g⟩) c hg hq h1,h2⟩
theorem AQl.step {c:CV}(hq:qstep P H (rd G e) op=some c)(h:AQl P G H ops os (putE e d c) K):AQl P G H ops (⟨d,op,ty,pos,af,none⟩::os) e K:=AQl.stepG rfl hq h
theorem AQl.pass (hg:gd ops e ⟨d,op,ty,pos,af,g⟩=some false)(h:AQl P G H ops os (putE e d (.tup [])) K):AQl P G H ops (⟨d,op,ty,pos,af,g⟩::os) e K:=fun j=>by
 obtain⟨l,e',m,h1,h2⟩:=h j;exact⟨_,e',m,.skip (o:=⟨d,op,ty,pos,af,g⟩) hg h1,h2⟩
/-- A call that leaves the memory and the numbers alone. -/
theorem AQl.callG (hg:gd ops e ⟨d,op,ty,pos,af,g⟩=some true){f:FuncId}{args:List CV}(hq:callA (rd G e) op=some (f,args))(he:enters P f=true){v:CV}(hf:∀ nx,ACall P G f args H nx fun r H' nx'=>r=.ret v∧H'=H∧nx'=nx)
  (h:AQl P G H ops os (putE e d v) K):AQl P G H ops (⟨d,op,ty,pos,af,g⟩::os) e K:=fun j=>by
 obtain⟨l,e',m,h1,h2⟩:=h (j+1);exact⟨_,e',m,.call (o:=⟨d,op,ty,pos,af,g⟩) v hg hq he hf h1,h2⟩
theorem AQl.call {f:FuncId}{args:List CV}(hq:callA (rd G e) op=some (f,args))(he:enters P f=true){v:CV}(hf:FCall1 P G f args v)(h:AQl P G H ops os (putE e d v) K):AQl P G H ops (⟨d,op,ty,pos,af,none⟩::os) e K:=AQl.callG rfl hq he (hf H) h
theorem AQl.callg (hg:gd ops e ⟨d,op,ty,pos,af,g⟩=some true){f:FuncId}{args:List CV}(hq:callA (rd G e) op=some (f,args))(he:enters P f=true){v:CV}(hf:FCall1 P G f args v)(h:AQl P G H ops os (putE e d v) K):AQl P G H ops (⟨d,op,ty,pos,af,g⟩::os) e K:=AQl.callG hg hq he (hf H) h
/-- A contract without memory whose values are pure leaves the numbers alone, too. -/
theorem FCall.one {f:FuncId}{args:List CV}{v:CV}(hG:∀ g,puV (G g)=true)(ha:puL args=true)(hv:puV v=true)(h:FCall P G f args fun r=>r=.ret v):FCall1 P G f args v:=by
 intro H nx M w vs g r rv;have h0:=h Heap.no 0;have r0:Rep ⟨M.fz,fun _=>none⟩ Heap.no 0 w:=⟨fun _ _ h=>(by cases h),fun _ _ _ _ _ _ _ h=>(by cases h),fun _ _=>rfl,r.fz,fun _ _ _ _ _ _ h=>(by cases h)⟩;refine (h0 ⟨M.fz,fun _=>none⟩ w vs (RG.swap (M:=M) (M':=⟨M.fz,fun _=>none⟩) (fun _ _ h=>h) g hG) r0 (RVs.swap (M:=M) (M':=⟨M.fz,fun _=>none⟩) (fun _ _ h=>h) rv ha)).mono ?_;rintro e w' ⟨M1,x,H1,nx1,a1,a2,a3,a4,rfl⟩;subst a4;have ni:∀ b k g m,H b=some k→M.bk b=some (g,m)→g<w.heap.size∧w'.heap[g]?=w.heap[g]?∧∀ o,M1.fz g≠some o:=by
  intro b k g m hb hm;have hlt:=r.lt hb hm;refine⟨hlt,a3.kept g hlt (fun ⟨_,_,_,h,_⟩=>by cases h),fun o ho=>?_⟩;rcases a3.fzn g o ho with h1 | ⟨_,_,_,h1,_⟩ | h1
  ·exact r.sep g o b k m h1 hb hm
  ·cases h1
  ·omega
 have he:Ext M ⟨M1.fz,M.bk⟩:=⟨fun x y h=>a3.ext.fz x y h,fun _ _ h=>h⟩;refine⟨⟨M1.fz,M.bk⟩,.ret v,H,nx,EndR.swap (M:=M1) (M':=⟨M1.fz,M.bk⟩) (fun _ _ h=>h) a1 hv,⟨fun b k hb=>?_,r.inj,r.fresh,a2.fz,fun g o b k m hz hb hm=>(ni b k g m hb hm).2.2 o hz⟩,⟨he,a3.os,a3.tape,a3.output,a3.grown,fun g hg _=>a3.kept g hg (fun ⟨_,_,_,h,_⟩=>by cases h),fun _ h=>.inl h,fun _ _=>rfl,Nat.le_refl _,fun g o h=>?_⟩,rfl,rfl,rfl⟩
 ·obtain⟨g,m,h1,h2⟩:=r.blk b k hb;exact⟨g,m,h1,h2.ext he (ni b k g m hb h1).2.1⟩
 ·rcases a3.fzn g o h with h1 | ⟨_,_,_,h1,_⟩ | h1
  ·exact .inl h1
  ·cases h1
  ·exact .inr (.inr h1)
theorem range2:List.range 2=[0,1]:=rfl
/-- Arguments of which less is asked. -/
theorem FCall.imp {f:FuncId}{args args':List CV}{R:Res→Prop}(h:∀ M vs,RVs M args vs→RVs M args' vs)(hf:FCall P G f args' R):FCall P G f args R:=fun H nx M w vs g r v=>hf H nx M w vs g r (h M vs v)
theorem RV.nil_lst {M:Mp}{v:Value}(h:RV M .nils v):RV M (.lst []) v:=by cases h;exact .lst0 _ _
/-- A loop that counts up to N. -/
theorem AWp.count {c:Code}(N:Nat)(S:Nat→Env→Heap→Nat→Prop)(h0:S 0 e H nx)
  (round:∀ i e H nx,i≤N→S i e H nx→AWp P G n c e H nx (Xw (fun e' H' nx'=>i<N∧S (i+1) e' H' nx') Q)):AWp P G n (.loop c) e H nx Q:=by
 refine AWp.loop (α:=Nat) (fun k e H nx=>k≤N∧S (N-k) e H nx) id N ⟨Nat.le_refl _,by simpa using h0⟩ ?_;rintro k e H nx ⟨hk,hs⟩;refine (round (N-k) e H nx (by omega) hs).mono ?_;intro x e H nx hx;cases x with
 | normal =>
   obtain⟨h1,h2⟩:=hx;exact⟨k-1,by simp only [id];omega,by omega,by rwa [show N-(k-1)=N-k+1 by omega]⟩
 | exit i=>exact hx
 | ret=>exact hx
 | pan v=>exact hx
end
end Ax
end
end Go.Proofs.YtoookjadbhdfhaaDoor
