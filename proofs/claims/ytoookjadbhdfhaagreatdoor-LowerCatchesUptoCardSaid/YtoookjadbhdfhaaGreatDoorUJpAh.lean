/-
  AX: the closed executor once more, with every value made plain before it is put away (so that the kernel runs it fast).
-/
import Derived.Test.YtoookjadbhdfhaaGreatDoorUJpAg
set_option linter.unusedSectionVars false
set_option linter.unusedSimpArgs false
set_option linter.unnecessarySimpa false
set_option linter.unusedVariables false
set_option linter.unusedSimpArgs false
set_option linter.unusedVariables false
namespace Go.Proofs.YtoookjadbhdfhaaGreatDoor
section
namespace Ax
noncomputable section
end
end Ax
end
section
namespace Ax
/-- A value with all its blocks frozen. -/
def dvV (H:Heap):Nat→CV→CV
 | 0,_=>.any
 | f+1,c=>match c with
   | .ptr b o=>match H b with
     | some (.cells cs)=>match Nat.ble o cs.length with
       | true=>.rop ((cs.drop o).map (dvV H f))
       | false=>.any
     | _=>.any
   | .sl b o n k=>match H b with
     | some (.cells cs)=>match Nat.ble (o+n*k) cs.length with
       | true=>.lst ((rowsOf cs o k n).map fun r=>r.map (dvV H f))
       | false=>.any
     | _=>.any
   | .mp _=>.any
   | .rop cs=>.rop (cs.map (dvV H f))
   | .lst rows=>.lst (rows.map fun r=>r.map (dvV H f))
   | .fmp _ _=>.any
   | .fn g a b=>.fn g (a.map (dvV H f)) (b.map (dvV H f))
   | .iface t v=>.iface t (dvV H f v)
   | .agg cs=>.agg (cs.map (dvV H f))
   | .tup cs=>.tup (cs.map (dvV H f))
   | c=>c
/-- All blocks frozen. -/
noncomputable def Mp.all (M:Mp) (H:Heap) (w:World):Mp:=⟨fun g=>open Classical in if Im H M g then w.heap[g]? else M.fz g,M.bk⟩
theorem Mp.all_ext {M:Mp}{H:Heap}{nx:Nat}{w:World}(r:Rep M H nx w):Ext M (M.all H w):=by
 refine⟨fun g x hx=>?_,fun _ _ h=>h⟩;unfold Mp.all
 by_cases h:Im H M g
 ·obtain⟨b,k,m,h1,h2⟩:=h;exact (r.sep g x b k m hx h1 h2).elim
 ·simp only [h,if_false];exact hx
theorem Rep.all {M:Mp}{H:Heap}{nx:Nat}{w:World}(r:Rep M H nx w):Rep (M.all H w) Heap.no nx w∧Fr H M nx w Heap.no (M.all H w) nx w:=by
 refine⟨⟨fun _ _ h=>(by cases h),fun _ _ _ _ _ _ _ h=>(by cases h),r.fresh,fun g o h=>?_,fun _ _ _ _ _ _ h=>(by cases h)⟩,⟨Mp.all_ext r,rfl,rfl,rfl,Nat.le_refl _,fun _ _ _=>rfl,fun g ⟨_,_,_,h,_⟩=>(by cases h),fun _ _=>rfl,Nat.le_refl _,fun g o h=>?_⟩⟩
 ·unfold Mp.all at h
  by_cases hi:Im H M g
  ·simp only [hi,if_true] at h;exact h
  ·simp only [hi,if_false] at h;exact r.fz g o h
 ·unfold Mp.all at h
  by_cases hi:Im H M g
  ·exact .inr (.inl hi)
  ·simp only [hi,if_false] at h;exact .inl h
theorem rows_len {cs:List CV}{o k n:Nat}(h:o+n*k≤cs.length){i:Nat}(hi:i<n):((cs.drop (o+i*k)).take k).length=k:=by
 have:(i+1)*k≤n*k:=Nat.mul_le_mul_right _ hi;rw [Nat.add_mul] at this;simp;omega
theorem RV.all {M:Mp}{H:Heap}{nx:Nat}{w:World}(r:Rep M H nx w):∀ (f:Nat) (c:CV) (v:Value),RV M c v→RV (M.all H w) (dvV H f c) v:=by
 have he:=Mp.all_ext r;intro f
 induction f with
 | zero=>intro c v _;unfold dvV;exact .any _
 | succ f ih =>
   have lst:∀ {cs:List CV} {vs:List Value},RVs M cs vs→RVs (M.all H w) (cs.map (dvV H f)) vs:=by
    intro cs vs h;exact⟨by simpa using h.1,fun j a b=>by rw [List.getElem_map];exact ih _ _ (h.2 j (by simpa using a) b)⟩
   have blk:∀ {b:Nat} {cs:List CV} {g m:Nat},H b=some (.cells cs)→M.bk b=some (g,m)→∃ arr T,(M.all H w).fz g=some (.cells arr T (0,0))∧cs.length≤arr.size∧∀ j (a:j<cs.length) (h:j<arr.size),RV M cs[j] arr[j]:=by
    intro b cs g m hb hm;obtain⟨g',m',hm',arr,T,hw,hs,hr⟩:=r.blk b _ hb;rw [hm] at hm';cases hm';have hl:cs.length≤arr.size:=by have:=hr.1;simp at this;omega
    refine⟨arr,T,?_,hl,fun j a h=>?_⟩
    ·have hi:Im H M g:=⟨b,_,m,hb,hm⟩
     show (open Classical in if Im H M g then w.heap[g]? else M.fz g)=_
     simp only [hi,if_true];exact hw
    ·have:=hr.2 j a (by simp;omega);simpa using this
   intro c v h;cases h with
   | any v=>unfold dvV;exact .any v
   | bool b=>unfold dvV;exact .bool b
   | int k n=>unfold dvV;exact .int k n
   | str l s h=>unfold dvV;exact .str l s h
   | nilp=>unfold dvV;exact .nilp
   | nils=>unfold dvV;exact .nils
   | nilm=>unfold dvV;exact .nilm
   | nilf=>unfold dvV;exact .nilf
   | nili=>unfold dvV;exact .nili
   | mp b g m h=>unfold dvV;exact .any _
   | fmp=>unfold dvV;exact .any _
   | ptr b o g m h =>
     unfold dvV;dsimp only;split
     ·rename_i cs hb;split
      ·rename_i ho;have ho':=Nat.le_of_ble_eq_true ho;obtain⟨arr,T,hz,hl,hr⟩:=blk hb h;refine .rop _ g o arr T (0,0) hz (by simp;omega) (fun j a d=>?_);rw [List.getElem_map,List.getElem_drop];exact ih _ _ (hr (o+j) (by simp at a;omega) d)
      ·exact .any _
     ·exact .any _
   | sl b o n k g m c h hn hm =>
     unfold dvV;dsimp only;split
     ·rename_i cs hb;split
      ·rename_i ho;have ho':=Nat.le_of_ble_eq_true ho;obtain⟨arr,T,hz,hl,hr⟩:=blk hb h;refine .lst _ g o n k c arr T (0,0) hz (by simp [rowsOf]) hn (fun x hx=>?_) (by omega) (fun i a j d dd=>?_)
       ·obtain⟨x1,h1,rfl⟩:=List.mem_map.mp hx;obtain⟨i,hi,rfl⟩:=List.mem_map.mp h1;rw [List.length_map];exact rows_len ho' (by simpa using hi)
       ·have hi:i<n:=by simpa [rowsOf] using a
        have hj:j<k:=by
         simp only [rowsOf,List.getElem_map,List.getElem_range,List.length_map] at d;rw [rows_len ho' hi] at d;exact d
        have hlt:=mul_lt_row (k:=k) hi hj;simp only [rowsOf,List.getElem_map,List.getElem_range,List.getElem_take,List.getElem_drop];exact ih _ _ (hr (o+i*k+j) (by omega) dd)
      ·exact .any _
     ·exact .any _
   | rop cs g o arr T fr h hl hr =>
     unfold dvV;exact .rop _ g o arr T fr (he.fz _ _ h) (by simpa using hl) (fun j a b=>by rw [List.getElem_map];exact ih _ _ (hr j (by simpa using a) b))
   | lst0 a c=>unfold dvV;exact .lst0 a c
   | lst rows g o n k c arr T fr h hn hc hk hl hr =>
     unfold dvV;refine .lst _ g o n k c arr T fr (he.fz _ _ h) (by simpa using hn) hc (fun x hx=>?_) hl (fun i a j b d=>?_)
     ·obtain⟨x1,h1,rfl⟩:=List.mem_map.mp hx;rw [List.length_map];exact hk x1 h1
     ·simp only [List.getElem_map] at b ⊢;exact ih _ _ (hr i (by simpa using a) j (by simpa using b) d)
   | fn g a b a' b' l1 l2 h1 h2 =>
     unfold dvV;have r1:=lst (cs:=a) (vs:=a') ⟨l1,h1⟩;have r2:=lst (cs:=b) (vs:=b') ⟨l2,h2⟩;exact .fn g _ _ a' b' r1.1 r2.1 r1.2 r2.2
   | iface t x v h=>unfold dvV;exact .iface t _ v (ih _ _ h)
   | agg cs vs hl hr =>
     unfold dvV;have r1:=lst (cs:=cs) (vs:=vs) ⟨hl,hr⟩;exact .agg _ vs r1.1 r1.2
   | tup cs vs hl hr =>
     unfold dvV;have r1:=lst (cs:=cs) (vs:=vs) ⟨hl,hr⟩;exact .tup _ vs r1.1 r1.2
   | opt g c v h1 h0=>unfold dvV;exact (RV.opt g c v h1 h0).ext he
/-- A contract that leaves the memory and the numbers alone. -/
def FCall1 (P:Program)(G:Nat→CV)(f:FuncId)(args:List CV)(v:CV):Prop:=∀ H nx,ACall P G f args H nx fun r H' nx'=>r=.ret v∧H'=H∧nx'=nx
theorem FCall1.f {P:Program}{G:Nat→CV}{f:FuncId}{args:List CV}{v:CV}(h:FCall1 P G f args v):FCall P G f args fun r=>r=.ret v:=fun H nx=>(h H nx).mono fun _ _ _ ⟨a,b,_⟩=>⟨b,a⟩
/-- What a closed run leaves, frozen. -/
theorem FCall1.closed {P:Program}{G:Nat→CV}{call:Call1}(hc:CallOk P G call)(hG:∀ g,puV (G g)=true){f:FuncId}{args:List CV}{v u:CV}{h':Tr CB}{nx':Nat}(ha:puL args=true)(hr:call f args .lf 0=some (.ret v,h',nx'))(fu:Nat)(hu:dvV (hv h') fu v=u)(hp:puV u=true) :
  FCall1 P G f args u:=by
 intro H nx M w vs g r rv;have r0:Rep ⟨M.fz,fun _=>none⟩ Heap.no 0 w:=⟨fun _ _ h=>(by cases h),fun _ _ _ _ _ _ _ h=>(by cases h),fun _ _=>rfl,r.fz,fun _ _ _ _ _ _ h=>(by cases h)⟩;refine (hc f args .lf 0 _ _ _ hr ⟨M.fz,fun _=>none⟩ w vs (RG.swap (M:=M) (M':=⟨M.fz,fun _=>none⟩) (fun _ _ h=>h) g hG) (r0.weak (fun b k h=>by simp [hv,Tr.get] at h)) (RVs.swap (M:=M) (M':=⟨M.fz,fun _=>none⟩) (fun _ _ h=>h) rv ha)).mono ?_;rintro e w' ⟨M1,x,H1,nx1,a1,a2,a3,rfl,rfl,rfl⟩;cases e <;> simp only [EndR] at a1;rename_i val;obtain⟨b1,b2⟩:=a2.all;have hval:=RV.all a2 fu v val a1;rw [hu] at hval;have fno:Fr Heap.no ⟨M.fz,fun _=>none⟩ 0 w Heap.no (M1.all (hv h') w') nx1 w':=by
  have:=a3.trans b2;have e0:hv (.lf:Tr CB)=Heap.no:=rfl;rw [e0] at this;exact this
 -- back beside the caller's blocks
 have hlow:∀ g o,(M1.all (hv h') w').fz g=some o→w'.heap[g]?=some o:=b1.fz;have rr:Rep ⟨(M1.all (hv h') w').fz,M.bk⟩ H nx w'∧Fr H M nx w H ⟨(M1.all (hv h') w').fz,M.bk⟩ nx w':=by
  have ni:∀ b k g m,H b=some k→M.bk b=some (g,m)→g<w.heap.size∧w'.heap[g]?=w.heap[g]?∧∀ o,(M1.all (hv h') w').fz g≠some o:=by
   intro b k g m hb hm;have hlt:=r.lt hb hm;refine⟨hlt,fno.kept g hlt (fun ⟨_,_,_,h,_⟩=>by cases h),fun o ho=>?_⟩;rcases fno.fzn g o ho with h1 | ⟨_,_,_,h1,_⟩ | h1
   ·exact r.sep g o b k m h1 hb hm
   ·cases h1
   ·omega
  have he:Ext M ⟨(M1.all (hv h') w').fz,M.bk⟩:=⟨fun x y h=>fno.ext.fz x y h,fun _ _ h=>h⟩;refine⟨⟨fun b k hb=>?_,r.inj,r.fresh,hlow,fun g o b k m hz hb hm=>(ni b k g m hb hm).2.2 o hz⟩,⟨he,fno.os,fno.tape,fno.output,fno.grown,fun g hg _=>fno.kept g hg (fun ⟨_,_,_,h,_⟩=>by cases h),fun _ h=>.inl h,fun _ _=>rfl,Nat.le_refl _,fun g o h=>?_⟩⟩
  ·obtain⟨g,m,h1,h2⟩:=r.blk b k hb;exact⟨g,m,h1,h2.ext he (ni b k g m hb h1).2.1⟩
  ·rcases fno.fzn g o h with h1 | ⟨_,_,_,h1,_⟩ | h1
   ·exact .inl h1
   ·cases h1
   ·exact .inr (.inr h1)
 exact⟨⟨(M1.all (hv h') w').fz,M.bk⟩,.ret u,H,nx,hval.swap (M:=M1.all (hv h') w') (M':=⟨(M1.all (hv h') w').fz,M.bk⟩) (fun _ _ h=>h) hp,rr.1,rr.2,rfl,rfl,rfl⟩
/-- What a run gives, frozen. -/
def dvOut (x:Option (Res×Tr CB×Nat)):Option CV:=match x with
 | some (.ret v,h,_)=>some (dvV (hv h) 60 v)
 | _=>none
theorem FCall1.run {P:Program}{G:Nat→CV}{call:Call1}(hc:CallOk P G call)(hG:∀ g,puV (G g)=true){f:FuncId}{args:List CV}{u:CV}(ha:puL args=true)(hr:dvOut (call f args .lf 0)=some u)(hp:puV u=true):FCall1 P G f args u:=by
 unfold dvOut at hr;split at hr
 ·rename_i v h n hx;cases hr;exact FCall1.closed hc hG ha hx 60 rfl hp
 ·cases hr
end Ax
end
section
namespace Ax
/-- The operations of a drawn region that are left. -/
def AQl (P:Program)(G:Nat→CV)(H:Heap)(ops:Array Oper)(os:List Oper)(e:Env)(K:Env→Prop):Prop:=∀ j,∃ l e' m,QRun P G H ops j os e l e' m∧K e'
section
variable {P:Program} {G:Nat→CV} {n:Nat} {e:Env} {H:Heap} {nx:Nat} {Q:AExit→Env→Heap→Nat→Prop} {ops:Array Oper} {os:List Oper} {K:Env→Prop}
theorem AQl.nil (h:K e):AQl P G H ops [] e K:=fun j=>⟨[],e,j,.nil j e,h⟩
variable {d:Option Nat} {op:Op} {ty:TypeId} {pos:String} {af:Array Edge} {g:Option (Nat×Bool)}
theorem AQl.stepG (hg:gd ops e ⟨d,op,ty,pos,af,g⟩=some true){c:CV}(hq:qstep P H (rd G e) op=some c)(h:AQl P G H ops os (putE e d c) K):AQl P G H ops (⟨d,op,ty,pos,af,g⟩::os) e K:=fun j=>by
 obtain⟨l,e',m,h1,h2⟩:=h j;exact⟨_,e',m,.look (o:=⟨d,op,ty,pos,af,g⟩) c hg hq h1,h2⟩
theorem AQl.step {c:CV}(hq:qstep P H (rd G e) op=some c)(h:AQl P G H ops os (putE e d c) K):AQl P G H ops (⟨d,op,ty,pos,af,none⟩::os) e K:=AQl.stepG rfl hq h
theorem AQl.pass (hg:gd ops e ⟨d,op,ty,pos,af,g⟩=some false)(h:AQl P G H ops os (putE e d (.tup [])) K):AQl P G H ops (⟨d,op,ty,pos,af,g⟩::os) e K:=fun j=>by
 obtain⟨l,e',m,h1,h2⟩:=h j;exact⟨_,e',m,.skip (o:=⟨d,op,ty,pos,af,g⟩) hg h1,h2⟩
/-- A call that leaves the memory and the numbers alone. -/
theorem AQl.callG (hg:gd ops e ⟨d,op,ty,pos,af,g⟩=some true){f:FuncId}{args:List CV}(hq:callA (rd G e) op=some (f,args))(he:enters P f=true){v:CV}(hf:∀ nx,ACall P G f args H nx fun r H' nx'=>r=.ret v∧H'=H∧nx'=nx)
  (h:AQl P G H ops os (putE e d v) K):AQl P G H ops (⟨d,op,ty,pos,af,g⟩::os) e K:=fun j=>by
 obtain⟨l,e',m,h1,h2⟩:=h (j+1);exact⟨_,e',m,.call (o:=⟨d,op,ty,pos,af,g⟩) v hg hq he hf h1,h2⟩
theorem AQl.call {f:FuncId}{args:List CV}(hq:callA (rd G e) op=some (f,args))(he:enters P f=true){v:CV}(hf:FCall1 P G f args v)(h:AQl P G H ops os (putE e d v) K):AQl P G H ops (⟨d,op,ty,pos,af,none⟩::os) e K:=AQl.callG rfl hq he (hf H) h
theorem AQl.callg (hg:gd ops e ⟨d,op,ty,pos,af,g⟩=some true){f:FuncId}{args:List CV}(hq:callA (rd G e) op=some (f,args))(he:enters P f=true){v:CV}(hf:FCall1 P G f args v)(h:AQl P G H ops os (putE e d v) K):AQl P G H ops (⟨d,op,ty,pos,af,g⟩::os) e K:=AQl.callG hg hq he (hf H) h
/-- A contract without memory whose values are pure leaves the numbers alone, too. -/
theorem FCall.one {f:FuncId}{args:List CV}{v:CV}(hG:∀ g,puV (G g)=true)(ha:puL args=true)(hv:puV v=true)(h:FCall P G f args fun r=>r=.ret v):FCall1 P G f args v:=by
 intro H nx M w vs g r rv;have h0:=h Heap.no 0;have r0:Rep ⟨M.fz,fun _=>none⟩ Heap.no 0 w:=⟨fun _ _ h=>(by cases h),fun _ _ _ _ _ _ _ h=>(by cases h),fun _ _=>rfl,r.fz,fun _ _ _ _ _ _ h=>(by cases h)⟩;refine (h0 ⟨M.fz,fun _=>none⟩ w vs (RG.swap (M:=M) (M':=⟨M.fz,fun _=>none⟩) (fun _ _ h=>h) g hG) r0 (RVs.swap (M:=M) (M':=⟨M.fz,fun _=>none⟩) (fun _ _ h=>h) rv ha)).mono ?_;rintro e w' ⟨M1,x,H1,nx1,a1,a2,a3,a4,rfl⟩;subst a4;have ni:∀ b k g m,H b=some k→M.bk b=some (g,m)→g<w.heap.size∧w'.heap[g]?=w.heap[g]?∧∀ o,M1.fz g≠some o:=by
  intro b k g m hb hm;have hlt:=r.lt hb hm;refine⟨hlt,a3.kept g hlt (fun ⟨_,_,_,h,_⟩=>by cases h),fun o ho=>?_⟩;rcases a3.fzn g o ho with h1 | ⟨_,_,_,h1,_⟩ | h1
  ·exact r.sep g o b k m h1 hb hm
  ·cases h1
  ·omega
 have he:Ext M ⟨M1.fz,M.bk⟩:=⟨fun x y h=>a3.ext.fz x y h,fun _ _ h=>h⟩;refine⟨⟨M1.fz,M.bk⟩,.ret v,H,nx,EndR.swap (M:=M1) (M':=⟨M1.fz,M.bk⟩) (fun _ _ h=>h) a1 hv,⟨fun b k hb=>?_,r.inj,r.fresh,a2.fz,fun g o b k m hz hb hm=>(ni b k g m hb hm).2.2 o hz⟩,⟨he,a3.os,a3.tape,a3.output,a3.grown,fun g hg _=>a3.kept g hg (fun ⟨_,_,_,h,_⟩=>by cases h),fun _ h=>.inl h,fun _ _=>rfl,Nat.le_refl _,fun g o h=>?_⟩,rfl,rfl,rfl⟩
 ·obtain⟨g,m,h1,h2⟩:=r.blk b k hb;exact⟨g,m,h1,h2.ext he (ni b k g m hb h1).2.1⟩
 ·rcases a3.fzn g o h with h1 | ⟨_,_,_,h1,_⟩ | h1
  ·exact .inl h1
  ·cases h1
  ·exact .inr (.inr h1)
theorem range2:List.range 2=[0,1]:=rfl
/-- Arguments of which less is asked. -/
theorem FCall.imp {f:FuncId}{args args':List CV}{R:Res→Prop}(h:∀ M vs,RVs M args vs→RVs M args' vs)(hf:FCall P G f args' R):FCall P G f args R:=fun H nx M w vs g r v=>hf H nx M w vs g r (h M vs v)
theorem RV.nil_lst {M:Mp}{v:Value}(h:RV M .nils v):RV M (.lst []) v:=by cases h;exact .lst0 _ _
/-- A loop that counts up to N. -/
theorem AWp.count {c:Code}(N:Nat)(S:Nat→Env→Heap→Nat→Prop)(h0:S 0 e H nx)
  (round:∀ i e H nx,i≤N→S i e H nx→AWp P G n c e H nx (Xx (fun e' H' nx'=>i<N∧S (i+1) e' H' nx') Q)):AWp P G n (.loop c) e H nx Q:=by
 refine AWp.loop (α:=Nat) (fun k e H nx=>k≤N∧S (N-k) e H nx) id N ⟨Nat.le_refl _,by simpa using h0⟩ ?_;rintro k e H nx ⟨hk,hs⟩;refine (round (N-k) e H nx (by omega) hs).mono ?_;intro x e H nx hx;cases x with
 | normal =>
   obtain⟨h1,h2⟩:=hx;exact⟨k-1,by simp only [id];omega,by omega,by rwa [show N-(k-1)=N-k+1 by omega]⟩
 | exit i=>exact hx
 | ret=>exact hx
 | pan v=>exact hx
end
end Ax
end
section
namespace Ax
section
variable {P:Program} {H:Heap} {nx:Nat} {t el:TypeId} {s b1:Nat} {z:Value} {i:TI}
theorem app_row {b x n k:Nat}{cs row:List CV}(ht:ti P t=some ⟨.slice el,s,z,b1⟩)(hi:ti P el=some i)(hk:i.size=k)(hz:i.zero.cells.size=k)(hk0:0<k)(hb:H b=some (.cells cs))(hcs:cs.length=n*k)
  (hx:H x=some (.cells row)) (hrow:row.length=k) (hone:row.all CV.one=true) (hn:n<1000000000) (hby:i.bytes≤1000):appA P H nx t t (.sl b 0 n k) (.sl x 0 1 k)=some (.sl nx 0 (n+1) k,.mv b (.cells (cs++row))):=by
 have h1:Nat.ble (0+1*k) row.length=true:=Nat.ble_eq_true_of_le (by omega);have h2:Nat.ble (n*k) cs.length=true:=Nat.ble_eq_true_of_le (by omega);have h3:Nat.ble (n+1) 9223372036854775807=true:=Nat.ble_eq_true_of_le (by omega);have h4:(n+1)*i.bytes≤1000000000*1000:=Nat.mul_le_mul (by omega) hby;have h5:Nat.ble ((n+1)*i.bytes) 140737488355328=true:=Nat.ble_eq_true_of_le (by omega);have h6:Nat.blt 0 i.size=true:=lt_blt (by omega);have h7:Nat.beq i.zero.cells.size i.size=true:=by rw [hz,hk];exact Nat.beq_refl _
 have h8:Nat.beq k i.size=true:=by rw [hk];exact Nat.beq_refl _
 have e1:row.take (1*k)=row:=List.take_of_length_le (by omega);have e2:cs.take (n*k)=cs:=List.take_of_length_le (by omega);unfold appA;simp only [ht,hi,srcD,h6,h7,Bool.and_self,srcA,hx,h8,h1,Bool.true_and,List.drop_zero,e1,hone,hb,Nat.beq_refl,h2,h3,h5,e2]
theorem app_row0 {x k:Nat}{row:List CV}(ht:ti P t=some ⟨.slice el,s,z,b1⟩)(hi:ti P el=some i)(hk:i.size=k)(hz:i.zero.cells.size=k)(hk0:0<k)
  (hx:H x=some (.cells row)) (hrow:row.length=k) (hone:row.all CV.one=true) (hby:i.bytes≤1000):appA P H nx t t .nils (.sl x 0 1 k)=some (.sl nx 0 1 k,.nw (.cells row)):=by
 subst hk;have h1:Nat.ble (0+1*i.size) row.length=true:=Nat.ble_eq_true_of_le (by omega);have h3:Nat.ble 1 9223372036854775807=true:=rfl;have h5:Nat.ble (1*i.bytes) 140737488355328=true:=Nat.ble_eq_true_of_le (by omega);have h6:Nat.blt 0 i.size=true:=lt_blt (by omega);have h7:Nat.beq i.zero.cells.size i.size=true:=by rw [hz];exact Nat.beq_refl _
 have e1:row.take (1*i.size)=row:=List.take_of_length_le (by omega);have e0:Nat.beq 1 0=false:=rfl;unfold appA;simp only [ht,hi,srcD,h6,h7,Bool.and_self,srcA,hx,Nat.beq_refl,h1,Bool.true_and,List.drop_zero,e1,hone,e0,h3,h5]
end
/-- An own list: nil, or a block of rows. -/
def OwnL {α:Type}(cv:α→List CV)(k:Nat)(H:Heap)(nx:Nat)(c:CV)(l:List α):Prop:=(l=[]∧c=.nils)∨∃ b,c=.sl b 0 l.length k∧H b=some (.cells (l.flatMap cv))∧b<nx
theorem OwnL.frozen {α:Type}{cv:α→List CV}{k:Nat}(hk:∀ a,(cv a).length=k){l:List α}:rowsOf (l.flatMap cv) 0 k l.length=l.map cv:=by
 have:=rowsOf_flat0 (k:=k) (rows:=l.map cv) (fun r hr=>by obtain⟨a,_,rfl⟩:=List.mem_map.mp hr;exact hk a);rw [List.length_map] at this;rw [List.flatMap_def];exact this
theorem flatMap_len {α:Type}{cv:α→List CV}{k:Nat}(hk:∀ a,(cv a).length=k)(l:List α):(l.flatMap cv).length=l.length*k:=by
 induction l with
 | nil=>simp
 | cons a l ih=>simp only [List.flatMap_cons,List.length_append,hk,ih,List.length_cons,Nat.add_mul];omega
/-- What an own list becomes at the end. -/
theorem OwnL.fz {α:Type}{cv:α→List CV}{k:Nat}(hk:∀ a,(cv a).length=k){H:Heap}{nx:Nat}{c:CV}{l:List α}(h:OwnL cv k H nx c l){P:Program}{G:Nat→CV}{f:FuncId}{args:List CV} :
  ∀ {M:Mp} {nx':Nat} {w:World} {e:Ending},Rep M H nx' w→EndR M (.ret c) e→∃ M',EndR M' (.ret (.lst (l.map cv))) e∧Rep M' Heap.no nx' w∧Fr H M nx' w Heap.no M' nx' w:=by
 intro M nx' w e hr he;rcases h with⟨rfl,rfl⟩ | ⟨b,rfl,hb,_⟩
 ·cases e <;> simp only [EndR] at he;exact⟨M,RV.nil_lst he,hr.weak (Sub.no _),Fr.weak (Sub.no _)⟩
 ·refine Fz.sound (.step (r1:=.ret (.lst (l.map cv))) b _ hb (.ret ?_) (.done _ _ _ (Sub.no _))) hr he;have:=FV.sl (b:=b) (cs:=l.flatMap cv) 0 l.length k (by rw [flatMap_len hk];omega);rw [OwnL.frozen hk] at this;exact this
/-- A function that gives back an own list. -/
theorem FCall.ofBodyL {P:Program}{G:Nat→CV}{f:FuncId}{fn:Func}{c:Code}{args:List CV}{n:Nat}{α:Type}{cv:α→List CV}{k:Nat}{l:List α}(hk:∀ a,(cv a).length=k)(hf:P.funcs[f]?=some fn)(hb:fn.body=some c)(hn:max args.length fn.ntmps=n)
  (h:∀ nx,AWp P G n c (argE args) Heap.no nx (BodyQ P fn fun r H' nx'=>∃ c,r=.ret c∧OwnL cv k H' nx' c l)):FCall P G f args fun r=>r=.ret (.lst (l.map cv)):=by
 refine FCall.of fun nx=>?_
 intro M w vs g r v;refine (ACall.of_body hf hb (hn▸h nx) M w vs g r v).mono ?_;rintro e w' ⟨M1,x,H1,n1,a1,a2,a3,c,rfl,ho⟩;obtain⟨M2,b1,b2,b3⟩:=ho.fz hk (P:=P) (G:=G) (f:=f) (args:=args) a2 a1;exact⟨M2,_,Heap.no,n1,b1,b2,a3.trans b3,rfl⟩
theorem OwnL.up {α:Type}{cv:α→List CV}{k:Nat}{H:Heap}{nx nx':Nat}{c:CV}{l:List α}(h:OwnL cv k H nx c l)(hn:nx≤nx'):OwnL cv k H nx' c l:=by
 rcases h with h | ⟨b,h1,h2,h3⟩
 ·exact .inl h
 ·exact .inr ⟨b,h1,h2,by omega⟩
theorem OwnL.upd {α:Type}{cv:α→List CV}{k:Nat}{H:Heap}{nx x:Nat}{c:CV}{l:List α}{kk:CB}(h:OwnL cv k H nx c l)(hx:nx≤x):OwnL cv k (Ax.upd H x kk) nx c l:=by
 rcases h with h | ⟨b,h1,h2,h3⟩
 ·exact .inl h
 ·exact .inr ⟨b,h1,by rw [upd_miss _ _ _ _ (by omega)];exact h2,h3⟩
section
variable {P:Program} {G:Nat→CV} {n:Nat} {e:Env} {H:Heap} {nx:Nat} {Q:AExit→Env→Heap→Nat→Prop} {ops:Array Oper} {os:List Oper} {d:Option Nat} {ty:TypeId} {pos:String} {af:Array Edge} {g:Option (Nat×Bool)}
end
end Ax
end
end Go.Proofs.YtoookjadbhdfhaaGreatDoor
