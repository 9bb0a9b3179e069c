/-
  AX: contracts on frozen arguments used with own blocks that are only read; known results that may be panics.
-/
import Derived.Test.YtoookjadbhdfhaaGreatDoorUJpAk
import Derived.Test.YtoookjadbhdfhaaGreatDoorUJpAo
set_option linter.unusedSectionVars false
set_option linter.unusedSimpArgs false
set_option linter.unnecessarySimpa false
set_option linter.unusedVariables false
set_option linter.unusedSimpArgs false
set_option linter.unusedVariables false
namespace Go.Proofs.YtoookjadbhdfhaaGreatDoor
section
namespace Ax
/-- A contract of known result that leaves the memory and the numbers alone. -/
def FRes (P:Program)(G:Nat→CV)(f:FuncId)(args:List CV)(R:Res):Prop:=∀ H nx,ACall P G f args H nx fun r H' nx'=>r=R∧H'=H∧nx'=nx
theorem FCall1.res {P:Program}{G:Nat→CV}{f:FuncId}{args:List CV}{v:CV}(h:FCall1 P G f args v):FRes P G f args (.ret v):=h
theorem FRes.one {P:Program}{G:Nat→CV}{f:FuncId}{args:List CV}{v:CV}(h:FRes P G f args (.ret v)):FCall1 P G f args v:=h
/-- A contract without memory whose values are pure leaves the numbers alone, too. -/
theorem FCall.res {P:Program}{G:Nat→CV}{f:FuncId}{args:List CV}{R:Res}(hG:∀ g,puV (G g)=true)(ha:puL args=true)(hv:R.pu=true)(h:FCall P G f args fun r=>r=R):FRes P G f args R:=by
 intro H nx M w vs g r rv;have h0:=h Heap.no 0;have r0:Rep ⟨M.fz,fun _=>none⟩ Heap.no 0 w:=⟨fun _ _ h=>(by cases h),fun _ _ _ _ _ _ _ h=>(by cases h),fun _ _=>rfl,r.fz,fun _ _ _ _ _ _ h=>(by cases h)⟩;refine (h0 ⟨M.fz,fun _=>none⟩ w vs (RG.swap (M:=M) (M':=⟨M.fz,fun _=>none⟩) (fun _ _ h=>h) g hG) r0 (RVs.swap (M:=M) (M':=⟨M.fz,fun _=>none⟩) (fun _ _ h=>h) rv ha)).mono ?_;rintro e w' ⟨M1,x,H1,nx1,a1,a2,a3,a4,rfl⟩;subst a4;have ni:∀ b k g m,H b=some k→M.bk b=some (g,m)→g<w.heap.size∧w'.heap[g]?=w.heap[g]?∧∀ o,M1.fz g≠some o:=by
  intro b k g m hb hm;have hlt:=r.lt hb hm;refine⟨hlt,a3.kept g hlt (fun ⟨_,_,_,h,_⟩=>by cases h),fun o ho=>?_⟩;rcases a3.fzn g o ho with h1 | ⟨_,_,_,h1,_⟩ | h1
  ·exact r.sep g o b k m h1 hb hm
  ·cases h1
  ·omega
 have he:Ext M ⟨M1.fz,M.bk⟩:=⟨fun x y h=>a3.ext.fz x y h,fun _ _ h=>h⟩;refine⟨⟨M1.fz,M.bk⟩,x,H,nx,EndR.swap (M:=M1) (M':=⟨M1.fz,M.bk⟩) (fun _ _ h=>h) a1 hv,⟨fun b k hb=>?_,r.inj,r.fresh,a2.fz,fun g o b k m hz hb hm=>(ni b k g m hb hm).2.2 o hz⟩,⟨he,a3.os,a3.tape,a3.output,a3.grown,fun g hg _=>a3.kept g hg (fun ⟨_,_,_,h,_⟩=>by cases h),fun _ h=>.inl h,fun _ _=>rfl,Nat.le_refl _,fun g o h=>?_⟩,rfl,rfl,rfl⟩
 ·obtain⟨g,m,h1,h2⟩:=r.blk b k hb;exact⟨g,m,h1,h2.ext he (ni b k g m hb h1).2.1⟩
 ·rcases a3.fzn g o h with h1 | ⟨_,_,_,h1,_⟩ | h1
  ·exact .inl h1
  ·cases h1
  ·exact .inr (.inr h1)
/-- A value whose own blocks are looked at as frozen ones. -/
inductive Ln (H:Heap):CV→CV→Prop
 | same (c:CV):Ln H c c
 | ptr (b o:Nat) (cs cs':List CV) (h:H b=some (.cells cs)) (ho:o≤cs.length) (hl:cs'.length=cs.length) (hr:∀ j (a:j<cs.length) (b':j<cs'.length),Ln H cs[j] cs'[j]):Ln H (.ptr b o) (.rop (cs'.drop o))
 | sl (b o n k:Nat) (cs cs':List CV) (h:H b=some (.cells cs)) (ho:o+n*k≤cs.length) (hl:cs'.length=cs.length) (hr:∀ j (a:j<cs.length) (b':j<cs'.length),Ln H cs[j] cs'[j]):Ln H (.sl b o n k) (.lst (rowsOf cs' o k n))
 | nils:Ln H .nils (.lst [])
 | any (c:CV):Ln H c .any
 | fn (f:Fn) (a b b':List CV) (hl:b'.length=b.length) (hr:∀ j (x:j<b.length) (y:j<b'.length),Ln H b[j] b'[j]):Ln H (.fn f a b) (.fn f a b')
 | agg (l l':List CV) (hl:l'.length=l.length) (h:∀ j (a:j<l.length) (b':j<l'.length),Ln H l[j] l'[j]):Ln H (.agg l) (.agg l')
def LnL (H:Heap)(l l':List CV):Prop:=l'.length=l.length∧∀ j (_:j<l.length) (_:j<l'.length),Ln H l[j] l'[j]
theorem LnL.nil {H:Heap}:LnL H [] []:=⟨rfl,fun j a=>by simp at a⟩
theorem LnL.cons {H:Heap}{c c':CV}{l l':List CV}(h:Ln H c c')(hs:LnL H l l'):LnL H (c::l) (c'::l'):=⟨by simp [hs.1],fun j x y=>by
 cases j with
 | zero=>exact h
 | succ j=>exact hs.2 j (by simpa using x) (by simpa using y)⟩
theorem LnL.same {H:Heap}(l:List CV):LnL H l l:=⟨rfl,fun _ _ _=>.same _⟩
theorem LnL.append {H:Heap}{l l' m m':List CV}(h:LnL H l l')(h':LnL H m m'):LnL H (l++m) (l'++m'):=by
 refine⟨by simp [h.1,h'.1],fun j a b=>?_⟩
 by_cases hj:j<l.length
 ·rw [List.getElem_append_left hj,List.getElem_append_left (by rw [h.1];exact hj)];exact h.2 j hj (by rw [h.1];exact hj)
 ·rw [List.getElem_append_right (by omega),List.getElem_append_right (by rw [h.1];omega)];have e:j-l'.length=j-l.length:=by rw [h.1]
  simp only [e];exact h'.2 _ (by simp at a;omega) (by rw [h'.1];simp at a;omega)
theorem Ln.ptrL {H:Heap}{b:Nat}{cs cs':List CV}(h:H b=some (.cells cs))(hs:LnL H cs cs'):Ln H (.ptr b 0) (.rop cs'):=.ptr b 0 cs cs' h (Nat.zero_le _) hs.1 hs.2
theorem Ln.fnL {H:Heap}{f:Fn}{a b b':List CV}(hs:LnL H b b'):Ln H (.fn f a b) (.fn f a b'):=.fn f a b b' hs.1 hs.2
theorem Ln.rv {M:Mp}{H:Heap}{nx:Nat}{w:World}(r:Rep M H nx w){c c':CV}(hl:Ln H c c'):∀ {v:Value},RV M c v→RV (M.all H w) c' v:=by
 have he:=Mp.all_ext r;have blk:∀ {b:Nat} {cs:List CV} {g m:Nat},H b=some (.cells cs)→M.bk b=some (g,m)→∃ arr T,(M.all H w).fz g=some (.cells arr T (0,0))∧cs.length≤arr.size∧∀ j (a:j<cs.length) (h:j<arr.size),RV M cs[j] arr[j]:=by
  intro b cs g m hb hm;obtain⟨g',m',hm',arr,T,hw,hs,hr⟩:=r.blk b _ hb;rw [hm] at hm';cases hm';have hl:cs.length≤arr.size:=by have:=hr.1;simp at this;omega
  refine⟨arr,T,?_,hl,fun j a h=>?_⟩
  ·have hi:Im H M g:=⟨b,_,m,hb,hm⟩
   show (open Classical in if Im H M g then w.heap[g]? else M.fz g)=_
   simp only [hi,if_true];exact hw
  ·have:=hr.2 j a (by simp;omega);simpa using this
 induction hl with
 | any c=>intro v _;exact .any _
 | same c=>intro v h;exact h.ext he
 | nils=>intro v h;cases h;exact .lst0 _ _
 | ptr b o cs cs' hb ho hl _ ih =>
   intro v h;cases h with
   | ptr _ _ g m h =>
     obtain⟨arr,T,hz,hs,hr⟩:=blk hb h;refine .rop _ g o arr T (0,0) hz (by simp;omega) (fun j a d=>?_);rw [List.getElem_drop];exact ih (o+j) (by simp at a;omega) (by simp at a;omega) (hr (o+j) (by simp at a;omega) d)
 | sl b o n k cs cs' hb ho hl _ ih =>
   intro v h;cases h with
   | sl _ _ _ _ g m c h hn hm =>
     obtain⟨arr,T,hz,hs,hr⟩:=blk hb h;refine .lst _ g o n k c arr T (0,0) hz (by simp [rowsOf]) hn (fun x hx=>?_) (by omega) (fun i a j d dd=>?_)
     ·obtain⟨i,hi,rfl⟩:=List.mem_map.mp hx;exact rows_len (cs:=cs') (n:=n) (by omega) (by simpa using hi)
     ·have hi:i<n:=by simpa [rowsOf] using a
      have hj:j<k:=by
       simp only [rowsOf,List.getElem_map,List.getElem_range] at d;rw [rows_len (cs:=cs') (n:=n) (by omega) hi] at d;exact d
      have hlt:=mul_lt_row (k:=k) hi hj;simp only [rowsOf,List.getElem_map,List.getElem_range,List.getElem_take,List.getElem_drop];exact ih (o+i*k+j) (by omega) (by omega) (hr (o+i*k+j) (by omega) dd)
 | fn f a b b' hl _ ih =>
   intro v h;cases h with
   | fn _ _ _ fs cs l1 l2 h1 h2=>exact .fn f a b' fs cs l1 (by rw [l2,hl]) (fun j x y=>(h1 j x y).ext he) (fun j x y=>ih j (by omega) x (h2 j (by omega) y))
 | agg l l' hl _ ih =>
   intro v h;cases h with
   | agg _ vs h1 h2=>exact .agg _ vs (by omega) (fun j a d=>ih j (by omega) a (h2 j (by omega) d))
theorem LnL.rvs {M:Mp}{H:Heap}{nx:Nat}{w:World}(r:Rep M H nx w){l l':List CV}(hl:LnL H l l'){vs:List Value}(h:RVs M l vs):RVs (M.all H w) l' vs:=⟨by rw [h.1,hl.1],fun j a b=>(hl.2 j (by rw [← hl.1];exact a) a).rv r (h.2 j (by rw [← hl.1];exact a) b)⟩
/-- Values that speak of no memory. -/
def sclS:CV→Bool
 | .any | .bool _ | .int _ _ | .str _ | .nilp | .nils | .nilm | .nilf | .nili=>true
 | _=>false
def sclL:List CV→Bool
 | []=>true
 | c::l=>sclS c && sclL l
def scl:CV→Bool
 | .agg l | .tup l | .iface _ (.agg l)=>sclL l
 | c=>sclS c
def Res.scl:Res→Bool
 | .ret v=>Ax.scl v
 | .pan v=>Ax.scl v
theorem RV.sclS {M M':Mp}{c:CV}{v:Value}(h:RV M c v)(hp:Ax.sclS c=true):RV M' c v:=by
 cases h <;> first | (constructor;done) | (exact .str _ _ (by assumption)) | cases hp
theorem RVs.sclL {M M':Mp}:∀ {cs:List CV} {vs:List Value},RVs M cs vs→Ax.sclL cs=true→RVs M' cs vs
 | [],vs,h,_=>by rw [h.nil_inv];exact .nil
 | c::cs,vs,h,hp=>by
   obtain⟨v,vs',rfl,h1,h2⟩:=h.cons_inv;simp only [Ax.sclL,Bool.and_eq_true] at hp;exact .cons (h1.sclS hp.1) (h2.sclL hp.2)
theorem RV.scl {M M':Mp}{c:CV}{v:Value}(h:RV M c v)(hp:Ax.scl c=true):RV M' c v:=by
 have h0:=h;cases h with
 | agg cs vs hl hr=>have:=RVs.sclL (M':=M') ⟨hl,hr⟩ hp;exact .agg _ _ this.1 this.2
 | tup cs vs hl hr=>have:=RVs.sclL (M':=M') ⟨hl,hr⟩ hp;exact .tup _ _ this.1 this.2
 | iface t x v hx =>
   cases hx with
   | agg cs vs hl hr=>have:=RVs.sclL (M':=M') ⟨hl,hr⟩ hp;exact .iface t _ _ (.agg _ _ this.1 this.2)
   | _=>cases hp
 | _=>first | exact h0.sclS hp | cases hp
theorem EndR.scl {M M':Mp}{r:Res}{e:Ending}(h:EndR M r e)(hp:r.scl=true):EndR M' r e:=by
 cases r with
 | ret v=>cases e <;> simp only [EndR] at h ⊢;exact h.scl hp
 | pan v=>cases e <;> simp only [EndR] at h ⊢;obtain⟨z,h1,h2⟩:=h;exact⟨z,h1,h2.scl hp⟩
/-- A contract on frozen arguments used with own blocks: they are only read. -/
theorem FRes.lend {P:Program}{G:Nat→CV}{f:FuncId}{args args':List CV}{R:Res}(hG:∀ g,puV (G g)=true)(h:FRes P G f args' R)(hR:R.scl=true)(hp:puL args'=true){H:Heap}(hl:LnL H args args'):∀ nx,ACall P G f args H nx fun r H' nx'=>r=R∧H'=H∧nx'=nx:=by
 intro nx M w vs g r rv;obtain⟨M0,hM0⟩:∃ M0:Mp,M0=⟨(M.all H w).fz,fun _=>none⟩:=⟨_,rfl⟩;have z0:∀ g x,(M.all H w).fz g=some x→M0.fz g=some x:=fun g x hx=>by rw [hM0];exact hx
 have ra:=(Rep.all r).1;have r0:Rep M0 Heap.no 0 w:=by
  rw [hM0];exact⟨fun _ _ h=>(by cases h),fun _ _ _ _ _ _ _ h=>(by cases h),fun _ _=>rfl,ra.fz,fun _ _ _ _ _ _ h=>(by cases h)⟩
 refine (h Heap.no 0 M0 w vs (RG.swap (M:=M.all H w) (M':=M0) z0 (g.ext (Mp.all_ext r)) hG) r0 (RVs.swap (M:=M.all H w) (M':=M0) z0 (hl.rvs r rv) hp)).mono ?_;rintro e w' ⟨M1,x,H1,nx1,a1,a2,a3,rfl,rfl,rfl⟩;have no:∀ {M':Mp} {g:Nat},¬ Im Heap.no M' g:=fun ⟨_,_,_,h,_⟩=>by cases h
 obtain⟨M2,hM2⟩:∃ M2:Mp,M2=⟨fun g=>open Classical in if Im H M g then M.fz g else M1.fz g,M.bk⟩:=⟨_,rfl⟩;have f0:∀ g,¬ Im H M g→M0.fz g=M.fz g:=fun g hg=>by rw [hM0];show (open Classical in if Im H M g then w.heap[g]? else M.fz g)=_;simp only [hg,if_false]
 have m2n:∀ g,¬ Im H M g→M2.fz g=M1.fz g:=fun g hg=>by rw [hM2];show (open Classical in if Im H M g then M.fz g else M1.fz g)=_;simp only [hg,if_false]
 have m2i:∀ g o,Im H M g→M2.fz g=some o→False:=fun g o hg ho=>by
  rw [hM2] at ho;have:(open Classical in if Im H M g then M.fz g else M1.fz g)=some o:=ho;simp only [hg,if_true] at this;obtain⟨b,k,m,h1,h2⟩:=hg;exact r.sep g o b k m this h1 h2
 have mb:M2.bk=M.bk:=by rw [hM2]
 have he:Ext M M2:=⟨fun x y hx=>by
  have hn:¬ Im H M x:=fun ⟨b,k,m,h1,h2⟩=>r.sep x y b k m hx h1 h2
  rw [m2n x hn];exact a3.ext.fz x y (by rw [f0 x hn];exact hx),fun _ _ h=>by rw [mb];exact h⟩
 refine⟨M2,x,H,nx,a1.scl hR,⟨fun b k hb=>?_,fun b b' k k' g m m' h1 h2 h3 h4=>r.inj b b' k k' g m m' h1 h2 (by rw [← mb];exact h3) (by rw [← mb];exact h4),fun b hb=>by rw [mb];exact r.fresh b hb,fun g o hz=>?_,fun g o b k m hz hb hm=>?_⟩,⟨he,a3.os,a3.tape,a3.output,a3.grown,fun g hg _=>a3.kept g hg no,fun g ⟨b,k,m,h1,h2⟩=>.inl ⟨b,k,m,h1,by rw [← mb];exact h2⟩,fun b _=>by rw [mb],Nat.le_refl _,fun g o hz=>?_⟩,rfl,rfl,rfl⟩
 ·obtain⟨g,m,h1,h2⟩:=r.blk b k hb;exact⟨g,m,by rw [mb];exact h1,h2.ext he (a3.kept g (r.lt hb h1) no)⟩
 ·by_cases hi:Im H M g
  ·exact (m2i g o hi hz).elim
  ·exact a2.fz g o (by rw [← m2n g hi];exact hz)
 ·exact m2i g o ⟨b,k,m,hb,by rw [← mb];exact hm⟩ hz
 ·by_cases hi:Im H M g
  ·exact (m2i g o hi hz).elim
  ·rw [m2n g hi] at hz;rcases a3.fzn g o hz with h1 | h1 | h1
   ·exact .inl (by rw [← f0 g hi];exact h1)
   ·exact (no h1).elim
   ·exact .inr (.inr h1)
/-- The same for a value, with the looks found by steps. -/
theorem FCall1.lend {P:Program}{G:Nat→CV}{f:FuncId}{args args':List CV}{v:CV}(hG:∀ g,puV (G g)=true)(h:FCall1 P G f args' v)(hp:puL args'=true){H:Heap}(hR:Ax.scl v=true:=by rfl)
  (hl:LnL H args args':=by repeat (first | exact LnL.nil | refine LnL.cons ?_ ?_ | exact Ln.same _ | exact Ln.nils | refine Ln.fnL ?_ | refine Ln.ptrL (by simp [upd, *];rfl) ?_)):∀ nx,ACall P G f args H nx fun r H' nx'=>r=.ret v∧H'=H∧nx'=nx:=FRes.lend hG h.res hR hp hl
section
variable {P:Program} {G:Nat→CV} {n:Nat} {e:Env} {H:Heap} {nx:Nat} {Q:AExit→Env→Heap→Nat→Prop} {ops:Array Oper} {os:List Oper} {d:Option Nat} {op:Op} {ty:TypeId} {pos:String} {af:Array Edge} {g:Option (Nat×Bool)}
/-- A call of known result. -/
theorem Xr (hd:okD n d=true)(hg:gd ops e ⟨d,op,ty,pos,af,g⟩=some true){f:FuncId}{args:List CV}(hq:callA (rd G e) op=some (f,args))(he:enters P f=true){v:CV}(hf:∀ nx,ACall P G f args H nx fun r H' nx'=>r=.ret v∧H'=H∧nx'=nx)
  (h:AOpl P G n ops os (putE e d v) H nx Q):AOpl P G n ops (⟨d,op,ty,pos,af,g⟩::os) e H nx Q :=
 AOpl.callG hd hg hq he ((hf nx).mono fun r H' nx' ⟨h1,h2,h3⟩=>by subst h1;subst h2;subst h3;exact h)
/-- A call that panics. -/
theorem AOpl.callP (hd:okD n d=true)(hg:gd ops e ⟨d,op,ty,pos,af,g⟩=some true){f:FuncId}{args:List CV}(hq:callA (rd G e) op=some (f,args))(he:enters P f=true){v:CV}(hf:∀ nx,ACall P G f args H nx fun r H' nx'=>r=.pan v∧H'=H∧nx'=nx)
  (h:Q (.pan v) e H nx):AOpl P G n ops (⟨d,op,ty,pos,af,g⟩::os) e H nx Q :=
 AOpl.callG hd hg hq he ((hf nx).mono fun r H' nx' ⟨h1,h2,h3⟩=>by subst h1;subst h2;subst h3;exact h)
end
/-- A body of known result that leaves the memory and the numbers alone. -/
theorem FRes.ofBody {P:Program}{G:Nat→CV}{f:FuncId}{fn:Func}{c:Code}{args:List CV}{R:Res}{n:Nat}(hG:∀ g,puV (G g)=true)(ha:puL args=true)(hv:R.pu=true)(hf:P.funcs[f]?=some fn)(hb:fn.body=some c)(hn:max args.length fn.ntmps=n)
  (h:∀ nx,AWp P G n c (argE args) Heap.no nx (BodyQ P fn fun r _ _=>r=R)):FRes P G f args R:=FCall.res hG ha hv (FCall.ofBody hf hb hn h)
end Ax
end
section
namespace Ax
theorem OwnL.keep {α:Type}{cv:α→List CV}{k:Nat}{H H':Heap}{nx nx':Nat}{c:CV}{l:List α}(h:OwnL cv k H nx c l)(hn:nx≤nx')(hk:∀ b',b'<nx→c=.sl b' 0 l.length k→H' b'=H b'):OwnL cv k H' nx' c l:=by
 rcases h with⟨h1,h2⟩ | ⟨b,h1,h2,h3⟩
 ·exact .inl ⟨h1,h2⟩
 ·exact .inr ⟨b,h1,by rw [hk b h3 h1];exact h2,by omega⟩
theorem OwnL.updS {α:Type}{cv:α→List CV}{k:Nat}{H:Heap}{nx x:Nat}{c:CV}{l:List α}{kk:CB}(h:OwnL cv k H nx c l)(hx:∀ b',c=.sl b' 0 l.length k→x≠b'):OwnL cv k (Ax.upd H x kk) nx c l :=
 h.keep (Nat.le_refl _) fun b' _ he=>upd_miss _ _ _ _ (fun e=>hx b' he e.symm)
theorem OwnL.isN {α:Type}{cv:α→List CV}{k:Nat}{H:Heap}{nx N:Nat}{l:List α}(hb:H N=some (.cells (l.flatMap cv)))(hn:N<nx)(n:Nat)(hl:n=l.length):OwnL cv k H nx (.sl N 0 n k) l:=.inr ⟨N,by rw [hl],hb,hn⟩
theorem own_row {α:Type}{cv:α→List CV}{k:Nat}{H:Heap}{nx b:Nat}{x:CV}{acc:List α}{kk:CB}(ho:OwnL cv k H nx x acc)(hb:H b=some kk)(hk:kk≠.cells (acc.flatMap cv)):∀ b',x=.sl b' 0 acc.length k→b≠b':=by
 rintro b' rfl rfl;rcases ho with⟨_,h⟩ | ⟨b2,h1,h2,_⟩
 ·cases h
 ·cases h1;rw [hb] at h2;exact hk (by cases h2;rfl)
section
variable {P:Program} {G:Nat→CV} {n:Nat} {e:Env} {H:Heap} {nx:Nat} {Q:AExit→Env→Heap→Nat→Prop} {ops:Array Oper} {os:List Oper} {d:Option Nat} {ty:TypeId} {pos:String} {af:Array Edge} {g:Option (Nat×Bool)}
theorem AOpl.appR {α:Type}{cv:α→List CV}{k:Nat}{t el:TypeId}{s b1:Nat}{z:Value}{i:TI}{so xo:Operand}{c:CV}{l:List α}{x:Nat}(hcv:∀ a,(cv a).length=k)(hone:∀ a,(cv a).all CV.one=true)(ht:ti P t=some ⟨.slice el,s,z,b1⟩)(hi:ti P el=some i)(u:α)
  (ho:OwnL cv k H nx c l) (hn:l.length<1000000000)
  (h:∀ H',H' nx=some (.cells ((l++[u]).flatMap cv))→(∀ b,b<nx→(∀ b',c=.sl b' 0 l.length k→b≠b')→H' b=H b)→AOpl P G n ops os (putE e d (.sl nx 0 (l.length+1) k)) H' (nx+1) Q)
  (hk:i.size=k:=by rfl) (hz:i.zero.cells.size=k:=by rfl) (hk0:0<k:=by omega) (hby:i.bytes≤1000:=by simp) (hd:okD n d=true:=by rfl) (hg:gd ops e ⟨d,.call ⟨.builtin .append,#[so,xo],#[t,t]⟩,ty,pos,af,g⟩=some true:=by (first | rfl | (simp [*];done)))
  (hs:rd G e so=c:=by (first | (simp [*];done) | (simp [*];rfl))) (hx:rd G e xo=.sl x 0 1 k:=by (first | (simp [*];done) | (simp [*];rfl))) (hxb:H x=some (.cells (cv u)):=by (first | (simp [*];done) | (simp [*];rfl))) :
  AOpl P G n ops (⟨d,.call ⟨.builtin .append,#[so,xo],#[t,t]⟩,ty,pos,af,g⟩::os) e H nx Q :=
 AOpl.appRow2 ht hi hk hz hk0 hby hcv hone hd hg hs hx ho hxb hn h
/-- A list that may be nil is held against nil. -/
theorem AOpl.nilU {t el:TypeId}{s b1:Nat}{z:Value}{x:Operand}{t2:TypeId}(ht:ti P t=some ⟨.slice el,s,z,b1⟩)(hx:rd G e x=.lst [])(h:∀ b,AOpl P G n ops os (putE e d (.bool b)) H nx Q)(hd:okD n d=true:=by rfl) :
  AOpl P G n ops (⟨d,.binOp .eql t x (.const (.slice none 0 0)) t2,ty,pos,af,none⟩::os) e H nx Q:=by
 intro k hk;have ho:ops[k]?=some ⟨d,.binOp .eql t x (.const (.slice none 0 0)) t2,ty,pos,af,none⟩:=by
  have:=congrArg List.head? hk;simpa [List.head?_drop] using this
 have hk':ops.toList.drop (k+1)=os:=by
  have:=congrArg List.tail hk;simpa [List.tail_drop] using this
 simp only [List.length_cons,List.range'_succ];intro M a w g r v;have hv:=v.rd g x;rw [hx] at hv;unfold wpOps;simp only [ho,gd_sound (ops:=ops) (o:=⟨d,.binOp .eql t x (.const (.slice none 0 0)) t2,ty,pos,af,none⟩) (e:=e) (b:=true) rfl v,if_true];obtain⟨u,hu⟩:∃ u,a.eval x=u:=⟨_,rfl⟩;rw [hu] at hv;have key:∃ b,(execOp a.eval ⟨d,.binOp .eql t x (.const (.slice none 0 0)) t2,ty,pos,af,none⟩).run P w=.ok (.value (.bool b)) w:=by
  have hund:=(ti_spec ht).1;have eq:∀ (ad:Option Addr) (m c:Nat),(Op.equalIn Op.maxDepth t (.slice ad m c) (.slice none 0 0)).run P w=.ok ad.isNone w:=by
   intro ad m c;cases ad with
   | none=>exact eqs1 9999 hund none m c 0 0
   | some ad=>exact eqs2 9999 hund ad m c 0 0
  have hcst:a.eval (.const (.slice none 0 0))=.slice none 0 0:=rfl;cases hv with
  | lst0 ad c=>exact⟨ad.isNone,by simp [execOp,hu,hcst,eqGuard,binOp,Op.equal,eq]⟩
  | lst _ gg o nn kk c arr T fr h1 hn hc hk0 hl hr=>exact⟨false,by simp [execOp,hu,hcst,eqGuard,binOp,Op.equal,eq]⟩
 obtain⟨b,hb⟩:=key;left;unfold Oper.wp;rw [hb];exact h b (k+1) hk' M _ w g r (v.put (.bool b) (okD_spec hd))
end
end Ax
end
section
namespace Ax
/-- An own list whose block is no older than n0. -/
def OwnG {α:Type}(cv:α→List CV)(k n0:Nat)(H:Heap)(nx:Nat)(c:CV)(l:List α):Prop:=(l=[]∧c=.nils)∨∃ b,c=.sl b 0 l.length k∧H b=some (.cells (l.flatMap cv))∧n0≤b∧b<nx
section
variable {α:Type} {cv:α→List CV} {k n0:Nat} {H:Heap} {nx:Nat} {c:CV} {l:List α}
theorem OwnG.nil:OwnG cv k n0 H nx .nils []:=.inl ⟨rfl,rfl⟩
theorem OwnG.own (h:OwnG cv k n0 H nx c l):OwnL cv k H nx c l:=by
 rcases h with h | ⟨b,h1,h2,_,h4⟩
 ·exact .inl h
 ·exact .inr ⟨b,h1,h2,h4⟩
theorem OwnG.low (h:OwnG cv k n0 H nx c l):∀ b',c=.sl b' 0 l.length k→n0≤b':=by
 rintro b' rfl;rcases h with⟨_,h⟩ | ⟨b,h1,_,h3,_⟩
 ·cases h
 ·cases h1;exact h3
theorem OwnG.keep {H':Heap}{nx':Nat}(h:OwnG cv k n0 H nx c l)(hn:nx≤nx')(hk:∀ b,n0≤b→b<nx→H' b=H b):OwnG cv k n0 H' nx' c l:=by
 rcases h with h | ⟨b,h1,h2,h3,h4⟩
 ·exact .inl h
 ·exact .inr ⟨b,h1,by rw [hk b h3 h4];exact h2,h3,by omega⟩
theorem OwnG.up {nx':Nat}(h:OwnG cv k n0 H nx c l)(hn:nx≤nx'):OwnG cv k n0 H nx' c l:=h.keep hn fun _ _ _=>rfl
theorem OwnG.updN {x:Nat}{kk:CB}(h:OwnG cv k n0 H nx c l)(hx:nx≤x):OwnG cv k n0 (upd H x kk) nx c l:=h.keep (Nat.le_refl _) fun b _ hb=>upd_miss _ _ _ _ (by omega)
theorem OwnG.updL {x:Nat}{kk:CB}(h:OwnG cv k n0 H nx c l)(hx:x<n0):OwnG cv k n0 (upd H x kk) nx c l:=h.keep (Nat.le_refl _) fun b hb _=>upd_miss _ _ _ _ (by omega)
theorem OwnG.isN {N:Nat}(hb:H N=some (.cells (l.flatMap cv)))(h0:n0≤N)(hn:N<nx)(n:Nat)(hl:n=l.length):OwnG cv k n0 H nx (.sl N 0 n k) l:=.inr ⟨N,by rw [hl],hb,h0,hn⟩
end
section
variable {P:Program} {G:Nat→CV} {n:Nat} {e:Env} {H:Heap} {nx:Nat} {Q:AExit→Env→Heap→Nat→Prop} {ops:Array Oper} {os:List Oper} {d:Option Nat} {ty:TypeId} {pos:String} {af:Array Edge} {g:Option (Nat×Bool)}
theorem AOpl.appG {α:Type}{cv:α→List CV}{k n0:Nat}{t el:TypeId}{s b1:Nat}{z:Value}{i:TI}{so xo:Operand}{c:CV}{l:List α}{x:Nat}(hcv:∀ a,(cv a).length=k)(hone:∀ a,(cv a).all CV.one=true)(ht:ti P t=some ⟨.slice el,s,z,b1⟩)(hi:ti P el=some i)(u:α)
  (ho:OwnG cv k n0 H nx c l) (h0:n0≤nx) (hn:l.length<1000000000)
  (h:∀ H',H' nx=some (.cells ((l++[u]).flatMap cv))→(∀ b,b<n0→H' b=H b)→AOpl P G n ops os (putE e d (.sl nx 0 (l.length+1) k)) H' (nx+1) Q)
  (hk:i.size=k:=by rfl) (hz:i.zero.cells.size=k:=by rfl) (hk0:0<k:=by omega) (hby:i.bytes≤1000:=by simp) (hd:okD n d=true:=by rfl) (hg:gd ops e ⟨d,.call ⟨.builtin .append,#[so,xo],#[t,t]⟩,ty,pos,af,g⟩=some true:=by (first | rfl | (simp [*];done)))
  (hs:rd G e so=c:=by (first | (simp [*];done) | (simp [*];rfl))) (hx:rd G e xo=.sl x 0 1 k:=by (first | (simp [*];done) | (simp [*];rfl))) (hxb:H x=some (.cells (cv u)):=by (first | (simp [*];done) | (simp [*];rfl))) :
  AOpl P G n ops (⟨d,.call ⟨.builtin .append,#[so,xo],#[t,t]⟩,ty,pos,af,g⟩::os) e H nx Q :=
 AOpl.appRow2 ht hi hk hz hk0 hby hcv hone hd hg hs hx ho.own hxb hn fun H' h1 h2=>h H' h1 fun b hb=>h2 b (by omega) fun b' hb'=>by have:=ho.low b' hb';omega
theorem WkL.append {l l' m m':List CV}(h:WkL l l')(h':WkL m m'):WkL (l++m) (l'++m'):=by
 refine⟨by simp [h.1,h'.1],fun j a b=>?_⟩
 by_cases hj:j<l.length
 ·rw [List.getElem_append_left hj,List.getElem_append_left (by rw [h.1];exact hj)];exact h.2 j hj (by rw [h.1];exact hj)
 ·rw [List.getElem_append_right (by omega),List.getElem_append_right (by rw [h.1];omega)];have e:j-l'.length=j-l.length:=by rw [h.1]
  simp only [e];exact h'.2 _ (by simp at a;omega) (by rw [h'.1];simp at a;omega)
theorem FVL.append {b:Nat}{cs l l' m m':List CV}(h:FVL b cs l l')(h':FVL b cs m m'):FVL b cs (l++m) (l'++m'):=by
 refine⟨by simp [h.1,h'.1],fun j x y=>?_⟩
 by_cases hj:j<l.length
 ·rw [List.getElem_append_left hj,List.getElem_append_left (by rw [h.1];exact hj)];exact h.2 j hj (by rw [h.1];exact hj)
 ·rw [List.getElem_append_right (by omega),List.getElem_append_right (by rw [h.1];omega)];have e:j-l'.length=j-l.length:=by rw [h.1]
  simp only [e];exact h'.2 _ (by simp at x;omega) (by rw [h'.1];simp at x;omega)
/-- A block of which one cell holds an own list: the list becomes a frozen one. -/
theorem AWp.own2lstG {α:Type}{cv:α→List CV}{k n0 x nx0:Nat}(hk:∀ a,(cv a).length=k)(pre post:List CV){code:Code}{c:CV}{l:List α}(ho:OwnG cv k n0 H nx0 c l)(hx:H x=some (.cells (pre++c::post)))(hxn:x<n0)
  (h:∀ H',H' x=some (.cells (pre++.lst (l.map cv)::post))→(∀ y,y<n0→y≠x→H' y=H y)→AWp P G n code e H' nx Q):AWp P G n code e H nx Q:=by
 rcases ho with⟨rfl,rfl⟩ | ⟨b,rfl,hb,h0,_⟩
 ·exact AWp.wkH hx (WkL.append ⟨rfl,fun _ _ _=>.same _⟩ (.cons .nil ⟨rfl,fun _ _ _=>.same _⟩)) (h _ (upd_hit _ _ _) (fun y _ hy=>upd_miss _ _ _ _ hy))
 ·have hxb:x≠b:=by omega
  refine AWp.frz2 hb hx hxb (cx':=pre++.lst (l.map cv)::post) (FVL.append ⟨rfl,fun _ _ _=>.same _⟩ (.cons ?_ ⟨rfl,fun _ _ _=>.same _⟩)) (h _ (upd_hit _ _ _) (fun y hy hyx=>?_))
  ·have:=FV.sl (b:=b) (cs:=l.flatMap cv) 0 l.length k (by rw [flatMap_len hk];omega);rw [OwnL.frozen hk] at this;exact this
  ·rw [upd_miss _ _ _ _ hyx,drp_miss _ _ _ (by omega)]
/-- A panic of the code's own. -/
theorem AOpl.panic {x:Operand}{t:TypeId}{c:CV}(hx:rd G e x=.iface t c)(h:Q (.pan (.iface t c)) e H nx):AOpl P G n ops (⟨d,.panic x,ty,pos,af,none⟩::os) e H nx Q:=by
 intro k hk;have ho:ops[k]?=some ⟨d,.panic x,ty,pos,af,none⟩:=by
  have:=congrArg List.head? hk;simpa [List.head?_drop] using this
 simp only [List.length_cons,List.range'_succ];exact AOps.panic ho rfl rfl hx h
end
end Ax
end
section
namespace Ax
section
variable {P:Program} {G:Nat→CV} {n:Nat} {e:Env} {H:Heap} {nx:Nat} {Q:AExit→Env→Heap→Nat→Prop} {ops:Array Oper}
/-- The operations behind one that panics: they look, or wait for it. -/
inductive QTl (P:Program) (G:Nat→CV) (H:Heap) (ops:Array Oper) (k:Nat):Nat→List Oper→Env→List Act1→Env→Prop
 | nil (i:Nat) (e:Env):QTl P G H ops k i [] e [] e
 | look {i:Nat} {o:Oper} {os:List Oper} {e e':Env} {l:List Act1} (c:CV) (hg:gd ops e o=some true) (hq:qstep P H (rd G e) o.op=some c) (h:QTl P G H ops k (i+1) os (putE e o.dst c) l e'):QTl P G H ops k i (o::os) e (.quiet c::l) e'
 | skip {i:Nat} {o:Oper} {os:List Oper} {e e':Env} {l:List Act1} (hg:gd ops e o=some false) (h:QTl P G H ops k (i+1) os (putE e o.dst (.tup [])) l e'):QTl P G H ops k i (o::os) e (.skip::l) e'
 | dead {i:Nat} {o:Oper} {os:List Oper} {e e':Env} {l:List Act1} (ha:anc (ancs ops) i k=true) (h:QTl P G H ops k (i+1) os (putE e o.dst .any) l e'):QTl P G H ops k i (o::os) e (.dead::l) e'
theorem QTl.len {k i:Nat}{os:List Oper}{e e':Env}{l:List Act1}(h:QTl P G H ops k i os e l e'):l.length=os.length:=by
 induction h with
 | nil=>rfl
 | look _ _ _ _ ih=>simp [ih]
 | skip _ _ ih=>simp [ih]
 | dead _ _ ih=>simp [ih]
/-- The environment behind one more operation. -/
theorem putA {k:Nat}{o:Oper}{e e0:Env}{A:Nat→Act1}{c:CV}(ho:ops[k]?=some o)(hso:statO n ops k o=true)(hA:(A k).val=c)(he:∀ t,e t=match wr ops t with
  | some j=>if j<k then (A j).val else e0 t
  | none=>e0 t):∀ t,putE e o.dst c t=match wr ops t with
  | some j=>if j<k+1 then (A j).val else e0 t
  | none=>e0 t:=by
 intro t;have hput:(o.dst=some t∧putE e o.dst c t=c)∨(o.dst≠some t∧putE e o.dst c t=e t):=by
  cases hd:o.dst with
  | none=>right;exact⟨by simp,rfl⟩
  | some d =>
    by_cases hdt:t=d
    ·left;subst hdt;exact⟨rfl,by simp [putE]⟩
    ·right;exact⟨fun h=>hdt (by cases h;rfl),by simp [putE,hdt]⟩
 rcases hput with⟨h1,h2⟩ | ⟨h1,h2⟩
 ·rw [h2,(statO_dst hso t h1).2];simp only [Nat.lt_succ_self,if_true,hA]
 ·rw [h2,he t];cases hw:wr ops t with
  | none=>rfl
  | some j =>
    simp only;obtain⟨oj,hoj,hdj⟩:=wr_some hw;have hjk:j≠k:=fun e=>by subst e;rw [ho] at hoj;cases hoj;exact h1 hdj
    by_cases hlt:j<k
    ·rw [if_pos hlt,if_pos (by omega)]
    ·rw [if_neg hlt,if_neg (by omega)]
theorem QTl.env {k i0:Nat}{os:List Oper}{e e':Env}{l2:List Act1}(h:QTl P G H ops k i0 os e l2 e'):∀ (e0:Env) (A:Nat→Act1),ops.toList.drop i0=os→stat n ops=true→(∀ q,q<os.length→A (i0+q)=(l2[q]?).getD .skip) →
  (∀ t,e t=match wr ops t with
   | some j=>if j<i0 then (A j).val else e0 t
   | none=>e0 t) →
  ∀ i o,i0≤i→ops[i]?=some o→∃ ei,(∀ t,ei t=match wr ops t with
   | some j=>if j<i then (A j).val else e0 t
   | none=>e0 t)∧((∃ c,A i=.quiet c∧gd ops ei o=some true∧qstep P H (rd G ei) o.op=some c)∨(A i=.skip∧gd ops ei o=some false)∨(A i=.dead∧anc (ancs ops) i k=true)):=by
 have drop_succ:∀ {k:Nat} {o:Oper} {os:List Oper},ops.toList.drop k=o::os→ops[k]?=some o∧ops.toList.drop (k+1)=os:=by
  intro k o os hk;constructor
  ·have:=congrArg List.head? hk;simpa [List.head?_drop] using this
  ·have:=congrArg List.tail hk;simpa [List.tail_drop] using this
 have hso:∀ {i:Nat} {o:Oper},stat n ops=true→ops[i]?=some o→statO n ops i o=true:=by
  intro i o hst ho;simp only [stat,Bool.and_eq_true] at hst;have:=statL_spec (k:=0) hst.1 i o (by simpa using ho);rw [Nat.zero_add] at this;exact this
 induction h with
 | nil i e =>
   intro e0 A hk hst hA he i' o hi ho;have h1:ops.size≤i:=by
    have:=congrArg List.length hk;simp at this;omega
   have:=(Array.getElem?_eq_some_iff.mp ho).1;omega
 | @look i o os e e' l c hg hq _ ih =>
   intro e0 A hk hst hA he i' o' hi ho';obtain⟨ho,hk'⟩:=drop_succ hk;have hAi:A i=.quiet c:=by have:=hA 0 (by simp);simpa using this
   rcases Nat.lt_or_eq_of_le hi with h1 | h1
   ·exact ih e0 A hk' hst (fun q hq=>by have:=hA (q+1) (by simp;omega);rw [show i+1+q=i+(q+1) by omega,this];simp) (putA ho (hso hst ho) (by rw [hAi];rfl) he) i' o' h1 ho'
   ·subst h1;rw [ho] at ho';cases ho';exact⟨e,he,.inl ⟨c,hAi,hg,hq⟩⟩
 | @skip i o os e e' l hg _ ih =>
   intro e0 A hk hst hA he i' o' hi ho';obtain⟨ho,hk'⟩:=drop_succ hk;have hAi:A i=.skip:=by have:=hA 0 (by simp);simpa using this
   rcases Nat.lt_or_eq_of_le hi with h1 | h1
   ·exact ih e0 A hk' hst (fun q hq=>by have:=hA (q+1) (by simp;omega);rw [show i+1+q=i+(q+1) by omega,this];simp) (putA ho (hso hst ho) (by rw [hAi];rfl) he) i' o' h1 ho'
   ·subst h1;rw [ho] at ho';cases ho';exact⟨e,he,.inr (.inl ⟨hAi,hg⟩)⟩
 | @dead i o os e e' l ha _ ih =>
   intro e0 A hk hst hA he i' o' hi ho';obtain⟨ho,hk'⟩:=drop_succ hk;have hAi:A i=.dead:=by have:=hA 0 (by simp);simpa using this
   rcases Nat.lt_or_eq_of_le hi with h1 | h1
   ·exact ih e0 A hk' hst (fun q hq=>by have:=hA (q+1) (by simp;omega);rw [show i+1+q=i+(q+1) by omega,this];simp) (putA ho (hso hst ho) (by rw [hAi];rfl) he) i' o' h1 ho'
   ·subst h1;rw [ho] at ho';cases ho';exact⟨e,he,.inr (.inr ⟨hAi,ha⟩)⟩
def planT (ops:Array Oper)(H:Heap)(nx:Nat)(l l2:List Act1)(k m:Nat)(v:CV):Plan:=⟨fun i=>if i<k then (l[i]?).getD .skip else if i=k then .pan m v else (l2[i-(k+1)]?).getD .skip,fun _=>H,fun _=>nx+ops.size,m,fun j=>if j<m then effAt l ops.size j else k⟩
theorem AWp.regQT {id m:Nat}{e e':Env}{l:List Act1}{os1 os2:List Oper}{o:Oper}{f:FuncId}{args:List CV}{v:CV}(hm:P.follows .mixedOrders=true)(hst:stat n ops=true)(hops:ops.toList=os1++o::os2)(hr:QRun P G H ops 0 os1 e l e' m)
  (hg:gd ops e' o=some true) (hq:callA (rd G e') o.op=some (f,args)) (he:enters P f=true) (hf:∀ nx,ACall P G f args H nx fun r H' nx'=>r=.pan v∧H'=H∧nx'=nx) {l2:List Act1} {e3:Env} (ht:QTl P G H ops os1.length (os1.length+1) os2 (putE e' o.dst .any) l2 e3) (h:∀ e2,Q (.pan v) e2 H (nx+ops.size)):AWp P G n (.region id ops true) e H nx Q:=by
 obtain⟨k,hk⟩:∃ k,k=os1.length:=⟨_,rfl⟩;have hlen:l.length=k:=by have:=hr.len;omega
 have hsz:ops.size=k+1+os2.length:=by have:=congrArg List.length hops;simp at this;omega
 have hok:ops[k]?=some o:=by
  rw [← Array.getElem?_toList,hops,hk,List.getElem?_append_right (Nat.le_refl _),Nat.sub_self];rfl
 obtain⟨_,n2,n3,n4⟩:=hr.nums;obtain⟨ea,_⟩:=effAt_spec (N:=ops.size) hr;obtain⟨h1,h2⟩:=hr.envR (n:=n) 0 e [] (o::os2) (by simpa using hops) rfl hst (fun t=>by cases wr ops t <;> simp);simp only [List.nil_append,Nat.zero_add] at h1 h2;rw [← hk] at h1 h2 ht;simp only [stat,Bool.and_eq_true] at hst;have hA:∀ i,i<k→(planT ops H nx l l2 k m v).act i=(l[i]?).getD .skip:=fun i hi=>if_pos hi
 have hK:(planT ops H nx l l2 k m v).act k=.pan m v:=by show (if k<k then _ else if k=k then _ else _)=_;rw [if_neg (by omega),if_pos rfl]
 have hD:∀ i,k<i→(planT ops H nx l l2 k m v).act i=(l2[i-(k+1)]?).getD .skip:=fun i hi=>by show (if i<k then _ else if i=k then _ else _)=_;rw [if_neg (by omega),if_neg (by omega)]
 have hst0:stat n ops=true:=by simp only [stat,Bool.and_eq_true];exact hst
 have hdrop:ops.toList.drop (k+1)=os2:=by rw [hops,hk];simp [List.drop_append]
 have htail:=ht.env (n:=n) e (planT ops H nx l l2 k m v).act hdrop hst0 (fun q hq=>by rw [hD _ (by omega),show k+1+q-(k+1)=q by omega]) (by
  have hso:=statL_spec (k:=0) hst.1 k o (by simpa using hok);rw [Nat.zero_add] at hso;refine putA hok hso (by rw [hK];rfl) fun t=>?_
  rw [h1 t];cases hw:wr ops t with
  | none=>rfl
  | some j =>
    simp only
    by_cases hj:j<k
    ·rw [if_pos hj,if_pos hj,hA j hj]
    ·rw [if_neg hj,if_neg hj])
 have hE:∀ j,j<m→(planT ops H nx l l2 k m v).eix j=effAt l ops.size j:=fun j hj=>if_pos hj
 have hEm:(planT ops H nx l l2 k m v).eix m=k:=if_neg (by omega);have acts:∀ i,i<k→∀ a,l[i]?=some a→∃ o,ops[i]?=some o∧((∃ c,a=.quiet c)∨a=.skip∨∃ j c,a=.eff j c∧isCallAt ops i=true):=by
  intro i hi a ha;have ho:ops[i]?=some (ops[i]'(by omega)):=Array.getElem?_eq_getElem (by omega);obtain⟨_,_,h3⟩:=h2 i _ (Nat.zero_le _) hi ho;refine⟨_,ho,?_⟩;rcases h3 with⟨c,h3,_⟩ | ⟨h3,_⟩ | ⟨j,c,f,args,h3,_,h4,_⟩
  ·rw [ha] at h3;cases h3;exact .inl ⟨c,rfl⟩
  ·rw [ha] at h3;cases h3;exact .inr (.inl rfl)
  ·rw [ha] at h3;cases h3;exact .inr (.inr ⟨j,c,rfl,by unfold isCallAt;rw [ho];exact callA_isCall h4⟩)
 have noalloc:∀ i c kk,(planT ops H nx l l2 k m v).act i≠.alloc c kk:=by
  intro i c kk hx;rcases Nat.lt_trichotomy i k with hi | hi | hi
  ·rw [hA i hi] at hx;cases hl:l[i]? with
   | none=>rw [hl] at hx;cases hx
   | some a =>
     rw [hl] at hx;simp only [Option.getD_some] at hx;subst hx;obtain⟨_,_,h3⟩:=acts i hi _ hl;rcases h3 with⟨_,h3⟩ | h3 | ⟨_,_,h3,_⟩ <;> cases h3
  ·subst hi;rw [hK] at hx;cases hx
  ·by_cases hio:i<ops.size
   ·obtain⟨_,_,h3⟩:=htail i _ (by omega) (Array.getElem?_eq_getElem hio);rw [hx] at h3;rcases h3 with⟨_,h3,_⟩ | ⟨h3,_⟩ | ⟨h3,_⟩ <;> cases h3
   ·rw [hD i hi] at hx;have:=ht.len;rw [List.getElem?_eq_none (by omega)] at hx;cases hx
 have hnl:∀ J L b,newL ops (planT ops H nx l l2 k m v) nx J L b=none:=by
  intro J L b;unfold newL;split
  ·split
   ·rename_i c k hx;exact absurd hx (noalloc _ _ _)
   ·rfl
  ·rfl
 have hhl:∀ J L,heapL ops (planT ops H nx l l2 k m v) nx J L=H:=by
  intro J L;funext b;unfold heapL;rw [hnl];rfl
 have hci:isCallAt ops k=true:=by unfold isCallAt;rw [hok];exact callA_isCall hq
 have hed:∀ i o,ops[i]?=some o→∀ e∈o.after.toList,Region.binds .any e=true→e.on<i:=by
  intro i o ho;have:=statL_spec (k:=0) hst.1 i o (by simpa using ho);rw [Nat.zero_add] at this;exact statO_edges this
 -- the effects stand in one order
 have order:∀ i j',j'<m→isCallAt ops i=true→(∀ k',effAt l ops.size j'=k'→k'<i)→anc (ancs ops) i (effAt l ops.size j')=true:=by
  intro i j' hj' hc hlt;obtain⟨k',c',hk'⟩:=n3 j' (Nat.zero_le _) hj';have e1:effAt l ops.size j'=k':=ea k' j' c' hk';rw [e1];have hk'l:k'<k:=by have:=(List.getElem?_eq_some_iff.mp hk').1;omega
  obtain⟨_,_,h3⟩:=acts k' hk'l _ hk';rcases h3 with⟨_,h3⟩ | h3 | ⟨_,_,_,h3⟩
  ·cases h3
  ·cases h3
  ·exact statC_spec hst.2 hc h3 (hlt _ e1)
 have ok:Plan.Ok P G n ops (planT ops H nx l l2 k m v) e H nx:=by
  refine⟨fun i oi ho=>?_,Sub.refl _,rfl,fun j _=>Nat.le_refl _,fun J i c kk _ ha hi _=>absurd ha (noalloc _ _ _),fun j hj=>?_,.inl ⟨m,v,?_,?_⟩⟩
  ·have hso:=statL_spec (k:=0) hst.1 i oi (by simpa using ho);rw [Nat.zero_add] at hso;have hil:i<ops.size:=(Array.getElem?_eq_some_iff.mp ho).1
   -- what the operation sees, at most place k
   have agree:∀ {ei:Env},i≤k→(∀ t,ei t=match wr ops t with
     | some j=>if j<i then ((l[j]?).getD .skip).val else e t
     | none=>e t)→∀ t∈oi.looksAt ops,envL ops (planT ops H nx l l2 k m v) e (before ops i) t=ei t:=by
    intro ei hik hei t ht;rw [hei t];unfold envL;cases hw:wr ops t with
    | none=>rfl
    | some j =>
      simp only;rcases statO_looks hso t ht j hw with ha | ha
      ·have hlt:=anc_lt hed ha;simp only [before,ha,if_pos hlt,hA j (by omega)]
      ·have hlt:=anc_lt hed ha;have hn:anc (ancs ops) i j=false:=by
        cases hx:anc (ancs ops) i j with
        | false=>rfl
        | true=>have:=anc_lt hed hx;omega
       simp only [before,hn];rw [if_neg (by omega)]
   refine⟨statO_dst hso,statO_looks hso,statO_edges hso,?_⟩;rcases Nat.lt_trichotomy i k with hi | hi | hi
   ·obtain⟨ei,hei,hac⟩:=h2 i oi (Nat.zero_le _) hi ho;have hagree:=agree (Nat.le_of_lt hi) hei;have hgd:=gd_congr (o:=oi) hagree;have hrd:=rd_congr (G:=G) (o:=oi) hagree;rcases hac with⟨c,hl,hg,hq⟩ | ⟨hl,hg⟩ | ⟨j,c,f,args,hl,hg,hq,hen,hf⟩
    ·have:(planT ops H nx l l2 k m v).act i=.quiet c:=by rw [hA i hi,hl];rfl
     simp only [this];refine⟨by rw [hgd];exact hg,fun J _ _ _=>?_⟩;rw [hhl,qstep_congr hrd];exact hq
    ·have:(planT ops H nx l l2 k m v).act i=.skip:=by rw [hA i hi,hl];rfl
     simp only [this];rw [hgd];exact hg
    ·have:(planT ops H nx l l2 k m v).act i=.eff j c:=by rw [hA i hi,hl];rfl
     simp only [this];have hci:isCallAt ops i=true:=by unfold isCallAt;rw [ho];exact callA_isCall hq
     have hjm:=(n2 i j c hl).2;refine⟨by rw [hgd];exact hg,by rw [hE j hjm];exact ea i j c hl,hjm,fun j' hj'=>?_,?_⟩
     ·rw [hE j' (by omega)];refine order i j' (by omega) hci fun k' hk'=>?_
      obtain⟨k2,c2,hk2⟩:=n3 j' (Nat.zero_le _) (by omega);have e1:effAt l ops.size j'=k2:=ea k2 j' c2 hk2;obtain rfl:k2=k':=by omega
      rcases Nat.lt_trichotomy k2 i with h | h | h
      ·exact h
      ·subst h;rw [hl] at hk2;cases hk2;omega
      ·have:=n4 _ _ _ _ _ _ hl hk2 h;omega
     ·rw [hhl];exact EffOk.call (by rw [callA_congr hrd];exact hq) hen (hf (nx+ops.size))
   ·subst hi;rw [hok] at ho;cases ho;have hagree:=agree (Nat.le_refl _) h1;have hgd:=gd_congr (o:=o) hagree;have hrd:=rd_congr (G:=G) (o:=o) hagree;simp only [hK];refine⟨by rw [hgd];exact hg,hEm,rfl,fun j' hj'=>?_,?_⟩
    ·rw [hE j' hj'];refine order i j' hj' hci fun k' hk'=>?_
     obtain⟨k2,c2,hk2⟩:=n3 j' (Nat.zero_le _) hj';have e1:effAt l ops.size j'=k2:=ea k2 j' c2 hk2;have:=(List.getElem?_eq_some_iff.mp hk2).1;omega
    ·rw [hhl];exact PanOk.call (by rw [callA_congr hrd];exact hq) he (hf (nx+ops.size))
   ·obtain⟨ei,hei,hac⟩:=htail i oi (by omega) ho;have hagree:∀ t∈oi.looksAt ops,envL ops (planT ops H nx l l2 k m v) e (before ops i) t=ei t:=by
     intro t ht;rw [hei t];unfold envL;cases hw:wr ops t with
     | none=>rfl
     | some j =>
       simp only;rcases statO_looks hso t ht j hw with ha | ha
       ·have hlt:=anc_lt hed ha;simp only [before,ha,if_pos hlt]
       ·have hlt:=anc_lt hed ha;have hn:anc (ancs ops) i j=false:=by
         cases hx:anc (ancs ops) i j with
         | false=>rfl
         | true=>have:=anc_lt hed hx;omega
        simp only [before,hn];rw [if_neg (by omega)]
    have hgd:=gd_congr (o:=oi) hagree;have hrd:=rd_congr (G:=G) (o:=oi) hagree;rcases hac with⟨c,hl,hg,hq⟩ | ⟨hl,hg⟩ | ⟨hl,han⟩
    ·simp only [hl];refine⟨by rw [hgd];exact hg,fun J _ _ _=>?_⟩;rw [hhl,qstep_congr hrd];exact hq
    ·simp only [hl];rw [hgd];exact hg
    ·simp only [hl];refine⟨m,v,by show (planT ops H nx l l2 k m v).act ((planT ops H nx l l2 k m v).eix m)=_;rw [hEm];exact hK,?_⟩
     show anc (ancs ops) i ((planT ops H nx l l2 k m v).eix m)=true
     rw [hEm];exact han
  ·obtain⟨k2,c,hk2⟩:=n3 j (Nat.zero_le _) hj;have e1:effAt l ops.size j=k2:=ea k2 j c hk2;have hlt:=(List.getElem?_eq_some_iff.mp hk2).1;refine⟨by rw [hE j hj,e1];omega,c,?_⟩;rw [hE j hj,e1,hA k2 (by omega),hk2];rfl
  ·show (planT ops H nx l l2 k m v).act ((planT ops H nx l l2 k m v).eix m)=_
   rw [hEm];exact hK
  ·show (planT ops H nx l l2 k m v).eix m<_
   rw [hEm];omega
 refine AWp.drawn hm ok (fun j v' hv=>?_) (fun hx=>?_)
 ·have e1:(planT ops H nx l l2 k m v).eix (planT ops H nx l l2 k m v).m=k:=hEm;rw [e1,hK] at hv;cases hv;exact h
 ·have e1:(planT ops H nx l l2 k m v).eix (planT ops H nx l l2 k m v).m=k:=hEm;rw [e1] at hx;omega
end
/-- What is left behind a panic. -/
def AQt (P:Program)(G:Nat→CV)(H:Heap)(ops:Array Oper)(k i:Nat)(os:List Oper)(e:Env):Prop:=∃ l2 e3,QTl P G H ops k i os e l2 e3
/-- The operations of a drawn region that are left; a call may panic. -/
def AQq (P:Program)(G:Nat→CV)(H:Heap)(ops:Array Oper)(os:List Oper)(e:Env)(K:Env→Prop)(Kp:CV→Prop):Prop :=
 ∀ j,(∃ l e' m,QRun P G H ops j os e l e' m∧K e')∨∃ os1 o os2 l e' m f args v,os=os1++o::os2∧QRun P G H ops j os1 e l e' m∧gd ops e' o=some true∧callA (rd G e') o.op=some (f,args)∧enters P f=true∧(∀ nx,ACall P G f args H nx fun r H' nx'=>r=.pan v∧H'=H∧nx'=nx)∧AQt P G H ops (ops.size-1-os2.length) (ops.size-os2.length) os2 (putE e' o.dst .any)∧Kp v
section
variable {P:Program} {G:Nat→CV} {n:Nat} {e:Env} {H:Heap} {nx:Nat} {Q:AExit→Env→Heap→Nat→Prop} {ops:Array Oper} {os:List Oper} {K:Env→Prop} {Kp:CV→Prop} {k i:Nat}
theorem AQt.nil:AQt P G H ops k i [] e:=⟨[],e,.nil i e⟩
theorem Xw (h:K e):AQq P G H ops [] e K Kp:=fun j=>.inl ⟨[],e,j,.nil j e,h⟩
variable {d:Option Nat} {op:Op} {ty:TypeId} {pos:String} {af:Array Edge} {g:Option (Nat×Bool)}
theorem AQt.look {c:CV}(hq:qstep P H (rd G e) op=some c)(h:AQt P G H ops k (i+1) os (putE e d c)):AQt P G H ops k i (⟨d,op,ty,pos,af,none⟩::os) e:=by
 obtain⟨l2,e3,h⟩:=h;exact⟨_,_,.look (o:=⟨d,op,ty,pos,af,none⟩) c rfl hq h⟩
theorem AQt.lookG (hg:gd ops e ⟨d,op,ty,pos,af,g⟩=some true){c:CV}(hq:qstep P H (rd G e) op=some c)(h:AQt P G H ops k (i+1) os (putE e d c)):AQt P G H ops k i (⟨d,op,ty,pos,af,g⟩::os) e:=by
 obtain⟨l2,e3,h⟩:=h;exact⟨_,_,.look (o:=⟨d,op,ty,pos,af,g⟩) c hg hq h⟩
theorem AQt.pass (hg:gd ops e ⟨d,op,ty,pos,af,g⟩=some false)(h:AQt P G H ops k (i+1) os (putE e d (.tup []))):AQt P G H ops k i (⟨d,op,ty,pos,af,g⟩::os) e:=by
 obtain⟨l2,e3,h⟩:=h;exact⟨_,_,.skip (o:=⟨d,op,ty,pos,af,g⟩) hg h⟩
theorem AQt.dead (ha:anc (ancs ops) i k=true)(h:AQt P G H ops k (i+1) os (putE e d .any)):AQt P G H ops k i (⟨d,op,ty,pos,af,g⟩::os) e:=by
 obtain⟨l2,e3,h⟩:=h;exact⟨_,_,.dead (o:=⟨d,op,ty,pos,af,g⟩) ha h⟩
theorem Xt (hg:gd ops e ⟨d,op,ty,pos,af,g⟩=some true){c:CV}(hq:qstep P H (rd G e) op=some c)(h:AQq P G H ops os (putE e d c) K Kp):AQq P G H ops (⟨d,op,ty,pos,af,g⟩::os) e K Kp:=fun j=>by
 rcases h j with⟨l,e',m,h1,h2⟩ | ⟨os1,o,os2,l,e',m,f,args,v,h0,h1,h2⟩
 ·exact .inl ⟨_,e',m,.look (o:=⟨d,op,ty,pos,af,g⟩) c hg hq h1,h2⟩
 ·exact .inr ⟨⟨d,op,ty,pos,af,g⟩::os1,o,os2,_,e',m,f,args,v,by rw [h0];rfl,.look (o:=⟨d,op,ty,pos,af,g⟩) c hg hq h1,h2⟩
theorem Xu {c:CV}(hq:qstep P H (rd G e) op=some c)(h:AQq P G H ops os (putE e d c) K Kp):AQq P G H ops (⟨d,op,ty,pos,af,none⟩::os) e K Kp:=Xt rfl hq h
theorem Xv (hg:gd ops e ⟨d,op,ty,pos,af,g⟩=some false)(h:AQq P G H ops os (putE e d (.tup [])) K Kp):AQq P G H ops (⟨d,op,ty,pos,af,g⟩::os) e K Kp:=fun j=>by
 rcases h j with⟨l,e',m,h1,h2⟩ | ⟨os1,o,os2,l,e',m,f,args,v,h0,h1,h2⟩
 ·exact .inl ⟨_,e',m,.skip (o:=⟨d,op,ty,pos,af,g⟩) hg h1,h2⟩
 ·exact .inr ⟨⟨d,op,ty,pos,af,g⟩::os1,o,os2,_,e',m,f,args,v,by rw [h0];rfl,.skip (o:=⟨d,op,ty,pos,af,g⟩) hg h1,h2⟩
theorem AQq.callG (hg:gd ops e ⟨d,op,ty,pos,af,g⟩=some true){f:FuncId}{args:List CV}(hq:callA (rd G e) op=some (f,args))(he:enters P f=true){v:CV}(hf:∀ nx,ACall P G f args H nx fun r H' nx'=>r=.ret v∧H'=H∧nx'=nx)
  (h:AQq P G H ops os (putE e d v) K Kp):AQq P G H ops (⟨d,op,ty,pos,af,g⟩::os) e K Kp:=fun j=>by
 rcases h (j+1) with⟨l,e',m,h1,h2⟩ | ⟨os1,o,os2,l,e',m,f',args',v',h0,h1,h2⟩
 ·exact .inl ⟨_,e',m,.call (o:=⟨d,op,ty,pos,af,g⟩) v hg hq he hf h1,h2⟩
 ·exact .inr ⟨⟨d,op,ty,pos,af,g⟩::os1,o,os2,_,e',m,f',args',v',by rw [h0];rfl,.call (o:=⟨d,op,ty,pos,af,g⟩) v hg hq he hf h1,h2⟩
/-- A call that panics: the end. -/
theorem AQq.pan (hg:gd ops e ⟨d,op,ty,pos,af,g⟩=some true){f:FuncId}{args:List CV}(hq:callA (rd G e) op=some (f,args))(he:enters P f=true){v:CV}(hf:∀ nx,ACall P G f args H nx fun r H' nx'=>r=.pan v∧H'=H∧nx'=nx)
  (ht:AQt P G H ops (ops.size-1-os.length) (ops.size-os.length) os (putE e d .any)) (h:Kp v):AQq P G H ops (⟨d,op,ty,pos,af,g⟩::os) e K Kp:=fun j =>
 .inr ⟨[],⟨d,op,ty,pos,af,g⟩,os,[],e,j,f,args,v,rfl,.nil j e,hg,hq,he,hf,ht,h⟩
theorem AWp.regDT {id:Nat}(hm:P.follows .mixedOrders=true)(hst:stat n ops=true)(hl:ops.toList=os)(h:∀ nx',nx≤nx'→AQq P G H ops os e (fun e'=>Q .normal e' H nx') (fun v=>∀ e2,Q (.pan v) e2 H nx')):AWp P G n (.region id ops true) e H nx Q:=by
 subst hl;rcases h (nx+ops.size) (Nat.le_add_right _ _) 0 with⟨l,e',m,h1,h2⟩ | ⟨os1,o,os2,l,e',m,f,args,v,h0,h1,hg,hq,he,hf,⟨l2,e3,ht⟩,hk⟩
 ·exact AWp.regQ hm hst h1 h2
 ·have hs:=congrArg List.length h0;simp at hs;have e1:ops.size-1-os2.length=os1.length:=by omega
  have e2:ops.size-os2.length=os1.length+1:=by omega
  rw [e1,e2] at ht;exact AWp.regQT hm hst h0 h1 hg hq he hf ht hk
end
end Ax
end
end Go.Proofs.YtoookjadbhdfhaaGreatDoor
