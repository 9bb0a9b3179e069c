/-
  AX: regions that draw their order: the theorem.
-/
import Derived.Test.YtoookjadbhdfhaaGreatDoorUJpAd
set_option linter.unusedSectionVars false
set_option linter.unusedSimpArgs false
set_option linter.unnecessarySimpa false
set_option linter.unusedVariables false
set_option linter.unusedSimpArgs false
set_option linter.unusedVariables false
namespace Go.Proofs.YtoookjadbhdfhaaGreatDoor
section
namespace Ax
theorem Fr.src {H H1 H':Heap}{M M':Mp}{nx nx':Nat}{w w':World}(f:Fr H1 M nx w H' M' nx' w')(s:Sub H1 H):Fr H M nx w H' M' nx' w' :=
 ⟨f.ext,f.os,f.tape,f.output,f.grown,fun g hg hn=>f.kept g hg (fun h=>hn (s.im h)),fun g h=>(f.mono g h).imp s.im id,f.low,f.nxle,fun g o h=>(f.fzn g o h).imp id (Or.imp s.im id)⟩
theorem Fr.newAt {H0 Hc:Heap}{M0 M:Mp}{nx0 nx:Nat}{w0 w w':World}(f:Fr H0 M0 nx0 w0 Hc M nx w)(b:Nat)(k:CB)(m:Nat)(o:Obj)(hb:M.bk b=none)(hbn:nx0≤b)
  (hw:w'.heap=w.heap.push o) (ho:w'.os=w.os) (ht:w'.tape=w.tape) (hp:w'.output=w.output) :
  Fr H0 M0 nx0 w0 (upd Hc b k) (updM M b (w.heap.size,m)) nx w':=by
 have g:=f.grown;refine⟨f.ext.trans (Ext.updM hb),by rw [ho,f.os],by rw [ht,f.tape],by rw [hp,f.output],by rw [hw];simp;omega,fun x hx hn=>?_,?_,?_,f.nxle,f.fzn⟩
 ·rw [hw,Array.getElem?_push,if_neg (by omega)];exact f.kept x hx hn
 ·intro x ⟨b',k',m',h1,h2⟩
  by_cases e:b'=b
  ·subst e;rw [updM_hit] at h2;cases h2;exact .inr g
  ·rw [upd_miss _ _ _ _ e] at h1;rw [updM_miss _ _ _ _ e] at h2;exact f.mono x ⟨b',k',m',h1,h2⟩
 ·intro x hx;rw [updM_miss _ _ _ _ (by omega)];exact f.low x hx
theorem newL_not {ops:Array Oper}{pl:Plan}{nx0 J i:Nat}{L:Nat→Bool}(h:∀ c k,pl.act i≠.alloc c k)(b:Nat):newL ops pl nx0 J (setL L i) b=newL ops pl nx0 J L b:=by
 by_cases e:b-nx0=i
 ·have key:∀ L',newL ops pl nx0 J L' b=none:=by
   intro L';unfold newL;split
   ·split
    ·rename_i c k hk;rw [e] at hk;exact absurd hk (h c k)
    ·rfl
   ·rfl
  rw [key,key]
 ·unfold newL;simp only [setL,e,if_false]
theorem heapL_not {ops:Array Oper}{pl:Plan}{nx0 J i:Nat}{L:Nat→Bool}(h:∀ c k,pl.act i≠.alloc c k):heapL ops pl nx0 J (setL L i)=heapL ops pl nx0 J L:=by
 funext b;unfold heapL;rw [newL_not h]
theorem newL_some {ops:Array Oper}{pl:Plan}{nx0 J b:Nat}{L:Nat→Bool}{k:CB}(h:newL ops pl nx0 J L b=some k):nx0≤b∧L (b-nx0)=true∧(∃ c,pl.act (b-nx0)=.alloc c k)∧∀ j,j<J→anc (ancs ops) (pl.eix j) (b-nx0)=false:=by
 unfold newL at h;split at h
 ·rename_i hc;simp only [Bool.and_eq_true] at hc;split at h
  ·rename_i c kk hk;split at h
   ·cases h
   ·rename_i hany;cases h;refine⟨Nat.le_of_ble_eq_true hc.1,hc.2,⟨c,hk⟩,fun j hj=>?_⟩;have:=List.any_eq_false.mp hany j (List.mem_range.mpr hj);simpa using this
  ·cases h
 ·cases h
theorem newL_of {ops:Array Oper}{pl:Plan}{nx0 J b:Nat}{L:Nat→Bool}{c:CV}{k:CB}(h1:nx0≤b)(h2:L (b-nx0)=true)(h3:pl.act (b-nx0)=.alloc c k)(h4:∀ j,j<J→anc (ancs ops) (pl.eix j) (b-nx0)=false):newL ops pl nx0 J L b=some k:=by
 unfold newL;rw [Nat.ble_eq_true_of_le h1,h2,h3];simp only [Bool.and_self];have:(List.range J).any (fun j=>anc (ancs ops) (pl.eix j) (b-nx0))=false:=by
  rw [List.any_eq_false];intro j hj;rw [h4 j (List.mem_range.mp hj)];simp
 rw [this]
section drawn
variable {P:Program} {G:Nat→CV} {n:Nat} {ops:Array Oper} {pl:Plan} {e0:Env} {H0:Heap} {nx0:Nat} {M0:Mp} {w0:World} {Q:AExit→Env→Heap→Nat→Prop}
theorem Clo.set {L:Nat→Bool}{i:Nat}{o:Oper}(hc:Clo ops L)(ho:ops[i]?=some o)(hr:∀ e∈o.after.toList,Region.binds .any e=true→L e.on=true):Clo ops (setL L i):=by
 intro j oj hoj hj e he hb;unfold setL at hj ⊢
 by_cases e1:e.on=i
 ·simp [e1]
 ·simp only [e1,if_false]
  by_cases e2:j=i
  ·subst e2;rw [ho] at hoj;cases hoj;exact hr e he hb
  ·simp only [e2,if_false] at hj;exact hc j oj hoj hj e he hb
theorem step_ok (ok:Plan.Ok P G n ops pl e0 H0 nx0)(hpan:∀ j v,pl.act (pl.eix pl.m)=.pan j v→∀ e',Q (.pan v) e' (pl.hs (pl.m+1)) (pl.nxs (pl.m+1))){L:Nat→Bool}{a:Act}{w:World}(I:Inv P G n ops pl e0 H0 nx0 M0 w0 L a w)
  {i:Nat} {o:Oper} (ho:ops[i]?=some o) (hi:L i=false) (hr:∀ e∈o.after.toList,Region.binds .any e=true→L e.on=true) :
  wpOp P ops (Post n H0 M0 nx0 w0 Q) i (Inv P G n ops pl e0 H0 nx0 M0 w0 (setL L i)) a w:=by
 obtain⟨J,M,Hc,hJ,hJl,hpn,g,r,sub,v,f,hal⟩:=I.ex;have hk:=ok.op i o ho;have hlt:i<ops.size:=(Array.getElem?_eq_some_iff.mp ho).1;have hag:=agree ho hk I.clo hi hr;have hgd:=gd_congr hag;have hrd:=rd_congr (G:=G) hag;have hclo:=I.clo.set ho hr;have hlt':∀ j,setL L i j=true→j<ops.size:=fun j hj=>by
  unfold setL at hj
  by_cases e:j=i
  ·subst e;exact hlt
  ·simp only [e,if_false] at hj;exact I.lt j hj
 have hop:∀ x∈o.op.operands,RV M (rd G (envL ops pl e0 (before ops i)) x) (a.eval x):=fun x hx=>by rw [← hrd x hx];exact v.rd g x
 have hbs:∀ J',J'=J→Sub (heapL ops pl nx0 J' (before ops i)) Hc:=fun J' e=>by
  subst e;intro b k hb;refine sub b k (heapL_sub (fun i' c k h1 h2 h3=>ok.apart J' i' c k hJ h1 (I.lt i' h2) h3) (fun j hj=>I.clo.ready ho hr hj) b k hb)
 have hd:∀ t,o.dst=some t→t<n:=fun t ht=>(hk.dst t ht).1
 have hset:=envL_set (L:=L) ho hk;have same:∀ (hna:∀ c k,pl.act i≠.alloc c k) (hne:∀ j c,pl.act i≠.eff j c) (hnp:i≠pl.eix pl.m) (z:Value),RV M (pl.act i).val z→Inv P G n ops pl e0 H0 nx0 M0 w0 (setL L i) (a.put o.dst z) w:=by
  intro hna hne hnp z hz;refine⟨hclo,hlt',J,M,Hc,hJ,?_,?_,g,r,by rw [heapL_not hna];exact sub,by rw [hset];exact v.put hz hd,f,?_⟩
  ·intro j hj;obtain⟨_,c,hc⟩:=ok.eixlt j hj;have:pl.eix j≠i:=fun e=>by rw [e] at hc;exact hne j c hc
   simp only [setL,this,if_false];exact hJl j hj
  ·simp only [setL,Ne.symm hnp,if_false];exact hpn
  ·intro i' c k h1 h2 h3;refine hal i' c k h1 h2 ?_;unfold setL at h3
   by_cases e:i'=i
   ·simp [e] at h3
   ·simpa [e] using h3
 have hnpan:∀ x,pl.act i=x→(∀ j v,x≠.pan j v)→i≠pl.eix pl.m:=by
  intro x hx hnx e;rcases ok.eixm with⟨j,v,h1,h2⟩ | h1
  ·rw [← e,hx] at h1;exact hnx j v h1
  ·omega
 unfold wpOp;simp only [ho];have hact:=hk.act;cases hA:pl.act i with
 | skip =>
   rw [hA] at hact;simp only at hact;rw [← hgd] at hact;simp only [gd_sound hact v,Bool.false_eq_true,if_false];exact same (fun c k=>by rw [hA];simp) (fun j c=>by rw [hA];simp) (hnpan _ hA (by simp)) _ (by rw [hA];exact RV.undef M)
 | quiet c =>
   rw [hA] at hact;simp only at hact;obtain⟨h1,h2⟩:=hact;rw [← hgd] at h1;simp only [gd_sound h1 v,if_true];have hq:=h2 J hJ (fun j hj ha=>by
     have hl:=I.clo.ready ho hr ha
     by_cases hjm:j=pl.m
     ·subst hjm;rw [hpn] at hl;cases hl
     ·exact (hJl j (by omega)).mp hl) (fun j hj ha=>by
     by_cases hjm:j=pl.m
     ·omega
     ·refine Nat.le_of_not_lt fun hlt=>?_
      have:=I.clo.anc ha ((hJl j (by omega)).mpr hlt);rw [hi] at this;cases this)
   obtain⟨z,h3,h4⟩:=qstep_sound (M:=M) (w:=w) (σ:=a.eval) hq (r.weak (hbs J rfl)) hop;left;unfold Oper.wp;rw [h3];exact same (fun c k=>by rw [hA];simp) (fun j c=>by rw [hA];simp) (hnpan _ hA (by simp)) z (by rw [hA];exact h4)
 | alloc c k =>
   rw [hA] at hact;simp only at hact;obtain⟨h1,h2⟩:=hact;rw [← hgd] at h1;simp only [gd_sound h1 v,if_true];have hb:=hal i c k hA hlt hi;obtain⟨z,obj,m,w',e1,e2,e3,e4,e5,e6,e7⟩:=astep_sound (w:=w) (σ:=a.eval) h2 hb hop;left;unfold Oper.wp;rw [e1];have hbl:nx0+i<pl.nxs J:=by have:=ok.nmono J hJ;omega
   have r':=r.new (nx0+i) k m obj hb (Nat.le_refl _) hbl e2 e6;have f':=f.newAt (nx0+i) k m obj hb (by omega) e2 e3 e4 e5;have he:Ext M (updM M (nx0+i) (w.heap.size,m)):=Ext.updM hb;have hnabs:∀ j,j<J→anc (ancs ops) (pl.eix j) i=false:=fun j hj=>by
    cases ha:anc (ancs ops) (pl.eix j) i with
    | false=>rfl
    | true=>have:=I.clo.anc ha ((hJl j (by omega)).mpr hj);rw [hi] at this;cases this
   refine⟨hclo,hlt',J,_,_,hJ,?_,?_,g.ext he,r',?_,by rw [hset,hA];exact (v.ext he).put e7 hd,f',?_⟩
   ·intro j hj;obtain⟨_,c',hc⟩:=ok.eixlt j hj;have:pl.eix j≠i:=fun e=>by rw [e,hA] at hc;cases hc
    simp only [setL,this,if_false];exact hJl j hj
   ·have hnp:=hnpan _ hA (by simp);simp only [setL,Ne.symm hnp,if_false];exact hpn
   ·intro b k' hbk
    by_cases eb:b=nx0+i
    ·subst eb;have hnew:newL ops pl nx0 J (setL L i) (nx0+i)=some k:=newL_of (c:=c) (by omega) (by simp [setL]) (by simpa using hA) (by simpa using hnabs);unfold heapL at hbk;rw [hnew] at hbk;rw [upd_hit];exact hbk
    ·rw [upd_miss _ _ _ _ eb];refine sub b k' ?_;unfold heapL at hbk ⊢;have:newL ops pl nx0 J (setL L i) b=newL ops pl nx0 J L b:=by
      unfold newL
      by_cases e':b-nx0=i
      ·have hlt2:¬ nx0≤b:=fun h=>eb (by omega)
       have:Nat.ble nx0 b=false:=by
        cases hx:Nat.ble nx0 b with
        | false=>rfl
        | true=>exact absurd (Nat.le_of_ble_eq_true hx) hlt2
       rw [this];rfl
      ·simp only [setL,e',if_false]
     rw [this] at hbk;exact hbk
   ·intro i' c' k' h1' h2' h3';unfold setL at h3'
    by_cases e':i'=i
    ·simp [e'] at h3'
    ·simp only [e',if_false] at h3';rw [updM_miss _ _ _ _ (by omega)];exact hal i' c' k' h1' h2' h3'
 | eff j c =>
   rw [hA] at hact;simp only at hact;obtain⟨h1,h2,h3,h4,h5⟩:=hact;rw [← hgd] at h1;simp only [gd_sound h1 v,if_true];have hJj:J=j:=by
    have a1:¬ j<J:=fun hlt=>by have:=(hJl j h3).mpr hlt;rw [h2,hi] at this;cases this
    have a2:¬ J<j:=fun hlt=>by
     have:=I.clo.ready ho hr (h4 J hlt);have:=(hJl J (by omega)).mp this;omega
    omega
   subst hJj;left;refine h5 M a w _ _ g (r.weak (hbs J rfl)) hop ?_;intro M' z w' hz r' f'
   let X:Heap:=fun b=>match newL ops pl nx0 (J+1) L b with
    | some _=>Hc b
    | none=>none
   have hX:∀ b k,X b=some k→Hc b=some k∧∃ k',newL ops pl nx0 (J+1) L b=some k':=by
    intro b k hb;simp only [X] at hb;cases hn:newL ops pl nx0 (J+1) L b with
    | none=>rw [hn] at hb;cases hb
    | some k'=>rw [hn] at hb;exact⟨hb,k',rfl⟩
   have hnb:∀ b k',newL ops pl nx0 (J+1) L b=some k'→newL ops pl nx0 J L b=some k'∧pl.hs J b=none∧pl.hs (J+1) b=none:=by
    intro b k' hn;obtain⟨n1,n2,⟨c',n3⟩,n4⟩:=newL_some hn;have hbl:=I.lt _ n2;have q1:=ok.apart J (b-nx0) c' k' hJ n3 hbl (fun j hj=>n4 j (by omega));have q2:=ok.apart (J+1) (b-nx0) c' k' (by omega) n3 hbl n4;rw [show nx0+(b-nx0)=b by omega] at q1 q2;exact⟨newL_of n1 n2 n3 (fun j hj=>n4 j (by omega)),q1,q2⟩
   obtain⟨rr,ff⟩:=Rep.frame X r (hbs J rfl) (fun b k hb=>(hX b k hb).1) (fun b k hb=>by
    obtain⟨_,k',hn⟩:=hX b k hb;obtain⟨n1,n2,⟨c',n3⟩,n4⟩:=newL_some hn;obtain⟨_,q1,_⟩:=hnb b k' hn;unfold heapL;have:newL ops pl nx0 J (before ops i) b=none:=by
     cases hx:newL ops pl nx0 J (before ops i) b with
     | none=>rfl
     | some k'' =>
       obtain⟨_,m2,_,_⟩:=newL_some hx;have:=n4 J (by omega);rw [h2] at this;simp only [before] at m2;rw [m2] at this;cases this
    rw [this];exact q1) r' f'
   have hna:∀ c k,pl.act i≠.alloc c k:=fun c k=>by rw [hA];simp
   refine⟨hclo,hlt',J+1,M',_,by omega,?_,?_,g.ext ff.ext,rr,?_,by rw [hset,hA];exact (v.ext ff.ext).put hz hd,f.trans ff,?_⟩
   ·intro j' hj'
    by_cases e:j'=J
    ·subst e;rw [h2];simp [setL]
    ·have:pl.eix j'≠i:=fun e'=>by
      obtain⟨_,c',hc⟩:=ok.eixlt j' hj';rw [e',hA] at hc;cases hc;exact e rfl
     simp only [setL,this,if_false];rw [hJl j' hj'];omega
   ·have hnp:=hnpan _ hA (by simp);simp only [setL,Ne.symm hnp,if_false];exact hpn
   ·rw [heapL_not hna];intro b k hb;unfold heapL at hb;unfold cup;cases hn:newL ops pl nx0 (J+1) L b with
    | some k' =>
      rw [hn] at hb;simp only [Option.some.injEq] at hb;subst hb;have:Hc b=some k':=sub b k' (by unfold heapL;rw [(hnb b k' hn).1]);simp only [X,hn,this]
    | none =>
      rw [hn] at hb;simp only [X,hn];exact hb
   ·intro i' c' k' h1' h2' h3';unfold setL at h3'
    by_cases e':i'=i
    ·simp [e'] at h3'
    ·simp only [e',if_false] at h3';rw [f'.low _ (by have:=ok.nmono J hJ;omega)];exact hal i' c' k' h1' h2' h3'
 | pan j c =>
   rw [hA] at hact;simp only at hact;obtain⟨h1,h2,h3,h4,h5⟩:=hact;rw [← hgd] at h1;simp only [gd_sound h1 v,if_true];have hJj:J=j:=by
    have a2:¬ J<j:=fun hlt=>by
     have:=I.clo.ready ho hr (h4 J hlt);have:=(hJl J (by omega)).mp this;omega
    omega
   subst hJj;left;refine h5 M a w _ _ g (r.weak (hbs J rfl)) hop ?_;intro M' z w' hz r' f';have hA':pl.act (pl.eix pl.m)=.pan J c:=by rw [← h3,h2];exact hA
   have hq:=hpan J c hA' (envL ops pl e0 L);rw [← h3] at hq;have ff:=f.trans (f'.src (hbs J rfl));exact⟨M',.pan c,envL ops pl e0 L,_,_,⟨z,rfl,hz⟩,r',ff,v.ext f'.ext,hq⟩
 | dead =>
   rw [hA] at hact;simp only at hact;obtain⟨j',v',h1,h2⟩:=hact;have:=I.clo.ready ho hr h2;rw [hpn] at this;cases this
theorem filter_lt {p q:Nat→Bool}:∀ {l:List Nat},(∀ x∈l,q x=true→p x=true)→(∃ x∈l,p x=true∧q x=false)→(l.filter q).length<(l.filter p).length
 | [],_,⟨x,h,_⟩=>by cases h
 | y::l,h1,⟨x,hx,h2,h3⟩=>by
   have mono:∀ {l:List Nat},(∀ x∈l,q x=true→p x=true)→(l.filter q).length≤(l.filter p).length:=by
    intro l
    induction l with
    | nil=>intro _;simp
    | cons z l ih =>
      intro hh;have i1:=ih (fun x hx=>hh x (by simp [hx]));have i2:=hh z (by simp);simp only [List.filter_cons];cases hq:q z <;> cases hp:p z <;> simp_all <;> omega
   have m1:=mono (l:=l) (fun x hx=>h1 x (by simp [hx]));simp only [List.filter_cons];rcases List.mem_cons.mp hx with rfl | hx
   ·rw [h2,h3];simp;omega
   ·have ih:=filter_lt (l:=l) (fun x hx=>h1 x (by simp [hx])) ⟨x,hx,h2,h3⟩;have i2:=h1 y (by simp);cases hq:q y <;> cases hp:p y <;> simp_all <;> omega
def allL (ops:Array Oper):Nat→Bool:=fun i=>Nat.blt i ops.size
theorem any_ok (ok:Plan.Ok P G n ops pl e0 H0 nx0)(hpan:∀ j v,pl.act (pl.eix pl.m)=.pan j v→∀ e',Q (.pan v) e' (pl.hs (pl.m+1)) (pl.nxs (pl.m+1)))
  (hfin:ops.size≤pl.eix pl.m→Q .normal (envL ops pl e0 (allL ops)) (heapL ops pl nx0 pl.m (allL ops)) (pl.nxs pl.m)) :
  ∀ (fuel:Nat) (listed:Array Bool) (a:Act) (w:World),listed.size=ops.size→((List.range ops.size).filter fun i=>!listed.getD i false).length≤fuel→Inv P G n ops pl e0 H0 nx0 M0 w0 (fun i=>listed.getD i false) a w →
   wpAny P .any ops (Post n H0 M0 nx0 w0 Q) fuel listed a w:=by
 have done:∀ (listed:Array Bool) (a:Act) (w:World),listed.size=ops.size→Inv P G n ops pl e0 H0 nx0 M0 w0 (fun i=>listed.getD i false) a w→Region.ready .any ops listed=[]→Post n H0 M0 nx0 w0 Q .normal a w:=by
  intro listed a w hs I hr;have hall:∀ i,i<ops.size→listed.getD i false=true:=by
   intro i
   induction i using Nat.strongRecOn with
   | _ i ih =>
     intro hi;cases hl:listed.getD i false with
     | true=>rfl
     | false =>
       have ho:ops[i]?=some ops[i]:=by simp [hi]
       have hk:=ok.op i _ ho;have:i∈Region.ready .any ops listed:=mem_ready.mpr ⟨by
        have:listed.getD i true=listed.getD i false:=by
         have hil:i<listed.size:=by omega
         simp [Array.getD,hil]
        rw [this,hl],_,ho,fun e he hb=>ih e.on (hk.edges e (by simpa using he) hb) (Nat.lt_trans (hk.edges e (by simpa using he) hb) hi)⟩
       rw [hr] at this;cases this
  obtain⟨J,M,Hc,hJ,hJl,hpn,g,r,sub,v,f,hal⟩:=I.ex;have hJm:J=pl.m:=by
   refine Nat.le_antisymm hJ (Nat.le_of_not_lt fun hlt=>?_);have:=(hJl J hlt).mp (hall _ (ok.eixlt J hlt).1);omega
  subst hJm;have hnp:ops.size≤pl.eix pl.m:=by
   rcases ok.eixm with⟨j,v,h1,h2⟩ | h1
   ·have:=hall _ h2;rw [hpn] at this;cases this
   ·exact h1
  have hL:(fun i=>listed.getD i false)=allL ops:=by
   funext i
   unfold allL
   by_cases hi:i<ops.size
   ·rw [hall i hi,lt_blt hi]
   ·have h1:Nat.blt i ops.size=false:=by
     cases hb:Nat.blt i ops.size with
     | false=>rfl
     | true=>exact absurd (blt_lt hb) hi
    have hil:¬ i<listed.size:=by omega
    rw [h1];simp [Array.getD,hil]
  rw [hL] at sub v;exact⟨M,.normal,_,_,_,trivial,r.weak sub,f.trans (.weak sub),v,hfin hnp⟩
 intro fuel
 induction fuel with
 | zero =>
   intro listed a w hs hf I;have hr:Region.ready .any ops listed=[]:=by
    cases hrr:Region.ready .any ops listed with
    | nil=>rfl
    | cons i rs =>
      have hi:i∈Region.ready .any ops listed:=by rw [hrr];simp
      obtain⟨h1,o,ho,h2⟩:=mem_ready.mp hi;have hlt:i<ops.size:=(Array.getElem?_eq_some_iff.mp ho).1;have:i∈(List.range ops.size).filter fun i=>!listed.getD i false:=by
       rw [List.mem_filter];refine⟨List.mem_range.mpr hlt,?_⟩;have e:listed.getD i true=listed.getD i false:=by
        have hil:i<listed.size:=by omega
        simp [Array.getD,hil]
       rw [← e,h1];rfl
      have hl:=List.length_pos_of_mem this;omega
   exact⟨hr,done listed a w hs I hr⟩
 | succ fuel ih =>
   intro listed a w hs hf I;refine⟨fun hr=>done listed a w hs I hr,fun i hi=>?_⟩;obtain⟨h1,o,ho,h2⟩:=mem_ready.mp hi;have hlt:i<ops.size:=(Array.getElem?_eq_some_iff.mp ho).1;have hil:i<listed.size:=by omega
   have e:listed.getD i true=listed.getD i false:=by simp [Array.getD,hil]
   rw [e] at h1;have hset:(fun j=>(listed.setIfInBounds i true).getD j false)=setL (fun j=>listed.getD j false) i:=by
    funext j
    unfold setL
    by_cases ej:j=i
    ·subst ej;simp [Array.getD,hil]
    ·simp only [ej,if_false];exact getD_set_ne false (Ne.symm ej)
   refine wpOp_mono (fun a' w' hI=>ih (listed.setIfInBounds i true) a' w' (by simpa using hs) ?_ (by rw [hset];exact hI)) (step_ok ok hpan I ho h1 (fun e he hb=>h2 e (by simpa using he) hb));have:=filter_lt (p:=fun j=>!listed.getD j false) (q:=fun j=>!(listed.setIfInBounds i true).getD j false) (l:=List.range ops.size) (fun x hx hq=>by
     have hx':(listed.setIfInBounds i true).getD x false=setL (fun j=>listed.getD j false) i x:=congrFun hset x;rw [hx'] at hq;unfold setL at hq
     by_cases ex:x=i
     ·simp [ex] at hq
     ·simpa [ex] using hq) ⟨i,List.mem_range.mpr hlt,by simp only [h1];rfl,by
     have hx':(listed.setIfInBounds i true).getD i false=setL (fun j=>listed.getD j false) i i:=congrFun hset i;rw [hx'];simp [setL]⟩
   omega
/-- A region that draws its order. -/
theorem AWp.drawn {id:Nat}(hm:P.follows .mixedOrders=true)(ok:Plan.Ok P G n ops pl e0 H0 nx0)(hpan:∀ j v,pl.act (pl.eix pl.m)=.pan j v→∀ e',Q (.pan v) e' (pl.hs (pl.m+1)) (pl.nxs (pl.m+1)))
  (hfin:ops.size≤pl.eix pl.m→Q .normal (envL ops pl e0 (allL ops)) (heapL ops pl nx0 pl.m (allL ops)) (pl.nxs pl.m)):AWp P G n (.region id ops true) e0 H0 nx0 Q:=by
 intro M a w g r v;refine wp_region_any hm (any_ok (M0:=M) (w0:=w) ok hpan hfin ops.size _ a _ (by simp) ?_ ?_)
 ·exact Nat.le_trans (List.length_filter_le _ _) (by simp)
 ·have hL:(fun i=>(Array.replicate ops.size false).getD i false)=fun _=>false:=by
   funext i
   simp only [Array.getD];split <;> simp
  rw [hL];have r':Rep M H0 nx0 { w with drawn:=w.drawn+1 }:=r.same rfl;have f':Fr H0 M nx0 w H0 M nx0 { w with drawn:=w.drawn+1 }:=Fr.drew rfl rfl rfl rfl;refine⟨fun i o _ hi=>(by cases hi),fun i hi=>(by cases hi),0,M,H0,Nat.zero_le _,fun j _=>⟨fun h=>(by cases h),fun h=>absurd h (Nat.not_lt_zero _)⟩,rfl,g,?_,?_,?_,?_,?_⟩
  ·rw [ok.n0];exact r'.up (by omega)
  ·intro b k hb;unfold heapL at hb;have:newL ops pl nx0 0 (fun _=>false) b=none:=by
    cases hx:newL ops pl nx0 0 (fun _=>false) b with
    | none=>rfl
    | some k'=>have:=(newL_some hx).2.1;cases this
   rw [this] at hb;exact ok.h0 b k hb
  ·have:envL ops pl e0 (fun _=>false)=e0:=by
    funext t;unfold envL;cases wr ops t <;> rfl
   rw [this];exact v
  ·rw [ok.n0];exact f'.trans (Fr.up (by omega))
  ·intro i c k _ hi _;exact r.fresh _ (by omega)
end drawn
end Ax
end
section
namespace Ax
/-- Tries by numbers. -/
inductive Tr (α:Type) where
 | lf
 | nd (l:Tr α) (v:Option α) (r:Tr α)
def Tr.get {α:Type}:Tr α→Nat→Option α
 | .lf,_=>none
 | .nd l v r,n=>match Nat.beq n 0 with
   | true=>v
   | false=>match Nat.beq (n % 2) 1 with
     | true=>l.get (n / 2)
     | false=>r.get (n / 2-1)
def Tr.put {α:Type}:Nat→Tr α→Nat→Option α→Tr α
 | 0,_,_,_=>.lf
 | f+1,.lf,n,x=>match Nat.beq n 0 with
   | true=>.nd .lf x .lf
   | false=>match Nat.beq (n % 2) 1 with
     | true=>.nd (Tr.put f .lf (n / 2) x) none .lf
     | false=>.nd .lf none (Tr.put f .lf (n / 2-1) x)
 | f+1,.nd l v r,n,x=>match Nat.beq n 0 with
   | true=>.nd l x r
   | false=>match Nat.beq (n % 2) 1 with
     | true=>.nd (Tr.put f l (n / 2) x) v r
     | false=>.nd l v (Tr.put f r (n / 2-1) x)
theorem beqF {a b:Nat}(h:a≠b):Nat.beq a b=false:=by
 cases hb:Nat.beq a b with
 | false=>rfl
 | true=>exact absurd (Nat.eq_of_beq_eq_true hb) h
theorem Tr.get_put {α:Type}:∀ (f:Nat) (t:Tr α) (n:Nat) (x:Option α) (m:Nat) (y:α),(Tr.put f t n x).get m=some y→(m=n∧x=some y)∨(m≠n∧t.get m=some y):=by
 intro f
 induction f with
 | zero=>intro t n x m y h;simp [Tr.put,Tr.get] at h
 | succ f ih =>
   intro t n x m y h;have key:∀ (l:Tr α) (v:Option α) (r:Tr α),(match Nat.beq n 0 with
     | true=>Tr.nd l x r
     | false=>match Nat.beq (n % 2) 1 with
       | true=>Tr.nd (Tr.put f l (n / 2) x) v r
       | false=>Tr.nd l v (Tr.put f r (n / 2-1) x)).get m=some y→(m=n∧x=some y)∨(m≠n∧(Tr.nd l v r).get m=some y):=by
    intro l v r h
    by_cases hn:n=0
    ·subst hn;simp only [Tr.get] at h ⊢
     by_cases hm:m=0
     ·subst hm;simp at h;exact .inl ⟨rfl,h⟩
     ·refine .inr ⟨hm,?_⟩;have e:Nat.beq m 0=false:=beqF hm;simp only [e] at h ⊢;exact h
    ·have e:Nat.beq n 0=false:=beqF hn
     by_cases ho:n % 2=1
     ·have eo:Nat.beq (n % 2) 1=true:=by simpa using ho
      simp only [e,eo,Tr.get] at h ⊢
      by_cases hm:m=0
      ·subst hm;exact .inr ⟨fun x=>hn x.symm,h⟩
      ·have em:Nat.beq m 0=false:=beqF hm;simp only [em] at h ⊢
       by_cases mo:m % 2=1
       ·have emo:Nat.beq (m % 2) 1=true:=by simpa using mo
        simp only [emo] at h ⊢;rcases ih _ _ _ _ _ h with⟨a,b⟩ | ⟨a,b⟩
        ·exact .inl ⟨by omega,b⟩
        ·exact .inr ⟨fun e=>a (by rw [e]),b⟩
       ·have emo:Nat.beq (m % 2) 1=false:=beqF mo;simp only [emo] at h ⊢;exact .inr ⟨fun e=>mo (by rw [e];exact ho),h⟩
     ·have eo:Nat.beq (n % 2) 1=false:=beqF ho;simp only [e,eo,Tr.get] at h ⊢
      by_cases hm:m=0
      ·subst hm;exact .inr ⟨fun x=>hn x.symm,h⟩
      ·have em:Nat.beq m 0=false:=beqF hm;simp only [em] at h ⊢
       by_cases mo:m % 2=1
       ·have emo:Nat.beq (m % 2) 1=true:=by simpa using mo
        simp only [emo] at h ⊢;exact .inr ⟨fun e=>ho (by rw [← e];exact mo),h⟩
       ·have emo:Nat.beq (m % 2) 1=false:=beqF mo;simp only [emo] at h ⊢;rcases ih _ _ _ _ _ h with⟨a,b⟩ | ⟨a,b⟩
        ·exact .inl ⟨by omega,b⟩
        ·exact .inr ⟨fun e=>a (by rw [e]),b⟩
   cases t with
   | lf =>
     simp only [Tr.put] at h;rcases key .lf none .lf h with a | ⟨a,b⟩
     ·exact .inl a
     ·refine .inr ⟨a,?_⟩;simp only [Tr.get] at b;split at b
      ·cases b
      ·split at b <;> cases b
   | nd l v r=>simp only [Tr.put] at h;exact key l v r h
/-! views -/
def vw (e:Tr CV):Env:=fun t=>match e.get t with
 | some c=>c
 | none=>.any
def hv (h:Tr CB):Heap:=fun b=>h.get b
def setT (e:Tr CV)(d:Option Nat)(c:CV):Tr CV:=match d with
 | some i=>Tr.put 20 e i (some c)
 | none=>e
theorem vw_setT (e:Tr CV)(d:Option Nat)(c:CV)(t:Nat):vw (setT e d c) t=putE (vw e) d c t∨vw (setT e d c) t=.any:=by
 cases d with
 | none=>exact .inl rfl
 | some i =>
   unfold setT
   show (match (Tr.put 20 e i (some c)).get t with | some c=>c | none=>.any)=_∨(match (Tr.put 20 e i (some c)).get t with | some c=>c | none=>.any)=_
   cases hg:(Tr.put 20 e i (some c)).get t with
   | none=>exact .inr rfl
   | some y =>
     left;rcases Tr.get_put _ _ _ _ _ _ hg with⟨a,b⟩ | ⟨a,b⟩
     ·cases b;simp [putE,a]
     ·simp [putE,a,vw,b]
theorem hv_put (h:Tr CB)(b:Nat)(k:CB):Sub (hv (Tr.put 20 h b (some k))) (upd (hv h) b k):=by
 intro x y hx;rcases Tr.get_put _ _ _ _ _ _ hx with⟨a,c⟩ | ⟨a,c⟩
 ·cases c;subst a;exact upd_hit _ _ _
 ·rw [upd_miss _ _ _ _ a];exact c
theorem hv_del (h:Tr CB)(b:Nat):Sub (hv (Tr.put 20 h b none)) (drp (hv h) b):=by
 intro x y hx;rcases Tr.get_put _ _ _ _ _ _ hx with⟨a,c⟩ | ⟨a,c⟩
 ·cases c
 ·rw [drp_miss _ _ _ a];exact c
def Dl.tr (h:Tr CB)(nx:Nat):Dl→Tr CB
 | .no=>h
 | .set b k=>Tr.put 20 h b (some k)
 | .mv b k=>Tr.put 20 (Tr.put 20 h b none) nx (some k)
 | .nw k=>Tr.put 20 h nx (some k)
theorem Sub.trans {A B C:Heap}(h:Sub A B)(h':Sub B C):Sub A C:=fun b k x=>h' b k (h b k x)
theorem Sub.upd {A B:Heap}(h:Sub A B)(b:Nat)(k:CB):Sub (Ax.upd A b k) (Ax.upd B b k):=by
 intro x y hx
 by_cases e:x=b
 ·subst e;rw [upd_hit] at hx ⊢;exact hx
 ·rw [upd_miss _ _ _ _ e] at hx ⊢;exact h x y hx
theorem Dl.tr_sub (h:Tr CB)(nx:Nat)(d:Dl):Sub (hv (d.tr h nx)) (d.hp (hv h) nx):=by
 cases d with
 | no=>exact Sub.refl _
 | set b k=>exact hv_put h b k
 | mv b k=>exact (hv_put _ nx k).trans ((hv_del h b).upd nx k)
 | nw k=>exact hv_put h nx k
section weak
variable {P:Program} {G:Nat→CV} {n:Nat} {e e':Env} {H H':Heap} {nx:Nat} {Q:AExit→Env→Heap→Nat→Prop}
theorem Post.src {M:Mp}{w:World}(s:Sub H' H){ex:Exit}{a':Act}{w':World}(h:Post n H' M nx w Q ex a' w'):Post n H M nx w Q ex a' w':=by
 obtain⟨M',x,e',H',nx',h1,h2,h3,h4,h5⟩:=h;exact⟨M',x,e',H',nx',h1,h2,h3.src s,h4,h5⟩
theorem AWp.weak {c:Code}(he:∀ t,e' t=e t∨e' t=.any)(hs:Sub H' H)(h:AWp P G n c e' H' nx Q):AWp P G n c e H nx Q:=fun M a w g r v =>
 wp_mono (h M a w g (r.weak hs) (v.weak he)) fun _ _ _ hp=>hp.src hs
theorem AOps.weak {ops:Array Oper}{l:List Nat}(he:∀ t,e' t=e t∨e' t=.any)(hs:Sub H' H)(h:AOps P G n ops l e' H' nx Q):AOps P G n ops l e H nx Q:=fun M a w g r v =>
 wpOps_mono (fun _ _ _ hp=>hp.src hs) l (h M a w g (r.weak hs) (v.weak he))
theorem ACall.weak {f:FuncId}{args:List CV}{R:Res→Heap→Nat→Prop}(hs:Sub H' H)(h:ACall P G f args H' nx R):ACall P G f args H nx R:=fun M w vs g r v =>
 (h M w vs g (r.weak hs) v).mono fun _ _ ⟨M',x,H1,n',a1,a2,a3,a4⟩=>⟨M',x,H1,n',a1,a2,a3.src hs,a4⟩
end weak
/-! equality of abstract values -/
mutual
def beqV:CV→CV→Bool
 | .any,.any=>true
 | .bool a,.bool b=>a == b
 | .int k a,.int k' b=>decide (k=k') && decide (a=b)
 | .str a,.str b=>a == b
 | .nilp,.nilp=>true
 | .ptr a b,.ptr c d=>Nat.beq a c && Nat.beq b d
 | .rop a,.rop b=>beqL a b
 | .nils,.nils=>true
 | .sl a b c d,.sl a' b' c' d'=>Nat.beq a a' && Nat.beq b b' && Nat.beq c c' && Nat.beq d d'
 | .lst a,.lst b=>beqR a b
 | .nilm,.nilm=>true
 | .mp a,.mp b=>Nat.beq a b
 | .fmp a b,.fmp c d=>beqL a c && beqL b d
 | .nilf,.nilf=>true
 | .fn f a b,.fn f' c d=>decide (f=f') && beqL a c && beqL b d
 | .nili,.nili=>true
 | .iface t a,.iface t' b=>Nat.beq t t' && beqV a b
 | .agg a,.agg b=>beqL a b
 | .tup a,.tup b=>beqL a b
 | .opt g a,.opt g' b=>(g == g') && beqV a b
 | _,_=>false
def beqL:List CV→List CV→Bool
 | [],[]=>true
 | a::as,b::bs=>beqV a b && beqL as bs
 | _,_=>false
def beqR:List (List CV)→List (List CV)→Bool
 | [],[]=>true
 | a::as,b::bs=>beqL a b && beqR as bs
 | _,_=>false
end
mutual
theorem beqV_eq:∀ {a b:CV},beqV a b=true→a=b
 | .any,b,h=>by cases b <;> first | rfl | (simp [beqV] at h)
 | .bool a,b,h=>by cases b <;> simp [beqV] at h <;> simp [h]
 | .int k a,b,h=>by cases b <;> simp [beqV] at h <;> simp [h]
 | .str a,b,h=>by cases b <;> simp [beqV] at h <;> simp [h]
 | .nilp,b,h=>by cases b <;> first | rfl | (simp [beqV] at h)
 | .ptr a c,b,h=>by cases b <;> simp [beqV] at h <;> simp [h]
 | .rop a,b,h=>by cases b <;> simp [beqV] at h;simp [beqL_eq h]
 | .nils,b,h=>by cases b <;> first | rfl | (simp [beqV] at h)
 | .sl a c d e,b,h=>by cases b <;> simp [beqV] at h <;> simp [h]
 | .lst a,b,h=>by cases b <;> simp [beqV] at h;simp [beqR_eq h]
 | .nilm,b,h=>by cases b <;> first | rfl | (simp [beqV] at h)
 | .mp a,b,h=>by cases b <;> simp [beqV] at h <;> simp [h]
 | .fmp a c,b,h=>by cases b <;> simp [beqV] at h;simp [beqL_eq h.1,beqL_eq h.2]
 | .nilf,b,h=>by cases b <;> first | rfl | (simp [beqV] at h)
 | .fn f a c,b,h=>by cases b <;> simp [beqV] at h;simp [h.1.1,beqL_eq h.1.2,beqL_eq h.2]
 | .nili,b,h=>by cases b <;> first | rfl | (simp [beqV] at h)
 | .iface t a,b,h=>by cases b <;> simp [beqV] at h;simp [h.1,beqV_eq h.2]
 | .agg a,b,h=>by cases b <;> simp [beqV] at h;simp [beqL_eq h]
 | .tup a,b,h=>by cases b <;> simp [beqV] at h;simp [beqL_eq h]
 | .opt g a,b,h=>by cases b <;> simp [beqV] at h;simp [h.1,beqV_eq h.2]
theorem beqL_eq:∀ {a b:List CV},beqL a b=true→a=b
 | [],b,h=>by cases b <;> first | rfl | (simp [beqL] at h)
 | a::as,b,h=>by cases b <;> simp [beqL] at h;rw [beqV_eq h.1,beqL_eq h.2]
theorem beqR_eq:∀ {a b:List (List CV)},beqR a b=true→a=b
 | [],b,h=>by cases b <;> first | rfl | (simp [beqR] at h)
 | a::as,b,h=>by cases b <;> simp [beqR] at h;rw [beqL_eq h.1,beqR_eq h.2]
end
/-! regions in order -/
abbrev Call1:=FuncId→List CV→Tr CB→Nat→Option (Res×Tr CB×Nat)
def Is (x:AExit)(e:Tr CV)(h:Tr CB)(nx:Nat):AExit→Env→Heap→Nat→Prop:=fun x' e' H' nx'=>x'=x∧e'=vw e∧H'=hv h∧nx'=nx
def IsR (r:Res)(h:Tr CB)(nx:Nat):Res→Heap→Nat→Prop:=fun r' H' nx'=>r'=r∧H'=hv h∧nx'=nx
def CallOk (P:Program)(G:Nat→CV)(call:Call1):Prop:=∀ f args h nx r h' nx',call f args h nx=some (r,h',nx')→ACall P G f args (hv h) nx (IsR r h' nx')
def okD (n:Nat)(d:Option Nat):Bool:=match d with
 | some i=>Nat.blt i n
 | none=>true
theorem okD_spec {n:Nat}{d:Option Nat}(h:okD n d=true):∀ j,d=some j→j<n:=by
 intro j hj;subst hj;exact blt_lt h
def panA (ρ:Operand→CV)(op:Op):Option CV:=match op with
 | .panic x=>match ρ x with
   | .iface t c=>some (.iface t c)
   | _=>none
 | _=>none
def runL (P:Program)(G:Nat→CV)(call:Call1)(n:Nat)(ops:Array Oper):List Oper→Tr CV→Tr CB→Nat→Option (AExit×Tr CV×Tr CB×Nat)
 | [],e,h,nx=>some (.normal,e,h,nx)
 | o::os,e,h,nx=>match gd ops (vw e) o with
   | some b=>match okD n o.dst with
     | true=>match b with
       | false=>runL P G call n ops os (setT e o.dst (.tup [])) h nx
       | true=>match qstep P (hv h) (rd G (vw e)) o.op with
         | some c=>runL P G call n ops os (setT e o.dst c) h nx
         | none=>match astep P (rd G (vw e)) nx o.op with
           | some (c,k)=>runL P G call n ops os (setT e o.dst c) (Tr.put 20 h nx (some k)) (nx+1)
           | none=>match estep P (hv h) nx (rd G (vw e)) o.op with
             | some (c,d)=>runL P G call n ops os (setT e o.dst c) (d.tr h nx) (d.nx nx)
             | none=>match callA (rd G (vw e)) o.op with
               | some (f,args)=>match enters P f with
                 | true=>match call f args h nx with
                   | some (.ret v,h',nx')=>runL P G call n ops os (setT e o.dst v) h' nx'
                   | some (.pan v,h',nx')=>some (.pan v,e,h',nx')
                   | none=>none
                 | false=>none
               | none=>match panA (rd G (vw e)) o.op with
                 | some v=>some (.pan v,e,h,nx)
                 | none=>none
     | false=>none
   | none=>none
theorem runL_sound {P:Program}{G:Nat→CV}{call:Call1}(hc:CallOk P G call){n:Nat}{ops:Array Oper}:∀ (os:List Oper) (k:Nat) (e:Tr CV) (h:Tr CB) (nx:Nat) (x:AExit) (e':Tr CV) (h':Tr CB) (nx':Nat),ops.toList.drop k=os →
  runL P G call n ops os e h nx=some (x,e',h',nx')→AOps P G n ops (List.range' k os.length) (vw e) (hv h) nx (Is x e' h' nx')
 | [],k,e,h,nx,x,e',h',nx',_,hr=>by
   cases hr;exact AOps.nil ⟨rfl,rfl,rfl,rfl⟩
 | o::os,k,e,h,nx,x,e',h',nx',hk,hr=>by
   have ho:ops[k]?=some o:=by
    have:=congrArg List.head? hk;simpa [List.head?_drop] using this
   have hk':ops.toList.drop (k+1)=os:=by
    have:=congrArg List.tail hk;simpa [List.tail_drop] using this
   simp only [List.length_cons,List.range'_succ];unfold runL at hr;split at hr
   case h_2=>cases hr
   rename_i b hg;split at hr
   case h_2=>cases hr
   rename_i hd;have hd':=okD_spec hd;split at hr
   ·exact AOps.unwanted ho hg hd' (AOps.weak (vw_setT _ _ _) (Sub.refl _) (runL_sound hc os (k+1) _ _ _ _ _ _ _ hk' hr))
   ·split at hr
    ·rename_i c hq;exact AOps.quiet ho hg hd' hq (AOps.weak (vw_setT _ _ _) (Sub.refl _) (runL_sound hc os (k+1) _ _ _ _ _ _ _ hk' hr))
    ·split at hr
     ·rename_i c kk hq;exact AOps.new ho hg hd' hq (AOps.weak (vw_setT _ _ _) (hv_put _ _ _) (runL_sound hc os (k+1) _ _ _ _ _ _ _ hk' hr))
     ·split at hr
      ·rename_i c d hq;exact AOps.write ho hg hd' hq (AOps.weak (vw_setT _ _ _) (Dl.tr_sub _ _ _) (runL_sound hc os (k+1) _ _ _ _ _ _ _ hk' hr))
      ·split at hr
       ·rename_i f args hq;split at hr
        case h_2=>cases hr
        rename_i he;split at hr
        ·rename_i v h1 nx1 hcall;refine AOps.call ho hg hd' hq he ((hc _ _ _ _ _ _ _ hcall).mono ?_);rintro r H1 n1 ⟨rfl,rfl,rfl⟩;exact AOps.weak (vw_setT _ _ _) (Sub.refl _) (runL_sound hc os (k+1) _ _ _ _ _ _ _ hk' hr)
        ·rename_i v h1 nx1 hcall;cases hr;refine AOps.call ho hg hd' hq he ((hc _ _ _ _ _ _ _ hcall).mono ?_);rintro r H1 n1 ⟨rfl,rfl,rfl⟩;exact⟨rfl,rfl,rfl,rfl⟩
        ·cases hr
       ·split at hr
        ·rename_i v hp;cases hr;unfold panA at hp;split at hp
         ·rename_i xo hop;split at hp
          ·rename_i t c hx;cases hp;exact AOps.panic ho hg hop hx ⟨rfl,rfl,rfl,rfl⟩
          ·cases hp
         ·cases hp
        ·cases hr
end Ax
end
section
namespace Ax
/-- A plan that grows. -/
structure PS where
 acts:List Act1
 hs:List (Tr CB)
 nxs:List Nat
 eix:List Nat
 pan:Bool
def PS.plan (ps:PS)(N:Nat):Plan where
 act:=fun i=>(ps.acts[i]?).getD .skip
 hs:=fun j=>hv ((ps.hs[j]?).getD .lf)
 nxs:=fun j=>(ps.nxs[j]?).getD 0
 m:=match ps.pan with
  | true=>ps.eix.length-1
  | false=>ps.eix.length
 eix:=fun j=>(ps.eix[j]?).getD N
/-- The heap that an operation sees, as a trie. -/
def seeT (ops:Array Oper)(pl:Plan)(nx0 J i:Nat)(acts:List Act1)(h:Tr CB):Nat→Tr CB
 | 0=>h
 | k+1=>match (acts[k]?).getD .skip with
   | .alloc _ kk=>match anc (ancs ops) i k && !(List.range J).any (fun j=>anc (ancs ops) (pl.eix j) k) with
     | true=>Tr.put 20 (seeT ops pl nx0 J i acts h k) (nx0+k) (some kk)
     | false=>seeT ops pl nx0 J i acts h k
   | _=>seeT ops pl nx0 J i acts h k
theorem seeT_get {ops:Array Oper}{ps:PS}{N nx0 J i:Nat}{h:Tr CB}:∀ (k b:Nat) (kk:CB),(seeT ops (ps.plan N) nx0 J i ps.acts h k).get b=some kk→newL ops (ps.plan N) nx0 J (before ops i) b=some kk∨((∀ i',i'<k→b=nx0+i'→newL ops (ps.plan N) nx0 J (before ops i) b=none)∧h.get b=some kk)
 | 0,b,kk,hg=>.inr ⟨fun i' hi=>absurd hi (Nat.not_lt_zero _),hg⟩
 | k+1,b,kk,hg=>by
   have step:(seeT ops (ps.plan N) nx0 J i ps.acts h k).get b=some kk→(b=nx0+k→newL ops (ps.plan N) nx0 J (before ops i) b=none)→newL ops (ps.plan N) nx0 J (before ops i) b=some kk∨((∀ i',i'<k+1→b=nx0+i'→newL ops (ps.plan N) nx0 J (before ops i) b=none)∧h.get b=some kk):=by
    intro h1 h2;rcases seeT_get k b kk h1 with h3 | ⟨h3,h4⟩
    ·exact .inl h3
    ·refine .inr ⟨fun i' hi' hb=>?_,h4⟩
     by_cases e:i'=k
     ·subst e;exact h2 hb
     ·exact h3 i' (by omega) hb
   have nonew:(∀ c kk,(ps.plan N).act k≠.alloc c kk)∨(anc (ancs ops) i k && !(List.range J).any (fun j=>anc (ancs ops) ((ps.plan N).eix j) k))=false→b=nx0+k→newL ops (ps.plan N) nx0 J (before ops i) b=none:=by
    intro hor hb;cases hn:newL ops (ps.plan N) nx0 J (before ops i) b with
    | none=>rfl
    | some k2 =>
      obtain⟨n1,n2,⟨c,n3⟩,n4⟩:=newL_some hn;have e:b-nx0=k:=by omega
      rw [e] at n2 n3 n4;rcases hor with hor | hor
      ·exact absurd n3 (hor _ _)
      ·simp only [before] at n2;rw [n2] at hor;simp only [Bool.true_and,Bool.not_eq_false'] at hor;obtain⟨j,hj,ha⟩:=List.any_eq_true.mp hor;rw [n4 j (List.mem_range.mp hj)] at ha;cases ha
   unfold seeT at hg;split at hg
   ·rename_i c k2 hact;split at hg
    ·rename_i hc;simp only [Bool.and_eq_true,Bool.not_eq_true'] at hc;rcases Tr.get_put _ _ _ _ _ _ hg with⟨a,e⟩ | ⟨a,e⟩
     ·cases e;left;refine newL_of (c:=c) (by omega) (by subst a;simp only [before,Nat.add_sub_cancel_left];exact hc.1) (by subst a;simp only [Nat.add_sub_cancel_left];exact hact) (fun j hj=>?_);subst a;simp only [Nat.add_sub_cancel_left];have:=List.any_eq_false.mp hc.2 j (List.mem_range.mpr hj);simpa using this
     ·exact step e (fun hb=>absurd hb a)
    ·rename_i hc;exact step hg (nonew (.inr hc))
   ·rename_i hna;refine step hg (nonew (.inl fun c k2 hx=>?_));exact hna c k2 hx
/-- One operation of a drawn region. -/
def stepP (P:Program)(G:Nat→CV)(call:Call1)(ops:Array Oper)(e0:Env)(nx0:Nat)(ps:PS)(o:Oper):Option PS :=
 match ps.pan && anc (ancs ops) ps.acts.length ((ps.eix[ps.eix.length-1]?).getD ops.size) with
 | true=>some { ps with acts:=ps.acts++[.dead] }
 | false=>match gd ops (envL ops (ps.plan ops.size) e0 (before ops ps.acts.length)) o with
   | some false=>some { ps with acts:=ps.acts++[.skip] }
   | some true=>match astep P (rd G (envL ops (ps.plan ops.size) e0 (before ops ps.acts.length))) (nx0+ps.acts.length) o.op with
     | some (c,k)=>some { ps with acts:=ps.acts++[.alloc c k] }
     | none=>match qstep P (hv (seeT ops (ps.plan ops.size) nx0 (match ps.pan with | true=>ps.eix.length-1 | false=>ps.eix.length) ps.acts.length ps.acts ((ps.hs[match ps.pan with | true=>ps.eix.length-1 | false=>ps.eix.length]?).getD .lf) ps.acts.length)) (rd G (envL ops (ps.plan ops.size) e0 (before ops ps.acts.length))) o.op with
       | some c=>some { ps with acts:=ps.acts++[.quiet c] }
       | none=>match ps.pan with
         | true=>none
         | false=>match estep P (hv (seeT ops (ps.plan ops.size) nx0 ps.eix.length ps.acts.length ps.acts ((ps.hs[ps.eix.length]?).getD .lf) ps.acts.length)) ((ps.nxs[ps.eix.length]?).getD 0) (rd G (envL ops (ps.plan ops.size) e0 (before ops ps.acts.length))) o.op with
           | some (c,d)=>some { acts:=ps.acts++[.eff ps.eix.length c],hs:=ps.hs++[d.tr (seeT ops (ps.plan ops.size) nx0 ps.eix.length ps.acts.length ps.acts ((ps.hs[ps.eix.length]?).getD .lf) ps.acts.length) ((ps.nxs[ps.eix.length]?).getD 0)],nxs:=ps.nxs++[d.nx ((ps.nxs[ps.eix.length]?).getD 0)],eix:=ps.eix++[ps.acts.length],pan:=false }
           | none=>match callA (rd G (envL ops (ps.plan ops.size) e0 (before ops ps.acts.length))) o.op with
             | some (f,args)=>match enters P f with
               | true=>match call f args (seeT ops (ps.plan ops.size) nx0 ps.eix.length ps.acts.length ps.acts ((ps.hs[ps.eix.length]?).getD .lf) ps.acts.length) ((ps.nxs[ps.eix.length]?).getD 0) with
                 | some (.ret c,h',nx')=>some { acts:=ps.acts++[.eff ps.eix.length c],hs:=ps.hs++[h'],nxs:=ps.nxs++[nx'],eix:=ps.eix++[ps.acts.length],pan:=false }
                 | some (.pan v,h',nx')=>some { acts:=ps.acts++[.pan ps.eix.length v],hs:=ps.hs++[h'],nxs:=ps.nxs++[nx'],eix:=ps.eix++[ps.acts.length],pan:=true }
                 | none=>none
               | false=>none
             | none=>none
   | none=>none
def planL (P:Program)(G:Nat→CV)(call:Call1)(ops:Array Oper)(e0:Env)(nx0:Nat):List Oper→PS→Option PS
 | [],ps=>some ps
 | o::os,ps=>match stepP P G call ops e0 nx0 ps o with
   | some ps'=>planL P G call ops e0 nx0 os ps'
   | none=>none
/-- The beginning of a plan. -/
structure Pre (ps pf:PS):Prop where
 acts:∃ l,pf.acts=ps.acts++l
 hs:∃ l,pf.hs=ps.hs++l
 nxs:∃ l,pf.nxs=ps.nxs++l
 eix:∃ l,pf.eix=ps.eix++l
 pan:ps.pan=true→pf.pan=true∧pf.eix=ps.eix
theorem Pre.refl (ps:PS):Pre ps ps:=⟨⟨[],by simp⟩,⟨[],by simp⟩,⟨[],by simp⟩,⟨[],by simp⟩,fun h=>⟨h,rfl⟩⟩
theorem Pre.trans {a b c:PS}(h:Pre a b)(h':Pre b c):Pre a c:=by
 obtain⟨⟨l1,e1⟩,⟨l2,e2⟩,⟨l3,e3⟩,⟨l4,e4⟩,e5⟩:=h;obtain⟨⟨m1,f1⟩,⟨m2,f2⟩,⟨m3,f3⟩,⟨m4,f4⟩,f5⟩:=h';exact⟨⟨l1++m1,by rw [f1,e1];simp⟩,⟨l2++m2,by rw [f2,e2];simp⟩,⟨l3++m3,by rw [f3,e3];simp⟩,⟨l4++m4,by rw [f4,e4];simp⟩,fun h=>⟨(f5 (e5 h).1).1,by rw [(f5 (e5 h).1).2,(e5 h).2]⟩⟩
theorem stepP_pre {P:Program}{G:Nat→CV}{call:Call1}{ops:Array Oper}{e0:Env}{nx0:Nat}{ps ps':PS}{o:Oper}(h:stepP P G call ops e0 nx0 ps o=some ps'):Pre ps ps'∧ps'.acts.length=ps.acts.length+1 ∧
  (ps.eix.length+1=ps.hs.length→ps.eix.length+1=ps.nxs.length→ps'.eix.length+1=ps'.hs.length∧ps'.eix.length+1=ps'.nxs.length):=by
 unfold stepP at h;have simple:∀ x:Act1,Pre ps { ps with acts:=ps.acts++[x] }:=fun x=>⟨⟨[x],rfl⟩,⟨[],by simp⟩,⟨[],by simp⟩,⟨[],by simp⟩,fun hp=>⟨hp,rfl⟩⟩
 split at h
 ·cases h;exact⟨simple _,by simp,fun a b=>⟨a,b⟩⟩
 ·split at h
  ·cases h;exact⟨simple _,by simp,fun a b=>⟨a,b⟩⟩
  ·split at h
   ·cases h;exact⟨simple _,by simp,fun a b=>⟨a,b⟩⟩
   ·split at h
    ·cases h;exact⟨simple _,by simp,fun a b=>⟨a,b⟩⟩
    ·split at h
     ·cases h
     ·rename_i hp;split at h
      ·cases h;exact⟨⟨⟨_,rfl⟩,⟨_,rfl⟩,⟨_,rfl⟩,⟨_,rfl⟩,fun hh=>(by rw [hp] at hh;cases hh)⟩,by simp,fun a b=>by simp;omega⟩
      ·split at h
       ·split at h
        ·split at h
         ·cases h;exact⟨⟨⟨_,rfl⟩,⟨_,rfl⟩,⟨_,rfl⟩,⟨_,rfl⟩,fun hh=>(by rw [hp] at hh;cases hh)⟩,by simp,fun a b=>by simp;omega⟩
         ·cases h;exact⟨⟨⟨_,rfl⟩,⟨_,rfl⟩,⟨_,rfl⟩,⟨_,rfl⟩,fun hh=>(by rw [hp] at hh;cases hh)⟩,by simp,fun a b=>by simp;omega⟩
         ·cases h
        ·cases h
       ·cases h
  ·cases h
/-- Every step of the plan. -/
theorem planL_steps {P:Program}{G:Nat→CV}{call:Call1}{ops:Array Oper}{e0:Env}{nx0:Nat}:∀ {os:List Oper} {ps pf:PS},planL P G call ops e0 nx0 os ps=some pf→Pre ps pf∧pf.acts.length=ps.acts.length+os.length ∧
  (ps.eix.length+1=ps.hs.length→ps.eix.length+1=ps.nxs.length→pf.eix.length+1=pf.hs.length∧pf.eix.length+1=pf.nxs.length ∧
  ∀ (k:Nat) o,os[k]?=some o→∃ a b,stepP P G call ops e0 nx0 a o=some b∧a.acts.length=ps.acts.length+k∧Pre a pf∧Pre b pf∧a.eix.length+1=a.hs.length∧a.eix.length+1=a.nxs.length)
 | [],ps,pf,h=>by
   cases h;exact⟨.refl _,by simp,fun a b=>⟨a,b,fun k o hk=>by simp at hk⟩⟩
 | o::os,ps,pf,h=>by
   unfold planL at h;split at h
   ·rename_i ps' hs;obtain⟨p1,l1,s1⟩:=stepP_pre hs;obtain⟨p2,l2,s2⟩:=planL_steps h;refine⟨p1.trans p2,by simp;omega,fun a b=>?_⟩;obtain⟨a',b'⟩:=s1 a b;obtain⟨c1,c2,c3⟩:=s2 a' b';refine⟨c1,c2,fun k o' hk=>?_⟩;cases k with
    | zero=>cases hk;exact⟨ps,ps',hs,by simp,p1.trans p2,p2,a,b⟩
    | succ k =>
      obtain⟨x,y,h1,h2,h3,h4,h5,h6⟩:=c3 k o' (by simpa using hk);exact⟨x,y,h1,by omega,h3,h4,h5,h6⟩
   ·cases h
end Ax
end
end Go.Proofs.YtoookjadbhdfhaaGreatDoor
