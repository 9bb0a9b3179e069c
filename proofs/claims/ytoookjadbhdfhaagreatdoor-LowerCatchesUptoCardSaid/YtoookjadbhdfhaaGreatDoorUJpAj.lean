/-
  AX: drawn regions run in the order of the text: the plan.
-/
import Derived.Test.YtoookjadbhdfhaaGreatDoorUJpAi
set_option linter.unusedSectionVars false
set_option linter.unusedSimpArgs false
set_option linter.unnecessarySimpa false
set_option linter.unusedVariables false
set_option linter.unusedSimpArgs false
set_option linter.unusedVariables false
namespace Go.Proofs.YtoookjadbhdfhaaGreatDoor
section
namespace Ax
/-- Where effect j stands. -/
def effPos (l:List Act1)(N j:Nat):Nat:=((List.range N).find? fun (k:Nat)=>isE l[k]? && Nat.beq (cnt l k) j).getD N
theorem effPos_at {l:List Act1}{N i:Nat}(h:isE l[i]?=true)(hi:i<N):effPos l N (cnt l i)=i:=by
 unfold effPos;cases hf:(List.range N).find? fun (k:Nat)=>isE l[k]? && Nat.beq (cnt l k) (cnt l i) with
 | none =>
   have:=List.find?_eq_none.mp hf i (List.mem_range.mpr hi);simp [h] at this
 | some k =>
   have hk:=List.find?_some (p:=fun (k:Nat)=>isE l[k]? && Nat.beq (cnt l k) (cnt l i)) hf;simp only [Bool.and_eq_true] at hk;have h2:=beq_eq hk.2;simp only [Option.getD_some];rcases Nat.lt_trichotomy k i with hlt | heq | hlt
   ·have:=cnt_lt hlt hk.1;omega
   ·exact heq
   ·have:=cnt_lt hlt h;omega
theorem effPos_end {l:List Act1}{N:Nat}:effPos l N (cnt l N)=N:=by
 unfold effPos;cases hf:(List.range N).find? fun (k:Nat)=>isE l[k]? && Nat.beq (cnt l k) (cnt l N) with
 | none=>rfl
 | some k =>
   have hk:=List.find?_some (p:=fun (k:Nat)=>isE l[k]? && Nat.beq (cnt l k) (cnt l N)) hf;simp only [Bool.and_eq_true] at hk;have h2:=beq_eq hk.2;have h3:=List.mem_range.mp (List.mem_of_find?_eq_some hf);have:=cnt_lt h3 hk.1;omega
def planS (ops:Array Oper)(H:Heap)(nx:Nat)(l:List Act1)(E:List (Heap×Nat)):Plan:=⟨fun i=>(l[i]?).getD .skip,hsAt H E,nsAt (nx+ops.size) E,cnt l ops.size,effPos l ops.size⟩
section
variable {P:Program} {G:Nat→CV} {κ:Qc} {n:Nat} {ops:Array Oper} {nx:Nat} {Q:AExit→Env→Heap→Nat→Prop}
/-- A drawn region, run in the order of the text. -/
theorem AWp.regS {id:Nat}{e e':Env}{H H':Heap}{ne':Nat}{l:List Act1}{E:List (Heap×Nat)}(hm:P.follows .mixedOrders=true)(hst:statR n κ.R ops=true)(hSn:∀ H1 H2,(∀ b,b<nx→H2 b=H1 b)→κ.S H1→κ.S H2)(hS0:κ.S H)(hr:SRun P G κ ops nx 0 0 ops.toList e H (nx+ops.size) l E e' H' ne')(h:Q .normal e' H' ne'):AWp P G n (.region id ops true) e H nx Q:=by
 intro M a w g r v;have hfree:∀ b,nx≤b→H b=none:=fun b hb=>by
  cases hH:H b with
  | none=>rfl
  | some k=>obtain⟨gg,m,h1,_⟩:=r.blk b k hH;rw [r.fresh b hb] at h1;cases h1
 simp only [statR,Bool.and_eq_true] at hst;obtain⟨f1,f2,f3,f4,f5⟩:=hr.facts (n:=n) H (nx+ops.size) e [] [] (by simp) (Nat.zero_le _) rfl rfl hst.1 rfl (fun t=>by cases wr ops t <;> simp) heapAt_zero.symm rfl;simp only [List.nil_append] at f1 f2 f3 f4 f5;have hlen:l.length=ops.size:=by have:=hr.len;simpa using this
 have hin:∀ {i:Nat} {x:Act1},l[i]?=some x→i<ops.size:=fun hx=>by have:=(List.getElem?_eq_some_iff.mp hx).1;omega
 have place:∀ i,i<ops.size→∃ o,ops[i]?=some o∧PlaceOk P G κ ops nx (nx+ops.size) H e l E i o:=fun i hi=>⟨ops[i],by simp [hi],f5 i _ (Nat.zero_le _) (by simp [hi])⟩
 have efK:∀ {i:Nat},isE l[i]?=true→i<ops.size∧atO ops isEf i=true∧∃ c,l[i]?=some (.eff (cnt l i) c):=by
  intro i hi;cases hl:l[i]? with
  | none=>rw [hl] at hi;cases hi
  | some x =>
    have hlt:=hin hl;obtain⟨o,ho,ei,_,hp⟩:=place i hlt;rcases hp with⟨c,h1,_⟩ | ⟨h1,_⟩ | ⟨c,kk,h1,_⟩ | ⟨c,x',h1,_,h2,_⟩
    ·rw [h1] at hi;cases hi
    ·rw [h1] at hi;cases hi
    ·rw [h1] at hi;cases hi
    ·refine⟨hlt,?_,c,by rw [← hl];exact h1⟩;unfold atO;rw [ho];exact h2
 have alK:∀ {i:Nat} {c:CV} {kk:CB},l[i]?=some (.alloc c kk)→atO ops isAl i=true:=by
  intro i c kk hl;obtain⟨o,ho,ei,_,hp⟩:=place i (hin hl);rcases hp with⟨c',h1,_⟩ | ⟨h1,_⟩ | ⟨c',kk',h1,_,h2⟩ | ⟨c',x',h1,_⟩
  ·rw [h1] at hl;cases hl
  ·rw [h1] at hl;cases hl
  ·unfold atO;rw [ho];exact astep_isAl h2
  ·rw [h1] at hl;cases hl
 have hed:∀ i o,ops[i]?=some o→∀ e∈o.after.toList,Region.binds .any e=true→e.on<i:=by
  intro i o ho;have:=statL_spec (k:=0) hst.1 i o (by simpa using ho);rw [Nat.zero_add] at this;exact statO_edges this
 have notE:∀ {i:Nat} {c:CV} {kk:CB},l[i]?=some (.alloc c kk)→isE l[i]?=false:=fun h=>by rw [h];rfl
 -- effects number the positions
 have posE:∀ {J i:Nat},J<cnt l i→i≤ops.size→∃ p,p<i∧isE l[p]?=true∧cnt l p=J∧effPos l ops.size J=p:=by
  intro J i hJ hi;obtain⟨p,h1,h2,h3⟩:=cnt_ex hJ;exact⟨p,h1,h2,h3,by rw [← h3];exact effPos_at h2 (by omega)⟩
 -- the heap that place i sees
 have sees:∀ i,i≤ops.size→∀ (L:Nat→Bool),(∀ a,(∃ c kk,l[a]?=some (.alloc c kk))→L a=true→a<i)→(∀ a,(∃ c kk,l[a]?=some (.alloc c kk))→lastE l i≤a→a<i→L a=true) →
   heapL ops (planS ops H nx l E) nx (cnt l i) L=heapAt nx H l E i:=by
  intro i hi L hL1 hL2
  funext b
  unfold heapL heapAt;have key:newL ops (planS ops H nx l E) nx (cnt l i) L b=(if nx≤b∧lastE l i≤b-nx∧b-nx<i then alAt l (b-nx) else none):=by
   cases hal:alAt l (b-nx) with
   | none =>
     simp only [ite_self];cases hn:newL ops (planS ops H nx l E) nx (cnt l i) L b with
     | none=>rfl
     | some kk =>
       obtain⟨_,_,⟨c,h3⟩,_⟩:=newL_some hn;exfalso;have h3':(l[b-nx]?).getD .skip=.alloc c kk:=h3;unfold alAt at hal;cases hl:l[b-nx]? with
       | none=>rw [hl] at h3';cases h3'
       | some x=>rw [hl] at h3' hal;simp only [Option.getD_some] at h3';subst h3';cases hal
   | some kk =>
     obtain⟨c,hl⟩:∃ c,l[b-nx]?=some (.alloc c kk):=by
      unfold alAt at hal;split at hal
      ·rename_i c k' hl;cases hal;exact⟨c,hl⟩
      ·cases hal
     by_cases hc:nx≤b∧lastE l i≤b-nx∧b-nx<i
     ·rw [if_pos hc];refine newL_of (c:=c) hc.1 (hL2 _ ⟨c,kk,hl⟩ hc.2.1 hc.2.2) (by show (l[b-nx]?).getD .skip=_;rw [hl];rfl) (fun j hj=>?_);obtain⟨p,p1,p2,p3,p4⟩:=posE hj hi
      show anc (ancs ops) (effPos l ops.size j) (b-nx)=false
      rw [p4];have:=lastE_gt p1 p2;cases hx:anc (ancs ops) p (b-nx) with
      | false=>rfl
      | true=>have:=anc_lt hed hx;omega
     ·rw [if_neg hc];cases hn:newL ops (planS ops H nx l E) nx (cnt l i) L b with
      | none=>rfl
      | some k2 =>
        obtain⟨n1,n2,_,n4⟩:=newL_some hn;exfalso;have hlt:=hL1 _ ⟨c,kk,hl⟩ n2;have hge:b-nx<lastE l i:=by omega
        rcases lastE_cases (l:=l) i with h0 | ⟨p,p1,p2,p3⟩
        ·omega
        ·have hne:p≠b-nx:=fun e1=>by rw [e1,notE hl] at p2;cases p2
         have hal':=alK hl;obtain⟨q1,q2,_⟩:=efK p2;have hanc:=statP_spec hst.2 q1 (show b-nx<p by omega) (.inl ⟨hal',memR_ef q2⟩);have:=n4 (cnt l p) (cnt_lt p1 p2);have e2:(planS ops H nx l E).eix (cnt l p)=p:=effPos_at p2 q1;rw [e2,hanc] at this;cases this
  rw [key];rfl
 have seesI:∀ i,i<ops.size→memR ops κ.R i=true→heapL ops (planS ops H nx l E) nx (cnt l i) (before ops i)=heapAt nx H l E i:=by
  intro i hi hmem;refine sees i (by omega) _ (fun a _ ha=>anc_lt hed ha) (fun a ⟨c,kk,hl⟩ _ ha=>?_);exact statP_spec hst.2 hi ha (.inl ⟨alK hl,hmem⟩)
 have flat:∀ u v,u≤v→v≤ops.size→(∀ p,u≤p→p<v→isE l[p]?=true→atO ops isSt p=false)→∀ b,¬ κ.C b→heapAt nx H l E v b=match (if nx≤b∧u≤b-nx∧b-nx<v then alAt l (b-nx) else none) with
   | some kk=>some kk
   | none=>heapAt nx H l E u b:=by
  intro u v huv
  induction v with
  | zero =>
    intro _ _ b _;have:u=0:=by omega
    subst this;rw [if_neg (by omega)]
  | succ v ih =>
    intro hv hc b hCb;rcases Nat.eq_or_lt_of_le huv with h0 | h0
    ·subst h0;rw [if_neg (by omega)]
    ·have ihb:=ih (by omega) (by omega) (fun p a c d=>hc p a (by omega) d) b hCb;obtain⟨o,ho,ei,_,hp⟩:=place v (by omega);have noal:alAt l v=none→(if nx≤b∧u≤b-nx∧b-nx<v+1 then alAt l (b-nx) else none)=(if nx≤b∧u≤b-nx∧b-nx<v then alAt l (b-nx) else none):=by
      intro hn
      by_cases hb:b-nx=v
      ·rw [hb,hn];simp
      ·have:(nx≤b∧u≤b-nx∧b-nx<v+1)↔(nx≤b∧u≤b-nx∧b-nx<v):=by omega
       simp only [this]
     rcases hp with⟨c,q1,_⟩ | ⟨q1,_⟩ | ⟨c,kk,q1,_⟩ | ⟨c,x,q1,_,q2,q3,_,_,q4,_,_⟩
     ·rw [heapAt_same (by rw [q1];simp) (by rw [q1];simp) (by rw [q1];simp),noal (by unfold alAt;rw [q1])];exact ihb
     ·rw [heapAt_same (by rw [q1];simp) (by rw [q1];simp) (by rw [q1];simp),noal (by unfold alAt;rw [q1])];exact ihb
     ·rw [heapAt_alloc q1]
      by_cases hb:b=nx+v
      ·subst hb;rw [upd_hit,if_pos (by omega),Nat.add_sub_cancel_left];unfold alAt;rw [q1]
      ·rw [upd_miss _ _ _ _ hb,ihb];have:(nx≤b∧u≤b-nx∧b-nx<v+1)↔(nx≤b∧u≤b-nx∧b-nx<v):=by omega
       simp only [this]
     ·have hs:isSt o.op=false:=by
       have:=hc v (by omega) (by omega) (by rw [q1];rfl);unfold atO at this;rw [ho] at this;exact this
      rw [heapAt_eff q1 q3,noal (by unfold alAt;rw [q1]),q4 hs b hCb];exact ihb
 -- behind effect J
 have hsPos:∀ {J p:Nat},p<ops.size→isE l[p]?=true→cnt l p=J→hsAt H E (J+1)=heapAt nx H l E (p+1):=by
  intro J p hp he hc;obtain⟨o,ho,ei,_,hp'⟩:=place p hp;rcases hp' with⟨c,q1,_⟩ | ⟨q1,_⟩ | ⟨c,kk,q1,_⟩ | ⟨c,x,q1,_,q2,q3,_⟩
  ·rw [q1] at he;cases he
  ·rw [q1] at he;cases he
  ·rw [q1] at he;cases he
  ·rw [heapAt_eff q1 q3];rw [hc] at q3;simp only [hsAt,q3]
 have seesJ:∀ i J,i<ops.size→memR ops κ.R i=true→isE l[i]?=false→J≤cnt l ops.size→(∀ j,j≤cnt l ops.size→anc (ancs ops) i (effPos l ops.size j)=true→j<J)→(∀ j,j≤cnt l ops.size→anc (ancs ops) (effPos l ops.size j) i=true→J≤j) →
   κ.like (heapAt nx H l E i) (heapL ops (planS ops H nx l E) nx J (before ops i)):=by
  intro i J hi hmem hni hJ h1 h2;rcases Nat.lt_or_ge (cnt l i) J with hc | hc
  ·-- calls behind place i stand already
   obtain⟨p,p1,p2,p3,p4⟩:=posE (show J-1<cnt l ops.size by omega) (Nat.le_refl _);have hip:i<p:=by
    rcases Nat.lt_trichotomy p i with hlt | heq | hlt
    ·have:=cnt_lt hlt p2;omega
    ·subst heq;rw [hni] at p2;cases p2
    ·exact hlt
   obtain⟨q1,q2,_⟩:=efK p2;have hna:anc (ancs ops) p i=false:=by
    cases hx:anc (ancs ops) p i with
    | false=>rfl
    | true=>have:=h2 (J-1) (by omega) (by rw [p4];exact hx);omega
   have nost:∀ p',i≤p'→p'<p+1→isE l[p']?=true→atO ops isSt p'=false:=by
    intro p' ha hb he;cases hs:atO ops isSt p' with
    | false=>rfl
    | true =>
      have hne:p'≠i:=fun e=>by subst e;rw [hni] at he;cases he
      obtain⟨r1,r2,_⟩:=efK he;have hanc:=statP_spec hst.2 r1 (show i<p' by omega) (.inr (.inl ⟨hs,hmem⟩));have hle:=cnt_mono (l:=l) (show p'≤p by omega);have:=h2 (cnt l p') (by omega) (by rw [effPos_at he r1];exact hanc);omega
   have e1:hsAt H E J=heapAt nx H l E (p+1):=by
    have:=hsPos q1 p2 p3;rwa [show J-1+1=J by omega] at this
   intro b hCb;have hnew:newL ops (planS ops H nx l E) nx J (before ops i) b=none:=by
    cases hn:newL ops (planS ops H nx l E) nx J (before ops i) b with
    | none=>rfl
    | some k2 =>
      obtain⟨n1,n2,⟨c,n3⟩,n4⟩:=newL_some hn;exfalso;have hl:l[b-nx]?=some (.alloc c k2):=by
       have n3':(l[b-nx]?).getD .skip=.alloc c k2:=n3;cases hx:l[b-nx]? with
       | none=>rw [hx] at n3';cases n3'
       | some y=>rw [hx] at n3';simp only [Option.getD_some] at n3';rw [n3']
      have hlt:=anc_lt hed n2;have hanc:=statP_spec hst.2 q1 (show b-nx<p by omega) (.inl ⟨alK hl,memR_ef q2⟩);have:=n4 (J-1) (by omega);have e2:(planS ops H nx l E).eix (J-1)=p:=p4;rw [e2,hanc] at this;cases this
   unfold heapL;rw [hnew]
   show hsAt H E J b=_
   rw [e1,flat i (p+1) (by omega) (by omega) nost b hCb]
   by_cases hb:nx≤b∧i≤b-nx∧b-nx<p+1
   ·rw [if_pos hb];have:alAt l (b-nx)=none:=by
     unfold alAt;split
     ·rename_i c kk hl;exfalso;have hal:=alK hl;have hne:b-nx≠p:=fun e=>by rw [e] at hl;rw [hl] at p2;cases p2
      rcases Nat.eq_or_lt_of_le hb.2.1 with h0 | h0
      ·obtain⟨o,ho,_⟩:=place i hi;rw [← h0] at hal;have hmem:=memR_mem hmem;unfold atO at hal hmem;rw [ho] at hal hmem;simp only at hal hmem;revert hal hmem;cases o.op <;> simp [isAl,memO,isEf]
      ·have:=statP_gap hst.2 q1 h0 (by omega) hmem q2 hna;rw [hal] at this;cases this
     ·rfl
    rw [this]
   ·rw [if_neg hb]
  ·-- calls ahead of place i are still to come
   have e0:∃ q,q≤i∧hsAt H E J=heapAt nx H l E q∧cnt l q=J∧(J=0→q=0)∧(∀ p,p+1=q→0<J→isE l[p]?=true∧cnt l p+1=J∧p<ops.size∧effPos l ops.size (J-1)=p)∧(0<J→0<q):=by
    rcases Nat.eq_zero_or_pos J with h0 | h0
    ·subst h0;exact⟨0,by omega,by rw [heapAt_zero];rfl,rfl,fun _=>rfl,fun p hp=>by omega,fun h=>by omega⟩
    ·obtain⟨p,p1,p2,p3,p4⟩:=posE (show J-1<cnt l i by omega) (by omega);have:=hsPos (show p<ops.size by omega) p2 p3;rw [show J-1+1=J by omega] at this;exact⟨p+1,by omega,this,by rw [cnt_succ,if_pos p2];omega,fun h=>by omega,fun p' hp' _=>by
      have:p'=p:=by omega
      subst this;exact⟨p2,by omega,by omega,p4⟩,fun _=>by omega⟩
   obtain⟨q,g1,g2,g3,g4,g5,g6⟩:=e0;have nost:∀ p',q≤p'→p'<i→isE l[p']?=true→atO ops isSt p'=false:=by
    intro p' ha hb he;cases hs:atO ops isSt p' with
    | false=>rfl
    | true =>
      have hanc:=statP_spec hst.2 hi hb (.inr (.inr (.inl ⟨hs,hmem⟩)));have hle:=cnt_mono (l:=l) ha;have:=h1 (cnt l p') (by have:=cnt_mono (l:=l) (show p'≤ops.size by omega);omega) (by rw [effPos_at he (by omega)];exact hanc);omega
   intro b hCb;rw [flat q i g1 (by omega) nost b hCb];unfold heapL;have hnew:newL ops (planS ops H nx l E) nx J (before ops i) b=(if nx≤b∧q≤b-nx∧b-nx<i then alAt l (b-nx) else none):=by
    cases hal:alAt l (b-nx) with
    | none =>
      simp only [ite_self];cases hn:newL ops (planS ops H nx l E) nx J (before ops i) b with
      | none=>rfl
      | some kk =>
        obtain⟨_,_,⟨c,h3⟩,_⟩:=newL_some hn;exfalso;have h3':(l[b-nx]?).getD .skip=.alloc c kk:=h3;unfold alAt at hal;cases hl:l[b-nx]? with
        | none=>rw [hl] at h3';cases h3'
        | some x=>rw [hl] at h3' hal;simp only [Option.getD_some] at h3';subst h3';cases hal
    | some kk =>
      obtain⟨c,hl⟩:∃ c,l[b-nx]?=some (.alloc c kk):=by
       unfold alAt at hal;split at hal
       ·rename_i c k' hl;cases hal;exact⟨c,hl⟩
       ·cases hal
      by_cases hb:nx≤b∧q≤b-nx∧b-nx<i
      ·rw [if_pos hb];refine newL_of (c:=c) hb.1 (statP_spec hst.2 hi hb.2.2 (.inl ⟨alK hl,hmem⟩)) (by show (l[b-nx]?).getD .skip=_;rw [hl];rfl) (fun j hj=>?_);obtain⟨p,p1,p2,p3,p4⟩:=posE (show j<cnt l q by omega) (by omega)
       show anc (ancs ops) (effPos l ops.size j) (b-nx)=false
       rw [p4];cases hx:anc (ancs ops) p (b-nx) with
       | false=>rfl
       | true=>have:=anc_lt hed hx;omega
      ·rw [if_neg hb];cases hn:newL ops (planS ops H nx l E) nx J (before ops i) b with
       | none=>rfl
       | some k2 =>
         obtain⟨n1,n2,_,n4⟩:=newL_some hn;exfalso;have hlt:=anc_lt hed n2;have hJ0:0<J:=by
          rcases Nat.eq_zero_or_pos J with h0 | h0
          ·have:=g4 h0;omega
          ·exact h0
         have hq0:=g6 hJ0;obtain⟨r1,r2,r3,r4⟩:=g5 (q-1) (by omega) hJ0;obtain⟨_,s2,_⟩:=efK r1;have hne:b-nx≠q-1:=fun e=>by rw [← e] at r1;rw [notE hl] at r1;cases r1
         have hanc:=statP_spec hst.2 r3 (show b-nx<q-1 by omega) (.inl ⟨alK hl,memR_ef s2⟩);have:=n4 (J-1) (by omega);have e2:(planS ops H nx l E).eix (J-1)=q-1:=r4;rw [e2,hanc] at this;cases this
   rw [hnew]
   show _=match _ with
    | some kk=>some kk
    | none=>heapAt nx H l E q b
   rw [← g2];rfl
 have hall:envL ops (planS ops H nx l E) e (allL ops)=e':=by
  funext t
  rw [f1 t];unfold envL;cases hw:wr ops t with
  | none=>rfl
  | some j =>
    obtain⟨oj,hoj,_⟩:=wr_some hw;have hlt:=(Array.getElem?_eq_some_iff.mp hoj).1;simp only [allL,lt_blt hlt,hlt,if_true];rfl
 have hend:heapL ops (planS ops H nx l E) nx (cnt l ops.size) (allL ops)=H':=by
  rw [f2];exact sees ops.size (Nat.le_refl _) _ (fun a _ ha=>blt_lt ha) (fun a _ _ ha=>lt_blt ha)
 have nmono:∀ J,J≤cnt l ops.size→nx+ops.size≤nsAt (nx+ops.size) E J:=by
  intro J
  induction J with
  | zero=>intro _;exact Nat.le_refl _
  | succ J ih =>
    intro hJ;have h1:=ih (by omega);obtain⟨p,p1,p2,p3,_⟩:=posE (show J<cnt l ops.size by omega) (Nat.le_refl _);obtain⟨o,ho,ei,_,hp⟩:=place p p1;rcases hp with⟨c,q1,_⟩ | ⟨q1,_⟩ | ⟨c,kk,q1,_⟩ | ⟨c,x,q1,_,_,q4,q5,_⟩
    ·rw [q1] at p2;cases p2
    ·rw [q1] at p2;cases p2
    ·rw [q1] at p2;cases p2
    ·rw [p3] at q4 q5;simp only [nsAt,q4];omega
 have newB:∀ {J:Nat} {L:Nat→Bool} {b:Nat},b<nx→newL ops (planS ops H nx l E) nx J L b=none:=by
  intro J L b hb;cases hn:newL ops (planS ops H nx l E) nx J L b with
  | none=>rfl
  | some k2=>obtain⟨n1,_⟩:=newL_some hn;omega
 have hsS:∀ J,J≤cnt l ops.size→κ.S (hsAt H E J):=by
  intro J
  induction J using Nat.strongRecOn with
  | ind J ih =>
    intro hJ;rcases Nat.eq_zero_or_pos J with h0 | h0
    ·subst h0;exact hS0
    ·obtain⟨p,p1,p2,p3,_⟩:=posE (show J-1<cnt l ops.size by omega) (Nat.le_refl _);obtain⟨o,ho,ei,_,hp⟩:=place p p1;rcases hp with⟨c,q1,_⟩ | ⟨q1,_⟩ | ⟨c,kk,q1,_⟩ | ⟨c,x,q1,_,_,q3,_,_,_,q4,_⟩
     ·rw [q1] at p2;cases p2
     ·rw [q1] at p2;cases p2
     ·rw [q1] at p2;cases p2
     ·rw [p3] at q3;have e1:hsAt H E J=x.1:=by
       obtain⟨J',rfl⟩:∃ J',J=J'+1:=⟨J-1,by omega⟩;simp only [Nat.add_sub_cancel] at q3;simp only [hsAt,q3]
      rw [e1];refine q4 (hSn (hsAt H E (J-1)) _ (fun b hb=>?_) (ih (J-1) (by omega) (by omega)));unfold heapAt;rw [if_neg (by omega),p3]
 have ok:Plan.Ok P G n ops (planS ops H nx l E) e H nx:=by
  refine⟨fun i o ho=>?_,Sub.refl _,rfl,nmono,?_,?_,.inr ?_⟩
  ·have hi:i<ops.size:=(Array.getElem?_eq_some_iff.mp ho).1;have hso:=statL_spec (k:=0) hst.1 i o (by simpa using ho);rw [Nat.zero_add] at hso;obtain⟨ei,he,hac⟩:=f5 i o (Nat.zero_le _) ho;have hagree:∀ t∈o.looksAt ops,envL ops (planS ops H nx l E) e (before ops i) t=ei t:=by
    intro t ht;rw [he t];unfold envL;cases hw:wr ops t with
    | none=>rfl
    | some j =>
      simp only;rcases statO_looks hso t ht j hw with ha | ha
      ·have hlt:=anc_lt hed ha;simp only [before,ha,if_pos hlt];rfl
      ·have hlt:=anc_lt hed ha;have hn:anc (ancs ops) i j=false:=by
        cases hx:anc (ancs ops) i j with
        | false=>rfl
        | true=>have:=anc_lt hed hx;omega
       simp only [before,hn];rw [if_neg (by omega)]
   refine⟨statO_dst hso,statO_looks hso,statO_edges hso,?_⟩;have hgd:=gd_congr (o:=o) hagree;have hrd:=rd_congr (G:=G) (o:=o) hagree;have memI:memO o.op=true→atO ops memO i=true:=fun h=>by unfold atO;rw [ho];exact h
   rcases hac with⟨c,hl,hg,hh,hq,hR⟩ | ⟨hl,hg⟩ | ⟨c,kk,hl,hg,hq⟩ | ⟨c,x,hl,hg,hi2,hx,hnn,hfr,hcl,hBk,hE⟩
   ·have:(planS ops H nx l E).act i=.quiet c:=by show (l[i]?).getD .skip=_;rw [hl];rfl
    simp only [this];refine⟨by rw [hgd];exact hg,fun J hJ h1 h2=>?_⟩;rw [qstep_congr hrd];cases hmem:memO o.op with
    | false=>rw [qstep_mem (H':=heapAt nx H l E i) hmem];exact hh
    | true =>
      cases hRi:κ.R.contains i with
      | true =>
        refine hR hRi _ (hSn (hsAt H E J) _ (fun b hb=>?_) (hsS J hJ));unfold heapL;rw [newB hb];rfl
      | false =>
        have hmi:memR ops κ.R i=true:=by unfold memR;rw [memI hmem,hRi];simp
        exact hq hRi _ (seesJ i J hi hmi (by rw [hl];rfl) hJ h1 h2)
   ·have:(planS ops H nx l E).act i=.skip:=by show (l[i]?).getD .skip=_;rw [hl];rfl
    simp only [this];rw [hgd];exact hg
   ·have:(planS ops H nx l E).act i=.alloc c kk:=by show (l[i]?).getD .skip=_;rw [hl];rfl
    simp only [this];refine⟨by rw [hgd];exact hg,?_⟩;rw [astep_congr hrd];exact hq
   ·have:(planS ops H nx l E).act i=.eff (cnt l i) c:=by show (l[i]?).getD .skip=_;rw [hl];rfl
    simp only [this];have hmi:memR ops κ.R i=true:=memR_ef (by unfold atO;rw [ho];exact hi2);have hEi:isE l[i]?=true:=by rw [hl];rfl
    refine⟨by rw [hgd];exact hg,effPos_at hEi hi,cnt_lt hi hEi,fun j' hj'=>?_,?_⟩
    ·obtain⟨p,p1,p2,p3,p4⟩:=posE hj' (by omega);obtain⟨q1,q2,_⟩:=efK p2
     show anc (ancs ops) i (effPos l ops.size j')=true
     rw [p4];exact statP_spec hst.2 hi p1 (.inr (.inr (.inr ⟨by unfold atO;rw [ho];exact hi2,q2⟩)))
    ·rw [seesI i hi hmi];have e1:(planS ops H nx l E).hs (cnt l i+1)=x.1:=by show hsAt H E (cnt l i+1)=_;simp only [hsAt,hx]
     have e2:(planS ops H nx l E).nxs (cnt l i+1)=x.2:=by show nsAt (nx+ops.size) E (cnt l i+1)=_;simp only [nsAt,hx]
     rw [e1,e2];exact EffOk.congr hrd hE
  ·intro J i c kk hJ ha hi hno;have hl:l[i]?=some (.alloc c kk):=by
    have ha':(l[i]?).getD .skip=.alloc c kk:=ha;cases hx:l[i]? with
    | none=>rw [hx] at ha';cases ha'
    | some y=>rw [hx] at ha';simp only [Option.getD_some] at ha';rw [ha']
   show hsAt H E J (nx+i)=none
   have hJ':J≤cnt l ops.size:=hJ;clear hJ ha
   induction J with
   | zero=>exact hfree _ (by omega)
   | succ J ih =>
     have ihJ:=ih (fun j hj=>hno j (by omega)) (by omega);obtain⟨p,p1,p2,p3,p4⟩:=posE (show J<cnt l ops.size by omega) (Nat.le_refl _);obtain⟨q1,q2,_⟩:=efK p2;have hpi:p<i:=by
      rcases Nat.lt_trichotomy p i with hlt | heq | hlt
      ·exact hlt
      ·subst heq;rw [hl] at p2;cases p2
      ·have hanc:=statP_spec hst.2 q1 hlt (.inl ⟨alK hl,memR_ef q2⟩);have:=hno J (Nat.lt_succ_self J);have e2:(planS ops H nx l E).eix J=p:=p4;rw [e2,hanc] at this;cases this
     obtain⟨o,ho,ei,_,hp⟩:=place p p1;rcases hp with⟨c',r1,_⟩ | ⟨r1,_⟩ | ⟨c',kk',r1,_⟩ | ⟨c',x,r1,_,_,r4,_,r6,_⟩
     ·rw [r1] at p2;cases p2
     ·rw [r1] at p2;cases p2
     ·rw [r1] at p2;cases p2
     ·rw [p3] at r4;simp only [hsAt,r4];refine r6 (nx+i) (by omega) (by omega) ?_;unfold heapAt;rw [if_neg (by omega),p3];exact ihJ
  ·intro j hj;obtain⟨p,p1,p2,p3,p4⟩:=posE hj (Nat.le_refl _);obtain⟨_,_,c,hc⟩:=efK p2;refine⟨by show effPos l ops.size j<_;omega,c,?_⟩
   show (l[effPos l ops.size j]?).getD .skip=_
   rw [p4,hc,p3];rfl
  ·show ops.size≤effPos l ops.size (cnt l ops.size)
   rw [effPos_end];exact Nat.le_refl _
 have hmm:(planS ops H nx l E).eix (planS ops H nx l E).m=ops.size:=effPos_end;refine AWp.drawn (Q:=Q) hm ok (fun j v hv=>?_) (fun _=>?_) M a w g r v
 ·exfalso;rw [hmm] at hv;have:(l[ops.size]?).getD .skip=.pan j v:=hv;rw [List.getElem?_eq_none (by omega)] at this;cases this
 ·rw [hall];have e1:(planS ops H nx l E).m=cnt l ops.size:=rfl;rw [e1,hend];have e2:(planS ops H nx l E).nxs (cnt l ops.size)=ne':=f3.symm;rw [e2];exact h
end
end Ax
end
section
namespace Ax
/-- What a change touches was there before, or is new. -/
def Dl.on (H:Heap):Dl→Bool
 | .set b _=>(H b).isSome
 | _=>true
def stepT (P:Program)(G:Nat→CV)(e:Env)(H:Heap)(b ne:Nat)(op:Op):Option (CV×Heap×Nat):=match qstep P H (rd G e) op with
 | some c=>some (c,H,ne)
 | none=>match astep P (rd G e) b op with
   | some (c,k)=>some (c,upd H b k,ne)
   | none=>match estep P H ne (rd G e) op with
     | some (c,d)=>match d.on H with
       | true=>some (c,d.hp H ne,d.nx ne)
       | false=>none
     | none=>none
theorem estep_isEf {P:Program}{H:Heap}{nx:Nat}{ρ:Operand→CV}{op:Op}{x:CV×Dl}(h:estep P H nx ρ op=some x):isEf op=true:=by
 unfold estep at h;split at h
 ·rfl
 ·rfl
 ·rfl
 ·rfl
 ·unfold isEf;split at h
  ·rename_i hc;simp only [hc]
  ·rename_i hc;simp only [hc]
  ·cases h
 ·cases h
theorem EffOk.estepH {P:Program}{G:Nat→CV}{o:Oper}{ρ:Operand→CV}{H:Heap}{nx:Nat}{c:CV}{d:Dl}(he:Ax.estep P H nx ρ o.op=some (c,d)):EffOk P G o ρ H nx c (d.hp H nx) (d.nx nx):=by
 intro M a w next Q g r hx k
 obtain⟨M',w',h1,r',f'⟩:=estep_sound he r hx;unfold Oper.wp;rcases h1 with⟨z,h1,h2⟩ | ⟨h1,h2⟩
 ·rw [h1];exact k M' z w' h2 r' f'
 ·rw [h1];subst h2;exact k M' undef w' (.any _) r' f'
theorem Dl.nx_le (nx:Nat)(d:Dl):nx≤d.nx nx:=by cases d <;> simp [Dl.nx]
theorem Dl.keeps {H:Heap}{ne:Nat}{d:Dl}(h:d.on H=true){b:Nat}(hb:b<ne)(hn:H b=none):d.hp H ne b=none:=by
 cases d with
 | no=>exact hn
 | set b' k =>
   have:b≠b':=fun e=>by subst e;simp [Dl.on,hn] at h
   show upd H b' k b=none
   rw [upd_miss _ _ _ _ this];exact hn
 | mv b' k =>
   show upd (drp H b') ne k b=none
   rw [upd_miss _ _ _ _ (by omega)];simp [drp,hn]
 | nw k =>
   show upd H ne k b=none
   rw [upd_miss _ _ _ _ (by omega)];exact hn
theorem estep_isSt {P:Program}{H:Heap}{nx:Nat}{ρ:Operand→CV}{op:Op}{x:CV×Dl}(h:estep P H nx ρ op=some x):isSt op=true:=by
 unfold estep at h;split at h
 ·rfl
 ·rfl
 ·rfl
 ·rfl
 ·unfold isSt;split at h
  ·rename_i hc;simp only [hc]
  ·rename_i hc;simp only [hc]
  ·cases h
 ·cases h
def ASlK (P:Program)(G:Nat→CV)(κ:Qc)(nx0 k:Nat)(ops:Array Oper)(os:List Oper)(e:Env)(H:Heap)(ne:Nat)(K:Env→Heap→Nat→Prop):Prop :=
 nx0+ops.size≤ne→∀ j,∃ l E e' H' ne',SRun P G κ ops nx0 k j os e H ne l E e' H' ne'∧K e' H' ne'
abbrev ASl (P:Program)(G:Nat→CV)(nx0 k:Nat)(ops:Array Oper)(os:List Oper)(e:Env)(H:Heap)(ne:Nat)(K:Env→Heap→Nat→Prop):Prop:=ASlK P G Qc.no nx0 k ops os e H ne K
theorem callA_isEf {ρ:Operand→CV}{op:Op}{x:FuncId×List CV}(h:callA ρ op=some x):isEf op=true:=by
 unfold callA at h;split at h
 ·rename_i c;unfold isEf;split at h
  ·rename_i hc;simp only [hc]
  ·cases h
 ·cases h
section
variable {P:Program} {G:Nat→CV} {κ:Qc} {n:Nat} {e:Env} {H:Heap} {nx nx0 k ne:Nat} {Q:AExit→Env→Heap→Nat→Prop} {ops:Array Oper} {os:List Oper} {K:Env→Heap→Nat→Prop}
theorem ASlK.nil (h:K e H ne):ASlK P G κ nx0 k ops [] e H ne K:=fun _ j=>⟨[],[],e,H,ne,.nil k j e H ne,h⟩
variable {d:Option Nat} {op:Op} {ty:TypeId} {pos:String} {af:Array Edge} {g:Option (Nat×Bool)}
theorem ASlK.stepG {B:Nat→Prop}{R:List Nat}{H0:Heap}(hg:gd ops e ⟨d,op,ty,pos,af,g⟩=some true){c:CV}{H':Heap}{ne':Nat}(hs:stepT P G e H (nx0+k) ne op=some (c,H',ne'))
  (hR:R.contains k=true→∀ H',(∀ b,B b→H' b=H0 b)→qstep P H' (rd G e) op=some c) (hBk:∀ b,B b→H' b=H b)
  (h:ASlK P G (Qc.b B R H0) nx0 (k+1) ops os (putE e d c) H' ne' K):ASlK P G (Qc.b B R H0) nx0 k ops (⟨d,op,ty,pos,af,g⟩::os) e H ne K:=fun hne j=>by
 unfold stepT at hs;split at hs
 ·rename_i c' hq;cases hs;obtain⟨l,E,e',H',ne',h1,h2⟩:=h hne j;exact⟨_,E,e',H',ne',.look (o:=⟨d,op,ty,pos,af,g⟩) _ hg hq (fun _ H' hl=>by rw [show H'=H from funext fun x=>hl x (fun h=>h)];exact hq) hR h1,h2⟩
 ·split at hs
  ·rename_i c' kk hq;cases hs;obtain⟨l,E,e',H',ne',h1,h2⟩:=h hne j;exact⟨_,E,e',H',ne',.alloc (o:=⟨d,op,ty,pos,af,g⟩) _ kk hg hq h1,h2⟩
  ·split at hs
   ·rename_i c' dl hq;split at hs
    ·rename_i hon;cases hs;have hle:=Dl.nx_le ne dl;obtain⟨l,E,e',H',ne',h1,h2⟩:=h (by omega) (j+1);exact⟨_,_,e',H',ne',.eff (o:=⟨d,op,ty,pos,af,g⟩) _ hg (estep_isEf hq) hle (fun b _ hb hn=>Dl.keeps hon (by omega) hn) (fun hs=>by rw [show isSt op=true from estep_isSt hq] at hs;cases hs) (fun hS b hb=>(hBk b hb).trans (hS b hb)) (EffOk.estepH (o:=⟨d,op,ty,pos,af,g⟩) hq) h1,h2⟩
    ·cases hs
   ·cases hs
theorem ASlK.pass (hg:gd ops e ⟨d,op,ty,pos,af,g⟩=some false)(h:ASlK P G κ nx0 (k+1) ops os (putE e d (.tup [])) H ne K):ASlK P G κ nx0 k ops (⟨d,op,ty,pos,af,g⟩::os) e H ne K:=fun hne j=>by
 obtain⟨l,E,e',H',ne',h1,h2⟩:=h hne j;exact⟨_,E,e',H',ne',.skip (o:=⟨d,op,ty,pos,af,g⟩) hg h1,h2⟩
theorem ASlK.callg (hg:gd ops e ⟨d,op,ty,pos,af,g⟩=some true){f:FuncId}{args:List CV}(hq:callA (rd G e) op=some (f,args))(he:enters P f=true){v:CV}(hf:FCall1 P G f args v)
  (h:ASlK P G κ nx0 (k+1) ops os (putE e d v) H ne K):ASlK P G κ nx0 k ops (⟨d,op,ty,pos,af,g⟩::os) e H ne K:=fun hne j=>by
 obtain⟨l,E,e',H',ne',h1,h2⟩:=h hne (j+1);exact⟨_,_,e',H',ne',.eff (o:=⟨d,op,ty,pos,af,g⟩) v hg (callA_isEf hq) (Nat.le_refl _) (fun b _ _ hn=>hn) (fun _ _ _=>rfl) (fun h=>h) (EffOk.call (o:=⟨d,op,ty,pos,af,g⟩) hq he (hf H ne)) h1,h2⟩
theorem ASlK.call {f:FuncId}{args:List CV}(hq:callA (rd G e) op=some (f,args))(he:enters P f=true){v:CV}(hf:FCall1 P G f args v)
  (h:ASlK P G κ nx0 (k+1) ops os (putE e d v) H ne K):ASlK P G κ nx0 k ops (⟨d,op,ty,pos,af,none⟩::os) e H ne K:=ASlK.callg rfl hq he hf h
/-- Steps where nothing is left alone for sure. -/
theorem Xq (h:K e H ne):ASl P G nx0 k ops [] e H ne K:=ASlK.nil h
theorem Xb (hg:gd ops e ⟨d,op,ty,pos,af,g⟩=some true){c:CV}{H':Heap}{ne':Nat}(hs:stepT P G e H (nx0+k) ne op=some (c,H',ne'))(h:ASl P G nx0 (k+1) ops os (putE e d c) H' ne' K):ASl P G nx0 k ops (⟨d,op,ty,pos,af,g⟩::os) e H ne K :=
 ASlK.stepG hg hs (fun h=>by cases h) (fun _ h=>h.elim) h
theorem Xj {c:CV}{H':Heap}{ne':Nat}(hs:stepT P G e H (nx0+k) ne op=some (c,H',ne'))(h:ASl P G nx0 (k+1) ops os (putE e d c) H' ne' K):ASl P G nx0 k ops (⟨d,op,ty,pos,af,none⟩::os) e H ne K:=Xb rfl hs h
theorem Xk (hg:gd ops e ⟨d,op,ty,pos,af,g⟩=some false)(h:ASl P G nx0 (k+1) ops os (putE e d (.tup [])) H ne K):ASl P G nx0 k ops (⟨d,op,ty,pos,af,g⟩::os) e H ne K:=ASlK.pass hg h
theorem ASl.callg (hg:gd ops e ⟨d,op,ty,pos,af,g⟩=some true){f:FuncId}{args:List CV}(hq:callA (rd G e) op=some (f,args))(he:enters P f=true){v:CV}(hf:FCall1 P G f args v)
  (h:ASl P G nx0 (k+1) ops os (putE e d v) H ne K):ASl P G nx0 k ops (⟨d,op,ty,pos,af,g⟩::os) e H ne K:=ASlK.callg hg hq he hf h
theorem ASl.call {f:FuncId}{args:List CV}(hq:callA (rd G e) op=some (f,args))(he:enters P f=true){v:CV}(hf:FCall1 P G f args v)
  (h:ASl P G nx0 (k+1) ops os (putE e d v) H ne K):ASl P G nx0 k ops (⟨d,op,ty,pos,af,none⟩::os) e H ne K:=ASlK.callg rfl hq he hf h
/-! calls that turn one block b: no look of the region sees it -/
def Qc.one (b:Nat):Qc:=⟨fun _=>True,[],fun x=>x=b⟩
abbrev ASlC (P:Program)(G:Nat→CV)(b:Nat)(nx0 k:Nat)(ops:Array Oper)(os:List Oper)(e:Env)(H:Heap)(ne:Nat)(K:Env→Heap→Nat→Prop):Prop:=ASlK P G (Qc.one b) nx0 k ops os e H ne K
/-- Looks at the memory may not see block b. -/
inductive Blind (P:Program) (G:Nat→CV) (b:Nat) (e:Env) (H:Heap) (op:Op):Prop
 | pure (h:memO op=false)
 | eff (h:isEf op=true)
 | look (h:∀ H',(∀ x,x≠b→H' x=H x)→qstep P H' (rd G e) op=qstep P H (rd G e) op)
theorem qstep_isEf {H:Heap}{ρ:Operand→CV}{op:Op}(h:isEf op=true):qstep P H ρ op=none:=by
 cases op
 case call c =>
  obtain⟨callee,args,ts⟩:=c;cases callee
  case value x=>rfl
  case builtin b=>cases b <;> first | rfl | (simp [isEf] at h)
  all_goals first | rfl | (simp [isEf] at h)
 all_goals first | rfl | (simp [isEf] at h)
theorem ASlC.nil {b:Nat}(h:K e H ne):ASlC P G b nx0 k ops [] e H ne K:=ASlK.nil h
theorem ASlC.stepG {b:Nat}(hg:gd ops e ⟨d,op,ty,pos,af,g⟩=some true){c:CV}{H':Heap}{ne':Nat}(hs:stepT P G e H (nx0+k) ne op=some (c,H',ne'))(hC:Blind P G b e H op)
  (h:ASlC P G b nx0 (k+1) ops os (putE e d c) H' ne' K):ASlC P G b nx0 k ops (⟨d,op,ty,pos,af,g⟩::os) e H ne K:=fun hne j=>by
 unfold stepT at hs;split at hs
 ·rename_i c' hq;cases hs;obtain⟨l,E,e',H',ne',h1,h2⟩:=h hne j;refine⟨_,E,e',H',ne',.look (o:=⟨d,op,ty,pos,af,g⟩) _ hg hq (fun _ H' hl=>?_) (fun h=>by cases h) h1,h2⟩;cases hC with
  | pure h=>rw [qstep_mem (H':=H) h];exact hq
  | eff h=>rw [qstep_isEf h] at hq;cases hq
  | look h=>rw [h H' hl];exact hq
 ·split at hs
  ·rename_i c' kk hq;cases hs;obtain⟨l,E,e',H',ne',h1,h2⟩:=h hne j;exact⟨_,E,e',H',ne',.alloc (o:=⟨d,op,ty,pos,af,g⟩) _ kk hg hq h1,h2⟩
  ·split at hs
   ·rename_i c' dl hq;split at hs
    ·rename_i hon;cases hs;have hle:=Dl.nx_le ne dl;obtain⟨l,E,e',H',ne',h1,h2⟩:=h (by omega) (j+1);exact⟨_,_,e',H',ne',.eff (o:=⟨d,op,ty,pos,af,g⟩) _ hg (estep_isEf hq) hle (fun b _ hb hn=>Dl.keeps hon (by omega) hn) (fun hs=>by rw [show isSt op=true from estep_isSt hq] at hs;cases hs) (fun _=>trivial) (EffOk.estepH (o:=⟨d,op,ty,pos,af,g⟩) hq) h1,h2⟩
    ·cases hs
   ·cases hs
theorem ASlC.step {b:Nat}{c:CV}{H':Heap}{ne':Nat}(hs:stepT P G e H (nx0+k) ne op=some (c,H',ne'))(hC:Blind P G b e H op)(h:ASlC P G b nx0 (k+1) ops os (putE e d c) H' ne' K):ASlC P G b nx0 k ops (⟨d,op,ty,pos,af,none⟩::os) e H ne K:=ASlC.stepG rfl hs hC h
theorem Xm {id m:Nat}(hm:P.follows .mixedOrders=true)(hst:statS n ops=true)(hl:ops.toList=os)(hz:ops.size=m)(h:ASl P G nx 0 ops os e H (nx+m) fun e' H' ne'=>Q .normal e' H' ne'):AWp P G n (.region id ops true) e H nx Q:=by
 subst hz;obtain⟨l,E,e',H',ne',h1,h2⟩:=h (Nat.le_refl _) 0;subst hl;exact AWp.regS (κ:=Qc.no) hm hst (fun _ _ _ _ _ h=>h.elim) (fun _ h=>h.elim) h1 h2
theorem Yb {id m:Nat}(hl:ops.toList=os)(hz:ops.size=m)(h:ASl P G nx 0 ops os e H (nx+m) fun e' H' ne'=>Q .normal e' H' ne')(hm:P.follows .mixedOrders=true:=by kernel_rfl)(hst:statS n ops=true:=by kernel_rfl):AWp P G n (.region id ops true) e H nx Q:=Xm hm hst hl hz h
/-- The same, where the looks R see blocks B alone, which no operation touches. -/
theorem AWp.regTB {id m:Nat}(R:List Nat)(B:Nat→Prop)(hm:P.follows .mixedOrders=true)(hst:statR n R ops=true)(hl:ops.toList=os)(hz:ops.size=m)(hBn:∀ b,B b→b<nx)(h:ASlK P G (Qc.b B R H) nx 0 ops os e H (nx+m) fun e' H' ne'=>Q .normal e' H' ne'):AWp P G n (.region id ops true) e H nx Q:=by
 subst hz;obtain⟨l,E,e',H',ne',h1,h2⟩:=h (Nat.le_refl _) 0;subst hl;exact AWp.regS (κ:=Qc.b B R H) hm hst (fun H1 H2 h12 h1 b hb=>(h12 b (hBn b hb)).trans (h1 b hb)) (fun _ _=>rfl) h1 h2
end
end Ax
end
end Go.Proofs.YtoookjadbhdfhaaGreatDoor
