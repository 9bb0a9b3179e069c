/-
  AX: drawn regions in which a call panics while operations that do not wait for it are left.
-/
import Derived.Test.YtoookjadbhdfhaaDoorTJpAs
import Derived.Test.YtoookjadbhdfhaaDoorTOldAx
import Derived.Test.YtoookjadbhdfhaaDoorTJpAn
set_option linter.unusedSectionVars false
set_option linter.unusedSimpArgs false
set_option linter.unnecessarySimpa false
set_option linter.unusedVariables false
set_option linter.unusedSimpArgs false
set_option linter.unusedVariables false
namespace Go.Proofs.YtoookjadbhdfhaaDoor
section
namespace Ax
section
variable {P:Program} {G:Nat→CV} {n:Nat} {e:Env} {H:Heap} {nx:Nat} {Q:AExit→Env→Heap→Nat→Prop} {ops:Array Oper}
/-- The operations behind one that panics: they look, or wait for it. -/
inductive QTl (P:Program) (G:Nat→CV) (H:Heap) (ops:Array Oper) (k:Nat):Nat→List Oper→Env→List Act1→Env→Prop
 | nil (i:Nat) (e:Env):QTl P G H ops k i [] e [] e
 | look {i:Nat} {o:Oper} {os:List Oper} {e e':Env} {l:List Act1} (c:CV) (hg:gd ops e o=some true) (hq:qstep P H (rd G e) o.op=some c) (h:QTl P G H ops k (i+1) os (putE e o.dst c) l e'):QTl P G H ops k i (o::os) e (.quiet c::l) e'
 | skip {i:Nat} {o:Oper} {os:List Oper} {e e':Env} {l:List Act1} (hg:gd ops e o=some false) (h:QTl P G H ops k (i+1) os (putE e o.dst (.tup [])) l e'):QTl P G H ops k i (o::os) e (.skip::l) e'
 | dead {i:Nat} {o:Oper} {os:List Oper} {e e':Env} {l:List Act1} (ha:anc (ancs ops) i k=true) (h:QTl P G H ops k (i+1) os (putE e o.dst .any) l e'):QTl P G H ops k i (o::os) e (.dead::l) e'
theorem QTl.len {k i:Nat}{os:List Oper}{e e':Env}{l:List Act1}(h:QTl P G H ops k i os e l e'):l.length=os.length:=by
 induction h with
 | nil=>rfl
 | look _ _ _ _ ih=>simp [ih]
 | skip _ _ ih=>simp [ih]
 | dead _ _ ih=>simp [ih]
/-- The environment behind one more operation. -/
theorem putA {k:Nat}{o:Oper}{e e0:Env}{A:Nat→Act1}{c:CV}(ho:ops[k]?=some o)(hso:statO n ops k o=true)(hA:(A k).val=c)(he:∀ t,e t=match wr ops t with
  | some j=>if j<k then (A j).val else e0 t
  | none=>e0 t):∀ t,putE e o.dst c t=match wr ops t with
  | some j=>if j<k+1 then (A j).val else e0 t
  | none=>e0 t:=by
 intro t;have hput:(o.dst=some t∧putE e o.dst c t=c)∨(o.dst≠some t∧putE e o.dst c t=e t):=by
  cases hd:o.dst with
  | none=>right;exact⟨by simp,rfl⟩
  | some d =>
    by_cases hdt:t=d
    ·left;subst hdt;exact⟨rfl,by simp [putE]⟩
    ·right;exact⟨fun h=>hdt (by cases h;rfl),by simp [putE,hdt]⟩
 rcases hput with⟨h1,h2⟩ | ⟨h1,h2⟩
 ·rw [h2,(statO_dst hso t h1).2];simp only [Nat.lt_succ_self,if_true,hA]
 ·rw [h2,he t];cases hw:wr ops t with
  | none=>rfl
  | some j =>
    simp only;obtain⟨oj,hoj,hdj⟩:=wr_some hw;have hjk:j≠k:=fun e=>by subst e;rw [ho] at hoj;cases hoj;exact h1 hdj
    by_cases hlt:j<k
    ·rw [if_pos hlt,if_pos (by omega)]
    ·rw [if_neg hlt,if_neg (by omega)]
theorem QTl.env {k i0:Nat}{os:List Oper}{e e':Env}{l2:List Act1}(h:QTl P G H ops k i0 os e l2 e'):∀ (e0:Env) (A:Nat→Act1),ops.toList.drop i0=os→stat n ops=true→(∀ q,q<os.length→A (i0+q)=(l2[q]?).getD .skip) →
  (∀ t,e t=match wr ops t with
   | some j=>if j<i0 then (A j).val else e0 t
   | none=>e0 t) →
  ∀ i o,i0≤i→ops[i]?=some o→∃ ei,(∀ t,ei t=match wr ops t with
   | some j=>if j<i then (A j).val else e0 t
   | none=>e0 t)∧((∃ c,A i=.quiet c∧gd ops ei o=some true∧qstep P H (rd G ei) o.op=some c)∨(A i=.skip∧gd ops ei o=some false)∨(A i=.dead∧anc (ancs ops) i k=true)):=by
 have drop_succ:∀ {k:Nat} {o:Oper} {os:List Oper},ops.toList.drop k=o::os→ops[k]?=some o∧ops.toList.drop (k+1)=os:=by
  intro k o os hk;constructor
  ·have:=congrArg List.head? hk;simpa [List.head?_drop] using this
  ·have:=congrArg List.tail hk;simpa [List.tail_drop] using this
 have hso:∀ {i:Nat} {o:Oper},stat n ops=true→ops[i]?=some o→statO n ops i o=true:=by
  intro i o hst ho;simp only [stat,Bool.and_eq_true] at hst;have:=statL_spec (k:=0) hst.1 i o (by simpa using ho);rw [Nat.zero_add] at this;exact this
 induction h with
 | nil i e =>
   intro e0 A hk hst hA he i' o hi ho;have h1:ops.size≤i:=by
    have:=congrArg List.length hk;simp at this;omega
   have:=(Array.getElem?_eq_some_iff.mp ho).1;omega
 | @look i o os e e' l c hg hq _ ih =>
   intro e0 A hk hst hA he i' o' hi ho';obtain⟨ho,hk'⟩:=drop_succ hk;have hAi:A i=.quiet c:=by have:=hA 0 (by simp);simpa using this
   rcases Nat.lt_or_eq_of_le hi with h1 | h1
   ·exact ih e0 A hk' hst (fun q hq=>by have:=hA (q+1) (by simp;omega);rw [show i+1+q=i+(q+1) by omega,this];simp) (putA ho (hso hst ho) (by rw [hAi];rfl) he) i' o' h1 ho'
   ·subst h1;rw [ho] at ho';cases ho';exact⟨e,he,.inl ⟨c,hAi,hg,hq⟩⟩
 | @skip i o os e e' l hg _ ih =>
   intro e0 A hk hst hA he i' o' hi ho';obtain⟨ho,hk'⟩:=drop_succ hk;have hAi:A i=.skip:=by have:=hA 0 (by simp);simpa using this
   rcases Nat.lt_or_eq_of_le hi with h1 | h1
   ·exact ih e0 A hk' hst (fun q hq=>by have:=hA (q+1) (by simp;omega);rw [show i+1+q=i+(q+1) by omega,this];simp) (putA ho (hso hst ho) (by rw [hAi];rfl) he) i' o' h1 ho'
   ·subst h1;rw [ho] at ho';cases ho';exact⟨e,he,.inr (.inl ⟨hAi,hg⟩)⟩
 | @dead i o os e e' l ha _ ih =>
   intro e0 A hk hst hA he i' o' hi ho';obtain⟨ho,hk'⟩:=drop_succ hk;have hAi:A i=.dead:=by have:=hA 0 (by simp);simpa using this
   rcases Nat.lt_or_eq_of_le hi with h1 | h1
   ·exact ih e0 A hk' hst (fun q hq=>by have:=hA (q+1) (by simp;omega);rw [show i+1+q=i+(q+1) by omega,this];simp) (putA ho (hso hst ho) (by rw [hAi];rfl) he) i' o' h1 ho'
   ·subst h1;rw [ho] at ho';cases ho';exact⟨e,he,.inr (.inr ⟨hAi,ha⟩)⟩
def planT (ops:Array Oper)(H:Heap)(nx:Nat)(l l2:List Act1)(k m:Nat)(v:CV):Plan:=⟨fun i=>if i<k then (l[i]?).getD .skip else if i=k then .pan m v else (l2[i-(k+1)]?).getD .skip,fun _=>H,fun _=>nx+ops.size,m,fun j=>if j<m then effAt l ops.size j else k⟩
theorem AWp.regQT {id m:Nat}{e e':Env}{l:List Act1}{os1 os2:List Oper}{o:Oper}{f:FuncId}{args:List CV}{v:CV}(hm:P.follows .mixedOrders=true)(hst:stat n ops=true)(hops:ops.toList=os1++o::os2)(hr:QRun P G H ops 0 os1 e l e' m)
  (hg:gd ops e' o=some true) (hq:callA (rd G e') o.op=some (f,args)) (he:enters P f=true) (hf:∀ nx,ACall P G f args H nx fun r H' nx'=>r=.pan v∧H'=H∧nx'=nx) {l2:List Act1} {e3:Env} (ht:QTl P G H ops os1.length (os1.length+1) os2 (putE e' o.dst .any) l2 e3) (h:∀ e2,Q (.pan v) e2 H (nx+ops.size)):AWp P G n (.region id ops true) e H nx Q:=by
 obtain⟨k,hk⟩:∃ k,k=os1.length:=⟨_,rfl⟩;have hlen:l.length=k:=by have:=hr.len;omega
 have hsz:ops.size=k+1+os2.length:=by have:=congrArg List.length hops;simp at this;omega
 have hok:ops[k]?=some o:=by
  rw [← Array.getElem?_toList,hops,hk,List.getElem?_append_right (Nat.le_refl _),Nat.sub_self];rfl
 obtain⟨_,n2,n3,n4⟩:=hr.nums;obtain⟨ea,_⟩:=effAt_spec (N:=ops.size) hr;obtain⟨h1,h2⟩:=hr.envR (n:=n) 0 e [] (o::os2) (by simpa using hops) rfl hst (fun t=>by cases wr ops t <;> simp);simp only [List.nil_append,Nat.zero_add] at h1 h2;rw [← hk] at h1 h2 ht;simp only [stat,Bool.and_eq_true] at hst;have hA:∀ i,i<k→(planT ops H nx l l2 k m v).act i=(l[i]?).getD .skip:=fun i hi=>if_pos hi
 have hK:(planT ops H nx l l2 k m v).act k=.pan m v:=by show (if k<k then _ else if k=k then _ else _)=_;rw [if_neg (by omega),if_pos rfl]
 have hD:∀ i,k<i→(planT ops H nx l l2 k m v).act i=(l2[i-(k+1)]?).getD .skip:=fun i hi=>by show (if i<k then _ else if i=k then _ else _)=_;rw [if_neg (by omega),if_neg (by omega)]
 have hst0:stat n ops=true:=by simp only [stat,Bool.and_eq_true];exact hst
 have hdrop:ops.toList.drop (k+1)=os2:=by rw [hops,hk];simp [List.drop_append]
 have htail:=ht.env (n:=n) e (planT ops H nx l l2 k m v).act hdrop hst0 (fun q hq=>by rw [hD _ (by omega),show k+1+q-(k+1)=q by omega]) (by
  have hso:=statL_spec (k:=0) hst.1 k o (by simpa using hok);rw [Nat.zero_add] at hso;refine putA hok hso (by rw [hK];rfl) fun t=>?_
  rw [h1 t];cases hw:wr ops t with
  | none=>rfl
  | some j =>
    simp only
    by_cases hj:j<k
    ·rw [if_pos hj,if_pos hj,hA j hj]
    ·rw [if_neg hj,if_neg hj])
 have hE:∀ j,j<m→(planT ops H nx l l2 k m v).eix j=effAt l ops.size j:=fun j hj=>if_pos hj
 have hEm:(planT ops H nx l l2 k m v).eix m=k:=if_neg (by omega);have acts:∀ i,i<k→∀ a,l[i]?=some a→∃ o,ops[i]?=some o∧((∃ c,a=.quiet c)∨a=.skip∨∃ j c,a=.eff j c∧isCallAt ops i=true):=by
  intro i hi a ha;have ho:ops[i]?=some (ops[i]'(by omega)):=Array.getElem?_eq_getElem (by omega);obtain⟨_,_,h3⟩:=h2 i _ (Nat.zero_le _) hi ho;refine⟨_,ho,?_⟩;rcases h3 with⟨c,h3,_⟩ | ⟨h3,_⟩ | ⟨j,c,f,args,h3,_,h4,_⟩
  ·rw [ha] at h3;cases h3;exact .inl ⟨c,rfl⟩
  ·rw [ha] at h3;cases h3;exact .inr (.inl rfl)
  ·rw [ha] at h3;cases h3;exact .inr (.inr ⟨j,c,rfl,by unfold isCallAt;rw [ho];exact callA_isCall h4⟩)
 have noalloc:∀ i c kk,(planT ops H nx l l2 k m v).act i≠.alloc c kk:=by
  intro i c kk hx;rcases Nat.lt_trichotomy i k with hi | hi | hi
  ·rw [hA i hi] at hx;cases hl:l[i]? with
   | none=>rw [hl] at hx;cases hx
   | some a =>
     rw [hl] at hx;simp only [Option.getD_some] at hx;subst hx;obtain⟨_,_,h3⟩:=acts i hi _ hl;rcases h3 with⟨_,h3⟩ | h3 | ⟨_,_,h3,_⟩ <;> cases h3
  ·subst hi;rw [hK] at hx;cases hx
  ·by_cases hio:i<ops.size
   ·obtain⟨_,_,h3⟩:=htail i _ (by omega) (Array.getElem?_eq_getElem hio);rw [hx] at h3;rcases h3 with⟨_,h3,_⟩ | ⟨h3,_⟩ | ⟨h3,_⟩ <;> cases h3
   ·rw [hD i hi] at hx;have:=ht.len;rw [List.getElem?_eq_none (by omega)] at hx;cases hx
 have hnl:∀ J L b,newL ops (planT ops H nx l l2 k m v) nx J L b=none:=by
  intro J L b;unfold newL;split
  ·split
   ·rename_i c k hx;exact absurd hx (noalloc _ _ _)
   ·rfl
  ·rfl
 have hhl:∀ J L,heapL ops (planT ops H nx l l2 k m v) nx J L=H:=by
  intro J L;funext b;unfold heapL;rw [hnl];rfl
 have hci:isCallAt ops k=true:=by unfold isCallAt;rw [hok];exact callA_isCall hq
 have hed:∀ i o,ops[i]?=some o→∀ e∈o.after.toList,Region.binds .any e=true→e.on<i:=by
  intro i o ho;have:=statL_spec (k:=0) hst.1 i o (by simpa using ho);rw [Nat.zero_add] at this;exact statO_edges this
 -- the effects stand in one order
 have order:∀ i j',j'<m→isCallAt ops i=true→(∀ k',effAt l ops.size j'=k'→k'<i)→anc (ancs ops) i (effAt l ops.size j')=true:=by
  intro i j' hj' hc hlt;obtain⟨k',c',hk'⟩:=n3 j' (Nat.zero_le _) hj';have e1:effAt l ops.size j'=k':=ea k' j' c' hk';rw [e1];have hk'l:k'<k:=by have:=(List.getElem?_eq_some_iff.mp hk').1;omega
  obtain⟨_,_,h3⟩:=acts k' hk'l _ hk';rcases h3 with⟨_,h3⟩ | h3 | ⟨_,_,_,h3⟩
  ·cases h3
  ·cases h3
  ·exact statC_spec hst.2 hc h3 (hlt _ e1)
 have ok:Plan.Ok P G n ops (planT ops H nx l l2 k m v) e H nx:=by
  refine⟨fun i oi ho=>?_,Sub.refl _,rfl,fun j _=>Nat.le_refl _,fun J i c kk _ ha hi _=>absurd ha (noalloc _ _ _),fun j hj=>?_,.inl ⟨m,v,?_,?_⟩⟩
  ·have hso:=statL_spec (k:=0) hst.1 i oi (by simpa using ho);rw [Nat.zero_add] at hso;have hil:i<ops.size:=(Array.getElem?_eq_some_iff.mp ho).1
   -- what the operation sees, at most place k
   have agree:∀ {ei:Env},i≤k→(∀ t,ei t=match wr ops t with
     | some j=>if j<i then ((l[j]?).getD .skip).val else e t
     | none=>e t)→∀ t∈oi.looksAt ops,envL ops (planT ops H nx l l2 k m v) e (before ops i) t=ei t:=by
    intro ei hik hei t ht;rw [hei t];unfold envL;cases hw:wr ops t with
    | none=>rfl
    | some j =>
      simp only;rcases statO_looks hso t ht j hw with ha | ha
      ·have hlt:=anc_lt hed ha;simp only [before,ha,if_pos hlt,hA j (by omega)]
      ·have hlt:=anc_lt hed ha;have hn:anc (ancs ops) i j=false:=by
        cases hx:anc (ancs ops) i j with
        | false=>rfl
        | true=>have:=anc_lt hed hx;omega
       simp only [before,hn];rw [if_neg (by omega)]
   refine⟨statO_dst hso,statO_looks hso,statO_edges hso,?_⟩;rcases Nat.lt_trichotomy i k with hi | hi | hi
   ·obtain⟨ei,hei,hac⟩:=h2 i oi (Nat.zero_le _) hi ho;have hagree:=agree (Nat.le_of_lt hi) hei;have hgd:=gd_congr (o:=oi) hagree;have hrd:=rd_congr (G:=G) (o:=oi) hagree;rcases hac with⟨c,hl,hg,hq⟩ | ⟨hl,hg⟩ | ⟨j,c,f,args,hl,hg,hq,hen,hf⟩
    ·have:(planT ops H nx l l2 k m v).act i=.quiet c:=by rw [hA i hi,hl];rfl
     simp only [this];refine⟨by rw [hgd];exact hg,fun J _ _ _=>?_⟩;rw [hhl,qstep_congr hrd];exact hq
    ·have:(planT ops H nx l l2 k m v).act i=.skip:=by rw [hA i hi,hl];rfl
     simp only [this];rw [hgd];exact hg
    ·have:(planT ops H nx l l2 k m v).act i=.eff j c:=by rw [hA i hi,hl];rfl
     simp only [this];have hci:isCallAt ops i=true:=by unfold isCallAt;rw [ho];exact callA_isCall hq
     have hjm:=(n2 i j c hl).2;refine⟨by rw [hgd];exact hg,by rw [hE j hjm];exact ea i j c hl,hjm,fun j' hj'=>?_,?_⟩
     ·rw [hE j' (by omega)];refine order i j' (by omega) hci fun k' hk'=>?_
      obtain⟨k2,c2,hk2⟩:=n3 j' (Nat.zero_le _) (by omega);have e1:effAt l ops.size j'=k2:=ea k2 j' c2 hk2;obtain rfl:k2=k':=by omega
      rcases Nat.lt_trichotomy k2 i with h | h | h
      ·exact h
      ·subst h;rw [hl] at hk2;cases hk2;omega
      ·have:=n4 _ _ _ _ _ _ hl hk2 h;omega
     ·rw [hhl];exact EffOk.call (by rw [callA_congr hrd];exact hq) hen (hf (nx+ops.size))
   ·subst hi;rw [hok] at ho;cases ho;have hagree:=agree (Nat.le_refl _) h1;have hgd:=gd_congr (o:=o) hagree;have hrd:=rd_congr (G:=G) (o:=o) hagree;simp only [hK];refine⟨by rw [hgd];exact hg,hEm,rfl,fun j' hj'=>?_,?_⟩
    ·rw [hE j' hj'];refine order i j' hj' hci fun k' hk'=>?_
     obtain⟨k2,c2,hk2⟩:=n3 j' (Nat.zero_le _) hj';have e1:effAt l ops.size j'=k2:=ea k2 j' c2 hk2;have:=(List.getElem?_eq_some_iff.mp hk2).1;omega
    ·rw [hhl];exact PanOk.call (by rw [callA_congr hrd];exact hq) he (hf (nx+ops.size))
   ·obtain⟨ei,hei,hac⟩:=htail i oi (by omega) ho;have hagree:∀ t∈oi.looksAt ops,envL ops (planT ops H nx l l2 k m v) e (before ops i) t=ei t:=by
     intro t ht;rw [hei t];unfold envL;cases hw:wr ops t with
     | none=>rfl
     | some j =>
       simp only;rcases statO_looks hso t ht j hw with ha | ha
       ·have hlt:=anc_lt hed ha;simp only [before,ha,if_pos hlt]
       ·have hlt:=anc_lt hed ha;have hn:anc (ancs ops) i j=false:=by
         cases hx:anc (ancs ops) i j with
         | false=>rfl
         | true=>have:=anc_lt hed hx;omega
        simp only [before,hn];rw [if_neg (by omega)]
    have hgd:=gd_congr (o:=oi) hagree;have hrd:=rd_congr (G:=G) (o:=oi) hagree;rcases hac with⟨c,hl,hg,hq⟩ | ⟨hl,hg⟩ | ⟨hl,han⟩
    ·simp only [hl];refine⟨by rw [hgd];exact hg,fun J _ _ _=>?_⟩;rw [hhl,qstep_congr hrd];exact hq
    ·simp only [hl];rw [hgd];exact hg
    ·simp only [hl];refine⟨m,v,by show (planT ops H nx l l2 k m v).act ((planT ops H nx l l2 k m v).eix m)=_;rw [hEm];exact hK,?_⟩
     show anc (ancs ops) i ((planT ops H nx l l2 k m v).eix m)=true
     rw [hEm];exact han
  ·obtain⟨k2,c,hk2⟩:=n3 j (Nat.zero_le _) hj;have e1:effAt l ops.size j=k2:=ea k2 j c hk2;have hlt:=(List.getElem?_eq_some_iff.mp hk2).1;refine⟨by rw [hE j hj,e1];omega,c,?_⟩;rw [hE j hj,e1,hA k2 (by omega),hk2];rfl
  ·show (planT ops H nx l l2 k m v).act ((planT ops H nx l l2 k m v).eix m)=_
   rw [hEm];exact hK
  ·show (planT ops H nx l l2 k m v).eix m<_
   rw [hEm];omega
 refine AWp.drawn hm ok (fun j v' hv=>?_) (fun hx=>?_)
 ·have e1:(planT ops H nx l l2 k m v).eix (planT ops H nx l l2 k m v).m=k:=hEm;rw [e1,hK] at hv;cases hv;exact h
 ·have e1:(planT ops H nx l l2 k m v).eix (planT ops H nx l l2 k m v).m=k:=hEm;rw [e1] at hx;omega
end
/-- What is left behind a panic. -/
def AQt (P:Program)(G:Nat→CV)(H:Heap)(ops:Array Oper)(k i:Nat)(os:List Oper)(e:Env):Prop:=∃ l2 e3,QTl P G H ops k i os e l2 e3
/-- The operations of a drawn region that are left; a call may panic. -/
def AQq (P:Program)(G:Nat→CV)(H:Heap)(ops:Array Oper)(os:List Oper)(e:Env)(K:Env→Prop)(Kp:CV→Prop):Prop :=
 ∀ j,(∃ l e' m,QRun P G H ops j os e l e' m∧K e')∨∃ os1 o os2 l e' m f args v,os=os1++o::os2∧QRun P G H ops j os1 e l e' m∧gd ops e' o=some true∧callA (rd G e') o.op=some (f,args)∧enters P f=true∧(∀ nx,ACall P G f args H nx fun r H' nx'=>r=.pan v∧H'=H∧nx'=nx)∧AQt P G H ops (ops.size-1-os2.length) (ops.size-os2.length) os2 (putE e' o.dst .any)∧Kp v
section
variable {P:Program} {G:Nat→CV} {n:Nat} {e:Env} {H:Heap} {nx:Nat} {Q:AExit→Env→Heap→Nat→Prop} {ops:Array Oper} {os:List Oper} {K:Env→Prop} {Kp:CV→Prop} {k i:Nat}
theorem AQt.nil:AQt P G H ops k i [] e:=⟨[],e,.nil i e⟩
theorem Xv (h:K e):AQq P G H ops [] e K Kp:=fun j=>.inl ⟨[],e,j,.nil j e,h⟩
variable {d:Option Nat} {op:Op} {ty:TypeId} {pos:String} {af:Array Edge} {g:Option (Nat×Bool)}
theorem AQt.look {c:CV}(hq:qstep P H (rd G e) op=some c)(h:AQt P G H ops k (i+1) os (putE e d c)):AQt P G H ops k i (⟨d,op,ty,pos,af,none⟩::os) e:=by
 obtain⟨l2,e3,h⟩:=h;exact⟨_,_,.look (o:=⟨d,op,ty,pos,af,none⟩) c rfl hq h⟩
theorem AQt.lookG (hg:gd ops e ⟨d,op,ty,pos,af,g⟩=some true){c:CV}(hq:qstep P H (rd G e) op=some c)(h:AQt P G H ops k (i+1) os (putE e d c)):AQt P G H ops k i (⟨d,op,ty,pos,af,g⟩::os) e:=by
 obtain⟨l2,e3,h⟩:=h;exact⟨_,_,.look (o:=⟨d,op,ty,pos,af,g⟩) c hg hq h⟩
theorem AQt.pass (hg:gd ops e ⟨d,op,ty,pos,af,g⟩=some false)(h:AQt P G H ops k (i+1) os (putE e d (.tup []))):AQt P G H ops k i (⟨d,op,ty,pos,af,g⟩::os) e:=by
 obtain⟨l2,e3,h⟩:=h;exact⟨_,_,.skip (o:=⟨d,op,ty,pos,af,g⟩) hg h⟩
theorem AQt.dead (ha:anc (ancs ops) i k=true)(h:AQt P G H ops k (i+1) os (putE e d .any)):AQt P G H ops k i (⟨d,op,ty,pos,af,g⟩::os) e:=by
 obtain⟨l2,e3,h⟩:=h;exact⟨_,_,.dead (o:=⟨d,op,ty,pos,af,g⟩) ha h⟩
theorem Xs (hg:gd ops e ⟨d,op,ty,pos,af,g⟩=some true){c:CV}(hq:qstep P H (rd G e) op=some c)(h:AQq P G H ops os (putE e d c) K Kp):AQq P G H ops (⟨d,op,ty,pos,af,g⟩::os) e K Kp:=fun j=>by
 rcases h j with⟨l,e',m,h1,h2⟩ | ⟨os1,o,os2,l,e',m,f,args,v,h0,h1,h2⟩
 ·exact .inl ⟨_,e',m,.look (o:=⟨d,op,ty,pos,af,g⟩) c hg hq h1,h2⟩
 ·exact .inr ⟨⟨d,op,ty,pos,af,g⟩::os1,o,os2,_,e',m,f,args,v,by rw [h0];rfl,.look (o:=⟨d,op,ty,pos,af,g⟩) c hg hq h1,h2⟩
theorem Xt {c:CV}(hq:qstep P H (rd G e) op=some c)(h:AQq P G H ops os (putE e d c) K Kp):AQq P G H ops (⟨d,op,ty,pos,af,none⟩::os) e K Kp:=Xs rfl hq h
theorem Xu (hg:gd ops e ⟨d,op,ty,pos,af,g⟩=some false)(h:AQq P G H ops os (putE e d (.tup [])) K Kp):AQq P G H ops (⟨d,op,ty,pos,af,g⟩::os) e K Kp:=fun j=>by
 rcases h j with⟨l,e',m,h1,h2⟩ | ⟨os1,o,os2,l,e',m,f,args,v,h0,h1,h2⟩
 ·exact .inl ⟨_,e',m,.skip (o:=⟨d,op,ty,pos,af,g⟩) hg h1,h2⟩
 ·exact .inr ⟨⟨d,op,ty,pos,af,g⟩::os1,o,os2,_,e',m,f,args,v,by rw [h0];rfl,.skip (o:=⟨d,op,ty,pos,af,g⟩) hg h1,h2⟩
theorem AQq.callG (hg:gd ops e ⟨d,op,ty,pos,af,g⟩=some true){f:FuncId}{args:List CV}(hq:callA (rd G e) op=some (f,args))(he:enters P f=true){v:CV}(hf:∀ nx,ACall P G f args H nx fun r H' nx'=>r=.ret v∧H'=H∧nx'=nx)
  (h:AQq P G H ops os (putE e d v) K Kp):AQq P G H ops (⟨d,op,ty,pos,af,g⟩::os) e K Kp:=fun j=>by
 rcases h (j+1) with⟨l,e',m,h1,h2⟩ | ⟨os1,o,os2,l,e',m,f',args',v',h0,h1,h2⟩
 ·exact .inl ⟨_,e',m,.call (o:=⟨d,op,ty,pos,af,g⟩) v hg hq he hf h1,h2⟩
 ·exact .inr ⟨⟨d,op,ty,pos,af,g⟩::os1,o,os2,_,e',m,f',args',v',by rw [h0];rfl,.call (o:=⟨d,op,ty,pos,af,g⟩) v hg hq he hf h1,h2⟩
/-- A call that panics: the end. -/
theorem AQq.pan (hg:gd ops e ⟨d,op,ty,pos,af,g⟩=some true){f:FuncId}{args:List CV}(hq:callA (rd G e) op=some (f,args))(he:enters P f=true){v:CV}(hf:∀ nx,ACall P G f args H nx fun r H' nx'=>r=.pan v∧H'=H∧nx'=nx)
  (ht:AQt P G H ops (ops.size-1-os.length) (ops.size-os.length) os (putE e d .any)) (h:Kp v):AQq P G H ops (⟨d,op,ty,pos,af,g⟩::os) e K Kp:=fun j =>
 .inr ⟨[],⟨d,op,ty,pos,af,g⟩,os,[],e,j,f,args,v,rfl,.nil j e,hg,hq,he,hf,ht,h⟩
theorem AWp.regDT {id:Nat}(hm:P.follows .mixedOrders=true)(hst:stat n ops=true)(hl:ops.toList=os)(h:∀ nx',nx≤nx'→AQq P G H ops os e (fun e'=>Q .normal e' H nx') (fun v=>∀ e2,Q (.pan v) e2 H nx')):AWp P G n (.region id ops true) e H nx Q:=by
 subst hl;rcases h (nx+ops.size) (Nat.le_add_right _ _) 0 with⟨l,e',m,h1,h2⟩ | ⟨os1,o,os2,l,e',m,f,args,v,h0,h1,hg,hq,he,hf,⟨l2,e3,ht⟩,hk⟩
 ·exact AWp.regQ hm hst h1 h2
 ·have hs:=congrArg List.length h0;simp at hs;have e1:ops.size-1-os2.length=os1.length:=by omega
  have e2:ops.size-os2.length=os1.length+1:=by omega
  rw [e1,e2] at ht;exact AWp.regQT hm hst h0 h1 hg hq he hf ht hk
end
end Ax
end
section
namespace Ax
/-- An own list, with whatever stands behind it in its block. -/
def OwnR {α:Type}(cv:α→List CV)(k:Nat)(H:Heap)(nx:Nat)(c:CV)(l:List α):Prop:=(l=[]∧c=.nils)∨∃ b rest,c=.sl b 0 l.length k∧H b=some (.cells (l.flatMap cv++rest))∧b<nx
section
variable {α:Type} {cv:α→List CV} {k:Nat} {H:Heap} {nx:Nat} {c:CV} {l:List α}
theorem OwnR.nil:OwnR cv k H nx .nils []:=.inl ⟨rfl,rfl⟩
theorem OwnR.keep {H':Heap}{nx':Nat}(h:OwnR cv k H nx c l)(hn:nx≤nx')(hk:∀ b,b<nx→c=.sl b 0 l.length k→H' b=H b):OwnR cv k H' nx' c l:=by
 rcases h with h | ⟨b,rest,h1,h2,h3⟩
 ·exact .inl h
 ·exact .inr ⟨b,rest,h1,by rw [hk b h3 h1];exact h2,by omega⟩
theorem OwnR.isN {N:Nat}{rest:List CV}(hb:H N=some (.cells (l.flatMap cv++rest)))(hn:N<nx)(n:Nat)(hl:n=l.length):OwnR cv k H nx (.sl N 0 n k) l:=.inr ⟨N,rest,by rw [hl],hb,hn⟩
theorem OwnR.isN0 {N:Nat}(hb:H N=some (.cells (l.flatMap cv)))(hn:N<nx)(n:Nat)(hl:n=l.length):OwnR cv k H nx (.sl N 0 n k) l:=.inr ⟨N,[],by rw [hl],by rw [List.append_nil];exact hb,hn⟩
theorem OwnR.len {P:Program}{t el:TypeId}{s b1:Nat}{z:Value}(ht:ti P t=some ⟨.slice el,s,z,b1⟩)(h:OwnR cv k H nx c l)(H':Heap):lenA P H' t c=some (.int .i64 l.length):=by
 unfold lenA;rw [ht];rcases h with⟨rfl,rfl⟩ | ⟨b,rest,rfl,_,_⟩ <;> rfl
theorem OwnR.ln (hk:∀ a,(cv a).length=k)(h:OwnR cv k H nx c l):Ln H c (.lst (l.map cv)):=by
 rcases h with⟨rfl,rfl⟩ | ⟨b,rest,rfl,hb,_⟩
 ·exact .nils
 ·have e:rowsOf (l.flatMap cv++rest) 0 k l.length=l.map cv:=by
   have:=rowsOf_flat (k:=k) (rows:=l.map cv) (fun r hr=>by obtain⟨a,_,rfl⟩:=List.mem_map.mp hr;exact hk a) [] rest;rw [flat_map] at this;simpa using this
  have:=Ln.sl (H:=H) b 0 l.length k (l.flatMap cv++rest) (l.flatMap cv++rest) hb (by rw [List.length_append,flatMap_len hk];omega) rfl (fun j a b'=>.same _);rw [e] at this;exact this
/-- A beginning of the list. -/
theorem OwnR.cut {l m:List α}(hk:∀ a,(cv a).length=k){b n:Nat}(h:OwnR cv k H nx (.sl b 0 n k) (l++m)):OwnR cv k H nx (.sl b 0 l.length k) l:=by
 rcases h with⟨_,h⟩ | ⟨b2,rest,h1,h2,h3⟩
 ·cases h
 ·cases h1;exact .inr ⟨b,m.flatMap cv++rest,rfl,by rw [h2,List.flatMap_append,List.append_assoc],h3⟩
end
section
variable {P:Program} {H:Heap} {nx ne:Nat}
theorem app_rowR {t el:TypeId}{s b1:Nat}{z:Value}{i:TI}{b x n k:Nat}{cs row:List CV}(ht:ti P t=some ⟨.slice el,s,z,b1⟩)(hi:ti P el=some i)(hk:i.size=k)(hz:i.zero.cells.size=k)(hk0:0<k)(hb:H b=some (.cells cs))(hcs:n*k≤cs.length)
  (hx:H x=some (.cells row)) (hrow:row.length=k) (hone:row.all CV.one=true) (hn:n<1000000000) (hby:i.bytes≤1000):appA P H nx t t (.sl b 0 n k) (.sl x 0 1 k)=some (.sl nx 0 (n+1) k,.mv b (.cells (cs.take (n*k)++row))):=by
 have h1:Nat.ble (0+1*k) row.length=true:=Nat.ble_eq_true_of_le (by omega);have h2:Nat.ble (n*k) cs.length=true:=Nat.ble_eq_true_of_le (by omega);have h3:Nat.ble (n+1) 9223372036854775807=true:=Nat.ble_eq_true_of_le (by omega);have h4:(n+1)*i.bytes≤1000000000*1000:=Nat.mul_le_mul (by omega) hby;have h5:Nat.ble ((n+1)*i.bytes) 140737488355328=true:=Nat.ble_eq_true_of_le (by omega);have h6:Nat.blt 0 i.size=true:=lt_blt (by omega);have h7:Nat.beq i.zero.cells.size i.size=true:=by rw [hz,hk];exact Nat.beq_refl _
 have h8:Nat.beq k i.size=true:=by rw [hk];exact Nat.beq_refl _
 have e1:row.take (1*k)=row:=List.take_of_length_le (by omega);unfold appA;simp only [ht,hi,srcD,h6,h7,Bool.and_self,srcA,hx,h8,h1,Bool.true_and,List.drop_zero,e1,hone,hb,Nat.beq_refl,h2,h3,h5]
theorem app_keyR {α:Type}{cv:α→List CV}{k:Nat}{t el:TypeId}{s b1:Nat}{z:Value}{i:TI}(ht:ti P t=some ⟨.slice el,s,z,b1⟩)(hi:ti P el=some i)(hk:i.size=k)(hz:i.zero.cells.size=k)(hk0:0<k)(hby:i.bytes≤1000)
  (hcv:∀ a,(cv a).length=k) (hone:∀ a,(cv a).all CV.one=true) {c:CV} {l:List α} {x:Nat} {u:α} (ho:OwnR cv k H ne c l) (hxb:H x=some (.cells (cv u))) (hn:l.length<1000000000) :
  ∃ d',appA P H ne t t c (.sl x 0 1 k)=some (.sl ne 0 (l.length+1) k,d')∧d'.on H=true∧d'.nx ne=ne+1∧d'.hp H ne ne=some (.cells ((l++[u]).flatMap cv))∧∀ b,b<ne→(∀ b',c=.sl b' 0 l.length k→b≠b')→(d'.hp H ne) b=H b:=by
 rcases ho with⟨rfl,rfl⟩ | ⟨b,rest,rfl,hb,hlt⟩
 ·refine⟨_,app_row0 ht hi hk hz hk0 hxb (hcv u) (hone u) hby,rfl,rfl,by simp [Dl.hp,Ax.upd],fun b hb _=>?_⟩;simp only [Dl.hp];exact upd_miss _ _ _ _ (by omega)
 ·have hfl:=flatMap_len hcv l;refine⟨_,app_rowR ht hi hk hz hk0 hb (by rw [List.length_append,hfl];omega) hxb (hcv u) (hone u) (by omega) hby,rfl,rfl,?_,fun b' hb' hne=>?_⟩
  ·rw [← hfl,List.take_left];simp [Dl.hp,Ax.upd,List.flatMap_append]
  ·simp only [Dl.hp];rw [upd_miss _ _ _ _ (by omega),drp_miss _ _ _ (hne b rfl)]
end
section
variable {P:Program} {G:Nat→CV} {n:Nat} {e:Env} {H:Heap} {nx nx0 kp ne:Nat} {Q:AExit→Env→Heap→Nat→Prop} {ops:Array Oper} {os:List Oper} {d:Option Nat} {ty:TypeId} {pos:String} {af:Array Edge} {g:Option (Nat×Bool)} {K:Env→Heap→Nat→Prop}
theorem AOpl.appQ {α:Type}{cv:α→List CV}{k:Nat}{t el:TypeId}{s b1:Nat}{z:Value}{i:TI}{so xo:Operand}{c:CV}{l:List α}{x:Nat}(hcv:∀ a,(cv a).length=k)(hone:∀ a,(cv a).all CV.one=true)(ht:ti P t=some ⟨.slice el,s,z,b1⟩)(hi:ti P el=some i)(u:α)
  (ho:OwnR cv k H nx c l) (hn:l.length<1000000000)
  (h:∀ H',H' nx=some (.cells ((l++[u]).flatMap cv))→(∀ b,b<nx→(∀ b',c=.sl b' 0 l.length k→b≠b')→H' b=H b)→AOpl P G n ops os (putE e d (.sl nx 0 (l.length+1) k)) H' (nx+1) Q)
  (hk:i.size=k:=by rfl) (hz:i.zero.cells.size=k:=by rfl) (hk0:0<k:=by omega) (hby:i.bytes≤1000:=by simp) (hd:okD n d=true:=by rfl) (hg:gd ops e ⟨d,.call ⟨.builtin .append,#[so,xo],#[t,t]⟩,ty,pos,af,g⟩=some true:=by (first | rfl | (simp [*];done)))
  (hs:rd G e so=c:=by (first | (simp [*];done) | (simp [*];rfl))) (hx:rd G e xo=.sl x 0 1 k:=by (first | (simp [*];done) | (simp [*];rfl))) (hxb:H x=some (.cells (cv u)):=by (first | (simp [*];done) | (simp [*];rfl))) :
  AOpl P G n ops (⟨d,.call ⟨.builtin .append,#[so,xo],#[t,t]⟩,ty,pos,af,g⟩::os) e H nx Q:=by
 obtain⟨d',h1,h2,h3,h4,h5⟩:=app_keyR ht hi hk hz hk0 hby hcv hone ho hxb hn;refine Xa hd hg (c:=.sl nx 0 (l.length+1) k) (H':=d'.hp H nx) (nx':=nx+1) ?_ (h _ h4 h5);simp [stepS,qstep,bltA,astep,estep,hs,hx,h1,h3]
theorem ASl.appQ {α:Type}{cv:α→List CV}{k:Nat}{t el:TypeId}{s b1:Nat}{z:Value}{i:TI}{so xo:Operand}{c:CV}{l:List α}{x:Nat}(hcv:∀ a,(cv a).length=k)(hone:∀ a,(cv a).all CV.one=true)(ht:ti P t=some ⟨.slice el,s,z,b1⟩)(hi:ti P el=some i)(u:α)
  (ho:OwnR cv k H ne c l) (hn:l.length<1000000000)
  (h:∀ H',H' ne=some (.cells ((l++[u]).flatMap cv))→(∀ b,b<ne→(∀ b',c=.sl b' 0 l.length k→b≠b')→H' b=H b)→ASl P G nx0 (kp+1) ops os (putE e d (.sl ne 0 (l.length+1) k)) H' (ne+1) K)
  (hk:i.size=k:=by rfl) (hz:i.zero.cells.size=k:=by rfl) (hk0:0<k:=by omega) (hby:i.bytes≤1000:=by simp) (hg:gd ops e ⟨d,.call ⟨.builtin .append,#[so,xo],#[t,t]⟩,ty,pos,af,g⟩=some true:=by (first | rfl | (simp [*];done)))
  (hs:rd G e so=c:=by (first | (simp [*];done) | (simp [*];rfl))) (hx:rd G e xo=.sl x 0 1 k:=by (first | (simp [*];done) | (simp [*];rfl))) (hxb:H x=some (.cells (cv u)):=by (first | (simp [*];done) | (simp [*];rfl))) :
  ASl P G nx0 kp ops (⟨d,.call ⟨.builtin .append,#[so,xo],#[t,t]⟩,ty,pos,af,g⟩::os) e H ne K:=by
 obtain⟨d',h1,h2,h3,h4,h5⟩:=app_keyR ht hi hk hz hk0 hby hcv hone ho hxb hn;refine Xb hg (c:=.sl ne 0 (l.length+1) k) (H':=d'.hp H ne) (ne':=ne+1) ?_ (h _ h4 h5);simp [stepT,qstep,bltA,astep,estep,hs,hx,h1,h2,h3]
theorem ASlK.appQ {B:Nat→Prop}{R:List Nat}{H0:Heap}{α:Type}{cv:α→List CV}{k:Nat}{t el:TypeId}{s b1:Nat}{z:Value}{i:TI}{so xo:Operand}{c:CV}{l:List α}{x:Nat}(hcv:∀ a,(cv a).length=k)(hone:∀ a,(cv a).all CV.one=true)(ht:ti P t=some ⟨.slice el,s,z,b1⟩)(hi:ti P el=some i)(u:α)
  (ho:OwnR cv k H ne c l) (hn:l.length<1000000000) (hBk:∀ b,B b→b<ne∧∀ b',c=.sl b' 0 l.length k→b≠b')
  (h:∀ H',H' ne=some (.cells ((l++[u]).flatMap cv))→(∀ b,b<ne→(∀ b',c=.sl b' 0 l.length k→b≠b')→H' b=H b)→ASlK P G ⟨B,R,H0,fun _=>False⟩ nx0 (kp+1) ops os (putE e d (.sl ne 0 (l.length+1) k)) H' (ne+1) K)
  (hR:R.contains kp=false:=by rfl) (hk:i.size=k:=by rfl) (hz:i.zero.cells.size=k:=by rfl) (hk0:0<k:=by omega) (hby:i.bytes≤1000:=by simp) (hg:gd ops e ⟨d,.call ⟨.builtin .append,#[so,xo],#[t,t]⟩,ty,pos,af,g⟩=some true:=by (first | rfl | (simp [*];done)))
  (hs:rd G e so=c:=by (first | (simp [*];done) | (simp [*];rfl))) (hx:rd G e xo=.sl x 0 1 k:=by (first | (simp [*];done) | (simp [*];rfl))) (hxb:H x=some (.cells (cv u)):=by (first | (simp [*];done) | (simp [*];rfl))) :
  ASlK P G ⟨B,R,H0,fun _=>False⟩ nx0 kp ops (⟨d,.call ⟨.builtin .append,#[so,xo],#[t,t]⟩,ty,pos,af,g⟩::os) e H ne K:=by
 obtain⟨d',h1,h2,h3,h4,h5⟩:=app_keyR ht hi hk hz hk0 hby hcv hone ho hxb hn;refine ASlK.stepG hg (c:=.sl ne 0 (l.length+1) k) (H':=d'.hp H ne) (ne':=ne+1) ?_ (fun hr=>by rw [hR] at hr;cases hr) (fun b hb=>h5 b (hBk b hb).1 (hBk b hb).2) (h _ h4 h5);simp [stepT,qstep,bltA,astep,estep,hs,hx,h1,h2,h3]
/-- A frozen list behind an empty own one. -/
theorem ASlK.appL0 {B:Nat→Prop}{R:List Nat}{H0:Heap}{α:Type}{cv:α→List CV}{k:Nat}{t el:TypeId}{s b1:Nat}{z:Value}{i:TI}{so xo:Operand}{x:Nat}(hcv:∀ a,(cv a).length=k)(hone:∀ a,(cv a).all CV.one=true)(ht:ti P t=some ⟨.slice el,s,z,b1⟩)(hi:ti P el=some i)(l:List α)
  (hb:H x=some (.cells [])) (hn:l.length<1000000000) (hBk:∀ b,B b→b<ne∧b≠x)
  (h:∀ H',H' ne=some (.cells (l.flatMap cv))→(∀ b,b<ne→b≠x→H' b=H b)→ASlK P G ⟨B,R,H0,fun _=>False⟩ nx0 (kp+1) ops os (putE e d (.sl ne 0 l.length k)) H' (ne+1) K)
  (hR:R.contains kp=false:=by rfl) (hk:i.size=k:=by rfl) (hz:i.zero.cells.size=k:=by rfl) (hk0:0<k:=by omega) (hby:i.bytes≤1000:=by simp) (hg:gd ops e ⟨d,.call ⟨.builtin .append,#[so,xo],#[t,t]⟩,ty,pos,af,g⟩=some true:=by (first | rfl | (simp [*];done)))
  (hs:rd G e so=.sl x 0 0 k:=by (first | (simp [*];done) | (simp [*];rfl))) (hx:rd G e xo=.lst (l.map cv):=by (first | (simp [*];done) | (simp [*];rfl))) :
  ASlK P G ⟨B,R,H0,fun _=>False⟩ nx0 kp ops (⟨d,.call ⟨.builtin .append,#[so,xo],#[t,t]⟩,ty,pos,af,g⟩::os) e H ne K:=by
 have hr:∀ r∈l.map cv,r.length=k:=fun r hr=>by obtain⟨a,_,rfl⟩:=List.mem_map.mp hr;exact hcv a
 have hro:∀ r∈l.map cv,r.all CV.one=true:=fun r hr=>by obtain⟨a,_,rfl⟩:=List.mem_map.mp hr;exact hone a
 have h1:=app_lst (nx:=ne) ht hi hk hz hk0 (n:=0) hb (by simp) hr hro (by rw [List.length_map];omega) hby;rw [List.length_map,Nat.zero_add,List.nil_append,flat_map] at h1;refine ASlK.stepG hg (c:=.sl ne 0 l.length k) (H':=(Dl.mv x (.cells (l.flatMap cv))).hp H ne) (ne':=ne+1) ?_ (fun hr=>by rw [hR] at hr;cases hr) (fun b hbb=>?_) (h _ ?_ fun b hb1 hb2=>?_)
 ·simp [stepT,qstep,bltA,astep,estep,hs,hx,h1,Dl.on,Dl.nx]
 ·simp only [Dl.hp];have:=hBk b hbb;rw [upd_miss _ _ _ _ (by omega),drp_miss _ _ _ this.2]
 ·simp only [Dl.hp];rw [upd_hit]
 ·simp only [Dl.hp];rw [upd_miss _ _ _ _ (by omega),drp_miss _ _ _ hb2]
/-- An own list that a temporary holds becomes a frozen one. -/
theorem AWp.frzO {α:Type}{cv:α→List CV}{k N m:Nat}(hk:∀ a,(cv a).length=k)(t0:Nat){c:Code}(l:List α)(h0:e t0=.sl N 0 m k)(hb:H N=some (.cells (l.flatMap cv)))(hm:m=l.length)
  (h:∀ H',(∀ b,b≠N→H' b=H b)→AWp P G n c (putE e (some t0) (.lst (l.map cv))) H' nx Q):AWp P G n c e H nx Q:=by
 subst hm;refine AWp.frzT t0 h0 hb (by rw [flatMap_len hk];omega) ?_;rw [OwnL.frozen hk];exact h _ fun b hb=>drp_miss _ _ _ hb
end
end Ax
end
section
open Lx Ax Go.RowKit
mutual
theorem puE:∀ e:Ex,puL (cvE e)=true
 | .mk k n o m ks=>by rw [cvE_mk];simp [puL,puV,puEs ks]
theorem puEs:∀ l:List Ex,puR (l.map cvE)=true
 | []=>rfl
 | e::l=>by simp [puR,puE e,puEs l]
end
mutual
theorem puS:∀ s:St,puL (cvS s)=true
 | .mk k nm ty es b el=>by rw [Xz];simp [puL,puV,puEs es,puSs b,puSs el]
theorem puSs:∀ l:List St,puR (l.map cvS)=true
 | []=>rfl
 | e::l=>by simp [puR,puS e,puSs l]
end
theorem puRm {α:Type}{cv:α→List CV}(h:∀ a,puL (cv a)=true)(l:List α):puR (l.map cv)=true:=by
 induction l with
 | nil=>rfl
 | cons a l ih=>simp [puR,h a,ih]
theorem puF (f:Fld):puL (cvF f)=true:=rfl
theorem puM (m:Me):puL (cvM m)=true:=by simp [cvM,puL,puV,puRm puF,puSs]
theorem puC (c:Cl):puL (cvC c)=true:=by simp [cvC,puL,puV,puRm puF,puRm puM]
theorem Xy (e:Ex):cvE e=[.int .i64 e.kind,.int .i64 e.n,.str e.of,.str e.name,.lst (e.kids.map cvE)]:=by cases e;rw [cvE_mk];rfl
def Lx.St.p0:St→Int | .mk k _ _ _ _ _=>k
def Lx.St.p1:St→Bytes | .mk _ n _ _ _ _=>n
def Lx.St.p2:St→Bytes | .mk _ _ t _ _ _=>t
def Lx.St.p3:St→List Ex | .mk _ _ _ e _ _=>e
def Lx.St.p4:St→List St | .mk _ _ _ _ b _=>b
def Lx.St.p5:St→List St | .mk _ _ _ _ _ l=>l
theorem cvS_eq (s:St):cvS s=[.int .i64 s.p0,.str s.p1,.str s.p2,.lst (s.p3.map cvE),.lst (s.p4.map cvS),.lst (s.p5.map cvS)]:=by cases s;rw [Xz];rfl
section
variable {P:Program} {G:Nat→CV} {n:Nat} {e:Env} {H:Heap} {nx nx0 kp ne:Nat} {Q:AExit→Env→Heap→Nat→Prop} {ops:Array Oper} {os:List Oper} {d:Option Nat} {ty t u:TypeId} {pos:String} {af:Array Edge} {K:Env→Heap→Nat→Prop} {x y:Operand} {a b:Bytes}
end
end
end Go.Proofs.YtoookjadbhdfhaaDoor
