/-
  Trees that are only read: depths, counts, items of lists laid open.
-/
import Derived.Test.YtoookjadbhdfhaaDoorTParTree
import Derived.Test.YtoookjadbhdfhaaDoorTJpAn
set_option linter.unusedSectionVars false
set_option linter.unusedSimpArgs false
set_option linter.unnecessarySimpa false
set_option linter.unusedVariables false
namespace Go.Proofs.YtoookjadbhdfhaaDoor
section
open Lx Go.RowKit
namespace Lx
mutual
def exDepth:Ex→Nat
 | .mk _ _ _ _ ks=>exsDepth ks+1
def exsDepth:List Ex→Nat
 | []=>0
 | e::es=>max (exDepth e) (exsDepth es)
end
theorem exsDepth_snoc (l:List Ex)(e:Ex):exsDepth (l++[e])=max (exsDepth l) (exDepth e):=by
 induction l with
 | nil=>simp [exsDepth]
 | cons x l ih=>simp only [List.cons_append,exsDepth,ih];omega
end Lx
abbrev Any:Nat→Prop:=fun _=>True
namespace Lx
mutual
def stDepth:St→Nat
 | .mk _ _ _ es b el=>max (max (exsDepth es) (stsDepth b)) (stsDepth el)+1
def stsDepth:List St→Nat
 | []=>0
 | s::l=>max (stDepth s) (stsDepth l)
end
mutual
def stCount:St→Nat
 | .mk _ _ _ _ b el=>stsCount b+stsCount el
def stsCount:List St→Nat
 | []=>0
 | s::l=>1+stCount s+stsCount l
end
theorem stsDepth_snoc (l:List St)(e:St):stsDepth (l++[e])=max (stsDepth l) (stDepth e):=by
 induction l with
 | nil=>simp [stsDepth]
 | cons x l ih=>simp only [List.cons_append,stsDepth,ih];omega
/-- The first limit that is hit. -/
def firstLim {α:Type}(f:α→Nat):List α→Nat
 | []=>0
 | x::l=>if f x≠0 then f x else firstLim f l
end Lx
theorem IsSt.lists {A:Nat→Prop}{w:World}{d:Nat}{e:St}{k:Int}{nm ty:ByteArray}{v1 v2 v3:Value}(h:IsSt A w (d+1) e [.int .i64 k,.string nm,.string ty,v1,v2,v3]):∃ es b el nm' ty',e=.mk k nm' ty' es b el∧nm=strOf nm'∧ty=strOf ty'∧IsList A w 5 (IsEx A w d) es v1∧IsList A w 6 (IsSt A w d) b v2∧IsList A w 6 (IsSt A w d) el v3:=by
 obtain⟨k',nm',ty',es,b,el⟩:=e;obtain⟨u1,u2,u3,hv,h1,h2,h3⟩:=h;simp only [List.cons.injEq,Value.int.injEq,Value.string.injEq,true_and,and_true] at hv;obtain⟨rfl,rfl,rfl,rfl,rfl,rfl⟩:=hv;exact⟨es,b,el,nm',ty',rfl,rfl,rfl,h1,h2,h3⟩
theorem IsMe.parts {A:Nat→Prop}{w:World}{d:Nat}{m:Me}{nm rs:ByteArray}{sb:Bool}{v1 v2:Value}(h:IsMe A w d m [.string nm,.bool sb,v1,.string rs,v2]):nm=strOf m.name∧sb=m.static∧rs=strOf m.result∧IsList A w 2 IsFld m.params v1∧IsList A w 6 (IsSt A w d) m.body v2:=by
 obtain⟨u1,u2,hv,h1,h2⟩:=h;simp only [List.cons.injEq,Value.bool.injEq,Value.string.injEq,and_true] at hv;obtain⟨rfl,rfl,rfl,rfl,rfl⟩:=hv;exact⟨rfl,rfl,rfl,h1,h2⟩
theorem IsCl.parts {A:Nat→Prop}{w:World}{d:Nat}{m:Cl}{nm sp:ByteArray}{v1 v2:Value}(h:IsCl A w d m [.string nm,.string sp,v1,v2]):nm=strOf m.name∧sp=strOf m.super∧IsList A w 2 IsFld m.fields v1∧IsList A w 5 (IsMe A w d) m.methods v2:=by
 obtain⟨u1,u2,hv,h1,h2⟩:=h;simp only [List.cons.injEq,Value.string.injEq,and_true] at hv;obtain⟨rfl,rfl,rfl,rfl⟩:=hv;exact⟨rfl,rfl,h1,h2⟩
theorem IsList.len {α:Type}{A:Nat→Prop}{w:World}{k:Nat}{P:α→List Value→Prop}{l:List α}{a:Option Addr}{n c:Nat}(h:IsList A w k P l (.slice a n c)):n=l.length∧l.length≤maxLen:=by
 obtain⟨hl,⟨rfl,a',c',hv⟩ | ⟨g,off,cp,hv,hA,hc⟩⟩:=h
 ·cases hv;exact⟨rfl,hl⟩
 ·cases hv;exact⟨rfl,hl⟩
theorem differ {α:Type}{l1 l2:List α}{j:Nat}(h1:j<l1.length)(h2:j<l2.length)(h:l1[j]≠l2[j]):¬ l1=l2:=fun e=>by subst e;exact h rfl
theorem Fld.ext' {a b:Fld}(h1:a.name=b.name)(h2:a.typ=b.typ):a=b:=by cases a;cases b;cases h1;cases h2;rfl
end
set_option linter.unusedSimpArgs false
set_option linter.unusedVariables false
section
namespace Ax
section
variable {P:Program} {G:Nat→CV} {n:Nat} {ops:Array Oper} {H:Heap} {nx:Nat} {Q:AExit→Env→Heap→Nat→Prop}
/-- What a run knows that leaves a rest of the operations. -/
theorem QRun.envR {j0 m:Nat}{os:List Oper}{e e':Env}{l:List Act1}(h:QRun P G H ops j0 os e l e' m):∀ (k:Nat) (e0:Env) (pre:List Act1) (rest:List Oper),ops.toList.drop k=os++rest→pre.length=k→stat n ops=true →
  (∀ t,e t=match wr ops t with
   | some j=>if j<k then ((pre[j]?).getD .skip).val else e0 t
   | none=>e0 t) →
  (∀ t,e' t=match wr ops t with
   | some j=>if j<k+os.length then (((pre++l)[j]?).getD .skip).val else e0 t
   | none=>e0 t) ∧
  ∀ i o,k≤i→i<k+os.length→ops[i]?=some o→∃ ei,(∀ t,ei t=match wr ops t with
   | some j=>if j<i then (((pre++l)[j]?).getD .skip).val else e0 t
   | none=>e0 t)∧((∃ c,(pre++l)[i]?=some (.quiet c)∧gd ops ei o=some true∧qstep P H (rd G ei) o.op=some c)∨((pre++l)[i]?=some .skip∧gd ops ei o=some false) ∨
     ∃ j c f args,(pre++l)[i]?=some (.eff j c)∧gd ops ei o=some true∧callA (rd G ei) o.op=some (f,args)∧enters P f=true∧∀ nx,ACall P G f args H nx fun r H' nx'=>r=.ret c∧H'=H∧nx'=nx):=by
 have step:∀ {k:Nat} {o:Oper} {e e0:Env} {pre:List Act1} {a:Act1} {c:CV},ops[k]?=some o→pre.length=k→stat n ops=true→a.val=c →
   (∀ t,e t=match wr ops t with
    | some j=>if j<k then ((pre[j]?).getD .skip).val else e0 t
    | none=>e0 t) →
   ∀ t,putE e o.dst c t=match wr ops t with
    | some j=>if j<k+1 then (((pre++[a])[j]?).getD .skip).val else e0 t
    | none=>e0 t:=by
  intro k o e e0 pre a c ho hpre hst hav he t;have hst':=hst;simp only [stat,Bool.and_eq_true] at hst';have hso:=statL_spec (k:=0) hst'.1 k o (by simpa using ho);rw [Nat.zero_add] at hso;have hput:(o.dst=some t∧putE e o.dst c t=c)∨(o.dst≠some t∧putE e o.dst c t=e t):=by
   cases hd:o.dst with
   | none=>right;exact⟨by simp,rfl⟩
   | some d =>
     by_cases hdt:t=d
     ·left;subst hdt;exact⟨rfl,by simp [putE]⟩
     ·right;exact⟨fun h=>hdt (by cases h;rfl),by simp [putE,hdt]⟩
  rcases hput with⟨h1,h2⟩ | ⟨h1,h2⟩
  ·rw [h2,(statO_dst hso t h1).2];simp only [Nat.lt_succ_self,if_true];rw [List.getElem?_append_right (by omega),hpre,Nat.sub_self];simp [hav]
  ·rw [h2,he t];cases hw:wr ops t with
   | none=>rfl
   | some j =>
     simp only;obtain⟨oj,hoj,hdj⟩:=wr_some hw;have hjk:j≠k:=fun e=>by subst e;rw [ho] at hoj;cases hoj;exact h1 hdj
     by_cases hlt:j<k
     ·rw [if_pos hlt,if_pos (by omega),List.getElem?_append_left (by omega)]
     ·rw [if_neg hlt,if_neg (by omega)]
 have drop_succ:∀ {k:Nat} {o:Oper} {os:List Oper},ops.toList.drop k=o::os→ops[k]?=some o∧ops.toList.drop (k+1)=os:=by
  intro k o os hk;constructor
  ·have:=congrArg List.head? hk;simpa [List.head?_drop] using this
  ·have:=congrArg List.tail hk;simpa [List.tail_drop] using this
 induction h with
 | nil j e =>
   intro k e0 pre rest hk hpre hst he;refine⟨fun t=>?_,fun i o hi hi2 ho=>?_⟩
   ·rw [he t];cases hw:wr ops t with
    | none=>rfl
    | some j=>simp only [List.length_nil,Nat.add_zero,List.append_nil]
   ·simp at hi2;omega
 | @look j m o os e e' l c hg hq _ ih =>
   intro k e0 pre rest hk hpre hst he;obtain⟨ho,hk'⟩:=drop_succ (os:=os++rest) (by simpa using hk);obtain⟨i1,i2⟩:=ih (k+1) e0 (pre++[Act1.quiet c]) rest hk' (by simp [hpre]) hst (step (a:=.quiet c) (c:=c) ho hpre hst rfl he);simp only [List.append_assoc,List.cons_append,List.nil_append] at i1 i2;rw [List.length_cons];refine⟨fun t=>by rw [i1 t,show k+1+os.length=k+(os.length+1) by omega],fun i oi hi hi2 hoi=>?_⟩;rcases Nat.lt_or_eq_of_le hi with h1 | h1
   ·exact i2 i oi h1 (by omega) hoi
   ·subst h1;rw [ho] at hoi;cases hoi;refine⟨e,fun t=>?_,.inl ⟨c,?_,hg,hq⟩⟩
    ·rw [he t];cases hw:wr ops t with
     | none=>rfl
     | some j =>
       simp only
       by_cases hlt:j<k
       ·rw [if_pos hlt,if_pos hlt,List.getElem?_append_left (by omega)]
       ·rw [if_neg hlt,if_neg hlt]
    ·rw [List.getElem?_append_right (by omega),hpre,Nat.sub_self];rfl
 | @call j m o os e e' l f args c hg hq hen hf _ ih =>
   intro k e0 pre rest hk hpre hst he;obtain⟨ho,hk'⟩:=drop_succ (os:=os++rest) (by simpa using hk);obtain⟨i1,i2⟩:=ih (k+1) e0 (pre++[Act1.eff j c]) rest hk' (by simp [hpre]) hst (step (a:=.eff j c) (c:=c) ho hpre hst rfl he);simp only [List.append_assoc,List.cons_append,List.nil_append] at i1 i2;rw [List.length_cons];refine⟨fun t=>by rw [i1 t,show k+1+os.length=k+(os.length+1) by omega],fun i oi hi hi2 hoi=>?_⟩;rcases Nat.lt_or_eq_of_le hi with h1 | h1
   ·exact i2 i oi h1 (by omega) hoi
   ·subst h1;rw [ho] at hoi;cases hoi;refine⟨e,fun t=>?_,.inr (.inr ⟨j,c,f,args,?_,hg,hq,hen,hf⟩)⟩
    ·rw [he t];cases hw:wr ops t with
     | none=>rfl
     | some j =>
       simp only
       by_cases hlt:j<k
       ·rw [if_pos hlt,if_pos hlt,List.getElem?_append_left (by omega)]
       ·rw [if_neg hlt,if_neg hlt]
    ·rw [List.getElem?_append_right (by omega),hpre,Nat.sub_self];rfl
 | @skip j m o os e e' l hg _ ih =>
   intro k e0 pre rest hk hpre hst he;obtain⟨ho,hk'⟩:=drop_succ (os:=os++rest) (by simpa using hk);obtain⟨i1,i2⟩:=ih (k+1) e0 (pre++[Act1.skip]) rest hk' (by simp [hpre]) hst (step (a:=.skip) (c:=.tup []) ho hpre hst rfl he);simp only [List.append_assoc,List.cons_append,List.nil_append] at i1 i2;rw [List.length_cons];refine⟨fun t=>by rw [i1 t,show k+1+os.length=k+(os.length+1) by omega],fun i oi hi hi2 hoi=>?_⟩;rcases Nat.lt_or_eq_of_le hi with h1 | h1
   ·exact i2 i oi h1 (by omega) hoi
   ·subst h1;rw [ho] at hoi;cases hoi;refine⟨e,fun t=>?_,.inr (.inl ⟨?_,hg⟩)⟩
    ·rw [he t];cases hw:wr ops t with
     | none=>rfl
     | some j =>
       simp only
       by_cases hlt:j<k
       ·rw [if_pos hlt,if_pos hlt,List.getElem?_append_left (by omega)]
       ·rw [if_neg hlt,if_neg hlt]
    ·rw [List.getElem?_append_right (by omega),hpre,Nat.sub_self];rfl
/-- All that stands behind place k waits for it. -/
def deadB (ops:Array Oper)(k:Nat):Bool:=(List.range ops.size).all fun i=>Nat.ble i k || anc (ancs ops) i k
end
/-- The operations of a drawn region that are left; a call may panic. -/
def AQp (P:Program)(G:Nat→CV)(H:Heap)(ops:Array Oper)(os:List Oper)(e:Env)(K:Env→Prop)(Kp:CV→Prop):Prop :=
 ∀ j,(∃ l e' m,QRun P G H ops j os e l e' m∧K e')∨∃ os1 o os2 l e' m f args v,os=os1++o::os2∧QRun P G H ops j os1 e l e' m∧gd ops e' o=some true∧callA (rd G e') o.op=some (f,args)∧enters P f=true∧(∀ nx,ACall P G f args H nx fun r H' nx'=>r=.pan v∧H'=H∧nx'=nx)∧deadB ops (ops.size-1-os2.length)=true∧Kp v
section
variable {P:Program} {G:Nat→CV} {n:Nat} {e:Env} {H:Heap} {nx:Nat} {Q:AExit→Env→Heap→Nat→Prop} {ops:Array Oper} {os:List Oper} {K:Env→Prop} {Kp:CV→Prop}
theorem AQp.nil (h:K e):AQp P G H ops [] e K Kp:=fun j=>.inl ⟨[],e,j,.nil j e,h⟩
variable {d:Option Nat} {op:Op} {ty:TypeId} {pos:String} {af:Array Edge} {g:Option (Nat×Bool)}
theorem AQp.stepG (hg:gd ops e ⟨d,op,ty,pos,af,g⟩=some true){c:CV}(hq:qstep P H (rd G e) op=some c)(h:AQp P G H ops os (putE e d c) K Kp):AQp P G H ops (⟨d,op,ty,pos,af,g⟩::os) e K Kp:=fun j=>by
 rcases h j with⟨l,e',m,h1,h2⟩ | ⟨os1,o,os2,l,e',m,f,args,v,h0,h1,h2⟩
 ·exact .inl ⟨_,e',m,.look (o:=⟨d,op,ty,pos,af,g⟩) c hg hq h1,h2⟩
 ·exact .inr ⟨⟨d,op,ty,pos,af,g⟩::os1,o,os2,_,e',m,f,args,v,by rw [h0];rfl,.look (o:=⟨d,op,ty,pos,af,g⟩) c hg hq h1,h2⟩
theorem AQp.step {c:CV}(hq:qstep P H (rd G e) op=some c)(h:AQp P G H ops os (putE e d c) K Kp):AQp P G H ops (⟨d,op,ty,pos,af,none⟩::os) e K Kp:=AQp.stepG rfl hq h
theorem AQp.pass (hg:gd ops e ⟨d,op,ty,pos,af,g⟩=some false)(h:AQp P G H ops os (putE e d (.tup [])) K Kp):AQp P G H ops (⟨d,op,ty,pos,af,g⟩::os) e K Kp:=fun j=>by
 rcases h j with⟨l,e',m,h1,h2⟩ | ⟨os1,o,os2,l,e',m,f,args,v,h0,h1,h2⟩
 ·exact .inl ⟨_,e',m,.skip (o:=⟨d,op,ty,pos,af,g⟩) hg h1,h2⟩
 ·exact .inr ⟨⟨d,op,ty,pos,af,g⟩::os1,o,os2,_,e',m,f,args,v,by rw [h0];rfl,.skip (o:=⟨d,op,ty,pos,af,g⟩) hg h1,h2⟩
theorem AQp.callG (hg:gd ops e ⟨d,op,ty,pos,af,g⟩=some true){f:FuncId}{args:List CV}(hq:callA (rd G e) op=some (f,args))(he:enters P f=true){v:CV}(hf:∀ nx,ACall P G f args H nx fun r H' nx'=>r=.ret v∧H'=H∧nx'=nx)
  (h:AQp P G H ops os (putE e d v) K Kp):AQp P G H ops (⟨d,op,ty,pos,af,g⟩::os) e K Kp:=fun j=>by
 rcases h (j+1) with⟨l,e',m,h1,h2⟩ | ⟨os1,o,os2,l,e',m,f',args',v',h0,h1,h2⟩
 ·exact .inl ⟨_,e',m,.call (o:=⟨d,op,ty,pos,af,g⟩) v hg hq he hf h1,h2⟩
 ·exact .inr ⟨⟨d,op,ty,pos,af,g⟩::os1,o,os2,_,e',m,f',args',v',by rw [h0];rfl,.call (o:=⟨d,op,ty,pos,af,g⟩) v hg hq he hf h1,h2⟩
/-- A call that panics: the end. -/
theorem AQp.pan (hg:gd ops e ⟨d,op,ty,pos,af,g⟩=some true){f:FuncId}{args:List CV}(hq:callA (rd G e) op=some (f,args))(he:enters P f=true){v:CV}(hf:∀ nx,ACall P G f args H nx fun r H' nx'=>r=.pan v∧H'=H∧nx'=nx)
  (hd:deadB ops (ops.size-1-os.length)=true) (h:Kp v):AQp P G H ops (⟨d,op,ty,pos,af,g⟩::os) e K Kp:=fun j =>
 .inr ⟨[],⟨d,op,ty,pos,af,g⟩,os,[],e,j,f,args,v,rfl,.nil j e,hg,hq,he,hf,hd,h⟩
end
end Ax
end
end Go.Proofs.YtoookjadbhdfhaaDoor
