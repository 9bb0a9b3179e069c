/-
  Trees that are only read: depths, counts, items of lists laid open.
-/
import Derived.Test.YtoookjadbhdfhaaGreatDoorUJpAm
import Derived.Test.YtoookjadbhdfhaaGreatDoorUJpAk
import Derived.Test.YtoookjadbhdfhaaGreatDoorUJpAg
import Derived.Test.YtoookjadbhdfhaaGreatDoorUJpAd
set_option linter.unusedSectionVars false
set_option linter.unusedSimpArgs false
set_option linter.unnecessarySimpa false
set_option linter.unusedVariables false
namespace Go.Proofs.YtoookjadbhdfhaaGreatDoor
section
open Lx Go.RowKit
namespace Lx
mutual
def exDepth:Ex→Nat
 | .mk _ _ _ _ ks=>exsDepth ks+1
def exsDepth:List Ex→Nat
 | []=>0
 | e::es=>max (exDepth e) (exsDepth es)
end
theorem exsDepth_snoc (l:List Ex)(e:Ex):exsDepth (l++[e])=max (exsDepth l) (exDepth e):=by
 induction l with
 | nil=>simp [exsDepth]
 | cons x l ih=>simp only [List.cons_append,exsDepth,ih];omega
end Lx
abbrev Any:Nat→Prop:=fun _=>True
namespace Lx
mutual
def stDepth:St→Nat
 | .mk _ _ _ es b el=>max (max (exsDepth es) (stsDepth b)) (stsDepth el)+1
def stsDepth:List St→Nat
 | []=>0
 | s::l=>max (stDepth s) (stsDepth l)
end
mutual
def stCount:St→Nat
 | .mk _ _ _ _ b el=>stsCount b+stsCount el
def stsCount:List St→Nat
 | []=>0
 | s::l=>1+stCount s+stsCount l
end
theorem stsDepth_snoc (l:List St)(e:St):stsDepth (l++[e])=max (stsDepth l) (stDepth e):=by
 induction l with
 | nil=>simp [stsDepth]
 | cons x l ih=>simp only [List.cons_append,stsDepth,ih];omega
/-- The first limit that is hit. -/
def firstLim {α:Type}(f:α→Nat):List α→Nat
 | []=>0
 | x::l=>if f x≠0 then f x else firstLim f l
end Lx
theorem IsSt.lists {A:Nat→Prop}{w:World}{d:Nat}{e:St}{k:Int}{nm ty:ByteArray}{v1 v2 v3:Value}(h:IsSt A w (d+1) e [.int .i64 k,.string nm,.string ty,v1,v2,v3]):∃ es b el nm' ty',e=.mk k nm' ty' es b el∧nm=strOf nm'∧ty=strOf ty'∧IsList A w 5 (IsEx A w d) es v1∧IsList A w 6 (IsSt A w d) b v2∧IsList A w 6 (IsSt A w d) el v3:=by
 obtain⟨k',nm',ty',es,b,el⟩:=e;obtain⟨u1,u2,u3,hv,h1,h2,h3⟩:=h;simp only [List.cons.injEq,Value.int.injEq,Value.string.injEq,true_and,and_true] at hv;obtain⟨rfl,rfl,rfl,rfl,rfl,rfl⟩:=hv;exact⟨es,b,el,nm',ty',rfl,rfl,rfl,h1,h2,h3⟩
theorem IsMe.parts {A:Nat→Prop}{w:World}{d:Nat}{m:Me}{nm rs:ByteArray}{sb:Bool}{v1 v2:Value}(h:IsMe A w d m [.string nm,.bool sb,v1,.string rs,v2]):nm=strOf m.name∧sb=m.static∧rs=strOf m.result∧IsList A w 2 IsFld m.params v1∧IsList A w 6 (IsSt A w d) m.body v2:=by
 obtain⟨u1,u2,hv,h1,h2⟩:=h;simp only [List.cons.injEq,Value.bool.injEq,Value.string.injEq,and_true] at hv;obtain⟨rfl,rfl,rfl,rfl,rfl⟩:=hv;exact⟨rfl,rfl,rfl,h1,h2⟩
theorem IsCl.parts {A:Nat→Prop}{w:World}{d:Nat}{m:Cl}{nm sp:ByteArray}{v1 v2:Value}(h:IsCl A w d m [.string nm,.string sp,v1,v2]):nm=strOf m.name∧sp=strOf m.super∧IsList A w 2 IsFld m.fields v1∧IsList A w 5 (IsMe A w d) m.methods v2:=by
 obtain⟨u1,u2,hv,h1,h2⟩:=h;simp only [List.cons.injEq,Value.string.injEq,and_true] at hv;obtain⟨rfl,rfl,rfl,rfl⟩:=hv;exact⟨rfl,rfl,h1,h2⟩
theorem IsList.len {α:Type}{A:Nat→Prop}{w:World}{k:Nat}{P:α→List Value→Prop}{l:List α}{a:Option Addr}{n c:Nat}(h:IsList A w k P l (.slice a n c)):n=l.length∧l.length≤maxLen:=by
 obtain⟨hl,⟨rfl,a',c',hv⟩ | ⟨g,off,cp,hv,hA,hc⟩⟩:=h
 ·cases hv;exact⟨rfl,hl⟩
 ·cases hv;exact⟨rfl,hl⟩
theorem differ {α:Type}{l1 l2:List α}{j:Nat}(h1:j<l1.length)(h2:j<l2.length)(h:l1[j]≠l2[j]):¬ l1=l2:=fun e=>by subst e;exact h rfl
theorem Fld.ext' {a b:Fld}(h1:a.name=b.name)(h2:a.typ=b.typ):a=b:=by cases a;cases b;cases h1;cases h2;rfl
end
set_option linter.unusedSimpArgs false
set_option linter.unusedVariables false
section
namespace Ax
section
variable {P:Program} {G:Nat→CV} {n:Nat} {ops:Array Oper} {H:Heap} {nx:Nat} {Q:AExit→Env→Heap→Nat→Prop}
/-- What a run knows that leaves a rest of the operations. -/
theorem QRun.envR {j0 m:Nat}{os:List Oper}{e e':Env}{l:List Act1}(h:QRun P G H ops j0 os e l e' m):∀ (k:Nat) (e0:Env) (pre:List Act1) (rest:List Oper),ops.toList.drop k=os++rest→pre.length=k→stat n ops=true →
  (∀ t,e t=match wr ops t with
   | some j=>if j<k then ((pre[j]?).getD .skip).val else e0 t
   | none=>e0 t) →
  (∀ t,e' t=match wr ops t with
   | some j=>if j<k+os.length then (((pre++l)[j]?).getD .skip).val else e0 t
   | none=>e0 t) ∧
  ∀ i o,k≤i→i<k+os.length→ops[i]?=some o→∃ ei,(∀ t,ei t=match wr ops t with
   | some j=>if j<i then (((pre++l)[j]?).getD .skip).val else e0 t
   | none=>e0 t)∧((∃ c,(pre++l)[i]?=some (.quiet c)∧gd ops ei o=some true∧qstep P H (rd G ei) o.op=some c)∨((pre++l)[i]?=some .skip∧gd ops ei o=some false) ∨
     ∃ j c f args,(pre++l)[i]?=some (.eff j c)∧gd ops ei o=some true∧callA (rd G ei) o.op=some (f,args)∧enters P f=true∧∀ nx,ACall P G f args H nx fun r H' nx'=>r=.ret c∧H'=H∧nx'=nx):=by
 have step:∀ {k:Nat} {o:Oper} {e e0:Env} {pre:List Act1} {a:Act1} {c:CV},ops[k]?=some o→pre.length=k→stat n ops=true→a.val=c →
   (∀ t,e t=match wr ops t with
    | some j=>if j<k then ((pre[j]?).getD .skip).val else e0 t
    | none=>e0 t) →
   ∀ t,putE e o.dst c t=match wr ops t with
    | some j=>if j<k+1 then (((pre++[a])[j]?).getD .skip).val else e0 t
    | none=>e0 t:=by
  intro k o e e0 pre a c ho hpre hst hav he t;have hst':=hst;simp only [stat,Bool.and_eq_true] at hst';have hso:=statL_spec (k:=0) hst'.1 k o (by simpa using ho);rw [Nat.zero_add] at hso;have hput:(o.dst=some t∧putE e o.dst c t=c)∨(o.dst≠some t∧putE e o.dst c t=e t):=by
   cases hd:o.dst with
   | none=>right;exact⟨by simp,rfl⟩
   | some d =>
     by_cases hdt:t=d
     ·left;subst hdt;exact⟨rfl,by simp [putE]⟩
     ·right;exact⟨fun h=>hdt (by cases h;rfl),by simp [putE,hdt]⟩
  rcases hput with⟨h1,h2⟩ | ⟨h1,h2⟩
  ·rw [h2,(statO_dst hso t h1).2];simp only [Nat.lt_succ_self,if_true];rw [List.getElem?_append_right (by omega),hpre,Nat.sub_self];simp [hav]
  ·rw [h2,he t];cases hw:wr ops t with
   | none=>rfl
   | some j =>
     simp only;obtain⟨oj,hoj,hdj⟩:=wr_some hw;have hjk:j≠k:=fun e=>by subst e;rw [ho] at hoj;cases hoj;exact h1 hdj
     by_cases hlt:j<k
     ·rw [if_pos hlt,if_pos (by omega),List.getElem?_append_left (by omega)]
     ·rw [if_neg hlt,if_neg (by omega)]
 have drop_succ:∀ {k:Nat} {o:Oper} {os:List Oper},ops.toList.drop k=o::os→ops[k]?=some o∧ops.toList.drop (k+1)=os:=by
  intro k o os hk;constructor
  ·have:=congrArg List.head? hk;simpa [List.head?_drop] using this
  ·have:=congrArg List.tail hk;simpa [List.tail_drop] using this
 induction h with
 | nil j e =>
   intro k e0 pre rest hk hpre hst he;refine⟨fun t=>?_,fun i o hi hi2 ho=>?_⟩
   ·rw [he t];cases hw:wr ops t with
    | none=>rfl
    | some j=>simp only [List.length_nil,Nat.add_zero,List.append_nil]
   ·simp at hi2;omega
 | @look j m o os e e' l c hg hq _ ih =>
   intro k e0 pre rest hk hpre hst he;obtain⟨ho,hk'⟩:=drop_succ (os:=os++rest) (by simpa using hk);obtain⟨i1,i2⟩:=ih (k+1) e0 (pre++[Act1.quiet c]) rest hk' (by simp [hpre]) hst (step (a:=.quiet c) (c:=c) ho hpre hst rfl he);simp only [List.append_assoc,List.cons_append,List.nil_append] at i1 i2;rw [List.length_cons];refine⟨fun t=>by rw [i1 t,show k+1+os.length=k+(os.length+1) by omega],fun i oi hi hi2 hoi=>?_⟩;rcases Nat.lt_or_eq_of_le hi with h1 | h1
   ·exact i2 i oi h1 (by omega) hoi
   ·subst h1;rw [ho] at hoi;cases hoi;refine⟨e,fun t=>?_,.inl ⟨c,?_,hg,hq⟩⟩
    ·rw [he t];cases hw:wr ops t with
     | none=>rfl
     | some j =>
       simp only
       by_cases hlt:j<k
       ·rw [if_pos hlt,if_pos hlt,List.getElem?_append_left (by omega)]
       ·rw [if_neg hlt,if_neg hlt]
    ·rw [List.getElem?_append_right (by omega),hpre,Nat.sub_self];rfl
 | @call j m o os e e' l f args c hg hq hen hf _ ih =>
   intro k e0 pre rest hk hpre hst he;obtain⟨ho,hk'⟩:=drop_succ (os:=os++rest) (by simpa using hk);obtain⟨i1,i2⟩:=ih (k+1) e0 (pre++[Act1.eff j c]) rest hk' (by simp [hpre]) hst (step (a:=.eff j c) (c:=c) ho hpre hst rfl he);simp only [List.append_assoc,List.cons_append,List.nil_append] at i1 i2;rw [List.length_cons];refine⟨fun t=>by rw [i1 t,show k+1+os.length=k+(os.length+1) by omega],fun i oi hi hi2 hoi=>?_⟩;rcases Nat.lt_or_eq_of_le hi with h1 | h1
   ·exact i2 i oi h1 (by omega) hoi
   ·subst h1;rw [ho] at hoi;cases hoi;refine⟨e,fun t=>?_,.inr (.inr ⟨j,c,f,args,?_,hg,hq,hen,hf⟩)⟩
    ·rw [he t];cases hw:wr ops t with
     | none=>rfl
     | some j =>
       simp only
       by_cases hlt:j<k
       ·rw [if_pos hlt,if_pos hlt,List.getElem?_append_left (by omega)]
       ·rw [if_neg hlt,if_neg hlt]
    ·rw [List.getElem?_append_right (by omega),hpre,Nat.sub_self];rfl
 | @skip j m o os e e' l hg _ ih =>
   intro k e0 pre rest hk hpre hst he;obtain⟨ho,hk'⟩:=drop_succ (os:=os++rest) (by simpa using hk);obtain⟨i1,i2⟩:=ih (k+1) e0 (pre++[Act1.skip]) rest hk' (by simp [hpre]) hst (step (a:=.skip) (c:=.tup []) ho hpre hst rfl he);simp only [List.append_assoc,List.cons_append,List.nil_append] at i1 i2;rw [List.length_cons];refine⟨fun t=>by rw [i1 t,show k+1+os.length=k+(os.length+1) by omega],fun i oi hi hi2 hoi=>?_⟩;rcases Nat.lt_or_eq_of_le hi with h1 | h1
   ·exact i2 i oi h1 (by omega) hoi
   ·subst h1;rw [ho] at hoi;cases hoi;refine⟨e,fun t=>?_,.inr (.inl ⟨?_,hg⟩)⟩
    ·rw [he t];cases hw:wr ops t with
     | none=>rfl
     | some j =>
       simp only
       by_cases hlt:j<k
       ·rw [if_pos hlt,if_pos hlt,List.getElem?_append_left (by omega)]
       ·rw [if_neg hlt,if_neg hlt]
    ·rw [List.getElem?_append_right (by omega),hpre,Nat.sub_self];rfl
/-- All that stands behind place k waits for it. -/
def deadB (ops:Array Oper)(k:Nat):Bool:=(List.range ops.size).all fun i=>Nat.ble i k || anc (ancs ops) i k
end
/-- The operations of a drawn region that are left; a call may panic. -/
def AQp (P:Program)(G:Nat→CV)(H:Heap)(ops:Array Oper)(os:List Oper)(e:Env)(K:Env→Prop)(Kp:CV→Prop):Prop :=
 ∀ j,(∃ l e' m,QRun P G H ops j os e l e' m∧K e')∨∃ os1 o os2 l e' m f args v,os=os1++o::os2∧QRun P G H ops j os1 e l e' m∧gd ops e' o=some true∧callA (rd G e') o.op=some (f,args)∧enters P f=true∧(∀ nx,ACall P G f args H nx fun r H' nx'=>r=.pan v∧H'=H∧nx'=nx)∧deadB ops (ops.size-1-os2.length)=true∧Kp v
section
variable {P:Program} {G:Nat→CV} {n:Nat} {e:Env} {H:Heap} {nx:Nat} {Q:AExit→Env→Heap→Nat→Prop} {ops:Array Oper} {os:List Oper} {K:Env→Prop} {Kp:CV→Prop}
theorem AQp.nil (h:K e):AQp P G H ops [] e K Kp:=fun j=>.inl ⟨[],e,j,.nil j e,h⟩
variable {d:Option Nat} {op:Op} {ty:TypeId} {pos:String} {af:Array Edge} {g:Option (Nat×Bool)}
theorem AQp.stepG (hg:gd ops e ⟨d,op,ty,pos,af,g⟩=some true){c:CV}(hq:qstep P H (rd G e) op=some c)(h:AQp P G H ops os (putE e d c) K Kp):AQp P G H ops (⟨d,op,ty,pos,af,g⟩::os) e K Kp:=fun j=>by
 rcases h j with⟨l,e',m,h1,h2⟩ | ⟨os1,o,os2,l,e',m,f,args,v,h0,h1,h2⟩
 ·exact .inl ⟨_,e',m,.look (o:=⟨d,op,ty,pos,af,g⟩) c hg hq h1,h2⟩
 ·exact .inr ⟨⟨d,op,ty,pos,af,g⟩::os1,o,os2,_,e',m,f,args,v,by rw [h0];rfl,.look (o:=⟨d,op,ty,pos,af,g⟩) c hg hq h1,h2⟩
theorem AQp.step {c:CV}(hq:qstep P H (rd G e) op=some c)(h:AQp P G H ops os (putE e d c) K Kp):AQp P G H ops (⟨d,op,ty,pos,af,none⟩::os) e K Kp:=AQp.stepG rfl hq h
theorem AQp.pass (hg:gd ops e ⟨d,op,ty,pos,af,g⟩=some false)(h:AQp P G H ops os (putE e d (.tup [])) K Kp):AQp P G H ops (⟨d,op,ty,pos,af,g⟩::os) e K Kp:=fun j=>by
 rcases h j with⟨l,e',m,h1,h2⟩ | ⟨os1,o,os2,l,e',m,f,args,v,h0,h1,h2⟩
 ·exact .inl ⟨_,e',m,.skip (o:=⟨d,op,ty,pos,af,g⟩) hg h1,h2⟩
 ·exact .inr ⟨⟨d,op,ty,pos,af,g⟩::os1,o,os2,_,e',m,f,args,v,by rw [h0];rfl,.skip (o:=⟨d,op,ty,pos,af,g⟩) hg h1,h2⟩
theorem AQp.callG (hg:gd ops e ⟨d,op,ty,pos,af,g⟩=some true){f:FuncId}{args:List CV}(hq:callA (rd G e) op=some (f,args))(he:enters P f=true){v:CV}(hf:∀ nx,ACall P G f args H nx fun r H' nx'=>r=.ret v∧H'=H∧nx'=nx)
  (h:AQp P G H ops os (putE e d v) K Kp):AQp P G H ops (⟨d,op,ty,pos,af,g⟩::os) e K Kp:=fun j=>by
 rcases h (j+1) with⟨l,e',m,h1,h2⟩ | ⟨os1,o,os2,l,e',m,f',args',v',h0,h1,h2⟩
 ·exact .inl ⟨_,e',m,.call (o:=⟨d,op,ty,pos,af,g⟩) v hg hq he hf h1,h2⟩
 ·exact .inr ⟨⟨d,op,ty,pos,af,g⟩::os1,o,os2,_,e',m,f',args',v',by rw [h0];rfl,.call (o:=⟨d,op,ty,pos,af,g⟩) v hg hq he hf h1,h2⟩
/-- A call that panics: the end. -/
theorem AQp.pan (hg:gd ops e ⟨d,op,ty,pos,af,g⟩=some true){f:FuncId}{args:List CV}(hq:callA (rd G e) op=some (f,args))(he:enters P f=true){v:CV}(hf:∀ nx,ACall P G f args H nx fun r H' nx'=>r=.pan v∧H'=H∧nx'=nx)
  (hd:deadB ops (ops.size-1-os.length)=true) (h:Kp v):AQp P G H ops (⟨d,op,ty,pos,af,g⟩::os) e K Kp:=fun j =>
 .inr ⟨[],⟨d,op,ty,pos,af,g⟩,os,[],e,j,f,args,v,rfl,.nil j e,hg,hq,he,hf,hd,h⟩
end
end Ax
end
section
namespace Ax
/-- A value that speaks of a frozen map. -/
inductive FM (b:Nat) (ks vs:List CV):CV→CV→Prop
 | same (c:CV):FM b ks vs c c
 | any (c:CV):FM b ks vs c .any
 | mp:FM b ks vs (.mp b) (.fmp ks vs)
 | agg (l l':List CV) (hl:l'.length=l.length) (h:∀ j (a:j<l.length) (b':j<l'.length),FM b ks vs l[j] l'[j]):FM b ks vs (.agg l) (.agg l')
 | tup (l l':List CV) (hl:l'.length=l.length) (h:∀ j (a:j<l.length) (b':j<l'.length),FM b ks vs l[j] l'[j]):FM b ks vs (.tup l) (.tup l')
theorem FM.aggs {b:Nat}{ks vs l l':List CV}(hl:l'.length=l.length)(h:∀ j (a:j<l.length) (b':j<l'.length),FM b ks vs l[j] l'[j]):FM b ks vs (.agg l) (.agg l'):=.agg l l' hl h
theorem RV.frzM {M M':Mp}{b g m:Nat}{ks vs:List CV}{en:Array MapEntry}{clock:Nat}(he:Ext M M')(hb:M.bk b=some (g,m))(hz:M'.fz g=some (.map en clock))(hk:RVs M ks (en.toList.map (·.key)))(hv:RVs M vs (en.toList.map (·.val))){c c':CV}(hf:FM b ks vs c c'):∀ {v:Value},RV M c v→RV M' c' v:=by
 induction hf with
 | same c=>intro v h;exact h.ext he
 | any c=>intro v h;exact .any v
 | mp =>
   intro v h;cases h with
   | mp _ g' m' h' =>
     rw [hb] at h';cases h';refine .fmp ks vs g en clock hz ?_ ?_ ?_ ?_
     ·have:=hk.1;simpa using this.symm
     ·have:=hv.1;simpa using this.symm
     ·intro j a d;have:=(hk.2 j a (by simpa using d)).ext he;simpa using this
     ·intro j a d;have:=(hv.2 j a (by simpa using d)).ext he;simpa using this
 | agg l l' hl' _ ih =>
   intro v h;cases h with
   | agg _ vs h1 h2=>exact .agg _ vs (by omega) (fun j a d=>ih j (by omega) a (h2 j (by omega) d))
 | tup l l' hl' _ ih =>
   intro v h;cases h with
   | tup _ vs h1 h2=>exact .tup _ vs (by omega) (fun j a d=>ih j (by omega) a (h2 j (by omega) d))
/-- The state with a map frozen. -/
theorem Rep.freezeM {M:Mp}{H:Heap}{nx:Nat}{w:World}(r:Rep M H nx w){b:Nat}{ks vs:List CV}(hb:H b=some (.map ks vs)) :
  ∃ M',Ext M M'∧Rep M' (drp H b) nx w∧Fr H M nx w (drp H b) M' nx w∧∀ {c c':CV} {v:Value},FM b ks vs c c'→RV M c v→RV M' c' v:=by
 obtain⟨g,m,hm,en,clock,hw,hk,hv⟩:=r.blk b _ hb;obtain⟨r',f'⟩:=r.frz b g m (.map ks vs) (.map en clock) hb hm hw;refine⟨_,f'.ext,r',f',?_⟩;intro c c' v hf hr;exact RV.frzM (en:=en) (clock:=clock) f'.ext hm (by simp) hk hv hf hr
section
variable {P:Program} {G:Nat→CV} {n:Nat} {e e':Env} {H:Heap} {nx:Nat} {Q:AExit→Env→Heap→Nat→Prop} {ops:Array Oper} {os:List Oper} {b:Nat} {ks vs:List CV}
theorem EnvR.frzM {M M':Mp}{a:Act}(v:EnvR M n e a)(he:∀ t,FM b ks vs (e t) (e' t))(h:∀ {c c':CV} {u:Value},FM b ks vs c c'→RV M c u→RV M' c' u):EnvR M' n e' a:=⟨v.1,v.2.1,fun t=>h (he t) (v.2.2 t)⟩
theorem AWp.frzM {c:Code}(hb:H b=some (.map ks vs))(he:∀ t,FM b ks vs (e t) (e' t))(h:AWp P G n c e' (drp H b) nx Q):AWp P G n c e H nx Q:=fun M a w g r v=>by
 obtain⟨M',hx,r',f',hv⟩:=r.freezeM hb;exact wp_mono (h M' a w (g.ext hx) r' (v.frzM he hv)) fun _ _ _ hp=>hp.trans f'
theorem AOps.frzM {l:List Nat}(hb:H b=some (.map ks vs))(he:∀ t,FM b ks vs (e t) (e' t))(h:AOps P G n ops l e' (drp H b) nx Q):AOps P G n ops l e H nx Q:=fun M a w g r v=>by
 obtain⟨M',hx,r',f',hv⟩:=r.freezeM hb;exact wpOps_mono (fun _ _ _ hp=>hp.trans f') l (h M' a w (g.ext hx) r' (v.frzM he hv))
theorem AOpl.frzM (hb:H b=some (.map ks vs))(he:∀ t,FM b ks vs (e t) (e' t))(h:AOpl P G n ops os e' (drp H b) nx Q):AOpl P G n ops os e H nx Q:=fun k hk=>AOps.frzM hb he (h k hk)
end
/-! results -/
inductive FMr (b:Nat) (ks vs:List CV):Res→Res→Prop
 | ret {c c':CV} (h:FM b ks vs c c'):FMr b ks vs (.ret c) (.ret c')
 | pan {c c':CV} (h:FM b ks vs c c'):FMr b ks vs (.pan c) (.pan c')
theorem EndR.frzM {M M':Mp}{b:Nat}{ks vs:List CV}(h:∀ {c c':CV} {v:Value},FM b ks vs c c'→RV M c v→RV M' c' v){r r':Res}(hf:FMr b ks vs r r'){e:Ending}(he:EndR M r e):EndR M' r' e:=by
 cases hf with
 | ret hf=>cases e <;> simp only [EndR] at he ⊢;exact h hf he
 | pan hf=>cases e <;> simp only [EndR] at he ⊢;obtain⟨z,h1,h2⟩:=he;exact⟨z,h1,h hf h2⟩
/-- A function that gives back a value with an own map. -/
theorem FCall.ofBodyM {P:Program}{G:Nat→CV}{f:FuncId}{fn:Func}{c:Code}{args:List CV}{Q:Res→Prop}{n:Nat}(hf:P.funcs[f]?=some fn)(hb:fn.body=some c)(hn:max args.length fn.ntmps=n)
  (h:∀ nx,AWp P G n c (argE args) Heap.no nx (BodyQ P fn fun r H' _=>∃ b ks vs r',H' b=some (.map ks vs)∧FMr b ks vs r r'∧Q r')):FCall P G f args Q:=by
 refine FCall.of fun nx=>?_
 intro M w vs g r v;refine (ACall.of_body hf hb (hn▸h nx) M w vs g r v).mono ?_;rintro e w' ⟨M1,x,H1,n1,a1,a2,a3,b,ks,ws,r',hb',hr,hq⟩;obtain⟨M2,hx,r2,f2,hv⟩:=a2.freezeM hb';exact⟨M2,r',_,n1,EndR.frzM hv hr a1,r2,a3.trans f2,hq⟩
/-! looking up keys that are strings -/
theorem findK_str {d:TypeDesc}(hd:d=.string)(s:List UInt8):∀ (l:List (List UInt8)) (j:Nat),findK d (.str s) (l.map .str) j=some ((l.findIdx? (· == s)).map (·+j))
 | [],j=>rfl
 | a::l,j=>by
   subst hd;have ih:=findK_str rfl s l (j+1);simp only [List.map_cons,findK,scalD,List.findIdx?_cons]
   by_cases h:a=s
   ·subst h;simp
   ·have h1:(s == a)=false:=by simpa using fun e=>h e.symm
    have h2:(a == s)=false:=by simpa using h
    simp only [h1,h2,ih];cases l.findIdx? (· == s) <;> simp;omega
theorem findK_int {k:IntKind}{d:TypeDesc}(hd:∃ k',d=.int k')(s:Int):∀ (l:List Int) (j:Nat),findK d (.int k s) (l.map (.int k)) j=some ((l.findIdx? (· == s)).map (·+j))
 | [],j=>rfl
 | a::l,j=>by
   obtain⟨k',rfl⟩:=hd;have ih:=findK_int (k:=k) (d:=.int k') ⟨k',rfl⟩ s l (j+1);simp only [List.map_cons,findK,scalD,List.findIdx?_cons]
   by_cases h:a=s
   ·subst h;cases hk:decEq k k with
    | isTrue _=>simp
    | isFalse h=>exact absurd rfl h
   ·have h1:(s == a)=false:=by simpa using fun e=>h e.symm
    have h2:(a == s)=false:=by simpa using h
    cases hk:decEq k k with
    | isTrue _ => 
      simp only [h1,h2,ih];cases l.findIdx? (· == s) <;> simp;omega
    | isFalse h=>exact absurd rfl h
end Ax
end
section
namespace Ax
section
variable {P:Program} {H:Heap} {t kt et:TypeId} {ik ie:TI} {x:CV} {vs:List CV}
theorem lookA_str {a b c}(ht:ti P t=some ⟨.map kt et,a,b,c⟩)(hk:ti P kt=some ik)(hs:ik.und=.string)(he:ti P et=some ie){ks:List (List UInt8)}(hm:mapOf H x=some (ks.map .str,vs))(s:List UInt8)(ok:Bool) :
  lookA P H t x (.str s) ok=match ks.findIdx? (· == s) with
   | some q=>(vs[q]?).map fun v=>if ok then .tup [v,.bool true] else v
   | none=>some (if ok then .tup [ofV ie.zero,.bool false] else ofV ie.zero):=by
 have hd:keyD ik.und (.str s)=true:=by rw [hs];rfl
 unfold lookA;simp only [ht,hk,he,hm,hd,findK_str hs];cases ks.findIdx? (· == s) with
 | none=>rfl
 | some q =>
   simp only [Option.map_some,Nat.add_zero];cases vs[q]? <;> rfl
theorem lookA_int {a b c}{k k':IntKind}(ht:ti P t=some ⟨.map kt et,a,b,c⟩)(hk:ti P kt=some ik)(hs:ik.und=.int k')(he:ti P et=some ie){ks:List Int}(hm:mapOf H x=some (ks.map (.int k),vs))(s:Int)(ok:Bool) :
  lookA P H t x (.int k s) ok=match ks.findIdx? (· == s) with
   | some q=>(vs[q]?).map fun v=>if ok then .tup [v,.bool true] else v
   | none=>some (if ok then .tup [ofV ie.zero,.bool false] else ofV ie.zero):=by
 have hd:keyD ik.und (.int k s)=true:=by rw [hs];rfl
 unfold lookA;simp only [ht,hk,he,hm,hd,findK_int (k:=k) ⟨k',hs⟩];cases ks.findIdx? (· == s) with
 | none=>rfl
 | some q =>
   simp only [Option.map_some,Nat.add_zero];cases vs[q]? <;> rfl
theorem mupA_str {a b c}{m:Nat}{v:CV}(ht:ti P t=some ⟨.map kt et,a,b,c⟩)(hk:ti P kt=some ik)(hs:ik.und=.string){ks:List (List UInt8)}(hm:H m=some (.map (ks.map .str) vs))(s:List UInt8)(hn:ks.findIdx? (· == s)=none) :
  mupA P H t (.mp m) (.str s) v=some (.any,.set m (.map ((ks++[s]).map .str) (vs++[v]))):=by
 have hd:keyD ik.und (.str s)=true:=by rw [hs];rfl
 unfold mupA;simp only [ht,hk,hm,hd,findK_str hs,hn,Option.map_none,List.map_append,List.map_cons,List.map_nil]
theorem mupA_int {a b c}{k k':IntKind}{m:Nat}{v:CV}(ht:ti P t=some ⟨.map kt et,a,b,c⟩)(hk:ti P kt=some ik)(hs:ik.und=.int k'){ks:List Int}(hm:H m=some (.map (ks.map (.int k)) vs))(s:Int)(hn:ks.findIdx? (· == s)=none) :
  mupA P H t (.mp m) (.int k s) v=some (.any,.set m (.map ((ks++[s]).map (.int k)) (vs++[v]))):=by
 have hd:keyD ik.und (.int k s)=true:=by rw [hs];rfl
 unfold mupA;simp only [ht,hk,hm,hd,findK_int (k:=k) ⟨k',hs⟩,hn,Option.map_none,List.map_append,List.map_cons,List.map_nil]
/-- Whether a number is in a set, which is a map of truth values. -/
theorem lookA_set {a b c}{k k':IntKind}(ht:ti P t=some ⟨.map kt et,a,b,c⟩)(hk:ti P kt=some ik)(hs:ik.und=.int k')(he:ti P et=some ie)(hz:ofV ie.zero=.bool false){l:List Int}(hm:mapOf H x=some (l.map (.int k),l.map fun _=>.bool true))(s:Int) :
  lookA P H t x (.int k s) false=some (.bool (l.contains s)):=by
 rw [lookA_int ht hk hs he hm s false];cases h:l.findIdx? (· == s) with
 | none =>
   have:l.contains s=false:=by
    rw [List.findIdx?_eq_none_iff] at h;cases hc:l.contains s with
    | false=>rfl
    | true =>
      rw [List.contains_iff_mem] at hc;have:=h s hc;simp at this
   simp only [Bool.false_eq_true,if_false,hz,this]
 | some q =>
   obtain⟨h1,h2,_⟩:=List.findIdx?_eq_some_iff_getElem.mp h;have hm:l.contains s=true:=by
    rw [List.contains_iff_mem];have:l[q]=s:=by simpa using h2
    rw [← this];exact List.getElem_mem h1
   simp [List.getElem?_map,List.getElem?_eq_getElem h1,hm];rw [List.contains_iff_mem] at hm;exact hm
end
end Ax
end
end Go.Proofs.YtoookjadbhdfhaaGreatDoor
