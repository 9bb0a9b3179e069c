/-
  Plain Lean: the plain law of LowerCatches.
-/
import Derived.Test.YtoookjadbhdfhaaGreatDoorUJpBd
set_option linter.unusedSectionVars false
set_option linter.unusedSimpArgs false
set_option linter.unnecessarySimpa false
set_option linter.unusedVariables false
set_option linter.unusedSimpArgs false
set_option linter.unusedVariables false
namespace Go.Proofs.YtoookjadbhdfhaaGreatDoor
section
open Lx
namespace Lx
theorem lookW_mem {h:List Cd}{m:Bytes}:∀ {l:List Nat} {i k:Nat},lookW h m l=some (i,k)→∃ c,h[i]?=some c∧methN c m=some k
 | [],_,_,e=>by simp [lookW] at e
 | j::l,i,k,e=>by
   rw [lookW] at e;cases hj:h[j]? with
   | none=>rw [hj] at e;cases e
   | some c =>
     rw [hj] at e;simp only at e;cases hm:methN c m with
     | none=>rw [hm] at e;exact lookW_mem e
     | some q =>
       rw [hm] at e;simp only [Option.some.injEq,Prod.mk.injEq] at e;obtain⟨rfl,rfl⟩:=e;exact⟨c,hj,hm⟩
theorem look_mem {h:List Cd}{s m i:Bytes}{g:Sg}(e:lookF h s m=some (i,g)):∃ c∈h,c.name=i∧g∈c.methods∧g.name=m:=by
 unfold lookF at e;cases hl:lookN h (findI h s) m with
 | none=>rw [hl] at e;cases e
 | some p =>
   obtain⟨j,k⟩:=p;rw [hl] at e;obtain⟨c,hc,hm⟩:=lookW_mem hl;simp only [hc] at e;cases hg:c.methods[k]? with
   | none=>rw [hg] at e;cases e
   | some x =>
     rw [hg] at e;simp only [Option.some.injEq,Prod.mk.injEq] at e;obtain⟨rfl,rfl⟩:=e;obtain⟨h1,h2,_⟩:=List.findIdx?_eq_some_iff_getElem.mp hm;refine⟨c,List.mem_of_getElem? hc,rfl,List.mem_of_getElem? hg,?_⟩;rw [List.getElem?_eq_getElem h1] at hg;cases hg;simpa using h2
def C9 (h:List Cd)(c:Bytes):Prop:=0≤findI h c
def C10 (h:List Cd)(c m:Bytes):Prop:=∃ d∈h,d.name=c∧∃ g∈d.methods,g.name=m
theorem cls_find {h:List Cd}{c:Bytes}(hc:clsB h c=true):0≤findI h c:=by
 unfold clsB at hc;simp only [Bool.and_eq_true,decide_eq_true_eq] at hc;exact hc.2
section
variable {h:List Cd} {cls:Bytes} {sc:List Fld}
theorem tys_all:∀ {l:List Ex},isOk (tysT h cls sc l)=true→∀ e∈l,isOk (exT9 h cls sc e)=true
 | [],_,e,he=>by cases he
 | a::l,hk,e,he=>by
   rw [tysT] at hk;cases ha:exT9 h cls sc a with
   | error x=>rw [ha] at hk;cases hk
   | ok t =>
     rw [ha] at hk;simp only at hk;cases hl:tysT h cls sc l with
     | error x=>rw [hl] at hk;cases hk
     | ok ts =>
       rcases List.mem_cons.1 he with e1 | e1
       ·rw [e1,ha];rfl
       ·exact tys_all (by rw [hl];rfl) e e1
theorem arg_all:∀ {l:List Ex} {ps:List Bytes},l.length=ps.length→isOk (argT h cls sc ps l)=true→∀ e∈l,isOk (exT9 h cls sc e)=true
 | [],_,_,_,e,he=>by cases he
 | a::l,[],hl,_,e,he=>by simp at hl
 | a::l,p::ps,hl,hk,e,he=>by
   rw [argT] at hk;cases ha:asgT h (exT9 h cls sc a) p with
   | error x=>rw [ha] at hk;cases hk
   | ok u =>
     rw [ha] at hk;simp only at hk;rcases List.mem_cons.1 he with e1 | e1
     ·rw [e1];exact asg_ok (by rw [ha];rfl)
     ·exact arg_all (by simpa using hl) hk e e1
/-- What a well-typed expression says of its kids. -/
structure KT (h:List Cd) (cls:Bytes) (sc:List Fld) (k:Int) (o m:Bytes) (ks:List Ex) (t:Bytes):Prop where
 all:∀ e∈ks,isOk (exT9 h cls sc e)=true
 len:kidsT k ks.length=true
 rng:1≤k∧k≤10
 k1:k=1∨k=5∨k=6→t=intB
 k2:k=2→t=nullB
 k3:k=3→varF sc m=some t
 k4:k=4→cls≠[]∧t=cls
 k7:k=7→t=m
 k8:k=8→∃ e c i,ks[0]?=some e∧exT9 h cls sc e=.ok c∧fieldF h c m=some (i,t)
 k9:k=9→∃ e c i g,ks[0]?=some e∧exT9 h cls sc e=.ok c∧clsB h c=true∧lookF h c m=some (i,g)∧g.result=t
 k10:k=10→∃ i g,lookF h o m=some (i,g)∧g.result=t
theorem sig_look {c m:Bytes}{st:Bool}{n:Nat}{g:Sg}(hs:sigT h c m st n=.ok g):∃ i,lookF h c m=some (i,g):=by
 unfold sigT at hs;cases hl:lookF h c m with
 | none=>rw [hl] at hs;cases hs
 | some p =>
   obtain⟨i,g'⟩:=p;rw [hl] at hs;simp only at hs;split at hs
   ·split at hs
    ·cases hs;exact⟨i,rfl⟩
    ·cases hs
   ·cases hs
theorem kt_of {k n:Int}{o m:Bytes}{ks:List Ex}{t:Bytes}(hk:exT9 h cls sc (.mk k n o m ks)=.ok t):KT h cls sc k o m ks t:=by
 rw [exT9] at hk
 by_cases h1:k<1∨10<k
 ·rw [if_pos h1] at hk;cases hk
 rw [if_neg h1] at hk
 by_cases h2:k=6∧(n<1∨5<n)
 ·rw [if_pos h2] at hk;cases hk
 rw [if_neg h2] at hk
 by_cases h3:kidsT k ks.length=false
 ·rw [if_pos h3] at hk;cases hk
 rw [if_neg h3] at hk;have hkt:kidsT k ks.length=true:=by simpa using h3
 have hr:1≤k∧k≤10:=by omega
 have none_:¬ (k=6∨k=8∨k=9∨k=10)→∀ e∈ks,isOk (exT9 h cls sc e)=true:=fun hn=>by
  have:=hkt;unfold kidsT at this;rw [if_neg (by omega),if_neg (by omega),if_neg (by omega),if_neg (by omega)] at this;have:ks=[]:=by simpa using this
  subst this;intro e he;cases he
 by_cases c1:k=1∨k=5
 ·rw [if_pos c1] at hk;cases hk;exact⟨none_ (by omega),hkt,hr,fun _=>rfl,fun _=>by omega,fun _=>by omega,fun _=>by omega,fun _=>by omega,fun _=>by omega,fun _=>by omega,fun _=>by omega⟩
 rw [if_neg c1] at hk
 by_cases c2:k=2
 ·rw [if_pos c2] at hk;cases hk;exact⟨none_ (by omega),hkt,hr,fun _=>by omega,fun _=>rfl,fun _=>by omega,fun _=>by omega,fun _=>by omega,fun _=>by omega,fun _=>by omega,fun _=>by omega⟩
 rw [if_neg c2] at hk
 by_cases c3:k=3
 ·rw [if_pos c3] at hk;cases hv:varF sc m with
  | none=>rw [hv] at hk;cases hk
  | some t' =>
    rw [hv] at hk;cases hk;exact⟨none_ (by omega),hkt,hr,fun _=>by omega,fun _=>by omega,fun _=>hv,fun _=>by omega,fun _=>by omega,fun _=>by omega,fun _=>by omega,fun _=>by omega⟩
 rw [if_neg c3] at hk
 by_cases c4:k=4
 ·rw [if_pos c4] at hk
  by_cases hc:cls=[]
  ·rw [if_pos hc] at hk;cases hk
  ·rw [if_neg hc] at hk;cases hk;exact⟨none_ (by omega),hkt,hr,fun _=>by omega,fun _=>by omega,fun _=>by omega,fun _=>⟨hc,rfl⟩,fun _=>by omega,fun _=>by omega,fun _=>by omega,fun _=>by omega⟩
 rw [if_neg c4] at hk
 by_cases c7:k=7
 ·rw [if_pos c7] at hk;unfold needC at hk;split at hk
  ·cases hk;exact⟨none_ (by omega),hkt,hr,fun _=>by omega,fun _=>by omega,fun _=>by omega,fun _=>by omega,fun _=>rfl,fun _=>by omega,fun _=>by omega,fun _=>by omega⟩
  ·cases hk
 rw [if_neg c7] at hk
 by_cases c6:k=6
 ·rw [if_pos c6] at hk;cases ht:tysT h cls sc ks with
  | error e=>rw [ht] at hk;simp [binOf] at hk
  | ok ts =>
    rw [ht] at hk;have hti:t=intB:=by
     unfold binOf at hk;split at hk
     ·cases hk
     ·split at hk
      ·cases hk;rfl
      ·cases hk
     ·cases hk
    exact⟨tys_all (by rw [ht];rfl),hkt,hr,fun _=>hti,fun _=>by omega,fun _=>by omega,fun _=>by omega,fun _=>by omega,fun _=>by omega,fun _=>by omega,fun _=>by omega⟩
 rw [if_neg c6] at hk
 by_cases c8:k=8
 ·rw [if_pos c8] at hk;cases ht:tysT h cls sc ks with
  | error e=>rw [ht] at hk;simp [fldOf] at hk
  | ok ts =>
    rw [ht] at hk;have hl:ks.length=1:=by
     unfold kidsT at hkt;rw [if_neg c6,if_pos c8] at hkt;simpa using hkt
    refine⟨tys_all (by rw [ht];rfl),hkt,hr,fun _=>by omega,fun _=>by omega,fun _=>by omega,fun _=>by omega,fun _=>by omega,fun _=>?_,fun _=>by omega,fun _=>by omega⟩
    match ks,hl with
    | [e],_ =>
      rw [tysT] at ht;cases he:exT9 h cls sc e with
      | error x=>rw [he] at ht;cases ht
      | ok c =>
        rw [he] at ht;simp only [tysT,Except.ok.injEq] at ht;subst ht;simp only [fldOf,fldT] at hk;split at hk
        ·cases hk
        ·cases hf:fieldF h c m with
         | none=>rw [hf] at hk;cases hk
         | some p =>
           obtain⟨i,t'⟩:=p;rw [hf] at hk;cases hk;exact⟨e,c,i,rfl,he,hf⟩
 rw [if_neg c8] at hk
 by_cases c9:k=9
 ·rw [if_pos c9] at hk
  match ks,hk with
  | e::l,hk =>
    rw [calT] at hk;cases he:exT9 h cls sc e with
    | error x=>rw [he] at hk;cases hk
    | ok c =>
      rw [he] at hk;simp only at hk
      by_cases hc:clsB h c=false
      ·rw [if_pos hc] at hk;cases hk
      rw [if_neg hc] at hk;cases hs:sigT h c m false l.length with
      | error x=>rw [hs] at hk;cases hk
      | ok g =>
        rw [hs] at hk;simp only at hk;cases ha:argT h cls sc g.params l with
        | error x=>rw [ha] at hk;cases hk
        | ok u =>
          rw [ha] at hk;cases hk;obtain⟨i,hi⟩:=sig_look hs;refine⟨fun x hx=>?_,hkt,hr,fun _=>by omega,fun _=>by omega,fun _=>by omega,fun _=>by omega,fun _=>by omega,fun _=>by omega,fun _=>⟨e,c,i,g,rfl,he,by simpa using hc,hi,rfl⟩,fun _=>by omega⟩;rcases List.mem_cons.1 hx with e1 | e1
          ·rw [e1,he];rfl
          ·exact arg_all (sig_len hs) (by rw [ha];rfl) x e1
 rw [if_neg c9] at hk;cases hc:needC h o 6 with
 | error e=>rw [hc] at hk;cases hk
 | ok x =>
   rw [hc] at hk;simp only at hk;cases hs:sigT h o m true ks.length with
   | error e=>rw [hs] at hk;cases hk
   | ok g =>
     rw [hs] at hk;simp only at hk;cases ha:argT h cls sc g.params ks with
     | error e=>rw [ha] at hk;cases hk
     | ok u =>
       rw [ha] at hk;cases hk;obtain⟨i,hi⟩:=sig_look hs;exact⟨arg_all (sig_len hs) (by rw [ha];rfl),hkt,hr,fun _=>by omega,fun _=>by omega,fun _=>by omega,fun _=>by omega,fun _=>by omega,fun _=>by omega,fun _=>by omega,fun _=>⟨i,g,hi,rfl⟩⟩
end
end Lx
end
section
open Lx
namespace Lx
section
variable {h:List Cd} {cls:Bytes} {T sc:List Fld} {O J:List Nat}
theorem VX.tmp (b:Bl)(t:Bytes):VX b (tempB b t):=⟨⟨rfl,rfl,rfl,rfl⟩,_,rfl⟩
theorem VX.emit (b:Bl)(i:In):VX b (emitB b i):=⟨⟨rfl,rfl,rfl,rfl⟩,[],by simp [emitB]⟩
theorem VX.fin (b:Bl)(p:In×Bytes):VX b (finB b p).1:=(VX.tmp b p.2).trans (VX.emit _ _)
theorem typ_at {b:Bl}{s:Nat}{t:Bytes}(hs:(b.vars[s]?).map (·.typ)=some t):typeAt b (s:Int)=t:=by
 unfold typeAt;rw [Int.toNat_natCast];cases hv:b.vars[s]? with
 | none=>rw [hv] at hs;cases hs
 | some f=>rw [hv] at hs;simpa using hs
theorem VX.typ {b b':Bl}(g:VX b b'){s:Nat}{t:Bytes}(hs:(b.vars[s]?).map (·.typ)=some t):(b'.vars[s]?).map (·.typ)=some t:=by
 cases hv:b.vars[s]? with
 | none=>rw [hv] at hs;cases hs
 | some f=>rw [g.get hv];rw [hv] at hs;exact hs
/-- What is said of an expression's instruction. -/
theorem ins_C {k n:Int}{o m:Bytes}{ks:List Ex}{t:Bytes}(kt:KT h cls sc k o m ks t)(h34:¬ (k=3∨k=4)){b:Bl}{r:List Int}(hr:∀ e c,ks[0]?=some e→exT9 h cls sc e=.ok c→typeAt b (r[0]?.getD 0)=c) :
  (insB h b k n o m ks r).2=t∧(insB h b k n o m ks r).1.op≠15∧((insB h b k n o m ks r).1.op=9→C9 h (insB h b k n o m ks r).1.cls)∧((insB h b k n o m ks r).1.op=10→C10 h (insB h b k n o m ks r).1.cls (insB h b k n o m ks r).1.name):=by
 unfold insB
 by_cases c1:k=1
 ·rw [if_pos c1];exact⟨(kt.k1 (.inl c1)).symm,by simp,by simp,by simp⟩
 rw [if_neg c1]
 by_cases c2:k=2
 ·rw [if_pos c2];exact⟨(kt.k2 c2).symm,by simp,by simp,by simp⟩
 rw [if_neg c2]
 by_cases c5:k=5
 ·rw [if_pos c5];exact⟨(kt.k1 (.inr (.inl c5))).symm,by simp,by simp,by simp⟩
 rw [if_neg c5]
 by_cases c6:k=6
 ·rw [if_pos c6];have:=kt.k1 (.inr (.inr c6));split
  ·exact⟨this.symm,by simp,by simp,by simp⟩
  ·exact⟨this.symm,by simp,by simp,by simp⟩
 rw [if_neg c6]
 by_cases c7:k=7
 ·rw [if_pos c7];exact⟨(kt.k7 c7).symm,by simp,by simp,by simp⟩
 rw [if_neg c7]
 by_cases c8:k=8
 ·rw [if_pos c8];obtain⟨e,c,i,h1,h2,h3⟩:=kt.k8 c8;rw [hr e c h1 h2,h3];exact⟨rfl,by simp,by simp,by simp⟩
 rw [if_neg c8]
 by_cases c9:k=9
 ·rw [if_pos c9];obtain⟨e,c,i,g,h1,h2,h3,h4,h5⟩:=kt.k9 c9;rw [hr e c h1 h2];unfold sigOf;rw [h4];exact⟨h5,by simp,fun _=>cls_find h3,by simp⟩
 rw [if_neg c9];have c10:k=10:=by have:=kt.rng;omega
 obtain⟨i,g,h1,h2⟩:=kt.k10 c10;unfold sigOf;rw [h1];obtain⟨d,hd,e1,e2,e3⟩:=look_mem h1;exact⟨h2,by simp,by simp,fun _=>⟨d,hd,e1,g,e2,e3⟩⟩
theorem ins_C' {k n:Int}{o m:Bytes}{ks:List Ex}{t:Bytes}(kt:KT h cls sc k o m ks t)(h34:¬ (k=3∨k=4))(h89:¬ (k=8∨k=9)){b:Bl}{r:List Int} :
  (insB h b k n o m ks r).2=t∧(insB h b k n o m ks r).1.op≠15∧((insB h b k n o m ks r).1.op=9→C9 h (insB h b k n o m ks r).1.cls)∧((insB h b k n o m ks r).1.op=10→C10 h (insB h b k n o m ks r).1.cls (insB h b k n o m ks r).1.name):=by
 unfold insB
 by_cases c1:k=1
 ·rw [if_pos c1];exact⟨(kt.k1 (.inl c1)).symm,by simp,by simp,by simp⟩
 rw [if_neg c1]
 by_cases c2:k=2
 ·rw [if_pos c2];exact⟨(kt.k2 c2).symm,by simp,by simp,by simp⟩
 rw [if_neg c2]
 by_cases c5:k=5
 ·rw [if_pos c5];exact⟨(kt.k1 (.inr (.inl c5))).symm,by simp,by simp,by simp⟩
 rw [if_neg c5]
 by_cases c6:k=6
 ·rw [if_pos c6];have:=kt.k1 (.inr (.inr c6));split
  ·exact⟨this.symm,by simp,by simp,by simp⟩
  ·exact⟨this.symm,by simp,by simp,by simp⟩
 rw [if_neg c6]
 by_cases c7:k=7
 ·rw [if_pos c7];exact⟨(kt.k7 c7).symm,by simp,by simp,by simp⟩
 rw [if_neg c7,if_neg (by omega),if_neg (by omega)];have c10:k=10:=by have:=kt.rng;omega
 obtain⟨i,g,h1,h2⟩:=kt.k10 c10;unfold sigOf;rw [h1];obtain⟨d,hd,e1,e2,e3⟩:=look_mem h1;exact⟨h2,by simp,by simp,fun _=>⟨d,hd,e1,g,e2,e3⟩⟩
theorem cnt_pos {k n:Int}{ks:List Ex}(hk:k=8∨k=9)(hks:ks≠[]):0<cntB k n ks:=by
 unfold cntB;rw [if_neg (by omega),if_pos (by omega)];exact List.length_pos_iff.2 hks
mutual
theorem opB_C:∀ (e:Ex) (b:Bl) (t:Bytes),exT9 h cls sc e=.ok t→CI (C9 h) (C10 h) O J b→VS cls T sc b →
  CI (C9 h) (C10 h) O J (opB h b e).1∧VX b (opB h b e).1∧∃ s:Nat,(opB h b e).2=s∧((opB h b e).1.vars[s]?).map (·.typ)=some t
 | .mk k n o m ks,b,t,hk,hc,hv=>by
   have kt:=kt_of hk
   by_cases h3:k=3
   ·rw [opB,if_pos h3];obtain⟨s,h1,h2⟩:=hv.slot (kt.k3 h3);exact⟨hc,.refl b,s,h1,h2⟩
   by_cases h4:k=4
   ·rw [opB,if_neg h3,if_pos h4];obtain⟨h1,h2⟩:=kt.k4 h4;exact⟨hc,.refl b,0,rfl,by rw [h2];exact hv.zero h1⟩
   obtain⟨a1,a2,a3⟩:=opsB_C ks (cntB k n ks) b kt.all hc hv;rw [opB,if_neg h3,if_neg h4];have hr:(k=8∨k=9)→∀ e c,ks[0]?=some e→exT9 h cls sc e=.ok c→typeAt (opsB h (cntB k n ks) b ks).1 ((opsB h (cntB k n ks) b ks).2[0]?.getD 0)=c:=fun h89 e c he hx=>by
    obtain⟨s,h1,h2⟩:=a3 e c (cnt_pos h89 (by intro h;subst h;cases he)) he hx;rw [h1];exact typ_at h2
   have ins:(insB h (opsB h (cntB k n ks) b ks).1 k n o m ks (opsB h (cntB k n ks) b ks).2).2=t∧(insB h (opsB h (cntB k n ks) b ks).1 k n o m ks (opsB h (cntB k n ks) b ks).2).1.op≠15∧((insB h (opsB h (cntB k n ks) b ks).1 k n o m ks (opsB h (cntB k n ks) b ks).2).1.op=9→C9 h (insB h (opsB h (cntB k n ks) b ks).1 k n o m ks (opsB h (cntB k n ks) b ks).2).1.cls)∧((insB h (opsB h (cntB k n ks) b ks).1 k n o m ks (opsB h (cntB k n ks) b ks).2).1.op=10→C10 h (insB h (opsB h (cntB k n ks) b ks).1 k n o m ks (opsB h (cntB k n ks) b ks).2).1.cls (insB h (opsB h (cntB k n ks) b ks).1 k n o m ks (opsB h (cntB k n ks) b ks).2).1.name):=by
    by_cases h89:k=8∨k=9
    ·exact ins_C kt (by omega) (hr h89)
    ·exact ins_C' kt (by omega) h89
   generalize insB h (opsB h (cntB k n ks) b ks).1 k n o m ks (opsB h (cntB k n ks) b ks).2=p at ins;generalize (opsB h (cntB k n ks) b ks).1=b1 at a1 a2;obtain⟨i1,i2,i3,i4⟩:=ins;refine⟨(a1.tmp p.2).emit _ i2 i3 i4,a2.trans (VX.fin _ _),b1.vars.length,rfl,?_⟩
   show ((b1.vars++[⟨tempN (b1.vars.length-b1.slots),p.2⟩])[b1.vars.length]?).map (·.typ)=some t
   rw [List.getElem?_append_right (Nat.le_refl _),Nat.sub_self,← i1];rfl
theorem opsB_C:∀ (l:List Ex) (c:Nat) (b:Bl),(∀ e∈l,isOk (exT9 h cls sc e)=true)→CI (C9 h) (C10 h) O J b→VS cls T sc b →
  CI (C9 h) (C10 h) O J (opsB h c b l).1∧VX b (opsB h c b l).1∧∀ e0 t0,0<c→l[0]?=some e0→exT9 h cls sc e0=.ok t0→∃ s:Nat,(opsB h c b l).2[0]?=some (s:Int)∧((opsB h c b l).1.vars[s]?).map (·.typ)=some t0
 | [],0,b,_,hc,_=>by rw [opsB];exact⟨hc,.refl b,fun _ _ h=>by omega⟩
 | e::l,0,b,_,hc,_=>by rw [opsB];exact⟨hc,.refl b,fun _ _ h=>by omega⟩
 | [],c+1,b,_,hc,_=>by
   rw [opsB]
   ·exact⟨hc,.refl b,fun _ _ _ h=>by cases h⟩
   ·intro h;omega
 | e::l,c+1,b,ha,hc,hv=>by
   obtain⟨t,ht⟩:=ok_of (ha e List.mem_cons_self);obtain⟨a1,a2,s,a3,a4⟩:=opB_C e b t ht hc hv;obtain⟨c1,c2,-⟩:=opsB_C l c (opB h b e).1 (fun x hx=>ha x (List.mem_cons_of_mem _ hx)) a1 (hv.grow a2);rw [opsB];refine⟨c1,a2.trans c2,fun e0 t0 _ h0 hx=>⟨s,?_,c2.typ ?_⟩⟩
   ·simp only [List.getElem?_cons_zero,a3]
   ·simp only [List.getElem?_cons_zero,Option.some.injEq] at h0;subst h0;rw [ht] at hx;cases hx;exact a4
end
end
end Lx
end
section
open Lx
namespace Lx
theorem this_id {nm:Bytes}(h:isIdent nm=true):nm≠thisB:=by
 intro e;subst e;revert h
 decide
/-- From a place on the variables begin with those. -/
def Pre (n:Nat)(L vars:List Fld):Prop:=∃ A R,vars=A++L++R∧A.length=n
theorem Pre.grow {n:Nat}{L vars V:List Fld}(h:Pre n L vars):Pre n L (vars++V):=by
 obtain⟨A,R,e,hl⟩:=h;exact⟨A,R++V,by rw [e];simp,hl⟩
theorem Pre.left {n:Nat}{L M vars:List Fld}(h:Pre n (L++M) vars):Pre n L vars:=by
 obtain⟨A,R,e,hl⟩:=h;exact⟨A,M++R,by rw [e];simp,hl⟩
theorem Pre.right {n:Nat}{L M vars:List Fld}(h:Pre n (L++M) vars):Pre (n+L.length) M vars:=by
 obtain⟨A,R,e,hl⟩:=h;exact⟨A++L,R,by rw [e];simp,by simp [hl]⟩
theorem Pre.head {n:Nat}{f:Fld}{L vars:List Fld}(h:Pre n (f::L) vars):vars[n]?=some f:=by
 obtain⟨A,R,e,hl⟩:=h;rw [e,← hl];simp
/-- More variables and instructions; the scope, the handler as before. -/
structure SX (b b':Bl):Prop where
 vars:∃ V,b'.vars=b.vars++V
 scope:∃ X,b'.scope=b.scope++X
 handler:b'.handler=b.handler
theorem SX.refl (b:Bl):SX b b:=⟨⟨[],by simp⟩,⟨[],by simp⟩,rfl⟩
theorem SX.trans {a b c:Bl}(h:SX a b)(g:SX b c):SX a c:=by
 obtain⟨⟨V,h1⟩,⟨X,h2⟩,h3⟩:=h;obtain⟨⟨U,g1⟩,⟨Y,g2⟩,g3⟩:=g;exact⟨⟨V++U,by rw [g1,h1,List.append_assoc]⟩,⟨X++Y,by rw [g2,h2,List.append_assoc]⟩,g3.trans h3⟩
theorem VX.sx {b b':Bl}(h:VX b b'):SX b b':=⟨h.2,⟨[],by rw [h.1.scope];simp⟩,h.1.handler⟩
section
variable {h:List Cd} {cls res:Bytes} {T sc sc':List Fld} {O J:List Nat} {b b':Bl}
/-- The scope of an earlier builder, with the variables of a later one. -/
theorem VS.back (hv:VS cls T sc b)(hs:b'.scope=b.scope)(hx:∃ V,b'.vars=b.vars++V):VS cls T sc b':=by
 obtain⟨V,e⟩:=hx;have g:VX b { b with vars:=b.vars++V }:=⟨⟨rfl,rfl,rfl,rfl⟩,V,rfl⟩;have:=hv.grow g;refine⟨?_,this.this,fun hc=>?_,this.ns⟩
 ·rw [hs,e];exact this.vs
 ·rw [e];exact this.zero hc
theorem VS.decl (hv:VS cls T sc b){f:Fld}(hp:b.vars[b.next]?=some f)(h1:varF sc f.name=none)(h2:f.name≠thisB):VS cls T (sc++[f]) (declB b):=by
 refine⟨?_,hv.this,hv.zero,hv.ns.snoc h1 h2⟩
 show (b.scope++[b.next]).map (fun s=>b.vars[s]?)=_
 rw [List.map_append,hv.vs,← List.append_assoc,List.map_append];simp [hp]
/-- What a statement leaves. -/
structure SC (h:List Cd) (cls:Bytes) (T:List Fld) (O J:List Nat) (sc':List Fld) (n:Nat) (b b':Bl):Prop where
 ci:CI (C9 h) (C10 h) O J b'
 vs:VS cls T sc' b'
 next:b'.next=b.next+n
 sx:SX b b'
theorem op0_C {es:List Ex}{i:Nat}{t:Bytes}(hk:ex0T h cls sc es i=.ok t)(hc:CI (C9 h) (C10 h) O J b)(hv:VS cls T sc b):CI (C9 h) (C10 h) O J (op0B h b es i).1∧VX b (op0B h b es i).1:=by
 unfold ex0T at hk;unfold op0B;cases hx:es[i]? with
 | none=>rw [hx] at hk;cases hk
 | some e =>
   rw [hx] at hk;obtain⟨a1,a2,-⟩:=opB_C e b t hk hc hv;exact⟨a1,a2⟩
theorem CI.em (hc:CI (C9 h) (C10 h) O J b)(i:In)(h15:i.op≠15)(h9:i.op≠9)(h10:i.op≠10):CI (C9 h) (C10 h) O J (emitB b i):=hc.emit i h15 (fun e=>absurd e h9) (fun e=>absurd e h10)
theorem VS.em (hv:VS cls T sc b)(i:In):VS cls T sc (emitB b i):=hv.grow (VX.emit b i)
theorem asg_tk {t:Tk Bytes}{to:Bytes}{u:Unit}(hk:asgT h t to=.ok u):∃ x,t=.ok x:=by
 unfold asgT at hk;cases t with
 | error e=>cases hk
 | ok a=>exact⟨a,rfl⟩
theorem sim_C {k:Int}{nm ty:Bytes}{es:List Ex}{bd el:List St}(hk:stT h cls res sc (.mk k nm ty es bd el)=.ok sc')(h456:¬ (k=4∨k=5∨k=6))(hc:CI (C9 h) (C10 h) O J b)(hv:VS cls T sc b)(hp:Pre b.next (locS (.mk k nm ty es bd el)) b.vars) :
  SC h cls T O J sc' (locS (.mk k nm ty es bd el)).length b (simB h b k nm es):=by
 rw [stT] at hk
 by_cases hs:shpE k es.length bd.length el.length=0
 case neg=>rw [if_pos hs] at hk;cases hk
 rw [if_neg (by simpa using hs),if_neg (by omega),if_neg (by omega)] at hk;obtain⟨s1,s2,s3,s4,s5⟩:=shp_ok hs;have eb:bd=[]:=List.length_eq_zero_iff.1 (s4 h456);have ee:el=[]:=List.length_eq_zero_iff.1 (s5 (by omega));subst eb ee;have hloc:locS (.mk k nm ty es [] [])=if k=1 then [⟨nm,ty⟩] else []:=by
  simp only [locS,locsS,List.append_nil];rw [if_neg (by omega:¬ k=6)];split <;> rfl
 rw [hloc] at hp ⊢;unfold simT at hk;unfold simB
 by_cases k1:k=1
 ·rw [if_pos k1] at hk hp;rw [if_pos k1,if_pos k1];obtain⟨a,hk⟩:=and_ok hk;obtain⟨n1,n2,n3⟩:=new_ok a;obtain⟨c,hk⟩:=and_ok hk;cases hk
  by_cases he:es=[]
  ·rw [if_pos he];exact⟨hc.decl,hv.decl hp.head n3 (this_id n1),rfl,⟨⟨[],by simp [declB]⟩,⟨[b.next],rfl⟩,rfl⟩⟩
  ·rw [if_neg he] at c ⊢;obtain⟨u,hu⟩:=ok_of c;obtain⟨t,ht⟩:=asg_tk hu;obtain⟨a1,a2⟩:=op0_C ht hc hv;obtain⟨V,eV⟩:=a2.2;have hh:(op0B h b es 0).1.vars[(op0B h b es 0).1.next]?=some ⟨nm,ty⟩:=by
    rw [a2.1.next,eV];exact hp.grow.head
   refine⟨a1.decl.em _ (by simp) (by simp) (by simp),((hv.grow a2).decl hh n3 (this_id n1)).em _,?_,?_⟩
   ·show (op0B h b es 0).1.next+1=_
    rw [a2.1.next];rfl
   ·refine a2.sx.trans ⟨⟨[],by simp [emitB,declB]⟩,⟨[(op0B h b es 0).1.next],rfl⟩,rfl⟩
 rw [if_neg k1] at hk hp;rw [if_neg k1,if_neg k1];have emx:∀ {c:Bl} (i:In),CI (C9 h) (C10 h) O J c→VX b c→i.op≠15→i.op≠9→i.op≠10→SC h cls T O J sc ([]:List Fld).length b (emitB c i):=fun i hc' hx o1 o2 o3 =>
  ⟨hc'.em i o1 o2 o3,(hv.grow hx).em i,hx.1.next,hx.sx.trans (VX.emit _ i).sx⟩
 by_cases k2:k=2
 ·rw [if_pos k2] at hk;rw [if_pos k2];cases hvf:varF sc nm with
  | none=>rw [hvf] at hk;cases hk
  | some tv =>
    rw [hvf] at hk;simp only at hk;obtain⟨c,hk⟩:=and_ok hk;cases hk;obtain⟨u,hu⟩:=ok_of c;obtain⟨t,ht⟩:=asg_tk hu;obtain⟨a1,a2⟩:=op0_C ht hc hv;exact emx _ a1 a2 (by simp) (by simp) (by simp)
 rw [if_neg k2] at hk;rw [if_neg k2]
 by_cases k3:k=3
 ·rw [if_pos k3] at hk;rw [if_pos k3];cases he:ex0T h cls sc es 0 with
  | error x=>rw [he] at hk;cases hk
  | ok c =>
    rw [he] at hk;simp only at hk;cases hf:fldT h c nm with
    | error x=>rw [hf] at hk;cases hk
    | ok t0 =>
      rw [hf] at hk;simp only at hk;obtain⟨d,hk⟩:=and_ok hk;cases hk;obtain⟨u,hu⟩:=ok_of d;obtain⟨t,ht⟩:=asg_tk hu;obtain⟨a1,a2⟩:=op0_C he hc hv;obtain⟨c1,c2⟩:=op0_C ht a1 (hv.grow a2);exact emx _ c1 (a2.trans c2) (by simp) (by simp) (by simp)
 rw [if_neg k3] at hk;rw [if_neg k3]
 by_cases k7:k=7
 ·rw [if_pos k7] at hk;rw [if_pos k7];cases he:ex0T h cls sc es 0 with
  | error x=>rw [he] at hk;cases hk
  | ok c =>
    rw [he] at hk;simp only at hk;split at hk
    ·cases hk;obtain⟨a1,a2⟩:=op0_C he hc hv;exact emx _ a1 a2 (by simp) (by simp) (by simp)
    ·cases hk
 rw [if_neg k7] at hk;rw [if_neg k7]
 by_cases k8:k=8
 ·rw [if_pos k8] at hk;rw [if_pos k8];split at hk
  ·obtain⟨c,hk⟩:=and_ok hk;cases hk
   by_cases he:es=[]
   ·rw [if_pos he];exact emx _ hc (.refl b) (by simp) (by simp) (by simp)
   ·rw [if_neg he] at c ⊢;obtain⟨u,hu⟩:=ok_of c;obtain⟨t,ht⟩:=asg_tk hu;obtain⟨a1,a2⟩:=op0_C ht hc hv;exact emx _ a1 a2 (by simp) (by simp) (by simp)
  ·cases hk
 rw [if_neg k8] at hk;rw [if_neg k8];split at hk
 case isFalse=>cases hk
 rename_i hka;obtain⟨c,hk⟩:=and_ok hk;cases hk;obtain⟨t,ht⟩:=ok_of c;unfold ex0T at ht;cases hx:es[0]? with
 | none=>rw [hx] at ht;cases ht
 | some e =>
   rw [hx] at ht;simp only;have hke:e.kind=9∨e.kind=10:=by
    unfold kindAt at hka;rw [hx] at hka;simpa using hka
   cases e with
   | mk k n o m ks =>
     simp only [Ex.kind] at hke;have kt:=kt_of ht;obtain⟨a1,a2,a3⟩:=opsB_C ks (cntB k n ks) b kt.all hc hv;have hr:k=9→∀ e c,ks[0]?=some e→exT9 h cls sc e=.ok c→typeAt (opsB h (cntB k n ks) b ks).1 ((opsB h (cntB k n ks) b ks).2[0]?.getD 0)=c:=fun h9 e c he hx=>by
      obtain⟨s,h1,h2⟩:=a3 e c (cnt_pos (.inr h9) (by intro h;subst h;cases he)) he hx;rw [h1];exact typ_at h2
     have ins:(insE h b (.mk k n o m ks)).2.1.op≠15∧((insE h b (.mk k n o m ks)).2.1.op=9→C9 h (insE h b (.mk k n o m ks)).2.1.cls)∧((insE h b (.mk k n o m ks)).2.1.op=10→C10 h (insE h b (.mk k n o m ks)).2.1.cls (insE h b (.mk k n o m ks)).2.1.name):=by
      by_cases h9:k=9
      ·exact (ins_C kt (by omega) (hr h9)).2
      ·exact (ins_C' kt (by omega) (by omega)).2
     have hx2:VX b (insE h b (.mk k n o m ks)).1:=a2;have hc2:CI (C9 h) (C10 h) O J (insE h b (.mk k n o m ks)).1:=a1;exact⟨hc2.emit _ ins.1 ins.2.1 ins.2.2,(hv.grow hx2).em _,hx2.1.next,hx2.sx.trans (VX.emit _ _).sx⟩
theorem CI.jmp (hc:CI (C9 h) (C10 h) O J b)(g:Int):CI (C9 h) (C10 h) O J (jmpB b g):=hc.em _ (by simp) (by simp) (by simp)
theorem CI.br (hc:CI (C9 h) (C10 h) O J b)(a:Int):CI (C9 h) (C10 h) O J (brB b a):=hc.em _ (by simp) (by simp) (by simp)
theorem SX.cut {b b':Bl}(g:SX b b'):SX b (cutB b' b.scope.length)∧(cutB b' b.scope.length).scope=b.scope:=by
 obtain⟨hv,⟨X,e⟩,hh⟩:=g;have:(cutB b' b.scope.length).scope=b.scope:=by
  show b'.scope.take b.scope.length=b.scope
  rw [e,List.take_left]
 exact⟨⟨hv,⟨[],by rw [this];simp⟩,hh⟩,this⟩
theorem SX.cut' {b c b':Bl}(hs:c.scope=b.scope)(g:SX c b'):SX c (cutB b' b.scope.length)∧(cutB b' b.scope.length).scope=b.scope:=by
 rw [← hs];exact g.cut
theorem SX.here (b:Bl)(i:Nat):SX b (hereB b i):=⟨⟨[],by rw [here_vars];simp⟩,⟨[],by rw [(here_kept b i).scope];simp⟩,(here_kept b i).handler⟩
theorem SX.nxt (b:Bl)(n:Nat):SX b (nextB b n):=⟨⟨[],by simp [nextB]⟩,⟨[],by simp [nextB]⟩,rfl⟩
mutual
theorem stB_C:∀ (s:St) (O J:List Nat) (sc sc':List Fld) (b:Bl),stT h cls res sc s=.ok sc'→CI (C9 h) (C10 h) O J b→VS cls T sc b→Pre b.next (locS s) b.vars→SC h cls T O J sc' (locS s).length b (stB h b s)
 | .mk k nm ty es bd el,O,J,sc,sc',b,hk,hc,hv,hp=>by
   by_cases h456:k=4∨k=5∨k=6
   case neg =>
    rw [stB,if_neg (by omega),if_neg (by omega),if_neg (by omega)];exact sim_C hk h456 hc hv hp
   rw [stT] at hk
   by_cases hs:shpE k es.length bd.length el.length=0
   case neg=>rw [if_pos hs] at hk;cases hk
   rw [if_neg (by simpa using hs)] at hk;obtain⟨s1,s2,s3,s4,s5⟩:=shp_ok hs
   by_cases h45:k=4∨k=5
   ·rw [if_pos h45] at hk;cases he:ex0T h cls sc es 0 with
    | error x=>rw [he] at hk;cases hk
    | ok t =>
      rw [he] at hk;simp only at hk;split at hk
      case isFalse=>cases hk
      obtain⟨c1,hk⟩:=and_ok hk;obtain⟨c2,hk⟩:=and_ok hk;cases hk;obtain⟨u1,hu1⟩:=ok_of c1;obtain⟨u2,hu2⟩:=ok_of c2;obtain⟨a1,a2⟩:=op0_C he hc hv;generalize hb1:(op0B h b es 0).1=b1 at a1 a2;have n1:b1.next=b.next:=a2.1.next;have v1:=hv.grow a2
      by_cases k4:k=4
      ·have hloc:locS (.mk k nm ty es bd el)=locsS bd++locsS el:=by
        rw [locS,if_neg (show ¬ k=1 by omega),if_neg (show ¬ k=6 by omega)];simp
       rw [hloc] at hp ⊢;rw [stB,if_pos k4];have t2:=a1.br (op0B h b es 0).2;have x2:VX b (brB b1 (op0B h b es 0).2):=a2.trans (VX.emit _ _);have v2:VS cls T sc (brB b1 (op0B h b es 0).2):=hv.grow x2;generalize hb2:brB b1 (op0B h b es 0).2=b2 at t2 x2 v2;obtain⟨V2,e2⟩:=x2.2;obtain⟨sc3,o3⟩:=blB_C el O J sc (nextB b2 (b2.next+(locsS bd).length)) u2 hu2 (t2.nxt _) (v2.back rfl ⟨[],by simp [nextB]⟩) (by
        show Pre (b2.next+(locsS bd).length) (locsS el) b2.vars
        rw [x2.1.next,e2];exact hp.right.grow)
       generalize hb3:blB h (nextB b2 (b2.next+(locsS bd).length)) el=b3 at o3;have x3:=SX.cut' (b:=b2) (c:=nextB b2 (b2.next+(locsS bd).length)) rfl o3.sx;have y3:SX b2 (cutB b3 b2.scope.length):=(SX.nxt b2 _).trans x3.1;have t4:=(o3.ci.cut b2.scope.length).jmp 0;have y4:SX b2 (jmpB (cutB b3 b2.scope.length) 0):=y3.trans (VX.emit _ _).sx;have z4:(jmpB (cutB b3 b2.scope.length) 0).scope=b2.scope:=x3.2;have n3:b3.next=b2.next+(locsS bd).length+(locsS el).length:=o3.next;generalize hb4:jmpB (cutB b3 b2.scope.length) 0=b4 at t4 y4 z4;have y5:SX b2 (nextB (hereB b4 b1.code.length) b1.next):=y4.trans ((SX.here _ _).trans (SX.nxt _ _));have z5:(nextB (hereB b4 b1.code.length) b1.next).scope=b4.scope:=(here_kept _ _).scope;obtain⟨sc5,o5⟩:=blB_C bd O J sc (nextB (hereB b4 b1.code.length) b1.next) u1 hu1 ((t4.here' _).nxt _) (v2.back (z5.trans z4) y5.vars) (by
        show Pre b1.next (locsS bd) (nextB (hereB b4 b1.code.length) b1.next).vars
        obtain⟨V,e⟩:=y5.vars;rw [e,e2,n1];exact hp.left.grow.grow)
       generalize hb5:blB h (nextB (hereB b4 b1.code.length) b1.next) bd=b5 at o5;have x5:=SX.cut' (b:=b4) (c:=nextB (hereB b4 b1.code.length) b1.next) z5 o5.sx;have y6:SX b2 (hereB (nextB (cutB b5 b4.scope.length) (cutB b3 b2.scope.length).next) (cutB b3 b2.scope.length).code.length):=y5.trans (x5.1.trans ((SX.nxt _ _).trans (SX.here _ _)));have z6:(hereB (nextB (cutB b5 b4.scope.length) (cutB b3 b2.scope.length).next) (cutB b3 b2.scope.length).code.length).scope=b2.scope:=by
        rw [(here_kept _ _).scope];exact x5.2.trans z4
       simp only [hb1,hb2,hb3,hb4,hb5];refine⟨((o5.ci.cut _).nxt _).here' _,v2.back z6 y6.vars,?_,x2.sx.trans y6⟩;rw [(here_kept _ _).next]
       show b3.next=_
       rw [n3,x2.1.next,List.length_append];omega
      ·have k5:k=5:=by omega
       have ee:el=[]:=List.length_eq_zero_iff.1 (s5 (by omega));subst ee;have hloc:locS (.mk k nm ty es bd [])=locsS bd:=by
        rw [locS,if_neg (show ¬ k=1 by omega),if_neg (show ¬ k=6 by omega)];simp [locsS]
       rw [hloc] at hp ⊢;rw [stB,if_neg k4,if_pos k5];have t2:=(a1.br (op0B h b es 0).2).jmp 0;have x2:VX b (jmpB (brB b1 (op0B h b es 0).2) 0):=(a2.trans (VX.emit _ _)).trans (VX.emit _ _);have v2:VS cls T sc (jmpB (brB b1 (op0B h b es 0).2) 0):=hv.grow x2;generalize hb2:jmpB (brB b1 (op0B h b es 0).2) 0=b2 at t2 x2 v2;obtain⟨V2,e2⟩:=x2.2;have z3:(hereB b2 b1.code.length).scope=b2.scope:=(here_kept _ _).scope;obtain⟨sc3,o3⟩:=blB_C bd O J sc (hereB b2 b1.code.length) u1 hu1 (t2.here' _) (v2.back z3 ⟨[],by rw [here_vars];simp⟩) (by
        rw [(here_kept _ _).next,here_vars,x2.1.next,e2];exact hp.grow)
       generalize hb3:blB h (hereB b2 b1.code.length) bd=b3 at o3;have x3:=SX.cut' (b:=b2) (c:=hereB b2 b1.code.length) z3 o3.sx;have n3:=o3.next;rw [(here_kept _ _).next,x2.1.next] at n3;have y6:SX b2 (hereB (jmpB (cutB b3 b2.scope.length) b.code.length) (b1.code.length+1)):=(SX.here _ _).trans (x3.1.trans ((VX.emit _ _).sx.trans (SX.here _ _)));have z6:(hereB (jmpB (cutB b3 b2.scope.length) b.code.length) (b1.code.length+1)).scope=b2.scope:=by
        rw [(here_kept _ _).scope];exact x3.2
       simp only [hb1,hb2,hb3];refine⟨((o3.ci.cut _).jmp _).here' _,v2.back z6 y6.vars,?_,x2.sx.trans y6⟩;rw [(here_kept _ _).next];exact n3
   rw [if_neg h45] at hk;have k6:k=6:=by omega
   rw [if_pos k6] at hk;obtain⟨c0,hk⟩:=and_ok hk;obtain⟨n1,n2,n3⟩:=new_ok c0;obtain⟨c1,hk⟩:=and_ok hk;obtain⟨c2,hk⟩:=and_ok hk;cases hk;obtain⟨u1,hu1⟩:=ok_of c1;obtain⟨u2,hu2⟩:=ok_of c2;have hloc:locS (.mk k nm ty es bd el)=locsS bd++(⟨nm,ty⟩::locsS el):=by
    rw [locS,if_neg (show ¬ k=1 by omega),if_pos k6];simp
   rw [hloc] at hp ⊢;rw [stB,if_neg (by omega),if_neg (by omega),if_pos k6];have hw:b.handlers.length ∉ O:=fun hm=>by have:=hc.oin _ hm;omega
   have hhd:b.handler≠(b.handlers.length:Int):=by
    rcases hc.hd with e | ⟨o,e1,e2⟩
    ·rw [e];omega
    ·have:=hc.oin o e1;rw [e2];omega
   obtain⟨sc2,o2⟩:=blB_C bd (b.handlers.length::O) J sc (handB (hndB b) b.handlers.length) u1 hu1 hc.enter (hv.back rfl ⟨[],by simp [handB,hndB]⟩) (by
    show Pre b.next (locsS bd) b.vars
    exact hp.left)
   generalize hb2:blB h (handB (hndB b) b.handlers.length) bd=b2 at o2;have nx2:b2.next=b.next+(locsS bd).length:=o2.next;obtain⟨V2,e2⟩:=o2.sx.vars;have e2':b2.vars=b.vars++V2:=e2;have x2:=SX.cut' (b:=handB (hndB b) b.handlers.length) (c:=handB (hndB b) b.handlers.length) rfl o2.sx;have t3:=((o2.ci.cut (handB (hndB b) b.handlers.length).scope.length).hand (n:=b.handler) (by
    rcases hc.hd with e | ⟨o,f1,f2⟩
    ·exact .inl e
    ·exact .inr ⟨o,List.mem_cons_of_mem _ f1,f2⟩)).jmp 0
   have l3:(jmpB (handB (cutB b2 (handB (hndB b) b.handlers.length).scope.length) b.handler) 0).code.length=b2.code.length+1:=by simp [jmpB,emitB,handB,cutB]
   have j3:∃ x:In,(jmpB (handB (cutB b2 (handB (hndB b) b.handlers.length).scope.length) b.handler) 0).code[b2.code.length]?=some x∧x.op=12:=⟨_,by
    show (b2.code++[_])[b2.code.length]?=_
    rw [List.getElem?_append_right (Nat.le_refl _),Nat.sub_self];rfl,rfl⟩
   have s3':(jmpB (handB (cutB b2 (handB (hndB b) b.handlers.length).scope.length) b.handler) 0).scope=b.scope:=x2.2;have v3:VS cls T sc (jmpB (handB (cutB b2 (handB (hndB b) b.handlers.length).scope.length) b.handler) 0):=hv.back s3' ⟨V2,e2'⟩;have h3:(jmpB (handB (cutB b2 (handB (hndB b) b.handlers.length).scope.length) b.handler) 0).handler=b.handler:=rfl;have nx3:(jmpB (handB (cutB b2 (handB (hndB b) b.handlers.length).scope.length) b.handler) 0).next=b2.next:=rfl;have va3:(jmpB (handB (cutB b2 (handB (hndB b) b.handlers.length).scope.length) b.handler) 0).vars=b2.vars:=rfl;have lj:(handB (cutB b2 (handB (hndB b) b.handlers.length).scope.length) b.handler).code.length=b2.code.length:=rfl;generalize hb3:jmpB (handB (cutB b2 (handB (hndB b) b.handlers.length).scope.length) b.handler) 0=b3 at t3 l3 j3 s3' v3 h3 nx3 va3;have hh3:b3.vars[b3.next]?=some ⟨nm,ty⟩:=by
    rw [va3,e2',nx3,nx2];exact hp.right.grow.head
   have tc:CI (C9 h) (C10 h) (b.handlers.length::O) (b2.code.length::J) (catB b3 ty):=(t3.more b2.code.length).decl.emitX _ (fun _=>by
    obtain⟨x,hx,ho⟩:=j3;exact⟨b2.code.length,x,l3,hx,ho,List.mem_cons_self⟩) (by simp) (by simp)
   have vc:VS cls T (sc++[⟨nm,ty⟩]) (catB b3 ty):=(v3.decl hh3 n3 (this_id n1)).em _;have t4:CI (C9 h) (C10 h) O (b2.code.length::J) (setH (catB b3 ty) b.handlers.length b3.code.length):=tc.close hw (x:={ ({ zIn with op:=15,dst:=b3.next,cls:=ty }:In) with han:=b3.handler }) (by simp [catB,emitB,declB]) (by
     show (b3.code++[_])[b3.code.length]?=_
     rw [List.getElem?_append_right (Nat.le_refl _),Nat.sub_self];rfl) rfl (by rw [← h3] at hhd;exact hhd) (by rw [← h3] at hhd;exact hhd)
   have v4:VS cls T (sc++[⟨nm,ty⟩]) (setH (catB b3 ty) b.handlers.length b3.code.length):=vc.back rfl ⟨[],by simp [setH]⟩;have nx4:(setH (catB b3 ty) b.handlers.length b3.code.length).next=b3.next+1:=rfl;have va4:(setH (catB b3 ty) b.handlers.length b3.code.length).vars=b3.vars:=rfl;have s4':(setH (catB b3 ty) b.handlers.length b3.code.length).scope=b3.scope++[b3.next]:=rfl;have h4:(setH (catB b3 ty) b.handlers.length b3.code.length).handler=b3.handler:=rfl;generalize hb4:setH (catB b3 ty) b.handlers.length b3.code.length=b4 at t4 v4 nx4 va4 s4' h4;obtain⟨sc5,o5⟩:=blB_C el O (b2.code.length::J) (sc++[⟨nm,ty⟩]) b4 u2 hu2 t4 v4 (by
    rw [nx4,nx3,nx2,va4,va3,e2'];have:=(hp.right (L:=locsS bd)).right (L:=[⟨nm,ty⟩]) (M:=locsS el);exact this.grow)
   generalize hb5:blB h b4 el=b5 at o5;have nx5:=o5.next;have sx4:SX b b4:=⟨⟨V2,by rw [va4,va3];exact e2'⟩,⟨[b3.next],by rw [s4',s3']⟩,by rw [h4,h3]⟩;have sx5:SX b b5:=sx4.trans o5.sx;obtain⟨Xs,eXs⟩:=o5.sx.scope;have z6:(cutB (cutB b5 b4.scope.length) b3.scope.length).scope=b.scope:=by
    show (b5.scope.take b4.scope.length).take b3.scope.length=b.scope
    rw [eXs,List.take_left,s4',List.take_left,s3']
   have z7:(hereB (cutB (cutB b5 b4.scope.length) b3.scope.length) b2.code.length).scope=b.scope:=by
    rw [(here_kept _ _).scope];exact z6
   have w7:∃ V,(hereB (cutB (cutB b5 b4.scope.length) b3.scope.length) b2.code.length).vars=b.vars++V:=by
    rw [here_vars];exact sx5.vars
   simp only [hb2,hb3,hb4,hb5,lj];refine⟨((o5.ci.cut _).cut _).here,hv.back z7 w7,?_,⟨w7,⟨[],by rw [z7];simp⟩,?_⟩⟩
   ·rw [(here_kept _ _).next]
    show b5.next=_
    rw [nx5,nx4,nx3,nx2,List.length_append,List.length_cons];omega
   ·rw [(here_kept _ _).handler];exact sx5.handler
theorem blB_C:∀ (l:List St) (O J:List Nat) (sc:List Fld) (b:Bl) (u:Unit),blT h cls res sc l=.ok u→CI (C9 h) (C10 h) O J b→VS cls T sc b→Pre b.next (locsS l) b.vars→∃ sc',SC h cls T O J sc' (locsS l).length b (blB h b l)
 | [],O,J,sc,b,_,_,hc,hv,_=>by
   rw [blB];exact⟨sc,hc,hv,rfl,.refl b⟩
 | s::l,O,J,sc,b,u,hk,hc,hv,hp=>by
   rw [blT] at hk;cases hs:stT h cls res sc s with
   | error x=>rw [hs] at hk;cases hk
   | ok sc1 =>
     rw [hs] at hk;rw [locsS] at hp ⊢;have o1:=stB_C s O J sc sc1 b hs hc hv hp.left;obtain⟨V,e⟩:=o1.sx.vars;obtain⟨sc2,o2⟩:=blB_C l O J sc1 (stB h b s) u hk o1.ci o1.vs (by rw [o1.next,e];exact hp.right.grow);rw [blB];exact⟨sc2,o2.ci,o2.vs,by rw [o2.next,o1.next,List.length_append];omega,o1.sx.trans o2.sx⟩
end
end
end Lx
end
section
open Lx
namespace Lx
theorem decN_scope:∀ (n:Nat) (b:Bl),(decN n b).scope=b.scope++(List.range n).map (b.next+·)
 | 0,b=>by simp [decN]
 | n+1,b=>by
   rw [decN,decN_scope n (declB b)]
   show (b.scope++[b.next])++(List.range n).map (b.next+1+·)=_
   rw [List.range_succ_eq_map,List.map_cons,List.map_map,List.append_assoc]
   congr 1
   simp only [List.cons_append,List.nil_append,Nat.add_zero,List.cons.injEq,true_and];apply List.map_congr_left;intro i _;simp only [Function.comp];omega
theorem decN_keep:∀ (n:Nat) (b:Bl),(decN n b).vars=b.vars∧(decN n b).code=b.code∧(decN n b).handler=b.handler∧(decN n b).handlers=b.handlers∧(decN n b).next=b.next+n
 | 0,b=>⟨rfl,rfl,rfl,rfl,rfl⟩
 | n+1,b=>by
   obtain⟨a1,a2,a3,a4,a5⟩:=decN_keep n (declB b);rw [decN];exact⟨a1,a2,a3,a4,by rw [a5];show b.next+1+n=_;omega⟩
theorem parT_ns:∀ (l sc sc':List Fld),parT sc l=.ok sc'→NS sc→NS sc'∧sc'=sc++l
 | [],sc,sc',hk,hn=>by
   rw [parT] at hk;cases hk;exact⟨hn,by simp⟩
 | f::l,sc,sc',hk,hn=>by
   rw [parT] at hk;split at hk
   ·cases hk
   rename_i h1;split at hk
   ·cases hk
   rename_i h2;obtain⟨a,e⟩:=parT_ns l (sc++[f]) sc' hk (hn.snoc (by simpa using h2) (this_id (by simpa using h1)));exact⟨a,by rw [e];simp⟩
theorem map_range_get {α:Type}(l r:List α):(List.range l.length).map (fun i=>(l++r)[i]?)=l.map some:=by
 apply List.ext_getElem
 ·simp
 ·intro i h1 h2;simp only [List.length_map,List.length_range] at h1;simp [List.getElem?_append_left h1,List.getElem?_eq_getElem h1]
section
variable {h:List Cd}
theorem end_C {O J:List Nat}{b:Bl}(hc:CI (C9 h) (C10 h) O J b)(hd:b.handler=-1)(res:Bytes):CI (C9 h) (C10 h) O J (endB b res)∧∃ (p:List In) (x:In),(endB b res).code=p++[x]∧x.op=13∧x.han=-1:=by
 unfold endB;split
 ·exact⟨hc.em _ (by simp) (by simp) (by simp),_,_,rfl,rfl,hd⟩
 ·split
  ·exact⟨((hc.tmp intB).em _ (by simp) (by simp) (by simp)).em _ (by simp) (by simp) (by simp),_,_,rfl,rfl,hd⟩
  ·exact⟨((hc.tmp nullB).em _ (by simp) (by simp) (by simp)).em _ (by simp) (by simp) (by simp),_,_,rfl,rfl,hd⟩
/-- What LowerCatches says of a function's code. -/
structure FC (h:List Cd) (code:List In):Prop where
 han:∀ (k:Nat) (i:In),code[k]?=some i→i.han=-1∨∃ (c:Nat) (x:In),i.han=(c:Int)∧k<c∧code[c]?=some x∧x.op=15
 cat:∀ (k:Nat) (i:In),code[k]?=some i→i.op=15→∃ (j:Nat) (x:In),k=j+1∧code[j]?=some x∧x.op=12∧(k:Int)<x.goto
 cal:∀ (k:Nat) (i:In),code[k]?=some i→(i.op=9→C9 h i.cls)∧(i.op=10→C10 h i.cls i.name)
 last:∃ (p:List In) (x:In),code=p++[x]∧x.op=13∧x.han=-1
theorem pat_get {hs:List Nat}{l:List In}{k:Nat}{y:In}(hy:(l.map (patB hs))[k]?=some y):∃ i,l[k]?=some i∧y=patB hs i:=by
 rw [List.getElem?_map] at hy;cases hi:l[k]? with
 | none=>rw [hi] at hy;cases hy
 | some i=>rw [hi] at hy;exact⟨i,rfl,by simpa using hy.symm⟩
theorem get_pat {hs:List Nat}{l:List In}{k:Nat}{i:In}(hi:l[k]?=some i):(l.map (patB hs))[k]?=some (patB hs i):=by
 rw [List.getElem?_map,hi];rfl
theorem pat_same (hs:List Nat)(i:In):(patB hs i).op=i.op∧(patB hs i).goto=i.goto∧(patB hs i).cls=i.cls∧(patB hs i).name=i.name:=by
 unfold patB;split <;> exact⟨rfl,rfl,rfl,rfl⟩
theorem pat_C {b:Bl}(hc:CI (C9 h) (C10 h) [] [] b)(hl:∃ (p:List In) (x:In),b.code=p++[x]∧x.op=13∧x.han=-1):FC h (b.code.map (patB b.handlers)):=by
 have neg:∀ i:In,i.han=-1→(patB b.handlers i).han=-1:=fun i e=>by
  unfold patB;rw [if_neg (by omega)];exact e
 refine⟨fun k y hy=>?_,fun k y hy ho=>?_,fun k y hy=>?_,?_⟩
 ·obtain⟨i,hi,rfl⟩:=pat_get hy;rcases hc.han k i hi with e | ⟨o,e,_⟩ | ⟨o,c,x,e1,e2,e3,e4,e5⟩
  ·exact .inl (neg i e)
  ·cases e
  ·refine .inr ⟨c,patB b.handlers x,?_,e3,get_pat e4,by rw [(pat_same _ _).1];exact e5⟩;unfold patB;rw [if_pos (by omega)]
   show ((b.handlers[i.han.toNat]?).getD 0:Int)=_
   rw [e1,Int.toNat_natCast,e2];rfl
 ·obtain⟨i,hi,rfl⟩:=pat_get hy;rw [(pat_same _ _).1] at ho;obtain⟨j,x,e1,e2,e3,e4⟩:=hc.cat k i hi ho;rcases e4 with e4 | e4
  ·exact⟨j,patB b.handlers x,e1,get_pat e2,by rw [(pat_same _ _).1];exact e3,by rw [(pat_same _ _).2.1];exact e4⟩
  ·cases e4
 ·obtain⟨i,hi,rfl⟩:=pat_get hy;obtain⟨p1,_,p3,p4⟩:=pat_same b.handlers i;rw [p1,p3,p4];exact hc.cal k i hi
 ·obtain⟨p,x,e1,e2,e3⟩:=hl;exact⟨p.map (patB b.handlers),patB b.handlers x,by rw [e1];simp,by rw [(pat_same _ _).1];exact e2,neg x e3⟩
theorem fun_C {c:Bytes}{m:Me}(hk:methE h c m=0):FC h (funB h c m).code:=by
 unfold methE at hk;split at hk
 ·omega
 split at hk
 ·omega
 cases hp:parT [] m.params with
 | error e =>
   rw [hp] at hk;simp only at hk;subst hk;exact (parT_ne hp).elim
 | ok sc =>
   rw [hp] at hk;simp only at hk;cases hb:blT h (if m.static then [] else c) m.result sc m.body with
   | error e =>
     rw [hb] at hk;simp only at hk;subst hk;exact (blT_ne hb).elim
   | ok u =>
     obtain⟨ns,esc⟩:=parT_ns m.params [] sc hp ⟨by simp,by simp⟩;rw [List.nil_append] at esc;subst esc;obtain⟨d1,d2,d3,d4,d5⟩:=decN_keep (m.params.length+if m.static then 0 else 1) (zBl (slotsB c m));have d6:=decN_scope (m.params.length+if m.static then 0 else 1) (zBl (slotsB c m));generalize hb0:decN (m.params.length+if m.static then 0 else 1) (zBl (slotsB c m))=b0 at d1 d2 d3 d4 d5 d6;have hT:slotsB c m=((if m.static then [] else [⟨thisB,c⟩])++m.params)++locsS m.body:=rfl;have hTl:((if m.static then [] else [(⟨thisB,c⟩:Fld)])++m.params).length=m.params.length+if m.static then 0 else 1:=by
      cases m.static <;> simp <;> omega
     have ci0:CI (C9 h) (C10 h) [] [] b0:=by
      have hcode:b0.code=[]:=d2;exact⟨fun o ho=>(by cases ho),.inl d3,fun k i hi=>(by rw [hcode] at hi;cases hi),fun k i hi=>(by rw [hcode] at hi;cases hi),fun k i hi=>(by rw [hcode] at hi;cases hi)⟩
     have vs0:VS (if m.static then [] else c) (if m.static then [] else [⟨thisB,c⟩]) m.params b0:=by
      refine⟨?_,?_,?_,ns⟩
      ·rw [d6,d1,← hTl]
       show (([]:List Nat)++(List.range _).map (0+·)).map (fun s=>(slotsB c m)[s]?)=_
       rw [List.nil_append,List.map_map,hT,← map_range_get _ (locsS m.body)];apply List.map_congr_left;intro i _;simp
      ·cases m.static <;> simp
      ·rw [d1]
       show _→((slotsB c m)[0]?).map (·.typ)=_
       rw [hT];cases m.static <;> simp
     obtain⟨sc',o⟩:=blB_C m.body [] [] m.params b0 u hb ci0 vs0 (by
      rw [d1,d5];refine⟨_,[],?_,hTl.trans (by show _=0+_;omega)⟩;rw [List.append_nil];exact hT)
     have hbod:bodB h c m=endB (cutB (blB h b0 m.body) b0.scope.length) m.result:=by
      unfold bodB;simp only [hb0]
     obtain⟨e1,e2⟩:=end_C (o.ci.cut b0.scope.length) (o.sx.handler.trans d3) m.result;rw [← hbod] at e1 e2;exact pat_C e1 e2
end
/-- The functions of a program. -/
def unitF (l:List Cl):List Fu:=l.flatMap fun c=>c.methods.map (funB (hiOf l) c.name)
/-- The plain law of LowerCatches. -/
theorem law_catches {l:List Cl}(h0:progE l=0):∀ f∈unitF l,FC (hiOf l) f.code∧∀ (k:Nat) (i:In),f.code[k]?=some i→i.op=10→∃ g∈unitF l,g.cls=i.cls∧g.name=i.name:=by
 intro f hf;obtain⟨c,hc,hf⟩:=List.mem_flatMap.1 hf;obtain⟨m,hm,rfl⟩:=List.mem_map.1 hf;have fc:=fun_C (prog_meth h0 hc hm);refine⟨fc,fun k i hi ho=>?_⟩;obtain⟨d,hd,e1,g,hg,e2⟩:=(fc.cal k i hi).2 ho;obtain⟨c',hc',rfl⟩:=List.mem_map.1 hd;obtain⟨m',hm',rfl⟩:=List.mem_map.1 hg;exact⟨funB (hiOf l) c'.name m',List.mem_flatMap.2 ⟨c',hc',List.mem_map.2 ⟨m',hm',rfl⟩⟩,e1,e2⟩
end Lx
end
section
open Lx
namespace Lx
end Lx
end
end Go.Proofs.YtoookjadbhdfhaaGreatDoor
