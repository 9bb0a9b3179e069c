/-
  AX: maps and copy; all operations that write.
-/
import Derived.Test.YtoookjadbhdfhaaGreatDoorUJpAc
set_option linter.unusedSectionVars false
set_option linter.unusedSimpArgs false
set_option linter.unnecessarySimpa false
set_option linter.unusedVariables false
set_option linter.unusedSimpArgs false
set_option linter.unusedVariables false
namespace Go.Proofs.YtoookjadbhdfhaaGreatDoor
section
namespace Ax
def mupA (P:Program)(H:Heap)(t:TypeId)(m k v:CV):Option (CV×Dl):=match ti P t with
 | some ⟨.map kt _,_,_,_⟩=>match ti P kt with
   | some ik=>match m with
     | .mp b=>match H b with
       | some (.map ks vs)=>match keyD ik.und k with
         | true=>match findK ik.und k ks 0 with
           | some (some q)=>some (.any,.set b (.map (ks.set q k) (vs.set q v)))
           | some none=>some (.any,.set b (.map (ks++[k]) (vs++[v])))
           | none=>none
         | false=>none
       | _=>none
     | _=>none
   | none=>none
 | _=>none
theorem sameNow_bits {d:TypeDesc}{a b:Value}(h:Instr.sameNow d a b=some true):Instr.sameBits 10000 b a=true:=by
 unfold Instr.sameNow at h;split at h
 ·split at h
  ·rename_i e;subst e;have:∀ x y:Int,(some (x == y)=some true)→x=y:=by intro x y h;simpa using h
   have e:=this _ _ h;subst e;simp [Instr.sameBits]
  ·cases h
 ·have e:∀ x y:ByteArray,(some (x == y)=some true)→(y == x)=true:=by
   intro x y h;have h1:(x == y)=true:=by simpa using h
   rw [bytes_beq_data] at h1 ⊢;simp at h1 ⊢;exact h1.symm
  simpa [Instr.sameBits] using e _ _ h
 ·have:∀ x y:Bool,(some (x == y)=some true)→x=y:=by intro x y h;simpa using h
  have e:=this _ _ h;subst e;simp [Instr.sameBits]
 ·cases h
theorem mupA_sound {P:Program}{H:Heap}{M:Mp}{nx:Nat}{w:World}{t:TypeId}{m k v c:CV}{d:Dl}{mv kv vv:Value}(h:mupA P H t m k v=some (c,d))(r:Rep M H nx w)(hm:RV M m mv)(hk:RV M k kv)(hv:RV M v vv) :
  EOk P H M nx w (do Instr.mapUpdate t mv kv vv;pure .skip) c d:=by
 unfold mupA at h;split at h
 case h_2=>cases h
 rename_i kt et _ _ _ ht;split at h
 case h_2=>cases h
 rename_i ik hik;split at h
 case h_2=>cases h
 rename_i b;split at h
 case h_2=>cases h
 rename_i ks vs hb;split at h
 case h_2=>cases h
 rename_i hkd;cases hm with
 | mp _ g q hg =>
   obtain⟨g',q',hg',en,clock,ha,hks,hvs⟩:=r.blk b _ hb;rw [hg] at hg';cases hg';have hck:=keyD_check (w:=w) hik hkd hk false 9999;have hlt:g<w.heap.size:=(Array.getElem?_eq_some_iff.1 ha).1;have wr:∀ (en':Array MapEntry) (clock':Nat) (ks' vs':List CV),RVs M ks' (en'.toList.map (·.key))→RVs M vs' (en'.toList.map (·.val)) →
     Rep M (upd H b (.map ks' vs')) nx { w with heap:=w.heap.setIfInBounds g (.map en' clock') }∧Fr H M nx w (upd H b (.map ks' vs')) M nx { w with heap:=w.heap.setIfInBounds g (.map en' clock') }:=by
    intro en' clock' ks' vs' h1 h2;exact r.write b _ _ g q hb hg (by simp) (fun x hx=>by simp [Ne.symm hx]) rfl rfl rfl ⟨en',clock',by simp [hlt],h1,h2⟩
   split at h
   ·rename_i j hj;cases h;obtain⟨_,e,he,hf,hsn⟩:=findK_sound hk hj hks;simp only [Nat.sub_zero] at he;have hea:en[j]?=some e:=by rw [← Array.getElem?_toList];exact he
    have hst:(Instr.keyThatStays e.key kv).run P w=.ok kv w:=by simp [Instr.keyThatStays,sameNow_bits hsn]
    have hmod:(en.modify j fun x=>{ x with key:=kv,val:=vv }).toList=en.toList.set j { e with key:=kv,val:=vv }:=by
     rw [Array.toList_modify];obtain⟨hjl,hje⟩:=List.getElem?_eq_some_iff.mp he;apply List.ext_getElem?;intro i;rw [List.getElem?_modify,List.getElem?_set]
     by_cases hij:j=i
     ·subst hij;simp [hjl,hje,he];simpa using hjl
     ·simp [hij]
    obtain⟨r',f'⟩:=wr (en.modify j fun x=>{ x with key:=kv,val:=vv }) clock (ks.set j k) (vs.set j v)
     (by rw [hmod,List.map_set];exact hks.set j hk) (by rw [hmod,List.map_set];exact hvs.set j hv)
    refine⟨M,_,.inr ⟨?_,rfl⟩,r',f'⟩;simp [Instr.mapUpdate,ti_und ht,MapKept.run_getObj_map ha,hck,Instr.findKey,ti_und hik,hf,hea,hst,MapKept.run_setObj_map _ ha]
   ·rename_i hj;cases h;have hf:=findK_sound hk hj hks;simp only at hf;obtain⟨r',f'⟩:=wr (en.push { key:=kv,val:=vv,born:=clock }) (clock+1) (ks++[k]) (vs++[v])
     (by simp only [Array.toList_push,List.map_append,List.map_cons,List.map_nil];exact hks.append (.one hk)) (by simp only [Array.toList_push,List.map_append,List.map_cons,List.map_nil];exact hvs.append (.one hv))
    refine⟨M,_,.inr ⟨?_,rfl⟩,r',f'⟩;simp [Instr.mapUpdate,ti_und ht,MapKept.run_getObj_map ha,hck,Instr.findKey,ti_und hik,hf,MapKept.run_setObj_map _ ha]
   ·cases h
/-! the next letter of a string that is ranged over -/
def nextA (H:Heap)(x:CV)(str:Bool):Option (CV×Dl):=match str with
 | false=>none
 | true=>match x with
   | .ptr b 0=>match H b with
     | some (.iter l p)=>match l[p]? with
       | none=>some (.tup [.bool false],.no)
       | some c=>match Nat.ble c.toNat 127 with
         | true=>some (.tup [.bool true,.int .i64 p,.int .i32 c.toNat],.set b (.iter l (p+1)))
         | false=>none
     | _=>none
   | _=>none
theorem nextA_sound {P:Program}{H:Heap}{x:CV}{str:Bool}{c:CV}{d:Dl}{M:Mp}{nx:Nat}{w:World}{v:Value}{ty:TypeId}(h:nextA H x str=some (c,d))(r:Rep M H nx w)(hx:RV M x v) :
  EOk P H M nx w (do pure (.value (← Instr.next v str ty))) c d:=by
 unfold nextA at h;split at h
 ·cases h
 split at h
 case h_2=>cases h
 rename_i b;split at h
 case h_2=>cases h
 rename_i l p hb;cases hx with
 | ptr _ _ g m hg =>
 obtain⟨g',m',hg',s,ha,hs⟩:=r.blk b _ hb;rw [hg] at hg';cases hg';have hlt:g<w.heap.size:=(Array.getElem?_eq_some_iff.1 ha).1;have hsz:s.size=l.length:=by rw [← hs,Array.length_toList];rfl
 split at h
 ·rename_i hp;cases h;have hp':¬ p<s.size:=by rw [hsz];simpa using hp
  refine⟨M,w,.inl ⟨.tuple #[.bool false],?_,.tup _ [.bool false] rfl (fun j a e=>?_)⟩,r,.refl _ _ _ _⟩
  ·simp [Instr.next,getObj,Sem.run,ha,hp']
  ·have:j=0:=by simpa using a
   subst this;exact .bool _
 ·rename_i ch hp;split at h
  case h_2=>cases h
  rename_i hle;cases h;obtain⟨hpl,hpe⟩:=List.getElem?_eq_some_iff.mp hp;have hp':p<s.size:=by omega
  have hce:s[p]'hp'=ch:=by
   rw [← hpe];subst hs;simp;rfl
  have hd:Utf8.decode s p=(ch.toNat,1):=by
   rw [← hce];exact decode_ascii s p hp' (by rw [hce];have:=Nat.le_of_ble_eq_true hle;omega)
  obtain⟨r',f'⟩:=r.write (w':={ w with heap:=w.heap.setIfInBounds g (.stringIter s (p+1)) }) b _ (.iter l (p+1)) g m hb hg (by simp) (fun x hx=>by simp [Ne.symm hx]) rfl rfl rfl ⟨s,by simp [hlt],hs⟩;refine⟨M,_,.inl ⟨.tuple #[.bool true,.int .i64 p,.int .i32 ch.toNat],?_,.tup _ [.bool true,.int .i64 p,.int .i32 ch.toNat] rfl (fun j a e=>?_)⟩,r',f'⟩
  ·simp [Instr.next,getObj,setObj,Sem.run,ha,hp',hd,goInt]
  ·have:j=0∨j=1∨j=2:=by simp at a;omega
   rcases this with rfl | rfl | rfl
   ·exact .bool _
   ·exact .int _ _
   ·exact .int _ _
/-! copy (of no more rows than there is room for) -/
def copyA (P:Program)(H:Heap)(t:TypeId)(a x:CV):Option (CV×Dl):=match ti P t with
 | some ⟨.slice e,_,_,_⟩=>match ti P e with
   | some i=>match srcA H i.size x with
     | some (m,l)=>match l.all CV.one with
       | true=>match a with
         | .sl b o n k=>match H b with
           | some (.cells cs)=>match Nat.ble m n && Nat.ble (o+l.length) cs.length with
             | true=>some (.int .i64 m,.set b (.cells (cs.take o++l++cs.drop (o+l.length))))
             | false=>none
           | _=>none
         | _=>none
       | false=>none
     | none=>none
   | none=>none
 | _=>none
theorem copyA_sound {P:Program}{H:Heap}{M:Mp}{nx:Nat}{w:World}{t t' ty:TypeId}{a x c:CV}{d:Dl}{av xv:Value}(h:copyA P H t a x=some (c,d))(r:Rep M H nx w)(ha:RV M a av)(hx:RV M x xv) :
  EOk P H M nx w (do pure (.value (← Builtin.copy_ #[t,t'] ty #[av,xv]))) c d:=by
 unfold copyA at h;split at h
 case h_2=>cases h
 rename_i e _ _ _ ht;split at h
 case h_2=>cases h
 rename_i i hti;split at h
 case h_2=>cases h
 rename_i q l hsrc;split at h
 case h_2=>cases h
 rename_i hone;split at h
 case h_2=>cases h
 rename_i b o n k;split at h
 case h_2=>cases h
 rename_i cs hb;split at h
 case h_2=>cases h
 rename_i hc;cases h;simp only [Bool.and_eq_true] at hc;have h1:=Nat.le_of_ble_eq_true hc.1;have h3:=Nat.le_of_ble_eq_true hc.2;obtain⟨news,hnl,hv,hrun⟩:=srcA_sound (P:=P) hsrc r hx;cases ha with
 | sl _ _ _ _ g m cc hm hn hmm =>
   obtain⟨g',m',hm',arr,T,hw,hs,hr⟩:=r.blk b _ hb;rw [hm] at hm';cases hm';have hcl:cs.length≤arr.size:=by have:=hr.1;simp at this;omega
   have hvl:news.length=l.length:=hv.1;have hst:=run_storeCells_at P g o T news 0 arr w hw (by omega) (fun v hv'=>oneV_oneCell (hv.oneV hone v hv'));obtain⟨r',f'⟩:=cells_write r hb hm hw hs hr hv h3;refine⟨M,_,.inl ⟨.int .i64 q,?_,.int _ _⟩,r',f'⟩;obtain⟨e1,e2⟩:=hrun w rfl;simp only [Builtin.copy_,List.getElem?_toArray,List.getElem?_cons_zero,List.getElem?_cons_succ,Sem.run_bind,ti_und ht,Result.andThen_ok,e1,Nat.min_def,if_pos h1,ti_size hti,e2];rw [hst];simp [goInt]
/-! one step that writes -/
def estep (P:Program)(H:Heap)(nx:Nat)(ρ:Operand→CV)(op:Op):Option (CV×Dl):=match op with
 | .store t a x=>storeA P H t (ρ a) (ρ x)
 | .mapUpdate t m k v=>mupA P H t (ρ m) (ρ k) (ρ v)
 | .insert t m k v=>mupA P H t (ρ m) (ρ k) (ρ v)
 | .next x str=>nextA H (ρ x) str
 | .call c=>match c.callee with
   | .builtin .append=>match c.argTypes.toList,c.args.toList with
     | [t,t'],[s,x]=>appA P H nx t t' (ρ s) (ρ x)
     | _,_=>none
   | .builtin .copy=>match c.argTypes.toList,c.args.toList with
     | [t,t'],[s,x]=>copyA P H t (ρ s) (ρ x)
     | _,_=>none
   | _=>none
 | _=>none
theorem estep_sound {P:Program}{H:Heap}{ρ:Operand→CV}{o:Oper}{c:CV}{d:Dl}{M:Mp}{nx:Nat}{w:World}{σ:Operand→Value}(h:estep P H nx ρ o.op=some (c,d))(r:Rep M H nx w)(hρ:∀ x∈o.op.operands,RV M (ρ x) (σ x)) :
  EOk P H M nx w (execOp σ o) c d:=by
 unfold estep at h;split at h
 ·rename_i t a x hop;have:=storeA_sound h r (hρ a (by simp [hop,Op.operands])) (hρ x (by simp [hop,Op.operands]));unfold execOp;rw [hop];exact this
 ·rename_i t m k v hop;have:=mupA_sound h r (hρ m (by simp [hop,Op.operands])) (hρ k (by simp [hop,Op.operands])) (hρ v (by simp [hop,Op.operands]));unfold execOp;rw [hop];exact this
 ·rename_i t m k v hop;have:=mupA_sound h r (hρ m (by simp [hop,Op.operands])) (hρ k (by simp [hop,Op.operands])) (hρ v (by simp [hop,Op.operands]));unfold execOp;rw [hop];exact this
 ·rename_i x str hop;have:=nextA_sound (P:=P) (ty:=o.type) h r (hρ x (by simp [hop,Op.operands]));unfold execOp;rw [hop];exact this
 ·rename_i cl hop;split at h
  ·rename_i hb;split at h
   ·rename_i t t' s x hts hxs;have ets:cl.argTypes=#[t,t']:=by apply Array.ext';simpa using hts
    have exs:cl.args=#[s,x]:=by apply Array.ext';simpa using hxs
    have:=appA_sound (ty:=o.type) h r (hρ s (by simp [hop,Op.operands,Call.operands,hb,exs])) (hρ x (by simp [hop,Op.operands,Call.operands,hb,exs]));have e:(execOp σ o).run P w=(do pure (.value (← Builtin.append_ #[t,t'] o.type #[σ s,σ x])):Sem Next).run P w:=by
     unfold execOp;rw [hop];simp only [resolve,hb,Sem.run_bind,Sem.run_pure,Result.andThen_ok,invoke,builtin,ets,exs,List.map_toArray,List.map_cons,List.map_nil]
    unfold EOk at this ⊢;rw [e];exact this
   ·cases h
  ·rename_i hb;split at h
   ·rename_i t t' s x hts hxs;have ets:cl.argTypes=#[t,t']:=by apply Array.ext';simpa using hts
    have exs:cl.args=#[s,x]:=by apply Array.ext';simpa using hxs
    have:=copyA_sound (P:=P) (t':=t') (ty:=o.type) h r (hρ s (by simp [hop,Op.operands,Call.operands,hb,exs])) (hρ x (by simp [hop,Op.operands,Call.operands,hb,exs]));have e:(execOp σ o).run P w=(do pure (.value (← Builtin.copy_ #[t,t'] o.type #[σ s,σ x])):Sem Next).run P w:=by
     unfold execOp;rw [hop];simp only [resolve,hb,Sem.run_bind,Sem.run_pure,Result.andThen_ok,invoke,builtin,ets,exs,List.map_toArray,List.map_cons,List.map_nil]
    unfold EOk at this ⊢;rw [e];exact this
   ·cases h
  ·cases h
 ·cases h
end Ax
end
section
namespace Ax
/-- How a call ends. -/
inductive Res where
 | ret (v:CV)
 | pan (v:CV)
def EndR (M:Mp):Res→Ending→Prop
 | .ret c,.returned v=>RV M c v
 | .pan c,.panicked ch=>∃ v,ch=[{ v,recovered:=false }]∧RV M c v
 | _,_=>False
/-- The package-level variables. -/
def Szd (M:Mp)(g:Nat):CV→Prop
 | .rop cs=>∃ arr T fr,M.fz g=some (.cells arr T fr)∧arr.size=cs.length
 | _=>True
theorem Szd.swap {M M':Mp}(hz:∀ g x,M.fz g=some x→M'.fz g=some x){g:Nat}{c:CV}(h:Szd M g c):Szd M' g c:=by
 cases c <;> simp only [Szd] at h ⊢;obtain⟨arr,T,fr,h1,h2⟩:=h;exact⟨arr,T,fr,hz _ _ h1,h2⟩
def RG (G:Nat→CV)(M:Mp):Prop:=∀ g,RV M (G g) (.pointer (some ⟨g,0,none⟩))∧Szd M g (G g)
theorem RG.ext {G:Nat→CV}{M M':Mp}(he:Ext M M')(h:RG G M):RG G M':=fun g=>⟨(h g).1.ext he,(h g).2.swap he.fz⟩
/-- A contract. -/
def ACall (P:Program)(G:Nat→CV)(f:FuncId)(args:List CV)(H:Heap)(nx:Nat)(Q:Res→Heap→Nat→Prop):Prop :=
 ∀ M w vs,RG G M→Rep M H nx w→RVs M args vs→Calls P f vs.toArray w fun e w'=>∃ M' r H' nx',EndR M' r e∧Rep M' H' nx' w'∧Fr H M nx w H' M' nx' w'∧Q r H' nx'
theorem ACall.mono {P:Program}{G:Nat→CV}{f:FuncId}{args:List CV}{H:Heap}{nx:Nat}{Q Q':Res→Heap→Nat→Prop}(h:ACall P G f args H nx Q)(hq:∀ r H' nx',Q r H' nx'→Q' r H' nx'):ACall P G f args H nx Q' :=
 fun M w vs g r a=>(h M w vs g r a).mono fun _ _ ⟨M',x,H',n',a1,a2,a3,a4⟩=>⟨M',x,H',n',a1,a2,a3,hq _ _ _ a4⟩
/-- How code ends. -/
inductive AExit where
 | normal
 | exit (id:Nat)
 | ret
 | pan (v:CV)
def ExR (M:Mp):AExit→Exit→Prop
 | .normal,.normal=>True
 | .exit i,.exit j=>i=j
 | .ret,.ret=>True
 | .pan c,.panic ch=>∃ v,ch=[{ v,recovered:=false }]∧RV M c v
 | _,_=>False
abbrev Env:=Nat→CV
def EnvR (M:Mp)(n:Nat)(e:Env)(a:Act):Prop:=a.tmps.size=n∧a.defers=[]∧∀ t,RV M (e t) (a.tmps.getD t undef)
theorem EnvR.ext {M M':Mp}{n:Nat}{e:Env}{a:Act}(he:Ext M M')(h:EnvR M n e a):EnvR M' n e a:=⟨h.1,h.2.1,fun t=>(h.2.2 t).ext he⟩
def putE (e:Env)(d:Option Nat)(c:CV):Env:=match d with
 | some i=>fun t=>if t=i then c else e t
 | none=>e
theorem EnvR.put {M:Mp}{n:Nat}{e:Env}{a:Act}{d:Option Nat}{c:CV}{v:Value}(h:EnvR M n e a)(hv:RV M c v)(hd:∀ i,d=some i→i<n):EnvR M n (putE e d c) (a.put d v):=by
 cases d with
 | none=>exact h
 | some i =>
   refine⟨by simp [Act.put,h.1],h.2.1,fun t=>?_⟩;have hi:i<a.tmps.size:=by rw [h.1];exact hd i rfl
   simp only [Act.put,putE,Array.getD_eq_getD_getElem?]
   by_cases e1:t=i
   ·subst e1;simp only [if_true,Array.getElem?_setIfInBounds_self_of_lt hi,Option.getD_some];exact hv
   ·simp only [e1,if_false,Array.getElem?_setIfInBounds_ne (Ne.symm e1)];have:=h.2.2 t;simpa [Array.getD_eq_getD_getElem?] using this
/-- What is known less. -/
theorem EnvR.weak {M:Mp}{n:Nat}{e e':Env}{a:Act}(h:EnvR M n e a)(hw:∀ t,e' t=e t∨e' t=.any):EnvR M n e' a :=
 ⟨h.1,h.2.1,fun t=>by rcases hw t with e1 | e1 <;> rw [e1];exact h.2.2 t;exact .any _⟩
def rd (G:Nat→CV)(e:Env):Operand→CV
 | .tmp t=>e t
 | .const v=>ofV v
 | .global g=>G g
 | .func f=>.fn (.func f) [] []
theorem EnvR.rd {M:Mp}{G:Nat→CV}{n:Nat}{e:Env}{a:Act}(h:EnvR M n e a)(hg:RG G M)(x:Operand):RV M (rd G e x) (a.eval x):=by
 cases x with
 | tmp t=>exact h.2.2 t
 | const v=>exact RV.ofV M v
 | global g=>exact (hg g).1
 | func f=>exact .fn (.func f) [] [] [] [] rfl rfl (fun j a=>by simp at a) (fun j a=>by simp at a)
/-- The concrete post of an abstract one. -/
def Post (n:Nat)(H:Heap)(M:Mp)(nx:Nat)(w:World)(Q:AExit→Env→Heap→Nat→Prop)(ex:Exit)(a':Act)(w':World):Prop :=
 ∃ M' x e' H' nx',ExR M' x ex∧Rep M' H' nx' w'∧Fr H M nx w H' M' nx' w'∧EnvR M' n e' a'∧Q x e' H' nx'
/-- Code, abstractly. -/
def AWp (P:Program)(G:Nat→CV)(n:Nat)(c:Code)(e:Env)(H:Heap)(nx:Nat)(Q:AExit→Env→Heap→Nat→Prop):Prop :=
 ∀ M a w,RG G M→Rep M H nx w→EnvR M n e a→c.wp P (Post n H M nx w Q) a w
theorem Post.trans {n:Nat}{H H1:Heap}{M M1:Mp}{nx nx1:Nat}{w w1:World}{Q:AExit→Env→Heap→Nat→Prop}(f:Fr H M nx w H1 M1 nx1 w1){ex:Exit}{a':Act}{w':World}(h:Post n H1 M1 nx1 w1 Q ex a' w'):Post n H M nx w Q ex a' w':=by
 obtain⟨M',x,e',H',nx',h1,h2,h3,h4,h5⟩:=h;exact⟨M',x,e',H',nx',h1,h2,f.trans h3,h4,h5⟩
theorem least {K:Nat→Prop}(h:∃ k,K k):∃ k,K k∧∀ j,K j→k≤j:=by
 obtain⟨k,hk⟩:=h
 induction k using Nat.strongRecOn with
 | _ k ih =>
   by_cases hx:∃ j,j<k∧K j
   ·obtain⟨j,hj,hkj⟩:=hx;exact ih j hj hkj
   ·exact⟨k,hk,fun j hj=>Nat.le_of_not_lt fun hl=>hx ⟨j,hl,hj⟩⟩
section rules
variable {P:Program} {G:Nat→CV} {n:Nat} {e:Env} {H:Heap} {nx:Nat} {Q:AExit→Env→Heap→Nat→Prop}
theorem AWp.mono {c:Code}{Q':AExit→Env→Heap→Nat→Prop}(h:AWp P G n c e H nx Q)(hq:∀ x e H nx,Q x e H nx→Q' x e H nx):AWp P G n c e H nx Q' :=
 fun M a w g r v=>wp_mono (h M a w g r v) fun _ _ _ ⟨M',x,e',H',nx',h1,h2,h3,h4,h5⟩=>⟨M',x,e',H',nx',h1,h2,h3,h4,hq _ _ _ _ h5⟩
theorem Xi (h:Q .normal e H nx):AWp P G n .skip e H nx Q:=fun M a w g r v=>wp_skip ⟨M,.normal,e,H,nx,trivial,r,.refl _ _ _ _,v,h⟩
theorem Xh {id:Nat}(h:Q (.exit id) e H nx):AWp P G n (.exit id) e H nx Q:=fun M a w g r v=>wp_exit ⟨M,.exit id,e,H,nx,rfl,r,.refl _ _ _ _,v,h⟩
theorem Xo (h:Q .ret e H nx):AWp P G n .ret e H nx Q:=fun M a w g r v=>wp_ret ⟨M,.ret,e,H,nx,trivial,r,.refl _ _ _ _,v,h⟩
def Xx (next:Env→Heap→Nat→Prop)(Q:AExit→Env→Heap→Nat→Prop):AExit→Env→Heap→Nat→Prop
 | .normal,e,H,nx=>next e H nx
 | x,e,H,nx=>Q x e H nx
theorem Xn {x y:Code}(h:AWp P G n x e H nx (Xx (fun e H nx=>AWp P G n y e H nx Q) Q)):AWp P G n (.seq x y) e H nx Q:=fun M a w g r v=>wp_seq (wp_mono (h M a w g r v) (by
 rintro ex a' w' ⟨M',x',e',H',nx',h1,h2,h3,h4,h5⟩;cases x' with
 | normal =>
   cases ex <;> simp only [ExR] at h1;exact wp_mono (h5 M' a' w' (g.ext h3.ext) h2 h4) fun _ _ _ hp=>hp.trans h3
 | exit id=>cases ex <;> simp only [ExR] at h1;subst h1;exact⟨M',.exit _,e',H',nx',rfl,h2,h3,h4,h5⟩
 | ret=>cases ex <;> simp only [ExR] at h1;exact⟨M',.ret,e',H',nx',trivial,h2,h3,h4,h5⟩
 | pan c=>cases ex <;> simp only [ExR] at h1;exact⟨M',.pan c,e',H',nx',h1,h2,h3,h4,h5⟩))
theorem AWp.cond {c:Operand}{x y:Code}{b:Bool}(hc:rd G e c=.bool b)(h:AWp P G n (if b then x else y) e H nx Q):AWp P G n (.cond c x y) e H nx Q:=fun M a w g r v=>by
 have:=v.rd g c;rw [hc] at this;generalize hv:a.eval c=u at this;cases this;exact wp_cond hv (h M a w g r v)
theorem AWp.cond' {c:Operand}{x y:Code}{b:Bool}(hc:rd G e c=.bool b)(h1:b=true→AWp P G n x e H nx Q)(h2:b=false→AWp P G n y e H nx Q):AWp P G n (.cond c x y) e H nx Q:=by
 refine AWp.cond hc ?_;cases b
 ·exact h2 rfl
 ·exact h1 rfl
def Xy (id:Nat)(Q:AExit→Env→Heap→Nat→Prop):AExit→Env→Heap→Nat→Prop
 | .exit i,e,H,nx=>if i=id then Q .normal e H nx else Q (.exit i) e H nx
 | x,e,H,nx=>Q x e H nx
theorem Xc {id:Nat}{c:Code}(h:AWp P G n c e H nx (Xy id Q)):AWp P G n (.block id c) e H nx Q:=fun M a w g r v=>wp_block (wp_mono (h M a w g r v) (by
 rintro ex a' w' ⟨M',x',e',H',nx',h1,h2,h3,h4,h5⟩;cases x' with
 | normal=>cases ex <;> simp only [ExR] at h1;exact⟨M',.normal,e',H',nx',trivial,h2,h3,h4,h5⟩
 | exit i =>
   cases ex <;> simp only [ExR] at h1;subst h1;simp only [Xy] at h5;simp only [Exit.inBlock];split
   ·rename_i hi;rw [if_pos hi] at h5;exact⟨M',.normal,e',H',nx',trivial,h2,h3,h4,h5⟩
   ·rename_i hi;rw [if_neg hi] at h5;exact⟨M',.exit _,e',H',nx',rfl,h2,h3,h4,h5⟩
 | ret=>cases ex <;> simp only [ExR] at h1;exact⟨M',.ret,e',H',nx',trivial,h2,h3,h4,h5⟩
 | pan c=>cases ex <;> simp only [ExR] at h1;exact⟨M',.pan c,e',H',nx',h1,h2,h3,h4,h5⟩))
/-- Loops: a family of states, a measure. -/
theorem AWp.loop {c:Code}{α:Type}(S:α→Env→Heap→Nat→Prop)(μ:α→Nat)(x0:α)(h0:S x0 e H nx)
  (round:∀ x e H nx,S x e H nx→AWp P G n c e H nx (Xx (fun e' H' nx'=>∃ y,μ y<μ x∧S y e' H' nx') Q)):AWp P G n (.loop c) e H nx Q:=fun M a w g r v=>by
 let R:α→Act→World→Prop:=fun x a' w'=>∃ M' e' H' nx',S x e' H' nx'∧Rep M' H' nx' w'∧EnvR M' n e' a'∧Fr H M nx w H' M' nx' w'
 let K:Act→World→Nat→Prop:=fun a' w' k=>∃ x,R x a' w'∧μ x=k
 have hK:∀ a' w',(∃ x,R x a' w')→∃ k,K a' w' k:=fun a' w' ⟨x,hx⟩=>⟨μ x,x,hx,rfl⟩
 classical
 let m:Act→World→Nat:=fun a' w'=>if h:∃ k,K a' w' k then (least h).choose else 0
 refine wp_loop (I:=fun a' w'=>∃ x,R x a' w') m ⟨x0,M,e,H,nx,h0,r,v,.refl _ _ _ _⟩ ?_;intro a1 w1 hI;have hk:=hK a1 w1 hI;obtain⟨x,⟨M1,e1,H1,nx1,hs,r1,v1,f1⟩,hx⟩:=(least hk).choose_spec.1;have hm:m a1 w1=μ x:=by simp only [m,hk,dif_pos];exact hx.symm
 refine wp_mono (round x e1 H1 nx1 hs M1 a1 w1 (g.ext f1.ext) r1 v1) ?_;rintro ex a' w' ⟨M',x',e',H',nx',h1,h2,h3,h4,h5⟩;cases x' with
 | normal =>
   cases ex <;> simp only [ExR] at h1;obtain⟨y,hy,hsy⟩:=h5;have hRy:R y a' w':=⟨M',e',H',nx',hsy,h2,h4,f1.trans h3⟩;refine⟨⟨y,hRy⟩,?_⟩;have hk':∃ k,K a' w' k:=⟨μ y,y,hRy,rfl⟩;have:m a' w'≤μ y:=by simp only [m,hk',dif_pos];exact (least hk').choose_spec.2 _ ⟨y,hRy,rfl⟩
   omega
 | exit id=>cases ex <;> simp only [ExR] at h1;subst h1;exact⟨M',.exit _,e',H',nx',rfl,h2,f1.trans h3,h4,h5⟩
 | ret=>cases ex <;> simp only [ExR] at h1;exact⟨M',.ret,e',H',nx',trivial,h2,f1.trans h3,h4,h5⟩
 | pan c=>cases ex <;> simp only [ExR] at h1;exact⟨M',.pan c,e',H',nx',h1,h2,f1.trans h3,h4,h5⟩
end rules
/-! regions in their order -/
def AOps (P:Program)(G:Nat→CV)(n:Nat)(ops:Array Oper)(l:List Nat)(e:Env)(H:Heap)(nx:Nat)(Q:AExit→Env→Heap→Nat→Prop):Prop :=
 ∀ M a w,RG G M→Rep M H nx w→EnvR M n e a→wpOps P ops (Post n H M nx w Q) l a w
theorem wpOps_mono {P:Program}{ops:Array Oper}{Q Q':Exit→Act→World→Prop}(hq:∀ x a w,Q x a w→Q' x a w):∀ (l:List Nat) {a:Act} {w:World},wpOps P ops Q l a w→wpOps P ops Q' l a w
 | [],a,w,h=>hq _ _ _ h
 | i::l,a,w,h=>by
   have key:∀ {o:Oper} {a:Act} {w:World},o.wp P a w (wpOps P ops Q l) Q→o.wp P a w (wpOps P ops Q' l) Q':=by
    intro o a w hh;unfold Oper.wp at *;generalize (execOp a.eval o).run P w=r at *;cases r with
    | ok nn w' =>
      cases nn <;> simp only [Oper.upon] at hh ⊢ <;> first
       | exact wpOps_mono hq l hh
       | (refine Calls.mono hh (fun e w'' he=>?_)
          cases e with
          | returned v=>exact wpOps_mono hq l he
          | panicked ch=>exact hq _ _ _ he
          | outgrown=>exact he.imp fun _ hh=>hh.imp fun _ hh=>hq _ _ _ hh)
       | exact Rows.mono hh (fun _ _ he=>wpOps_mono hq l he)
    | halt x w'=>cases x <;> simp only [Oper.upon] at hh ⊢ <;> exact hq _ _ _ hh
   unfold wpOps at h ⊢;split
   ·rename_i ho;simp only [ho] at h;exact wpOps_mono hq l h
   ·rename_i o ho;simp only [ho] at h;split
    ·rename_i hw;simp only [hw,if_true] at h;rcases h with h | ⟨h1,h2⟩
     ·exact .inl (key h)
     ·exact .inr ⟨h1,h2.imp fun _ hh=>hh.imp fun _ hh=>hq _ _ _ hh⟩
    ·rename_i hw;simp only [hw] at h;exact wpOps_mono hq l h
section ops
variable {P:Program} {G:Nat→CV} {n:Nat} {e:Env} {H:Heap} {nx:Nat} {Q:AExit→Env→Heap→Nat→Prop} {ops:Array Oper} {i:Nat} {l:List Nat} {o:Oper}
theorem AWp.region {id:Nat}(h:AOps P G n ops (List.range ops.size) e H nx Q):AWp P G n (.region id ops false) e H nx Q:=fun M a w g r v=>wp_region (h M a w g r v)
theorem AOps.nil (h:Q .normal e H nx):AOps P G n ops [] e H nx Q:=fun M a w g r v=>⟨M,.normal,e,H,nx,trivial,r,.refl _ _ _ _,v,h⟩
/-- Whether an operation is wanted. -/
def gd (ops:Array Oper)(e:Env)(o:Oper):Option Bool:=match o.guard with
 | none=>some true
 | some (j,want)=>match ops[j]? with
   | some oj=>match oj.dst with
     | some t=>match e t with
       | .bool b=>some (b == want)
       | .tup []=>some false
       | _=>none
     | none=>none
   | none=>none
theorem RV.undef (M:Mp):RV M (.tup []) undef:=.tup [] [] rfl (fun j a=>by simp at a)
theorem gd_sound {M:Mp}{a:Act}{b:Bool}(h:gd ops e o=some b)(v:EnvR M n e a):Region.wanted o (yielded ops a.tmps)=b:=by
 unfold gd at h;unfold Region.wanted;split at h
 ·rename_i hg;cases h;rw [hg]
 ·rename_i j want hg;rw [hg];split at h
  ·rename_i oj hoj;split at h
   ·rename_i t ht;split at h
    ·rename_i b' hb;cases h;have:=v.2.2 t;rw [hb] at this;have hy:yielded ops a.tmps j=some b':=by
      unfold yielded;simp only [hoj,ht,Option.bind_some];generalize hx:a.tmps.getD t undef=x at this;cases this;rw [Array.getD_eq_getD_getElem?] at hx;cases hz:a.tmps[t]? with
      | none=>rw [hz] at hx;simp [undef] at hx
      | some z=>rw [hz] at hx;simp at hx;subst hx;rfl
     simp only [hy];cases b' <;> cases want <;> rfl
    ·rename_i hb;cases h;have:=v.2.2 t;rw [hb] at this;have hy:yielded ops a.tmps j=none:=by
      unfold yielded;simp only [hoj,ht,Option.bind_some];generalize hx:a.tmps.getD t undef=x at this;cases this;rw [Array.getD_eq_getD_getElem?] at hx;cases hz:a.tmps[t]? with
      | none=>rfl
      | some z=>rw [hz] at hx;simp at hx;subst hx;rfl
     simp only [hy];cases want <;> rfl
    ·cases h
   ·cases h
  ·cases h
theorem AOps.unwanted (ho:ops[i]?=some o)(hg:gd ops e o=some false)(hd:∀ j,o.dst=some j→j<n)(h:AOps P G n ops l (putE e o.dst (.tup [])) H nx Q):AOps P G n ops (i::l) e H nx Q:=fun M a w g r v=>by
 unfold wpOps;simp only [ho,gd_sound hg v,Bool.false_eq_true,if_false];exact h M _ w g r (v.put (RV.undef M) hd)
theorem AOps.quiet (ho:ops[i]?=some o)(hg:gd ops e o=some true)(hd:∀ j,o.dst=some j→j<n){c:CV}(hq:qstep P H (rd G e) o.op=some c)(h:AOps P G n ops l (putE e o.dst c) H nx Q):AOps P G n ops (i::l) e H nx Q:=fun M a w g r v=>by
 unfold wpOps;simp only [ho,gd_sound hg v,if_true];obtain⟨z,h1,h2⟩:=qstep_sound hq r (fun x _=>v.rd g x);left;unfold Oper.wp;rw [h1];exact h M _ w g r (v.put h2 hd)
theorem AOps.new (ho:ops[i]?=some o)(hg:gd ops e o=some true)(hd:∀ j,o.dst=some j→j<n){c:CV}{k:CB}(hq:astep P (rd G e) nx o.op=some (c,k))(h:AOps P G n ops l (putE e o.dst c) (upd H nx k) (nx+1) Q):AOps P G n ops (i::l) e H nx Q:=fun M a w g r v=>by
 unfold wpOps;simp only [ho,gd_sound hg v,if_true];have hf:=r.fresh nx (Nat.le_refl _);obtain⟨z,obj,m,w',h1,h2,h3,h4,h5,h6,h7⟩:=astep_sound (w:=w) hq hf (fun x _=>v.rd g x);have r':=r.new nx k m obj hf (Nat.le_succ nx) (Nat.lt_succ_self nx) h2 h6;have f':Fr H M nx w (upd H nx k) (updM M nx (w.heap.size,m)) (nx+1) w':=Fr.new nx k m obj hf (Nat.le_refl _) (Nat.le_succ nx) (Sub.refl _) h2 h3 h4 h5;left;unfold Oper.wp;rw [h1];exact wpOps_mono (fun _ _ _ hp=>hp.trans f') l (h _ _ w' (g.ext f'.ext) r' ((v.ext f'.ext).put h7 hd))
theorem AOps.write (ho:ops[i]?=some o)(hg:gd ops e o=some true)(hd:∀ j,o.dst=some j→j<n){c:CV}{d:Dl}(hq:estep P H nx (rd G e) o.op=some (c,d))(h:AOps P G n ops l (putE e o.dst c) (d.hp H nx) (d.nx nx) Q):AOps P G n ops (i::l) e H nx Q:=fun M a w g r v=>by
 unfold wpOps;simp only [ho,gd_sound hg v,if_true];obtain⟨M',w',h1,r',f'⟩:=estep_sound hq r (fun x _=>v.rd g x);left;unfold Oper.wp;rcases h1 with⟨z,h1,h2⟩ | ⟨h1,h2⟩
 ·rw [h1];exact wpOps_mono (fun _ _ _ hp=>hp.trans f') l (h _ _ w' (g.ext f'.ext) r' ((v.ext f'.ext).put h2 hd))
 ·rw [h1];subst h2;exact wpOps_mono (fun _ _ _ hp=>hp.trans f') l (h _ _ w' (g.ext f'.ext) r' ((v.ext f'.ext).put (.any _) hd))
/-- Which function a call enters, with which arguments. -/
def callA (ρ:Operand→CV)(op:Op):Option (FuncId×List CV):=match op with
 | .call c=>match c.callee with
   | .value x=>match ρ x with
     | .fn (.func f) first captured=>some (f,first++c.args.toList.map ρ++captured)
     | _=>none
   | _=>none
 | _=>none
def enters (P:Program)(f:FuncId):Bool:=match P.funcs[f]? with
 | some fn=>fn.name != "runtime.NumGoroutine" && fn.body.isSome
 | none=>false
theorem callA_sound {M:Mp}{ρ:Operand→CV}{σ:Operand→Value}{f:FuncId}{args:List CV}{w:World}(h:callA ρ o.op=some (f,args))(he:enters P f=true)(hρ:∀ x∈o.op.operands,RV M (ρ x) (σ x)) :
  ∃ vs:List Value,(execOp σ o).run P w=.ok (.enter f vs.toArray) w∧RVs M args vs:=by
 unfold callA at h;split at h
 case h_2=>cases h
 rename_i c hop;split at h
 case h_2=>cases h
 rename_i x hx;split at h
 case h_2=>cases h
 rename_i f' first captured hf
 cases h;have hxr:=hρ x (by simp [hop,Op.operands,Call.operands,hx]);rw [hf] at hxr;generalize hv:σ x=v at hxr;have hargs:RVs M (c.args.toList.map ρ) (c.args.toList.map σ):=RVs.map fun y hy=>hρ y (by simp [hop,Op.operands,Call.operands,hx];right;simpa using hy)
 cases hxr with
 | fn _ _ _ fs cs l1 l2 h1 h2 =>
   refine⟨fs++c.args.toList.map σ++cs,?_,(RVs.append (RVs.append ⟨l1,h1⟩ hargs) ⟨l2,h2⟩)⟩;unfold enters at he;cases hfn:P.funcs[f]? with
   | none=>rw [hfn] at he;cases he
   | some fn =>
     rw [hfn] at he;simp only [Bool.and_eq_true] at he;have hn:(fn.name == "runtime.NumGoroutine")=false:=by have:=he.1;simpa [bne] using this
     have hb:fn.body.isNone=false:=by cases hbb:fn.body <;> simp_all
     have ea:(fs.toArray++c.args.map σ++cs.toArray)=(fs++c.args.toList.map σ++cs).toArray:=by apply Array.ext';simp
     unfold execOp;rw [hop];simp only [resolve,hx,hv,Deferred.ofValue,Sem.run_bind,Sem.run_pure,Result.andThen_ok,invoke,callFunc,run_program,hfn,hn,hb,Bool.false_eq_true,if_false,ea]
theorem AOps.call (ho:ops[i]?=some o)(hg:gd ops e o=some true)(hd:∀ j,o.dst=some j→j<n){f:FuncId}{args:List CV}(hq:callA (rd G e) o.op=some (f,args))(he:enters P f=true)
  (h:ACall P G f args H nx fun r H' nx'=>match r with
   | .ret v=>AOps P G n ops l (putE e o.dst v) H' nx' Q
   | .pan v=>Q (.pan v) e H' nx'):AOps P G n ops (i::l) e H nx Q:=fun M a w g r v=>by
 unfold wpOps;simp only [ho,gd_sound hg v,if_true];obtain⟨vs,h1,h2⟩:=callA_sound (w:=w) hq he (fun x _=>v.rd g x);left;unfold Oper.wp;rw [h1,Oper.upon_enter];refine (h M w vs g r h2).mono ?_;rintro en w' ⟨M',x,H',nx',a1,a2,a3,a4⟩;cases x with
 | ret c =>
   cases en <;> simp only [EndR] at a1;exact wpOps_mono (fun _ _ _ hp=>hp.trans a3) l (a4 _ _ w' (g.ext a3.ext) a2 ((v.ext a3.ext).put a1 hd))
 | pan c =>
   cases en <;> simp only [EndR] at a1;exact⟨M',.pan c,e,H',nx',a1,a2,a3,v.ext a3.ext,a4⟩
theorem AOps.panic (ho:ops[i]?=some o)(hg:gd ops e o=some true){x:Operand}{t:TypeId}{c:CV}(hop:o.op=.panic x)(hx:rd G e x=.iface t c)(h:Q (.pan (.iface t c)) e H nx):AOps P G n ops (i::l) e H nx Q:=fun M a w g r v=>by
 unfold wpOps;simp only [ho,gd_sound hg v,if_true];have hr:=v.rd g x;rw [hx] at hr;generalize hv:a.eval x=u at hr;have hr0:=hr;cases hr with
 | iface _ _ u hu =>
   left;unfold Oper.wp;have:(execOp a.eval o).run P w=.halt (.panic (.iface t u)) w:=by
    unfold execOp;rw [hop];simp only [Sem.run_bind,hv,Instr.panic,run_goPanic,Result.andThen_halt]
   rw [this,Oper.upon_panic];exact⟨M,.pan _,e,H,nx,⟨_,rfl,hr0⟩,r,.refl _ _ _ _,v,h⟩
end ops
/-! bodies -/
def resA (P:Program)(H:Heap)(e:Env):List ResultVar→Option (List CV)
 | []=>some []
 | .tmp t::rs=>match resA P H e rs with
   | some l=>some (e t::l)
   | none=>none
 | .cell a t::rs=>match loadA P H t (e a) with
   | some c=>match resA P H e rs with
     | some l=>some (c::l)
     | none=>none
   | none=>none
def resOne (tmps:Array Value):ResultVar→Sem Value
 | .tmp t=>pure (tmps.getD t undef)
 | .cell b t=>do loadVar t (← asAddr (tmps.getD b undef))
theorem results_eq (fn:Func)(tmps:Array Value):results fn tmps=(do let vs ← fn.results.mapM (resOne tmps);pure (if h:vs.size=1 then vs[0] else .tuple vs)):=by
 unfold results
 congr 2
def packA:List CV→CV
 | [c]=>c
 | l=>.tup l
theorem resA_sound {P:Program}{H:Heap}{M:Mp}{nx n:Nat}{w:World}{e:Env}{a:Act}(r:Rep M H nx w)(v:EnvR M n e a):∀ {rs:List ResultVar} {l:List CV},resA P H e rs=some l →
  ∃ vs:List Value,(rs.mapM (resOne a.tmps)).run P w=.ok vs w∧RVs M l vs
 | [],l,h=>by cases h;exact⟨[],by simp,.nil⟩
 | .tmp t::rs,l,h=>by
   unfold resA at h;split at h
   ·rename_i l' hl';cases h;obtain⟨vs,h1,h2⟩:=resA_sound r v hl';exact⟨a.tmps.getD t undef::vs,by simp only [List.mapM_cons,resOne,Sem.run_bind,Sem.run_pure,Result.andThen_ok,h1],.cons (v.2.2 t) h2⟩
   ·cases h
 | .cell b t::rs,l,h=>by
   unfold resA at h;split at h
   ·rename_i c hc;split at h
    ·rename_i l' hl';cases h;obtain⟨vs,h1,h2⟩:=resA_sound r v hl';obtain⟨u,h3,h4⟩:=loadA_sound hc r (v.2.2 b);refine⟨u::vs,?_,.cons h4 h2⟩;have h5:(do loadVar t (← asAddr (a.tmps.getD b undef)):Sem Value).run P w=.ok u w:=by
      have hp:=v.2.2 b;unfold loadA at hc;split at hc
      ·cases hc
      ·split at hc
       ·rename_i hb;rw [hb] at hp;generalize hq:a.tmps.getD b undef=q at hp h3;cases hp;simp only [Instr.loadAt,Instr.sureAddr,Sem.run_bind,Sem.run_pure,Result.andThen_ok] at h3;simp only [asAddr,Sem.run_bind,Sem.run_pure,Result.andThen_ok,h3]
       ·rename_i hb;rw [hb] at hp;generalize hq:a.tmps.getD b undef=q at hp h3;cases hp;simp only [Instr.loadAt,Instr.sureAddr,Sem.run_bind,Sem.run_pure,Result.andThen_ok] at h3;simp only [asAddr,Sem.run_bind,Sem.run_pure,Result.andThen_ok,h3]
       ·cases hc
     have h6:(resOne a.tmps (.cell b t)).run P w=.ok u w:=h5;simp only [List.mapM_cons,Sem.run_bind,h6,h1,Result.andThen_ok,Sem.run_pure]
    ·cases h
   ·cases h
theorem RVs.pack {M:Mp}{l:List CV}{vs:List Value}(h:RVs M l vs):RV M (packA l) (if h:vs.toArray.size=1 then vs.toArray[0] else .tuple vs.toArray):=by
 have hl:=h.1
 match l,vs,hl with
 | [],[],_=>exact .tup _ _ h.1 h.2
 | [c],[v],_=>exact h.head
 | c::c'::l,v::v'::vs,_ =>
   have:¬ (v::v'::vs).toArray.size=1:=by simp
   rw [dif_neg this];exact .tup _ _ h.1 h.2
/-- What the body must come to. -/
def BodyQ (P:Program)(fn:Func)(Q:Res→Heap→Nat→Prop):AExit→Env→Heap→Nat→Prop
 | .normal,e,H,nx | .ret,e,H,nx=>∃ l,resA P H e fn.results.toList=some l∧Q (.ret (packA l)) H nx
 | .pan v,_,H,nx=>Q (.pan v) H nx
 | .exit _,_,_,_=>False
def argE (args:List CV):Env:=fun t=>(args[t]?).getD .any
theorem ACall.of_body {P:Program}{G:Nat→CV}{f:FuncId}{fn:Func}{c:Code}{args:List CV}{H:Heap}{nx:Nat}{Q:Res→Heap→Nat→Prop}(hf:P.funcs[f]?=some fn)(hb:fn.body=some c)
  (h:AWp P G (max args.length fn.ntmps) c (argE args) H nx (BodyQ P fn Q)):ACall P G f args H nx Q:=by
 intro M w vs g r hv;refine calls_of_wp hf hb (wp_mono (h M _ w g r ?_) ?_)
 ·refine⟨by simp [hv.1];omega,rfl,fun t=>?_⟩;simp only [argE,Array.getD_eq_getD_getElem?];cases ha:args[t]? with
  | none=>exact .any _
  | some c =>
    obtain⟨u,hu,hr⟩:=hv.at' ha;have hlt:=(List.getElem?_eq_some_iff.mp hu).1;rw [Array.getElem?_append_left (by simpa using hlt)];simp only [List.getElem?_toArray,hu,Option.getD_some];exact hr
 ·rintro ex a' w' ⟨M',x',e',H',nx',h1,h2,h3,h4,h5⟩;have fin:(∃ l,resA P H' e' fn.results.toList=some l∧Q (.ret (packA l)) H' nx')→a'.defers=[]∧∃ v,(results fn a'.tmps).run P w'=.ok v w'∧∃ M'' r H'' nx'',EndR M'' r (.returned v)∧Rep M'' H'' nx'' w'∧Fr H M nx w H'' M'' nx'' w'∧Q r H'' nx'':=by
   rintro⟨l,hl,hq⟩;obtain⟨us,h6,h7⟩:=resA_sound h2 h4 hl;refine⟨h4.2.1,_,?_,M',.ret (packA l),H',nx',h7.pack,h2,h3,hq⟩;rw [results_eq,Sem.run_bind,Array.mapM_eq_mapM_toList];simp only [Sem.run_map,h6,Result.andThen_ok,Sem.run_pure]
  cases x' with
  | normal=>cases ex <;> simp only [ExR] at h1;exact fin h5
  | exit id=>exact h5.elim
  | ret=>cases ex <;> simp only [ExR] at h1;exact fin h5
  | pan c =>
    cases ex <;> simp only [ExR] at h1;exact⟨h4.2.1,M',.pan c,H',nx',h1,h2,h3,h5⟩
end Ax
end
section
namespace Ax
/-! which operations come before which -/
def maskOf (acc:List Nat)(es:List Edge):Nat:=match es with
 | []=>0
 | e::es=>match Region.binds .any e with
   | true=>(2 ^ e.on ||| (acc[e.on]?).getD 0) ||| maskOf acc es
   | false=>maskOf acc es
def masks:List Nat→List Oper→List Nat
 | acc,[]=>acc
 | acc,o::os=>masks (acc++[maskOf acc o.after.toList]) os
def ancs (ops:Array Oper):List Nat:=masks [] ops.toList
def anc (A:List Nat)(i j:Nat):Bool:=((A[i]?).getD 0).testBit j
theorem maskOf_spec {acc:List Nat}{j:Nat}:∀ {es:List Edge},(maskOf acc es).testBit j=true→∃ e∈es,Region.binds .any e=true∧(e.on=j∨((acc[e.on]?).getD 0).testBit j=true)
 | [],h=>by simp [maskOf] at h
 | e::es,h=>by
   unfold maskOf at h;split at h
   ·rename_i hb;rw [Nat.testBit_or,Nat.testBit_or,Bool.or_eq_true,Bool.or_eq_true] at h;rcases h with (h | h) | h
    ·rw [Nat.testBit_two_pow] at h;exact⟨e,by simp,hb,.inl (by simpa using h)⟩
    ·exact⟨e,by simp,hb,.inr h⟩
    ·obtain⟨e',h1,h2⟩:=maskOf_spec h;exact⟨e',by simp [h1],h2⟩
   ·obtain⟨e',h1,h2⟩:=maskOf_spec h;exact⟨e',by simp [h1],h2⟩
theorem masks_spec:∀ {os:List Oper} {acc:List Nat} {i:Nat},acc.length≤i→i<acc.length+os.length→∃ o pre,os[i-acc.length]?=some o∧(masks acc os)[i]?=some (maskOf pre o.after.toList)∧pre.length=i∧(∀ k,k<i→(masks acc os)[k]?=pre[k]?)
 | [],acc,i,h1,h2=>by simp at h2;omega
 | o::os,acc,i,h1,h2=>by
   unfold masks;have mono:∀ {os:List Oper} {acc:List Nat} {k:Nat},k<acc.length→(masks acc os)[k]?=acc[k]?:=by
    intro os
    induction os with
    | nil=>intro acc k hk;rfl
    | cons o os ih=>intro acc k hk;unfold masks;rw [ih (by simp;omega)];rw [List.getElem?_append_left hk]
   by_cases he:i=acc.length
   ·subst he;refine⟨o,acc,by simp,?_,rfl,fun k hk=>?_⟩
    ·rw [mono (by simp)];simp
    ·rw [mono (by simp;omega),List.getElem?_append_left hk]
   ·obtain⟨o',pre,e1,e2,e3,e4⟩:=masks_spec (os:=os) (acc:=acc++[maskOf acc o.after.toList]) (i:=i) (by simp;omega) (by simp at h2 ⊢;omega);refine⟨o',pre,?_,e2,e3,e4⟩;rw [show i-acc.length=(i-(acc++[maskOf acc o.after.toList]).length)+1 by simp;omega];simpa using e1
theorem anc_spec {ops:Array Oper}{i j:Nat}(h:anc (ancs ops) i j=true):∃ o,ops[i]?=some o∧∃ e∈o.after.toList,Region.binds .any e=true∧(e.on=j∨(e.on<i∧anc (ancs ops) e.on j=true)):=by
 have hlen:∀ {os:List Oper} {acc:List Nat},(masks acc os).length=acc.length+os.length:=by
  intro os
  induction os with
  | nil=>intro acc;rfl
  | cons o os ih=>intro acc;unfold masks;rw [ih];simp;omega
 have hi:i<ops.size:=by
  refine Nat.lt_of_not_le fun hn=>?_
  unfold anc ancs at h;rw [List.getElem?_eq_none (by rw [hlen];simpa using hn)] at h;simp at h
 obtain⟨o,pre,e1,e2,e3,e4⟩:=masks_spec (os:=ops.toList) (acc:=[]) (i:=i) (by simp) (by simpa using hi);unfold anc ancs at h;rw [e2] at h;obtain⟨e,h1,h2,h3⟩:=maskOf_spec (by simpa using h);refine⟨o,by simpa using e1,e,h1,h2,?_⟩;rcases h3 with h3 | h3
 ·exact .inl h3
 ·by_cases hlt:e.on<i
  ·refine .inr ⟨hlt,?_⟩;unfold anc ancs;rw [e4 _ hlt];exact h3
  ·rw [List.getElem?_eq_none (by omega)] at h3;simp at h3
/-- What stands is closed: with an operation stand those before it. -/
def Clo (ops:Array Oper)(L:Nat→Bool):Prop:=∀ i o,ops[i]?=some o→L i=true→∀ e∈o.after.toList,Region.binds .any e=true→L e.on=true
theorem Clo.anc {ops:Array Oper}{L:Nat→Bool}(h:Clo ops L):∀ {i j:Nat},Ax.anc (ancs ops) i j=true→L i=true→L j=true:=by
 intro i
 induction i using Nat.strongRecOn with
 | _ i ih =>
   intro j ha hi;obtain⟨o,ho,e,he,hb,hj⟩:=anc_spec ha;have h1:=h i o ho hi e he hb;rcases hj with hj | ⟨hlt,hj⟩
   ·rw [← hj];exact h1
   ·exact ih e.on hlt hj h1
theorem Clo.ready {ops:Array Oper}{L:Nat→Bool}(h:Clo ops L){i j:Nat}{o:Oper}(ho:ops[i]?=some o)(hr:∀ e∈o.after.toList,Region.binds .any e=true→L e.on=true)(ha:Ax.anc (ancs ops) i j=true):L j=true:=by
 obtain⟨o',ho',e,he,hb,hj⟩:=anc_spec ha;rw [ho] at ho';cases ho';have h1:=hr e he hb;rcases hj with hj | ⟨hlt,hj⟩
 ·rw [← hj];exact h1
 ·exact h.anc hj h1
/-! the plan of a region -/
inductive Act1 where
 | skip
 | quiet (c:CV)
 | alloc (c:CV) (k:CB)
 | eff (j:Nat) (c:CV)
 | pan (j:Nat) (v:CV)
 | dead
structure Plan where
 act:Nat→Act1
 hs:Nat→Heap
 nxs:Nat→Nat
 m:Nat
 eix:Nat→Nat
def Act1.val:Act1→CV
 | .quiet c=>c
 | .alloc c _=>c
 | .eff _ c=>c
 | .skip=>.tup []
 | _=>.any
def wr (ops:Array Oper)(t:Nat):Option Nat:=(List.range ops.size).find? fun i=>match ops[i]? with
 | some o=>o.dst == some t
 | none=>false
def envL (ops:Array Oper)(pl:Plan)(e0:Env)(L:Nat→Bool):Env:=fun t=>match wr ops t with
 | some i=>match L i with
   | true=>(pl.act i).val
   | false=>e0 t
 | none=>e0 t
/-- The new blocks that stand, but for those that an effect has had. -/
def newL (ops:Array Oper)(pl:Plan)(nx0 J:Nat)(L:Nat→Bool)(b:Nat):Option CB:=match Nat.ble nx0 b && L (b-nx0) with
 | true=>match pl.act (b-nx0) with
   | .alloc _ k=>match (List.range J).any (fun j=>anc (ancs ops) (pl.eix j) (b-nx0)) with
     | true=>none
     | false=>some k
   | _=>none
 | false=>none
def heapL (ops:Array Oper)(pl:Plan)(nx0 J:Nat)(L:Nat→Bool):Heap:=fun b=>match newL ops pl nx0 J L b with
 | some k=>some k
 | none=>pl.hs J b
def before (ops:Array Oper)(i:Nat):Nat→Bool:=fun j=>anc (ancs ops) i j
/-- An operation that writes, or a call. -/
def EffOk (P:Program)(G:Nat→CV)(o:Oper)(ρ:Operand→CV)(H:Heap)(nx:Nat)(c:CV)(H':Heap)(nx':Nat):Prop :=
 ∀ M a w next Q,RG G M→Rep M H nx w→(∀ x∈o.op.operands,RV M (ρ x) (a.eval x)) →
  (∀ M' z w',RV M' c z→Rep M' H' nx' w'→Fr H M nx w H' M' nx' w'→next (a.put o.dst z) w')→o.wp P a w next Q
def PanOk (P:Program)(G:Nat→CV)(o:Oper)(ρ:Operand→CV)(H:Heap)(nx:Nat)(c:CV)(H':Heap)(nx':Nat):Prop :=
 ∀ M a w next Q,RG G M→Rep M H nx w→(∀ x∈o.op.operands,RV M (ρ x) (a.eval x)) →
  (∀ M' z w',RV M' c z→Rep M' H' nx' w'→Fr H M nx w H' M' nx' w'→Q (.panic [{ v:=z,recovered:=false }]) a w')→o.wp P a w next Q
structure OpOk (P:Program) (G:Nat→CV) (n:Nat) (ops:Array Oper) (pl:Plan) (e0:Env) (nx0 i:Nat) (o:Oper):Prop where
 dst:∀ t,o.dst=some t→t<n∧wr ops t=some i
 looks:∀ t∈o.looksAt ops,∀ j,wr ops t=some j→anc (ancs ops) i j=true∨anc (ancs ops) j i=true
 edges:∀ e∈o.after.toList,Region.binds .any e=true→e.on<i
 act:match pl.act i with
  | .skip=>gd ops (envL ops pl e0 (before ops i)) o=some false
  | .quiet c=>gd ops (envL ops pl e0 (before ops i)) o=some true∧∀ J,J≤pl.m→(∀ j,j≤pl.m→anc (ancs ops) i (pl.eix j)=true→j<J)→(∀ j,j≤pl.m→anc (ancs ops) (pl.eix j) i=true→J≤j)→qstep P (heapL ops pl nx0 J (before ops i)) (rd G (envL ops pl e0 (before ops i))) o.op=some c
  | .alloc c k=>gd ops (envL ops pl e0 (before ops i)) o=some true∧astep P (rd G (envL ops pl e0 (before ops i))) (nx0+i) o.op=some (c,k)
  | .eff j c=>gd ops (envL ops pl e0 (before ops i)) o=some true∧pl.eix j=i∧j<pl.m∧(∀ j',j'<j→anc (ancs ops) i (pl.eix j')=true)∧EffOk P G o (rd G (envL ops pl e0 (before ops i))) (heapL ops pl nx0 j (before ops i)) (pl.nxs j) c (pl.hs (j+1)) (pl.nxs (j+1))
  | .pan j v=>gd ops (envL ops pl e0 (before ops i)) o=some true∧pl.eix j=i∧j=pl.m∧(∀ j',j'<j→anc (ancs ops) i (pl.eix j')=true)∧PanOk P G o (rd G (envL ops pl e0 (before ops i))) (heapL ops pl nx0 j (before ops i)) (pl.nxs j) v (pl.hs (j+1)) (pl.nxs (j+1))
  | .dead=>∃ j' v,pl.act (pl.eix pl.m)=.pan j' v∧anc (ancs ops) i (pl.eix pl.m)=true
structure Plan.Ok (P:Program) (G:Nat→CV) (n:Nat) (ops:Array Oper) (pl:Plan) (e0:Env) (H0:Heap) (nx0:Nat):Prop where
 op:∀ i o,ops[i]?=some o→OpOk P G n ops pl e0 nx0 i o
 h0:Sub (pl.hs 0) H0
 n0:pl.nxs 0=nx0+ops.size
 nmono:∀ j,j≤pl.m→nx0+ops.size≤pl.nxs j
 apart:∀ J i c k,J≤pl.m→pl.act i=.alloc c k→i<ops.size→(∀ j,j<J→anc (ancs ops) (pl.eix j) i=false)→pl.hs J (nx0+i)=none
 eixlt:∀ j,j<pl.m→pl.eix j<ops.size∧∃ c,pl.act (pl.eix j)=.eff j c
 eixm:(∃ j v,pl.act (pl.eix pl.m)=.pan j v∧pl.eix pl.m<ops.size)∨ops.size≤pl.eix pl.m
/-- The state of a drawn region in which L stands. -/
structure Inv (P:Program) (G:Nat→CV) (n:Nat) (ops:Array Oper) (pl:Plan) (e0:Env) (H0:Heap) (nx0:Nat) (M0:Mp) (w0:World) (L:Nat→Bool) (a:Act) (w:World):Prop where
 clo:Clo ops L
 lt:∀ i,L i=true→i<ops.size
 ex:∃ J M Hc,J≤pl.m∧(∀ j,j<pl.m→(L (pl.eix j)=true↔j<J))∧L (pl.eix pl.m)=false ∧
  RG G M∧Rep M Hc (pl.nxs J) w∧Sub (heapL ops pl nx0 J L) Hc∧EnvR M n (envL ops pl e0 L) a∧Fr H0 M0 nx0 w0 Hc M (pl.nxs J) w ∧
  (∀ i c k,pl.act i=.alloc c k→i<ops.size→L i=false→M.bk (nx0+i)=none)
def setL (L:Nat→Bool)(i:Nat):Nat→Bool:=fun j=>if j=i then true else L j
theorem wr_some {ops:Array Oper}{t i:Nat}(h:wr ops t=some i):∃ o,ops[i]?=some o∧o.dst=some t:=by
 have:=List.find?_some h;cases ho:ops[i]? with
 | none=>simp [ho] at this
 | some o=>simp [ho] at this;exact⟨o,rfl,this⟩
theorem envL_set {P:Program}{G:Nat→CV}{n:Nat}{ops:Array Oper}{pl:Plan}{e0:Env}{nx0 i:Nat}{o:Oper}{L:Nat→Bool}(ho:ops[i]?=some o)(hk:OpOk P G n ops pl e0 nx0 i o) :
  envL ops pl e0 (setL L i)=putE (envL ops pl e0 L) o.dst (pl.act i).val:=by
 funext t
 by_cases hd:o.dst=some t
 ·have:=(hk.dst t hd).2;rw [hd];simp [envL,this,setL,putE]
 ·have e1:putE (envL ops pl e0 L) o.dst (pl.act i).val t=envL ops pl e0 L t:=by
   cases hdd:o.dst with
   | none=>rfl
   | some d=>simp only [putE];rw [if_neg (fun e=>hd (by rw [hdd,e]))]
  rw [e1];unfold envL;cases hw:wr ops t with
  | none=>rfl
  | some j =>
    have hne:j≠i:=fun e=>by
     obtain⟨o',h1,h2⟩:=wr_some hw;rw [e,ho] at h1;cases h1;exact hd h2
    simp [setL,hne]
theorem agree {P:Program}{G:Nat→CV}{n:Nat}{ops:Array Oper}{pl:Plan}{e0:Env}{nx0 i:Nat}{o:Oper}{L:Nat→Bool}(ho:ops[i]?=some o)(hk:OpOk P G n ops pl e0 nx0 i o)(hc:Clo ops L)(hi:L i=false)
  (hr:∀ e∈o.after.toList,Region.binds .any e=true→L e.on=true):∀ t∈o.looksAt ops,envL ops pl e0 L t=envL ops pl e0 (before ops i) t:=by
 intro t ht;unfold envL;cases hw:wr ops t with
 | none=>rfl
 | some j =>
   simp only [before];cases ha:anc (ancs ops) i j with
   | true=>rw [hc.ready ho hr ha]
   | false =>
     have hj:L j=false:=by
      rcases hk.looks t ht j hw with h | h
      ·rw [ha] at h;cases h
      ·cases hl:L j with
       | false=>rfl
       | true=>have:=hc.anc h hl;rw [hi] at this;cases this
     rw [hj]
theorem gd_congr {ops:Array Oper}{e e':Env}{o:Oper}(h:∀ t∈o.looksAt ops,e t=e' t):gd ops e o=gd ops e' o:=by
 unfold gd;cases hg:o.guard with
 | none=>rfl
 | some p =>
   obtain⟨j,want⟩:=p;simp only;cases hj:ops[j]? with
   | none=>rfl
   | some oj =>
     simp only;cases hd:oj.dst with
     | none=>rfl
     | some t =>
       have:=h t (by simp [Oper.looksAt,hg,hj,hd]);simp only [this]
theorem rd_congr {G:Nat→CV}{ops:Array Oper}{e e':Env}{o:Oper}(h:∀ t∈o.looksAt ops,e t=e' t):∀ x∈o.op.operands,rd G e x=rd G e' x:=by
 intro x hx;cases x with
 | tmp t =>
   refine h t ?_;simp only [Oper.looksAt,List.mem_append,List.mem_filterMap];exact .inl ⟨.tmp t,by simpa using hx,rfl⟩
 | const v=>rfl
 | global g=>rfl
 | func f=>rfl
theorem heapL_sub {ops:Array Oper}{pl:Plan}{nx0 J:Nat}{L L':Nat→Bool}(hap:∀ i c k,pl.act i=.alloc c k→L i=true→(∀ j,j<J→anc (ancs ops) (pl.eix j) i=false)→pl.hs J (nx0+i)=none)(h:∀ j,L' j=true→L j=true):Sub (heapL ops pl nx0 J L') (heapL ops pl nx0 J L):=by
 intro b k hb;unfold heapL at hb ⊢;cases h1:newL ops pl nx0 J L b with
 | some k1 =>
   cases h2:newL ops pl nx0 J L' b with
   | some k2 =>
     rw [h2] at hb;simp only at hb ⊢;rw [← hb];unfold newL at h1 h2;split at h1
     ·split at h1
      ·rename_i c' kk hk;split at h1
       ·cases h1
       ·cases h1;split at h2
        ·rw [hk] at h2;simp only at h2;split at h2
         ·cases h2
         ·cases h2;rfl
        ·cases h2
      ·cases h1
     ·cases h1
   | none =>
     rw [h2] at hb;simp only at hb;unfold newL at h1;split at h1
     ·rename_i hc;simp only [Bool.and_eq_true] at hc;have hle:=Nat.le_of_ble_eq_true hc.1;split at h1
      ·rename_i c' kk hk;split at h1
       ·cases h1
       ·rename_i hany;have:=hap (b-nx0) c' kk hk hc.2 (fun j hj=>by
         have:=List.any_eq_false.mp hany j (List.mem_range.mpr hj);simpa using this)
        rw [show nx0+(b-nx0)=b by omega] at this;rw [this] at hb;cases hb
      ·cases h1
     ·cases h1
 | none =>
   cases h2:newL ops pl nx0 J L' b with
   | none=>rw [h2] at hb;exact hb
   | some k2 =>
     unfold newL at h1 h2;split at h2
     ·rename_i hc;simp only [Bool.and_eq_true] at hc;rw [hc.1,h _ hc.2] at h1;simp only [Bool.and_self] at h1;split at h2
      ·rename_i c' kk hk;rw [hk] at h1;simp only at h1;split at h2
       ·cases h2
       ·rename_i hany;rw [hany] at h1;cases h1
      ·cases h2
     ·cases h2
end Ax
end
end Go.Proofs.YtoookjadbhdfhaaGreatDoor
