/-
  AX: more operations that only look.
-/
import Derived.Test.YtoookjadbhdfhaaGreatDoorUJpAa
import Derived.Lib.Strings
set_option linter.unusedSectionVars false
set_option linter.unusedSimpArgs false
set_option linter.unnecessarySimpa false
set_option linter.unusedVariables false
set_option linter.unusedSimpArgs false
set_option linter.unusedVariables false
namespace Go.Proofs.YtoookjadbhdfhaaGreatDoor
section
namespace Ax
def natOf:Int→Option Nat
 | .ofNat n=>some n
 | .negSucc _=>none
theorem natOf_spec {j:Int}{n:Nat}(h:natOf j=some n):j=(n:Int):=by
 cases j with
 | ofNat m=>cases h;rfl
 | negSucc m=>cases h
@[simp] theorem natOf_cast (n:Nat):natOf (n:Int)=some n:=rfl
@[simp] theorem natOf_lit (n:Nat):natOf (OfNat.ofNat n:Int)=some n:=rfl
@[simp] theorem natOf_zero:natOf 0=some 0:=rfl
@[simp] theorem natOf_one:natOf 1=some 1:=rfl
@[simp] theorem natOf_succ (n:Nat):natOf ((n:Int)+1)=some (n+1):=rfl
/-! addresses of elements -/
def iaddA (P:Program)(t:TypeId)(x ix:CV):Option CV:=match ix with
 | .int _ j=>match natOf j with
   | some n=>match ti P t with
     | some ⟨.slice e,_,_,_⟩=>match ti P e with
       | some i=>match x with
         | .sl b o len k=>match Nat.beq i.size k && Nat.blt n len with
           | true=>some (.ptr b (o+n*k))
           | false=>none
         | .lst rows=>match rows[n]? with
           | some r=>match Nat.beq r.length i.size with
             | true=>some (.rop r)
             | false=>none
           | none=>none
         | _=>none
       | none=>none
     | some ⟨.array len e,_,_,_⟩=>match ti P e with
       | some i=>match Nat.blt n len with
         | true=>match x with
           | .ptr b o=>some (.ptr b (o+n*i.size))
           | .rop cs=>match Nat.ble (n*i.size) cs.length with
             | true=>some (.rop (cs.drop (n*i.size)))
             | false=>none
           | _=>none
         | false=>none
       | none=>none
     | _=>none
   | none=>none
 | _=>none
theorem blt_lt {a b:Nat}(h:Nat.blt a b=true):a<b:=Nat.le_of_ble_eq_true h
theorem lt_blt {a b:Nat}(h:a<b):Nat.blt a b=true:=Nat.ble_eq_true_of_le h
theorem data_len (s:ByteArray):s.data.toList.length=s.size:=by rw [Array.length_toList];rfl
theorem beq_eq {a b:Nat}(h:Nat.beq a b=true):a=b:=Nat.eq_of_beq_eq_true h
theorem iaddA_sound {P:Program}{t:TypeId}{x ix c:CV}{M:Mp}{w:World}{v u:Value}(h:iaddA P t x ix=some c)(hx:RV M x v)(hi:RV M ix u) :
  ∃ z,(Instr.indexAt t v u).run P w=.ok z w∧RV M c z:=by
 unfold iaddA at h;split at h
 case h_2=>cases h
 rename_i kk j;cases hi;split at h
 case h_2=>cases h
 rename_i n hn;have hj:=natOf_spec hn;subst hj;split at h
 ·rename_i e _ _ _ ht;split at h
  case h_2=>cases h
  rename_i i hti;split at h
  ·rename_i b o len k;split at h
   case h_2=>cases h
   rename_i hb;cases h;simp only [Bool.and_eq_true] at hb;have h1:=beq_eq hb.1;have h2:=blt_lt hb.2;cases hx with
   | sl _ _ _ _ g m c' hm hn' hm' =>
     refine⟨.pointer (some ⟨g,o+n*k,none⟩),?_,.ptr _ _ g m hm⟩;simp [Instr.indexAt,asIntOf,ti_und ht,h2,ti_size hti,h1,addr_add]
  ·rename_i rows;split at h
   case h_2=>cases h
   rename_i r hr;split at h
   case h_2=>cases h
   rename_i hb;cases h;have hb':=beq_eq hb;obtain⟨hlt,hre⟩:=List.getElem?_eq_some_iff.mp hr;cases hx with
   | lst0 a c'=>simp at hlt
   | lst _ g o n' k c' arr T fr hg hn' hc hk hl hrr =>
     have hkk:i.size=k:=by rw [← hb',← hre];exact hk _ (List.getElem_mem hlt)
     have hlt':n<n':=by omega
     refine⟨.pointer (some ⟨g,o+n*k,none⟩),?_,?_⟩
     ·simp [Instr.indexAt,asIntOf,ti_und ht,hlt',ti_size hti,hkk,addr_add]
     ·have hrl:r.length=k:=by rw [hb',hkk]
      have hmul:n*k+k≤n'*k:=by
       have:(n+1)*k≤n'*k:=Nat.mul_le_mul_right _ hlt';rw [Nat.add_mul] at this;omega
      refine .rop r g (o+n*k) arr T fr hg (by omega) (fun q a b=>?_);have:=hrr n hlt q (by rw [hre];exact a) b;simpa [hre] using this
  ·cases h
 ·rename_i len e _ _ _ ht;split at h
  case h_2=>cases h
  rename_i i hti;split at h
  case h_2=>cases h
  rename_i hb;have h2:=blt_lt hb;split at h
  ·rename_i b o;cases h;cases hx with
   | ptr _ _ g m hm =>
     refine⟨.pointer (some ⟨g,o+n*i.size,none⟩),?_,.ptr _ _ g m hm⟩;simp [Instr.indexAt,asIntOf,Instr.sureAddr,ti_und ht,h2,ti_size hti,addr_add]
  ·rename_i cs;split at h
   case h_2=>cases h
   rename_i hle;cases h;have hx0:=hx;cases hx with
   | rop _ g o arr T fr hg hl hr =>
     refine⟨.pointer (some ⟨g,o+n*i.size,none⟩),?_,hx0.ropDrop _ (Nat.le_of_ble_eq_true hle)⟩;simp [Instr.indexAt,asIntOf,Instr.sureAddr,ti_und ht,h2,ti_size hti,addr_add]
  ·cases h
 ·cases h
/-! elements -/
def idxA (P:Program)(t:TypeId)(x ix:CV):Option CV:=match ix with
 | .int _ j=>match natOf j with
   | some n=>match ti P t with
     | some ⟨.string,_,_,_⟩=>match x with
       | .str l=>match l[n]? with
         | some b=>some (.int .u8 b.toNat)
         | none=>none
       | _=>none
     | some ⟨.array len e,_,_,_⟩=>match ti P e with
       | some i=>match Nat.blt n len with
         | true=>match x with
           | .agg cs=>partA i cs (n*i.size)
           | _=>none
         | false=>none
       | none=>none
     | _=>none
   | none=>none
 | _=>none
theorem idxA_sound {P:Program}{t:TypeId}{x ix c:CV}{M:Mp}{w:World}{v u:Value}(h:idxA P t x ix=some c)(hx:RV M x v)(hi:RV M ix u) :
  ∃ z,(Instr.index t v u).run P w=.ok z w∧RV M c z:=by
 unfold idxA at h;split at h
 case h_2=>cases h
 rename_i kk j;cases hi;split at h
 case h_2=>cases h
 rename_i n hn;have hj:=natOf_spec hn;subst hj;split at h
 ·rename_i ht;split at h
  ·rename_i l;split at h
   ·rename_i b hb;cases h;cases hx with
    | str _ s hs =>
      subst hs;refine⟨.int .u8 b.toNat,?_,.int _ _⟩;obtain⟨hlt,hbe⟩:=List.getElem?_eq_some_iff.mp hb;have hsz:n<s.size:=by rw [← data_len];exact hlt
      have e:s[n]?=some b:=by
       rw [getElem?_pos s n hsz,← hbe];rfl
      simp [Instr.index,asIntOf,ti_und ht,e]
   ·cases h
  ·cases h
 ·rename_i len e _ _ _ ht;split at h
  case h_2=>cases h
  rename_i i hti;split at h
  case h_2=>cases h
  rename_i hb;have h2:=blt_lt hb;split at h
  ·rename_i cs;cases hx with
   | agg _ vs hl hr =>
     obtain⟨z,h1,h3⟩:=partA_sound (w:=w) hti ⟨hl,hr⟩ h;exact⟨z,by simp [Instr.index,asIntOf,ti_und ht,h2,ti_size hti,h1],h3⟩
  ·cases h
 ·cases h
/-! slices of slices and strings -/
def bnd (x:Option CV)(d:Nat):Option Nat:=match x with
 | none=>some d
 | some (.int _ j)=>natOf j
 | _=>none
theorem bnd_run {P:Program}{w:World}{M:Mp}{x:Option CV}{v:Option Value}{d n y:Nat}{code:BoundsCode}(h:bnd x d=some n)(hx:∀ c,x=some c→∃ u,v=some u∧RV M c u)(hn:x=none→v=none)(hy:n≤y) :
  (match v with | some u=>Instr.sliceBound u y code | none=>pure d).run P w=.ok n w:=by
 unfold bnd at h;split at h
 ·cases h;rw [hn rfl];rfl
 ·rename_i k j;obtain⟨u,hu,hr⟩:=hx _ rfl;subst hu;cases hr;have hj:=natOf_spec h;subst hj;simp [Instr.sliceBound,asIntOf,hy]
 ·cases h
def sliA (P:Program)(H:Heap)(t:TypeId)(x:CV)(lo hi:Option CV):Option CV:=match ti P t with
 | some ⟨.string,_,_,_⟩=>match x with
   | .str l=>match bnd lo 0,bnd hi l.length with
     | some a,some b=>match Nat.ble a b && Nat.ble b l.length with
       | true=>some (.str ((l.drop a).take (b-a)))
       | false=>none
     | _,_=>none
   | _=>none
 | some ⟨.slice e,_,_,_⟩=>match ti P e with
   | some i=>match x with
     | .lst rows=>match bnd lo 0,bnd hi rows.length with
       | some a,some b=>match Nat.ble a b && Nat.ble b rows.length with
         | true=>match rows.all (fun r=>Nat.beq r.length i.size) with
           | true=>some (.lst ((rows.drop a).take (b-a)))
           | false=>none
         | false=>none
       | _,_=>none
     | .nils=>match bnd lo 0,bnd hi 0 with
       | some 0,some 0=>some .nils
       | _,_=>none
     | .sl b o n k=>match bnd lo 0,bnd hi n with
       | some l,some h=>match Nat.ble l h && Nat.ble h n && Nat.beq i.size k with
         | true=>match Nat.beq l 0 with
           | true=>some (.sl b o h k)
           | false=>match Nat.blt l h with
             | true=>some (.sl b (o+l*k) (h-l) k)
             | false=>some (.lst [])
         | false=>none
       | _,_=>none
     | _=>none
   | none=>none
 | some ⟨.array len e,_,_,_⟩=>match ti P e with
   | some i=>match x,lo,hi with
     | .ptr b o,none,none=>match H b with
       | some (.cells cs)=>match Nat.ble (o+len*i.size) cs.length with
         | true=>some (.sl b o len i.size)
         | false=>none
       | _=>none
     | _,_,_=>none
   | none=>none
 | _=>none
theorem RV.lstSub {M:Mp}{rows:List (List CV)}{g o n k c a b:Nat}{arr:Array Value}{T:TypeId}{fr:Nat×Nat}(h:M.fz g=some (.cells arr T fr))(hn:n=rows.length)
  (hk:∀ r∈rows,r.length=k) (hl:o+n*k≤arr.size)
  (hr:∀ i (a:i<rows.length) j (b:j<rows[i].length) (d:o+i*k+j<arr.size),RV M rows[i][j] arr[o+i*k+j]) (hab:a≤b) (hb:b≤rows.length) (hc:b-a≤c) :
  RV M (.lst ((rows.drop a).take (b-a))) (.slice (some ⟨g,o+a*k,none⟩) (b-a) c):=by
 have hmul:a*k+(b-a)*k≤n*k:=by
  rw [← Nat.add_mul];exact Nat.mul_le_mul_right _ (by omega)
 refine .lst _ g (o+a*k) (b-a) k c arr T fr h (by simp;omega) hc (fun r hm=>hk r (List.mem_of_mem_drop (List.mem_of_mem_take hm))) (by omega) (fun i ai j bj d=>?_);have hi:a+i<rows.length:=by simp at ai;omega
 have e:((rows.drop a).take (b-a))[i]=rows[a+i]:=by simp
 have bj':j<rows[a+i].length:=by rw [← e];exact bj
 have:=hr (a+i) hi j bj' (by rw [Nat.add_mul];omega);simp only [e];have e2:o+a*k+i*k+j=o+(a+i)*k+j:=by rw [Nat.add_mul];omega
 simpa [e2] using this
theorem sliA_sound {P:Program}{H:Heap}{t:TypeId}{x c:CV}{lo hi:Option CV}{M:Mp}{nx:Nat}{w:World}{v:Value}{lo' hi':Option Value}(h:sliA P H t x lo hi=some c)(r:Rep M H nx w)(hx:RV M x v)
  (hl:∀ c,lo=some c→∃ u,lo'=some u∧RV M c u) (hln:lo=none→lo'=none) (hh:∀ c,hi=some c→∃ u,hi'=some u∧RV M c u) (hhn:hi=none→hi'=none) :
  ∃ z,(Instr.sliceAt t v lo' hi' none).run P w=.ok z w∧RV M c z:=by
 have bnds:∀ (isS:Bool) (len cap a b:Nat),bnd lo 0=some a→bnd hi len=some b→a≤b→b≤cap→(Instr.sliceBounds isS len cap lo' hi' none).run P w=.ok (a,b,cap) w:=by
  intro isS len cap a b h1 h2 h3 h4;have e1:=bnd_run (P:=P) (w:=w) (code:=if isS then .sliceAcap else .sliceAlen) h2 hh hhn h4;have e2:=bnd_run (P:=P) (w:=w) (code:=.sliceB) h1 hl hln h3;unfold Instr.sliceBounds;simp only [Sem.run_bind,Sem.run_pure,Result.andThen_ok,Option.isSome_none,Bool.false_eq_true,if_false];cases hi' with
  | none =>
    simp only [Sem.run_pure,Result.ok.injEq,and_true] at e1;subst e1;cases lo' with
    | none=>simp only [Sem.run_pure,Result.ok.injEq,and_true] at e2;subst e2;simp
    | some l=>simp only at e2;simp [e2]
  | some u =>
    simp only at e1;cases lo' with
    | none=>simp only [Sem.run_pure,Result.ok.injEq,and_true] at e2;subst e2;simp [e1]
    | some l=>simp only at e2;simp [e1,e2]
 unfold sliA at h;split at h
 ·rename_i ht;split at h
  case h_2=>cases h
  rename_i l;split at h
  case h_2=>cases h
  rename_i a b ha hb;split at h
  case h_2=>cases h
  rename_i hc;cases h;simp only [Bool.and_eq_true] at hc;have h1:=Nat.le_of_ble_eq_true hc.1;have h2:=Nat.le_of_ble_eq_true hc.2;cases hx with
  | str _ s hs =>
    subst hs;have hsz:s.data.toList.length=s.size:=data_len s;rw [hsz] at hb h2;refine⟨.string (s.extract a b),?_,.str _ _ ?_⟩
    ·simp [Instr.sliceAt,Instr.slice,ti_und ht,bnds false _ _ a b ha hb h1 h2]
    ·exact Lib.extract_data s a b
 ·rename_i e _ _ _ ht;split at h
  case h_2=>cases h
  rename_i i hti;split at h
  ·rename_i rows;split at h
   case h_2=>cases h
   rename_i a b ha hb;split at h
   case h_2=>cases h
   rename_i hc;split at h
   case h_2=>cases h
   rename_i hall;cases h;simp only [Bool.and_eq_true] at hc;have h1:=Nat.le_of_ble_eq_true hc.1;have h2:=Nat.le_of_ble_eq_true hc.2;cases hx with
   | lst0 ad cp =>
     simp at h2;subst h2;simp at h1;subst h1;refine⟨_,by simp [Instr.sliceAt,Instr.slice,ti_und ht,bnds true 0 cp 0 0 ha hb (by omega) (by omega),ti_size hti];rfl,?_⟩;simpa using RV.lst0 _ _
   | lst _ g o n k cp arr T fr hg hn hcp hk hll hrr =>
     subst hn
     by_cases hz:cp=a
     ·subst hz;have hab:b=cp:=by omega
      subst hab;refine⟨_,by simp [Instr.sliceAt,Instr.slice,ti_und ht,bnds true rows.length b b b ha hb (by omega) (by omega),ti_size hti];rfl,?_⟩;simpa using RV.lst0 _ _
     ·refine⟨_,by simp [Instr.sliceAt,Instr.slice,ti_und ht,bnds true rows.length cp a b ha hb (by omega) (by omega),ti_size hti,hz,addr_add];rfl,?_⟩
      by_cases hemp:rows=[]
      ·subst hemp;simp at h2;subst h2;simp at h1;subst h1;simpa using RV.lst0 _ _
      ·have hks:i.size=k:=by
        obtain⟨r0,hr0⟩:=List.exists_mem_of_ne_nil _ hemp;rw [← beq_eq (List.all_eq_true.mp hall r0 hr0)];exact hk r0 hr0
       rw [hks];exact RV.lstSub hg rfl hk hll hrr h1 h2 (by omega)
  ·split at h
   ·rename_i ha hb;cases h;cases hx with
    | nils=>exact⟨_,by simp [Instr.sliceAt,Instr.slice,ti_und ht,bnds true 0 0 0 0 ha hb (by omega) (by omega),ti_size hti],.nils⟩
   ·cases h
  ·rename_i b o n k;split at h
   case h_2=>cases h
   rename_i l hh' ha hb;split at h
   case h_2=>cases h
   rename_i hc;simp only [Bool.and_eq_true] at hc;have h1:=Nat.le_of_ble_eq_true hc.1.1;have h2:=Nat.le_of_ble_eq_true hc.1.2;have h3:=beq_eq hc.2;cases hx with
   | sl _ _ _ _ g m cp hm hn hm' =>
     have e:=bnds true n cp l hh' ha hb h1 (by omega);split at h
     ·rename_i hz;have hz':=beq_eq hz;subst hz';cases h;refine⟨.slice (some ⟨g,o,none⟩) hh' cp,?_,.sl _ _ _ _ g m cp hm (by omega) hm'⟩;simp [Instr.sliceAt,Instr.slice,ti_und ht,e,ti_size hti,addr_add]
     ·split at h
      ·rename_i hlt;have hlt':=blt_lt hlt;cases h;have hmul:l*k+(cp-l)*k≤cp*k:=by rw [← Nat.add_mul];exact Nat.mul_le_mul_right _ (by omega)
       refine⟨.slice (some ⟨g,o+l*k,none⟩) (hh'-l) (cp-l),?_,.sl _ _ _ _ g m (cp-l) hm (by omega) (by omega)⟩;have hne:cp≠l:=by omega
       simp [Instr.sliceAt,Instr.slice,ti_und ht,e,ti_size hti,hne,h3,addr_add]
      ·rename_i hlt;cases h;have hle:hh'-l=0:=by
        have:¬ l<hh':=fun hx=>by rw [lt_blt hx] at hlt;cases hlt
        omega
       refine⟨_,by simp [Instr.sliceAt,Instr.slice,ti_und ht,e,ti_size hti];rfl,?_⟩;rw [hle];exact .lst0 _ _
  ·cases h
 ·rename_i len e _ _ _ ht;split at h
  case h_2=>cases h
  rename_i i hti;split at h
  case h_2=>cases h
  rename_i b o;split at h
  case h_2=>cases h
  rename_i cs hb;split at h
  case h_2=>cases h
  rename_i hle;cases h;have hle':=Nat.le_of_ble_eq_true hle;cases hx with
  | ptr _ _ g m hm =>
    obtain⟨g',m',hm',arr,T,ha,hs,hr⟩:=r.blk b _ hb;rw [hm] at hm';cases hm';have hlen:cs.length≤m:=by have:=hr.1;simp at this;omega
    refine⟨.slice (some ⟨g,o,none⟩) len len,?_,.sl _ _ _ _ g m len hm (by omega) (by omega)⟩;have e1:=hln rfl;have e2:=hhn rfl;subst e1;subst e2;simp [Instr.sliceAt,ti_und ht,Instr.sureAddr,Instr.sliceBounds,ti_size hti,Addr.add]
 ·cases h
end Ax
end
section
namespace Ax
/-! equality -/
def scalD:TypeDesc→CV→CV→Option Bool
 | .int _,.int k a,.int k' b=>match decEq k k' with
   | isTrue _=>some (a == b)
   | isFalse _=>none
 | .string,.str a,.str b=>some (a == b)
 | .bool,.bool a,.bool b=>some (a == b)
 | _,_,_=>none
theorem bytes_beq_data (a b:ByteArray):(a == b)=(a.data.toList == b.data.toList):=by
 rw [beq_toListBytes,ByteArray.toList_eq,ByteArray.toList_eq]
theorem scalD_equalIn {P:Program}{M:Mp}{t:TypeId}{d:TypeDesc}{x y:CV}{v u:Value}{b:Bool}{w:World}(ht:P.underlying t=some d)(h:scalD d x y=some b)(hx:RV M x v)(hy:RV M y u)(n:Nat) :
  (Op.equalIn (n+1) t v u).run P w=.ok b w:=by
 unfold scalD at h;split at h
 ·split at h
  ·rename_i e _;subst e;cases h;cases hx;cases hy;simp [Op.equalIn,run_underlying ht]
  ·cases h
 ·cases h;cases hx with
  | str _ s hs=>cases hy with
    | str _ s' hs'=>subst hs;subst hs';simp [Op.equalIn,run_underlying ht,bytes_beq_data]
 ·cases h;cases hx;cases hy;simp [Op.equalIn,run_underlying ht]
 ·cases h
theorem scalD_sameNow {M:Mp}{d:TypeDesc}{x y:CV}{v u:Value}{b:Bool}(h:scalD d x y=some b)(hx:RV M x v)(hy:RV M y u):Instr.sameNow d v u=some b:=by
 unfold scalD at h;split at h
 ·split at h
  ·rename_i e _;subst e;cases h;cases hx;cases hy;simp [Instr.sameNow]
  ·cases h
 ·cases h;cases hx with
  | str _ s hs=>cases hy with
    | str _ s' hs'=>subst hs;subst hs';simp [Instr.sameNow,bytes_beq_data]
 ·cases h;cases hx;cases hy;simp [Instr.sameNow]
 ·cases h
theorem scalD_scal {d:TypeDesc}{x y:CV}{b:Bool}(h:scalD d x y=some b):isAggD d=false:=by
 unfold scalD at h;split at h <;> first | rfl | cases h
def eqFs (P:Program):List Field→List CV→List CV→Option Bool
 | [],_,_=>some true
 | f::fs,xs,ys=>match f.name == "_" with
   | true=>none
   | false=>match ti P f.type with
     | some i=>match xs[f.offset]?,ys[f.offset]? with
       | some x,some y=>match scalD i.und x y,eqFs P fs xs ys with
         | some a,some b=>some (a && b)
         | _,_=>none
       | _,_=>none
     | none=>none
theorem part_one {P:Program}{M:Mp}{t:TypeId}{i:TI}{cs:List CV}{vs:List Value}{off:Nat}{c:CV}{w:World}(ht:ti P t=some i)(ha:isAggD i.und=false)(hr:RVs M cs vs)(h:cs[off]?=some c) :
  ∃ u,(part t vs.toArray off).run P w=.ok u w∧RV M c u:=by
 obtain⟨v,hv,hrv⟩:=hr.at' h;exact⟨v,by simp [part,ti_agg ht,ha,hv],hrv⟩
theorem eqFs_sound {P:Program}{M:Mp}{w:World}{xs ys:List CV}{vs us:List Value}(hx:RVs M xs vs)(hy:RVs M ys us)(n:Nat):∀ (fs:List Field) (b:Bool),eqFs P fs xs ys=some b→(Op.eqFields (n+1) vs.toArray us.toArray fs).run P w=.ok b w
 | [],b,h=>by cases h;simp [Op.eqFields]
 | f::fs,b,h=>by
   unfold eqFs at h;split at h
   ·cases h
   ·rename_i hn;split at h
    ·rename_i i hti;split at h
     ·rename_i x y h1 h2;split at h
      ·rename_i a b' h3 h4;cases h;have ha:=scalD_scal h3;obtain⟨v1,r1,e1⟩:=part_one (w:=w) hti ha hx h1;obtain⟨v2,r2,e2⟩:=part_one (w:=w) hti ha hy h2;have h5:=scalD_equalIn (w:=w) (ti_spec hti).1 h3 e1 e2 n;have ih:=eqFs_sound (w:=w) hx hy n fs b' h4;have hn':f.name ≠ "_":=by simpa using hn
       cases a <;> simp [Op.eqFields,hn',r1,r2,h5,ih]
      ·cases h
     ·cases h
    ·cases h
def eqIs (i:TI):List Nat→List CV→List CV→Option Bool
 | [],_,_=>some true
 | j::js,xs,ys=>match xs[j]?,ys[j]? with
   | some x,some y=>match scalD i.und x y,eqIs i js xs ys with
     | some a,some b=>some (a && b)
     | _,_=>none
   | _,_=>none
theorem eqIs_sound {P:Program}{M:Mp}{w:World}{e:TypeId}{i:TI}(hti:ti P e=some i){xs ys:List CV}{vs us:List Value}(hx:RVs M xs vs)(hy:RVs M ys us)(n:Nat):∀ (js:List Nat) (b:Bool),eqIs i js xs ys=some b→(Op.eqItems (n+1) e 1 vs.toArray us.toArray js).run P w=.ok b w
 | [],b,h=>by cases h;simp [Op.eqItems]
 | j::js,b,h=>by
   unfold eqIs at h;split at h
   ·rename_i x y h1 h2;split at h
    ·rename_i a b' h3 h4;cases h;have ha:=scalD_scal h3;obtain⟨v1,r1,e1⟩:=part_one (w:=w) hti ha hx h1;obtain⟨v2,r2,e2⟩:=part_one (w:=w) hti ha hy h2;have h5:=scalD_equalIn (w:=w) (ti_spec hti).1 h3 e1 e2 n;have ih:=eqIs_sound (w:=w) hti hx hy n js b' h4;cases a <;> simp [Op.eqItems,r1,r2,h5,ih]
    ·cases h
   ·cases h
def eqA (P:Program)(t:TypeId)(x y:CV):Option Bool:=match ti P t with
 | none=>none
 | some i=>match i.und with
   | .struct fs=>match x,y with
     | .agg xs,.agg ys=>match P.stoodInHeld t || P.eqGuardType P.depth t with
       | true=>none
       | false=>eqFs P fs.toList xs ys
     | _,_=>none
   | .array n e=>match x,y with
     | .agg xs,.agg ys=>match P.eqGuardType P.depth t with
       | true=>none
       | false=>match ti P e with
         | some j=>match Nat.beq j.size 1 with
           | true=>eqIs j (List.range n) xs ys
           | false=>none
         | none=>none
     | _,_=>none
   | .bool=>match x,y with
     | .bool a,.bool b=>some (a == b)
     | _,_=>none
   | .pointer _=>match x,y with
     | .nilp,.nilp=>some true
     | .nilp,.ptr _ _=>some false
     | .nilp,.rop _=>some false
     | .ptr _ _,.nilp=>some false
     | .rop _,.nilp=>some false
     | _,_=>none
   | .slice _=>match x,y with
     | .nils,.nils=>some true
     | .sl _ _ _ _,.nils=>some false
     | .lst (_::_),.nils=>some false
     | _,_=>none
   | _=>none
theorem eqGuard_plain {P:Program}{M:Mp}{w:World}{op:BinOp}{t:TypeId}{xo yo:Operand}{x y:CV}{v u:Value}{b:Bool}(h:eqA P t x y=some b)(hx:RV M x v)(hy:RV M y u) :
  (eqGuard op t xo yo v u).run P w=.ok () w:=by
 unfold eqA at h;split at h
 ·cases h
 ·rename_i i hti;split at h
  ·split at h
   ·rename_i xs ys;split at h
    ·cases h
    ·rename_i hb;simp only [Bool.or_eq_false_iff] at hb;cases hx with
     | agg=>cases hy with
       | agg=>exact run_eqGuard_agg w op t xo yo _ _ hb.2
   ·cases h
  ·split at h
   ·split at h
    ·cases h
    ·rename_i hb;cases hx with
     | agg=>cases hy with
       | agg=>exact run_eqGuard_agg w op t xo yo _ _ hb
   ·cases h
  ·split at h
   ·cases hx;cases hy;cases op <;> simp [eqGuard]
   ·cases h
  ·split at h <;> first | (cases h;done) | (cases hx <;> cases hy <;> cases op <;> simp [eqGuard])
  ·split at h <;> first | (cases h;done) | (cases hx <;> cases hy <;> cases op <;> simp [eqGuard])
  ·cases h
section nils
variable {P:Program} {w:World} {t e:TypeId} (N:Nat)
theorem eqp1 (hu:P.underlying t=some (.pointer e))(a:Option Addr):(Op.equalIn (N+1) t (.pointer none) (.pointer a)).run P w=.ok a.isNone w:=by
 unfold Op.equalIn;simp only [Sem.run_bind,run_underlying hu,Result.andThen_ok,Sem.run_pure]
theorem eqp2 (hu:P.underlying t=some (.pointer e))(a:Addr):(Op.equalIn (N+1) t (.pointer (some a)) (.pointer none)).run P w=.ok false w:=by
 unfold Op.equalIn;simp only [Sem.run_bind,run_underlying hu,Result.andThen_ok,Sem.run_pure]
theorem eqs1 (hu:P.underlying t=some (.slice e))(a:Option Addr)(n c n' c':Nat):(Op.equalIn (N+1) t (.slice none n c) (.slice a n' c')).run P w=.ok a.isNone w:=by
 unfold Op.equalIn;simp only [Sem.run_bind,run_underlying hu,Result.andThen_ok,Sem.run_pure]
theorem eqs2 (hu:P.underlying t=some (.slice e))(a:Addr)(n c n' c':Nat):(Op.equalIn (N+1) t (.slice (some a) n c) (.slice none n' c')).run P w=.ok false w:=by
 unfold Op.equalIn;simp only [Sem.run_bind,run_underlying hu,Result.andThen_ok,Sem.run_pure]
end nils
theorem eqA_sound' {P:Program}{M:Mp}{w:World}{t:TypeId}{x y:CV}{v u:Value}{b:Bool}(h:eqA P t x y=some b)(hx:RV M x v)(hy:RV M y u)(N:Nat) :
  (Op.equalIn (N+2) t v u).run P w=.ok b w:=by
 unfold eqA at h;split at h
 ·cases h
 ·rename_i i hti;obtain⟨hu,f,hf,_⟩:=ti_spec hti;split at h
  ·rename_i fs hfs;rw [hfs] at hu;split at h
   ·rename_i xs ys;split at h
    ·cases h
    ·rename_i hb;simp only [Bool.or_eq_false_iff] at hb;cases hx with
     | agg _ vs hl hr=>cases hy with
       | agg _ us hl' hr' =>
         have e:P.fieldsOf t=fs:=by simp [Program.fieldsOf,hu]
         have:=run_equalIn_struct (P:=P) w (N+1) t vs.toArray us.toArray (by rw [e];exact hu) hb.1;rw [this,e];exact eqFs_sound ⟨hl,hr⟩ ⟨hl',hr'⟩ N _ _ h
   ·cases h
  ·rename_i n e he;rw [he] at hu;split at h
   ·rename_i xs ys;split at h
    ·cases h
    ·split at h
     ·rename_i j hj;split at h
      ·rename_i hs;obtain⟨hu',f',hf',hs',_⟩:=ti_spec hj;cases hx with
       | agg _ vs hl hr=>cases hy with
         | agg _ us hl' hr' =>
           have:=run_equalIn_array (P:=P) w (N+1) vs.toArray us.toArray hu hf';have hc:P.cellsOf e=1:=by simp [Program.cellsOf,hf',hs',beq_eq hs]
           rw [hc] at this;rw [this];exact eqIs_sound hj ⟨hl,hr⟩ ⟨hl',hr'⟩ N _ _ h
      ·cases h
     ·cases h
   ·cases h
  ·rename_i hbl;rw [hbl] at hu;split at h
   ·cases h;cases hx;cases hy;simp [Op.equalIn,run_underlying hu]
   ·cases h
  ·rename_i e he;rw [he] at hu;split at h <;> first | (cases h;done) | (cases h;cases hx;cases hy;first | exact eqp1 _ hu _ | exact eqp2 _ hu _)
  ·rename_i e he;rw [he] at hu;split at h <;> first | (cases h;done) | (cases h;cases hx;cases hy;first | exact eqs1 _ hu _ _ _ _ _ | exact eqs2 _ hu _ _ _ _ _)
  ·cases h
theorem eqA_sound {P:Program}{M:Mp}{w:World}{t:TypeId}{x y:CV}{v u:Value}{b:Bool}(h:eqA P t x y=some b)(hx:RV M x v)(hy:RV M y u) :
  (Op.equal t v u).run P w=.ok b w:=eqA_sound' h hx hy 9998
/-! operators -/
def intA (op:BinOp)(k:IntKind)(a b:Int):Option CV:=match op with
 | .add=>some (.int k (k.wrap (a+b)))
 | .sub=>some (.int k (k.wrap (a-b)))
 | .mul=>some (.int k (k.wrap (a*b)))
 | .eql=>some (.bool (a == b))
 | .neq=>some (.bool (a != b))
 | .lss=>some (.bool (decide (a<b)))
 | .leq=>some (.bool (decide (a≤b)))
 | .gtr=>some (.bool (decide (a > b)))
 | .geq=>some (.bool (decide (a ≥ b)))
 | .quo=>match decEq b 0 with
   | isTrue _=>none
   | isFalse _=>some (.int k (k.wrap (a.tdiv b)))
 | .rem=>match decEq b 0 with
   | isTrue _=>none
   | isFalse _=>some (.int k (a.tmod b))
 | _=>none
def strA (op:BinOp)(a b:List UInt8):Option CV:=match op with
 | .add=>match Nat.ble (a.length+b.length) 9223372036854775807 with
   | true=>some (.str (a++b))
   | false=>none
 | .eql=>some (.bool (a == b))
 | .neq=>some (.bool (!(a == b)))
 | .lss=>some (.bool (Op.bytesLess a b))
 | .leq=>some (.bool (Op.bytesLess a b || a == b))
 | .gtr=>some (.bool (!(Op.bytesLess a b || a == b)))
 | .geq=>some (.bool (!Op.bytesLess a b))
 | _=>none
def binA (P:Program)(op:BinOp)(t:TypeId)(x y:CV):Option CV:=match x,y with
 | .int k a,.int k' b=>match decEq k k' with
   | isTrue _=>intA op k a b
   | isFalse _=>none
 | .str a,.str b=>strA op a b
 | _,_=>match op with
   | .eql=>match eqA P t x y with
     | some b=>some (.bool b)
     | none=>none
   | .neq=>match eqA P t x y with
     | some b=>some (.bool (!b))
     | none=>none
   | _=>none
theorem intA_sound {P:Program}{M:Mp}{w:World}{op:BinOp}{t:TypeId}{xo yo:Operand}{k:IntKind}{a b:Int}{c:CV}(h:intA op k a b=some c) :
  ∃ z,(do eqGuard op t xo yo (.int k a) (.int k b);binOp op t (.int k a) (.int k b):Sem Value).run P w=.ok z w∧RV M c z:=by
 cases op <;> simp only [intA] at h <;> first
  | (cases h;done)
  | (cases h;refine⟨_,?_,.int _ _⟩;simp [eqGuard,binOp,Op.intArith,Op.intCmp];done)
  | (cases h;refine⟨_,?_,.bool _⟩;simp [eqGuard,binOp,Op.intArith,Op.intCmp];done)
  | (split at h
     ·cases h
     ·rename_i hb _;cases h;refine⟨_,?_,.int _ _⟩;simp [eqGuard,binOp,Op.intDiv,hb])
theorem strA_sound {P:Program}{M:Mp}{w:World}{op:BinOp}{t:TypeId}{xo yo:Operand}{a b:ByteArray}{c:CV}(h:strA op a.data.toList b.data.toList=some c) :
  ∃ z,(do eqGuard op t xo yo (.string a) (.string b);binOp op t (.string a) (.string b):Sem Value).run P w=.ok z w∧RV M c z:=by
 cases op
 case add =>
  simp only [strA] at h;split at h
  ·rename_i hb;cases h;have hb':=Nat.le_of_ble_eq_true hb;rw [data_len,data_len] at hb';refine⟨.string (a++b),?_,.str _ _ (by simp)⟩;have e:¬ ((9223372036854775807:Int)<(a.size:Int)+(b.size:Int)):=by omega
   simp [eqGuard,binOp,Op.stringOp,IntKind.max,IntKind.bits,IntKind.signed,e]
  ·cases h
 all_goals simp only [strA] at h
 all_goals first
  | (cases h;done)
  | (cases h;refine⟨_,?_,.bool _⟩;simp [eqGuard,binOp,Op.stringOp,ByteArray.toList_eq])
theorem binA_sound {P:Program}{M:Mp}{w:World}{op:BinOp}{t:TypeId}{xo yo:Operand}{x y c:CV}{v u:Value}(h:binA P op t x y=some c)(hx:RV M x v)(hy:RV M y u) :
  ∃ z,(do eqGuard op t xo yo v u;binOp op t v u:Sem Value).run P w=.ok z w∧RV M c z:=by
 unfold binA at h;split at h
 ·split at h
  ·rename_i e _;subst e;cases hx;cases hy;exact intA_sound h
  ·cases h
 ·cases hx with
  | str _ s hs=>cases hy with
    | str _ s' hs'=>subst hs;subst hs';exact strA_sound h
 ·rename_i hni hns;have key:∀ b,eqA P t x y=some b→(binOp .eql t v u).run P w=.ok (.bool b) w∧(binOp .neq t v u).run P w=.ok (.bool (!b)) w:=by
   intro b hb;have e:=eqA_sound (w:=w) hb hx hy;have hxa:x=.any→False:=by intro e;subst e;unfold eqA at hb;(repeat' split at hb) <;> simp_all
   have hya:y=.any→False:=by intro e;subst e;unfold eqA at hb;(repeat' split at hb) <;> simp_all
   have hxo:∀ g c,x=.opt g c→False:=by intro g c e;subst e;unfold eqA at hb;(repeat' split at hb) <;> simp_all
   have hyo:∀ g c,y=.opt g c→False:=by intro g c e;subst e;unfold eqA at hb;(repeat' split at hb) <;> simp_all
   have h1:∀ k a k' b,¬ (v=.int k a∧u=.int k' b):=by
    rintro k a k' b ⟨rfl,rfl⟩;cases hx with
    | any=>exact hxa rfl
    | opt=>exact hxo _ _ rfl
    | int=>cases hy with
      | any=>exact hya rfl
      | opt=>exact hyo _ _ rfl
      | int=>exact hni _ _ _ _ rfl rfl
   have h2:∀ a b,¬ (v=.string a∧u=.string b):=by
    rintro a b ⟨rfl,rfl⟩;cases hx with
    | any=>exact hxa rfl
    | opt=>exact hxo _ _ rfl
    | str=>cases hy with
      | any=>exact hya rfl
      | opt=>exact hyo _ _ rfl
      | str=>exact hns _ _ rfl rfl
   have h3:∀ k a,v≠.float k a:=by
    rintro k a rfl;cases hx with | any=>exact hxa rfl | opt=>exact hxo _ _ rfl
   have h4:∀ k a b,v≠.complex k a b:=by
    rintro k a b rfl;cases hx with | any=>exact hxa rfl | opt=>exact hxo _ _ rfl
   constructor
   ·cases v <;> first
     | exact absurd rfl (h3 _ _)
     | exact absurd rfl (h4 _ _ _)
     | (cases u <;> first
       | exact absurd ⟨rfl,rfl⟩ (h1 _ _ _ _)
       | exact absurd ⟨rfl,rfl⟩ (h2 _ _)
       | simp [binOp,e])
   ·cases v <;> first
     | exact absurd rfl (h3 _ _)
     | exact absurd rfl (h4 _ _ _)
     | (cases u <;> first
       | exact absurd ⟨rfl,rfl⟩ (h1 _ _ _ _)
       | exact absurd ⟨rfl,rfl⟩ (h2 _ _)
       | simp [binOp,e])
  split at h
  ·split at h
   ·rename_i b hb;cases h;have g:=eqGuard_plain (w:=w) (op:=.eql) (xo:=xo) (yo:=yo) hb hx hy;exact⟨.bool b,by simp [g,(key b hb).1],.bool _⟩
   ·cases h
  ·split at h
   ·rename_i b hb;cases h;have g:=eqGuard_plain (w:=w) (op:=.neq) (xo:=xo) (yo:=yo) hb hx hy;exact⟨.bool (!b),by simp [g,(key b hb).2],.bool _⟩
   ·cases h
  ·cases h
def unA (op:UnOp)(x:CV):Option CV:=match op,x with
 | .not,.bool b=>some (.bool (!b))
 | .neg,.int k n=>some (.int k (k.wrap (0-n)))
 | _,_=>none
theorem unA_sound {P:Program}{M:Mp}{w:World}{op:UnOp}{x c:CV}{v:Value}(h:unA op x=some c)(hx:RV M x v):∃ z,(Op.unary op v).run P w=.ok z w∧RV M c z:=by
 unfold unA at h;split at h
 ·cases h;cases hx;refine⟨_,?_,.bool _⟩;simp [Op.unary]
 ·cases h;cases hx;refine⟨_,?_,.int _ _⟩;simp [Op.unary,Op.intArith]
 ·cases h
/-! conversions -/
def bytesOf:List CV→Option (List UInt8)
 | []=>some []
 | .int .u8 (.ofNat n)::cs=>match bytesOf cs with
   | some l=>some (UInt8.ofNat n::l)
   | none=>none
 | _=>none
theorem bytesOf_sound {M:Mp}:∀ {cs:List CV} {vs:List Value} {l:List UInt8},bytesOf cs=some l→RVs M cs vs→∃ ns:List Int,vs=ns.map (Value.int .u8)∧∀ s:ByteArray,(ns.foldl (fun r n=>r.push (UInt8.ofNat n.toNat)) s).data.toList=s.data.toList++l
 | [],vs,l,h,hr=>by cases h;rw [hr.nil_inv];exact⟨[],rfl,fun s=>by simp⟩
 | c::cs,vs,l,h,hr=>by
   obtain⟨v,vs',rfl,h1,h2⟩:=hr.cons_inv;unfold bytesOf at h;split at h
   ·rename_i heq;cases heq
   ·rename_i n cs' heq;cases heq;split at h
    ·rename_i l' hl';cases h;cases h1;obtain⟨ns,e,hs⟩:=bytesOf_sound hl' h2;subst e;refine⟨(n:Int)::ns,rfl,fun s=>?_⟩;simp only [List.foldl_cons];rw [hs];simp [ByteArray.push]
    ·cases h
   ·cases h
def convA (P:Program)(H:Heap)(s d:TypeId)(x:CV):Option CV:=match ti P s with
 | some is=>match ti P d with
   | some id=>match id.und with
     | .int k=>match x with
       | .int _ n=>some (.int k (k.wrap n))
       | _=>none
     | .string=>match x with
       | .str l=>some (.str l)
       | .nils=>match is.und with
         | .slice e=>match ti P e with
           | some ⟨.int .u8,_,_,_⟩=>some (.str [])
           | _=>none
         | _=>none
       | .sl b o n k=>match is.und with
         | .slice e=>match ti P e with
           | some ⟨.int .u8,_,_,_⟩=>match H b with
             | some (.cells cs)=>match Nat.ble (o+n) cs.length && Nat.beq k 1 with
               | true=>(bytesOf ((cs.drop o).take n)).map .str
               | false=>none
             | _=>none
           | _=>none
         | _=>none
       | _=>none
     | _=>none
   | none=>none
 | none=>none
theorem convA_sound {P:Program}{H:Heap}{M:Mp}{nx:Nat}{w:World}{s d:TypeId}{x c:CV}{v:Value}(h:convA P H s d x=some c)(r:Rep M H nx w)(hx:RV M x v) :
  ∃ z,(convert s d v).run P w=.ok z w∧RV M c z:=by
 unfold convA at h;split at h
 case h_2=>cases h
 rename_i is his;split at h
 case h_2=>cases h
 rename_i id hid;split at h
 ·rename_i k hk;split at h
  ·cases h;cases hx;refine⟨_,?_,.int _ _⟩;simp [convert,ti_und his,ti_und hid,hk,Conv.intToInt]
  ·cases h
 ·rename_i hk;split at h
  ·rename_i l;cases h;cases hx with
   | str _ s' hs =>
     refine⟨.string s',?_,.str _ _ hs⟩;simp [convert,ti_und his,ti_und hid,hk]
  ·split at h
   ·rename_i e he;split at h
    ·rename_i hte;cases h;cases hx;refine⟨.string .empty,?_,.str _ _ rfl⟩;rw [run_convert_bytes_string w s d e none 0 0 (by rw [(ti_spec his).1,he]) (ti_spec hte).1 (by rw [(ti_spec hid).1,hk])];simp [Conv.bytesToString]
    ·cases h
   ·cases h
  ·rename_i b o n k;split at h
   ·rename_i e he;split at h
    ·rename_i hte;split at h
     ·rename_i cs hb;split at h
      ·rename_i hle;simp only [Bool.and_eq_true] at hle;have h1:=Nat.le_of_ble_eq_true hle.1;cases hbo:bytesOf ((cs.drop o).take n) with
       | none=>simp [hbo] at h
       | some l =>
         simp [hbo] at h;subst h;cases hx with
         | sl _ _ _ _ g m cp hm hn hm' =>
           obtain⟨g',m',hm'',arr,T,ha,hs,hr⟩:=r.blk b _ hb;rw [hm] at hm'';cases hm'';have hlen:cs.length≤arr.size:=by have:=hr.1;simp at this;omega
           have hrs:RVs M ((cs.drop o).take n) ((arr.toList.drop o).take n):=by
            have:=(hr.drop o).take n;rw [List.drop_take,List.take_take,Nat.min_eq_left (by omega)] at this;exact this
           obtain⟨ns,e1,e2⟩:=bytesOf_sound hbo hrs;have hld:=run_loadCells_list (P:=P) w ⟨g,o,none⟩ ((arr.toList.drop o).take n) (fun j v hj=>by
            rw [cell_at ha];rw [List.getElem?_take] at hj;split at hj
            ·simpa using hj
            ·cases hj)
           have hnl:((arr.toList.drop o).take n).length=n:=by simp;omega
           rw [hnl,e1] at hld;have hb2:=run_bytesToString (P:=P) w ⟨g,o,none⟩ n cp ns hld;refine⟨_,?_,.str _ _ ((e2 .empty).trans (by simp))⟩;rw [run_convert_bytes_string w s d e _ n cp (by rw [(ti_spec his).1,he]) (ti_spec hte).1 (by rw [(ti_spec hid).1,hk])];exact hb2
      ·cases h
     ·cases h
    ·cases h
   ·cases h
  ·cases h
 ·cases h
/-! maps -/
def findK (d:TypeDesc)(k:CV):List CV→Nat→Option (Option Nat)
 | [],_=>some none
 | c::cs,j=>match scalD d k c with
   | some true=>some (some j)
   | some false=>findK d k cs (j+1)
   | none=>none
theorem findK_sound {M:Mp}{d:TypeDesc}{k:CV}{kv:Value}(hk:RV M k kv):∀ {cs:List CV} {es:List MapEntry} {j:Nat} {r:Option Nat},findK d k cs j=some r→RVs M cs (es.map (·.key)) →
  match r with
  | some q=>j≤q∧∃ e,es[q-j]?=some e∧Instr.findNow d kv es j=some (some (q,e.val))∧Instr.sameNow d kv e.key=some true
  | none=>Instr.findNow d kv es j=some none
 | [],es,j,r,h,hr=>by
   cases h;have:es=[]:=by simpa using hr.nil_inv
   subst this;rfl
 | c::cs,es,j,r,h,hr=>by
   cases es with
   | nil=>have:=hr.1;simp at this
   | cons e es =>
     simp only [List.map_cons] at hr;unfold findK at h;split at h
     ·rename_i hs;cases h;have:=scalD_sameNow hs hk hr.head;exact⟨Nat.le_refl _,e,by simp,by simp [Instr.findNow,this],this⟩
     ·rename_i hs;have hsn:=scalD_sameNow hs hk hr.head;have ih:=findK_sound hk h hr.tail;cases r with
      | none=>simpa [Instr.findNow,hsn] using ih
      | some q =>
        obtain⟨a,e',b1,b2,b3⟩:=ih;refine⟨by omega,e',?_,by simp [Instr.findNow,hsn,b2],b3⟩;rw [show q-j=(q-(j+1))+1 by omega];simpa using b1
     ·cases h
def keyD:TypeDesc→CV→Bool
 | .int _,.int _ _=>true
 | .string,.str _=>true
 | .bool,.bool _=>true
 | _,_=>false
theorem keyD_check {P:Program}{M:Mp}{w:World}{t:TypeId}{i:TI}{k:CV}{kv:Value}(ht:ti P t=some i)(h:keyD i.und k=true)(hk:RV M k kv)(e:Bool)(n:Nat):(Instr.checkKey e (n+1) t kv).run P w=.ok () w:=by
 unfold Instr.checkKey;simp only [Sem.run_bind,ti_und ht,Result.andThen_ok];unfold keyD at h;split at h <;> first | (rename_i e1;rw [e1];cases hk;simp) | cases h
def mapOf (H:Heap):CV→Option (List CV×List CV)
 | .nilm=>some ([],[])
 | .fmp ks vs=>some (ks,vs)
 | .mp b=>match H b with
   | some (.map ks vs)=>some (ks,vs)
   | _=>none
 | _=>none
def lookA (P:Program)(H:Heap)(t:TypeId)(x k:CV)(ok:Bool):Option CV:=match ti P t with
 | some ⟨.map kt et,_,_,_⟩=>match ti P kt with
   | some ik=>match ti P et with
     | some ie=>match mapOf H x with
       | some (ks,vs)=>match keyD ik.und k with
         | true=>match findK ik.und k ks 0 with
           | some (some q)=>match vs[q]? with
             | some v=>some (if ok then .tup [v,.bool true] else v)
             | none=>none
           | some none=>some (if ok then .tup [ofV ie.zero,.bool false] else ofV ie.zero)
           | none=>none
         | false=>none
       | none=>none
     | none=>none
   | none=>none
 | _=>none
theorem mapOf_sound {H:Heap}{M:Mp}{nx:Nat}{w:World}{x:CV}{v:Value}{ks vs:List CV}(h:mapOf H x=some (ks,vs))(r:Rep M H nx w)(hx:RV M x v) :
  ∃ es:Array MapEntry,RVs M ks (es.toList.map (·.key))∧RVs M vs (es.toList.map (·.val))∧((v=.map none∧es=#[])∨∃ g clock,v=.map (some g)∧w.heap[g]?=some (.map es clock)):=by
 unfold mapOf at h;split at h
 ·cases h;cases hx;exact⟨#[],.nil,.nil,.inl ⟨rfl,rfl⟩⟩
 ·cases h;cases hx with
  | fmp _ _ g en clock hg h1 h2 hk hv =>
    exact⟨en,⟨by simp [h1],fun j a b=>by simpa using hk j a (by simpa using b)⟩,⟨by simp [h2],fun j a b=>by simpa using hv j a (by simpa using b)⟩,.inr ⟨g,clock,rfl,r.fz g _ hg⟩⟩
 ·rename_i b;split at h
  ·rename_i ks' vs' hb;cases h;cases hx with
   | mp _ g m hm =>
     obtain⟨g',m',hm',en,clock,ha,hk,hv⟩:=r.blk b _ hb;rw [hm] at hm';cases hm';exact⟨en,hk,hv,.inr ⟨g,clock,rfl,ha⟩⟩
  ·cases h
 ·cases h
theorem lookA_sound {P:Program}{H:Heap}{M:Mp}{nx:Nat}{w:World}{t:TypeId}{x k c:CV}{ok:Bool}{v kv:Value}(h:lookA P H t x k ok=some c)(r:Rep M H nx w)(hx:RV M x v)(hk:RV M k kv) :
  ∃ z,(Instr.lookup t v kv ok).run P w=.ok z w∧RV M c z:=by
 unfold lookA at h;split at h
 case h_2=>cases h
 rename_i kt et _ _ _ ht;split at h
 case h_2=>cases h
 rename_i ik hik;split at h
 case h_2=>cases h
 rename_i ie hie;split at h
 case h_2=>cases h
 rename_i ks vs hm;split at h
 case h_2=>cases h
 rename_i hkd;obtain⟨es,hks,hvs,hrun⟩:=mapOf_sound hm r hx;have hck:=keyD_check (w:=w) hik hkd hk es.isEmpty 9999;have fin:∀ (z:Value) (b:Bool) (cz:CV),RV M cz z→∃ y,(pure (if ok then .tuple #[z,.bool b] else z):Sem Value).run P w=.ok y w∧RV M (if ok then .tup [cz,.bool b] else cz) y:=by
  intro z b cz hz;cases ok with
  | false=>exact⟨z,rfl,by simpa using hz⟩
  | true =>
    refine⟨.tuple #[z,.bool b],rfl,?_⟩;have:=RVs.cons hz (RVs.one (RV.bool (M:=M) b));exact RV.tup _ _ this.1 this.2
 split at h
 ·rename_i q hq;split at h
  ·rename_i cv hcv;cases h;obtain⟨_,e,he,hf,_⟩:=findK_sound hk hq hks;obtain⟨z,hz,hrz⟩:=hvs.at' hcv;have hez:e.val=z:=by
    simp only [Nat.sub_zero] at he;rw [List.getElem?_map,he] at hz;simpa using hz
   subst hez;obtain⟨y,hy,hry⟩:=fin e.val true cv hrz;refine⟨y,?_,hry⟩;rcases hrun with⟨e1,e2⟩ | ⟨g,clock,e1,e2⟩
   ·subst e2;simp at he
   ·subst e1;simp only [Instr.lookup,Sem.run_bind,ti_und ht,MapKept.run_getObj_map e2,Result.andThen_ok,hck,Instr.findKey,ti_und hik,hf,Sem.run_pure];exact hy
  ·cases h
 ·rename_i hq;cases h;have hf:=findK_sound hk hq hks;simp only at hf;obtain⟨y,hy,hry⟩:=fin ie.zero false (ofV ie.zero) (RV.ofV M _);refine⟨y,?_,hry⟩;rcases hrun with⟨e1,e2⟩ | ⟨g,clock,e1,e2⟩
  ·subst e1;subst e2;simp only [Instr.lookup,Sem.run_bind,ti_und ht,Result.andThen_ok,hck,Instr.findKey,ti_und hik,hf,Sem.run_pure,ti_zero hie];exact hy
  ·subst e1;simp only [Instr.lookup,Sem.run_bind,ti_und ht,MapKept.run_getObj_map e2,Result.andThen_ok,hck,Instr.findKey,ti_und hik,hf,Sem.run_pure,ti_zero hie];exact hy
 ·cases h
end Ax
end
end Go.Proofs.YtoookjadbhdfhaaGreatDoor
