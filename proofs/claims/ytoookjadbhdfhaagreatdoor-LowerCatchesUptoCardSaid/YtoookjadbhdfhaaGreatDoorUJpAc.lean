/-
  AX: all operations that only look.
-/
import Derived.Test.YtoookjadbhdfhaaGreatDoorUJpAb
import Derived.Laws.Tables
import Derived.Laws.MakeOwn
import Derived.Laws.RangeString
set_option linter.unusedSectionVars false
set_option linter.unusedSimpArgs false
set_option linter.unnecessarySimpa false
set_option linter.unusedVariables false
set_option linter.unusedSimpArgs false
set_option linter.unusedVariables false
namespace Go.Proofs.YtoookjadbhdfhaaGreatDoor
section
namespace Ax
/-! structs and arrays by their parts -/
def placesA (P:Program):List Field→Option (List (Nat×Nat))
 | []=>some []
 | f::fs=>match ti P f.type with
   | some i=>match placesA P fs with
     | some l=>some ((f.offset,i.size)::l)
     | none=>none
   | none=>none
theorem placesA_sound {P:Program}:∀ {fs:List Field} {l:List (Nat×Nat)},placesA P fs=some l→fs.mapM (fun f=>(P.info? f.type).map fun i=>(f.offset,i.size))=some l
 | [],l,h=>by cases h;rfl
 | f::fs,l,h=>by
   unfold placesA at h;split at h
   ·rename_i i hi;split at h
    ·rename_i l' hl';cases h;obtain⟨_,g,hg,hs,_⟩:=ti_spec hi;simp [List.mapM_cons,hg,placesA_sound hl',hs]
    ·cases h
   ·cases h
def fillA (place:Nat→Option (Nat×Nat))(cells:List CV):List (Nat×CV)→Option (List CV)
 | []=>some cells
 | (i,c)::rest=>match place i with
   | some (off,size)=>match c.cs with
     | some l=>match Nat.beq l.length size && Nat.ble (off+size) cells.length with
       | true=>fillA place (cells.take off++l++cells.drop (off+size)) rest
       | false=>none
     | none=>none
   | none=>none
theorem foldl_set (off:Nat):∀ (vs:List Value) (k:Nat) (arr:Array Value),off+k+vs.length≤arr.size →
  ((vs.zipIdx k).foldl (fun cs (c,j)=>cs.setIfInBounds (off+j) c) arr).toList=arr.toList.take (off+k)++vs++arr.toList.drop (off+k+vs.length)
 | [],k,arr,h=>by simp
 | v::vs,k,arr,h=>by
   simp only [List.zipIdx_cons,List.foldl_cons];simp at h;rw [foldl_set off vs (k+1) (arr.setIfInBounds (off+k) v) (by simp;omega)];simp only [Array.toList_setIfInBounds,List.length_cons];have e1:(arr.toList.set (off+k) v).take (off+(k+1))=arr.toList.take (off+k)++[v]:=by
    rw [← Nat.add_assoc,List.take_succ_eq_append_getElem (by simp;omega)];simp [List.take_set];rw [List.set_eq_of_length_le (by simp;omega)]
   have e2:(arr.toList.set (off+k) v).drop (off+(k+1)+vs.length)=arr.toList.drop (off+k+(vs.length+1)):=by
    rw [List.drop_set_of_lt (by omega)]
    congr 1;omega
   rw [e1,e2];simp
def RParts (M:Mp)(cs:List (Nat×CV))(vs:List (Nat×Value)):Prop:=cs.map Prod.fst=vs.map Prod.fst∧RVs M (cs.map Prod.snd) (vs.map Prod.snd)
theorem fillA_sound {M:Mp}{place:Nat→Option (Nat×Nat)}:∀ {ps:List (Nat×CV)} {qs:List (Nat×Value)} {cells out:List CV} {arr:Array Value},fillA place cells ps=some out→RParts M ps qs→RVs M cells arr.toList →
  ∃ arr',Instr.fill place arr qs=some arr'∧RVs M out arr'.toList
 | [],qs,cells,out,arr,h,hp,hr=>by
   cases h;have:qs=[]:=by simpa using hp.1.symm
   subst this;exact⟨arr,rfl,hr⟩
 | (i,c)::ps,qs,cells,out,arr,h,hp,hr=>by
   cases qs with
   | nil=>have:=hp.1;simp at this
   | cons q qs =>
     obtain⟨i',v⟩:=q;obtain⟨h1,h2⟩:=hp;simp only [List.map_cons,List.cons.injEq] at h1;obtain⟨e,h1⟩:=h1;subst e;unfold fillA at h;split at h
     ·rename_i off size hpl;split at h
      ·rename_i l hl;split at h
       ·rename_i hb;simp only [Bool.and_eq_true] at hb;have hb1:=beq_eq hb.1;have hb2:=Nat.le_of_ble_eq_true hb.2;have hv:=RV.cs (h2.head) hl;have hvl:v.cells.size=size:=by have:=hv.1;simp at this;omega
        have hal:arr.size=cells.length:=by have:=hr.1;simpa using this
        have hset:=foldl_set off v.cells.toList 0 arr (by simp;omega);simp only [Nat.add_zero,Array.length_toList] at hset;have hrs:RVs M (cells.take off++l++cells.drop (off+size)) ((v.cells.toList.zipIdx.foldl (fun cs (c,j)=>cs.setIfInBounds (off+j) c) arr).toList):=by
         rw [hset,hvl];exact ((hr.take off).append hv).append (hr.drop (off+size))
        obtain⟨arr',e1,e2⟩:=fillA_sound h ⟨h1,h2.tail⟩ hrs;refine⟨arr',?_,e2⟩;unfold Instr.fill;simp only [hpl];have hc:¬ ((v.cells.size≠size) || decide (off+v.cells.size > arr.size))=true:=by
         simp [hvl,hal];omega
        rw [if_neg hc,← e1]
        congr 1
        rw [← Array.foldl_toList,Array.toList_zipIdx]
       ·cases h
      ·cases h
     ·cases h
def buildA (P:Program)(t:TypeId)(parts:List (Nat×CV)):Option CV:=match ti P t with
 | some it=>match it.und with
   | .struct fs=>match placesA P fs.toList with
     | some pl=>match (ofV it.zero).cs with
       | some zs=>match fillA (fun i=>pl[i]?) zs parts with
         | some l=>some (.agg l)
         | none=>none
       | none=>none
     | none=>none
   | .array _ e=>match ti P e with
     | some ie=>match (ofV it.zero).cs with
       | some zs=>match fillA (fun i=>some (i*ie.size,ie.size)) zs parts with
         | some l=>some (.agg l)
         | none=>none
       | none=>none
     | none=>none
   | _=>none
 | none=>none
theorem buildA_sound {P:Program}{M:Mp}{w:World}{t:TypeId}{ps:List (Nat×CV)}{qs:Array (Nat×Value)}{c:CV}(h:buildA P t ps=some c)(hp:RParts M ps qs.toList) :
  ∃ z,(Instr.build t qs).run P w=.ok z w∧RV M c z:=by
 have fin:∀ {out:List CV} {arr':Array Value},RVs M out arr'.toList→RV M (.agg out) (.agg arr'):=by
  intro out arr' hr;have:=RV.agg out arr'.toList hr.1 hr.2;simpa using this
 unfold buildA at h;split at h
 case h_2=>cases h
 rename_i it hit;obtain⟨hu,f,hf,hs,hz,_⟩:=ti_spec hit;split at h
 ·rename_i fs hfs;rw [hfs] at hu;split at h
  case h_2=>cases h
  rename_i pl hpl;split at h
  case h_2=>cases h
  rename_i zs hzs;split at h
  case h_2=>cases h
  rename_i l hl;cases h;obtain⟨arr',e1,e2⟩:=fillA_sound hl hp ((RV.ofV M it.zero).cs hzs);refine⟨.agg arr',run_build w t qs arr' ?_,fin e2⟩;unfold Program.built;have e1':Instr.fill (fun x=>pl.toArray[x]?) it.zero.cells qs.toList=some arr':=by simpa using e1
  simp only [hf,hu,hz,placesA_sound hpl];exact e1'
 ·rename_i n e he;rw [he] at hu;split at h
  case h_2=>cases h
  rename_i ie hie;split at h
  case h_2=>cases h
  rename_i zs hzs;split at h
  case h_2=>cases h
  rename_i l hl;cases h;obtain⟨_,f',hf',hs',_⟩:=ti_spec hie;obtain⟨arr',e1,e2⟩:=fillA_sound hl hp ((RV.ofV M it.zero).cs hzs);refine⟨.agg arr',run_build w t qs arr' ?_,fin e2⟩;unfold Program.built;simp only [hf,hu,hz,hf',hs'];exact e1
 ·cases h
/-! builtins that only look -/
def lenA (P:Program)(H:Heap)(t:TypeId)(x:CV):Option CV:=match ti P t with
 | some i=>match i.und with
   | .string=>match x with
     | .str l=>some (.int .i64 l.length)
     | _=>none
   | .slice _=>match x with
     | .nils=>some (.int .i64 0)
     | .sl _ _ n _=>some (.int .i64 n)
     | .lst rows=>some (.int .i64 rows.length)
     | _=>none
   | .map _ _=>match mapOf H x with
     | some (ks,_)=>some (.int .i64 ks.length)
     | none=>none
   | .array n _=>some (.int .i64 n)
   | _=>none
 | none=>none
theorem lenA_sound {P:Program}{H:Heap}{M:Mp}{nx:Nat}{w:World}{t ty:TypeId}{x c:CV}{v:Value}(h:lenA P H t x=some c)(r:Rep M H nx w)(hx:RV M x v) :
  ∃ z,(Builtin.len_ #[t] ty #[v]).run P w=.ok z w∧RV M c z:=by
 unfold lenA at h;split at h
 case h_2=>cases h
 rename_i i hti;split at h
 ·rename_i hu;split at h
  ·rename_i l;cases h;cases hx with
   | str _ s hs =>
     refine⟨.int .i64 s.size,by simp [Builtin.len_,ti_und hti,hu,goInt],?_⟩;rw [← hs,data_len];exact .int _ _
  ·cases h
 ·rename_i e hu;split at h
  ·cases h;cases hx;refine⟨_,?_,.int _ _⟩;simp [Builtin.len_,ti_und hti,hu,goInt]
  ·cases h;cases hx;refine⟨_,?_,.int _ _⟩;simp [Builtin.len_,ti_und hti,hu,goInt]
  ·rename_i rows;cases h;cases hx with
   | lst0=>refine⟨_,?_,.int _ _⟩;simp [Builtin.len_,ti_und hti,hu,goInt]
   | lst _ g o n k c arr T fr hg hn=>subst hn;refine⟨_,?_,.int _ _⟩;simp [Builtin.len_,ti_und hti,hu,goInt]
  ·cases h
 ·rename_i k e hu;split at h
  ·rename_i ks vs hm;cases h;obtain⟨es,hks,_,hrun⟩:=mapOf_sound hm r hx;have hl:ks.length=es.size:=by have:=hks.1;simpa using this.symm
   rcases hrun with⟨e1,e2⟩ | ⟨g,clock,e1,e2⟩
   ·subst e1;subst e2;refine⟨_,?_,.int _ _⟩;simp [Builtin.len_,ti_und hti,hu,goInt,hl]
   ·subst e1;refine⟨_,?_,.int _ _⟩;simp [Builtin.len_,ti_und hti,hu,goInt,hl,MapKept.run_getObj_map e2]
  ·cases h
 ·rename_i n e hu;cases h;refine⟨_,?_,.int _ _⟩;simp [Builtin.len_,ti_und hti,hu,goInt]
 ·cases h
def bltA (P:Program)(H:Heap)(b:Builtin)(ts:List TypeId)(xs:List CV):Option CV:=match b with
 | .len=>match ts,xs with
   | [t],[x]=>lenA P H t x
   | _,_=>none
 | .max=>match xs with
   | [.int k x,.int _ y]=>some (.int k (if y > x then y else x))
   | _=>none
 | .min=>match xs with
   | [.int k x,.int _ y]=>some (.int k (if y<x then y else x))
   | _=>none
 | _=>none
theorem bltA_sound {P:Program}{H:Heap}{M:Mp}{nx:Nat}{w:World}{b:Builtin}{ts:Array TypeId}{ty:TypeId}{cns:Array Bool}{xs:List CV}{vs:Array Value}{c:CV}(h:bltA P H b ts.toList xs=some c)(r:Rep M H nx w)(hx:RVs M xs vs.toList) :
  ∃ z,(builtin b ts ty cns vs).run P w=.ok (.value z) w∧RV M c z:=by
 unfold bltA at h;split at h
 ·split at h
  ·rename_i t x hts;obtain⟨v,vs',e1,h1,h2⟩:=hx.cons_inv;have:=h2.nil_inv;subst this;have ev:vs=#[v]:=by apply Array.ext';simpa using e1
   have et:ts=#[t]:=by apply Array.ext';simpa using hts
   subst ev;subst et;obtain⟨z,hz,hr⟩:=lenA_sound (ty:=ty) h r h1;exact⟨z,by simp [builtin,hz],hr⟩
  ·cases h
 ·split at h
  ·rename_i k x k' y;cases h;obtain⟨v,vs',e1,h1,h2⟩:=hx.cons_inv;obtain⟨v2,vs2,e2,h3,h4⟩:=h2.cons_inv;have:=h4.nil_inv;subst this;subst e2;have ev:vs=#[v,v2]:=by apply Array.ext';simpa using e1
   subst ev;cases h1;cases h3;refine⟨_,?_,.int _ _⟩;simp [builtin,Builtin.max_,Builtin.max2]
  ·cases h
 ·split at h
  ·rename_i k x k' y;cases h;obtain⟨v,vs',e1,h1,h2⟩:=hx.cons_inv;obtain⟨v2,vs2,e2,h3,h4⟩:=h2.cons_inv;have:=h4.nil_inv;subst this;subst e2;have ev:vs=#[v,v2]:=by apply Array.ext';simpa using e1
   subst ev;cases h1;cases h3;refine⟨_,?_,.int _ _⟩;simp [builtin,Builtin.min_,Builtin.min2]
  ·cases h
 ·cases h
def ifaceD:TypeDesc→Bool
 | .interface _=>true
 | _=>false
def tasA (P:Program)(x:CV)(xt at':TypeId)(ok:Bool):Option CV:=match ti P at' with
 | some i=>match ifaceD i.und with
   | true=>none
   | false=>match x with
     | .nili=>match ok with
       | true=>some (.tup [ofV i.zero,.bool false])
       | false=>none
     | .iface t v=>match Nat.beq t at' with
       | true=>match ok with
         | true=>some (.tup [v,.bool true])
         | false=>some v
       | false=>match ok with
         | true=>some (.tup [ofV i.zero,.bool false])
         | false=>none
     | _=>none
 | none=>none
theorem RV.pair {M:Mp}{c:CV}{v:Value}(h:RV M c v)(b:Bool):RV M (.tup [c,.bool b]) (.tuple #[v,.bool b]):=by
 have:=RVs.cons h (RVs.one (RV.bool (M:=M) b));exact RV.tup _ _ this.1 this.2
theorem tasA_sound {P:Program}{M:Mp}{w:World}{x c:CV}{xt at':TypeId}{ok:Bool}{v:Value}(h:tasA P x xt at' ok=some c)(hx:RV M x v) :
  ∃ z,(Instr.typeAssert v xt at' ok).run P w=.ok z w∧RV M c z:=by
 unfold tasA at h;split at h
 case h_2=>cases h
 rename_i i hti;split at h
 ·cases h
 ·rename_i hi;have hd:∀ (A:Array (String×TypeId)→Sem Value) (B:Sem Value),(match i.und with | .interface m=>A m | _=>B)=B:=by
   intro A B;cases hu:i.und <;> first | rfl | (rw [hu] at hi;simp [ifaceD] at hi)
  split at h
  ·split at h
   ·cases h;cases hx;refine⟨_,?_,RV.pair (RV.ofV M i.zero) false⟩;unfold Instr.typeAssert;simp only [Sem.run_bind,ti_und hti,Result.andThen_ok];cases hu:i.und <;> first | (rw [hu] at hi;simp [ifaceD] at hi;done) | simp [ti_zero hti]
   ·cases h
  ·rename_i t cv;split at h
   ·rename_i hb;have hb':=beq_eq hb;subst hb';split at h
    ·cases h;cases hx with
     | iface _ _ v hv =>
       refine⟨_,?_,RV.pair hv true⟩;unfold Instr.typeAssert;simp only [Sem.run_bind,ti_und hti,Result.andThen_ok];cases hu:i.und <;> first | (rw [hu] at hi;simp [ifaceD] at hi;done) | simp
    ·cases h;cases hx with
     | iface _ _ v hv =>
       refine⟨v,?_,hv⟩;unfold Instr.typeAssert;simp only [Sem.run_bind,ti_und hti,Result.andThen_ok];cases hu:i.und <;> first | (rw [hu] at hi;simp [ifaceD] at hi;done) | simp
   ·rename_i hb;have hb':t≠at':=fun e=>by subst e;rw [Nat.beq_refl] at hb;cases hb
    split at h
    ·cases h;cases hx with
     | iface _ _ v hv =>
       refine⟨_,?_,RV.pair (RV.ofV M i.zero) false⟩;unfold Instr.typeAssert;simp only [Sem.run_bind,ti_und hti,Result.andThen_ok];cases hu:i.und <;> first | (rw [hu] at hi;simp [ifaceD] at hi;done) | simp [ti_zero hti,hb']
    ·cases h
  ·cases h
/-! one step that only looks -/
def qstep (P:Program)(H:Heap)(ρ:Operand→CV)(op:Op):Option CV:=match op with
 | .move x=>some (ρ x)
 | .assign x=>some (ρ x)
 | .pick c a b=>match ρ c with
   | .bool true=>some (ρ a)
   | .bool false=>some (ρ b)
   | _=>none
 | .load t a=>loadA P H t (ρ a)
 | .nilCheck x=>match ρ x with
   | .ptr b o=>some (.ptr b o)
   | .rop cs=>some (.rop cs)
   | .fn (.func f) a b=>some (.fn (.func f) a b)
   | _=>none
 | .binOp op t x y _=>binA P op t (ρ x) (ρ y)
 | .unOp op _ x=>unA op (ρ x)
 | .convert s d x=>convA P H s d (ρ x)
 | .makeInterface t x=>match ti P t with
   | some i=>match ifaceD i.und with
     | true=>none
     | false=>some (.iface t (ρ x))
   | none=>none
 | .makeFunc fn first captured=>some (.fn fn (first.toList.map ρ) (captured.toList.map ρ))
 | .slice t x lo hi mx=>match mx with
   | none=>sliA P H t (ρ x) (lo.map ρ) (hi.map ρ)
   | some _=>none
 | .fieldAddr t x f=>faddA P t (ρ x) f
 | .field t x f=>fieldA P t (ρ x) f
 | .indexAddr t x i=>iaddA P t (ρ x) (ρ i)
 | .index t x i=>idxA P t (ρ x) (ρ i)
 | .lookup t x i ok=>lookA P H t (ρ x) (ρ i) ok
 | .typeAssert x xt at' ok=>tasA P (ρ x) xt at' ok
 | .extract x i=>match ρ x with
   | .tup vs=>vs[i]?
   | _=>none
 | .build t parts=>buildA P t (parts.toList.map fun p=>(p.1,ρ p.2))
 | .call c=>match c.callee with
   | .builtin b=>bltA P H b c.argTypes.toList (c.args.toList.map ρ)
   | _=>none
 | _=>none
theorem RVs.map {M:Mp}{ρ:Operand→CV}{σ:Operand→Value}:∀ {l:List Operand},(∀ x∈l,RV M (ρ x) (σ x))→RVs M (l.map ρ) (l.map σ)
 | [],_=>.nil
 | x::l,h=>.cons (h x (by simp)) (RVs.map fun y hy=>h y (by simp [hy]))
theorem qstep_sound {P:Program}{H:Heap}{ρ:Operand→CV}{o:Oper}{c:CV}{M:Mp}{nx:Nat}{w:World}{σ:Operand→Value}(h:qstep P H ρ o.op=some c)(r:Rep M H nx w)(hρ:∀ x∈o.op.operands,RV M (ρ x) (σ x)) :
  ∃ z,(execOp σ o).run P w=.ok (.value z) w∧RV M c z:=by
 have val:∀ {s:Sem Value},(∃ z,s.run P w=.ok z w∧RV M c z)→∃ z,(do pure (.value (← s)):Sem Next).run P w=.ok (.value z) w∧RV M c z:=by
  rintro s ⟨z,h1,h2⟩;exact⟨z,by simp [h1],h2⟩
 cases hop:o.op
 all_goals rw [hop] at h hρ
 all_goals first | (cases h;done) | skip
 case move x=>cases h;exact⟨_,by simp [execOp,hop],hρ x (by simp [Op.operands])⟩
 case assign x=>cases h;exact⟨_,by simp [execOp,hop],hρ x (by simp [Op.operands])⟩
 case pick a b d =>
  have ha:=hρ a (by simp [Op.operands]);have hb:=hρ b (by simp [Op.operands]);have hd:=hρ d (by simp [Op.operands]);simp only [qstep] at h;split at h
  ·rename_i hc;cases h;rw [hc] at ha;generalize hv:σ a=v at ha;cases ha;exact⟨_,by simp [execOp,hop,hv,asBool],hb⟩
  ·rename_i hc;cases h;rw [hc] at ha;generalize hv:σ a=v at ha;cases ha;exact⟨_,by simp [execOp,hop,hv,asBool],hd⟩
  ·cases h
 case load t a =>
  obtain⟨z,h1,h2⟩:=loadA_sound h r (hρ a (by simp [Op.operands]));exact⟨z,by simp [execOp,hop,h1],h2⟩
 case nilCheck x =>
  have hx:=hρ x (by simp [Op.operands]);simp only [qstep] at h;split at h
  ·rename_i hc;cases h;rw [hc] at hx;generalize hv:σ x=v at hx;cases hx with
   | ptr _ _ g m hm=>exact⟨_,by simp [execOp,hop,hv],.ptr _ _ g m hm⟩
  ·rename_i hc;cases h;rw [hc] at hx;generalize hv:σ x=v at hx;have hx0:=hx;cases hx with
   | rop _ g o' arr T fr hg hl hr=>exact⟨_,by simp [execOp,hop,hv],hx0⟩
  ·rename_i hc;cases h;rw [hc] at hx;generalize hv:σ x=v at hx;have hx0:=hx;cases hx with
   | fn _ _ _ fs' cs' l1 l2 h1 h2=>exact⟨_,by simp [execOp,hop,hv],hx0⟩
  ·cases h
 case binOp op t x y t' =>
  obtain⟨z,h1,h2⟩:=binA_sound (w:=w) (xo:=x) (yo:=y) h (hρ x (by simp [Op.operands])) (hρ y (by simp [Op.operands]));refine⟨z,?_,h2⟩;unfold execOp;rw [hop];simp only;rw [Sem.run_bind,h1];simp
 case unOp op t x =>
  obtain⟨z,h1,h2⟩:=unA_sound (P:=P) (w:=w) h (hρ x (by simp [Op.operands]));exact⟨z,by simp [execOp,hop,h1],h2⟩
 case convert s d x =>
  obtain⟨z,h1,h2⟩:=convA_sound h r (hρ x (by simp [Op.operands]));exact⟨z,by simp [execOp,hop,h1],h2⟩
 case makeInterface t x =>
  simp only [qstep] at h;split at h
  ·rename_i i hti;split at h
   ·cases h
   ·rename_i hi;cases h;refine⟨.iface t (σ x),?_,.iface _ _ _ (hρ x (by simp [Op.operands]))⟩;unfold execOp;rw [hop];simp only [Sem.run_bind,Instr.makeInterface,ti_und hti,Result.andThen_ok];cases hu:i.und <;> first | (rw [hu] at hi;simp [ifaceD] at hi;done) | simp
  ·cases h
 case makeFunc fn first captured =>
  cases h;have h1:RVs M (first.toList.map ρ) (first.toList.map σ):=RVs.map fun x hx=>hρ x (by simp [Op.operands];exact .inl (by simpa using hx))
  have h2:RVs M (captured.toList.map ρ) (captured.toList.map σ):=RVs.map fun x hx=>hρ x (by simp [Op.operands];exact .inr (by simpa using hx))
  refine⟨.func fn (first.map σ) (captured.map σ),by simp [execOp,hop,Instr.makeFunc],?_⟩;have:=RV.fn fn _ _ _ _ h1.1 h2.1 h1.2 h2.2;have e1:(first.toList.map σ).toArray=first.map σ:=by apply Array.ext';simp
  have e2:(captured.toList.map σ).toArray=captured.map σ:=by apply Array.ext';simp
  rw [e1,e2] at this;exact this
 case slice t x lo hi mx =>
  cases mx with
  | some _=>cases h
  | none =>
    obtain⟨z,h1,h2⟩:=sliA_sound (lo':=lo.map σ) (hi':=hi.map σ) h r (hρ x (by simp [Op.operands])) (fun c hc=>by
      cases lo with
      | none=>cases hc
      | some l=>cases hc;exact⟨σ l,rfl,hρ l (by simp [Op.operands])⟩) (fun hc=>by cases lo <;> simp_all) (fun c hc=>by
      cases hi with
      | none=>cases hc
      | some l=>cases hc;exact⟨σ l,rfl,hρ l (by simp [Op.operands])⟩) (fun hc=>by cases hi <;> simp_all)
    exact⟨z,by simp [execOp,hop,h1],h2⟩
 case fieldAddr t x f =>
  obtain⟨z,h1,h2⟩:=faddA_sound (w:=w) h (hρ x (by simp [Op.operands]));exact⟨z,by simp [execOp,hop,h1],h2⟩
 case field t x f =>
  obtain⟨z,h1,h2⟩:=fieldA_sound (w:=w) h (hρ x (by simp [Op.operands]));exact⟨z,by simp [execOp,hop,h1],h2⟩
 case indexAddr t x i =>
  obtain⟨z,h1,h2⟩:=iaddA_sound (w:=w) h (hρ x (by simp [Op.operands])) (hρ i (by simp [Op.operands]));exact⟨z,by simp [execOp,hop,h1],h2⟩
 case index t x i =>
  obtain⟨z,h1,h2⟩:=idxA_sound (w:=w) h (hρ x (by simp [Op.operands])) (hρ i (by simp [Op.operands]));exact⟨z,by simp [execOp,hop,h1],h2⟩
 case lookup t x i ok =>
  obtain⟨z,h1,h2⟩:=lookA_sound h r (hρ x (by simp [Op.operands])) (hρ i (by simp [Op.operands]));exact⟨z,by simp [execOp,hop,h1],h2⟩
 case typeAssert x xt at' ok =>
  obtain⟨z,h1,h2⟩:=tasA_sound (w:=w) (xt:=xt) h (hρ x (by simp [Op.operands]));exact⟨z,by simp [execOp,hop,h1],h2⟩
 case extract x i =>
  have hx:=hρ x (by simp [Op.operands]);simp only [qstep] at h;split at h
  ·rename_i vs hc;rw [hc] at hx;generalize hv:σ x=v at hx;cases hx with
   | tup _ us hl hr =>
     obtain⟨z,hz,hrz⟩:=RVs.at' ⟨hl,hr⟩ h;exact⟨z,by simp [execOp,hop,hv,Instr.extract,hz],hrz⟩
  ·cases h
 case build t parts =>
  have hp:RParts M (parts.toList.map fun p=>(p.1,ρ p.2)) (parts.map fun p=>(p.1,σ p.2)).toList:=by
   refine⟨by simp [Function.comp_def],?_⟩;simp only [Array.toList_map,List.map_map,Function.comp_def];have:=RVs.map (M:=M) (ρ:=ρ) (σ:=σ) (l:=parts.toList.map (·.2)) (fun x hx=>hρ x (by simpa [Op.operands] using hx));simpa [List.map_map,Function.comp_def] using this
  obtain⟨z,h1,h2⟩:=buildA_sound (w:=w) h hp;exact⟨z,by simp [execOp,hop,h1],h2⟩
 case call cl =>
  simp only [qstep] at h;split at h
  ·rename_i b hb;have hx:RVs M (cl.args.toList.map ρ) (cl.args.map σ).toList:=by
    rw [Array.toList_map];exact RVs.map fun x hx=>hρ x (by simp [Op.operands,Call.operands,hb];simpa using hx)
   obtain⟨z,h1,h2⟩:=bltA_sound (ty:=o.type) (cns:=cl.args.map fun | .const _=>true | _=>false) h r hx;refine⟨z,?_,h2⟩;unfold execOp;rw [hop];simp only [resolve,hb,Sem.run_bind,Sem.run_pure,Result.andThen_ok,invoke];exact h1
  ·cases h
end Ax
end
section
namespace Ax
/-! new blocks -/
def zrep (zs:List CV)(n:Nat):List CV:=(List.range n).map fun j=>(zs[j % zs.length]?).getD .any
theorem zrep_sound {M:Mp}{zs:List CV}{z:Array Value}(h:RVs M zs z.toList)(n:Nat):RVs M (zrep zs n) ((Array.range n).map (z[· % z.size]!)).toList:=by
 refine⟨by simp [zrep],fun j a b=>?_⟩;have hl:z.size=zs.length:=by have:=h.1;simpa using this
 simp only [zrep,List.getElem_map,List.getElem_range,Array.toList_map,Array.toList_range];cases hz:zs[j % zs.length]? with
 | none=>exact .any _
 | some c =>
   obtain⟨v,hv,hr⟩:=h.at' hz;simp only [Option.getD_some];have:z[j % z.size]! = v:=by
    rw [hl];have hv':z[j % zs.length]?=some v:=by rw [← Array.getElem?_toList];exact hv
    simp [getElem!_def,hv']
   rw [this];exact hr
def astep (P:Program)(ρ:Operand→CV)(b:Nat)(op:Op):Option (CV×CB):=match op with
 | .alloc t=>match ti P t with
   | some i=>match (ofV i.zero).cs with
     | some zs=>some (.ptr b 0,.cells zs)
     | none=>none
   | none=>none
 | .box t x=>match (ρ x).cs with
   | some l=>some (.ptr b 0,.cells l)
   | none=>none
 | .buildSlice t len parts=>match ti P t with
   | some ⟨.slice e,_,_,_⟩=>match ti P e with
     | some i=>match Nat.ble (len*i.size) 16777216 with
       | true=>match (ofV i.zero).cs with
         | some zs=>match fillA (fun j=>some (j*i.size,i.size)) (zrep zs (len*i.size)) (parts.toList.map fun p=>(p.1,ρ p.2)) with
           | some l=>some (.sl b 0 len i.size,.cells l)
           | none=>none
         | none=>none
       | false=>none
     | none=>none
   | _=>none
 | .makeMap t r=>match r with
   | none=>some (.mp b,.map [] [])
   | some x=>match ti P t with
     | some ⟨.map _ _,_,_,_⟩=>match ρ x with
       | .int _ _=>some (.mp b,.map [] [])
       | _=>none
     | _=>none
 | .makeSlice t l c=>match ti P t with
   | some ⟨.slice e,_,_,_⟩=>match ti P e with
     | some i=>match ρ l,ρ c with
       | .int .i64 n,.int .i64 n'=>match natOf n,natOf n' with
         | some k,some k'=>match Nat.beq k k' && Nat.ble (k*i.bytes) 140737488355328 && Nat.ble k 9223372036854775807 with
           | true=>match (ofV i.zero).cs with
             | some zs=>some (.sl b 0 k i.size,.cells (zrep zs (k*i.size)))
             | none=>none
           | false=>none
         | _,_=>none
       | _,_=>none
     | none=>none
   | _=>none
 | .range t x=>match ti P t with
   | some ⟨.string,_,_,_⟩=>match ρ x with
     | .str l=>some (.ptr b 0,.iter l 0)
     | _=>none
   | _=>none
 | _=>none
theorem fill_size {place:Nat→Option (Nat×Nat)}:∀ {qs:List (Nat×Value)} {arr arr':Array Value},Instr.fill place arr qs=some arr'→arr'.size=arr.size
 | [],arr,arr',h=>by cases h;rfl
 | (i,v)::qs,arr,arr',h=>by
   unfold Instr.fill at h;split at h
   ·cases h
   ·split at h
    ·cases h
    ·rw [fill_size h];have:∀ (l:List (Value×Nat)) (off:Nat) (a:Array Value),(l.foldl (fun cs (x:Value×Nat)=>cs.setIfInBounds (off+x.2) x.1) a).size=a.size:=by
      intro l off
      induction l with
      | nil=>intro a;rfl
      | cons x l ih=>intro a;rw [List.foldl_cons,ih];simp
     rw [← Array.foldl_toList];exact this _ _ _
theorem astep_sound {P:Program}{ρ:Operand→CV}{o:Oper}{b:Nat}{c:CV}{k:CB}{M:Mp}{w:World}{σ:Operand→Value}(h:astep P ρ b o.op=some (c,k))(hb:M.bk b=none)(hρ:∀ x∈o.op.operands,RV M (ρ x) (σ x)) :
  ∃ z obj m w',(execOp σ o).run P w=.ok (.value z) w'∧w'.heap=w.heap.push obj∧w'.os=w.os∧w'.tape=w.tape∧w'.output=w.output ∧
   RB (updM M b (w.heap.size,m)) w' w.heap.size m k∧RV (updM M b (w.heap.size,m)) c z:=by
 have he:∀ m,Ext M (updM M b (w.heap.size,m)):=fun m=>Ext.updM hb
 have new:∀ (arr:Array Value) (T:TypeId) (l:List CV),RVs M l arr.toList→RB (updM M b (w.heap.size,arr.size)) { w with heap:=w.heap.push (.cells arr T) } w.heap.size arr.size (.cells l):=by
  intro arr T l hl;refine⟨arr,T,by simp,rfl,?_⟩;have:l.length=arr.toList.length:=hl.1.symm;rw [this,List.take_length];exact hl.ext (he _)
 unfold astep at h;split at h
 ·rename_i t hop;split at h
  case h_2=>cases h
  rename_i i hti;split at h
  case h_2=>cases h
  rename_i zs hzs;cases h;refine⟨.pointer (some ⟨w.heap.size,0,none⟩),.cells i.zero.cells t,i.zero.cells.size,{ w with heap:=w.heap.push (.cells i.zero.cells t) },?_,rfl,rfl,rfl,rfl,new _ _ _ ((RV.ofV M i.zero).cs hzs),.ptr _ _ _ _ (updM_hit _ _ _)⟩;simp [execOp,hop,Instr.alloc,ti_zero hti,newVar,newRow]
 ·rename_i t x hop;split at h
  case h_2=>cases h
  rename_i l hl;cases h;have hx:=hρ x (by simp [hop,Op.operands]);refine⟨.pointer (some ⟨w.heap.size,0,none⟩),.cells (σ x).cells t,(σ x).cells.size,{ w with heap:=w.heap.push (.cells (σ x).cells t) },?_,rfl,rfl,rfl,rfl,new _ _ _ (hx.cs hl),.ptr _ _ _ _ (updM_hit _ _ _)⟩;simp [execOp,hop,Instr.box,newVar,newRow]
 ·rename_i t len parts hop;split at h
  case h_2=>cases h
  rename_i e _ _ _ ht;split at h
  case h_2=>cases h
  rename_i i hti;split at h
  case h_2=>cases h
  rename_i hle;have hle':=Nat.le_of_ble_eq_true hle;split at h
  case h_2=>cases h
  rename_i zs hzs;split at h
  case h_2=>cases h
  rename_i l hl;cases h;have hp:RParts M (parts.toList.map fun p=>(p.1,ρ p.2)) (parts.map fun p=>(p.1,σ p.2)).toList:=by
   refine⟨by simp [Function.comp_def],?_⟩;simp only [Array.toList_map,List.map_map,Function.comp_def];have:=RVs.map (M:=M) (ρ:=ρ) (σ:=σ) (l:=parts.toList.map (·.2)) (fun x hx=>hρ x (by simpa [hop,Op.operands] using hx));simpa [List.map_map,Function.comp_def] using this
  have hz0:=(RV.ofV M i.zero).cs hzs
  by_cases hz:len*i.size=0
  ·obtain⟨arr',e1,e2⟩:=fillA_sound (arr:=((Array.range (len*i.size)).map ((#[]:Array Value)[· % (#[]:Array Value).size]!))) hl hp (by
    rw [hz];exact⟨by simp [zrep],fun j a=>by simp [zrep] at a⟩)
   have hsz:=fill_size e1;refine⟨.slice (some ⟨w.heap.size,0,none⟩) len len,.cells arr' e,arr'.size,{ w with heap:=w.heap.push (.cells arr' e) },?_,rfl,rfl,rfl,rfl,new _ _ _ e2,.sl _ _ _ _ _ _ len (updM_hit _ _ _) (Nat.le_refl _) (by simp at hsz;omega)⟩;simp only [execOp,hop,Sem.run_bind,Instr.buildSlice,ti_und ht,Result.andThen_ok,ti_size hti];have hn:¬ (len*i.size > 2 ^ 24):=by omega
   rw [if_neg hn,if_pos hz];simp only [Sem.run_bind,Sem.run_pure,Result.andThen_ok,e1,newRow,run_newObj]
  ·obtain⟨arr',e1,e2⟩:=fillA_sound (arr:=((Array.range (len*i.size)).map (i.zero.cells[· % i.zero.cells.size]!))) hl hp (zrep_sound hz0 _);have hsz:=fill_size e1;refine⟨.slice (some ⟨w.heap.size,0,none⟩) len len,.cells arr' e,arr'.size,{ w with heap:=w.heap.push (.cells arr' e) },?_,rfl,rfl,rfl,rfl,new _ _ _ e2,.sl _ _ _ _ _ _ len (updM_hit _ _ _) (Nat.le_refl _) (by simp at hsz;omega)⟩;simp only [execOp,hop,Sem.run_bind,Instr.buildSlice,ti_und ht,Result.andThen_ok,ti_size hti];have hn:¬ (len*i.size > 2 ^ 24):=by omega
   rw [if_neg hn,if_neg hz];simp only [Sem.run_bind,ti_zero hti,Sem.run_pure,Result.andThen_ok,e1,newRow,run_newObj]
 ·rename_i t r hop;have fin:RB (updM M b (w.heap.size,0)) { w with heap:=w.heap.push (.map #[] 0) } w.heap.size 0 (.map [] []):=⟨#[],0,by simp,.nil,.nil⟩;split at h
  ·cases h;refine⟨.map (some w.heap.size),.map #[] 0,0,{ w with heap:=w.heap.push (.map #[] 0) },?_,rfl,rfl,rfl,rfl,fin,.mp _ _ _ (updM_hit _ _ _)⟩;simp [execOp,hop,Instr.makeMap]
  ·rename_i x;split at h
   case h_2=>cases h
   rename_i ht;split at h
   case h_2=>cases h
   rename_i hx;cases h;have hx':=hρ x (by simp [hop,Op.operands]);rw [hx] at hx';generalize hv:σ x=v at hx';cases hx';refine⟨.map (some w.heap.size),.map #[] 0,0,{ w with heap:=w.heap.push (.map #[] 0) },?_,rfl,rfl,rfl,rfl,fin,.mp _ _ _ (updM_hit _ _ _)⟩;simp [execOp,hop,Instr.makeMap,ti_und ht,hv,asInt,asIntOf]
 ·rename_i t l cc hop;split at h
  case h_2=>cases h
  rename_i e _ _ _ ht;split at h
  case h_2=>cases h
  rename_i i hti;split at h
  case h_2=>cases h
  rename_i n n' hl hc;split at h
  case h_2=>cases h
  rename_i q q' hq hq';split at h
  case h_2=>cases h
  rename_i hbb;split at h
  case h_2=>cases h
  rename_i zs hzs;cases h;simp only [Bool.and_eq_true] at hbb;have h1:=beq_eq hbb.1.1;have h2:=Nat.le_of_ble_eq_true hbb.1.2;have h3:=Nat.le_of_ble_eq_true hbb.2;subst h1;have e1:=natOf_spec hq;have e2:=natOf_spec hq';subst e1;subst e2;have hl':=hρ l (by simp [hop,Op.operands]);have hc':=hρ cc (by simp [hop,Op.operands]);rw [hl] at hl';rw [hc] at hc';generalize hv:σ l=v at hl';generalize hu:σ cc=u at hc';cases hl';cases hc';obtain⟨_,f,hf,hs,hz,hby⟩:=ti_spec hti;have hz0:=(RV.ofV M i.zero).cs hzs;have t1:(f.bytes:Int)*(q:Int)≤281474976710656:=by
   rw [hby,Int.mul_comm,← Int.natCast_mul];generalize q*i.bytes=X at h2;omega
  have hrun:=run_make (P:=P) w t e f i.zero (ti_spec ht).1 hf hz .i64 .i64 q q (by omega) (Int.le_refl _) t1 (by omega);simp only [Int.toNat_natCast,hs] at hrun;have hsz:(madeCells i.zero.cells (q*i.size)).size=q*i.size:=size_madeCells _ _;refine⟨.slice (some ⟨w.heap.size,0,none⟩) q q,.cells (madeCells i.zero.cells (q*i.size)) e,(madeCells i.zero.cells (q*i.size)).size,{ w with heap:=w.heap.push (.cells (madeCells i.zero.cells (q*i.size)) e) },?_,rfl,rfl,rfl,rfl,new _ e _ (zrep_sound hz0 _),.sl _ _ _ _ _ _ q (updM_hit _ _ _) (Nat.le_refl _) (by rw [hsz];omega)⟩;simp only [execOp,hop,Sem.run_bind,hv,hu,hrun,Result.andThen_ok,Sem.run_pure];rfl
 ·rename_i t x hop;split at h
  case h_2=>cases h
  rename_i ht;split at h
  case h_2=>cases h
  rename_i l hx;cases h;have hx':=hρ x (by simp [hop,Op.operands]);rw [hx] at hx';generalize hv:σ x=v at hx';cases hx' with
  | str _ s hs =>
  refine⟨.pointer (some ⟨w.heap.size,0,none⟩),.stringIter s 0,0,w.iter s 0,?_,rfl,rfl,rfl,rfl,⟨s,by simp [World.iter_heap],hs⟩,.ptr _ _ _ _ (updM_hit _ _ _)⟩;simp only [execOp,hop,Sem.run_bind,hv,run_range_string w t s (ti_spec ht).1,Result.andThen_ok,Sem.run_pure]
 ·cases h
end Ax
end
section
namespace Ax
theorem oneV_oneCell {v:Value}(h:oneV v=true):v.oneCell'=true:=by cases v <;> first | rfl | (simp [oneV] at h)
/-- What became of the heap. -/
inductive Dl where
 | no
 | set (b:Nat) (k:CB)
 | mv (b:Nat) (k:CB)
 | nw (k:CB)
def Dl.hp (H:Heap)(nx:Nat):Dl→Heap
 | .no=>H
 | .set b k=>upd H b k
 | .mv b k=>upd (drp H b) nx k
 | .nw k=>upd H nx k
def Dl.nx (nx:Nat):Dl→Nat
 | .no=>nx
 | .set _ _=>nx
 | .mv _ _=>nx+1
 | .nw _=>nx+1
/-- A step that writes went well. -/
def EOk (P:Program)(H:Heap)(M:Mp)(nx:Nat)(w:World)(s:Sem Next)(c:CV)(d:Dl):Prop :=
 ∃ M' w',((∃ z,s.run P w=.ok (.value z) w'∧RV M' c z)∨(s.run P w=.ok .skip w'∧c=.any))∧Rep M' (d.hp H nx) (d.nx nx) w'∧Fr H M nx w (d.hp H nx) M' (d.nx nx) w'
/-! stores -/
theorem seg_take {α:Type}(A vs:List α)(o q n:Nat)(hA:n≤A.length)(hq:vs.length=q)(hn:o+q≤n) :
  (A.take o++vs++A.drop (o+q)).take n=(A.take n).take o++vs++(A.take n).drop (o+q):=by
 have hl:(A.take o++vs).length=o+q:=by simp;omega
 rw [List.take_append,hl,List.take_of_length_le (by omega),List.drop_take,List.take_take,Nat.min_eq_left (by omega)]
theorem cells_write {M:Mp}{H:Heap}{nx:Nat}{w:World}(r:Rep M H nx w){b g m o:Nat}{cs l:List CV}{arr:Array Value}{T:TypeId}{vs:List Value}(hb:H b=some (.cells cs))(hm:M.bk b=some (g,m))(ha:w.heap[g]?=some (.cells arr T (0,0)))
  (hs:arr.size=m) (hr:RVs M cs (arr.toList.take cs.length)) (hv:RVs M l vs) (hle:o+l.length≤cs.length) :
  Rep M (upd H b (.cells (cs.take o++l++cs.drop (o+l.length)))) nx (w.setRow g (arr.toList.take o++vs++arr.toList.drop (o+vs.length)).toArray) ∧
  Fr H M nx w (upd H b (.cells (cs.take o++l++cs.drop (o+l.length)))) M nx (w.setRow g (arr.toList.take o++vs++arr.toList.drop (o+vs.length)).toArray):=by
 have hvl:vs.length=l.length:=hv.1;have hcl:cs.length≤arr.size:=by have:=hr.1;simp at this;omega
 refine r.write b _ _ g m hb hm (setRow_size _ _ _) (fun x hx=>setRow_other w g x _ hx) rfl rfl rfl ⟨_,T,setRow_heap w g arr _ T _ ha,?_,?_⟩
 ·simp;omega
 ·have hlen:(cs.take o++l++cs.drop (o+l.length)).length=cs.length:=by simp;omega
  rw [hlen,hvl];rw [seg_take arr.toList vs o l.length cs.length (by simp;omega) hvl hle];exact ((hr.take o).append hv).append (hr.drop _)
def storeA (P:Program)(H:Heap)(t:TypeId)(a x:CV):Option (CV×Dl):=match a with
 | .ptr b o=>match H b with
   | some (.cells cs)=>match ti P t with
     | some i=>match x.cs with
       | some l=>match Nat.beq l.length i.size && l.all CV.one && Nat.ble (o+l.length) cs.length with
         | true=>some (.any,.set b (.cells (cs.take o++l++cs.drop (o+l.length))))
         | false=>none
       | none=>none
     | none=>none
   | _=>none
 | _=>none
theorem storeA_sound {P:Program}{H:Heap}{M:Mp}{nx:Nat}{w:World}{t:TypeId}{a x c:CV}{d:Dl}{av xv:Value}(h:storeA P H t a x=some (c,d))(r:Rep M H nx w)(ha:RV M a av)(hx:RV M x xv) :
  EOk P H M nx w (do Instr.storeAt t av xv;pure .skip) c d:=by
 unfold storeA at h;split at h
 case h_2=>cases h
 rename_i b o;split at h
 case h_2=>cases h
 rename_i cs hb;split at h
 case h_2=>cases h
 rename_i i hti;split at h
 case h_2=>cases h
 rename_i l hl;split at h
 case h_2=>cases h
 rename_i hc;cases h;simp only [Bool.and_eq_true] at hc;have h1:=beq_eq hc.1.1;have h2:=hc.1.2;have h3:=Nat.le_of_ble_eq_true hc.2;cases ha with
 | ptr _ _ g m hm =>
   obtain⟨g',m',hm',arr,T,hw,hs,hr⟩:=r.blk b _ hb;rw [hm] at hm';cases hm';have hv:=hx.cs hl;have hcl:cs.length≤arr.size:=by have:=hr.1;simp at this;omega
   have hvl:xv.cells.toList.length=l.length:=hv.1;have hst:=run_storeCells_at P g o T xv.cells.toList 0 arr w hw (by omega) (fun v hv'=>oneV_oneCell (hv.oneV h2 v hv'));obtain⟨r',f'⟩:=cells_write r hb hm hw hs hr hv h3;refine⟨M,_,.inr ⟨?_,rfl⟩,r',f'⟩;have hsz:xv.cells.size=i.size:=by simp at hvl;omega
   simp only [Instr.storeAt,Instr.sureAddr,storeVar,Sem.run_bind,Sem.run_pure,Result.andThen_ok,ti_size hti,hsz,ne_eq,not_true_eq_false,if_false];rw [hst];simp
/-! sources of append and copy -/
def srcA (H:Heap)(size:Nat)(x:CV):Option (Nat×List CV):=match x with
 | .nils=>some (0,[])
 | .lst rows=>match rows.all (fun r=>Nat.beq r.length size) with
   | true=>some (rows.length,rows.flatten)
   | false=>none
 | .sl b o n k=>match H b with
   | some (.cells cs)=>match Nat.beq k size && Nat.ble (o+n*k) cs.length with
     | true=>some (n,(cs.drop o).take (n*k))
     | false=>none
   | _=>none
 | .str l=>match Nat.beq size 1 with
   | true=>some (l.length,l.map fun b=>.int .u8 b.toNat)
   | false=>none
 | _=>none
theorem flat_rvs {M:Mp}{arr:Array Value}{k:Nat}:∀ {rows:List (List CV)} {o:Nat},(∀ r∈rows,r.length=k)→o+rows.length*k≤arr.size →
  (∀ i (a:i<rows.length) j (b:j<rows[i].length) (d:o+i*k+j<arr.size),RV M rows[i][j] arr[o+i*k+j])→RVs M rows.flatten ((arr.toList.drop o).take (rows.length*k))
 | [],o,_,_,_=>by simpa using RVs.nil
 | r::rows,o,hk,hl,hr=>by
   have hrk:r.length=k:=hk r (by simp);have hmul:(rows.length+1)*k=k+rows.length*k:=by rw [Nat.add_mul];omega
   simp only [List.length_cons] at hl ⊢;rw [hmul] at hl ⊢;rw [List.take_add,List.flatten_cons];refine RVs.append ⟨by simp;omega,fun j a b=>?_⟩ ?_
   ·have:=hr 0 (by simp) j (by simpa using a) (by simp;omega);simpa using this
   ·rw [List.drop_drop];refine flat_rvs (fun r' hm=>hk r' (by simp [hm])) (by omega) (fun i a j b d=>?_);have h2:o+(i+1)*k+j=o+k+i*k+j:=by rw [Nat.add_mul];omega
    have:=hr (i+1) (by simpa using a) j (by simpa using b) (by omega);simpa [h2] using this
theorem run_fc {P:Program}{w:World}{g o n k c:Nat}{arr:Array Value}{T:TypeId}{fr:Nat×Nat}(h:w.heap[g]?=some (.cells arr T fr))(hl:o+n*k≤arr.size) :
  (Builtin.firstCells k n (.slice (some ⟨g,o,none⟩) n c)).run P w=.ok ((arr.toList.drop o).take (n*k)).toArray w :=
 run_firstCells_some w k n ⟨g,o,none⟩ n c _ (by simp;omega) (fun j v hj=>by
  rw [cell_at h];rw [List.getElem?_take] at hj;split at hj
  ·simpa using hj
  ·cases hj)
theorem srcA_sound {P:Program}{H:Heap}{M:Mp}{nx:Nat}{w:World}{size:Nat}{x:CV}{v:Value}{m:Nat}{cs:List CV}(h:srcA H size x=some (m,cs))(r:Rep M H nx w)(hx:RV M x v) :
  ∃ news:List Value,news.length=m*size∧RVs M cs news∧∀ w',w'.heap=w.heap→(Builtin.lenOf v).run P w'=.ok m w'∧(Builtin.firstCells size m v).run P w'=.ok news.toArray w':=by
 unfold srcA at h;split at h
 ·cases h;cases hx;exact⟨[],by simp,.nil,fun w' _=>⟨by simp [Builtin.lenOf],by simp [Builtin.firstCells]⟩⟩
 ·rename_i rows;split at h
  case h_2=>cases h
  rename_i hall;cases h;cases hx with
  | lst0 a c=>exact⟨[],by simp,.nil,fun w' _=>⟨by simp [Builtin.lenOf],by cases a <;> simp [Builtin.firstCells,loadCells,loadCellsFrom]⟩⟩
  | lst _ g o n k c arr T fr hg hn hc hk hl hr =>
    subst hn
    by_cases he:rows=[]
    ·subst he;exact⟨[],by simp,.nil,fun w' _=>⟨by simp [Builtin.lenOf],by simp [Builtin.firstCells,loadCells,loadCellsFrom]⟩⟩
    ·have hks:k=size:=by
      obtain⟨r0,hr0⟩:=List.exists_mem_of_ne_nil _ he;rw [← beq_eq (List.all_eq_true.mp hall r0 hr0)];exact (hk r0 hr0).symm
     subst hks;refine⟨_,by simp;omega,flat_rvs hk hl hr,fun w' hw=>⟨by simp [Builtin.lenOf],run_fc (by rw [hw];exact r.fz g _ hg) hl⟩⟩
 ·rename_i b o n k;split at h
  case h_2=>cases h
  rename_i ds hb;split at h
  case h_2=>cases h
  rename_i hc;cases h;simp only [Bool.and_eq_true] at hc;have h1:=beq_eq hc.1;have h2:=Nat.le_of_ble_eq_true hc.2;subst h1;cases hx with
  | sl _ _ _ _ g m' c hm hn hm' =>
    obtain⟨g',m'',hm'',arr,T,ha,hs,hr⟩:=r.blk b _ hb;rw [hm] at hm'';cases hm'';have hlen:ds.length≤arr.size:=by have:=hr.1;simp at this;omega
    refine⟨(arr.toList.drop o).take (m*k),by simp;omega,?_,fun w' hw=>⟨by simp [Builtin.lenOf],run_fc (by rw [hw];exact ha) (by omega)⟩⟩;have:=(hr.drop o).take (m*k);rw [List.drop_take,List.take_take,Nat.min_eq_left (by omega)] at this;exact this
 ·rename_i l;split at h
  case h_2=>cases h
  rename_i hc;have h1:=beq_eq hc;subst h1;cases h;cases hx with
  | str _ s hs =>
    subst hs;refine⟨s.data.toList.map fun b=>.int .u8 b.toNat,by simp,⟨by simp,fun j a b=>?_⟩,fun w' _=>⟨by simp [Builtin.lenOf,data_len],?_⟩⟩
    ·simp only [List.getElem_map];exact .int _ _
    ·simp only [Builtin.firstCells,Sem.run_pure]
     congr 1
     apply Array.ext';rw [Array.toList_map,Lib.extract_data];simp only [List.drop_zero,Nat.sub_zero,List.take_length]
 ·cases h
def srcD:TypeDesc→Bool
 | .slice _=>true
 | .string=>true
 | _=>false
theorem srcD_cases {d:TypeDesc}(h:srcD d=true):(∃ e,d=.slice e)∨d=.string:=by
 cases d <;> first | exact .inl ⟨_,rfl⟩ | exact .inr rfl | (simp [srcD] at h)
theorem run_app_room {P:Program}{w:World}{t t' ty e:TypeId}{i:TI}{d':TypeDesc}{g n cap m:Nat}{cur:Array Value}{T:TypeId}{x:Value}{news:List Value}(ht:P.underlying t=some (.slice e))(ht':P.underlying t'=some d')(hd:srcD d'=true)
  (hi:ti P e=some i) (hl:(Builtin.lenOf x).run P w=.ok m w) (hf:(Builtin.firstCells i.size m x).run P w=.ok news.toArray w) (hg:w.heap[g]?=some (.cells cur T (0,0))) (h1:∀ u∈news,u.oneCell'=true)
  (hroom:n+m≤cap) (hfit:n*i.size+news.length≤cur.size) :
  (Builtin.append_ #[t,t'] ty #[.slice (some ⟨g,0,none⟩) n cap,x]).run P w =
   .ok (.slice (some ⟨g,0,none⟩) (n+m) cap) (w.setRow g (cur.toList.take (n*i.size)++news++cur.toList.drop (n*i.size+news.length)).toArray):=by
 have hst:=run_storeCells_at P g (n*i.size) T news 0 cur w hg (by simpa using hfit) h1;simp only [Nat.add_zero] at hst;rcases srcD_cases hd with⟨e',rfl⟩ | rfl
 ·simp [Builtin.append_,run_underlying ht,run_underlying ht',ti_size hi,hl,hroom,hf,addr_add,hst]
 ·simp [Builtin.append_,run_underlying ht,run_underlying ht',ti_size hi,hl,hroom,hf,addr_add,hst]
theorem run_app_grow {P:Program}{w:World}{t t' ty e:TypeId}{i:TI}{d':TypeDesc}{n cap m:Nat}{x:Value}{base:Option Addr}{olds news:List Value}(ht:P.underlying t=some (.slice e))(ht':P.underlying t'=some d')(hd:srcD d'=true)
  (hi:ti P e=some i) (hl:(Builtin.lenOf x).run P w=.ok m w) (hf:(Builtin.firstCells i.size m x).run P w.drew=.ok news.toArray w.drew) (ho:(Builtin.firstCells i.size n (.slice base n cap)).run P w.drew=.ok olds.toArray w.drew)
  (hg:cap<n+m) (h63:n+m≤9223372036854775807) (hfit:(n+m)*i.bytes≤140737488355328) :
  (Builtin.append_ #[t,t'] ty #[.slice base n cap,x]).run P w =
   .ok (.slice (some ⟨w.heap.size,0,none⟩) (n+m) (grownCap w (n+m) cap e)) (w.drew.alloc (.cells (olds.toArray++news.toArray++Builtin.zeroCells i.zero.cells (grownCap w (n+m) cap e-(n+m))) e)):=by
 have hn:¬ (n+m≤cap):=by omega
 have h63':¬ (9223372036854775807<((n:Int)+(m:Int))):=by omega
 have h48:=growslice_fits hg hfit;have h48':¬ (281474976710656<Builtin.nextslicecap (n+m) cap*i.bytes):=by omega
 obtain⟨_,f,hf',_,hz,hby⟩:=ti_spec hi;rcases srcD_cases hd with⟨e',rfl⟩ | rfl
 ·simp [Builtin.append_,run_underlying ht,run_underlying ht',ti_size hi,hl,hn,h63',h48',typeInfo,hf',hby,Question.forced,hf,ho,newRow,grownCap,ti_zero hi]
  congr 2
  apply Array.ext';simp [List.append_assoc]
 ·simp [Builtin.append_,run_underlying ht,run_underlying ht',ti_size hi,hl,hn,h63',h48',typeInfo,hf',hby,Question.forced,hf,ho,newRow,grownCap,ti_zero hi]
  congr 2
  apply Array.ext';simp [List.append_assoc]
theorem grow_ok {M:Mp}{H H1:Heap}{nx:Nat}{w:World}(r:Rep M H nx w)(s:Sub H1 H)(vs:List Value)(rest:Array Value)(T:TypeId)(l:List CV)(hl:RVs M l vs) :
  Rep (updM M nx (w.heap.size,(vs.toArray++rest).size)) (upd H1 nx (.cells l)) (nx+1) (w.drew.alloc (.cells (vs.toArray++rest) T)) ∧
  Fr H M nx w (upd H1 nx (.cells l)) (updM M nx (w.heap.size,(vs.toArray++rest).size)) (nx+1) (w.drew.alloc (.cells (vs.toArray++rest) T)):=by
 have hfree:M.bk nx=none:=r.fresh nx (Nat.le_refl _);have hobj:(vs.toArray++rest).toList.take l.length=vs:=by
  have:l.length=vs.length:=hl.1.symm;rw [this];simp
 have hRB:RB (updM M nx (w.heap.size,(vs.toArray++rest).size)) (w.drew.alloc (.cells (vs.toArray++rest) T)) w.heap.size (vs.toArray++rest).size (.cells l) :=
  ⟨_,T,by show (w.heap.push _)[w.heap.size]?=_;simp,rfl,by rw [hobj];exact hl.ext (Ext.updM hfree)⟩
 exact⟨(r.weak s).new nx (.cells l) _ (.cells (vs.toArray++rest) T) hfree (Nat.le_succ nx) (Nat.lt_succ_self nx) rfl hRB,Fr.new nx (.cells l) _ (.cells (vs.toArray++rest) T) hfree (Nat.le_refl _) (Nat.le_succ nx) s rfl rfl rfl rfl⟩
def appA (P:Program)(H:Heap)(nx:Nat)(t t':TypeId)(s x:CV):Option (CV×Dl):=match ti P t with
 | some ⟨.slice e,_,_,_⟩=>match ti P e with
   | some i=>match ti P t' with
     | some j=>match srcD j.und && Nat.blt 0 i.size && Nat.beq i.zero.cells.size i.size with
       | false=>none
       | true=>match srcA H i.size x with
         | some (m,l)=>match l.all CV.one with
           | true=>match s with
             | .nils=>match Nat.beq m 0 with
               | true=>some (.nils,.no)
               | false=>match Nat.ble m 9223372036854775807 && Nat.ble (m*i.bytes) 140737488355328 with
                 | true=>some (.sl nx 0 m i.size,.nw (.cells l))
                 | false=>none
             | .sl b o n k=>match H b with
               | some (.cells cs)=>match Nat.beq o 0 && Nat.beq k i.size && Nat.ble (n*k) cs.length && Nat.ble (n+m) 9223372036854775807 && Nat.ble ((n+m)*i.bytes) 140737488355328 with
                 | true=>some (.sl nx 0 (n+m) k,.mv b (.cells (cs.take (n*k)++l)))
                 | false=>none
               | _=>none
             | _=>none
           | false=>none
         | none=>none
     | none=>none
   | none=>none
 | _=>none
theorem appA_sound {P:Program}{H:Heap}{M:Mp}{nx:Nat}{w:World}{t t' ty:TypeId}{s x c:CV}{d:Dl}{sv xv:Value}(h:appA P H nx t t' s x=some (c,d))(r:Rep M H nx w)(hs:RV M s sv)(hx:RV M x xv) :
  EOk P H M nx w (do pure (.value (← Builtin.append_ #[t,t'] ty #[sv,xv]))) c d:=by
 unfold appA at h;split at h
 case h_2=>cases h
 rename_i e _ _ _ ht;split at h
 case h_2=>cases h
 rename_i i hi;split at h
 case h_2=>cases h
 rename_i j hj;split at h
 ·cases h
 rename_i hij;simp only [Bool.and_eq_true] at hij;have hsz:0<i.size:=blt_lt hij.1.2;have hzs:=beq_eq hij.2;split at h
 case h_2=>cases h
 rename_i m l hsrc;split at h
 case h_2=>cases h
 rename_i hone;obtain⟨news,hnl,hnr,hrun⟩:=srcA_sound (P:=P) hsrc r hx;have h1:∀ u∈news,u.oneCell'=true:=fun u hu=>oneV_oneCell (hnr.oneV hone u hu)
 obtain⟨hu,f,hf,hfs,hfz,hfb⟩:=ti_spec hi;have hzl:∀ q,(Builtin.zeroCells i.zero.cells q).size=q*i.zero.cells.size:=fun q=>by simp [Builtin.zeroCells]
 have hll:l.length=m*i.size:=by rw [← hnl];exact hnr.1.symm
 have hfree:M.bk nx=none:=r.fresh nx (Nat.le_refl _);split at h
 ·split at h
  ·rename_i hm;have hm':=beq_eq hm;subst hm';cases h;cases hs;have:news=[]:=List.eq_nil_of_length_eq_zero (by simpa using hnl);subst this;refine⟨M,w,.inl ⟨.slice none 0 0,?_,.nils⟩,r,.refl _ _ _ _⟩;have e1:=(hrun w rfl).1;have e2:=(hrun w rfl).2;have hu':=(ti_spec hj).1;rcases srcD_cases hij.1.1 with⟨e',hju⟩ | hju
   ·rw [hju] at hu';simp [Builtin.append_,run_underlying (ti_spec ht).1,run_underlying hu',ti_size hi,e1,e2]
   ·rw [hju] at hu';simp [Builtin.append_,run_underlying (ti_spec ht).1,run_underlying hu',ti_size hi,e1,e2]
  ·rename_i hm;split at h
   case h_2=>cases h
   rename_i hb;cases h;simp only [Bool.and_eq_true] at hb;have hb1:=Nat.le_of_ble_eq_true hb.1;have hb2:=Nat.le_of_ble_eq_true hb.2;have hm0:m≠0:=fun e=>by rw [e] at hm;simp at hm
   cases hs;have hr:=run_app_grow (P:=P) (w:=w) (ty:=ty) (n:=0) (cap:=0) (base:=none) (olds:=[]) (ti_spec ht).1 (ti_spec hj).1 hij.1.1 hi (hrun w rfl).1 (hrun w.drew rfl).2 (by simp [Builtin.firstCells]) (by omega) (by omega) (by simpa using hb2);simp only [Nat.zero_add,List.append_toArray,List.nil_append] at hr;have hge:=grownCap_ge w m 0 e;obtain⟨hrep,hfr⟩:=grow_ok r (Sub.refl H) news (Builtin.zeroCells i.zero.cells (grownCap w m 0 e-m)) e l hnr;refine⟨_,_,.inl ⟨_,by rw [Sem.run_bind,hr];rfl,?_⟩,hrep,hfr⟩;refine .sl _ _ _ _ _ _ _ (updM_hit _ _ _) hge ?_;simp only [Array.size_append,List.size_toArray,hzl,hzs,hnl,← Nat.add_mul];rw [Nat.zero_add];exact Nat.mul_le_mul_right _ (by omega)
 ·rename_i b o n k;split at h
  case h_2=>cases h
  rename_i cs hb;split at h
  case h_2=>cases h
  rename_i hc;cases h;simp only [Bool.and_eq_true] at hc;have c1:=beq_eq hc.1.1.1.1;have c2:=beq_eq hc.1.1.1.2;have c3:=Nat.le_of_ble_eq_true hc.1.1.2;have c4:=Nat.le_of_ble_eq_true hc.1.2;have c5:=Nat.le_of_ble_eq_true hc.2;subst c1;subst c2;cases hs with
  | sl _ _ _ _ g q cap hm hn hm' =>
    obtain⟨g',q',hm'',arr,T,ha,hsq,hr⟩:=r.blk b _ hb;rw [hm] at hm'';cases hm'';have hlen:cs.length≤arr.size:=by have:=hr.1;simp at this;omega
    have holds:RVs M (cs.take (n*i.size)) (arr.toList.take (n*i.size)):=by
     have:=hr.take (n*i.size);rw [List.take_take,Nat.min_eq_left c3] at this;exact this
    by_cases hroom:n+m≤cap
    ·have hcap:(n+m)*i.size≤cap*i.size:=Nat.mul_le_mul_right _ hroom;rw [Nat.add_mul] at hcap;have hrn:=run_app_room (P:=P) (w:=w) (ty:=ty) (ti_spec ht).1 (ti_spec hj).1 hij.1.1 hi (hrun w rfl).1 (hrun w rfl).2 ha h1 hroom (by omega);obtain⟨r1,f1⟩:=r.move b _ g q hb hm;have he:=f1.ext;obtain⟨r2,f2⟩:=r1.write nx _ (.cells (cs.take (n*i.size)++l)) g q (upd_hit _ _ _) (updM_hit _ _ _) (w':=w.setRow g (arr.toList.take (n*i.size)++news++arr.toList.drop (n*i.size+news.length)).toArray) (setRow_size _ _ _) (fun x hx=>setRow_other w g x _ hx) rfl rfl rfl
      ⟨_,T,setRow_heap w g arr _ T _ ha,by simp;omega,by
       have e2:(cs.take (n*i.size)++l).length=n*i.size+news.length:=by simp;omega
       rw [e2];have e3:(arr.toList.take (n*i.size)++news++arr.toList.drop (n*i.size+news.length)).take (n*i.size+news.length)=arr.toList.take (n*i.size)++news:=by
        have:(arr.toList.take (n*i.size)++news).length=n*i.size+news.length:=by simp;omega
        rw [← this];exact List.take_left
       simp only [e3];exact (holds.append hnr).ext he⟩
     have hupd:upd (upd (drp H b) nx (.cells cs)) nx (.cells (cs.take (n*i.size)++l))=upd (drp H b) nx (.cells (cs.take (n*i.size)++l)):=by
      funext y;unfold upd;split <;> rfl
     rw [hupd] at r2 f2;refine⟨_,_,.inl ⟨_,by rw [Sem.run_bind,hrn];rfl,?_⟩,r2,f1.trans f2⟩;exact .sl _ _ _ _ _ _ _ (updM_hit _ _ _) hroom hm'
    ·have hro:(Builtin.firstCells i.size n (.slice (some ⟨g,0,none⟩) n cap)).run P w.drew=.ok (arr.toList.take (n*i.size)).toArray w.drew:=by
      have:=run_fc (P:=P) (w:=w.drew) (g:=g) (o:=0) (n:=n) (k:=i.size) (c:=cap) (show w.drew.heap[g]?=some (.cells arr T (0,0)) from ha) (by omega);simpa using this
     have hrn:=run_app_grow (P:=P) (w:=w) (ty:=ty) (ti_spec ht).1 (ti_spec hj).1 hij.1.1 hi (hrun w rfl).1 (hrun w.drew rfl).2 hro (by omega) c4 c5;have hge:=grownCap_ge w (n+m) cap e;obtain⟨hrep,hfr⟩:=grow_ok r (Sub.drp H b) (arr.toList.take (n*i.size)++news) (Builtin.zeroCells i.zero.cells (grownCap w (n+m) cap e-(n+m))) e _ (holds.append hnr);simp only [List.append_toArray] at hrn;refine⟨_,_,.inl ⟨_,by rw [Sem.run_bind,hrn];rfl,?_⟩,hrep,hfr⟩;refine .sl _ _ _ _ _ _ _ (updM_hit _ _ _) hge ?_;have e4:(arr.toList.take (n*i.size)).length=n*i.size:=by simp;omega
     simp only [Array.size_append,List.size_toArray,List.length_append,e4,hzl,hzs,hnl,← Nat.add_mul];rw [Nat.zero_add];exact Nat.mul_le_mul_right _ (by omega)
 ·cases h
end Ax
end
end Go.Proofs.YtoookjadbhdfhaaGreatDoor
