/-
  AX: operations under a guard that is not known: values on a condition.
-/
import Derived.Test.YtoookjadbhdfhaaGreatDoorUJpAh
set_option linter.unusedSectionVars false
set_option linter.unusedSimpArgs false
set_option linter.unnecessarySimpa false
set_option linter.unusedVariables false
set_option linter.unusedSimpArgs false
set_option linter.unusedVariables false
namespace Go.Proofs.YtoookjadbhdfhaaGreatDoor
section
namespace Ax
/-- A value on a condition, where the condition holds. -/
def op1:CV→CV
 | .opt true c=>c
 | .opt false _=>.any
 | c=>c
theorem RV.op1 {M:Mp}{c:CV}{v:Value}(h:RV M c v):RV M (Ax.op1 c) v:=by
 unfold Ax.op1;split
 ·cases h with
  | opt _ _ _ h1 _=>exact h1 rfl
 ·exact .any v
 ·exact h
theorem RV.undefAny {M:Mp}(c:CV):RV M (.opt false c) Go.undef:=.opt false c Go.undef (fun h=>by cases h) (fun _=>rfl)
theorem RV.optT {M:Mp}{c:CV}{v:Value}(h:RV M c v):RV M (.opt true c) v:=.opt true c v (fun _=>h) (fun h=>by cases h)
/-- Whether an operation is wanted, as a condition. -/
def gdB (ops:Array Oper)(e:Env)(o:Oper):Option Bool:=match o.guard with
 | none=>none
 | some (j,want)=>match ops[j]? with
   | some oj=>match oj.dst with
     | some t=>match e t with
       | .bool b=>some (b == want)
       | .opt g (.bool b)=>some (g && (b == want))
       | _=>none
     | none=>none
   | none=>none
section
variable {P:Program} {G:Nat→CV} {n:Nat} {e:Env} {H:Heap} {nx:Nat} {Q:AExit→Env→Heap→Nat→Prop} {ops:Array Oper} {os:List Oper} {i:Nat} {l:List Nat} {o:Oper}
theorem gdB_sound {M:Mp}{a:Act}{b:Bool}(h:gdB ops e o=some b)(v:EnvR M n e a):Region.wanted o (yielded ops a.tmps)=b:=by
 unfold gdB at h;split at h
 ·cases h
 ·rename_i j want hg;split at h
  case h_2=>cases h
  rename_i oj hoj;split at h
  case h_2=>cases h
  rename_i t ht;have hv:=v.2.2 t;have some_:∀ {b':Bool},RV M (.bool b') (a.tmps.getD t undef)→yielded ops a.tmps j=some b':=by
   intro b' this;unfold yielded;simp only [hoj,ht,Option.bind_some];generalize hx:a.tmps.getD t undef=x at this;cases this;rw [Array.getD_eq_getD_getElem?] at hx;cases hz:a.tmps[t]? with
   | none=>rw [hz] at hx;simp [undef] at hx
   | some z=>rw [hz] at hx;simp at hx;subst hx;rfl
  have none_:a.tmps.getD t undef=undef→yielded ops a.tmps j=none:=by
   intro hx;unfold yielded;simp only [hoj,ht,Option.bind_some];rw [Array.getD_eq_getD_getElem?] at hx;cases hz:a.tmps[t]? with
   | none=>rfl
   | some z=>rw [hz] at hx;simp at hx;subst hx;rfl
  unfold Region.wanted;rw [hg];split at h
  ·rename_i b' hb;cases h;rw [hb] at hv;simp only [some_ hv];cases b' <;> cases want <;> rfl
  ·rename_i g b' hb;cases h;rw [hb] at hv;cases hv with
   | opt _ _ _ h1 h0 =>
     cases g with
     | true=>simp only [some_ (h1 rfl)];cases b' <;> cases want <;> rfl
     | false=>simp only [none_ (h0 rfl)];cases want <;> rfl
  ·cases h
/-- An operation that looks, under a condition. -/
theorem AOps.lookC {b:Bool}{c:CV}(ho:ops[i]?=some o)(hd:∀ j,o.dst=some j→j<n)(hg:gdB ops e o=some b)(hq:b=true→qstep P H (fun x=>op1 (rd G e x)) o.op=some c)(h:AOps P G n ops l (putE e o.dst (.opt b c)) H nx Q):AOps P G n ops (i::l) e H nx Q:=fun M a w g r v=>by
 unfold wpOps;simp only [ho,gdB_sound hg v];cases b with
 | false =>
   simp only [Bool.false_eq_true,if_false];exact h M _ w g r (v.put (RV.undefAny c) hd)
 | true =>
   simp only [if_true];obtain⟨z,h1,h2⟩:=qstep_sound (hq rfl) r (fun x _=>(v.rd g x).op1);left;unfold Oper.wp;rw [h1];exact h M _ w g r (v.put h2.optT hd)
/-- A look that may read values on a condition. -/
theorem AOps.lookO {c:CV}(ho:ops[i]?=some o)(hd:∀ j,o.dst=some j→j<n)(hg:gd ops e o=some true)(hq:qstep P H (fun x=>op1 (rd G e x)) o.op=some c)(h:AOps P G n ops l (putE e o.dst c) H nx Q):AOps P G n ops (i::l) e H nx Q:=fun M a w g r v=>by
 unfold wpOps;simp only [ho,gd_sound hg v,if_true];obtain⟨z,h1,h2⟩:=qstep_sound hq r (fun x _=>(v.rd g x).op1);left;unfold Oper.wp;rw [h1];exact h M _ w g r (v.put h2 hd)
/-- A call under a condition that leaves the memory alone. -/
theorem AOps.callC {b:Bool}{f:FuncId}{args:List CV}{c:CV}(ho:ops[i]?=some o)(hd:∀ j,o.dst=some j→j<n)(hg:gdB ops e o=some b)(hq:b=true→callA (fun x=>op1 (rd G e x)) o.op=some (f,args))(he:enters P f=true)
  (hf:b=true→FCall P G f args fun r=>r=.ret c) (h:∀ nx',nx≤nx'→AOps P G n ops l (putE e o.dst (.opt b c)) H nx' Q):AOps P G n ops (i::l) e H nx Q:=fun M a w g r v=>by
 unfold wpOps;simp only [ho,gdB_sound hg v];cases b with
 | false =>
   simp only [Bool.false_eq_true,if_false];exact h nx (Nat.le_refl _) M _ w g r (v.put (RV.undefAny c) hd)
 | true =>
   simp only [if_true];obtain⟨vs,h1,h2⟩:=callA_sound (w:=w) (hq rfl) he (fun x _=>(v.rd g x).op1);left;unfold Oper.wp;rw [h1,Oper.upon_enter];refine (hf rfl H nx M w vs g r h2).mono ?_;rintro en w' ⟨M',x,H',nx',a1,a2,a3,a4,rfl⟩;subst a4;cases en <;> simp only [EndR] at a1;exact wpOps_mono (fun _ _ _ hp=>hp.trans a3) l (h nx' a3.nxle _ _ w' (g.ext a3.ext) a2 ((v.ext a3.ext).put a1.optT hd))
theorem pick_q {ρ:Operand→CV}{c a b:Operand}{c0 x y:Bool}(hc:ρ c=.bool c0)(ha:c0=true→ρ a=.bool x)(hb:c0=false→ρ b=.bool y):qstep P H ρ (.pick c a b)=some (.bool (c0 && x || !c0 && y)):=by
 cases c0
 ·simp [qstep,hc,hb rfl]
 ·simp [qstep,hc,ha rfl]
variable {d:Option Nat} {op:Op} {ty:TypeId} {pos:String} {af:Array Edge} {g:Option (Nat×Bool)}
theorem AOpl.lookC (hd:okD n d=true){b:Bool}{c:CV}(hg:gdB ops e ⟨d,op,ty,pos,af,g⟩=some b)(hq:b=true→qstep P H (fun x=>op1 (rd G e x)) op=some c)(h:AOpl P G n ops os (putE e d (.opt b c)) H nx Q):AOpl P G n ops (⟨d,op,ty,pos,af,g⟩::os) e H nx Q :=
 AOpl.lift (fun k ho h'=>AOps.lookC (o:=⟨d,op,ty,pos,af,g⟩) ho (okD_spec hd) hg hq h') h
theorem AOpl.callC (hd:okD n d=true){b:Bool}{f:FuncId}{args:List CV}{c:CV}(hg:gdB ops e ⟨d,op,ty,pos,af,g⟩=some b)(hq:b=true→callA (fun x=>op1 (rd G e x)) op=some (f,args))(he:enters P f=true)
  (hf:b=true→FCall P G f args fun r=>r=.ret c) (h:∀ nx',nx≤nx'→AOpl P G n ops os (putE e d (.opt b c)) H nx' Q):AOpl P G n ops (⟨d,op,ty,pos,af,g⟩::os) e H nx Q:=by
 intro k hk;have ho:ops[k]?=some ⟨d,op,ty,pos,af,g⟩:=by
  have:=congrArg List.head? hk;simpa [List.head?_drop] using this
 have hk':ops.toList.drop (k+1)=os:=by
  have:=congrArg List.tail hk;simpa [List.tail_drop] using this
 simp only [List.length_cons,List.range'_succ];exact AOps.callC (o:=⟨d,op,ty,pos,af,g⟩) ho (okD_spec hd) hg hq he hf fun nx' hn=>h nx' hn (k+1) hk'
/-- The two arms of && and || come together. -/
theorem AOpl.pickU (hd:okD n d=true){c a b:Operand}{c0 x y:Bool}(hc:op1 (rd G e c)=.bool c0)(ha:c0=true→op1 (rd G e a)=.bool x)(hb:c0=false→op1 (rd G e b)=.bool y)(h:AOpl P G n ops os (putE e d (.bool (c0 && x || !c0 && y))) H nx Q) :
  AOpl P G n ops (⟨d,.pick c a b,ty,pos,af,none⟩::os) e H nx Q :=
 AOpl.lift (fun k ho h'=>AOps.lookO (o:=⟨d,.pick c a b,ty,pos,af,none⟩) ho (okD_spec hd) rfl (pick_q hc ha hb) h') h
theorem AOpl.pickC (hd:okD n d=true){bg:Bool}{c a b:Operand}{c0 x y:Bool}(hg:gdB ops e ⟨d,.pick c a b,ty,pos,af,g⟩=some bg)(hc:bg=true→op1 (rd G e c)=.bool c0)(ha:bg=true→c0=true→op1 (rd G e a)=.bool x)(hb:bg=true→c0=false→op1 (rd G e b)=.bool y)(h:AOpl P G n ops os (putE e d (.opt bg (.bool (c0 && x || !c0 && y)))) H nx Q) :
  AOpl P G n ops (⟨d,.pick c a b,ty,pos,af,g⟩::os) e H nx Q :=
 AOpl.lookC hd hg (fun h1=>pick_q (hc h1) (ha h1) (hb h1)) h
end
end Ax
end
section
namespace Ax
def isAl:Op→Bool
 | .alloc _=>true
 | .box _ _=>true
 | .buildSlice _ _ _=>true
 | .makeMap _ _=>true
 | .makeSlice _ _ _=>true
 | .range _ _=>true
 | _=>false
def isEf:Op→Bool
 | .store _ _ _=>true
 | .mapUpdate _ _ _ _=>true
 | .insert _ _ _ _=>true
 | .next _ _=>true
 | .call c=>match c.callee with
   | .value _=>true
   | .builtin .append=>true
   | .builtin .copy=>true
   | _=>false
 | _=>false
/-- An operation that turns the memory, but for calls. -/
def isSt:Op→Bool
 | .store _ _ _=>true
 | .mapUpdate _ _ _ _=>true
 | .insert _ _ _ _=>true
 | .next _ _=>true
 | .call c=>match c.callee with
   | .builtin .append=>true
   | .builtin .copy=>true
   | _=>false
 | _=>false
/-- Whether an operation looks at the memory or turns it. -/
def memO (op:Op):Bool:=isEf op || match op with
 | .load _ _=>true
 | .convert _ _ _=>true
 | .slice _ _ _ _ _=>true
 | .lookup _ _ _ _=>true
 | .call _=>true
 | _=>false
theorem qstep_mem {P:Program}{H H':Heap}{ρ:Operand→CV}{op:Op}(h:memO op=false):qstep P H ρ op=qstep P H' ρ op:=by
 cases op <;> first | rfl | (simp [memO,isEf] at h)
theorem astep_isAl {P:Program}{ρ:Operand→CV}{b:Nat}{op:Op}{x:CV×CB}(h:astep P ρ b op=some x):isAl op=true:=by
 cases op <;> first | rfl | (simp [astep] at h)
theorem astep_congr {P:Program}{ρ ρ':Operand→CV}{b:Nat}{op:Op}(h:∀ x∈op.operands,ρ x=ρ' x):astep P ρ b op=astep P ρ' b op:=by
 cases op
 case box t x=>simp only [astep,h x (by simp [Op.operands])]
 case buildSlice t len ps =>
  have h1:(ps.toList.map fun p=>(p.1,ρ p.2))=ps.toList.map fun p=>(p.1,ρ' p.2):=List.map_congr_left fun x hx=>by
   rw [h x.2 (by simp [Op.operands];exact⟨x.1,by simpa using hx⟩)]
  simp only [astep,h1]
 case makeMap t r =>
  cases r with
  | none=>rfl
  | some x=>simp only [astep,h x (by simp [Op.operands])]
 case makeSlice t x y=>simp only [astep,h x (by simp [Op.operands]),h y (by simp [Op.operands])]
 case range t x=>simp only [astep,h x (by simp [Op.operands])]
 all_goals rfl
theorem EffOk.congr {P:Program}{G:Nat→CV}{o:Oper}{ρ ρ':Operand→CV}{H H':Heap}{nx nx':Nat}{c:CV}(h:∀ x∈o.op.operands,ρ x=ρ' x)(hE:EffOk P G o ρ' H nx c H' nx'):EffOk P G o ρ H nx c H' nx' :=
 fun M a w next Q g r hx k=>hE M a w next Q g r (fun x hm=>by rw [← h x hm];exact hx x hm) k
def atO (ops:Array Oper)(p:Op→Bool)(i:Nat):Bool:=match ops[i]? with
 | some o=>p o.op
 | none=>false
/-- What holds of the heap all along, looks whose results hang on it alone, blocks that calls may turn. -/
structure Qc where
 S:Heap→Prop
 R:List Nat
 C:Nat→Prop:=fun _=>False
/-- Blocks that the region leaves alone, looks at these alone, what lies there. -/
abbrev Qc.b (B:Nat→Prop)(R:List Nat)(H0:Heap):Qc:=⟨fun H=>∀ b,B b→H b=H0 b,R,fun _=>False⟩
def Qc.no:Qc:=Qc.b (fun _=>False) [] Heap.no
/-- Where two heaps differ at most at the blocks that calls may turn. -/
def Qc.like (κ:Qc)(H H':Heap):Prop:=∀ b,¬ κ.C b→H' b=H b
/-- An effect, or a look whose result may hang on the effects. -/
def memR (ops:Array Oper)(R:List Nat)(i:Nat):Bool:=atO ops isEf i || (atO ops memO i && !R.contains i)
/-- What conflicts stands in one order. Calls leave the memory alone: looks need no order against them, if no new block stands between. -/
def statP (R:List Nat)(ops:Array Oper):Bool:=(List.range ops.size).all fun i=>(List.range i).all fun j =>
 anc (ancs ops) i j || (!((atO ops isAl j && memR ops R i) || (atO ops isSt i && memR ops R j) || (atO ops isSt j && memR ops R i) || (atO ops isEf i && atO ops isEf j)) &&
  (!(memR ops R j && atO ops isEf i) || (List.range i).all fun k=>!(Nat.blt j k && atO ops isAl k)))
def statR (n:Nat)(R:List Nat)(ops:Array Oper):Bool:=statL n ops 0 ops.toList && statP R ops
def statS (n:Nat)(ops:Array Oper):Bool:=statR n [] ops
theorem statP_spec {R:List Nat}{ops:Array Oper}(h:statP R ops=true){i j:Nat}(hi:i<ops.size)(hl:j<i)
  (hc:(atO ops isAl j=true∧memR ops R i=true)∨(atO ops isSt i=true∧memR ops R j=true)∨(atO ops isSt j=true∧memR ops R i=true)∨(atO ops isEf i=true∧atO ops isEf j=true)):anc (ancs ops) i j=true:=by
 have h1:=List.all_eq_true.mp h i (List.mem_range.mpr hi);have h2:=List.all_eq_true.mp h1 j (List.mem_range.mpr hl);rcases hc with⟨a,b⟩ | ⟨a,b⟩ | ⟨a,b⟩ | ⟨a,b⟩ <;> simpa [a,b] using h2
theorem statP_gap {R:List Nat}{ops:Array Oper}(h:statP R ops=true){i j k:Nat}(hi:i<ops.size)(hj:j<k)(hk:k<i)(h1:memR ops R j=true)(h2:atO ops isEf i=true)(hn:anc (ancs ops) i j=false):atO ops isAl k=false:=by
 have h3:=List.all_eq_true.mp h i (List.mem_range.mpr hi);have h4:=List.all_eq_true.mp h3 j (List.mem_range.mpr (by omega));simp only [hn,h1,h2,Bool.false_or,Bool.and_self,Bool.not_true,Bool.and_eq_true,Bool.false_or] at h4;have h5:=List.all_eq_true.mp h4.2 k (List.mem_range.mpr hk);simpa [lt_blt hj] using h5
theorem memO_ef {op:Op}(h:isEf op=true):memO op=true:=by unfold memO;rw [h];rfl
theorem atO_ef {ops:Array Oper}{i:Nat}(h:atO ops isEf i=true):atO ops memO i=true:=by
 unfold atO at *;split at h
 ·rename_i o ho;exact memO_ef h
 ·cases h
theorem memR_ef {R:List Nat}{ops:Array Oper}{i:Nat}(h:atO ops isEf i=true):memR ops R i=true:=by unfold memR;rw [h];rfl
theorem memR_mem {R:List Nat}{ops:Array Oper}{i:Nat}(h:memR ops R i=true):atO ops memO i=true:=by
 unfold memR at h;rw [Bool.or_eq_true] at h;rcases h with h | h
 ·exact atO_ef h
 ·rw [Bool.and_eq_true] at h;exact h.1
/-- One operation after the other: where it stands, how many effects, the state; what was done, the heaps behind the effects. -/
inductive SRun (P:Program) (G:Nat→CV) (κ:Qc) (ops:Array Oper) (nx0:Nat):Nat→Nat→List Oper→Env→Heap→Nat→List Act1→List (Heap×Nat)→Env→Heap→Nat→Prop
 | nil (k j:Nat) (e:Env) (H:Heap) (ne:Nat):SRun P G κ ops nx0 k j [] e H ne [] [] e H ne
 | look {k j ne ne':Nat} {o:Oper} {os:List Oper} {e e':Env} {H H':Heap} {l:List Act1} {E:List (Heap×Nat)} (c:CV) (hg:gd ops e o=some true) (hq:qstep P H (rd G e) o.op=some c) (hC:κ.R.contains k=false→∀ H',κ.like H H'→qstep P H' (rd G e) o.op=some c) (hR:κ.R.contains k=true→∀ H',κ.S H'→qstep P H' (rd G e) o.op=some c) (h:SRun P G κ ops nx0 (k+1) j os (putE e o.dst c) H ne l E e' H' ne'):SRun P G κ ops nx0 k j (o::os) e H ne (.quiet c::l) E e' H' ne'
 | skip {k j ne ne':Nat} {o:Oper} {os:List Oper} {e e':Env} {H H':Heap} {l:List Act1} {E:List (Heap×Nat)} (hg:gd ops e o=some false) (h:SRun P G κ ops nx0 (k+1) j os (putE e o.dst (.tup [])) H ne l E e' H' ne'):SRun P G κ ops nx0 k j (o::os) e H ne (.skip::l) E e' H' ne'
 | alloc {k j ne ne':Nat} {o:Oper} {os:List Oper} {e e':Env} {H H':Heap} {l:List Act1} {E:List (Heap×Nat)} (c:CV) (kk:CB) (hg:gd ops e o=some true) (hq:astep P (rd G e) (nx0+k) o.op=some (c,kk)) (h:SRun P G κ ops nx0 (k+1) j os (putE e o.dst c) (upd H (nx0+k) kk) ne l E e' H' ne'):SRun P G κ ops nx0 k j (o::os) e H ne (.alloc c kk::l) E e' H' ne'
 | eff {k j ne n1 ne':Nat} {o:Oper} {os:List Oper} {e e':Env} {H H1 H':Heap} {l:List Act1} {E:List (Heap×Nat)} (c:CV) (hg:gd ops e o=some true) (hi:isEf o.op=true) (hn:ne≤n1) (hfr:∀ b,nx0≤b→b<nx0+ops.size→H b=none→H1 b=none) (hcl:isSt o.op=false→κ.like H H1) (hBk:κ.S H→κ.S H1)
   (hE:EffOk P G o (rd G e) H ne c H1 n1) (h:SRun P G κ ops nx0 (k+1) (j+1) os (putE e o.dst c) H1 n1 l E e' H' ne'):SRun P G κ ops nx0 k j (o::os) e H ne (.eff j c::l) ((H1,n1)::E) e' H' ne'
section
variable {P:Program} {G:Nat→CV} {κ:Qc} {n:Nat} {ops:Array Oper} {nx0:Nat} {Q:AExit→Env→Heap→Nat→Prop}
theorem SRun.len {k j ne ne':Nat}{os:List Oper}{e e':Env}{H H':Heap}{l:List Act1}{E:List (Heap×Nat)}(h:SRun P G κ ops nx0 k j os e H ne l E e' H' ne'):l.length=os.length:=by
 induction h with
 | nil=>rfl
 | look _ _ _ _ _ _ ih=>simp [ih]
 | skip _ _ ih=>simp [ih]
 | alloc _ _ _ _ _ ih=>simp [ih]
 | eff _ _ _ _ _ _ _ _ _ ih=>simp [ih]
/-- The block that operation a of the list makes. -/
def alAt (l:List Act1)(a:Nat):Option CB:=match l[a]? with
 | some (.alloc _ kk)=>some kk
 | _=>none
/-- The effects behind: heap and number behind J of them. -/
def hsAt (H:Heap)(E:List (Heap×Nat)):Nat→Heap
 | 0=>H
 | J+1=>match E[J]? with
   | some x=>x.1
   | none=>Heap.no
def nsAt (ne:Nat)(E:List (Heap×Nat)):Nat→Nat
 | 0=>ne
 | J+1=>match E[J]? with
   | some x=>x.2
   | none=>0
/-- How many effects stand among the first k. -/
def cnt (l:List Act1):Nat→Nat
 | 0=>0
 | k+1=>cnt l k+match l[k]? with
   | some (.eff _ _)=>1
   | _=>0
/-- Where the effects behind which position k stands end. -/
def lastE (l:List Act1):Nat→Nat
 | 0=>0
 | k+1=>match l[k]? with
   | some (.eff _ _)=>k+1
   | _=>lastE l k
theorem cnt_s (l:List Act1)(k:Nat):cnt l (k+1)=cnt l k+match l[k]? with
  | some (.eff _ _)=>1
  | _=>0:=rfl
theorem lastE_s (l:List Act1)(k:Nat):lastE l (k+1)=match l[k]? with
  | some (.eff _ _)=>k+1
  | _=>lastE l k:=rfl
theorem lastE_le (l:List Act1):∀ k,lastE l k≤k
 | 0=>Nat.le_refl _
 | k+1=>by
   rw [lastE_s];split
   ·exact Nat.le_refl _
   ·have:=lastE_le l k;omega
/-- The heap at position k. -/
def heapAt (nx0:Nat)(H:Heap)(l:List Act1)(E:List (Heap×Nat))(k:Nat):Heap:=fun b =>
 match (if nx0≤b∧lastE l k≤b-nx0∧b-nx0<k then alAt l (b-nx0) else none) with
 | some kk=>some kk
 | none=>hsAt H E (cnt l k) b
theorem heapAt_zero {H:Heap}{l:List Act1}{E:List (Heap×Nat)}:heapAt nx0 H l E 0=H:=by
 funext b;simp [heapAt,cnt,hsAt]
theorem heapAt_same {H:Heap}{l:List Act1}{E:List (Heap×Nat)}{k:Nat}(h:l[k]?≠none)(h1:∀ j c,l[k]?≠some (.eff j c))(h2:∀ c kk,l[k]?≠some (.alloc c kk)):heapAt nx0 H l E (k+1)=heapAt nx0 H l E k:=by
 have e1:cnt l (k+1)=cnt l k:=by
  rw [cnt_s];split
  ·rename_i j c hl;exact absurd hl (h1 j c)
  ·rfl
 have e2:lastE l (k+1)=lastE l k:=by
  rw [lastE_s];split
  ·rename_i j c hl;exact absurd hl (h1 j c)
  ·rfl
 have e3:alAt l k=none:=by
  unfold alAt;split
  ·rename_i c kk hl;exact absurd hl (h2 c kk)
  ·rfl
 funext b
 unfold heapAt;rw [e1,e2]
 by_cases hb:b-nx0=k
 ·rw [hb,e3];simp
 ·have:(nx0≤b∧lastE l k≤b-nx0∧b-nx0<k+1)↔(nx0≤b∧lastE l k≤b-nx0∧b-nx0<k):=by omega
  simp only [this]
theorem heapAt_alloc {H:Heap}{l:List Act1}{E:List (Heap×Nat)}{k:Nat}{c:CV}{kk:CB}(h:l[k]?=some (.alloc c kk)):heapAt nx0 H l E (k+1)=upd (heapAt nx0 H l E k) (nx0+k) kk:=by
 have e1:cnt l (k+1)=cnt l k:=by simp [cnt_s,h]
 have e2:lastE l (k+1)=lastE l k:=by simp [lastE_s,h]
 have e3:alAt l k=some kk:=by unfold alAt;rw [h]
 funext b
 by_cases hb:b=nx0+k
 ·subst hb;rw [upd_hit];unfold heapAt;rw [e2,Nat.add_sub_cancel_left,e3,if_pos ⟨by omega,lastE_le l k,by omega⟩]
 ·rw [upd_miss _ _ _ _ hb];unfold heapAt;rw [e1,e2];have:(nx0≤b∧lastE l k≤b-nx0∧b-nx0<k+1)↔(nx0≤b∧lastE l k≤b-nx0∧b-nx0<k):=by omega
  simp only [this]
theorem heapAt_eff {H:Heap}{l:List Act1}{E:List (Heap×Nat)}{k j:Nat}{c:CV}{x:Heap×Nat}(h:l[k]?=some (.eff j c))(hx:E[cnt l k]?=some x):heapAt nx0 H l E (k+1)=x.1:=by
 have e1:cnt l (k+1)=cnt l k+1:=by simp [cnt_s,h]
 have e2:lastE l (k+1)=k+1:=by simp [lastE_s,h]
 funext b
 unfold heapAt;rw [e1,e2,if_neg (by omega)];simp only [hsAt,hx]
theorem cnt_congr {l l':List Act1}:∀ {k:Nat},(∀ i,i<k→l[i]?=l'[i]?)→cnt l k=cnt l' k
 | 0,_=>rfl
 | k+1,h=>by
   have ih:=cnt_congr (k:=k) fun i hi=>h i (by omega)
   rw [cnt_s,cnt_s,ih,h k (by omega)]
theorem lastE_congr {l l':List Act1}:∀ {k:Nat},(∀ i,i<k→l[i]?=l'[i]?)→lastE l k=lastE l' k
 | 0,_=>rfl
 | k+1,h=>by
   have ih:=lastE_congr (k:=k) fun i hi=>h i (by omega)
   rw [lastE_s,lastE_s,ih,h k (by omega)]
theorem hsAt_congr {H:Heap}{E E':List (Heap×Nat)}:∀ {J:Nat},(∀ i,i<J→E[i]?=E'[i]?)→hsAt H E J=hsAt H E' J
 | 0,_=>rfl
 | J+1,h=>by simp only [hsAt];rw [h J (by omega)]
theorem nsAt_congr {ne:Nat}{E E':List (Heap×Nat)}:∀ {J:Nat},(∀ i,i<J→E[i]?=E'[i]?)→nsAt ne E J=nsAt ne E' J
 | 0,_=>rfl
 | J+1,h=>by simp only [nsAt];rw [h J (by omega)]
theorem heapAt_congr {H:Heap}{l l':List Act1}{E E':List (Heap×Nat)}{k:Nat}(h:∀ i,i<k→l[i]?=l'[i]?)(hE:∀ i,i<cnt l k→E[i]?=E'[i]?):heapAt nx0 H l E k=heapAt nx0 H l' E' k:=by
 funext b
 unfold heapAt;rw [lastE_congr h,← cnt_congr h,hsAt_congr hE]
 by_cases hb:nx0≤b∧lastE l' k≤b-nx0∧b-nx0<k
 ·rw [if_pos hb,if_pos hb];have:alAt l (b-nx0)=alAt l' (b-nx0):=by unfold alAt;rw [h _ hb.2.2]
  rw [this]
 ·rw [if_neg hb,if_neg hb]
theorem pre_get {α:Type}{pre:List α}{i:Nat}(h:i<pre.length)(x:List α):(pre++x)[i]?=pre[i]?:=List.getElem?_append_left h
theorem pre_at {α:Type}{pre:List α}{a:α}{x:List α}{k:Nat}(h:pre.length=k):(pre++a::x)[k]?=some a:=by
 rw [List.getElem?_append_right (by omega),h,Nat.sub_self];rfl
/-- What stands at place i of a run. -/
def PlaceOk (P:Program)(G:Nat→CV)(κ:Qc)(ops:Array Oper)(nx0 nn:Nat)(He:Heap)(e0:Env)(l:List Act1)(E:List (Heap×Nat))(i:Nat)(o:Oper):Prop :=
 ∃ ei:Env,(∀ t,ei t=match wr ops t with
   | some j=>if j<i then ((l[j]?).getD .skip).val else e0 t
   | none=>e0 t)∧((∃ c,l[i]?=some (.quiet c)∧gd ops ei o=some true∧qstep P (heapAt nx0 He l E i) (rd G ei) o.op=some c∧(κ.R.contains i=false→∀ H',κ.like (heapAt nx0 He l E i) H'→qstep P H' (rd G ei) o.op=some c)∧(κ.R.contains i=true→∀ H',κ.S H'→qstep P H' (rd G ei) o.op=some c))∨(l[i]?=some .skip∧gd ops ei o=some false) ∨
     (∃ c kk,l[i]?=some (.alloc c kk)∧gd ops ei o=some true∧astep P (rd G ei) (nx0+i) o.op=some (c,kk)) ∨
     ∃ c x,l[i]?=some (.eff (cnt l i) c)∧gd ops ei o=some true∧isEf o.op=true∧E[cnt l i]?=some x∧nsAt nn E (cnt l i)≤x.2 ∧
      (∀ b,nx0≤b→b<nx0+ops.size→heapAt nx0 He l E i b=none→x.1 b=none)∧(isSt o.op=false→κ.like (heapAt nx0 He l E i) x.1)∧(κ.S (heapAt nx0 He l E i)→κ.S x.1)∧EffOk P G o (rd G ei) (heapAt nx0 He l E i) (nsAt nn E (cnt l i)) c x.1 x.2)
theorem ops_cons {ops:Array Oper}{k:Nat}{o:Oper}{os:List Oper}(hk:ops.toList.drop k=o::os):ops[k]?=some o∧ops.toList.drop (k+1)=os∧k+1≤ops.size:=by
 refine⟨?_,?_,?_⟩
 ·have:=congrArg List.head? hk;simpa [List.head?_drop] using this
 ·have:=congrArg List.tail hk;simpa [List.tail_drop] using this
 ·have:=congrArg List.length hk;simp at this;omega
theorem env_step {n:Nat}{k:Nat}{o:Oper}{e e0:Env}{pre:List Act1}{a:Act1}{c:CV}(ho:ops[k]?=some o)(hpre:pre.length=k)(hst:statL n ops 0 ops.toList=true)(hav:a.val=c)
  (he:∀ t,e t=match wr ops t with
   | some j=>if j<k then ((pre[j]?).getD .skip).val else e0 t
   | none=>e0 t):∀ t,putE e o.dst c t=match wr ops t with
     | some j=>if j<k+1 then (((pre++[a])[j]?).getD .skip).val else e0 t
     | none=>e0 t:=by
 intro t;have hso:=statL_spec (k:=0) hst k o (by simpa using ho);rw [Nat.zero_add] at hso;have hput:(o.dst=some t∧putE e o.dst c t=c)∨(o.dst≠some t∧putE e o.dst c t=e t):=by
  cases hd:o.dst with
  | none=>right;exact⟨by simp,rfl⟩
  | some d =>
    by_cases hdt:t=d
    ·left;subst hdt;exact⟨rfl,by simp [putE]⟩
    ·right;exact⟨fun h=>hdt (by cases h;rfl),by simp [putE,hdt]⟩
 rcases hput with⟨h1,h2⟩ | ⟨h1,h2⟩
 ·rw [h2,(statO_dst hso t h1).2];simp only [Nat.lt_succ_self,if_true];rw [List.getElem?_append_right (by omega),hpre,Nat.sub_self];simp [hav]
 ·rw [h2,he t];cases hw:wr ops t with
  | none=>rfl
  | some j =>
    simp only;obtain⟨oj,hoj,hdj⟩:=wr_some hw;have hjk:j≠k:=fun e=>by subst e;rw [ho] at hoj;cases hoj;exact h1 hdj
    by_cases hlt:j<k
    ·rw [if_pos hlt,if_pos (by omega),List.getElem?_append_left (by omega)]
    ·rw [if_neg hlt,if_neg (by omega)]
theorem env_here {k:Nat}{e e0:Env}{pre x:List Act1}(hpre:pre.length=k)(he:∀ t,e t=match wr ops t with
   | some j=>if j<k then ((pre[j]?).getD .skip).val else e0 t
   | none=>e0 t):∀ t,e t=match wr ops t with
     | some j=>if j<k then (((pre++x)[j]?).getD .skip).val else e0 t
     | none=>e0 t:=by
 intro t;rw [he t];cases hw:wr ops t with
 | none=>rfl
 | some j =>
   simp only
   by_cases hlt:j<k
   ·rw [if_pos hlt,if_pos hlt,List.getElem?_append_left (by omega)]
   ·rw [if_neg hlt,if_neg hlt]
/-- What a run says of each place. -/
theorem SRun.facts {n k0 j0 ne ne':Nat}{os:List Oper}{e e':Env}{H H':Heap}{l:List Act1}{E:List (Heap×Nat)}(h:SRun P G κ ops nx0 k0 j0 os e H ne l E e' H' ne') :
  ∀ (He:Heap) (nn:Nat) (e0:Env) (pre:List Act1) (Epre:List (Heap×Nat)),ops.toList.drop k0=os→k0≤ops.size→pre.length=k0→Epre.length=j0→statL n ops 0 ops.toList=true→cnt pre k0=j0 →
   (∀ t,e t=match wr ops t with
    | some j=>if j<k0 then ((pre[j]?).getD .skip).val else e0 t
    | none=>e0 t)→H=heapAt nx0 He pre Epre k0→ne=nsAt nn Epre j0 →
  (∀ t,e' t=match wr ops t with
   | some j=>if j<ops.size then (((pre++l)[j]?).getD .skip).val else e0 t
   | none=>e0 t)∧H'=heapAt nx0 He (pre++l) (Epre++E) ops.size∧ne'=nsAt nn (Epre++E) (cnt (pre++l) ops.size)∧cnt (pre++l) ops.size=(Epre++E).length ∧
  ∀ i o,k0≤i→ops[i]?=some o→PlaceOk P G κ ops nx0 nn He e0 (pre++l) (Epre++E) i o:=by
 have hcong:∀ {pre x:List Act1} {Epre Ex:List (Heap×Nat)} {k j:Nat} {He:Heap},pre.length=k→Epre.length=j→cnt pre k=j→cnt (pre++x) k=j∧heapAt nx0 He (pre++x) (Epre++Ex) k=heapAt nx0 He pre Epre k∧∀ nn,nsAt nn (Epre++Ex) j=nsAt nn Epre j:=by
  intro pre x Epre Ex k j He h1 h2 h3;have c1:∀ i,i<k→(pre++x)[i]?=pre[i]?:=fun i hi=>pre_get (by omega) x
  have c2:cnt (pre++x) k=j:=by rw [cnt_congr c1,h3]
  exact⟨c2,heapAt_congr c1 (fun i hi=>pre_get (by omega) Ex),fun nn=>nsAt_congr fun i hi=>pre_get (by omega) Ex⟩
 induction h with
 | nil k j e H ne =>
   intro He nn e0 pre Epre hk hks hpre hEp hst hc he hH hne;have hsz:k=ops.size:=by
    have:=congrArg List.length hk;simp at this;omega
   subst hsz;simp only [List.append_nil];exact⟨he,hH,by rw [hc];exact hne,by rw [hc,hEp],fun i o hi ho=>by have:=(Array.getElem?_eq_some_iff.mp ho).1;omega⟩
 | @look k j ne ne' o os e e' H H' l E c hg hq hC hR _ ih =>
   intro He nn e0 pre Epre hk hks hpre hEp hst hc he hH hne;obtain⟨ho,hk',hks'⟩:=ops_cons hk;have hat:(pre++[Act1.quiet c])[k]?=some (.quiet c):=pre_at hpre;have g:=hcong (x:=[Act1.quiet c]) (Epre:=Epre) (Ex:=[]) (He:=He) hpre hEp hc;simp only [List.append_nil] at g;obtain⟨i1,i2,i3,i4,i5⟩:=ih He nn e0 (pre++[.quiet c]) Epre hk' hks' (by simp [hpre]) hEp hst (by simp [cnt_s,hat,g.1]) (env_step (n:=n) (a:=.quiet c) (c:=c) ho hpre hst rfl he)
    (by rw [heapAt_same (by rw [hat];simp) (by rw [hat];simp) (by rw [hat];simp),g.2.1];exact hH) hne
   simp only [List.append_assoc,List.cons_append,List.nil_append] at i1 i2 i3 i4 i5;refine⟨i1,i2,i3,i4,fun i oi hi hoi=>?_⟩;rcases Nat.lt_or_eq_of_le hi with h1 | h1
   ·exact i5 i oi h1 hoi
   ·subst h1;rw [ho] at hoi;cases hoi;have g':=hcong (x:=Act1.quiet c::l) (Epre:=Epre) (Ex:=E) (He:=He) hpre hEp hc;exact⟨e,env_here hpre he,.inl ⟨c,pre_at hpre,hg,by rw [g'.2.1,← hH];exact hq,by rw [g'.2.1,← hH];exact hC,hR⟩⟩
 | @skip k j ne ne' o os e e' H H' l E hg _ ih =>
   intro He nn e0 pre Epre hk hks hpre hEp hst hc he hH hne;obtain⟨ho,hk',hks'⟩:=ops_cons hk;have hat:(pre++[Act1.skip])[k]?=some .skip:=pre_at hpre;have g:=hcong (x:=[Act1.skip]) (Epre:=Epre) (Ex:=[]) (He:=He) hpre hEp hc;simp only [List.append_nil] at g;obtain⟨i1,i2,i3,i4,i5⟩:=ih He nn e0 (pre++[.skip]) Epre hk' hks' (by simp [hpre]) hEp hst (by simp [cnt_s,hat,g.1]) (env_step (n:=n) (a:=.skip) (c:=.tup []) ho hpre hst rfl he)
    (by rw [heapAt_same (by rw [hat];simp) (by rw [hat];simp) (by rw [hat];simp),g.2.1];exact hH) hne
   simp only [List.append_assoc,List.cons_append,List.nil_append] at i1 i2 i3 i4 i5;refine⟨i1,i2,i3,i4,fun i oi hi hoi=>?_⟩;rcases Nat.lt_or_eq_of_le hi with h1 | h1
   ·exact i5 i oi h1 hoi
   ·subst h1;rw [ho] at hoi;cases hoi;exact⟨e,env_here hpre he,.inr (.inl ⟨pre_at hpre,hg⟩)⟩
 | @alloc k j ne ne' o os e e' H H' l E c kk hg hq _ ih =>
   intro He nn e0 pre Epre hk hks hpre hEp hst hc he hH hne;obtain⟨ho,hk',hks'⟩:=ops_cons hk;have hat:(pre++[Act1.alloc c kk])[k]?=some (.alloc c kk):=pre_at hpre;have g:=hcong (x:=[Act1.alloc c kk]) (Epre:=Epre) (Ex:=[]) (He:=He) hpre hEp hc;simp only [List.append_nil] at g;obtain⟨i1,i2,i3,i4,i5⟩:=ih He nn e0 (pre++[.alloc c kk]) Epre hk' hks' (by simp [hpre]) hEp hst (by simp [cnt_s,hat,g.1]) (env_step (n:=n) (a:=.alloc c kk) (c:=c) ho hpre hst rfl he)
    (by rw [heapAt_alloc hat,g.2.1,← hH]) hne
   simp only [List.append_assoc,List.cons_append,List.nil_append] at i1 i2 i3 i4 i5;refine⟨i1,i2,i3,i4,fun i oi hi hoi=>?_⟩;rcases Nat.lt_or_eq_of_le hi with h1 | h1
   ·exact i5 i oi h1 hoi
   ·subst h1;rw [ho] at hoi;cases hoi;exact⟨e,env_here hpre he,.inr (.inr (.inl ⟨c,kk,pre_at hpre,hg,hq⟩))⟩
 | @eff k j ne n1 ne' o os e e' H H1 H' l E c hg hi' hn hfr hcl hBk hE _ ih =>
   intro He nn e0 pre Epre hk hks hpre hEp hst hc he hH hne;obtain⟨ho,hk',hks'⟩:=ops_cons hk;have hat:(pre++[Act1.eff j c])[k]?=some (.eff j c):=pre_at hpre;have g:=hcong (x:=[Act1.eff j c]) (Epre:=Epre) (Ex:=[(H1,n1)]) (He:=He) hpre hEp hc;have hEat:(Epre++[(H1,n1)])[j]?=some (H1,n1):=pre_at hEp;obtain⟨i1,i2,i3,i4,i5⟩:=ih He nn e0 (pre++[.eff j c]) (Epre++[(H1,n1)]) hk' hks' (by simp [hpre]) (by simp [hEp]) hst (by simp [cnt_s,hat,g.1]) (env_step (n:=n) (a:=.eff j c) (c:=c) ho hpre hst rfl he)
    (by rw [heapAt_eff hat (x:=(H1,n1)) (by rw [g.1];exact hEat)]) (by simp only [nsAt,hEat])
   simp only [List.append_assoc,List.cons_append,List.nil_append] at i1 i2 i3 i4 i5;refine⟨i1,i2,i3,i4,fun i oi hi hoi=>?_⟩;rcases Nat.lt_or_eq_of_le hi with h1 | h1
   ·exact i5 i oi h1 hoi
   ·subst h1;rw [ho] at hoi;cases hoi;have g':=hcong (x:=Act1.eff j c::l) (Epre:=Epre) (Ex:=(H1,n1)::E) (He:=He) hpre hEp hc;refine⟨e,env_here hpre he,.inr (.inr (.inr ⟨c,(H1,n1),by rw [g'.1];exact pre_at hpre,hg,hi',by rw [g'.1];exact pre_at hEp,?_,?_,?_,?_,?_⟩))⟩
    ·rw [g'.1,g'.2.2,← hne];exact hn
    ·intro b hb1 hb2 hb3;rw [g'.2.1,← hH] at hb3;exact hfr b hb1 hb2 hb3
    ·intro hs;rw [g'.2.1,← hH];exact hcl hs
    ·rw [g'.2.1,← hH];exact hBk
    ·rw [g'.1,g'.2.2,g'.2.1,← hH,← hne];exact hE
/-! numbers of the effects -/
def isE (a:Option Act1):Bool:=match a with
 | some (.eff _ _)=>true
 | _=>false
theorem cnt_succ (l:List Act1)(k:Nat):cnt l (k+1)=cnt l k+if isE l[k]?=true then 1 else 0:=by
 rw [cnt_s];unfold isE;split <;> simp_all
theorem cnt_mono {l:List Act1}{i k:Nat}(h:i≤k):cnt l i≤cnt l k:=by
 induction k with
 | zero =>
   have:i=0:=by omega
   subst this;exact Nat.le_refl _
 | succ k ih =>
   rcases Nat.lt_or_eq_of_le h with h1 | h1
   ·have:=ih (by omega);rw [cnt_succ];omega
   ·subst h1;exact Nat.le_refl _
theorem cnt_lt {l:List Act1}{i k:Nat}(h:i<k)(he:isE l[i]?=true):cnt l i<cnt l k:=by
 have h1:=cnt_mono (l:=l) (show i+1≤k from h);rw [cnt_succ,if_pos he] at h1;omega
theorem cnt_ex {l:List Act1}:∀ {k J:Nat},J<cnt l k→∃ i,i<k∧isE l[i]?=true∧cnt l i=J
 | 0,J,h=>by simp [cnt] at h
 | k+1,J,h=>by
   rw [cnt_succ] at h
   by_cases hJ:J<cnt l k
   ·obtain⟨i,h1,h2,h3⟩:=cnt_ex hJ;exact⟨i,by omega,h2,h3⟩
   ·by_cases he:isE l[k]?=true
    ·rw [if_pos he] at h;exact⟨k,by omega,he,by omega⟩
    ·rw [if_neg he] at h;omega
theorem lastE_succ (l:List Act1)(k:Nat):lastE l (k+1)=if isE l[k]?=true then k+1 else lastE l k:=by
 rw [lastE_s];unfold isE;split <;> simp_all
theorem lastE_gt {l:List Act1}{p:Nat}:∀ {i:Nat},p<i→isE l[p]?=true→p<lastE l i
 | 0,h,_=>by omega
 | i+1,h,he=>by
   rw [lastE_succ]
   by_cases hi:isE l[i]?=true
   ·rw [if_pos hi];omega
   ·rw [if_neg hi];have:p≠i:=fun e=>hi (e▸he)
    exact lastE_gt (by omega) he
theorem lastE_cases {l:List Act1}:∀ (i:Nat),lastE l i=0∨∃ p,p<i∧isE l[p]?=true∧lastE l i=p+1
 | 0=>.inl rfl
 | i+1=>by
   rw [lastE_succ]
   by_cases hi:isE l[i]?=true
   ·rw [if_pos hi];exact .inr ⟨i,by omega,hi,rfl⟩
   ·rw [if_neg hi];rcases lastE_cases (l:=l) i with h | ⟨p,h1,h2,h3⟩
    ·exact .inl h
    ·exact .inr ⟨p,by omega,h2,h3⟩
end
end Ax
end
end Go.Proofs.YtoookjadbhdfhaaGreatDoor
