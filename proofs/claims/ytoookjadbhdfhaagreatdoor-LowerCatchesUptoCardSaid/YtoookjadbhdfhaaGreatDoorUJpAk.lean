/-
  AX: loops whose rounds leave most of the environment alone.
-/
import Derived.Test.YtoookjadbhdfhaaGreatDoorUJpAj
import Derived.WalkKit
set_option linter.unusedSectionVars false
set_option linter.unusedSimpArgs false
set_option linter.unnecessarySimpa false
set_option linter.unusedVariables false
set_option linter.unusedSimpArgs false
set_option linter.unusedVariables false
namespace Go.Proofs.YtoookjadbhdfhaaGreatDoor
section
namespace Ax
theorem beqI (a b:Int):(a == b)=decide (a=b):=by by_cases h:a=b <;> simp [h]
theorem bneI (a b:Int):(a != b)=!decide (a=b):=by by_cases h:a=b <;> simp [bne,h]
theorem isED (l:List UInt8):l.isEmpty=decide (l=[]):=by cases l <;> simp
theorem beqS (a b:List UInt8):(a == b)=decide (a=b):=by by_cases h:a=b <;> simp [h]
theorem bneS (a b:List UInt8):(a != b)=!decide (a=b):=by by_cases h:a=b <;> simp [bne,h]
/-- e0 but for the places in ms and those from lo on. -/
def over (e0:Env)(ms:List Nat)(lo:Nat)(v:Env):Env:=fun t=>if lo≤t then v t else if t∈ms then v t else e0 t
def Keeps (e0:Env)(ms:List Nat)(lo:Nat)(e:Env):Prop:=∀ t,t<lo→t ∉ ms→e t=e0 t
theorem Keeps.eq {e0 e:Env}{ms:List Nat}{lo:Nat}(h:Keeps e0 ms lo e):over e0 ms lo e=e:=by
 funext t
 unfold over;split
 ·rfl
 ·split
  ·rfl
  ·exact (h t (by omega) (by assumption)).symm
theorem Keeps.base (e0:Env)(ms:List Nat)(lo:Nat)(v:Env):Keeps e0 ms lo (over e0 ms lo v):=fun t h1 h2=>by
 unfold over;rw [if_neg (by omega),if_neg h2]
theorem Keeps.refl (e0:Env)(ms:List Nat)(lo:Nat):Keeps e0 ms lo e0:=fun _ _ _=>rfl
def okK (ms:List Nat)(lo:Nat)(d:Option Nat):Bool:=match d with
 | some t=>Nat.ble lo t || ms.contains t
 | none=>true
theorem Keeps.put {e0 e:Env}{ms:List Nat}{lo:Nat}{d:Option Nat}{c:CV}(hd:okK ms lo d=true)(h:Keeps e0 ms lo e):Keeps e0 ms lo (putE e d c):=by
 cases d with
 | none=>exact h
 | some d =>
   intro t h1 h2;have hne:t≠d:=by
    rintro rfl;simp only [okK,Bool.or_eq_true] at hd;rcases hd with hd | hd
    ·have:=Nat.le_of_ble_eq_true hd;omega
    ·exact h2 (by simpa using hd)
   simp only [putE,hne,if_false];exact h t h1 h2
theorem Keeps.over' {e0 e:Env}{ms ms':List Nat}{lo lo':Nat}{v:Env}(hm:(ms'.all fun t=>okK ms lo (some t))=true)(hl:Nat.ble lo lo'=true)(h:Keeps e0 ms lo e):Keeps e0 ms lo (over e ms' lo' v):=by
 intro t h1 h2;have h3:=Nat.le_of_ble_eq_true hl;unfold over;rw [if_neg (by omega),if_neg]
 ·exact h t h1 h2
 ·intro hc;have:=List.all_eq_true.mp hm t hc;simp only [okK,Bool.or_eq_true] at this;rcases this with hd | hd
  ·have:=Nat.le_of_ble_eq_true hd;omega
  ·exact h2 (by simpa using hd)
section
variable {P:Program} {G:Nat→CV} {n:Nat} {e:Env} {H:Heap} {nx:Nat} {Q:AExit→Env→Heap→Nat→Prop}
theorem AWp.le {c:Code}(h:AWp P G n c e H nx Q):AWp P G n c e H nx fun x e' H' nx'=>nx≤nx'∧Q x e' H' nx':=fun M a w g r v =>
 wp_mono (h M a w g r v) fun _ _ _ ⟨M',x,e',H',nx',h1,h2,h3,h4,h5⟩=>⟨M',x,e',H',nx',h1,h2,h3,h4,h3.nxle,h5⟩
/-- A loop that counts up to N; the places outside ms and below lo keep their values. -/
theorem AWp.countO {c:Code}(N:Nat)(ms:List Nat)(lo:Nat)(S:Nat→Env→Heap→Nat→Prop)(h0:S 0 e H nx)
  (round:∀ i v H' nx',i≤N→nx≤nx'→S i v H' nx'→AWp P G n c (over e ms lo v) H' nx' (Xx (fun e' H'' nx''=>Keeps e ms lo e'∧i<N∧S (i+1) e' H'' nx'') Q)):AWp P G n (.loop c) e H nx Q:=by
 refine AWp.count N (fun i e' H' nx'=>Keeps e ms lo e'∧nx≤nx'∧S i e' H' nx') ⟨Keeps.refl _ _ _,Nat.le_refl _,h0⟩ ?_;rintro i e' H' nx' hi ⟨hk,hle,hs⟩;rw [← hk.eq];refine (AWp.le (round i e' H' nx' hi hle hs)).mono ?_;intro x e1 H1 nx1 ⟨hl,hx⟩;cases x with
 | normal =>
   obtain⟨h1,h2,h3⟩:=hx;exact⟨h2,h1,by omega,h3⟩
 | exit i=>exact hx
 | ret=>exact hx
 | pan v=>exact hx
/-- A loop with states x that get smaller. -/
theorem AWp.loopO {c:Code}{α:Type}(S:α→Env→Heap→Nat→Prop)(μ:α→Nat)(x0:α)(ms:List Nat)(lo:Nat)(h0:S x0 e H nx)
  (round:∀ x v H' nx',nx≤nx'→S x v H' nx'→AWp P G n c (over e ms lo v) H' nx' (Xx (fun e' H'' nx''=>Keeps e ms lo e'∧∃ y,μ y<μ x∧S y e' H'' nx'') Q)):AWp P G n (.loop c) e H nx Q:=by
 refine AWp.loop (α:=α) (fun x e' H' nx'=>Keeps e ms lo e'∧nx≤nx'∧S x e' H' nx') μ x0 ⟨Keeps.refl _ _ _,Nat.le_refl _,h0⟩ ?_;rintro x e' H' nx' ⟨hk,hle,hs⟩;rw [← hk.eq];refine (AWp.le (round x e' H' nx' hle hs)).mono ?_;intro ex e1 H1 nx1 ⟨hl,hx⟩;cases ex with
 | normal =>
   obtain⟨h1,y,h2,h3⟩:=hx;exact⟨y,h2,h1,by omega,h3⟩
 | exit i=>exact hx
 | ret=>exact hx
 | pan v=>exact hx
/-- What holds behind code, said once for all its ways. -/
theorem AWp.cutO {c:Code}(ms:List Nat)(lo:Nat)(S:Env→Heap→Nat→Prop){N:Env→Heap→Nat→Prop}(h1:AWp P G n c e H nx (Xx (fun e' H' nx'=>Keeps e ms lo e'∧S e' H' nx') Q))(h2:∀ v H' nx',nx≤nx'→S v H' nx'→N (over e ms lo v) H' nx'):AWp P G n c e H nx (Xx N Q):=by
 refine (AWp.le h1).mono ?_;intro x e' H' nx' ⟨hl,hx⟩;cases x with
 | normal =>
   obtain⟨hk,hs⟩:=hx;have:=h2 e' H' nx' hl hs;rw [hk.eq] at this;exact this
 | exit i=>exact hx
 | ret=>exact hx
 | pan v=>exact hx
section
variable {ops:Array Oper} {os:List Oper} {nx0 k ne:Nat} {K:Env→Heap→Nat→Prop} {o:Oper}
end
end
section
variable {P:Program} {G:Nat→CV} {n:Nat} {e:Env} {H:Heap} {nx:Nat} {Q:AExit→Env→Heap→Nat→Prop} {ops:Array Oper} {os:List Oper} {d:Option Nat} {ty:TypeId} {pos:String} {af:Array Edge} {g:Option (Nat×Bool)}
theorem orB (h y:Bool):(h && true || !h && y)=(h || y):=by cases h <;> rfl
theorem andB (h y:Bool):(h && y || !h && false)=(h && y):=by cases h <;> simp
/-- The arms of || come together. -/
theorem AOpl.pickOr (hd:okD n d=true){c b:Operand}{c0 y:Bool}(hc:op1 (rd G e c)=.bool c0)(hb:c0=false→op1 (rd G e b)=.bool y)(h:AOpl P G n ops os (putE e d (.bool (c0 || y))) H nx Q) :
  AOpl P G n ops (⟨d,.pick c (.const (.bool true)) b,ty,pos,af,none⟩::os) e H nx Q :=
 AOpl.pickU hd (x:=true) (y:=y) hc (fun _=>rfl) hb (by rw [orB];exact h)
theorem AOpl.pickOrC (hd:okD n d=true){bg:Bool}{c b:Operand}{c0 y:Bool}(hg:gdB ops e ⟨d,.pick c (.const (.bool true)) b,ty,pos,af,g⟩=some bg)(hc:bg=true→op1 (rd G e c)=.bool c0)(hb:bg=true→c0=false→op1 (rd G e b)=.bool y)(h:AOpl P G n ops os (putE e d (.opt bg (.bool (c0 || y)))) H nx Q) :
  AOpl P G n ops (⟨d,.pick c (.const (.bool true)) b,ty,pos,af,g⟩::os) e H nx Q :=
 AOpl.pickC hd (x:=true) (y:=y) hg hc (fun _ _=>rfl) hb (by rw [orB];exact h)
/-- The arms of && come together. -/
theorem AOpl.pickAnd (hd:okD n d=true){c a:Operand}{c0 x:Bool}(hc:op1 (rd G e c)=.bool c0)(ha:c0=true→op1 (rd G e a)=.bool x)(h:AOpl P G n ops os (putE e d (.bool (c0 && x))) H nx Q) :
  AOpl P G n ops (⟨d,.pick c a (.const (.bool false)),ty,pos,af,none⟩::os) e H nx Q :=
 AOpl.pickU hd (x:=x) (y:=false) hc ha (fun _=>rfl) (by rw [andB];exact h)
theorem AOpl.pickAndC (hd:okD n d=true){bg:Bool}{c a:Operand}{c0 x:Bool}(hg:gdB ops e ⟨d,.pick c a (.const (.bool false)),ty,pos,af,g⟩=some bg)(hc:bg=true→op1 (rd G e c)=.bool c0)(ha:bg=true→c0=true→op1 (rd G e a)=.bool x)(h:AOpl P G n ops os (putE e d (.opt bg (.bool (c0 && x)))) H nx Q) :
  AOpl P G n ops (⟨d,.pick c a (.const (.bool false)),ty,pos,af,g⟩::os) e H nx Q :=
 AOpl.pickC hd (x:=x) (y:=false) hg hc ha (fun _ _=>rfl) (by rw [andB];exact h)
end
section
variable {P:Program} {G:Nat→CV} {n:Nat} {e:Env} {H:Heap} {nx:Nat} {Q:AExit→Env→Heap→Nat→Prop} {ops:Array Oper} {os:List Oper} {d:Option Nat} {ty:TypeId} {pos:String} {af:Array Edge} {g:Option (Nat×Bool)}
theorem AOpl.passC (hd:okD n d=true){op:Op}(hg:gdB ops e ⟨d,op,ty,pos,af,g⟩=some false)(h:AOpl P G n ops os (putE e d (.opt false .any)) H nx Q):AOpl P G n ops (⟨d,op,ty,pos,af,g⟩::os) e H nx Q :=
 AOpl.lookC hd (c:=.any) hg (fun h=>by cases h) h
/-! the same with a name for what comes out -/
theorem AOpl.pickOrZ (hd:okD n d=true){c b:Operand}{c0 y:Bool}(hc:op1 (rd G e c)=.bool c0)(hb:c0=false→op1 (rd G e b)=.bool y)(h:∀ z,(c0 || y)=z→AOpl P G n ops os (putE e d (.bool z)) H nx Q) :
  AOpl P G n ops (⟨d,.pick c (.const (.bool true)) b,ty,pos,af,none⟩::os) e H nx Q:=AOpl.pickOr hd hc hb (h _ rfl)
theorem AOpl.pickOrCZ (hd:okD n d=true){bg:Bool}{c b:Operand}{c0 y:Bool}(hg:gdB ops e ⟨d,.pick c (.const (.bool true)) b,ty,pos,af,g⟩=some bg)(hc:bg=true→op1 (rd G e c)=.bool c0)(hb:bg=true→c0=false→op1 (rd G e b)=.bool y)(h:∀ z,(c0 || y)=z→AOpl P G n ops os (putE e d (.opt bg (.bool z))) H nx Q) :
  AOpl P G n ops (⟨d,.pick c (.const (.bool true)) b,ty,pos,af,g⟩::os) e H nx Q:=AOpl.pickOrC hd hg hc hb (h _ rfl)
theorem AOpl.pickAndZ (hd:okD n d=true){c a:Operand}{c0 x:Bool}(hc:op1 (rd G e c)=.bool c0)(ha:c0=true→op1 (rd G e a)=.bool x)(h:∀ z,(c0 && x)=z→AOpl P G n ops os (putE e d (.bool z)) H nx Q) :
  AOpl P G n ops (⟨d,.pick c a (.const (.bool false)),ty,pos,af,none⟩::os) e H nx Q:=AOpl.pickAnd hd hc ha (h _ rfl)
theorem AOpl.pickAndCZ (hd:okD n d=true){bg:Bool}{c a:Operand}{c0 x:Bool}(hg:gdB ops e ⟨d,.pick c a (.const (.bool false)),ty,pos,af,g⟩=some bg)(hc:bg=true→op1 (rd G e c)=.bool c0)(ha:bg=true→c0=true→op1 (rd G e a)=.bool x)(h:∀ z,(c0 && x)=z→AOpl P G n ops os (putE e d (.opt bg (.bool z))) H nx Q) :
  AOpl P G n ops (⟨d,.pick c a (.const (.bool false)),ty,pos,af,g⟩::os) e H nx Q:=AOpl.pickAndC hd hg hc ha (h _ rfl)
end
section
variable {P:Program} {G:Nat→CV} {n:Nat} {e:Env} {H:Heap} {nx:Nat} {Q:AExit→Env→Heap→Nat→Prop} {ops:Array Oper} {os:List Oper} {d:Option Nat} {ty:TypeId} {pos:String} {af:Array Edge} {g:Option (Nat×Bool)}
theorem AOpl.pickUG (hd:okD n d=true){c a b:Operand}{c0 x y:Bool}(hg:gd ops e ⟨d,.pick c a b,ty,pos,af,g⟩=some true)(hc:op1 (rd G e c)=.bool c0)(ha:c0=true→op1 (rd G e a)=.bool x)(hb:c0=false→op1 (rd G e b)=.bool y)(h:AOpl P G n ops os (putE e d (.bool (c0 && x || !c0 && y))) H nx Q) :
  AOpl P G n ops (⟨d,.pick c a b,ty,pos,af,g⟩::os) e H nx Q :=
 AOpl.lift (fun k ho h'=>AOps.lookO (o:=⟨d,.pick c a b,ty,pos,af,g⟩) ho (okD_spec hd) hg (pick_q hc ha hb) h') h
theorem AOpl.pickOrGZ (hd:okD n d=true){c b:Operand}{c0 y:Bool}(hg:gd ops e ⟨d,.pick c (.const (.bool true)) b,ty,pos,af,g⟩=some true)(hc:op1 (rd G e c)=.bool c0)(hb:c0=false→op1 (rd G e b)=.bool y)(h:∀ z,(c0 || y)=z→AOpl P G n ops os (putE e d (.bool z)) H nx Q) :
  AOpl P G n ops (⟨d,.pick c (.const (.bool true)) b,ty,pos,af,g⟩::os) e H nx Q:=AOpl.pickUG hd hg (x:=true) (y:=y) hc (fun _=>rfl) hb (by rw [orB];exact h _ rfl)
theorem AOpl.pickAndGZ (hd:okD n d=true){c a:Operand}{c0 x:Bool}(hg:gd ops e ⟨d,.pick c a (.const (.bool false)),ty,pos,af,g⟩=some true)(hc:op1 (rd G e c)=.bool c0)(ha:c0=true→op1 (rd G e a)=.bool x)(h:∀ z,(c0 && x)=z→AOpl P G n ops os (putE e d (.bool z)) H nx Q) :
  AOpl P G n ops (⟨d,.pick c a (.const (.bool false)),ty,pos,af,g⟩::os) e H nx Q:=AOpl.pickUG hd hg (x:=x) (y:=false) hc ha (fun _=>rfl) (by rw [andB];exact h _ rfl)
end
/-! more rows for an own list -/
section
variable {P:Program} {H:Heap} {nx:Nat} {t el:TypeId} {s b1:Nat} {z:Value} {i:TI}
theorem app_lst {b n k:Nat}{cs:List CV}{rows:List (List CV)}(ht:ti P t=some ⟨.slice el,s,z,b1⟩)(hi:ti P el=some i)(hk:i.size=k)(hz:i.zero.cells.size=k)(hk0:0<k)(hb:H b=some (.cells cs))(hcs:cs.length=n*k)
  (hrow:∀ r∈rows,r.length=k) (hone:∀ r∈rows,r.all CV.one=true) (hn:n+rows.length<1000000000) (hby:i.bytes≤1000):appA P H nx t t (.sl b 0 n k) (.lst rows)=some (.sl nx 0 (n+rows.length) k,.mv b (.cells (cs++rows.flatten))):=by
 subst hk;have h1:rows.all (fun r=>Nat.beq r.length i.size)=true:=by
  rw [List.all_eq_true];intro r hr;rw [hrow r hr];exact Nat.beq_refl _
 have h2:Nat.ble (n*i.size) cs.length=true:=Nat.ble_eq_true_of_le (by omega);have h3:Nat.ble (n+rows.length) 9223372036854775807=true:=Nat.ble_eq_true_of_le (by omega);have h4:(n+rows.length)*i.bytes≤1000000000*1000:=Nat.mul_le_mul (by omega) hby;have h5:Nat.ble ((n+rows.length)*i.bytes) 140737488355328=true:=Nat.ble_eq_true_of_le (by omega);have h6:Nat.blt 0 i.size=true:=lt_blt (by omega);have h7:Nat.beq i.zero.cells.size i.size=true:=by rw [hz];exact Nat.beq_refl _
 have h9:rows.flatten.all CV.one=true:=by
  rw [List.all_eq_true];intro c hc;obtain⟨r,hr,hc⟩:=List.mem_flatten.mp hc;exact List.all_eq_true.mp (hone r hr) c hc
 have e2:cs.take (n*i.size)=cs:=List.take_of_length_le (by omega);unfold appA;simp only [ht,hi,srcD,h6,h7,Bool.and_self,srcA,h1,h9,hb,Nat.beq_refl,h2,h3,h5,e2]
theorem app_lst0 {k:Nat}{rows:List (List CV)}(ht:ti P t=some ⟨.slice el,s,z,b1⟩)(hi:ti P el=some i)(hk:i.size=k)(hz:i.zero.cells.size=k)(hk0:0<k)
  (hrow:∀ r∈rows,r.length=k) (hone:∀ r∈rows,r.all CV.one=true) (hn:rows.length<1000000000) (hby:i.bytes≤1000):appA P H nx t t .nils (.lst rows)=if rows.length=0 then some (.nils,.no) else some (.sl nx 0 rows.length k,.nw (.cells rows.flatten)):=by
 subst hk;have h1:rows.all (fun r=>Nat.beq r.length i.size)=true:=by
  rw [List.all_eq_true];intro r hr;rw [hrow r hr];exact Nat.beq_refl _
 have h3:Nat.ble rows.length 9223372036854775807=true:=Nat.ble_eq_true_of_le (by omega);have h4:rows.length*i.bytes≤1000000000*1000:=Nat.mul_le_mul (by omega) hby;have h5:Nat.ble (rows.length*i.bytes) 140737488355328=true:=Nat.ble_eq_true_of_le (by omega);have h6:Nat.blt 0 i.size=true:=lt_blt (by omega);have h7:Nat.beq i.zero.cells.size i.size=true:=by rw [hz];exact Nat.beq_refl _
 have h9:rows.flatten.all CV.one=true:=by
  rw [List.all_eq_true];intro c hc;obtain⟨r,hr,hc⟩:=List.mem_flatten.mp hc;exact List.all_eq_true.mp (hone r hr) c hc
 unfold appA;simp only [ht,hi,srcD,h6,h7,Bool.and_self,srcA,h1,h9,Nat.beq_refl,h3,h5]
 by_cases h0:rows.length=0
 ·rw [h0];rfl
 ·rw [if_neg h0];have:Nat.beq rows.length 0=false:=by cases hx:rows.length with
   | zero=>exact absurd hx h0
   | succ k=>rfl
  rw [this]
end
section
variable {P:Program} {G:Nat→CV} {n:Nat} {e:Env} {H:Heap} {nx:Nat} {Q:AExit→Env→Heap→Nat→Prop} {ops:Array Oper} {os:List Oper} {d:Option Nat} {ty:TypeId} {pos:String} {af:Array Edge} {g:Option (Nat×Bool)}
theorem flat_map {α:Type}{cv:α→List CV}(l:List α):(l.map cv).flatten=l.flatMap cv:=by rw [List.flatMap_def]
/-- A frozen list behind an own list. -/
theorem AOpl.appLst {α:Type}{cv:α→List CV}{k:Nat}{t el:TypeId}{s b1:Nat}{z:Value}{i:TI}(ht:ti P t=some ⟨.slice el,s,z,b1⟩)(hi:ti P el=some i)(hk:i.size=k)(hz:i.zero.cells.size=k)(hk0:0<k)(hby:i.bytes≤1000)
  (hcv:∀ a,(cv a).length=k) (hone:∀ a,(cv a).all CV.one=true) {so xo:Operand} {c:CV} {l l2:List α} (hd:okD n d=true) (hg:gd ops e ⟨d,.call ⟨.builtin .append,#[so,xo],#[t,t]⟩,ty,pos,af,g⟩=some true)
  (hs:rd G e so=c) (hx:rd G e xo=.lst (l2.map cv)) (ho:OwnL cv k H nx c l) (hn:l.length+l2.length<1000000000)
  (h:∀ c' H' nx',OwnL cv k H' nx' c' (l++l2)→nx≤nx'→(∀ b,b<nx→(∀ b',c=.sl b' 0 l.length k→b≠b')→H' b=H b)→AOpl P G n ops os (putE e d c') H' nx' Q) :
  AOpl P G n ops (⟨d,.call ⟨.builtin .append,#[so,xo],#[t,t]⟩,ty,pos,af,g⟩::os) e H nx Q:=by
 have hr:∀ r∈l2.map cv,r.length=k:=fun r hr=>by obtain⟨a,_,rfl⟩:=List.mem_map.mp hr;exact hcv a
 have hro:∀ r∈l2.map cv,r.all CV.one=true:=fun r hr=>by obtain⟨a,_,rfl⟩:=List.mem_map.mp hr;exact hone a
 have key:∃ c' d',appA P H nx t t c (.lst (l2.map cv))=some (c',d')∧OwnL cv k (d'.hp H nx) (d'.nx nx) c' (l++l2)∧nx≤d'.nx nx∧∀ b,b<nx→(∀ b',c=.sl b' 0 l.length k→b≠b')→(d'.hp H nx) b=H b:=by
  rcases ho with⟨rfl,rfl⟩ | ⟨b,rfl,hb,hlt⟩
  ·have h0:=app_lst0 (H:=H) (nx:=nx) ht hi hk hz hk0 hr hro (by rw [List.length_map];omega) hby
   by_cases hl:(l2.map cv).length=0
   ·rw [if_pos hl] at h0;have hl2:l2=[]:=by rw [List.length_map] at hl;exact List.length_eq_zero_iff.mp hl
    exact⟨_,_,h0,.inl ⟨by simp [hl2],rfl⟩,Nat.le_refl _,fun _ _ _=>rfl⟩
   ·rw [if_neg hl] at h0;refine⟨_,_,h0,.inr ⟨nx,by simp,?_,by simp [Dl.nx]⟩,by simp [Dl.nx],fun b hb _=>?_⟩
    ·simp [Dl.hp,Ax.upd,flat_map]
    ·simp only [Dl.hp];exact upd_miss _ _ _ _ (by omega)
  ·refine⟨_,_,app_lst ht hi hk hz hk0 hb (flatMap_len hcv l) hr hro (by rw [List.length_map];omega) hby,.inr ⟨nx,by simp,?_,by simp [Dl.nx]⟩,by simp [Dl.nx],fun b' hb' hne=>?_⟩
   ·simp [Dl.hp,Ax.upd,List.flatMap_append,flat_map]
   ·simp only [Dl.hp];rw [upd_miss _ _ _ _ (by omega),drp_miss _ _ _ (hne b rfl)]
 obtain⟨c',d',h1,h2,h3,h4⟩:=key;refine Xa hd hg (c:=c') (H':=d'.hp H nx) (nx':=d'.nx nx) ?_ (h c' _ _ h2 h3 h4);simp [stepS,qstep,bltA,astep,estep,hs,hx,h1]
end
end Ax
end
section
namespace Ax
theorem upd_upd (H:Heap)(b:Nat)(x y:CB):upd (upd H b x) b y=upd H b y:=by
 funext t;unfold upd;split <;> rfl
theorem far {b nx:Nat}(h:b<nx):(¬ b=nx∧¬ nx=b)∧(∀ k,¬ b=nx+k∧¬ nx+k=b)∧(∀ j k,¬ b=nx+j+k∧¬ nx+j+k=b)∧(∀ i j k,¬ b=nx+i+j+k∧¬ nx+i+j+k=b)∧∀ h i j k,¬ b=nx+h+i+j+k∧¬ nx+h+i+j+k=b :=
 ⟨⟨by omega,by omega⟩,fun k=>⟨by omega,by omega⟩,fun j k=>⟨by omega,by omega⟩,fun i j k=>⟨by omega,by omega⟩,fun h i j k=>⟨by omega,by omega⟩⟩
/-! new numbers among each other -/
theorem nu1 (n j k:Nat):(n=n+j+k)=(j+k=0):=propext (by omega)
theorem nu2 (n j k:Nat):(n+j+k=n)=(j+k=0):=propext (by omega)
theorem nu3 (n i j k:Nat):(n=n+i+j+k)=(i+j+k=0):=propext (by omega)
theorem nu4 (n i j k:Nat):(n+i+j+k=n)=(i+j+k=0):=propext (by omega)
theorem nu5 (n i j k:Nat):(n+i=n+j+k)=(i=j+k):=propext (by omega)
theorem nu6 (n i j k:Nat):(n+j+k=n+i)=(j+k=i):=propext (by omega)
theorem nu7 (n i j k l:Nat):(n+i=n+j+k+l)=(i=j+k+l):=propext (by omega)
theorem nu8 (n i j k l:Nat):(n+j+k+l=n+i)=(j+k+l=i):=propext (by omega)
theorem nu9 (n i j k l m:Nat):(n+i+j=n+k+l+m)=(i+j=k+l+m):=propext (by omega)
theorem nu10 (n i j k l m:Nat):(n+k+l+m=n+i+j)=(k+l+m=i+j):=propext (by omega)
theorem nu11 (n h i j k:Nat):(n=n+h+i+j+k)=(h+i+j+k=0):=propext (by omega)
theorem nu12 (n h i j k:Nat):(n+h+i+j+k=n)=(h+i+j+k=0):=propext (by omega)
theorem nu13 (n i j k l:Nat):(n+i+j=n+k+l)=(i+j=k+l):=propext (by omega)
/-- A heap of one block. -/
def one1 (b:Nat)(k:CB):Heap:=upd Heap.no b k
theorem one1_hit (b:Nat)(k:CB):one1 b k b=some k:=upd_hit _ _ _
/-- A contract of a function that works on one block. -/
def BCall (P:Program)(G:Nat→CV)(f:FuncId)(args:List CV)(b:Nat)(cs:List CV)(Q:Res→List CV→Prop):Prop :=
 ∀ H nx,H b=some (.cells cs)→ACall P G f args H nx fun r H' nx'=>nx≤nx'∧∃ cs',H'=upd H b (.cells cs')∧Q r cs'
theorem BCall.of {P:Program}{G:Nat→CV}{f:FuncId}{args:List CV}{b:Nat}{cs:List CV}{Q:Res→List CV→Prop}
  (h:∀ nx,b<nx→ACall P G f args (one1 b (.cells cs)) nx fun r H' nx'=>∃ cs',H' b=some (.cells cs')∧Q r cs'):BCall P G f args b cs Q:=by
 intro H nx hb M w vs g r v;obtain⟨g0,m0,hm,_⟩:=r.blk b _ hb;have hlt:b<nx:=r.num hm;have s1:Sub (one1 b (.cells cs)) H:=fun x k hx=>by
  unfold one1 at hx
  by_cases e:x=b
  ·subst e;rw [upd_hit] at hx;cases hx;exact hb
  ·rw [upd_miss _ _ _ _ e] at hx;cases hx
 refine (h nx hlt M w vs g (r.weak s1) v).mono ?_;rintro e w' ⟨M',x,H',nx',h1,h2,h3,cs',hb',hq⟩;have s2:Sub (one1 b (.cells cs')) H':=fun x k hx=>by
  unfold one1 at hx
  by_cases e:x=b
  ·subst e;rw [upd_hit] at hx;cases hx;exact hb'
  ·rw [upd_miss _ _ _ _ e] at hx;cases hx
 obtain⟨r1,f1⟩:=Rep.frame (drp H b) r s1 (Sub.drp H b) (fun x k hx=>by
  unfold one1
  by_cases e:x=b
  ·subst e;rw [drp_hit] at hx;cases hx
  ·rw [upd_miss _ _ _ _ e];rfl) (h2.weak s2) (h3.trans (.weak s2))
 have e1:cup (one1 b (.cells cs')) (drp H b)=upd H b (.cells cs'):=by
  funext x
  unfold cup one1
  by_cases e:x=b
  ·subst e;rw [drp_hit,upd_hit,upd_hit]
  ·rw [drp_miss _ _ _ e,upd_miss _ _ _ _ e,upd_miss _ _ _ _ e];cases H x <;> rfl
 rw [e1] at r1 f1;exact⟨M',x,_,nx',h1,r1,f1,h3.nxle,cs',rfl,hq⟩
theorem BCall.mono {P:Program}{G:Nat→CV}{f:FuncId}{args:List CV}{b:Nat}{cs:List CV}{Q Q':Res→List CV→Prop}(h:BCall P G f args b cs Q)(hq:∀ r c,Q r c→Q' r c):BCall P G f args b cs Q' :=
 fun H nx hb=>(h H nx hb).mono fun _ _ _ ⟨a,c,b1,b2⟩=>⟨a,c,b1,hq _ _ b2⟩
theorem BCall.ofBody {P:Program}{G:Nat→CV}{f:FuncId}{fn:Func}{c:Code}{args:List CV}{b:Nat}{cs:List CV}{Q:Res→List CV→Prop}{n:Nat}(hf:P.funcs[f]?=some fn)(hb:fn.body=some c)(hn:max args.length fn.ntmps=n)
  (h:∀ nx,b<nx→AWp P G n c (argE args) (one1 b (.cells cs)) nx (BodyQ P fn fun r H' _=>∃ cs',H' b=some (.cells cs')∧Q r cs')):BCall P G f args b cs Q:=BCall.of fun nx hlt=>ACall.of_body hf hb (hn▸h nx hlt)
/-- What a heap is without an own list. -/
def drpC (H:Heap):CV→Heap
 | .sl b _ _ _=>drp H b
 | _=>H
theorem OwnL.fzH {α:Type}{cv:α→List CV}{k:Nat}(hk:∀ a,(cv a).length=k){H:Heap}{nx:Nat}{c:CV}{l:List α}(h:OwnL cv k H nx c l) :
  ∀ {M:Mp} {nx':Nat} {w:World} {e:Ending},Rep M H nx' w→EndR M (.ret c) e→∃ M',EndR M' (.ret (.lst (l.map cv))) e∧Rep M' (drpC H c) nx' w∧Fr H M nx' w (drpC H c) M' nx' w:=by
 intro M nx' w e hr he;rcases h with⟨rfl,rfl⟩ | ⟨b,rfl,hb,_⟩
 ·cases e <;> simp only [EndR] at he;exact⟨M,RV.nil_lst he,hr,Fr.refl _ _ _ _⟩
 ·refine Fz.sound (.step (r1:=.ret (.lst (l.map cv))) b _ hb (.ret ?_) (.done _ _ _ (Sub.refl _))) hr he;have:=FV.sl (b:=b) (cs:=l.flatMap cv) 0 l.length k (by rw [flatMap_len hk];omega);rw [OwnL.frozen hk] at this;exact this
/-- A result that is an own list becomes a frozen one. -/
theorem ACall.frzL {P:Program}{G:Nat→CV}{f:FuncId}{args:List CV}{H:Heap}{nx:Nat}{α:Type}{cv:α→List CV}{k:Nat}(hk:∀ a,(cv a).length=k){Q:Res→Heap→Nat→Prop}
  (h:ACall P G f args H nx fun r H' nx'=>∃ c l,r=.ret c∧OwnL cv k H' nx' c l∧Q (.ret (.lst (l.map cv))) (drpC H' c) nx'):ACall P G f args H nx Q :=
 fun M w vs g r v=>(h M w vs g r v).mono fun e w' ⟨M1,x,H1,n1,a1,a2,a3,c,l,e1,ho,hq⟩=>by
  subst e1;obtain⟨M2,b1,b2,b3⟩:=ho.fzH hk a2 a1;exact⟨M2,_,_,n1,b1,b2,a3.trans b3,hq⟩
section
variable {P:Program} {G:Nat→CV} {n:Nat} {e e':Env} {H:Heap} {nx:Nat} {Q:AExit→Env→Heap→Nat→Prop} {ops:Array Oper} {os:List Oper}
theorem AWp.nilT {c:Code}(t0:Nat)(h0:e t0=.nils)(h:AWp P G n c (putE e (some t0) (.lst [])) H nx Q):AWp P G n c e H nx Q:=fun M a w g r v=>h M a w g r ⟨v.1,v.2.1,fun t=>by
 by_cases ht:t=t0
 ·subst ht;simp only [putE,if_true];have:=v.2.2 t;rw [h0] at this;exact RV.nil_lst this
 ·simp only [putE,ht,if_false];exact v.2.2 t⟩
theorem AOpl.nilT (t0:Nat)(h0:e t0=.nils)(h:AOpl P G n ops os (putE e (some t0) (.lst [])) H nx Q):AOpl P G n ops os e H nx Q:=fun k hk M a w g r v=>h k hk M a w g r ⟨v.1,v.2.1,fun t=>by
 by_cases ht:t=t0
 ·subst ht;simp only [putE,if_true];have:=v.2.2 t;rw [h0] at this;exact RV.nil_lst this
 ·simp only [putE,ht,if_false];exact v.2.2 t⟩
/-- One temporary's own list becomes a frozen one. -/
theorem AWp.frzL {α:Type}{cv:α→List CV}{k:Nat}(hk:∀ a,(cv a).length=k){c:Code}(t0:Nat){x:CV}{l:List α}(h0:e t0=x)(ho:OwnL cv k H nx x l)(h:AWp P G n c (putE e (some t0) (.lst (l.map cv))) (drpC H x) nx Q):AWp P G n c e H nx Q:=by
 rcases ho with⟨rfl,rfl⟩ | ⟨b,rfl,hb,_⟩
 ·exact AWp.nilT t0 h0 h
 ·refine AWp.frzT t0 h0 hb (by rw [flatMap_len hk];omega) ?_;rw [OwnL.frozen hk];exact h
theorem AOpl.frzL {α:Type}{cv:α→List CV}{k:Nat}(hk:∀ a,(cv a).length=k)(t0:Nat){x:CV}{l:List α}(h0:e t0=x)(ho:OwnL cv k H nx x l)(h:AOpl P G n ops os (putE e (some t0) (.lst (l.map cv))) (drpC H x) nx Q):AOpl P G n ops os e H nx Q:=by
 rcases ho with⟨rfl,rfl⟩ | ⟨b,rfl,hb,_⟩
 ·exact AOpl.nilT t0 h0 h
 ·refine AOpl.frzT t0 h0 hb (by rw [flatMap_len hk];omega) ?_;rw [OwnL.frozen hk];exact h
end
/-- A contract with a known result of a function that works on one block. -/
def B1 (P:Program)(G:Nat→CV)(f:FuncId)(args:List CV)(b:Nat)(cs:List CV)(v:CV)(cs':List CV):Prop :=
 ∀ H nx,H b=some (.cells cs)→ACall P G f args H nx fun r H' nx'=>r=.ret v∧H'=upd H b (.cells cs')∧nx'=nx
theorem B1.of {P:Program}{G:Nat→CV}{f:FuncId}{extra:List CV}{b:Nat}{cs:List CV}{v:CV}{cs':List CV}(hG:∀ g,puV (G g)=true)(hx:puL extra=true)(hc:puL cs=true)(hc':puL cs'=true)(hv:puV v=true)
  (h:ACall P G f (.ptr b 0::extra) (one1 b (.cells cs)) (b+1) fun r H' _=>r=.ret v∧H' b=some (.cells cs')):B1 P G f (.ptr b 0::extra) b cs v cs':=by
 intro H nx hb M w vs g r rv;obtain⟨g0,m0,hm,hR⟩:=r.blk b _ hb;obtain⟨M0,hM0⟩:∃ M0:Mp,M0=⟨M.fz,fun x=>if x=b then some (g0,m0) else none⟩:=⟨_,rfl⟩;have z0:∀ g x,M.fz g=some x→M0.fz g=some x:=fun g x h=>by rw [hM0];exact h
 have b0:M0.bk b=some (g0,m0):=by rw [hM0];simp
 have b1:∀ x,x≠b→M0.bk x=none:=fun x hx=>by rw [hM0];simp [hx]
 have f0:M0.fz=M.fz:=by rw [hM0]
 clear hM0;have one_at:∀ x k,one1 b (.cells cs) x=some k→x=b∧k=.cells cs:=by
  intro x k hk;unfold one1 at hk
  by_cases e:x=b
  ·subst e;rw [upd_hit] at hk;cases hk;exact⟨rfl,rfl⟩
  ·rw [upd_miss _ _ _ _ e] at hk;cases hk
 have r0:Rep M0 (one1 b (.cells cs)) (b+1) w:=by
  refine⟨fun x k hk=>?_,fun x x' k k' g m m' hk hk' _ _=>?_,fun x hx=>b1 x (by omega),fun g o hz=>r.fz g o (by rw [← f0];exact hz),fun g o x k m hz hk hm'=>?_⟩
  ·obtain⟨rfl,rfl⟩:=one_at x k hk;obtain⟨arr,T,a1,a2,a3⟩:=hR;exact⟨g0,m0,b0,arr,T,a1,a2,a3.swap z0 hc⟩
  ·rw [(one_at x k hk).1,(one_at x' k' hk').1]
  ·obtain⟨rfl,rfl⟩:=one_at x k hk;rw [b0] at hm';cases hm';exact r.sep _ o _ _ _ (by rw [← f0];exact hz) hb hm
 obtain⟨v0,vs',rfl,rv0,rvs⟩:=rv.cons_inv;have rv':RVs M0 (.ptr b 0::extra) (v0::vs'):=by
  refine .cons ?_ (rvs.swap z0 hx);cases rv0 with
  | ptr _ _ g1 m1 h1=>rw [hm] at h1;cases h1;exact .ptr _ _ _ _ b0
 refine (h M0 w _ (g.swap z0 hG) r0 rv').mono ?_;rintro e w' ⟨M1,x,H1,nx1,a1,a2,a3,rfl,hH1⟩;have c0:M1.bk b=some (g0,m0):=by rw [a3.low b (by omega),b0]
 have im1:∀ g,Im (one1 b (.cells cs)) M0 g↔g=g0:=by
  intro g;constructor
  ·rintro⟨x,k,m,hk,hi⟩;obtain⟨rfl,_⟩:=one_at x k hk;rw [b0] at hi;cases hi;rfl
  ·rintro rfl;exact⟨b,_,m0,one1_hit _ _,b0⟩
 have imH:Im H M g0:=⟨b,_,m0,hb,hm⟩;have he:Ext M ⟨M1.fz,M.bk⟩:=⟨fun x y h=>a3.ext.fz x y (z0 x y h),fun _ _ h=>h⟩;have old:∀ x k g m,x≠b→H x=some k→M.bk x=some (g,m)→g<w.heap.size∧w'.heap[g]?=w.heap[g]?∧g≠g0:=by
  intro x k g m hx hk hi;have hne:g≠g0:=fun e=>by subst e;exact hx (r.inj x b k _ g m m0 hk hb hi hm)
  have hlt:=r.lt hk hi;exact⟨hlt,a3.kept g hlt (fun h=>hne ((im1 g).mp h)),hne⟩
 have upd_at:∀ x k,upd H b (.cells cs') x=some k→(x=b∧k=.cells cs')∨(x≠b∧H x=some k):=by
  intro x k hk
  by_cases e:x=b
  ·subst e;rw [upd_hit] at hk;cases hk;exact .inl ⟨rfl,rfl⟩
  ·rw [upd_miss _ _ _ _ e] at hk;exact .inr ⟨e,hk⟩
 have had:∀ x k,upd H b (.cells cs') x=some k→∃ k',H x=some k':=by
  intro x k hk;rcases upd_at x k hk with⟨rfl,_⟩ | ⟨_,h⟩
  ·exact⟨_,hb⟩
  ·exact⟨_,h⟩
 refine⟨⟨M1.fz,M.bk⟩,.ret v,upd H b (.cells cs'),nx,EndR.swap (M:=M1) (M':=⟨M1.fz,M.bk⟩) (fun _ _ h=>h) a1 hv,⟨fun x k hk=>?_,fun x x' k k' g m m' hk hk' hi hi'=>?_,r.fresh,a2.fz,fun g o x k m hz hk hi=>?_⟩,⟨he,a3.os,a3.tape,a3.output,a3.grown,fun g hg hn=>a3.kept g hg (fun h=>hn (by rw [(im1 g).mp h];exact imH)),fun g ⟨x,k,m,hk,hi⟩=>?_,fun _ _=>rfl,Nat.le_refl _,fun g o hz=>?_⟩,rfl,rfl,rfl⟩
 ·rcases upd_at x k hk with⟨rfl,rfl⟩ | ⟨hx,hk⟩
  ·obtain⟨g1,m1,d1,d2⟩:=a2.blk x _ hH1;rw [c0] at d1;cases d1;obtain⟨arr,T,e1,e2,e3⟩:=d2;exact⟨g0,m0,hm,arr,T,e1,e2,e3.swap (M:=M1) (M':=⟨M1.fz,M.bk⟩) (fun _ _ h=>h) hc'⟩
  ·obtain⟨g1,m1,d1,d2⟩:=r.blk x k hk;exact⟨g1,m1,d1,d2.ext he (old x k g1 m1 hx hk d1).2.1⟩
 ·obtain⟨k1,h1⟩:=had x k hk;obtain⟨k2,h2⟩:=had x' k' hk';exact r.inj x x' k1 k2 g m m' h1 h2 hi hi'
 ·rcases upd_at x k hk with⟨rfl,rfl⟩ | ⟨hx,hk⟩
  ·have hi:M.bk x=some (g,m):=hi;rw [hm] at hi;cases hi;exact a2.sep _ o _ _ _ hz hH1 c0
  ·obtain⟨hlt,_,hne⟩:=old x k g m hx hk hi;rcases a3.fzn g o hz with h1 | h1 | h1
   ·exact r.sep g o x k m (by rw [← f0];exact h1) hk hi
   ·exact hne ((im1 g).mp h1)
   ·omega
 ·obtain⟨k1,h1⟩:=had x k hk;exact .inl ⟨x,k1,m,h1,hi⟩
 ·rcases a3.fzn g o hz with h1 | h1 | h1
  ·exact .inl (by rw [← f0];exact h1)
  ·exact .inr (.inl (by rw [(im1 g).mp h1];exact imH))
  ·exact .inr (.inr h1)
theorem B1.ofBody {P:Program}{G:Nat→CV}{f:FuncId}{fn:Func}{c:Code}{extra:List CV}{b:Nat}{cs:List CV}{v:CV}{cs':List CV}{n:Nat}(hG:∀ g,puV (G g)=true)(hx:puL extra=true)(hc:puL cs=true)(hc':puL cs'=true)(hv:puV v=true)
  (hf:P.funcs[f]?=some fn) (hb:fn.body=some c) (hn:max (extra.length+1) fn.ntmps=n)
  (h:∀ nx,b<nx→((¬ b=nx∧¬ nx=b)∧(∀ k,¬ b=nx+k∧¬ nx+k=b)∧(∀ j k,¬ b=nx+j+k∧¬ nx+j+k=b)∧(∀ i j k,¬ b=nx+i+j+k∧¬ nx+i+j+k=b)∧∀ h i j k,¬ b=nx+h+i+j+k∧¬ nx+h+i+j+k=b)→AWp P G n c (argE (.ptr b 0::extra)) (one1 b (.cells cs)) nx (BodyQ P fn fun r H' _=>r=.ret v∧H' b=some (.cells cs'))):B1 P G f (.ptr b 0::extra) b cs v cs' :=
 B1.of hG hx hc hc' hv (ACall.of_body hf hb (by simp only [List.length_cons];exact hn▸h (b+1) (by omega) (far (by omega))))
/-- What is said less: nil as an empty list. -/
inductive Wk:CV→CV→Prop
 | same (c:CV):Wk c c
 | nil:Wk .nils (.lst [])
 | agg (l l':List CV) (hl:l'.length=l.length) (h:∀ j (a:j<l.length) (b:j<l'.length),Wk l[j] l'[j]):Wk (.agg l) (.agg l')
def WkL (l l':List CV):Prop:=l'.length=l.length∧∀ j (_:j<l.length) (_:j<l'.length),Wk l[j] l'[j]
theorem WkL.nil:WkL [] []:=⟨rfl,fun j a=>by simp at a⟩
theorem WkL.cons {c c':CV}{l l':List CV}(h:Wk c c')(hs:WkL l l'):WkL (c::l) (c'::l'):=⟨by simp [hs.1],fun j a b=>by
 cases j with
 | zero=>exact h
 | succ j=>exact hs.2 j (by simpa using a) (by simpa using b)⟩
theorem WkL.agg {l l':List CV}(h:WkL l l'):Wk (.agg l) (.agg l'):=.agg _ _ h.1 h.2
theorem RV.wk {M:Mp}{c c':CV}(h:Wk c c'):∀ {v:Value},RV M c v→RV M c' v:=by
 induction h with
 | same c=>exact fun h=>h
 | nil=>exact RV.nil_lst
 | agg l l' hl _ ih =>
   intro v h;cases h with
   | agg _ vs hv hr=>exact .agg _ _ (by rw [hv,hl]) fun j a b=>ih j (by omega) a (hr j (by omega) b)
theorem ACall.wk {P:Program}{G:Nat→CV}{f:FuncId}{args:List CV}{H:Heap}{nx:Nat}{Q:Res→Heap→Nat→Prop}(h:ACall P G f args H nx fun r H' nx'=>∃ c c',r=.ret c∧Wk c c'∧Q (.ret c') H' nx'):ACall P G f args H nx Q :=
 fun M w vs g r v=>(h M w vs g r v).mono fun e w' ⟨M1,x,H1,n1,a1,a2,a3,c,c',hx,hw,hq⟩=>by
  subst hx;refine⟨M1,.ret c',H1,n1,?_,a2,a3,hq⟩;cases e <;> simp only [EndR] at a1 ⊢;exact a1.wk hw
def FVL (b:Nat)(cs l l':List CV):Prop:=l'.length=l.length∧∀ j (_:j<l.length) (_:j<l'.length),FV b cs l[j] l'[j]
theorem FVL.nil {b:Nat}{cs:List CV}:FVL b cs [] []:=⟨rfl,fun j a=>by simp at a⟩
theorem FVL.cons {b:Nat}{cs:List CV}{c c':CV}{l l':List CV}(h:FV b cs c c')(hs:FVL b cs l l'):FVL b cs (c::l) (c'::l'):=⟨by simp [hs.1],fun j x y=>by
 cases j with
 | zero=>exact h
 | succ j=>exact hs.2 j (by simpa using x) (by simpa using y)⟩
theorem FVL.agg {b:Nat}{cs l l':List CV}(h:FVL b cs l l'):FV b cs (.agg l) (.agg l'):=.agg _ _ h.1 h.2
/-- The same where the result is an own list that becomes a frozen one. -/
theorem B1.ofBodyL {P:Program}{G:Nat→CV}{f:FuncId}{fn:Func}{c:Code}{extra:List CV}{b:Nat}{cs:List CV}{cs':List CV}{n k:Nat}{α:Type}{cv:α→List CV}{l:List α}(hk:∀ a,(cv a).length=k)(hG:∀ g,puV (G g)=true)(hx:puL extra=true)(hc:puL cs=true)(hc':puL cs'=true)(hv:puV (.lst (l.map cv))=true)
  (hf:P.funcs[f]?=some fn) (hb:fn.body=some c) (hn:max (extra.length+1) fn.ntmps=n)
  (h:∀ nx,b<nx→((¬ b=nx∧¬ nx=b)∧(∀ k,¬ b=nx+k∧¬ nx+k=b)∧(∀ j k,¬ b=nx+j+k∧¬ nx+j+k=b)∧(∀ i j k,¬ b=nx+i+j+k∧¬ nx+i+j+k=b)∧∀ h i j k,¬ b=nx+h+i+j+k∧¬ nx+h+i+j+k=b)→AWp P G n c (argE (.ptr b 0::extra)) (one1 b (.cells cs)) nx (BodyQ P fn fun r H' nx'=>∃ c,r=.ret c∧OwnL cv k H' nx' c l∧H' b=some (.cells cs')∧∀ o m j,c≠.sl b o m j)):B1 P G f (.ptr b 0::extra) b cs (.lst (l.map cv)) cs':=by
 refine B1.of hG hx hc hc' hv (ACall.frzL hk ((ACall.of_body hf hb (by simp only [List.length_cons];exact hn▸h (b+1) (by omega) (far (by omega)))).mono ?_));rintro r H' nx' ⟨c,rfl,ho,hb',hne⟩;refine⟨c,l,rfl,ho,rfl,?_⟩;rcases ho with⟨_,rfl⟩ | ⟨x,rfl,_,_⟩
 ·exact hb'
 ·show drp H' x b=_
  rw [drp_miss _ _ _ (fun e=>hne 0 l.length k (by rw [e]))];exact hb'
/-- A function that turns block b and uses up block x. -/
theorem ACall.two {P:Program}{G:Nat→CV}{f:FuncId}{args:List CV}{b x:Nat}{kb kx kb':CB}{v:CV}{H:Heap}{nx:Nat}(hbx:b≠x)(hb:H b=some kb)(hx:H x=some kx)
  (h:∀ nx,b<nx→x<nx→ACall P G f args (upd (one1 b kb) x kx) nx fun r H' _=>r=.ret v∧H' b=some kb'):ACall P G f args H nx fun r H' nx'=>r=.ret v∧H'=upd (drp H x) b kb'∧nx≤nx':=by
 intro M w vs g r rv;obtain⟨g0,m0,hm,_⟩:=r.blk b _ hb;obtain⟨g1,m1,hm1,_⟩:=r.blk x _ hx;have s1:Sub (upd (one1 b kb) x kx) H:=fun y k hy=>by
  unfold one1 at hy
  by_cases e:y=x
  ·subst e;rw [upd_hit] at hy;cases hy;exact hx
  ·rw [upd_miss _ _ _ _ e] at hy
   by_cases e:y=b
   ·subst e;rw [upd_hit] at hy;cases hy;exact hb
   ·rw [upd_miss _ _ _ _ e] at hy;cases hy
 refine (h nx (r.num hm) (r.num hm1) M w vs g (r.weak s1) rv).mono ?_;rintro e w' ⟨M',y,H',nx',h1,h2,h3,h4,hb'⟩;have s2:Sub (one1 b kb') H':=fun y k hy=>by
  unfold one1 at hy
  by_cases e:y=b
  ·subst e;rw [upd_hit] at hy;cases hy;exact hb'
  ·rw [upd_miss _ _ _ _ e] at hy;cases hy
 obtain⟨r1,f1⟩:=Rep.frame (drp (drp H x) b) r s1 (fun y k hy=>Sub.drp H x _ _ (Sub.drp _ b _ _ hy)) (fun y k hy=>by
  unfold one1
  by_cases e:y=b
  ·subst e;rw [drp_hit] at hy;cases hy
  ·rw [drp_miss _ _ _ e] at hy
   by_cases e2:y=x
   ·subst e2;rw [drp_hit] at hy;cases hy
   ·rw [upd_miss _ _ _ _ e2,upd_miss _ _ _ _ e];rfl) (h2.weak s2) (h3.trans (.weak s2))
 have e1:cup (one1 b kb') (drp (drp H x) b)=upd (drp H x) b kb':=by
  funext y
  unfold cup one1
  by_cases e:y=b
  ·subst e;rw [drp_hit,upd_hit,upd_hit]
  ·rw [drp_miss _ _ _ e,upd_miss _ _ _ _ e,upd_miss _ _ _ _ e];cases drp H x y <;> rfl
 rw [e1] at r1 f1;exact⟨M',y,_,nx',h1,r1,f1,h4,rfl,h3.nxle⟩
section
variable {P:Program} {G:Nat→CV} {n:Nat} {e:Env} {H:Heap} {nx nx0 kp ne:Nat} {Q:AExit→Env→Heap→Nat→Prop} {ops:Array Oper} {os:List Oper} {d:Option Nat} {op:Op} {ty:TypeId} {pos:String} {af:Array Edge} {g:Option (Nat×Bool)} {K:Env→Heap→Nat→Prop}
end
/-! a long tactic under a short name: the side goal of a lemma -/
structure Hd (X:Prop):Prop where out:X
theorem gW {X X':Prop}(k:X')(f:Hd X'→X:=by
 intro h
 repeat (first | (first | (apply Xf;rfl) | apply Xj);focus simp [*,-Option.some.injEq];rfl | (first | (apply Xa;rfl) | apply Xb);(focus simp [*];done);focus simp [*,-Option.some.injEq];rfl | (first | (apply Xg;rfl) | apply Xk);(focus simp [*];done) | (first | refine Xl ?_ | refine Xi ?_ | refine Xh ?_ | refine Xo ?_ | refine Xq ?_);try simp only [Xx,Xy,reduceIte,Nat.reduceEqDiff] | refine Xn ?_ | refine Xp rfl ?_ | refine Xc ?_ | apply Xd;focus simp [*];done | apply Xe;focus simp [*];done | refine Yb rfl rfl ?_)
 exact h.out):X:=f ⟨k⟩
end Ax
end
section
namespace Ax
section
variable {P:Program} {G:Nat→CV} {n:Nat} {e:Env} {H:Heap} {nx nx0 kp ne:Nat} {ops:Array Oper} {os:List Oper} {d:Option Nat} {ty:TypeId} {pos:String} {af:Array Edge} {g:Option (Nat×Bool)} {K:Env→Heap→Nat→Prop} {Q:AExit→Env→Heap→Nat→Prop}
theorem app_key {α:Type}{cv:α→List CV}{k:Nat}{t el:TypeId}{s b1:Nat}{z:Value}{i:TI}(ht:ti P t=some ⟨.slice el,s,z,b1⟩)(hi:ti P el=some i)(hk:i.size=k)(hz:i.zero.cells.size=k)(hk0:0<k)(hby:i.bytes≤1000)
  (hcv:∀ a,(cv a).length=k) (hone:∀ a,(cv a).all CV.one=true) {c:CV} {l:List α} {x:Nat} {u:α} (ho:OwnL cv k H ne c l) (hxb:H x=some (.cells (cv u))) (hn:l.length<1000000000) :
  ∃ d',appA P H ne t t c (.sl x 0 1 k)=some (.sl ne 0 (l.length+1) k,d')∧d'.on H=true∧d'.nx ne=ne+1∧d'.hp H ne ne=some (.cells ((l++[u]).flatMap cv))∧∀ b,b<ne→(∀ b',c=.sl b' 0 l.length k→b≠b')→(d'.hp H ne) b=H b:=by
 rcases ho with⟨rfl,rfl⟩ | ⟨b,rfl,hb,hlt⟩
 ·refine⟨_,app_row0 ht hi hk hz hk0 hxb (hcv u) (hone u) hby,rfl,rfl,by simp [Dl.hp,Ax.upd],fun b hb _=>?_⟩;simp only [Dl.hp];exact upd_miss _ _ _ _ (by omega)
 ·refine⟨_,app_row ht hi hk hz hk0 hb (flatMap_len hcv l) hxb (hcv u) (hone u) (by omega) hby,rfl,rfl,by simp [Dl.hp,Ax.upd,List.flatMap_append],fun b' hb' hne=>?_⟩;simp only [Dl.hp];rw [upd_miss _ _ _ _ (by omega),drp_miss _ _ _ (hne b rfl)]
/-- The same in a region in the text's order, with a known block. -/
theorem AOpl.appRow2 {α:Type}{cv:α→List CV}{k:Nat}{t el:TypeId}{s b1:Nat}{z:Value}{i:TI}(ht:ti P t=some ⟨.slice el,s,z,b1⟩)(hi:ti P el=some i)(hk:i.size=k)(hz:i.zero.cells.size=k)(hk0:0<k)(hby:i.bytes≤1000)
  (hcv:∀ a,(cv a).length=k) (hone:∀ a,(cv a).all CV.one=true) {so xo:Operand} {c:CV} {l:List α} {x:Nat} {u:α} (hd:okD n d=true) (hg:gd ops e ⟨d,.call ⟨.builtin .append,#[so,xo],#[t,t]⟩,ty,pos,af,g⟩=some true)
  (hs:rd G e so=c) (hx:rd G e xo=.sl x 0 1 k) (ho:OwnL cv k H nx c l) (hxb:H x=some (.cells (cv u))) (hn:l.length<1000000000)
  (h:∀ H',H' nx=some (.cells ((l++[u]).flatMap cv))→(∀ b,b<nx→(∀ b',c=.sl b' 0 l.length k→b≠b')→H' b=H b)→AOpl P G n ops os (putE e d (.sl nx 0 (l.length+1) k)) H' (nx+1) Q) :
  AOpl P G n ops (⟨d,.call ⟨.builtin .append,#[so,xo],#[t,t]⟩,ty,pos,af,g⟩::os) e H nx Q:=by
 obtain⟨d',h1,h2,h3,h4,h5⟩:=app_key ht hi hk hz hk0 hby hcv hone ho hxb hn;refine Xa hd hg (c:=.sl nx 0 (l.length+1) k) (H':=d'.hp H nx) (nx':=nx+1) ?_ (h _ h4 h5);simp [stepS,qstep,bltA,astep,estep,hs,hx,h1,h3]
end
section
variable {P:Program} {G:Nat→CV} {n:Nat} {e:Env} {H:Heap} {nx:Nat} {Q:AExit→Env→Heap→Nat→Prop} {ops:Array Oper} {os:List Oper} {d:Option Nat} {op:Op} {ty:TypeId} {pos:String} {af:Array Edge} {g:Option (Nat×Bool)}
end
end Ax
end
section
namespace Ax
theorem Rep.freeze2 {M:Mp}{H:Heap}{nx:Nat}{w:World}(r:Rep M H nx w){b x:Nat}{cs cx cx':List CV}(hb:H b=some (.cells cs))(hx:H x=some (.cells cx))(hne:x≠b)(hv:FVL b cs cx cx') :
  ∃ M',Ext M M'∧Rep M' (upd (drp H b) x (.cells cx')) nx w∧Fr H M nx w (upd (drp H b) x (.cells cx')) M' nx w∧∀ {c c':CV} {v:Value},FV b cs c c'→RV M c v→RV M' c' v:=by
 obtain⟨M',he,r',f',hf⟩:=r.freeze hb;obtain⟨g,m,h1,arr,T,h2,h3,h4⟩:=r.blk x _ hx;have hx':drp H b x=some (.cells cx):=by rw [drp_miss _ _ _ hne];exact hx
 obtain⟨r2,f2⟩:=r'.write (w':=w) x (.cells cx) (.cells cx') g m hx' (he.bk _ _ h1) rfl (fun _ _=>rfl) rfl rfl rfl ⟨arr,T,h2,h3,by
  rw [hv.1];refine⟨by rw [hv.1];exact h4.1,fun j a c=>?_⟩;have hj:j<cx.length:=by rw [← hv.1];exact a
  exact hf (hv.2 j hj a) (h4.2 j hj c)⟩
 exact⟨M',he,r2,f'.trans f2,hf⟩
section
variable {P:Program} {G:Nat→CV} {n:Nat} {e e':Env} {H:Heap} {nx:Nat} {Q:AExit→Env→Heap→Nat→Prop} {ops:Array Oper} {os:List Oper} {b x:Nat} {cs cx cx':List CV}
theorem AWp.frz2 {c:Code}(hb:H b=some (.cells cs))(hx:H x=some (.cells cx))(hne:x≠b)(hv:FVL b cs cx cx')(h:AWp P G n c e (upd (drp H b) x (.cells cx')) nx Q):AWp P G n c e H nx Q:=fun M a w g r v=>by
 obtain⟨M',he,r',f',hf⟩:=r.freeze2 hb hx hne hv;exact wp_mono (h M' a w (g.ext he) r' (v.ext he)) fun _ _ _ hp=>hp.trans f'
/-- A block is said less. -/
theorem AWp.wkH {c:Code}(hx:H x=some (.cells cx))(hw:WkL cx cx')(h:AWp P G n c e (upd H x (.cells cx')) nx Q):AWp P G n c e H nx Q:=fun M a w g r v=>by
 obtain⟨gg,m,h1,arr,T,h2,h3,h4⟩:=r.blk x _ hx;obtain⟨r2,f2⟩:=r.write (w':=w) x (.cells cx) (.cells cx') gg m hx h1 rfl (fun _ _=>rfl) rfl rfl rfl ⟨arr,T,h2,h3,by
  rw [hw.1];refine⟨by rw [hw.1];exact h4.1,fun j a c=>?_⟩;have hj:j<cx.length:=by rw [← hw.1];exact a
  exact (h4.2 j hj c).wk (hw.2 j hj a)⟩
 exact wp_mono (h M a w g r2 v) fun _ _ _ hp=>hp.trans f2
end
end Ax
end
section
namespace Lx
abbrev Bytes:=List UInt8
def isLetter (c:UInt8):Bool:=decide (97≤c.toNat∧c.toNat≤122∨65≤c.toNat∧c.toNat≤90)
def isDigit (c:UInt8):Bool:=decide (48≤c.toNat∧c.toNat≤57)
def isPart (c:UInt8):Bool:=isLetter c || isDigit c || decide (c.toNat=95)
/-- How many bytes at the beginning are of a kind. -/
def spanOf (p:UInt8→Bool):Bytes→Nat
 | []=>0
 | c::t=>if p c then spanOf p t+1 else 0
theorem spanOf_le (p:UInt8→Bool)(l:Bytes):spanOf p l≤l.length:=by
 induction l with
 | nil=>simp [spanOf]
 | cons c t ih=>simp only [spanOf,List.length_cons];split <;> omega
theorem drop_cons (s:ByteArray)(k:Nat)(h:k<s.size):s.data.toList.drop k=s[k]::s.data.toList.drop (k+1):=by
 rw [List.drop_eq_getElem_cons (by simpa using h)];rfl
theorem len_list (s:ByteArray):s.data.toList.length=s.size:=by simp
theorem spanOf_stop (p:UInt8→Bool)(s:ByteArray)(k:Nat)(h:k<s.size)(hp:p s[k]=false):spanOf p (s.data.toList.drop k)=0:=by
 rw [drop_cons s k h];simp [spanOf,hp]
theorem spanOf_go (p:UInt8→Bool)(s:ByteArray)(k:Nat)(h:k<s.size)(hp:p s[k]=true):spanOf p (s.data.toList.drop k)=spanOf p (s.data.toList.drop (k+1))+1:=by
 rw [drop_cons s k h];simp [spanOf,hp]
theorem spanOf_end (p:UInt8→Bool)(s:ByteArray)(k:Nat)(h:s.size≤k):spanOf p (s.data.toList.drop k)=0:=by
 rw [List.drop_eq_nil_of_le (by simpa using h)];rfl
end Lx
end
end Go.Proofs.YtoookjadbhdfhaaGreatDoor
