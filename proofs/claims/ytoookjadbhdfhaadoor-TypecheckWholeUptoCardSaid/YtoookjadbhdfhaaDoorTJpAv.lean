/-
  Plain Lean: hierarchies and the checker of types as plain functions.
-/
import Derived.Test.YtoookjadbhdfhaaDoorTJpAu
import Derived.Test.YtoookjadbhdfhaaDoorTJpAt
import Derived.Test.YtoookjadbhdfhaaDoorTJpAs
import Derived.Test.YtoookjadbhdfhaaDoorTJpAn
import Derived.Test.YtoookjadbhdfhaaDoorTJpAh
import Derived.Test.YtoookjadbhdfhaaDoorTOldAx
set_option linter.unusedSectionVars false
set_option linter.unusedSimpArgs false
set_option linter.unnecessarySimpa false
set_option linter.unusedVariables false
set_option linter.unusedSimpArgs false
set_option linter.unusedVariables false
namespace Go.Proofs.YtoookjadbhdfhaaDoor
section
open Lx
namespace Lx
structure Sg where
 name:Bytes
 static:Bool
 params:List Bytes
 result:Bytes
structure Cd where
 name:Bytes
 super:Bytes
 fields:List Fld
 methods:List Sg
def sgOf (m:Me):Sg:=⟨m.name,m.static,m.params.map (·.typ),m.result⟩
def cdOf (c:Cl):Cd:=⟨c.name,c.super,c.fields,c.methods.map sgOf⟩
def hiOf (l:List Cl):List Cd:=l.map cdOf
def intB:Bytes:=[105,110,116]
def nullB:Bytes:=[110,117,108,108]
def mainB:Bytes:=[109,97,105,110]
def MainB:Bytes:=[77,97,105,110]
/-! the hierarchy -/
def findN (h:List Cd)(s:Bytes):Option Nat:=h.findIdx? fun c=>c.name == s
def findI (h:List Cd)(s:Bytes):Int:=match findN h s with
 | some i=>i
 | none=>-1
def superI (h:List Cd)(i:Nat):Int:=match h[i]? with
 | some c=>if c.super=[] then -1 else findI h c.super
 | none=>-1
/-- The chain of a class, and whether it is cyclic; n bounds its length. -/
def chainF (h:List Cd):Nat→List Nat→Int→List Nat×Bool
 | 0,acc,i=>(acc,decide (0≤i))
 | n+1,acc,i=>if i<0 then (acc,false) else if acc.contains i.toNat then (acc,true) else chainF h n (acc++[i.toNat]) (superI h i.toNat)
def chainC (h:List Cd)(i:Int):List Nat×Bool:=chainF h (h.length+1) [] i
def namedC (h:List Cd)(s:Bytes):List Nat:=(chainC h (findI h s)).1
def typB (h:List Cd)(s:Bytes):Bool:=s == intB || decide (0≤findI h s)
def clsB (h:List Cd)(s:Bytes):Bool:=s != intB && decide (0≤findI h s)
def fieldN (c:Cd)(s:Bytes):Option Nat:=c.fields.findIdx? fun f=>f.name == s
def methN (c:Cd)(s:Bytes):Option Nat:=c.methods.findIdx? fun m=>m.name == s
def ofN:Option Nat→Int
 | some i=>i
 | none=>-1
/-- The field of a name in the first class of a list that has one: class and type. -/
def fieldW (h:List Cd)(f:Bytes):List Nat→Option (Bytes×Bytes)
 | []=>none
 | i::l=>match h[i]? with
   | none=>none
   | some c=>match fieldN c f with
     | some k=>some (c.name,(c.fields[k]?.map (·.typ)).getD [])
     | none=>fieldW h f l
def fieldF (h:List Cd)(s f:Bytes):Option (Bytes×Bytes):=fieldW h f (namedC h s)
def lookW (h:List Cd)(m:Bytes):List Nat→Option (Nat×Nat)
 | []=>none
 | i::l=>match h[i]? with
   | none=>none
   | some c=>match methN c m with
     | some k=>some (i,k)
     | none=>lookW h m l
def lookN (h:List Cd)(i:Int)(m:Bytes):Option (Nat×Nat):=lookW h m (chainC h i).1
def lookF (h:List Cd)(s m:Bytes):Option (Bytes×Sg):=match lookN h (findI h s) m with
 | none=>none
 | some (i,k)=>match h[i]? with
   | none=>none
   | some c=>match c.methods[k]? with
     | none=>none
     | some g=>some (c.name,g)
def supersF (h:List Cd)(s:Bytes):List Bytes:=(namedC h s).map fun i=>((h[i]?).map (·.name)).getD []
def subF (h:List Cd)(a b:Bytes):Bool:=(supersF h a).contains b
def overF (m o:Sg):Bool:=!m.static && !o.static && m.result == o.result && m.params == o.params
/-- The error of the field k of a class, the rest of whose chain is given. -/
def fldE (h:List Cd)(c:Cd)(up:List Nat)(k:Nat)(f:Fld):Nat :=
 if isIdent f.name=false then 5 else if typB h f.typ=false then 8 else if ofN (fieldN c f.name)<k then 7
 else if up.any (fun i=>match h[i]? with | some d=>decide (0≤ofN (fieldN d f.name)) | none=>false) then 7 else 0
def metE (h:List Cd)(c:Cd)(up:List Nat)(k:Nat)(m:Sg):Nat :=
 if isIdent m.name=false then 5 else if ofN (methN c m.name)<k then 7 else if 6<m.params.length then 3
 else if m.params.any (fun p=>!typB h p) then 8 else if m.result≠[]∧typB h m.result=false then 8
 else if up.any (fun i=>match h[i]? with | some d=>d.methods.any (fun o=>o.name == m.name && !overF m o) | none=>false) then 11 else 0
def firstAt {α:Type}(f:Nat→α→Nat):Nat→List α→Nat
 | _,[]=>0
 | k,x::l=>if f k x≠0 then f k x else firstAt f (k+1) l
def clsE (h:List Cd)(i:Nat)(c:Cd):Nat :=
 if isIdent c.name=false then 5 else if findI h c.name≠i then 7 else if c.super≠[]∧findI h c.super<0 then 6
 else if (chainC h i).2 then 10 else if 16<c.fields.length∨16<c.methods.length then 3
 else if firstAt (fldE h c ((chainC h i).1.drop 1)) 0 c.fields≠0 then firstAt (fldE h c ((chainC h i).1.drop 1)) 0 c.fields
 else firstAt (metE h c ((chainC h i).1.drop 1)) 0 c.methods
/-- The index and the error of the first class with one. -/
def checkW (h:List Cd):Nat→List Cd→Int×Nat
 | _,[]=>(0,0)
 | i,c::l=>if clsE h i c≠0 then (i,clsE h i c) else checkW h (i+1) l
def checkF (h:List Cd):Int×Nat:=if 64<h.length then (-1,3) else checkW h 0 h
/-! types of expressions; an error leaves the checker -/
def asgB (h:List Cd)(a b:Bytes):Bool:=if b=intB then a == intB else if clsB h b=false then false else a == b || a == nullB || (clsB h a && subF h a b)
def varF (sc:List Fld)(s:Bytes):Option Bytes:=(sc.find? fun f=>f.name == s).map (·.typ)
abbrev Tk (α:Type):=Except Nat α
def needT (b:Bool)(e:Nat):Tk Unit:=if b then .ok () else .error e
def kidsT (k:Int)(n:Nat):Bool:=if k=6 then n == 2 else if k=8 then n == 1 else if k=9 then decide (1≤n) else if k=10 then true else n == 0
def binT (h:List Cd)(n:Int)(a b:Bytes):Bool:=if n=5∧a≠intB∧b≠intB then (a == nullB && b == nullB) || asgB h a b || asgB h b a else a == intB && b == intB
def needC (h:List Cd)(c:Bytes)(e:Nat):Tk Bytes:=if clsB h c then .ok c else .error e
def fldT (h:List Cd)(c f:Bytes):Tk Bytes:=if clsB h c=false then .error 8 else match fieldF h c f with
 | some (_,t)=>.ok t
 | none=>.error 6
def asgT (h:List Cd)(t:Tk Bytes)(to:Bytes):Tk Unit:=match t with
 | .error e=>.error e
 | .ok a=>if asgB h a to then .ok () else .error 8
/-- A call's result, if its arguments (with their types) fit. -/
def sigT (h:List Cd)(c m:Bytes)(static:Bool)(n:Nat):Tk Sg:=match lookF h c m with
 | none=>.error 6
 | some (_,g)=>if g.static=static then (if n=g.params.length then .ok g else .error 9) else .error 6
def binOf (h:List Cd)(n:Int):Tk (List Bytes)→Tk Bytes
 | .error e=>.error e
 | .ok [a,b]=>if binT h n a b then .ok intB else .error 8
 | .ok _=>.error 1
def fldOf (h:List Cd)(m:Bytes):Tk (List Bytes)→Tk Bytes
 | .error e=>.error e
 | .ok [c]=>fldT h c m
 | .ok _=>.error 1
mutual
def exT9 (h:List Cd)(cls:Bytes)(sc:List Fld):Ex→Tk Bytes
 | .mk k n o m ks =>
   if k<1∨10<k then .error 12 else if k=6∧(n<1∨5<n) then .error 12 else if kidsT k ks.length=false then .error 1
   else if k=1∨k=5 then .ok intB else if k=2 then .ok nullB
   else if k=3 then (match varF sc m with | some t=>.ok t | none=>.error 6)
   else if k=4 then (if cls=[] then .error 6 else .ok cls)
   else if k=7 then needC h m 6
   else if k=6 then binOf h n (tysT h cls sc ks)
   else if k=8 then fldOf h m (tysT h cls sc ks)
   else if k=9 then calT h cls sc m ks
   else (match needC h o 6 with
    | .error e=>.error e
    | .ok _=>match sigT h o m true ks.length with
      | .error e=>.error e
      | .ok g=>match argT h cls sc g.params ks with
        | .error e=>.error e
        | .ok _=>.ok g.result)
/-- The types of expressions from left to right. -/
def tysT (h:List Cd)(cls:Bytes)(sc:List Fld):List Ex→Tk (List Bytes)
 | []=>.ok []
 | e::l=>match exT9 h cls sc e with
   | .error x=>.error x
   | .ok t=>match tysT h cls sc l with
     | .error x=>.error x
     | .ok ts=>.ok (t::ts)
/-- Arguments are assigned to parameters. -/
def argT (h:List Cd)(cls:Bytes)(sc:List Fld):List Bytes→List Ex→Tk Unit
 | p::ps,e::l=>match asgT h (exT9 h cls sc e) p with
   | .error x=>.error x
   | .ok _=>argT h cls sc ps l
 | _,_=>.ok ()
/-- A call on an object: the first kid. -/
def calT (h:List Cd)(cls:Bytes)(sc:List Fld)(m:Bytes):List Ex→Tk Bytes
 | []=>.error 1
 | e::l=>match exT9 h cls sc e with
   | .error x=>.error x
   | .ok c=>if clsB h c=false then .error 8 else match sigT h c m false l.length with
     | .error x=>.error x
     | .ok g=>match argT h cls sc g.params l with
       | .error x=>.error x
       | .ok _=>.ok g.result
end
/-! statements -/
/-- The fault of a statement's kind and of the numbers of its parts. -/
def shpE (k:Int)(ne nb nl:Nat):Nat :=
 if k<1∨9<k then 12
 else if ne<(if k=1∨k=8∨k=6 then 0 else if k=3 then 2 else 1)∨(if k=6 then 0 else if k=3 then 2 else 1)<ne then 1
 else if ¬ (k=4∨k=5∨k=6)∧0<nb then 1 else if ¬ (k=4∨k=6)∧0<nl then 1 else 0
def ex0T (h:List Cd)(cls:Bytes)(sc:List Fld)(es:List Ex)(i:Nat):Tk Bytes:=match es[i]? with
 | some e=>exT9 h cls sc e
 | none=>.error 1
def andT {α β:Type}(a:Tk α)(b:Tk β):Tk β:=match a with
 | .error e=>.error e
 | .ok _=>b
/-- A name is declared: an identifier, a type, new. -/
def newT (h:List Cd)(sc:List Fld)(tb:Bool)(nm:Bytes):Tk Unit:=if isIdent nm=false then .error 5 else if tb=false then .error 8 else if varF sc nm≠none then .error 7 else .ok ()
def kindAt (es:List Ex):Int:=(es[0]?.map (·.kind)).getD 0
/-- A statement without statements within it: the scope behind it. -/
def simT (h:List Cd)(cls res:Bytes)(sc:List Fld)(k:Int)(nm ty:Bytes)(es:List Ex):Tk (List Fld) :=
 if k=1 then andT (newT h sc (typB h ty) nm) (andT (if es=[] then .ok () else asgT h (ex0T h cls sc es 0) ty) (.ok (sc++[⟨nm,ty⟩])))
 else if k=2 then (match varF sc nm with
  | none=>.error 6
  | some t=>andT (asgT h (ex0T h cls sc es 0) t) (.ok sc))
 else if k=3 then (match ex0T h cls sc es 0 with
  | .error e=>.error e
  | .ok c=>match fldT h c nm with
    | .error e=>.error e
    | .ok t=>andT (asgT h (ex0T h cls sc es 1) t) (.ok sc))
 else if k=7 then (match ex0T h cls sc es 0 with
  | .error e=>.error e
  | .ok t=>if t=nullB∨clsB h t=true then .ok sc else .error 8)
 else if k=8 then (if decide (es=[])=decide (res=[]) then andT (if es=[] then .ok () else asgT h (ex0T h cls sc es 0) res) (.ok sc) else .error 9)
 else (if kindAt es=9∨kindAt es=10 then andT (ex0T h cls sc es 0) (.ok sc) else .error 12)
mutual
def stT (h:List Cd)(cls res:Bytes):List Fld→St→Tk (List Fld)
 | sc,.mk k nm ty es b el =>
   if shpE k es.length b.length el.length≠0 then .error (shpE k es.length b.length el.length)
   else if k=4∨k=5 then (match ex0T h cls sc es 0 with
    | .error e=>.error e
    | .ok t=>if t=intB then andT (blT h cls res sc b) (andT (blT h cls res sc el) (.ok sc)) else .error 8)
   else if k=6 then andT (newT h sc (clsB h ty) nm) (andT (blT h cls res sc b) (andT (blT h cls res (sc++[⟨nm,ty⟩]) el) (.ok sc)))
   else simT h cls res sc k nm ty es
def blT (h:List Cd)(cls res:Bytes):List Fld→List St→Tk Unit
 | _,[]=>.ok ()
 | sc,s::l=>match stT h cls res sc s with
   | .error e=>.error e
   | .ok sc'=>blT h cls res sc' l
end
/-! methods and programs -/
/-- Parameters come into scope. -/
def parT:List Fld→List Fld→Tk (List Fld)
 | sc,[]=>.ok sc
 | sc,f::l=>if isIdent f.name=false then .error 5 else if varF sc f.name≠none then .error 7 else parT (sc++[f]) l
mutual
def retT:St→Bool
 | .mk k _ _ _ b el=>decide (k=7∨k=8) || (decide (k=4∨k=6) && retsT b && retsT el)
/-- Every path ends with a return or a throw. -/
def retsT:List St→Bool
 | []=>false
 | s::l=>retT s || retsT l
end
/-- The error of a method. -/
def methE (h:List Cd)(c:Bytes)(m:Me):Nat :=
 if 200<stsCount m.body then 3 else if 32<stsDepth m.body then 15
 else match parT [] m.params with
  | .error e=>e
  | .ok sc=>match blT h (if m.static then [] else c) m.result sc m.body with
    | .error e=>e
    | .ok _=>if m.result≠[]∧retsT m.body=false then 8 else 0
def hasMain (h:List Cd):Bool:=match findN h MainB with
 | none=>false
 | some i=>match h[i]? with
   | none=>false
   | some c=>c.methods.any fun g=>g.name == mainB && g.static && decide (g.params.length=0) && g.result == []
/-- The error of a program. -/
def progE (l:List Cl):Nat :=
 if (checkF (hiOf l)).2≠0 then (checkF (hiOf l)).2 else if hasMain (hiOf l)=false then 14
 else firstLim (fun c=>firstLim (methE (hiOf l) c.name) c.methods) l
/-- Variables come into scope. -/
def scpT (h:List Cd):List Fld→List Fld→Tk (List Fld)
 | sc,[]=>.ok sc
 | sc,f::l=>if isIdent f.name=false then .error 5 else if typB h f.typ=false then .error 8 else if varF sc f.name≠none then .error 7 else scpT h (sc++[f]) l
/-- The type of an expression within a class, with variables in scope, or the error. -/
def exprE (l:List Cl)(c:Bytes)(sc:List Fld)(e:Ex):Tk Bytes :=
 if (checkF (hiOf l)).2≠0 then .error (checkF (hiOf l)).2 else if c≠[]∧findI (hiOf l) c<0 then .error 6
 else match scpT (hiOf l) [] sc with
  | .error e=>.error e
  | .ok sc=>if 32<exDepth e then .error 15 else exT9 (hiOf l) c sc e
end Lx
end
section
open Lx
namespace Lx
/-- The names of the first classes and their indices, as the table of a hierarchy collects them. -/
def frT (h:List Cd):Nat→List (Bytes×Nat)
 | 0=>[]
 | i+1=>match h[i]? with
   | some c=>if (frT h i).any (fun p=>p.1 == c.name) then frT h i else frT h i++[(c.name,i)]
   | none=>frT h i
theorem frT_find (h:List Cd)(s:Bytes):∀ i,i≤h.length→((frT h i).find? (fun p=>p.1 == s)).map (·.2)=findN (h.take i) s
 | 0,_=>by simp [frT,findN]
 | i+1,hi=>by
   have hl:i<h.length:=by omega
   have ih:=frT_find h s i (by omega);have e:h.take (i+1)=h.take i++[h[i]]:=by simp [List.take_append_getElem]
   have hlen:(h.take i).length=i:=by simp;omega
   simp only [frT,List.getElem?_eq_getElem hl];rw [e];unfold findN at ih ⊢;rw [List.findIdx?_append,← ih];cases hf:(frT h i).find? (fun p=>p.1 == s) with
   | some p =>
     have:((if (frT h i).any (fun p=>p.1 == h[i].name) then frT h i else frT h i++[(h[i].name,i)]).find? fun p=>p.1 == s)=some p:=by
      split
      ·exact hf
      ·rw [List.find?_append,hf];rfl
     rw [this];rfl
   | none =>
     by_cases hs:h[i].name=s
     ·have ha:(frT h i).any (fun p=>p.1 == h[i].name)=false:=by
       rw [List.any_eq_false];intro p hp;rw [List.find?_eq_none] at hf;rw [hs];exact hf p hp
      rw [if_neg (by rw [ha];simp),List.find?_append,hf];simp [hs,hlen]
     ·have:((if (frT h i).any (fun p=>p.1 == h[i].name) then frT h i else frT h i++[(h[i].name,i)]).find? fun p=>p.1 == s)=none:=by
       split
       ·exact hf
       ·rw [List.find?_append,hf];simp [hs]
      rw [this];have hs':(h[i].name == s)=false:=by simpa using hs
      simp [hs']
theorem frT_all (h:List Cd)(s:Bytes):((frT h h.length).find? (fun p=>p.1 == s)).map (·.2)=findN h s:=by
 have:=frT_find h s h.length (Nat.le_refl _);rwa [List.take_length] at this
theorem frT_idx (l:List (Bytes×Nat))(s:Bytes):match (l.map (·.1)).findIdx? (· == s) with
  | some q=>∃ p,l[q]?=some p∧l.find? (fun p=>p.1 == s)=some p
  | none=>l.find? (fun p=>p.1 == s)=none:=by
 induction l with
 | nil=>rfl
 | cons a l ih =>
   simp only [List.map_cons,List.findIdx?_cons,List.find?_cons]
   by_cases h:(a.1 == s)=true
   ·simp [h]
   ·have h':(a.1 == s)=false:=by simpa using h
    simp only [h'];revert ih;cases (l.map (·.1)).findIdx? (· == s) with
    | none=>intro ih;simpa using ih
    | some q=>intro ih;simpa using ih
theorem frT_there (h:List Cd)(i:Nat)(s:Bytes):(((frT h i).map (·.1)).findIdx? (· == s)).isSome=(frT h i).any (fun p=>p.1 == s):=by
 rw [List.findIdx?_isSome,List.any_map];rfl
theorem frT_yes {h:List Cd}{i:Nat}(hi:i<h.length)(ha:(frT h i).any (fun p=>p.1 == h[i].name)=true):frT h (i+1)=frT h i:=by
 simp only [frT,List.getElem?_eq_getElem hi,ha,if_true]
theorem frT_no {h:List Cd}{i:Nat}(hi:i<h.length)(ha:(frT h i).any (fun p=>p.1 == h[i].name)=false):frT h (i+1)=frT h i++[(h[i].name,i)]:=by
 simp [frT,List.getElem?_eq_getElem hi,ha]
theorem findN_lt {h:List Cd}{s:Bytes}{i:Nat}(hf:findN h s=some i):∃ hl:i<h.length,h[i].name=s:=by
 obtain⟨h1,h2,_⟩:=List.findIdx?_eq_some_iff_getElem.mp hf;exact⟨h1,by simpa using h2⟩
theorem findI_lt (h:List Cd)(s:Bytes):findI h s<h.length:=by
 unfold findI;cases hf:findN h s with
 | none=>simp only;omega
 | some i=>obtain⟨hl,_⟩:=findN_lt hf;simp only;omega
theorem superI_lt (h:List Cd)(i:Nat):superI h i<h.length:=by
 unfold superI;cases h[i]? with
 | none=>simp only;omega
 | some c =>
   simp only;split
   ·omega
   ·exact findI_lt h c.super
theorem nodup_in {l m:List Nat}(h:l.Nodup)(hs:∀ x∈l,x∈m):l.length≤m.length:=by
 induction l generalizing m with
 | nil=>simp
 | cons a l ih =>
   rw [List.nodup_cons] at h;have ha:=hs a (by simp);have:=ih (m:=m.erase a) h.2 fun x hx=>by
    have hne:x≠a:=fun e=>h.1 (e▸hx)
    exact (List.mem_erase_of_ne hne).mpr (hs x (by simp [hx]))
   rw [List.length_erase_of_mem ha] at this;have hpos:=List.length_pos_of_mem ha;simp only [List.length_cons];omega
theorem nodup_lt {l:List Nat}{n:Nat}(h:l.Nodup)(hs:∀ x∈l,x<n):l.length≤n:=by
 have:=nodup_in (m:=List.range n) h fun x hx=>List.mem_range.2 (hs x hx)
 simpa using this
theorem chainF_mem (h:List Cd):∀ (n:Nat) (acc:List Nat) (i:Int),i<h.length→(∀ x∈acc,x<h.length)→∀ x∈(chainF h n acc i).1,x<h.length
 | 0,acc,i,_,ha=>by simpa [chainF] using ha
 | n+1,acc,i,hi,ha=>by
   simp only [chainF];split
   ·exact ha
   ·split
    ·exact ha
    ·refine chainF_mem h n _ _ (superI_lt h _) fun x hx=>?_
     rcases List.mem_append.1 hx with hx | hx
     ·exact ha x hx
     ·simp only [List.mem_singleton] at hx;subst hx;omega
theorem chainF_len (h:List Cd):∀ (n:Nat) (acc:List Nat) (i:Int),(chainF h n acc i).1.length≤acc.length+n
 | 0,acc,i=>by simp [chainF]
 | n+1,acc,i=>by
   simp only [chainF];split
   ·simp
   ·split
    ·simp
    ·have:=chainF_len h n (acc++[i.toNat]) (superI h i.toNat);simp only [List.length_append,List.length_cons,List.length_nil] at this;omega
theorem chainC_mem (h:List Cd){i:Int}(hi:i<h.length):∀ x∈(chainC h i).1,x<h.length:=chainF_mem h _ _ _ hi (by simp)
theorem chainC_len (h:List Cd)(i:Int):(chainC h i).1.length≤h.length+1:=by
 have:=chainF_len h (h.length+1) [] i;simpa [chainC] using this
end Lx
end
section
open Lx Ax Go.RowKit
def cvN (s:Bytes):List CV:=[.str s]
def cvG (g:Sg):List CV:=[.str g.name,.bool g.static,.lst (g.params.map cvN),.str g.result]
def cvD (c:Cd):List CV:=[.str c.name,.str c.super,.lst (c.fields.map cvF),.lst (c.methods.map cvG)]
def cvH (h:List Cd):CV:=.agg [.lst (h.map cvD)]
theorem cvN_len (s:Bytes):(cvN s).length=1:=rfl
theorem cvN_one (s:Bytes):(cvN s).all CV.one=true:=rfl
theorem cvG_len (g:Sg):(cvG g).length=4:=rfl
theorem cvG_one (g:Sg):(cvG g).all CV.one=true:=rfl
theorem cvD_len (c:Cd):(cvD c).length=4:=rfl
theorem cvD_one (c:Cd):(cvD c).all CV.one=true:=rfl
theorem puN (s:Bytes):puL (cvN s)=true:=rfl
theorem puG (g:Sg):puL (cvG g)=true:=by simp [cvG,puL,puV,puRm puN]
theorem puD (c:Cd):puL (cvD c)=true:=by simp [cvD,puL,puV,puRm puF,puRm puG]
theorem puH (h:List Cd):puV (cvH h)=true:=by simp [cvH,puL,puV,puRm puD]
theorem puLm {α:Type}{f:α→CV}(h:∀ a,puV (f a)=true)(l:List α):puL (l.map f)=true:=by
 induction l with
 | nil=>rfl
 | cons a l ih=>simp [puL,h a,ih]
/-! the table -/
def frN (h:List Cd)(i:Nat):List Bytes:=(frT h i).map (·.1)
def frV (h:List Cd)(i:Nat):List CV:=(frT h i).map fun p=>.int .i64 p.2
/-- The value of a table. -/
def cvTb (h:List Cd):CV:=.agg [.lst (h.map cvD),.fmp ((frN h h.length).map .str) (frV h h.length)]
theorem puTb (h:List Cd):puV (cvTb h)=true:=by
 have h1:puL ((frN h h.length).map CV.str)=true:=puLm (f:=CV.str) (fun _=>rfl) _;have h2:puL (frV h h.length)=true:=puLm (fun _=>rfl) _;simp [cvTb,puL,puV,puRm puD,h1,h2]
/-- What a look into the map of a table gives. -/
def lkV (h:List Cd)(s:Bytes):CV:=match findN h s with
 | some i=>.tup [.int .i64 i,.bool true]
 | none=>.tup [.int .i64 0,.bool false]
theorem fr_look (h:List Cd)(s:Bytes):(match (frN h h.length).findIdx? (· == s) with
  | some q=>((frV h h.length)[q]?).map fun v=>(.tup [v,.bool true]:CV)
  | none=>some (.tup [.int .i64 0,.bool false]))=some (lkV h s):=by
 have h1:=frT_all h s;have h2:=frT_idx (frT h h.length) s;unfold lkV frN frV;cases hq:((frT h h.length).map (·.1)).findIdx? (· == s) with
 | none =>
   rw [hq] at h2;simp only at h2;rw [h2] at h1;rw [← h1];rfl
 | some q =>
   rw [hq] at h2;obtain⟨p,a,b⟩:=h2;rw [b] at h1;rw [← h1];simp only [List.getElem?_map,a,Option.map_some]
theorem look_tab {P:Program}{H:Heap}{t kt et:TypeId}{ik ie:TI}{a c}{b}(ht:ti P t=some ⟨.map kt et,a,b,c⟩)(hk:ti P kt=some ik)(hs:ik.und=.string)(he:ti P et=some ie)(hz:ofV ie.zero=.int .i64 0)(h:List Cd)(s:Bytes) :
  lookA P H t (.fmp ((frN h h.length).map .str) (frV h h.length)) (.str s) true=some (lkV h s):=by
 rw [lookA_str ht hk hs he (ks:=frN h h.length) (vs:=frV h h.length) rfl s true,hz,← fr_look h s];rfl
end
section
open Ax
theorem ti_int:ti Tryd.prog 3=some ⟨.int .i64,1,.int .i64 0,8⟩:=by kernel_rfl
theorem ti_i64:ti Tryd.prog 2=some ⟨.int .i64,1,.int .i64 0,8⟩:=by kernel_rfl
theorem ti_str:ti Tryd.prog 9=some ⟨.string,1,.string ⟨#[]⟩,16⟩:=by kernel_rfl
theorem ti_bool:ti Tryd.prog 4=some ⟨.bool,1,.bool false,1⟩:=by kernel_rfl
theorem ti_Strs:ti Tryd.prog 64=some ⟨.slice 9,1,.slice none 0 0,24⟩:=by kernel_rfl
theorem ti_Ints:ti Tryd.prog 87=some ⟨.slice 3,1,.slice none 0 0,24⟩:=by kernel_rfl
theorem ti_Flds:ti Tryd.prog 31=some ⟨.slice 62,1,.slice none 0 0,24⟩:=by kernel_rfl
theorem ti_Fld:ti Tryd.prog 62=some ⟨.struct #[⟨ "Name",9,0,false, "", "",0⟩,⟨ "Type",9,1,false, "", "",16⟩],2,.agg #[.string ⟨#[]⟩,.string ⟨#[]⟩],32⟩:=by kernel_rfl
theorem ti_Cds:ti Tryd.prog 42=some ⟨.slice 50,1,.slice none 0 0,24⟩:=by kernel_rfl
theorem ti_Cd:ti Tryd.prog 50=some ⟨.struct #[⟨ "Name",9,0,false, "", "",0⟩,⟨ "Super",9,1,false, "", "",16⟩,⟨ "Fields",31,2,false, "", "",32⟩,⟨ "Methods",48,3,false, "", "",56⟩],4,.agg #[.string ⟨#[]⟩,.string ⟨#[]⟩,.slice none 0 0,.slice none 0 0],80⟩:=by kernel_rfl
theorem ti_Sgs:ti Tryd.prog 48=some ⟨.slice 66,1,.slice none 0 0,24⟩:=by kernel_rfl
theorem ti_Sg:ti Tryd.prog 66=some ⟨.struct #[⟨ "Name",9,0,false, "", "",0⟩,⟨ "Static",4,1,false, "", "",16⟩,⟨ "Params",64,2,false, "", "",24⟩,⟨ "Result",9,3,false, "", "",48⟩],4,.agg #[.string ⟨#[]⟩,.bool false,.slice none 0 0,.string ⟨#[]⟩],64⟩:=by kernel_rfl
theorem ti_Hi:ti Tryd.prog 44=some ⟨.struct #[⟨ "Classes",42,0,false, "", "",0⟩],1,.agg #[.slice none 0 0],24⟩:=by kernel_rfl
theorem ti_Tb:ti Tryd.prog 69=some ⟨.struct #[⟨ "classes",42,0,false, "", "dataflow/hier",0⟩,⟨ "first",67,1,false, "", "dataflow/hier",24⟩],2,.agg #[.slice none 0 0,.map none],32⟩:=by kernel_rfl
theorem ti_Msi:ti Tryd.prog 67=some ⟨.map 9 3,1,.map none,8⟩:=by kernel_rfl
theorem ti_Mib:ti Tryd.prog 106=some ⟨.map 3 4,1,.map none,8⟩:=by kernel_rfl
theorem ti_Chk:ti Tryd.prog 78=some ⟨.struct #[⟨ "h",44,0,false, "", "dataflow/typecheck",0⟩,⟨ "class",9,1,false, "", "dataflow/typecheck",24⟩,⟨ "result",9,2,false, "", "dataflow/typecheck",40⟩,⟨ "scope",31,3,false, "", "dataflow/typecheck",56⟩,⟨ "at",3,4,false, "", "dataflow/typecheck",80⟩],5,.agg #[.slice none 0 0,.string ⟨#[]⟩,.string ⟨#[]⟩,.slice none 0 0,.int .i64 0],88⟩:=by kernel_rfl
theorem ti_Flt:ti Tryd.prog 99=some ⟨.struct #[⟨ "e",27,0,false, "", "dataflow/typecheck",0⟩],1,.agg #[.int .i64 0],8⟩:=by kernel_rfl
theorem ti_Errno:ti Tryd.prog 27=some ⟨.int .i64,1,.int .i64 0,8⟩:=by kernel_rfl
theorem ti_Exs:ti Tryd.prog 53=some ⟨.slice 58,1,.slice none 0 0,24⟩:=by kernel_rfl
theorem ti_Ex:ti Tryd.prog 58=some ⟨.struct #[⟨ "Kind",3,0,false, "", "",0⟩,⟨ "N",2,1,false, "", "",8⟩,⟨ "Of",9,2,false, "", "",16⟩,⟨ "Name",9,3,false, "", "",32⟩,⟨ "Kids",53,4,false, "", "",48⟩],5,.agg #[.int .i64 0,.int .i64 0,.string ⟨#[]⟩,.string ⟨#[]⟩,.slice none 0 0],72⟩:=by kernel_rfl
theorem ti_Sts:ti Tryd.prog 35=some ⟨.slice 55,1,.slice none 0 0,24⟩:=by kernel_rfl
theorem ti_St:ti Tryd.prog 55=some ⟨.struct #[⟨ "Kind",3,0,false, "", "",0⟩,⟨ "Name",9,1,false, "", "",8⟩,⟨ "Type",9,2,false, "", "",24⟩,⟨ "Exprs",53,3,false, "", "",40⟩,⟨ "Body",35,4,false, "", "",64⟩,⟨ "Else",35,5,false, "", "",88⟩],6,.agg #[.int .i64 0,.string ⟨#[]⟩,.string ⟨#[]⟩,.slice none 0 0,.slice none 0 0,.slice none 0 0],112⟩:=by kernel_rfl
theorem ti_Mes:ti Tryd.prog 32=some ⟨.slice 37,1,.slice none 0 0,24⟩:=by kernel_rfl
theorem ti_Me:ti Tryd.prog 37=some ⟨.struct #[⟨ "Name",9,0,false, "", "",0⟩,⟨ "Static",4,1,false, "", "",16⟩,⟨ "Params",31,2,false, "", "",24⟩,⟨ "Result",9,3,false, "", "",48⟩,⟨ "Body",35,4,false, "", "",64⟩],5,.agg #[.string ⟨#[]⟩,.bool false,.slice none 0 0,.string ⟨#[]⟩,.slice none 0 0],88⟩:=by kernel_rfl
theorem ti_Cls:ti Tryd.prog 22=some ⟨.slice 34,1,.slice none 0 0,24⟩:=by kernel_rfl
theorem ti_Cl:ti Tryd.prog 34=some ⟨.struct #[⟨ "Name",9,0,false, "", "",0⟩,⟨ "Super",9,1,false, "", "",16⟩,⟨ "Fields",31,2,false, "", "",32⟩,⟨ "Methods",32,3,false, "", "",56⟩],4,.agg #[.string ⟨#[]⟩,.string ⟨#[]⟩,.slice none 0 0,.slice none 0 0],80⟩:=by kernel_rfl
theorem ti_So:ti Tryd.prog 24=some ⟨.struct #[⟨ "Classes",22,0,false, "", "",0⟩],1,.agg #[.slice none 0 0],24⟩:=by kernel_rfl
end
section
open Lx Ax Go.RowKit
/-- The package-level variables. -/
def tkG:Nat→CV:=fun g=>match Nat.beq g 0 with
 | true=>.rop (kwList.map .str)
 | false=>.any
theorem tkG_pu (g:Nat):puV (tkG g)=true:=by
 unfold tkG;cases Nat.beq g 0 with
 | true=>rfl
 | false=>rfl
end
section
open Ax Go.RowKit
/-- Functions with a meaning of their own: run. -/
noncomputable def tcSp (call:Call1):Call1:=fun f args h nx=>match Nat.beq f 25 with
 | true=>match args with
   | [_,.fn (.func g) a b]=>match enters Tryd.prog g with
     | true=>match call g (a++b) h nx with
       | some (.ret _,h',nx')=>some (.ret (.int .i64 0),h',nx')
       | some (.pan (.iface t (.agg [.int .i64 n])),h',nx')=>match Nat.beq t 99 with
         | true=>some (.ret (.int .i64 n),h',nx')
         | false=>none
       | _=>none
     | false=>none
   | _=>none
 | false=>none
theorem tcSp_ok {call:Call1}(hc:CallOk Tryd.prog tkG call):CallOk Tryd.prog tkG (tcSp call):=by
 intro f args h nx r h' nx' hr;unfold tcSp at hr;split at hr
 case h_2=>cases hr
 rename_i hf;have hf':=beq_eq hf;subst hf';split at hr
 case h_2=>cases hr
 rename_i c g a b;split at hr
 case h_2=>cases hr
 rename_i hen;split at hr
 ·rename_i v h1 nx1 hcl;cases hr;refine tc_run hen ((hc _ _ _ _ _ _ _ hcl).mono ?_);rintro r1 H1 n1 ⟨rfl,rfl,rfl⟩;exact⟨rfl,rfl,rfl⟩
 ·rename_i t n h1 nx1 hcl;split at hr
  case h_2=>cases hr
  rename_i ht;have ht':=beq_eq ht;subst ht';cases hr;refine tc_run hen ((hc _ _ _ _ _ _ _ hcl).mono ?_);rintro r1 H1 n1 ⟨rfl,rfl,rfl⟩;exact⟨n,rfl,rfl,rfl,rfl⟩
 ·cases hr
set_option maxRecDepth 1000000 in
theorem awake_run:yes (runF Tryd.prog tkG tcSp 1000 60 5 [] .lf 0)=true:=by kernel_rfl
theorem awake_ok:FCall Tryd.prog tkG 5 [] (fun r=>r=.ret (.bool true)) :=
 FCall.closed (runF_sound (P:=Tryd.prog) (G:=tkG) (lf:=1000) (fun c hc=>tcSp_ok hc) 60) tkG_pu awake_run
end
section
open Lx Ax Go.RowKit
theorem tk_cells {M:Mp}{w:World}{g:Nat}{ss:List Bytes}(hg:RG tkG M)(hz:∀ g o,M.fz g=some o→w.heap[g]?=some o)(h:tkG g=.rop (ss.map .str)):∃ t fr,w.heap[g]?=some (.cells (ss.map fun l=>Value.string ⟨l.toArray⟩).toArray t fr):=by
 obtain⟨h1,h3⟩:=hg g;rw [h] at h1 h3;obtain⟨arr,T,fr,h2,h3⟩:=h3;refine⟨T,fr,?_⟩;rw [hz _ _ h2];refine congrArg (fun a=>some (Obj.cells a T fr)) (Array.ext (by simpa using h3) fun i a b=>?_);cases h1 with
 | rop cs g o arr' T' fr' h' hl hr =>
   rw [h2] at h';cases h';have:=hr i (by simpa using b) (by simpa using a);simp only [List.getElem_map,Nat.zero_add] at this;generalize hv:arr[i]=v at this;cases this with
   | str l s hs =>
     simp [hv,← hs]
theorem tk_kw {M:Mp}{w:World}(hg:RG tkG M)(hz:∀ g o,M.fz g=some o→w.heap[g]?=some o):KwIs w:=tk_cells (ss:=kwList) hg hz rfl
theorem tk_ident (l:Bytes)(h:l.length≤maxLen):FCall1 Tryd.prog tkG 23 [.str l] (.bool (isIdent l)):=by
 refine FCall.one tkG_pu rfl rfl (FCall.ofOld fun M w vs hg hz hv=>?_);obtain⟨v0,vs,rfl,hv0,hv⟩:=hv.cons_inv;cases hv.nil_inv;cases hv0 with
 | str _ s hs =>
   refine (fm_ident0 s w (by rw [← len_list s,hs];exact h) (tk_kw hg hz)).mono ?_;rintro e w' ⟨rfl,rfl⟩;exact⟨Below.refl _ _,_,rfl,by rw [hs];exact .bool _⟩
end
end Go.Proofs.YtoookjadbhdfhaaDoor
