/-
  Plain Lean: a tree without faults, whose numbers are 64 bits wide, is well-formed.
-/
import Derived.Test.YtmlafcimjhnhhaaDoorJlJpAt
import Derived.Test.YtmlafcimjhnhhaaDoorJlJpBc
import Derived.Test.YtmlafcimjhnhhaaDoorJlTrodTree
import Derived.Test.YtmlafcimjhnhhaaDoorJlJpAu
import Derived.Test.YtmlafcimjhnhhaaDoorJlJpAy
set_option linter.unusedSectionVars false
set_option linter.unusedSimpArgs false
set_option linter.unnecessarySimpa false
set_option linter.unusedVariables false
set_option linter.unusedSimpArgs false
set_option linter.unusedVariables false
namespace Go.Proofs.YtmlafcimjhnhhaaDoor
section
open Lx
namespace Lx
/-- The numbers of an expression are 64 bits wide. -/
inductive NumB:Ex→Prop
 | mk (k n:Int) (o m:Bytes) (ks:List Ex) (h1:-9223372036854775808≤n) (h2:n<9223372036854775808) (h:∀ x∈ks,NumB x):NumB (.mk k n o m ks)
inductive NumS:St→Prop
 | mk (k:Int) (nm ty:Bytes) (es:List Ex) (b c:List St) (h:∀ x∈es,NumB x) (hb:∀ x∈b,NumS x) (hc:∀ x∈c,NumS x):NumS (.mk k nm ty es b c)
theorem first0 {α:Type}{f:α→Nat}{l:List α}(h:firstLim f l=0):∀ x∈l,f x=0:=by
 induction l with
 | nil=>intro x hx;cases hx
 | cons y l ih =>
   rw [firstLim] at h;split at h
   ·rename_i h1;exact absurd h h1
   ·rename_i h1;intro x hx;rcases List.mem_cons.1 hx with rfl | hx
    ·simpa using h1
    ·exact ih h x hx
theorem ownFault0 {k n:Int}{o m:Bytes}{len:Nat}(h:ownFault k n o m len=0):(1≤k∧k≤10)∧(k=6→1≤n∧n≤5)∧(k=1∨k=6∨n=0)∧(k=10∨o=[])∧(namedK k=true∨m=[])∧kidsOk k len=true∧(k=1→n≠-9223372036854775808)∧(k=10→isIdent o=true)∧(namedK k=true→isIdent m=true):=by
 unfold ownFault at h;split at h;· cases h
 rename_i h1;split at h;· cases h
 rename_i h2;split at h;· cases h
 rename_i h3;split at h;· cases h
 rename_i h4;refine⟨by omega,fun hk=>by omega,?_,?_,?_,?_,fun hk hn=>h3 ⟨hk,hn⟩,fun hk=>?_,fun hk=>?_⟩
 ·by_cases a:k=1;exact .inl a
  by_cases b:k=6;exact .inr (.inl b)
  by_cases c:n=0;exact .inr (.inr c)
  exact (h2 (.inl ⟨a,b,c⟩)).elim
 ·by_cases a:k=10;exact .inl a
  by_cases b:o=[];exact .inr b
  exact (h2 (.inr (.inl ⟨a,b⟩))).elim
 ·cases a:namedK k with
  | true=>exact .inl rfl
  | false =>
    by_cases b:m=[];exact .inr b
    exact (h2 (.inr (.inr (.inl ⟨a,b⟩)))).elim
 ·cases a:kidsOk k len with
  | true=>rfl
  | false=>exact (h2 (.inr (.inr (.inr a)))).elim
 ·cases a:isIdent o with
  | true=>rfl
  | false=>exact (h4 (.inl ⟨hk,a⟩)).elim
 ·cases a:isIdent m with
  | true=>rfl
  | false=>exact (h4 (.inr ⟨hk,a⟩)).elim
theorem len_one {α:Type}{l:List α}(h:l.length=1):∃ a,l=[a]:=by
 match l,h with
 | [a],_=>exact⟨a,rfl⟩
theorem len_two {α:Type}{l:List α}(h:l.length=2):∃ a b,l=[a,b]:=by
 match l,h with
 | [a,b],_=>exact⟨a,b,rfl⟩
theorem wfE_of:∀ {e:Ex},NumB e→exFault e=0→WfE e:=by
 intro e h
 induction h with
 | mk k n o m ks h1 h2 _ ih =>
   intro hf;rw [exFault] at hf;split at hf
   ·rename_i h0;exact absurd hf h0
   ·rename_i h0;rw [exsFault_first] at hf;have hk:=fun x hx=>ih x hx (first0 hf x hx)
    obtain⟨a1,a2,a3,a4,a5,a6,a7,a8,a9⟩:=ownFault0 (by simpa using h0);clear h0 hf ih;have:k=1∨k=2∨k=3∨k=4∨k=5∨k=6∨k=7∨k=8∨k=9∨k=10:=by omega
    rcases this with rfl | rfl | rfl | rfl | rfl | rfl | rfl | rfl | rfl | rfl <;> simp [namedK,kidsOk] at a3 a4 a5 a6 a7 a8 a9
    ·subst a4;subst a5;subst a6;exact .int n (by omega) h2
    ·subst a3;subst a4;subst a5;subst a6;exact .null
    ·subst a3;subst a4;subst a6;exact .var m a9
    ·subst a3;subst a4;subst a5;subst a6;exact .this
    ·subst a3;subst a4;subst a5;subst a6;exact .input
    ·obtain⟨x,y,rfl⟩:=len_two a6;subst a4;subst a5;exact .bin n (a2 rfl) (hk x (by simp)) (hk y (by simp))
    ·subst a3;subst a4;subst a6;exact .new m a9
    ·obtain⟨x,rfl⟩:=len_one a6;subst a3;subst a4;exact .field m a9 (hk x (by simp))
    ·cases ks with
     | nil=>simp at a6
     | cons x ks =>
       subst a3;subst a4;exact .call m a9 (hk x (by simp)) fun e he=>hk e (by simp [he])
    ·subst a3;exact .static o m a8 a9 hk
theorem typ_wf {t:Bytes}(h:isType t=true):WfT t:=by
 simp only [isType,Bool.or_eq_true,beq_iff_eq] at h;exact h
theorem stOwn0 {k:Int}{nm ty:Bytes}{ne nb nl:Nat}(h:stOwn k nm ty ne nb nl=0):(1≤k∧k≤9)∧(namedS k=true∨nm=[])∧(typedS k=true∨ty=[])∧(bodiedS k=true∨nb=0)∧((bodiedS k=true∧k≠5)∨nl=0)∧exprsOk k ne=true∧(namedS k=true→isIdent nm=true)∧(typedS k=true→isType ty=true):=by
 unfold stOwn at h;split at h;· cases h
 rename_i h1;split at h;· cases h
 rename_i h2;split at h;· cases h
 rename_i h3;split at h;· cases h
 rename_i h4;refine⟨by omega,?_,?_,?_,?_,?_,fun hk=>?_,fun hk=>?_⟩
 ·cases a:namedS k with
  | true=>exact .inl rfl
  | false=>by_cases b:nm=[];exact .inr b;exact (h2 (.inl ⟨a,b⟩)).elim
 ·cases a:typedS k with
  | true=>exact .inl rfl
  | false=>by_cases b:ty=[];exact .inr b;exact (h2 (.inr (.inl ⟨a,b⟩))).elim
 ·cases a:bodiedS k with
  | true=>exact .inl rfl
  | false=>by_cases b:nb=0;exact .inr b;exact (h2 (.inr (.inr (.inl ⟨a,by omega⟩)))).elim
 ·by_cases b:nl=0;exact .inr b
  cases a:bodiedS k with
  | false=>exact (h2 (.inr (.inr (.inr (.inl ⟨.inl a,by omega⟩))))).elim
  | true=>exact .inl ⟨rfl,fun hk=>h2 (.inr (.inr (.inr (.inl ⟨.inr hk,by omega⟩))))⟩
 ·cases a:exprsOk k ne with
  | true=>rfl
  | false=>exact (h2 (.inr (.inr (.inr (.inr a))))).elim
 ·cases a:isIdent nm with
  | true=>rfl
  | false=>exact (h3 ⟨hk,a⟩).elim
 ·cases a:isType ty with
  | true=>rfl
  | false=>exact (h4 ⟨hk,a⟩).elim
theorem wfS_of:∀ {s:St},NumS s→stFault s=0→WfS s:=by
 intro s h
 induction h with
 | mk k nm ty es b c he _ _ ihb ihc =>
   intro hf;rw [stFault] at hf;split at hf
   ·rename_i h0;exact absurd hf h0
   rename_i h0;split at hf
   ·rename_i h0;exact absurd hf h0
   rename_i h1;split at hf
   ·cases hf
   rename_i h2;split at hf
   ·rename_i h0;exact absurd hf h0
   rename_i h3;rw [stsFault_first] at hf h3;rw [exsFault_first] at h1;have kb:=fun x hx=>ihb x hx (first0 (by simpa using h3) x hx)
   have kc:=fun x hx=>ihc x hx (first0 hf x hx)
   have ke:=fun x hx=>wfE_of (he x hx) (first0 (f:=exFault) (l:=es) (by simpa using h1) x hx)
   obtain⟨a1,a2,a3,a4,a5,a6,a7,a8⟩:=stOwn0 (by simpa using h0);clear h0 h1 h3 hf ihb ihc he;have:k=1∨k=2∨k=3∨k=4∨k=5∨k=6∨k=7∨k=8∨k=9:=by omega
   rcases this with rfl | rfl | rfl | rfl | rfl | rfl | rfl | rfl | rfl <;> simp [namedS,typedS,bodiedS,exprsOk] at a2 a3 a4 a5 a6 a7 a8
   ·subst a4;subst a5;rcases es with _ | ⟨e,_ | ⟨f,es⟩⟩
    ·exact .var0 nm ty a7 (typ_wf a8)
    ·exact .var1 nm ty a7 (typ_wf a8) (ke e (by simp))
    ·simp at a6
   ·obtain⟨e,rfl⟩:=len_one a6;subst a3;subst a4;subst a5;exact .assign nm a7 (ke e (by simp))
   ·obtain⟨x,y,rfl⟩:=len_two a6;subst a3;subst a4;subst a5;exact .store nm a7 (ke x (by simp)) (ke y (by simp))
   ·obtain⟨e,rfl⟩:=len_one a6;subst a2;subst a3;exact .if (ke e (by simp)) kb kc
   ·obtain⟨e,rfl⟩:=len_one a6;subst a2;subst a3;subst a5;exact .while (ke e (by simp)) kb
   ·subst a6;exact .try nm ty a7 (typ_wf a8) kb kc
   ·obtain⟨e,rfl⟩:=len_one a6;subst a2;subst a3;subst a4;subst a5;exact .throw (ke e (by simp))
   ·subst a2;subst a3;subst a4;subst a5;rcases es with _ | ⟨e,_ | ⟨f,es⟩⟩
    ·exact .return0
    ·exact .return1 (ke e (by simp))
    ·simp at a6
   ·obtain⟨e,rfl⟩:=len_one a6;subst a2;subst a3;subst a4;subst a5;exact .call (ke e (by simp)) (by
     simp only [headKind] at h2
     by_cases x:e.kind=9
     ·exact .inl x
     ·by_cases y:e.kind=10
      ·exact .inr y
      ·simp [x,y] at h2)
theorem fldFault0 {f:Fld}(h:fldFault f=0):WfF f:=by
 unfold fldFault at h;split at h;· cases h
 rename_i h1;split at h;· cases h
 rename_i h2;exact⟨by simpa using h1,typ_wf (by simpa using h2)⟩
theorem wfM_of {m:Me}(hn:∀ s∈m.body,NumS s)(h:meFault m=0):WfM m:=by
 unfold meFault at h;split at h;· cases h
 rename_i h1;split at h
 ·rename_i h2;exact absurd h h2
 rename_i h2;split at h;· cases h
 rename_i h3;rw [stsFault_first] at h;refine⟨by simpa using h1,fun f hf=>fldFault0 (first0 (by simpa [fldsFault] using h2) f hf),?_,fun s hs=>wfS_of (hn s hs) (first0 h s hs)⟩
 by_cases a:m.result=[]
 ·exact .inl a
 ·cases b:isType m.result with
  | true=>exact .inr (typ_wf b)
  | false=>exact (h3 ⟨a,b⟩).elim
theorem wfC_of {c:Cl}(hn:∀ m∈c.methods,∀ s∈m.body,NumS s)(h:clFault c=0):WfC c:=by
 unfold clFault at h;split at h;· cases h
 rename_i h1;split at h
 ·rename_i h2;exact absurd h h2
 rename_i h2;refine⟨?_,?_,fun f hf=>fldFault0 (first0 (by simpa [fldsFault] using h2) f hf),fun m hm=>wfM_of (hn m hm) (first0 h m hm)⟩
 ·cases a:isIdent c.name with
  | true=>rfl
  | false=>exact (h1 (.inl a)).elim
 ·by_cases a:c.super=[]
  ·exact .inl a
  ·cases b:isIdent c.super with
   | true=>exact .inr rfl
   | false=>exact (h1 (.inr ⟨a,b⟩)).elim
end Lx
end
section
open Lx
open Go.RowKit (wrap64)
namespace Lx
theorem firstLim_all {α:Type}{f:α→Nat}{l:List α}(h:∀ x∈l,f x=0):firstLim f l=0:=firstLim_zero f l fun i hi=>h _ (List.getElem_mem hi)
/-! depths and numbers that an int holds -/
theorem w64_id {n:Int}(h:-9223372036854775808≤n∧n≤9223372036854775807):wrap64 n=n:=by unfold wrap64;omega
mutual
theorem deep_eq:∀ e:Ex,exDepth e≤9223372036854775807→exDeep e=exDepth e
 | .mk k n o m ks,h=>by
   rw [exDepth] at h;rw [exDeep,exDepth,deeps_eq ks (by omega),w64_id (by omega)];omega
theorem deeps_eq:∀ l:List Ex,exsDepth l≤9223372036854775807→exsDeep l=exsDepth l
 | [],_=>by rw [exsDeep,exsDepth];rfl
 | e::l,h=>by
   rw [exsDepth] at h;rw [exsDeep,exsDepth,deep_eq e (by omega),deeps_eq l (by omega)];omega
end
mutual
theorem sdeep_eq:∀ s:St,stDepth s≤9223372036854775807→stDeep s=stDepth s
 | .mk k nm ty es b el,h=>by
   rw [stDepth] at h;rw [stDeep,stDepth,deeps_eq es (by omega),sdeeps_eq b (by omega),sdeeps_eq el (by omega),w64_id (by omega)];omega
theorem sdeeps_eq:∀ l:List St,stsDepth l≤9223372036854775807→stsDeep l=stsDepth l
 | [],_=>by rw [stsDeep,stsDepth];rfl
 | e::l,h=>by
   rw [stsDepth] at h;rw [stsDeep,stsDepth,sdeep_eq e (by omega),sdeeps_eq l (by omega)];omega
end
theorem meLim_nat {m:Me}(h1:stsCount m.body≤9223372036854775807)(h2:stsDepth m.body≤9223372036854775807):meLim m=methodLim m:=by
 unfold meLim methodLim;rw [w64_id (by omega),sdeeps_eq _ h2];have e1:(6<m.params.length∨200<(stsCount m.body:Int))↔(6<m.params.length∨200<stsCount m.body):=by omega
 have e2:(32<(stsDepth m.body:Int))↔32<stsDepth m.body:=by omega
 simp only [e1,e2]
end Lx
/-! bounds of what is read -/
theorem numB_of:∀ {d:Nat} {e:Ex},ExB d e→NumB e
 | 0,_,h=>h.elim
 | d+1,.mk k n o m ks,h=>.mk k n o m ks h.2.1.1 (Int.lt_of_le_of_lt h.2.1.2 (by decide)) fun x hx=>numB_of (h.2.2.2.2 x hx)
theorem numS_of:∀ {d:Nat} {s:St},StB d s→NumS s
 | 0,_,h=>h.elim
 | d+1,.mk k nm ty es b el,h=>.mk k nm ty es b el (fun x hx=>numB_of (h.2.2.2.1 x hx)) (fun x hx=>numS_of (h.2.2.2.2.1 x hx)) fun x hx=>numS_of (h.2.2.2.2.2 x hx)
end
section
open Lx
namespace Lx
theorem ident_len {x:Bytes}(h:isIdent x=true):x.length≤32:=by
 cases x with
 | nil=>simp
 | cons c t =>
   simp only [isIdent,Bool.and_eq_true,decide_eq_true_eq] at h;simp only [List.length_cons];omega
end Lx
end
section
open Lx
namespace Lx
mutual
def exP:Ex→List Bytes
 | .mk k n o m ks =>
   if k=1 then [numText n] else if k=2 then [[110,117,108,108]] else if k=3 then [m] else if k=4 then [[116,104,105,115]] else if k=5 then [[105,110,112,117,116,40,41]]
   else if k=7 then [[110,101,119,32],m,[40,41]]
   else if k=8 then opeP ks 0 4++[[46],m]
   else if k=9 then opeP ks 0 4++[[46],m]++argP ks 1
   else if k=10 then [o,[58,58],m]++argP ks 0
   else opeP ks 0 (max (levelOf k n) 2)++[[32],opText n,[32]]++opeP ks 1 (levelOf k n+1)
/-- The pieces of kid i at a place that requires a level. -/
def opeP:List Ex→Nat→Int→List Bytes
 | [],_,_=>[]
 | e::_,0,r=>if levelOf e.kind e.n<r then [[40]]++exP e++[[41]] else exP e
 | _::l,i+1,r=>opeP l i r
def argP:List Ex→Nat→List Bytes
 | l,0=>[[40]]++sepP l++[[41]]
 | [],_=>[[40],[41]]
 | _::l,i+1=>argP l i
def sepP:List Ex→List Bytes
 | []=>[]
 | [e]=>exP e
 | e::l=>exP e++[[44,32]]++sepP l
end
mutual
theorem exP_text:∀ e:Ex,(exP e).flatten=exText e
 | .mk k n o m ks=>by
   rw [exP,exText];have a:=opeP_text ks;have b:=argP_text ks;split;· simp
   split;· simp
   split;· simp
   split;· simp
   split;· simp
   split;· simp
   split;· simp [a]
   split;· simp [a,b]
   split;· simp [b]
   simp [a]
theorem opeP_text:∀ (l:List Ex) (i:Nat) (r:Int),(opeP l i r).flatten=withinAt l i r
 | [],_,_=>by rw [opeP,withinAt];rfl
 | e::l,0,r=>by rw [opeP,withinAt];split <;> simp [exP_text e]
 | e::l,i+1,r=>by rw [opeP,withinAt];exact opeP_text l i r
theorem argP_text:∀ (l:List Ex) (i:Nat),(argP l i).flatten=argsFrom l i
 | l,0=>by rw [argP,argsFrom];simp [sepP_text l]
 | [],i+1=>by rw [argP,argsFrom] <;> simp
 | _::l,i+1=>by rw [argP,argsFrom];exact argP_text l i
theorem sepP_text:∀ l:List Ex,(sepP l).flatten=sepText l
 | []=>by rw [sepP,sepText];rfl
 | [e]=>by rw [sepP,sepText];exact exP_text e
 | e::f::l=>by rw [sepP,sepText] <;> simp [exP_text e,sepP_text (f::l)]
end
/-- Pieces that are not long. -/
def Short (l:List Bytes):Prop:=∀ s∈l,s.length≤1000
theorem Short.app {a b:List Bytes}(h:Short a)(h2:Short b):Short (a++b):=fun s hs=>by
 rcases List.mem_append.1 hs with hs | hs
 ·exact h s hs
 ·exact h2 s hs
theorem Short.cons {a:Bytes}{b:List Bytes}(h:a.length≤1000)(h2:Short b):Short (a::b):=fun s hs=>by
 rcases List.mem_cons.1 hs with rfl | hs
 ·exact h
 ·exact h2 s hs
theorem Short.nil:Short []:=fun s hs=>by cases hs
end Lx
end
section
open Lx Ax Go.RowKit
attribute [local simp] stepS Ax.stepT Dl.on qstep astep estep rd putE over argE ofV ofS loadA pickCells isAggD faddA fieldA partA iaddA idxA sliA bnd binA intA strA unA convA lenA mapOf lookA findK keyD scalD storeA mupA srcA srcD upd drp Dl.hp Dl.nx CV.cs CV.one buildA placesA fillA zrep tasA ifaceD eqA eqFs eqIs range2 copyA nbeq nble nblt decEq beqI bneI beqS bneS isED Int.ofNat_inj List.getElem?_map List.getElem?_eq_getElem Option.map_some ti_int ti_i64 ti_str ti_bool ti_u8 ti_Strs ti_Bld ti_Prn ti_Bys ti_Exs ti_Ex gd gdB callA resA op1
attribute [local simp] one1 cvE_eq exk exn exo exm exks drR drp nu1 nu2 nu3 nu4 nu5 nu6 nu7 nu8 nu9 nu10 nu11 nu12 nu13 bl_len
set_option maxRecDepth 10000 in
set_option maxHeartbeats 4000000 in
theorem fm_level (e:Ex)(hw:WfE e):FCall1 Tryd.prog fmG 65 [.agg (cvE e)] (.int .i64 (levelOf e.kind e.n)):=by
 refine FCall.one fmG_pu (by simp only [puL,puV,puE];rfl) rfl ?_;refine FCall.ofBody Tryd.func65 rfl rfl fun nx=>?_
 cases hw with
 | @bin op h a b ha hb =>
   have:op=1∨op=2∨op=3∨op=4∨op=5:=by omega
   clear h;rcases this with rfl | rfl | rfl | rfl | rfl
   all_goals
    refine gV ?_
    (refine⟨_,(by simp [*];rfl),?_⟩;(try simp only [packA]))
    rfl
 | int n h1 h2=>refine gV ?_;(refine⟨_,(by simp [*];rfl),?_⟩;(try simp only [packA]));rfl
 | null=>refine gV ?_;(refine⟨_,(by simp [*];rfl),?_⟩;(try simp only [packA]));rfl
 | var x hx=>refine gV ?_;(refine⟨_,(by simp [*];rfl),?_⟩;(try simp only [packA]));rfl
 | this=>refine gV ?_;(refine⟨_,(by simp [*];rfl),?_⟩;(try simp only [packA]));rfl
 | input=>refine gV ?_;(refine⟨_,(by simp [*];rfl),?_⟩;(try simp only [packA]));rfl
 | new x hx=>refine gV ?_;(refine⟨_,(by simp [*];rfl),?_⟩;(try simp only [packA]));rfl
 | field m hm hk=>refine gV ?_;(refine⟨_,(by simp [*];rfl),?_⟩;(try simp only [packA]));rfl
 | call m hm hk he=>refine gV ?_;(refine⟨_,(by simp [*];rfl),?_⟩;(try simp only [packA]));rfl
 | static o m ho hm he=>refine gV ?_;(refine⟨_,(by simp [*];rfl),?_⟩;(try simp only [packA]));rfl
theorem short1 {s:Bytes}(h:s.length≤1000:=by decide):Short [s]:=Short.cons h Short.nil
set_option maxRecDepth 10000 in
set_option maxHeartbeats 4000000 in
theorem fm_operand0 (ce:List CV)(k n:Int)(o m:Bytes)(ks:List (List CV))(hce:ce=[.int .i64 k,.int .i64 n,.str o,.str m,.lst ks])(lv r:Int)(ps:List Bytes)(hl:FCall1 Tryd.prog fmG 65 [.agg ce] (.int .i64 lv))(hE:PC 40 [.agg ce] ps)(hs:Short ps):PC 66 [.agg ce,.int .i64 r] (if lv<r then [[40]]++ps++[[41]] else ps):=by
 subst hce;intro b c H nx T hT hp;refine ACall.of_body Tryd.func66 rfl ?_;obtain⟨B,hB⟩:∃ B,B=CB.cells [.int .i64 k,.int .i64 n,.str o,.str m,.lst ks]:=⟨_,rfl⟩;have p0:=hp.at (n':=nx+1) B (Nat.le_refl _) (by omega);have o0:=OwnB.newAt hp B (Nat.le_refl _) (show nx<nx+1 by omega);have f0:=(Pf.refl b c H nx).at B (Nat.le_refl _) (show nx<nx+1 by omega);have t1:=put_len hT (short1 (s:=[40]));have t2:=put_len t1 hs
 by_cases hb:lv<r
 ·rw [if_pos hb,put_app,put_app];have hb':¬ r≤lv:=by omega
  clear hb;subst hB;refine gV ?_
  (first | refine AOpl.call1 rfl (by first | rfl | (simp [*];done)) (by simp [*]) (by kernel_rfl) (hl) ?_ | refine ASl.callg (by first | rfl | (simp [*];done)) (by simp [*]) (by kernel_rfl) (hl) ?_)
  refine gV ?_;refine AOpl.put [[40]] (p0.at _ (Nat.le_refl _) (by omega)) (OwnB.newAt p0 _ (Nat.le_refl _) (by omega)) hT short1 ?_;intro c1 H1 n1 p1 f1;have bx:=(o0.at2 (.cells [.str [40]]) (Nat.le_refl _) (show nx+1<nx+1+1 by omega)).call f1;have f2:=(f0.at (.cells [.str [40]]) (Nat.le_refl _) (show nx+1<nx+1+1 by omega)).trans f1;have hx1:=bx.at';clear f1;refine gV ?_;refine AOpl.callP (hE b c1 _ _ _ t1 p1) ?_;intro c2 H2 n2 p2 f3;refine gV ?_;refine AOpl.put [[41]] (p2.at _ (Nat.le_refl _) (by omega)) (OwnB.newAt p2 _ (Nat.le_refl _) (by omega)) t2 short1 ?_;intro c3 H3 n3 p3 f4;refine gV ?_
  (refine⟨_,(by simp [*];rfl),?_⟩;(try simp only [packA]))
  exact⟨rfl,c3,p3,(f2.trans f3).trans ((Pf.refl _ _ _ _).at _ (Nat.le_refl _) (by omega) |>.trans f4)⟩
 ·rw [if_neg hb];have hb':r≤lv:=by omega
  have hb2:lv ≥ r:=by omega
  clear hb;subst hB;refine gV ?_
  (first | refine AOpl.call1 rfl (by first | rfl | (simp [*];done)) (by simp [*]) (by kernel_rfl) (hl) ?_ | refine ASl.callg (by first | rfl | (simp [*];done)) (by simp [*]) (by kernel_rfl) (hl) ?_)
  refine gV ?_;refine AOpl.callP (hE b c _ _ _ hT p0) ?_;intro c1 H1 n1 p1 f1;refine gV ?_
  (refine⟨_,(by simp [*];rfl),?_⟩;(try simp only [packA]))
  exact⟨rfl,c1,p1,f0.trans f1⟩
/-- The pieces of an operand. -/
def wthP (e:Ex)(r:Int):List Bytes:=if levelOf e.kind e.n<r then [[40]]++exP e++[[41]] else exP e
theorem fm_operand (e:Ex)(r:Int)(hw:WfE e)(hE:PC 40 [.agg (cvE e)] (exP e))(hs:Short (exP e)):PC 66 [.agg (cvE e),.int .i64 r] (wthP e r) :=
 fm_operand0 _ _ _ _ _ _ (cvE_eq e) _ r _ (fm_level e hw) hE hs
end
section
open Lx Ax Go.RowKit
attribute [local simp] stepS Ax.stepT Dl.on qstep astep estep rd putE over argE ofV ofS loadA pickCells isAggD faddA fieldA partA iaddA idxA sliA bnd binA intA strA unA convA lenA mapOf lookA findK keyD scalD storeA mupA srcA srcD upd drp Dl.hp Dl.nx CV.cs CV.one buildA placesA fillA zrep tasA ifaceD eqA eqFs eqIs range2 copyA nbeq nble nblt decEq beqI bneI beqS bneS isED Int.ofNat_inj List.getElem?_map List.getElem?_eq_getElem Option.map_some ti_int ti_i64 ti_str ti_bool ti_u8 ti_Strs ti_Bld ti_Prn ti_Bys ti_Exs ti_Ex gd gdB callA resA op1
attribute [local simp] one1 cvE_eq exk exn exo exm exks drR drp nu1 nu2 nu3 nu4 nu5 nu6 nu7 nu8 nu9 nu10 nu11 nu12 nu13 bl_len
theorem wrp1:IntKind.i64.wrap 1=1:=by decide
attribute [local simp] upd_upd wrp1
namespace Lx
theorem Short.left {a b:List Bytes}(h:Short (a++b)):Short a:=fun s hs=>h s (List.mem_append.2 (.inl hs))
theorem sepP_eq:∀ (e:Ex) (l:List Ex),sepP (e::l)=exP e++l.flatMap fun f=>[[44,32]]++exP f
 | e,[]=>by simp [sepP]
 | e,f::l=>by rw [sepP,sepP_eq f l] <;> simp
def sepT (es:List Ex)(i:Nat):List Bytes:=if i=0 then sepP es else (es.drop i).flatMap fun f=>[[44,32]]++exP f
theorem sepT_step {es:List Ex}{i:Nat}(h:i<es.length):sepT es i=(if i=0 then [] else [[44,32]])++exP es[i]++sepT es (i+1):=by
 unfold sepT;rw [if_neg (by omega:¬ i+1=0)];split
 ·rename_i h0;subst h0;cases es with
  | nil=>simp at h
  | cons e l=>rw [sepP_eq];simp
 ·rw [List.drop_eq_getElem_cons h,List.flatMap_cons]
  try simp
theorem sepT_end {es:List Ex}{i:Nat}(h:¬ i<es.length):sepT es i=[]:=by
 unfold sepT;split
 ·rename_i h0;subst h0;cases es with
  | nil=>rw [sepP]
  | cons e l=>simp at h
 ·rw [List.drop_eq_nil_of_le (by omega)];rfl
theorem short_sep {es:List Ex}(h:∀ e∈es,Short (exP e)):Short (sepP es):=by
 cases es with
 | nil=>rw [sepP];exact Short.nil
 | cons e l =>
   rw [sepP_eq];refine (h e List.mem_cons_self).app fun s hs=>?_
   obtain⟨f,hf,hs⟩:=List.mem_flatMap.1 hs;exact (short1 (s:=[44,32])).app (h f (List.mem_cons_of_mem _ hf)) s hs
end Lx
set_option maxRecDepth 10000 in
set_option maxHeartbeats 8000000 in
theorem fm_args (es:List Ex)(hn:es.length≤9223372036854775807)(hE:∀ e∈es,PC 40 [.agg (cvE e)] (exP e))(hs:∀ e∈es,Short (exP e)):PC 67 [.lst (es.map cvE)] (argP es 0):=by
 intro b c H nx T hT hp;have hss:=short_sep hs;rw [argP,put_app,put_app];have t1:=put_len hT (short1 (s:=[40]));have t2:=put_len t1 hss;have hR0:sepP es=[]++sepT es 0:=by simp [sepT]
 refine ACall.of_body Tryd.func67 rfl ?_;refine gV ?_;refine AOpl.put [[40]] (hp.at _ (Nat.le_refl _) (by omega)) (OwnB.newAt hp _ (Nat.le_refl _) (by omega)) hT short1 ?_;intro c0 H0 n0 p0 f0;have f00:=((Pf.refl b c H nx).at (.cells [.str [40]]) (Nat.le_refl _) (Nat.lt_succ_self _)).trans f0;obtain⟨T1,hT1⟩:∃ T1,T1=put T [[40]]:=⟨_,rfl⟩;rw [← hT1] at p0 t1 t2 ⊢;obtain⟨R,hR⟩:∃ R,R=sepP es:=⟨_,rfl⟩;rw [← hR] at hR0 hss t2 ⊢;clear hT1 hR f0 hp hT;refine gV ?_;refine AWp.countO es.length [4,5,13] 14 (fun i v H1 nx1=>v 13=.int .i64 i∧∃ pre c',R=pre++sepT es i∧PrAt b c' H1 nx1 (put T1 pre)∧Pf b c H nx c' H1 nx1) ⟨by simp [putE,over],[],c0,hR0,p0,f00⟩ ?_;clear hR0 p0 f00;rintro i v H1 nx1 hi hn1 ⟨h13,pre,c1,hR,p1,f1⟩
 by_cases hb:i<es.length
 ·have hwi:=up1 hb (by omega);rw [sepT_step hb] at hR;have hc:=hE es[i] (List.getElem_mem hb);have he:=hs es[i] (List.getElem_mem hb);rw [cvE_eq] at hc;clear hn1 hE hs;have hps:Short pre:=Short.left (hR▸hss);have t3:=put_len t1 hps;obtain⟨B,hB⟩:∃ B,B=CB.cells [.int .i64 es[i].kind,.int .i64 es[i].n,.str es[i].of,.str es[i].name,.lst (es[i].kids.map cvE)]:=⟨_,rfl⟩;have p2:=p1.at (n':=nx1+1) B (Nat.le_refl _) (by omega);have o2:=OwnB.newAt p1 B (Nat.le_refl _) (show nx1<nx1+1 by omega);have f2:=f1.at B (Nat.le_refl _) (show nx1<nx1+1 by omega);subst hB;clear f1 p1
  by_cases h0:i=0
  ·rw [if_pos h0,List.nil_append,← List.append_assoc] at hR;subst h0;refine gV ?_;refine AOpl.callP (hc b c1 _ _ _ t3 p2) ?_;intro c3 H3 n3 p3 f3;refine gV ?_;exact⟨by ((repeat (first | exact Keeps.base _ _ _ _ | (with_reducible exact Keeps.refl _ _ _) | (refine Keeps.put rfl ?_) | (refine Keeps.over' rfl rfl ?_)))),hb,by simp [putE,over],pre++exP es[0],c3,hR,by rw [put_app];exact p3,f2.trans f3⟩
  ·rw [if_neg h0] at hR;have h0':(0:Int)<(i:Int):=by omega
   have h0'':0<i:=by omega
   have t4:=put_len t3 (short1 (s:=[44,32]));refine gV ?_;refine AOpl.put [[44,32]] (p2.at _ (Nat.le_refl _) (by omega)) (OwnB.newAt p2 _ (Nat.le_refl _) (by omega)) t3 short1 ?_;intro c3 H3 n3 p3 f3;have bx:=(o2.at2 (.cells [.str [44,32]]) (Nat.le_refl _) (show nx1+1<nx1+1+1 by omega)).call f3;have f4:=(f2.at (.cells [.str [44,32]]) (Nat.le_refl _) (show nx1+1<nx1+1+1 by omega)).trans f3;have hx1:=bx.at';clear f3;refine gV ?_;refine AOpl.callP (hc b c3 _ _ _ t4 p3) ?_;intro c5 H5 n5 p5 f5;refine gV ?_;exact⟨by ((repeat (first | exact Keeps.base _ _ _ _ | (with_reducible exact Keeps.refl _ _ _) | (refine Keeps.put rfl ?_) | (refine Keeps.over' rfl rfl ?_)))),hb,by simp [putE,over],pre++[[44,32]]++exP es[i],c5,by rw [hR];simp,by rw [put_app,put_app];exact p5,f4.trans f5⟩
 ·rw [sepT_end hb,List.append_nil] at hR;subst hR;clear hn1 hE hs;refine gV ?_;refine AOpl.put [[41]] (p1.at _ (Nat.le_refl _) (by omega)) (OwnB.newAt p1 _ (Nat.le_refl _) (by omega)) t2 short1 ?_;intro c3 H3 n3 p3 f3;refine gV ?_
  (refine⟨_,(by simp [*];rfl),?_⟩;(try simp only [packA]))
  exact⟨rfl,c3,p3,(f1.at _ (Nat.le_refl _) (Nat.lt_succ_self _)).trans f3⟩
end
end Go.Proofs.YtmlafcimjhnhhaaDoor
