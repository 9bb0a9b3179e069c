/-
  Plain Lean: the table of a hierarchy, and chains of classes.
-/
import Derived.Test.YtoookjadbhdfhaaGreatDoorUJpAr
import Derived.Test.YtoookjadbhdfhaaGreatDoorUJpAq
import Derived.Test.YtoookjadbhdfhaaGreatDoorUJpAo
import Derived.Test.YtoookjadbhdfhaaGreatDoorUJpAl
import Derived.Lib.ItoaNum
import Derived.Test.YtoookjadbhdfhaaGreatDoorUOldAx
import Derived.Test.YtoookjadbhdfhaaGreatDoorUJpAh
import Derived.Lib.ItoaLen
import Derived.Test.YtoookjadbhdfhaaGreatDoorShelf
import Derived.Test.YtoookjadbhdfhaaGreatDoorUJpAg
set_option linter.unusedSectionVars false
set_option linter.unusedSimpArgs false
set_option linter.unnecessarySimpa false
set_option linter.unusedVariables false
set_option linter.unusedSimpArgs false
set_option linter.unusedVariables false
namespace Go.Proofs.YtoookjadbhdfhaaGreatDoor
section
open Lx
namespace Lx
/-- The names of the first classes and their indices, as the table of a hierarchy collects them. -/
def frT (h:List Cd):Nat→List (Bytes×Nat)
 | 0=>[]
 | i+1=>match h[i]? with
   | some c=>if (frT h i).any (fun p=>p.1 == c.name) then frT h i else frT h i++[(c.name,i)]
   | none=>frT h i
theorem frT_find (h:List Cd)(s:Bytes):∀ i,i≤h.length→((frT h i).find? (fun p=>p.1 == s)).map (·.2)=findN (h.take i) s
 | 0,_=>by simp [frT,findN]
 | i+1,hi=>by
   have hl:i<h.length:=by omega
   have ih:=frT_find h s i (by omega);have e:h.take (i+1)=h.take i++[h[i]]:=by simp [List.take_append_getElem]
   have hlen:(h.take i).length=i:=by simp;omega
   simp only [frT,List.getElem?_eq_getElem hl];rw [e];unfold findN at ih ⊢;rw [List.findIdx?_append,← ih];cases hf:(frT h i).find? (fun p=>p.1 == s) with
   | some p =>
     have:((if (frT h i).any (fun p=>p.1 == h[i].name) then frT h i else frT h i++[(h[i].name,i)]).find? fun p=>p.1 == s)=some p:=by
      split
      ·exact hf
      ·rw [List.find?_append,hf];rfl
     rw [this];rfl
   | none =>
     by_cases hs:h[i].name=s
     ·have ha:(frT h i).any (fun p=>p.1 == h[i].name)=false:=by
       rw [List.any_eq_false];intro p hp;rw [List.find?_eq_none] at hf;rw [hs];exact hf p hp
      rw [if_neg (by rw [ha];simp),List.find?_append,hf];simp [hs,hlen]
     ·have:((if (frT h i).any (fun p=>p.1 == h[i].name) then frT h i else frT h i++[(h[i].name,i)]).find? fun p=>p.1 == s)=none:=by
       split
       ·exact hf
       ·rw [List.find?_append,hf];simp [hs]
      rw [this];have hs':(h[i].name == s)=false:=by simpa using hs
      simp [hs']
theorem frT_all (h:List Cd)(s:Bytes):((frT h h.length).find? (fun p=>p.1 == s)).map (·.2)=findN h s:=by
 have:=frT_find h s h.length (Nat.le_refl _);rwa [List.take_length] at this
theorem frT_idx (l:List (Bytes×Nat))(s:Bytes):match (l.map (·.1)).findIdx? (· == s) with
  | some q=>∃ p,l[q]?=some p∧l.find? (fun p=>p.1 == s)=some p
  | none=>l.find? (fun p=>p.1 == s)=none:=by
 induction l with
 | nil=>rfl
 | cons a l ih =>
   simp only [List.map_cons,List.findIdx?_cons,List.find?_cons]
   by_cases h:(a.1 == s)=true
   ·simp [h]
   ·have h':(a.1 == s)=false:=by simpa using h
    simp only [h'];revert ih;cases (l.map (·.1)).findIdx? (· == s) with
    | none=>intro ih;simpa using ih
    | some q=>intro ih;simpa using ih
theorem frT_there (h:List Cd)(i:Nat)(s:Bytes):(((frT h i).map (·.1)).findIdx? (· == s)).isSome=(frT h i).any (fun p=>p.1 == s):=by
 rw [List.findIdx?_isSome,List.any_map];rfl
theorem frT_yes {h:List Cd}{i:Nat}(hi:i<h.length)(ha:(frT h i).any (fun p=>p.1 == h[i].name)=true):frT h (i+1)=frT h i:=by
 simp only [frT,List.getElem?_eq_getElem hi,ha,if_true]
theorem frT_no {h:List Cd}{i:Nat}(hi:i<h.length)(ha:(frT h i).any (fun p=>p.1 == h[i].name)=false):frT h (i+1)=frT h i++[(h[i].name,i)]:=by
 simp [frT,List.getElem?_eq_getElem hi,ha]
theorem findN_lt {h:List Cd}{s:Bytes}{i:Nat}(hf:findN h s=some i):∃ hl:i<h.length,h[i].name=s:=by
 obtain⟨h1,h2,_⟩:=List.findIdx?_eq_some_iff_getElem.mp hf;exact⟨h1,by simpa using h2⟩
theorem findI_lt (h:List Cd)(s:Bytes):findI h s<h.length:=by
 unfold findI;cases hf:findN h s with
 | none=>simp only;omega
 | some i=>obtain⟨hl,_⟩:=findN_lt hf;simp only;omega
theorem superI_lt (h:List Cd)(i:Nat):superI h i<h.length:=by
 unfold superI;cases h[i]? with
 | none=>simp only;omega
 | some c =>
   simp only;split
   ·omega
   ·exact findI_lt h c.super
theorem nodup_in {l m:List Nat}(h:l.Nodup)(hs:∀ x∈l,x∈m):l.length≤m.length:=by
 induction l generalizing m with
 | nil=>simp
 | cons a l ih =>
   rw [List.nodup_cons] at h;have ha:=hs a (by simp);have:=ih (m:=m.erase a) h.2 fun x hx=>by
    have hne:x≠a:=fun e=>h.1 (e▸hx)
    exact (List.mem_erase_of_ne hne).mpr (hs x (by simp [hx]))
   rw [List.length_erase_of_mem ha] at this;have hpos:=List.length_pos_of_mem ha;simp only [List.length_cons];omega
theorem nodup_lt {l:List Nat}{n:Nat}(h:l.Nodup)(hs:∀ x∈l,x<n):l.length≤n:=by
 have:=nodup_in (m:=List.range n) h fun x hx=>List.mem_range.2 (hs x hx)
 simpa using this
theorem chainF_mem (h:List Cd):∀ (n:Nat) (acc:List Nat) (i:Int),i<h.length→(∀ x∈acc,x<h.length)→∀ x∈(chainF h n acc i).1,x<h.length
 | 0,acc,i,_,ha=>by simpa [chainF] using ha
 | n+1,acc,i,hi,ha=>by
   simp only [chainF];split
   ·exact ha
   ·split
    ·exact ha
    ·refine chainF_mem h n _ _ (superI_lt h _) fun x hx=>?_
     rcases List.mem_append.1 hx with hx | hx
     ·exact ha x hx
     ·simp only [List.mem_singleton] at hx;subst hx;omega
theorem chainF_len (h:List Cd):∀ (n:Nat) (acc:List Nat) (i:Int),(chainF h n acc i).1.length≤acc.length+n
 | 0,acc,i=>by simp [chainF]
 | n+1,acc,i=>by
   simp only [chainF];split
   ·simp
   ·split
    ·simp
    ·have:=chainF_len h n (acc++[i.toNat]) (superI h i.toNat);simp only [List.length_append,List.length_cons,List.length_nil] at this;omega
theorem chainC_mem (h:List Cd){i:Int}(hi:i<h.length):∀ x∈(chainC h i).1,x<h.length:=chainF_mem h _ _ _ hi (by simp)
theorem chainC_len (h:List Cd)(i:Int):(chainC h i).1.length≤h.length+1:=by
 have:=chainF_len h (h.length+1) [] i;simpa [chainC] using this
end Lx
end
section
open Lx Ax Go.RowKit
def cvN (s:Bytes):List CV:=[.str s]
def cvI (i:Int):List CV:=[.int .i64 i]
def cvG (g:Sg):List CV:=[.str g.name,.bool g.static,.lst (g.params.map cvN),.str g.result]
def cvD (c:Cd):List CV:=[.str c.name,.str c.super,.lst (c.fields.map cvF),.lst (c.methods.map cvG)]
def cvH (h:List Cd):CV:=.agg [.lst (h.map cvD)]
theorem cvN_len (s:Bytes):(cvN s).length=1:=rfl
theorem cvN_one (s:Bytes):(cvN s).all CV.one=true:=rfl
theorem cvI_len (i:Int):(cvI i).length=1:=rfl
theorem cvI_one (i:Int):(cvI i).all CV.one=true:=rfl
theorem cvG_len (g:Sg):(cvG g).length=4:=rfl
theorem cvG_one (g:Sg):(cvG g).all CV.one=true:=rfl
theorem cvD_len (c:Cd):(cvD c).length=4:=rfl
theorem cvD_one (c:Cd):(cvD c).all CV.one=true:=rfl
theorem puN (s:Bytes):puL (cvN s)=true:=rfl
theorem puI (i:Int):puL (cvI i)=true:=rfl
theorem puG (g:Sg):puL (cvG g)=true:=by simp [cvG,puL,puV,puRm puN]
theorem puD (c:Cd):puL (cvD c)=true:=by simp [cvD,puL,puV,puRm puF,puRm puG]
theorem puH (h:List Cd):puV (cvH h)=true:=by simp [cvH,puL,puV,puRm puD]
theorem puLm {α:Type}{f:α→CV}(h:∀ a,puV (f a)=true)(l:List α):puL (l.map f)=true:=by
 induction l with
 | nil=>rfl
 | cons a l ih=>simp [puL,h a,ih]
/-! the table -/
def frN (h:List Cd)(i:Nat):List Bytes:=(frT h i).map (·.1)
def frV (h:List Cd)(i:Nat):List CV:=(frT h i).map fun p=>.int .i64 p.2
/-- The value of a table. -/
def cvTb (h:List Cd):CV:=.agg [.lst (h.map cvD),.fmp ((frN h h.length).map .str) (frV h h.length)]
theorem puTb (h:List Cd):puV (cvTb h)=true:=by
 have h1:puL ((frN h h.length).map CV.str)=true:=puLm (f:=CV.str) (fun _=>rfl) _;have h2:puL (frV h h.length)=true:=puLm (fun _=>rfl) _;simp [cvTb,puL,puV,puRm puD,h1,h2]
/-- What a look into the map of a table gives. -/
def lkV (h:List Cd)(s:Bytes):CV:=match findN h s with
 | some i=>.tup [.int .i64 i,.bool true]
 | none=>.tup [.int .i64 0,.bool false]
theorem fr_look (h:List Cd)(s:Bytes):(match (frN h h.length).findIdx? (· == s) with
  | some q=>((frV h h.length)[q]?).map fun v=>(.tup [v,.bool true]:CV)
  | none=>some (.tup [.int .i64 0,.bool false]))=some (lkV h s):=by
 have h1:=frT_all h s;have h2:=frT_idx (frT h h.length) s;unfold lkV frN frV;cases hq:((frT h h.length).map (·.1)).findIdx? (· == s) with
 | none =>
   rw [hq] at h2;simp only at h2;rw [h2] at h1;rw [← h1];rfl
 | some q =>
   rw [hq] at h2;obtain⟨p,a,b⟩:=h2;rw [b] at h1;rw [← h1];simp only [List.getElem?_map,a,Option.map_some]
theorem look_tab {P:Program}{H:Heap}{t kt et:TypeId}{ik ie:TI}{a c}{b}(ht:ti P t=some ⟨.map kt et,a,b,c⟩)(hk:ti P kt=some ik)(hs:ik.und=.string)(he:ti P et=some ie)(hz:ofV ie.zero=.int .i64 0)(h:List Cd)(s:Bytes) :
  lookA P H t (.fmp ((frN h h.length).map .str) (frV h h.length)) (.str s) true=some (lkV h s):=by
 rw [lookA_str ht hk hs he (ks:=frN h h.length) (vs:=frV h h.length) rfl s true,hz,← fr_look h s];rfl
end
section
open Ax
theorem ti_int:ti Tryz.prog 3=some ⟨.int .i64,1,.int .i64 0,8⟩:=by kernel_rfl
theorem ti_i64:ti Tryz.prog 2=some ⟨.int .i64,1,.int .i64 0,8⟩:=by kernel_rfl
theorem ti_str:ti Tryz.prog 9=some ⟨.string,1,.string ⟨#[]⟩,16⟩:=by kernel_rfl
theorem ti_bool:ti Tryz.prog 4=some ⟨.bool,1,.bool false,1⟩:=by kernel_rfl
theorem ti_Strs:ti Tryz.prog 79=some ⟨.slice 9,1,.slice none 0 0,24⟩:=by kernel_rfl
theorem ti_Ints:ti Tryz.prog 49=some ⟨.slice 3,1,.slice none 0 0,24⟩:=by kernel_rfl
theorem ti_Flds:ti Tryz.prog 35=some ⟨.slice 67,1,.slice none 0 0,24⟩:=by kernel_rfl
theorem ti_Fld:ti Tryz.prog 67=some ⟨.struct #[⟨ "Name",9,0,false, "", "",0⟩,⟨ "Type",9,1,false, "", "",16⟩],2,.agg #[.string ⟨#[]⟩,.string ⟨#[]⟩],32⟩:=by kernel_rfl
theorem ti_Cds:ti Tryz.prog 25=some ⟨.slice 73,1,.slice none 0 0,24⟩:=by kernel_rfl
theorem ti_Cd:ti Tryz.prog 73=some ⟨.struct #[⟨ "Name",9,0,false, "", "",0⟩,⟨ "Super",9,1,false, "", "",16⟩,⟨ "Fields",35,2,false, "", "",32⟩,⟨ "Methods",71,3,false, "", "",56⟩],4,.agg #[.string ⟨#[]⟩,.string ⟨#[]⟩,.slice none 0 0,.slice none 0 0],80⟩:=by kernel_rfl
theorem ti_Sgs:ti Tryz.prog 71=some ⟨.slice 81,1,.slice none 0 0,24⟩:=by kernel_rfl
theorem ti_Sg:ti Tryz.prog 81=some ⟨.struct #[⟨ "Name",9,0,false, "", "",0⟩,⟨ "Static",4,1,false, "", "",16⟩,⟨ "Params",79,2,false, "", "",24⟩,⟨ "Result",9,3,false, "", "",48⟩],4,.agg #[.string ⟨#[]⟩,.bool false,.slice none 0 0,.string ⟨#[]⟩],64⟩:=by kernel_rfl
theorem ti_Hi:ti Tryz.prog 27=some ⟨.struct #[⟨ "Classes",25,0,false, "", "",0⟩],1,.agg #[.slice none 0 0],24⟩:=by kernel_rfl
theorem ti_Tb:ti Tryz.prog 93=some ⟨.struct #[⟨ "classes",25,0,false, "", "dataflow/hier",0⟩,⟨ "first",91,1,false, "", "dataflow/hier",24⟩],2,.agg #[.slice none 0 0,.map none],32⟩:=by kernel_rfl
theorem ti_Msi:ti Tryz.prog 91=some ⟨.map 9 3,1,.map none,8⟩:=by kernel_rfl
theorem ti_Mib:ti Tryz.prog 135=some ⟨.map 3 4,1,.map none,8⟩:=by kernel_rfl
theorem ti_Chk:ti Tryz.prog 101=some ⟨.struct #[⟨ "h",27,0,false, "", "dataflow/typecheck",0⟩,⟨ "class",9,1,false, "", "dataflow/typecheck",24⟩,⟨ "result",9,2,false, "", "dataflow/typecheck",40⟩,⟨ "scope",35,3,false, "", "dataflow/typecheck",56⟩,⟨ "at",3,4,false, "", "dataflow/typecheck",80⟩],5,.agg #[.slice none 0 0,.string ⟨#[]⟩,.string ⟨#[]⟩,.slice none 0 0,.int .i64 0],88⟩:=by kernel_rfl
theorem ti_Flt:ti Tryz.prog 126=some ⟨.struct #[⟨ "e",31,0,false, "", "dataflow/typecheck",0⟩],1,.agg #[.int .i64 0],8⟩:=by kernel_rfl
theorem ti_Errno:ti Tryz.prog 31=some ⟨.int .i64,1,.int .i64 0,8⟩:=by kernel_rfl
theorem ti_Exs:ti Tryz.prog 61=some ⟨.slice 63,1,.slice none 0 0,24⟩:=by kernel_rfl
theorem ti_Ex:ti Tryz.prog 63=some ⟨.struct #[⟨ "Kind",3,0,false, "", "",0⟩,⟨ "N",2,1,false, "", "",8⟩,⟨ "Of",9,2,false, "", "",16⟩,⟨ "Name",9,3,false, "", "",32⟩,⟨ "Kids",61,4,false, "", "",48⟩],5,.agg #[.int .i64 0,.int .i64 0,.string ⟨#[]⟩,.string ⟨#[]⟩,.slice none 0 0],72⟩:=by kernel_rfl
theorem ti_Sts:ti Tryz.prog 39=some ⟨.slice 65,1,.slice none 0 0,24⟩:=by kernel_rfl
theorem ti_St:ti Tryz.prog 65=some ⟨.struct #[⟨ "Kind",3,0,false, "", "",0⟩,⟨ "Name",9,1,false, "", "",8⟩,⟨ "Type",9,2,false, "", "",24⟩,⟨ "Exprs",61,3,false, "", "",40⟩,⟨ "Body",39,4,false, "", "",64⟩,⟨ "Else",39,5,false, "", "",88⟩],6,.agg #[.int .i64 0,.string ⟨#[]⟩,.string ⟨#[]⟩,.slice none 0 0,.slice none 0 0,.slice none 0 0],112⟩:=by kernel_rfl
theorem ti_Mes:ti Tryz.prog 36=some ⟨.slice 41,1,.slice none 0 0,24⟩:=by kernel_rfl
theorem ti_Me:ti Tryz.prog 41=some ⟨.struct #[⟨ "Name",9,0,false, "", "",0⟩,⟨ "Static",4,1,false, "", "",16⟩,⟨ "Params",35,2,false, "", "",24⟩,⟨ "Result",9,3,false, "", "",48⟩,⟨ "Body",39,4,false, "", "",64⟩],5,.agg #[.string ⟨#[]⟩,.bool false,.slice none 0 0,.string ⟨#[]⟩,.slice none 0 0],88⟩:=by kernel_rfl
theorem ti_Cls:ti Tryz.prog 22=some ⟨.slice 38,1,.slice none 0 0,24⟩:=by kernel_rfl
theorem ti_Cl:ti Tryz.prog 38=some ⟨.struct #[⟨ "Name",9,0,false, "", "",0⟩,⟨ "Super",9,1,false, "", "",16⟩,⟨ "Fields",35,2,false, "", "",32⟩,⟨ "Methods",36,3,false, "", "",56⟩],4,.agg #[.string ⟨#[]⟩,.string ⟨#[]⟩,.slice none 0 0,.slice none 0 0],80⟩:=by kernel_rfl
theorem ti_So:ti Tryz.prog 24=some ⟨.struct #[⟨ "Classes",22,0,false, "", "",0⟩],1,.agg #[.slice none 0 0],24⟩:=by kernel_rfl
end
section
open Ax
theorem ti_Ins:ti Tryz.prog 44=some ⟨.slice 51,1,.slice none 0 0,24⟩:=by kernel_rfl
theorem ti_In:ti Tryz.prog 51=some ⟨.struct #[⟨ "Op",3,0,false, "", "",0⟩,⟨ "Dst",3,1,false, "", "",8⟩,⟨ "A",3,2,false, "", "",16⟩,⟨ "B",3,3,false, "", "",24⟩,⟨ "N",2,4,false, "", "",32⟩,⟨ "Class",9,5,false, "", "",40⟩,⟨ "Name",9,6,false, "", "",56⟩,⟨ "Args",49,7,false, "", "",72⟩,⟨ "Goto",3,8,false, "", "",96⟩,⟨ "Catch",3,9,false, "", "",104⟩],10,.agg #[.int .i64 0,.int .i64 0,.int .i64 0,.int .i64 0,.int .i64 0,.string ⟨#[]⟩,.string ⟨#[]⟩,.slice none 0 0,.int .i64 0,.int .i64 0],112⟩:=by kernel_rfl
theorem ti_Fn:ti Tryz.prog 46=some ⟨.struct #[⟨ "Class",9,0,false, "", "",0⟩,⟨ "Name",9,1,false, "", "",16⟩,⟨ "Static",4,2,false, "", "",32⟩,⟨ "Params",3,3,false, "", "",40⟩,⟨ "Vars",35,4,false, "", "",48⟩,⟨ "Result",9,5,false, "", "",72⟩,⟨ "Code",44,6,false, "", "",88⟩],7,.agg #[.string ⟨#[]⟩,.string ⟨#[]⟩,.bool false,.int .i64 0,.slice none 0 0,.string ⟨#[]⟩,.slice none 0 0],112⟩:=by kernel_rfl
theorem ti_Fns:ti Tryz.prog 28=some ⟨.slice 46,1,.slice none 0 0,24⟩:=by kernel_rfl
theorem ti_Un:ti Tryz.prog 30=some ⟨.struct #[⟨ "Hier",27,0,false, "", "",0⟩,⟨ "Funcs",28,1,false, "", "",24⟩,⟨ "Main",3,2,false, "", "",48⟩],3,.agg #[.slice none 0 0,.slice none 0 0,.int .i64 0],56⟩:=by kernel_rfl
theorem ti_Bd:ti Tryz.prog 86=some ⟨.struct #[⟨ "h",27,0,false, "", "dataflow/lower",0⟩,⟨ "vars",35,1,false, "", "dataflow/lower",24⟩,⟨ "code",44,2,false, "", "dataflow/lower",48⟩,⟨ "slots",3,3,false, "", "dataflow/lower",72⟩,⟨ "next",3,4,false, "", "dataflow/lower",80⟩,⟨ "scope",49,5,false, "", "dataflow/lower",88⟩,⟨ "handler",3,6,false, "", "dataflow/lower",112⟩,⟨ "handlers",49,7,false, "", "dataflow/lower",120⟩,⟨ "kinds",84,8,false, "", "dataflow/lower",144⟩],19,.agg #[.slice none 0 0,.slice none 0 0,.slice none 0 0,.int .i64 0,.int .i64 0,.slice none 0 0,.int .i64 0,.slice none 0 0,.nilFunc,.nilFunc,.nilFunc,.nilFunc,.nilFunc,.nilFunc,.nilFunc,.nilFunc,.nilFunc,.nilFunc,.nilFunc],232⟩:=by kernel_rfl
theorem ti_Kd:ti Tryz.prog 84=some ⟨.array 11 83,11,.agg #[.nilFunc,.nilFunc,.nilFunc,.nilFunc,.nilFunc,.nilFunc,.nilFunc,.nilFunc,.nilFunc,.nilFunc,.nilFunc],88⟩:=by kernel_rfl
theorem ti_Kf:ti Tryz.prog 83=some ⟨.func #[63] #[51,9] false,1,.nilFunc,8⟩:=by kernel_rfl
theorem ti_Pb:ti Tryz.prog 82=some ⟨.pointer 86,1,.pointer none,8⟩:=by kernel_rfl
end
section
open Lx Ax Go.RowKit
/-- The package-level variables. -/
def tkG:Nat→CV:=fun g=>match Nat.beq g 0 with
 | true=>.rop (kwList.map .str)
 | false=>match Nat.beq g 1 with
   | true=>.rop (Lib.pow10Tab.map (.int .u64))
   | false=>.any
theorem tkG_pu (g:Nat):puV (tkG g)=true:=by
 unfold tkG;cases Nat.beq g 0 with
 | true=>rfl
 | false =>
   cases Nat.beq g 1 with
   | true =>
     show puL _=true
     generalize Lib.pow10Tab=l
     induction l with
     | nil=>rfl
     | cons a l ih=>simp [puL,puV,ih]
   | false=>rfl
end
section
open Lx Ax Go.RowKit
/-- Arguments of a call; none is the nil list. -/
def avV:List Int→CV
 | []=>.nils
 | a::l=>.lst ((a::l).map cvI)
def cvJ (i:In):List CV:=[.int .i64 i.op,.int .i64 i.dst,.int .i64 i.a,.int .i64 i.b,.int .i64 i.n,.str i.cls,.str i.name,avV i.args,.int .i64 i.goto,.int .i64 i.han]
theorem cvJ_len (i:In):(cvJ i).length=10:=rfl
theorem avV_one (l:List Int):(avV l).one=true:=by cases l <;> rfl
theorem cvJ_one (i:In):(cvJ i).all CV.one=true:=by
 obtain⟨o,d,a,b,n,c,m,r,g,k⟩:=i;cases r <;> rfl
def cvW (n:Nat):List CV:=[.int .i64 n]
theorem cvW_len (n:Nat):(cvW n).length=1:=rfl
theorem cvW_one (n:Nat):(cvW n).all CV.one=true:=rfl
theorem cvF_one' (f:Fld):(cvF f).all CV.one=true:=rfl
/-- The lowering functions of the kinds. -/
def knd (X:Nat):List CV:=[.nilf,.fn (.func 24) [.ptr X 0] [],.fn (.func 25) [.ptr X 0] [],.nilf,.nilf,.fn (.func 26) [.ptr X 0] [],.fn (.func 27) [.ptr X 0] [],.fn (.func 28) [.ptr X 0] [],.fn (.func 29) [.ptr X 0] [],.fn (.func 30) [.ptr X 0] [],.fn (.func 31) [.ptr X 0] []]
/-- The builder's four lists. -/
structure Bv where
 v:CV
 c:CV
 s:CV
 t:CV
def ob (c:CV)(x:Nat):Prop:=∃ o m k,c=.sl x o m k
def OB (X:Nat)(z:Bv)(x:Nat):Prop:=x=X∨ob z.v x∨ob z.c x∨ob z.s x∨ob z.t x
def bdC (h:List Cd)(X:Nat)(z:Bv)(b:Bl):List CV:=[.lst (h.map cvD),z.v,z.c,.int .i64 b.slots,.int .i64 b.next,z.s,.int .i64 b.handler,z.t]++knd X
structure BdI (h:List Cd) (X:Nat) (H:Heap) (nx:Nat) (z:Bv) (b:Bl):Prop where
 blk:H X=some (.cells (bdC h X z b))
 v:OwnR cvF 2 H nx z.v b.vars
 c:OwnR cvJ 10 H nx z.c b.code
 s:OwnR cvW 1 H nx z.s b.scope
 t:OwnR cvW 1 H nx z.t b.handlers
 lt:X<nx
 nX:∀ x,ob z.v x∨ob z.c x∨ob z.s x∨ob z.t x→x≠X
 vc:∀ x,ob z.v x→¬ ob z.c x
 vs:∀ x,ob z.v x→¬ ob z.s x
 vt:∀ x,ob z.v x→¬ ob z.t x
 cs:∀ x,ob z.c x→¬ ob z.s x
 ct:∀ x,ob z.c x→¬ ob z.t x
 st:∀ x,ob z.s x→¬ ob z.t x
theorem Ax.OwnR.obl {α:Type}{cv:α→List CV}{k:Nat}{H:Heap}{nx:Nat}{c:CV}{l:List α}(h:OwnR cv k H nx c l){x:Nat}(hx:ob c x):x<nx∧c=.sl x 0 l.length k:=by
 obtain⟨o,m,k',rfl⟩:=hx;rcases h with⟨_,h⟩ | ⟨b,rest,h1,_,h3⟩
 ·cases h
 ·cases h1;exact⟨h3,rfl⟩
theorem Ax.OwnR.keep' {α:Type}{cv:α→List CV}{k:Nat}{H:Heap}{nx:Nat}{c:CV}{l:List α}(h:OwnR cv k H nx c l){H':Heap}{nx':Nat}(hn:nx≤nx')(hk:∀ x,ob c x→H' x=H x):OwnR cv k H' nx' c l :=
 h.keep hn fun b _ hc=>hk b ⟨_,_,_,hc⟩
section
variable {h:List Cd} {X:Nat} {H H':Heap} {nx nx':Nat} {z:Bv} {b:Bl}
theorem BdI.lo (hi:BdI h X H nx z b){x:Nat}(hx:OB X z x):x<nx:=by
 rcases hx with rfl | hx | hx | hx | hx
 ·exact hi.lt
 ·exact (hi.v.obl hx).1
 ·exact (hi.c.obl hx).1
 ·exact (hi.s.obl hx).1
 ·exact (hi.t.obl hx).1
/-- The heap turns elsewhere. -/
theorem BdI.keep (hi:BdI h X H nx z b)(hn:nx≤nx')(hk:∀ x,OB X z x→H' x=H x):BdI h X H' nx' z b :=
 ⟨by rw [hk X (.inl rfl)];exact hi.blk,hi.v.keep' hn fun x hx=>hk x (.inr (.inl hx)),hi.c.keep' hn fun x hx=>hk x (.inr (.inr (.inl hx))),hi.s.keep' hn fun x hx=>hk x (.inr (.inr (.inr (.inl hx)))),hi.t.keep' hn fun x hx=>hk x (.inr (.inr (.inr (.inr hx)))),by have:=hi.lt;omega,hi.nX,hi.vc,hi.vs,hi.vt,hi.cs,hi.ct,hi.st⟩
/-- New blocks alone. -/
theorem BdI.up (hi:BdI h X H nx z b)(hn:nx≤nx')(hk:∀ x,x<nx→H' x=H x):BdI h X H' nx' z b:=hi.keep hn fun x hx=>hk x (hi.lo hx)
theorem ob_sl {N m k x:Nat}(hx:ob (.sl N 0 m k) x):x=N:=by obtain⟨o,m',k',h⟩:=hx;cases h;rfl
/-- The numbers of the builder turn. -/
theorem BdI.num (hi:BdI h X H nx z b){b':Bl}(hv:b'.vars=b.vars)(hc:b'.code=b.code)(hs:b'.scope=b.scope)(ht:b'.handlers=b.handlers)(hn:nx≤nx')(hX:H' X=some (.cells (bdC h X z b')))(hk:∀ x,OB X z x→x≠X→H' x=H x):BdI h X H' nx' z b':=by
 have kk:∀ x,ob z.v x∨ob z.c x∨ob z.s x∨ob z.t x→H' x=H x:=fun x hx=>hk x (.inr hx) (hi.nX x hx)
 exact⟨hX,hv▸hi.v.keep' hn fun x hx=>kk x (.inl hx),hc▸hi.c.keep' hn fun x hx=>kk x (.inr (.inl hx)),hs▸hi.s.keep' hn fun x hx=>kk x (.inr (.inr (.inl hx))),ht▸hi.t.keep' hn fun x hx=>kk x (.inr (.inr (.inr hx))),by have:=hi.lt;omega,hi.nX,hi.vc,hi.vs,hi.vt,hi.cs,hi.ct,hi.st⟩
/-- A new list of variables. -/
theorem BdI.newV (hi:BdI h X H nx z b){b':Bl}{N:Nat}(hc:b'.code=b.code)(hs:b'.scope=b.scope)(ht:b'.handlers=b.handlers)(hN:nx≤N)(hn:N<nx')(hb:H' N=some (.cells (b'.vars.flatMap cvF)))(m:Nat)(hm:m=b'.vars.length)
  (hX:H' X=some (.cells (bdC h X { z with v:=.sl N 0 m 2 } b'))) (hk:∀ x,OB X z x→x≠X→¬ ob z.v x→H' x=H x):BdI h X H' nx' { z with v:=.sl N 0 m 2 } b':=by
 have l2:=fun x hx=>(hi.c.obl (x:=x) hx).1
 have l3:=fun x hx=>(hi.s.obl (x:=x) hx).1
 have l4:=fun x hx=>(hi.t.obl (x:=x) hx).1
 refine⟨hX,OwnR.isN0 hb hn m hm,hc▸hi.c.keep' (by omega) fun x hx=>hk x (.inr (.inr (.inl hx))) (hi.nX x (.inr (.inl hx))) (fun g=>hi.vc x g hx),hs▸hi.s.keep' (by omega) fun x hx=>hk x (.inr (.inr (.inr (.inl hx)))) (hi.nX x (.inr (.inr (.inl hx)))) (fun g=>hi.vs x g hx),ht▸hi.t.keep' (by omega) fun x hx=>hk x (.inr (.inr (.inr (.inr hx)))) (hi.nX x (.inr (.inr (.inr hx)))) (fun g=>hi.vt x g hx),by have:=hi.lt;omega,?_,?_,?_,?_,hi.cs,hi.ct,hi.st⟩
 ·rintro x (hx | hx)
  ·have:=ob_sl hx;have:=hi.lt;omega
  ·exact hi.nX x (.inr hx)
 ·intro x hx g;have:=ob_sl hx;have:=l2 x g;omega
 ·intro x hx g;have:=ob_sl hx;have:=l3 x g;omega
 ·intro x hx g;have:=ob_sl hx;have:=l4 x g;omega
theorem BdI.newC (hi:BdI h X H nx z b){b':Bl}{N:Nat}(hv:b'.vars=b.vars)(hs:b'.scope=b.scope)(ht:b'.handlers=b.handlers)(hN:nx≤N)(hn:N<nx')(hb:H' N=some (.cells (b'.code.flatMap cvJ)))(m:Nat)(hm:m=b'.code.length)
  (hX:H' X=some (.cells (bdC h X { z with c:=.sl N 0 m 10 } b'))) (hk:∀ x,OB X z x→x≠X→¬ ob z.c x→H' x=H x):BdI h X H' nx' { z with c:=.sl N 0 m 10 } b':=by
 have l1:=fun x hx=>(hi.v.obl (x:=x) hx).1
 have l3:=fun x hx=>(hi.s.obl (x:=x) hx).1
 have l4:=fun x hx=>(hi.t.obl (x:=x) hx).1
 refine⟨hX,hv▸hi.v.keep' (by omega) fun x hx=>hk x (.inr (.inl hx)) (hi.nX x (.inl hx)) (fun g=>hi.vc x hx g),OwnR.isN0 hb hn m hm,hs▸hi.s.keep' (by omega) fun x hx=>hk x (.inr (.inr (.inr (.inl hx)))) (hi.nX x (.inr (.inr (.inl hx)))) (fun g=>hi.cs x g hx),ht▸hi.t.keep' (by omega) fun x hx=>hk x (.inr (.inr (.inr (.inr hx)))) (hi.nX x (.inr (.inr (.inr hx)))) (fun g=>hi.ct x g hx),by have:=hi.lt;omega,?_,?_,hi.vs,hi.vt,?_,?_,hi.st⟩
 ·rintro x (hx | hx | hx)
  ·exact hi.nX x (.inl hx)
  ·have:=ob_sl hx;have:=hi.lt;omega
  ·exact hi.nX x (.inr (.inr hx))
 ·intro x g hx;have:=ob_sl hx;have:=l1 x g;omega
 ·intro x hx g;have:=ob_sl hx;have:=l3 x g;omega
 ·intro x hx g;have:=ob_sl hx;have:=l4 x g;omega
theorem BdI.newS (hi:BdI h X H nx z b){b':Bl}{N:Nat}(hv:b'.vars=b.vars)(hc:b'.code=b.code)(ht:b'.handlers=b.handlers)(hN:nx≤N)(hn:N<nx')(hb:H' N=some (.cells (b'.scope.flatMap cvW)))(m:Nat)(hm:m=b'.scope.length)
  (hX:H' X=some (.cells (bdC h X { z with s:=.sl N 0 m 1 } b'))) (hk:∀ x,OB X z x→x≠X→¬ ob z.s x→H' x=H x):BdI h X H' nx' { z with s:=.sl N 0 m 1 } b':=by
 have l1:=fun x hx=>(hi.v.obl (x:=x) hx).1
 have l2:=fun x hx=>(hi.c.obl (x:=x) hx).1
 have l4:=fun x hx=>(hi.t.obl (x:=x) hx).1
 refine⟨hX,hv▸hi.v.keep' (by omega) fun x hx=>hk x (.inr (.inl hx)) (hi.nX x (.inl hx)) (fun g=>hi.vs x hx g),hc▸hi.c.keep' (by omega) fun x hx=>hk x (.inr (.inr (.inl hx))) (hi.nX x (.inr (.inl hx))) (fun g=>hi.cs x hx g),OwnR.isN0 hb hn m hm,ht▸hi.t.keep' (by omega) fun x hx=>hk x (.inr (.inr (.inr (.inr hx)))) (hi.nX x (.inr (.inr (.inr hx)))) (fun g=>hi.st x g hx),by have:=hi.lt;omega,?_,hi.vc,?_,hi.vt,?_,hi.ct,?_⟩
 ·rintro x (hx | hx | hx | hx)
  ·exact hi.nX x (.inl hx)
  ·exact hi.nX x (.inr (.inl hx))
  ·have:=ob_sl hx;have:=hi.lt;omega
  ·exact hi.nX x (.inr (.inr (.inr hx)))
 ·intro x g hx;have:=ob_sl hx;have:=l1 x g;omega
 ·intro x g hx;have:=ob_sl hx;have:=l2 x g;omega
 ·intro x hx g;have:=ob_sl hx;have:=l4 x g;omega
theorem BdI.newT (hi:BdI h X H nx z b){b':Bl}{N:Nat}(hv:b'.vars=b.vars)(hc:b'.code=b.code)(hs:b'.scope=b.scope)(hN:nx≤N)(hn:N<nx')(hb:H' N=some (.cells (b'.handlers.flatMap cvW)))(m:Nat)(hm:m=b'.handlers.length)
  (hX:H' X=some (.cells (bdC h X { z with t:=.sl N 0 m 1 } b'))) (hk:∀ x,OB X z x→x≠X→¬ ob z.t x→H' x=H x):BdI h X H' nx' { z with t:=.sl N 0 m 1 } b':=by
 have l1:=fun x hx=>(hi.v.obl (x:=x) hx).1
 have l2:=fun x hx=>(hi.c.obl (x:=x) hx).1
 have l3:=fun x hx=>(hi.s.obl (x:=x) hx).1
 refine⟨hX,hv▸hi.v.keep' (by omega) fun x hx=>hk x (.inr (.inl hx)) (hi.nX x (.inl hx)) (fun g=>hi.vt x hx g),hc▸hi.c.keep' (by omega) fun x hx=>hk x (.inr (.inr (.inl hx))) (hi.nX x (.inr (.inl hx))) (fun g=>hi.ct x hx g),hs▸hi.s.keep' (by omega) fun x hx=>hk x (.inr (.inr (.inr (.inl hx)))) (hi.nX x (.inr (.inr (.inl hx)))) (fun g=>hi.st x hx g),OwnR.isN0 hb hn m hm,by have:=hi.lt;omega,?_,hi.vc,hi.vs,?_,hi.cs,?_,?_⟩
 ·rintro x (hx | hx | hx | hx)
  ·exact hi.nX x (.inl hx)
  ·exact hi.nX x (.inr (.inl hx))
  ·exact hi.nX x (.inr (.inr (.inl hx)))
  ·have:=ob_sl hx;have:=hi.lt;omega
 ·intro x g hx;have:=ob_sl hx;have:=l1 x g;omega
 ·intro x g hx;have:=ob_sl hx;have:=l2 x g;omega
 ·intro x g hx;have:=ob_sl hx;have:=l3 x g;omega
/-- What stands behind code that works on the builder. -/
def BdP (h:List Cd)(X:Nat)(H:Heap)(nx:Nat)(z:Bv)(b':Bl)(H':Heap)(nx':Nat):Prop :=
 ∃ z',BdI h X H' nx' z' b'∧nx≤nx'∧(∀ x,x<nx→¬ OB X z x→H' x=H x)∧∀ x,OB X z' x→OB X z x∨nx≤x
theorem BdI.toP (hi:BdI h X H nx z b):BdP h X H nx z b H nx:=⟨z,hi,Nat.le_refl _,fun _ _ _=>rfl,fun _ hx=>.inl hx⟩
/-- From an earlier heap. -/
theorem BdP.src {H0:Heap}{n0:Nat}{b':Bl}(p:BdP h X H nx z b' H' nx')(hn:n0≤nx)(hk:∀ x,x<n0→¬ OB X z x→H x=H0 x):BdP h X H0 n0 z b' H' nx':=by
 obtain⟨z',h1,h2,h3,h4⟩:=p;refine⟨z',h1,by omega,fun x hx ho=>by rw [h3 x (by omega) ho,hk x hx ho],fun x hx=>?_⟩;rcases h4 x hx with h5 | h5
 ·exact .inl h5
 ·exact .inr (by omega)
/-- The end moves up. -/
theorem BdP.up {b':Bl}{H2:Heap}{nx2:Nat}(p:BdP h X H nx z b' H' nx')(hn:nx'≤nx2)(hk:∀ x,x<nx'→H2 x=H' x):BdP h X H nx z b' H2 nx2:=by
 obtain⟨z1,h1,h2,h3,h4⟩:=p;exact⟨z1,h1.up hn hk,by omega,fun x hx ho=>by rw [hk x (by omega)];exact h3 x hx ho,h4⟩
end
end
section
open Lx Ax Go.RowKit
theorem Ax.OwnL.toR {α:Type}{cv:α→List CV}{k:Nat}{H:Heap}{nx:Nat}{c:CV}{l:List α}(h:OwnL cv k H nx c l):OwnR cv k H nx c l:=by
 rcases h with h | ⟨b,h1,h2,h3⟩
 ·exact .inl h
 ·exact .inr ⟨b,[],h1,by simpa using h2,h3⟩
section
variable {P:Program} {G:Nat→CV} {n:Nat} {e:Env} {H:Heap} {nx:Nat} {Q:AExit→Env→Heap→Nat→Prop} {ops:Array Oper} {os:List Oper} {d:Option Nat} {ty:TypeId} {pos:String} {af:Array Edge} {g:Option (Nat×Bool)}
/-- A frozen list behind an own list, one known end. -/
theorem DOpl.appLst {α:Type}{cv:α→List CV}{k:Nat}{t el:TypeId}{s b1:Nat}{z:Value}{i:TI}{so xo:Operand}{c:CV}{l l2:List α}(hcv:∀ a,(cv a).length=k)(hone:∀ a,(cv a).all CV.one=true)(ht:ti P t=some ⟨.slice el,s,z,b1⟩)(hi:ti P el=some i)
  (ho:OwnL cv k H nx c l) (hn:l.length+l2.length<1000000000)
  (h:∀ c' H' nx',OwnL cv k H' nx' c' (l++l2)→nx≤nx'→(∀ b,b<nx→(∀ b',c=.sl b' 0 l.length k→b≠b')→H' b=H b)→(∀ x,ob c' x→nx≤x)→DOpl P G n ops os (putE e d c') H' nx' Q)
  (hx:rd G e xo=.lst (l2.map cv)) (hk:i.size=k:=by rfl) (hz:i.zero.cells.size=k:=by rfl) (hk0:0<k:=by omega) (hby:i.bytes≤1000:=by simp) (hd:okD n d=true:=by rfl) (hg:gd ops e ⟨d,.call ⟨.builtin .append,#[so,xo],#[t,t]⟩,ty,pos,af,g⟩=some true:=by (first | rfl | (simp [*];done)))
  (hs:rd G e so=c:=by (first | (simp [*];done) | (simp [*];rfl))) :
  DOpl P G n ops (⟨d,.call ⟨.builtin .append,#[so,xo],#[t,t]⟩,ty,pos,af,g⟩::os) e H nx Q:=by
 have hr:∀ r∈l2.map cv,r.length=k:=fun r hr=>by obtain⟨a,_,rfl⟩:=List.mem_map.mp hr;exact hcv a
 have hro:∀ r∈l2.map cv,r.all CV.one=true:=fun r hr=>by obtain⟨a,_,rfl⟩:=List.mem_map.mp hr;exact hone a
 have key:∃ c' d',appA P H nx t t c (.lst (l2.map cv))=some (c',d')∧OwnL cv k (d'.hp H nx) (d'.nx nx) c' (l++l2)∧nx≤d'.nx nx∧(∀ b,b<nx→(∀ b',c=.sl b' 0 l.length k→b≠b')→(d'.hp H nx) b=H b)∧∀ x,ob c' x→nx≤x:=by
  rcases ho with⟨rfl,rfl⟩ | ⟨b,rfl,hb,hlt⟩
  ·have h0:=app_lst0 (H:=H) (nx:=nx) ht hi hk hz hk0 hr hro (by rw [List.length_map];omega) hby
   by_cases hl:(l2.map cv).length=0
   ·rw [if_pos hl] at h0;have hl2:l2=[]:=by rw [List.length_map] at hl;exact List.length_eq_zero_iff.mp hl
    exact⟨_,_,h0,.inl ⟨by simp [hl2],rfl⟩,Nat.le_refl _,fun _ _ _=>rfl,fun x ⟨_,_,_,hx⟩=>by cases hx⟩
   ·rw [if_neg hl] at h0;refine⟨_,_,h0,.inr ⟨nx,by simp,?_,by simp [Dl.nx]⟩,by simp [Dl.nx],fun b hb _=>?_,fun x hx=>by have:=ob_sl hx;omega⟩
    ·simp [Dl.hp,Ax.upd,flat_map]
    ·simp only [Dl.hp];exact upd_miss _ _ _ _ (by omega)
  ·refine⟨_,_,app_lst ht hi hk hz hk0 hb (flatMap_len hcv l) hr hro (by rw [List.length_map];omega) hby,.inr ⟨nx,by simp,?_,by simp [Dl.nx]⟩,by simp [Dl.nx],fun b' hb' hne=>?_,fun x hx=>by have:=ob_sl hx;omega⟩
   ·simp [Dl.hp,Ax.upd,List.flatMap_append,flat_map]
   ·simp only [Dl.hp];rw [upd_miss _ _ _ _ (by omega),drp_miss _ _ _ (hne b rfl)]
 obtain⟨c',d',h1,h2,h3,h4,h5⟩:=key;refine DOpl.stepG hd hg (c:=c') (H':=d'.hp H nx) (nx':=d'.nx nx) ?_ (h c' _ _ h2 h3 h4 h5);simp [stepS,qstep,bltA,astep,estep,hs,hx,h1]
end
/-- A block of which one cell holds an own list: the list becomes a frozen one. -/
theorem AWp.own2lstR {P:Program}{G:Nat→CV}{n:Nat}{e:Env}{H:Heap}{nx:Nat}{Q:AExit→Env→Heap→Nat→Prop}{α:Type}{cv:α→List CV}{k x nx0:Nat}(hk:∀ a,(cv a).length=k)(pre post:List CV){code:Code}{c:CV}{l:List α}(ho:OwnR cv k H nx0 c l)(hx:H x=some (.cells (pre++c::post)))(hxn:¬ ob c x)
  (h:∀ H',H' x=some (.cells (pre++.lst (l.map cv)::post))→(∀ y,¬ ob c y→y≠x→H' y=H y)→AWp P G n code e H' nx Q):AWp P G n code e H nx Q:=by
 rcases ho with⟨rfl,rfl⟩ | ⟨b,rest,rfl,hb,h0⟩
 ·exact AWp.wkH hx (WkL.append ⟨rfl,fun _ _ _=>.same _⟩ (.cons .nil ⟨rfl,fun _ _ _=>.same _⟩)) (h _ (upd_hit _ _ _) (fun y _ hy=>upd_miss _ _ _ _ hy))
 ·have hxb:x≠b:=fun e=>hxn (e▸⟨_,_,_,rfl⟩)
  refine AWp.frz2 hb hx hxb (cx':=pre++.lst (l.map cv)::post) (FVL.append ⟨rfl,fun _ _ _=>.same _⟩ (.cons ?_ ⟨rfl,fun _ _ _=>.same _⟩)) (h _ (upd_hit _ _ _) (fun y hy hyx=>?_))
  ·have:=FV.sl (b:=b) (cs:=l.flatMap cv++rest) 0 l.length k (by rw [List.length_append,flatMap_len hk];omega);have er:rowsOf (l.flatMap cv++rest) 0 k l.length=l.map cv:=by
    have:=rowsOf_flat (k:=k) (rows:=l.map cv) (fun r hr=>by obtain⟨a,_,rfl⟩:=List.mem_map.mp hr;exact hk a) [] rest;rw [flat_map] at this;simpa using this
   rw [er] at this;exact this
  ·rw [upd_miss _ _ _ _ hyx,drp_miss _ _ _ (fun e=>hy (by rw [e];exact⟨_,_,_,rfl⟩))]
end
section
open Lx Ax Go.RowKit
namespace Lx
theorem dec_digits:∀ (f n:Nat),n<10 ^ f→0<f→digitsOf f n=Lib.decDigits n
 | f+1,n,h,_=>by
   rw [digitsOf,Lib.decDigits];split
   ·rfl
   ·rename_i h0;have hf:0<f:=by
     rcases Nat.eq_zero_or_pos f with e | e
     ·subst e;simp at h;omega
     ·exact e
    rw [dec_digits f (n / 10) (by rw [Nat.pow_succ] at h;omega) hf];rfl
theorem itoa_num {n:Int}(h:-9223372036854775808≤n∧n≤9223372036854775807):Lib.itoa n=numText n:=by
 obtain⟨h0,h1⟩:=h;unfold Lib.itoa numText;split
 ·rw [dec_digits 20 _ (by omega) (by omega)]
 ·rw [dec_digits 20 _ (by omega) (by omega)];congr 1;omega
theorem numText_len {n:Int}(h:-9223372036854775808≤n∧n≤9223372036854775807):(numText n).length≤21:=by
 rw [← itoa_num h];exact Lib.itoa_length_le n h.1 h.2
end Lx
theorem below_grow {B:Nat}(w:World)(k:Nat)(os:Array Obj)(hB:B≤w.heap.size):Below B w (Go.Sort.grow (w.drewN k) os) :=
 ⟨rfl,rfl,rfl,by show w.heap.size≤(w.heap++os).size;simp,fun i hi=>by show (w.heap++os)[i]?=w.heap[i]?;rw [Array.getElem?_append_left (by omega)]⟩
theorem tab_of {M:Mp}{w:World}(hg:RG tkG M)(hz:∀ g o,M.fz g=some o→w.heap[g]?=some o):Lib.TabIs Tryz.prog w "internal/strconv.uint64pow10" .u64 Lib.pow10Tab:=by
 obtain⟨h1,arr,T,fr,h2,h3⟩:=hg 1;have hh:=hz _ _ h2;unfold Lib.TabIs World.var?;rw [show Tryz.prog.globalNamed "internal/strconv.uint64pow10"=some 1 by kernel_rfl];simp only [Option.bind_some,hh];refine congrArg some (Array.ext (by simpa using h3) fun i a b=>?_);change RV M (.rop (Lib.pow10Tab.map (.int .u64))) _ at h1;cases h1 with
 | rop cs g o arr' T' fr' h' hl hr =>
   rw [h2] at h';cases h';have:=hr i (by simpa using b) (by simpa using a);simp only [List.getElem_map,Nat.zero_add] at this;generalize hv:arr[i]=v at this;cases this;simp [hv]
theorem lw_itoa {n:Int}(h:-9223372036854775808≤n∧n≤9223372036854775807):FCall1 Tryz.prog tkG 82 [.int .i64 n] (.str (numText n)):=by
 refine FCall.one tkG_pu rfl rfl (FCall.ofOld fun M w vs hg hz hv=>?_);obtain⟨v0,vs,rfl,hv0,hv⟩:=hv.cons_inv;cases hv.nil_inv;cases hv0;refine (Tryz.strconv_Itoa n h.1 h.2 w (tab_of hg hz)).mono ?_;rintro e w' ⟨rfl,k,os,rfl⟩;exact⟨below_grow _ _ _ (Nat.le_refl _),_,rfl,.str _ _ (by rw [← itoa_num h])⟩
end
section
open Ax Go.RowKit
/-- Functions with a meaning of their own: run. -/
noncomputable def tcSp (call:Call1):Call1:=fun f args h nx=>match Nat.beq f 45 with
 | true=>match args with
   | [_,.fn (.func g) a b]=>match enters Tryz.prog g with
     | true=>match call g (a++b) h nx with
       | some (.ret _,h',nx')=>some (.ret (.int .i64 0),h',nx')
       | some (.pan (.iface t (.agg [.int .i64 n])),h',nx')=>match Nat.beq t 126 with
         | true=>some (.ret (.int .i64 n),h',nx')
         | false=>none
       | _=>none
     | false=>none
   | _=>none
 | false=>none
theorem tcSp_ok {call:Call1}(hc:CallOk Tryz.prog tkG call):CallOk Tryz.prog tkG (tcSp call):=by
 intro f args h nx r h' nx' hr;unfold tcSp at hr;split at hr
 case h_2=>cases hr
 rename_i hf;have hf':=beq_eq hf;subst hf';split at hr
 case h_2=>cases hr
 rename_i c g a b;split at hr
 case h_2=>cases hr
 rename_i hen;split at hr
 ·rename_i v h1 nx1 hcl;cases hr;refine tc_run hen ((hc _ _ _ _ _ _ _ hcl).mono ?_);rintro r1 H1 n1 ⟨rfl,rfl,rfl⟩;exact⟨rfl,rfl,rfl⟩
 ·rename_i t n h1 nx1 hcl;split at hr
  case h_2=>cases hr
  rename_i ht;have ht':=beq_eq ht;subst ht';cases hr;refine tc_run hen ((hc _ _ _ _ _ _ _ hcl).mono ?_);rintro r1 H1 n1 ⟨rfl,rfl,rfl⟩;exact⟨n,rfl,rfl,rfl,rfl⟩
 ·cases hr
end
section
open Lx Ax Go.RowKit
/-- Functions with a meaning of their own: run, Itoa. -/
noncomputable def lwSp (call:Call1):Call1:=fun f args h nx=>match Nat.beq f 82 with
 | true=>match args with
   | [.int .i64 (.ofNat n)]=>match Nat.blt n 1000000 with
     | true=>some (.ret (.str (numText (.ofNat n))),h,nx)
     | false=>none
   | _=>none
 | false=>tcSp call f args h nx
theorem lwSp_ok {call:Call1}(hc:CallOk Tryz.prog tkG call):CallOk Tryz.prog tkG (lwSp call):=by
 intro f args h nx r h' nx' hr;unfold lwSp at hr;split at hr
 ·rename_i hf;have hf':=beq_eq hf;subst hf';split at hr
  case h_2=>cases hr
  rename_i n;split at hr
  case h_2=>cases hr
  rename_i hn;have hn':=blt_lt hn;cases hr;exact (lw_itoa (n:=(n:Int)) ⟨by omega,by omega⟩) _ _
 ·exact tcSp_ok hc f args h nx r h' nx' hr
set_option maxRecDepth 1000000 in
theorem lw_awake_run:yes (runF Tryz.prog tkG lwSp 1000 60 6 [] .lf 0)=true:=by kernel_rfl
theorem lw_awake:FCall Tryz.prog tkG 6 [] (fun r=>r=.ret (.bool true)) :=
 FCall.closed (runF_sound (P:=Tryz.prog) (G:=tkG) (lf:=1000) (fun c hc=>lwSp_ok hc) 60) tkG_pu lw_awake_run
end
section
open Lx Ax Go.RowKit
theorem tk_cells {M:Mp}{w:World}{g:Nat}{ss:List Bytes}(hg:RG tkG M)(hz:∀ g o,M.fz g=some o→w.heap[g]?=some o)(h:tkG g=.rop (ss.map .str)):∃ t fr,w.heap[g]?=some (.cells (ss.map fun l=>Value.string ⟨l.toArray⟩).toArray t fr):=by
 obtain⟨h1,h3⟩:=hg g;rw [h] at h1 h3;obtain⟨arr,T,fr,h2,h3⟩:=h3;refine⟨T,fr,?_⟩;rw [hz _ _ h2];refine congrArg (fun a=>some (Obj.cells a T fr)) (Array.ext (by simpa using h3) fun i a b=>?_);cases h1 with
 | rop cs g o arr' T' fr' h' hl hr =>
   rw [h2] at h';cases h';have:=hr i (by simpa using b) (by simpa using a);simp only [List.getElem_map,Nat.zero_add] at this;generalize hv:arr[i]=v at this;cases this with
   | str l s hs =>
     simp [hv,← hs]
theorem tk_kw {M:Mp}{w:World}(hg:RG tkG M)(hz:∀ g o,M.fz g=some o→w.heap[g]?=some o):KwIs w:=tk_cells (ss:=kwList) hg hz rfl
theorem tk_ident (l:Bytes)(h:l.length≤maxLen):FCall1 Tryz.prog tkG 43 [.str l] (.bool (isIdent l)):=by
 refine FCall.one tkG_pu rfl rfl (FCall.ofOld fun M w vs hg hz hv=>?_);obtain⟨v0,vs,rfl,hv0,hv⟩:=hv.cons_inv;cases hv.nil_inv;cases hv0 with
 | str _ s hs =>
   refine (fm_ident0 s w (by rw [← len_list s,hs];exact h) (tk_kw hg hz)).mono ?_;rintro e w' ⟨rfl,rfl⟩;exact⟨Below.refl _ _,_,rfl,by rw [hs];exact .bool _⟩
end
end Go.Proofs.YtoookjadbhdfhaaGreatDoor
