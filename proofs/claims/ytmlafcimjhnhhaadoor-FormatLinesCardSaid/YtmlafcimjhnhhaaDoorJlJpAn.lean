/-
  AX: one more row for an own list in a drawn region; results that hold own lists.
-/
import Derived.Test.YtmlafcimjhnhhaaDoorJlJpAm
import Derived.WalkKit
import Derived.Test.YtmlafcimjhnhhaaDoorProg
import Derived.WalkLawsBesides
import Derived.Lib.Hide
import Derived.LoopTactic
import Derived.Laws.Rows
import Derived.Lib.Strings
import Derived.Outline
import Derived.Lib.ParseIntB
import Derived.Test.YtmlafcimjhnhhaaDoorShelf
import Derived.Lib.AtoiErrMem
set_option linter.unusedSectionVars false
set_option linter.unusedSimpArgs false
set_option linter.unnecessarySimpa false
set_option linter.unusedVariables false
set_option linter.unusedSimpArgs false
set_option linter.unusedVariables false
namespace Go.Proofs.YtmlafcimjhnhhaaDoor
section
namespace Ax
section
variable {P:Program} {G:Nat→CV} {n:Nat} {e:Env} {H:Heap} {nx nx0 kp ne:Nat} {ops:Array Oper} {os:List Oper} {d:Option Nat} {ty:TypeId} {pos:String} {af:Array Edge} {g:Option (Nat×Bool)} {K:Env→Heap→Nat→Prop} {Q:AExit→Env→Heap→Nat→Prop}
end
section
variable {P:Program} {G:Nat→CV} {n:Nat} {e:Env} {H:Heap} {nx:Nat} {Q:AExit→Env→Heap→Nat→Prop} {ops:Array Oper} {os:List Oper} {d:Option Nat} {op:Op} {ty:TypeId} {pos:String} {af:Array Edge} {g:Option (Nat×Bool)}
theorem AOpl.call1 (hd:okD n d=true)(hg:gd ops e ⟨d,op,ty,pos,af,g⟩=some true){f:FuncId}{args:List CV}(hq:callA (rd G e) op=some (f,args))(he:enters P f=true){v:CV}(hf:FCall1 P G f args v)
  (h:AOpl P G n ops os (putE e d v) H nx Q):AOpl P G n ops (⟨d,op,ty,pos,af,g⟩::os) e H nx Q :=
 AOpl.callG hd hg hq he ((hf H nx).mono fun r H' nx' ⟨h1,h2,h3⟩=>by subst h1;subst h2;subst h3;exact h)
end
end Ax
end
section
namespace Ax
section
variable {P:Program} {G:Nat→CV} {n:Nat} {e e':Env} {H:Heap} {nx:Nat} {Q:AExit→Env→Heap→Nat→Prop} {ops:Array Oper} {os:List Oper} {b x:Nat} {cs cx cx':List CV}
end
end Ax
end
section
namespace Lx
abbrev Bytes:=List UInt8
def isLetter (c:UInt8):Bool:=decide (97≤c.toNat∧c.toNat≤122∨65≤c.toNat∧c.toNat≤90)
def isDigit (c:UInt8):Bool:=decide (48≤c.toNat∧c.toNat≤57)
def isPart (c:UInt8):Bool:=isLetter c || isDigit c || decide (c.toNat=95)
/-- How many bytes at the beginning are of a kind. -/
def spanOf (p:UInt8→Bool):Bytes→Nat
 | []=>0
 | c::t=>if p c then spanOf p t+1 else 0
theorem spanOf_le (p:UInt8→Bool)(l:Bytes):spanOf p l≤l.length:=by
 induction l with
 | nil=>simp [spanOf]
 | cons c t ih=>simp only [spanOf,List.length_cons];split <;> omega
theorem drop_cons (s:ByteArray)(k:Nat)(h:k<s.size):s.data.toList.drop k=s[k]::s.data.toList.drop (k+1):=by
 rw [List.drop_eq_getElem_cons (by simpa using h)];rfl
theorem len_list (s:ByteArray):s.data.toList.length=s.size:=by simp
theorem spanOf_stop (p:UInt8→Bool)(s:ByteArray)(k:Nat)(h:k<s.size)(hp:p s[k]=false):spanOf p (s.data.toList.drop k)=0:=by
 rw [drop_cons s k h];simp [spanOf,hp]
theorem spanOf_go (p:UInt8→Bool)(s:ByteArray)(k:Nat)(h:k<s.size)(hp:p s[k]=true):spanOf p (s.data.toList.drop k)=spanOf p (s.data.toList.drop (k+1))+1:=by
 rw [drop_cons s k h];simp [spanOf,hp]
theorem spanOf_end (p:UInt8→Bool)(s:ByteArray)(k:Nat)(h:s.size≤k):spanOf p (s.data.toList.drop k)=0:=by
 rw [List.drop_eq_nil_of_le (by simpa using h)];rfl
end Lx
end
section
open Lx
theorem ret_bool {a b:Bool}(h:a=b):Ending.returned (.bool a)=.returned (.bool b):=by rw [h]
theorem ret_int {k:IntKind}{a b:Int}(h:a=b):Ending.returned (.int k a)=.returned (.int k b):=by rw [h]
theorem lex_letter (c:UInt8)(w:World):Calls Tryd.prog 58 #[.int .u8 (c.toNat:Int)] w fun e w'=>e=.returned (.bool (isLetter c))∧w=w':=by
 have hc:=c.toNat_lt;go_enter Tryd.func58,Tryd.ntmps58
 go_wp2
 all_goals
  go_ret;exact⟨ret_bool (by rw [Bool.eq_iff_iff];simp [isLetter];omega),rfl⟩
theorem lex_digit (c:UInt8)(w:World):Calls Tryd.prog 73 #[.int .u8 (c.toNat:Int)] w fun e w'=>e=.returned (.bool (isDigit c))∧w=w':=by
 have hc:=c.toNat_lt;go_enter Tryd.func73,Tryd.ntmps73
 go_wp2
 all_goals
  go_ret;exact⟨ret_bool (by rw [Bool.eq_iff_iff];simp [isDigit];omega),rfl⟩
theorem ref_letter (c:UInt8)(w:World):Calls Tryd.prog 41 #[.int .u8 (c.toNat:Int)] w fun e w'=>e=.returned (.bool (isLetter c))∧w=w':=by
 have hc:=c.toNat_lt;go_enter Tryd.func41,Tryd.ntmps41
 go_wp2
 all_goals
  go_ret;exact⟨ret_bool (by rw [Bool.eq_iff_iff];simp [isLetter];omega),rfl⟩
theorem ref_digit (c:UInt8)(w:World):Calls Tryd.prog 44 #[.int .u8 (c.toNat:Int)] w fun e w'=>e=.returned (.bool (isDigit c))∧w=w':=by
 have hc:=c.toNat_lt;go_enter Tryd.func44,Tryd.ntmps44
 go_wp2
 all_goals
  go_ret;exact⟨ret_bool (by rw [Bool.eq_iff_iff];simp [isDigit];omega),rfl⟩
theorem lex_part (c:UInt8)(w:World):Calls Tryd.prog 60 #[.int .u8 (c.toNat:Int)] w fun e w'=>e=.returned (.bool (isPart c))∧w=w':=by
 have hc:=c.toNat_lt;go_enter Tryd.func60,Tryd.ntmps60
 go_wp2_with (first | (go_at_call 58;refine (lex_letter _ _).mono ?_;rintro e w' ⟨rfl,rfl⟩) | (go_at_call 73;refine (lex_digit _ _).mono ?_;rintro e w' ⟨rfl,rfl⟩))
 all_goals
  go_ret;exact⟨ret_bool (by simp_all [isPart];try (rw [Bool.eq_iff_iff];simp;omega)),rfl⟩
theorem ref_part (c:UInt8)(w:World):Calls Tryd.prog 62 #[.int .u8 (c.toNat:Int)] w fun e w'=>e=.returned (.bool (isPart c))∧w=w':=by
 have hc:=c.toNat_lt;go_enter Tryd.func62,Tryd.ntmps62
 go_wp2_with (first | (go_at_call 41;refine (ref_letter _ _).mono ?_;rintro e w' ⟨rfl,rfl⟩) | (go_at_call 44;refine (ref_digit _ _).mono ?_;rintro e w' ⟨rfl,rfl⟩))
 all_goals
  go_ret;exact⟨ret_bool (by simp_all [isPart];try (rw [Bool.eq_iff_iff];simp;omega)),rfl⟩
end
section
open Lx Go.RowKit
set_option maxHeartbeats 400000 in
theorem lex_span_part (s:ByteArray)(w:World)(hs:s.size≤maxLen):Calls Tryd.prog 59 #[.string s,.func (.func 60) #[] #[]] w fun e w'=>e=.returned (.int .i64 (spanOf isPart s.data.toList:Nat))∧w=w':=by
 unfold maxLen at hs;go_enter Tryd.func59,Tryd.ntmps59;go_wp2_with fail
 go_loop [5] (fun n=>∃ k:Nat,k≤s.size∧n=.int .i64 k∧spanOf isPart s.data.toList=k+spanOf isPart (s.data.toList.drop k)) (fun n=>s.size-(intOf n).toNat)
 case atStart=>exact⟨0,Nat.zero_le _,rfl,by simp⟩
 case round =>
  obtain⟨k,hk,rfl,hr⟩:=hrel;have HR:=Lib.hid hr;clear hr
  by_cases hlt:k<s.size
  ·cases hp:isPart s[k]
   ·have HP:=Lib.hid hp
    go_wp2_with (go_at_call 60;refine (lex_part _ _).mono ?_;rintro e w' ⟨rfl,rfl⟩)
    go_ret;exact⟨ret_int (by rw [HR.out,spanOf_stop _ _ _ hlt HP.out];simp),rfl⟩
   ·have HP:=Lib.hid hp
    go_wp2_with (go_at_call 60;refine (lex_part _ _).mono ?_;rintro e w' ⟨rfl,rfl⟩)
    go_round
    case rel=>exact⟨k+1,by omega,by go_num,by rw [HR.out,spanOf_go _ _ _ hlt HP.out];omega⟩
    case measure=>simp [intOf];omega
  ·go_wp2_with fail;go_ret;exact⟨ret_int (by rw [HR.out,spanOf_end _ _ _ (by omega)];simp),rfl⟩
end
section
open Lx Go.RowKit
namespace Lx
def kwList:List Bytes:=[[99,108,97,115,115],[101,120,116,101,110,100,115],[118,97,114],[100,101,102],[115,116,97,116,105,99],[105,102],[101,108,115,101],[119,104,105,108,101],[116,114,121],[99,97,116,99,104],[116,104,114,111,119],[114,101,116,117,114,110],[110,101,119],[110,117,108,108],[116,104,105,115],[105,110,112,117,116],[105,110,116]]
def markList:List Bytes:=[[58,58],[61,61],[58],[123],[125],[40],[41],[59],[44],[46],[61],[60],[43],[45],[42]]
def isKeyword (l:Bytes):Bool:=kwList.contains l
def strOf (l:Bytes):ByteArray:=⟨l.toArray⟩
end Lx
def kwCells:Array Value:=#[.string ⟨#[99,108,97,115,115]⟩,.string ⟨#[101,120,116,101,110,100,115]⟩,.string ⟨#[118,97,114]⟩,.string ⟨#[100,101,102]⟩,.string ⟨#[115,116,97,116,105,99]⟩,.string ⟨#[105,102]⟩,.string ⟨#[101,108,115,101]⟩,.string ⟨#[119,104,105,108,101]⟩,.string ⟨#[116,114,121]⟩,.string ⟨#[99,97,116,99,104]⟩,.string ⟨#[116,104,114,111,119]⟩,.string ⟨#[114,101,116,117,114,110]⟩,.string ⟨#[110,101,119]⟩,.string ⟨#[110,117,108,108]⟩,.string ⟨#[116,104,105,115]⟩,.string ⟨#[105,110,112,117,116]⟩,.string ⟨#[105,110,116]⟩]
structure Laid (w:World):Prop where
 kw:∃ t fr,w.heap[1]?=some (.cells kwCells t fr)
theorem lt_of_heap {w:World}{g:Nat}{o:Obj}(h:w.heap[g]?=some o):g<w.heap.size:=by
 obtain⟨h,_⟩:=Array.getElem?_eq_some_iff.1 h;exact h
theorem Laid.below {w w':World}{B:Nat}(h:Laid w)(hb:Below B w w')(hB:w.heap.size≤B):Laid w':=by
 obtain⟨⟨t1,f1,h1⟩⟩:=h;exact⟨⟨t1,f1,by rw [hb.block _ (Nat.lt_of_lt_of_le (lt_of_heap h1) hB)];exact h1⟩⟩
theorem Laid.alloc {w:World}(h:Laid w)(o:Obj):Laid (w.alloc o):=h.below ((Below.refl _ _).alloc (Nat.le_refl _) o) (Nat.le_refl _)
end
section
open Lx Go.RowKit
theorem kw_index (k:Nat)(hk:k<17):∃ m:Bytes,kwList.drop k=m::kwList.drop (k+1)∧∀ w,(Instr.index 98 (.agg kwCells) (.int .i64 (k:Int))).run Tryd.prog w=.ok (.string ⟨m.toArray⟩) w:=by
 match k,hk with
 | 0,_=>exact⟨_,rfl,fun _=>by kernel_rfl⟩
 | 1,_=>exact⟨_,rfl,fun _=>by kernel_rfl⟩
 | 2,_=>exact⟨_,rfl,fun _=>by kernel_rfl⟩
 | 3,_=>exact⟨_,rfl,fun _=>by kernel_rfl⟩
 | 4,_=>exact⟨_,rfl,fun _=>by kernel_rfl⟩
 | 5,_=>exact⟨_,rfl,fun _=>by kernel_rfl⟩
 | 6,_=>exact⟨_,rfl,fun _=>by kernel_rfl⟩
 | 7,_=>exact⟨_,rfl,fun _=>by kernel_rfl⟩
 | 8,_=>exact⟨_,rfl,fun _=>by kernel_rfl⟩
 | 9,_=>exact⟨_,rfl,fun _=>by kernel_rfl⟩
 | 10,_=>exact⟨_,rfl,fun _=>by kernel_rfl⟩
 | 11,_=>exact⟨_,rfl,fun _=>by kernel_rfl⟩
 | 12,_=>exact⟨_,rfl,fun _=>by kernel_rfl⟩
 | 13,_=>exact⟨_,rfl,fun _=>by kernel_rfl⟩
 | 14,_=>exact⟨_,rfl,fun _=>by kernel_rfl⟩
 | 15,_=>exact⟨_,rfl,fun _=>by kernel_rfl⟩
 | 16,_=>exact⟨_,rfl,fun _=>by kernel_rfl⟩
 | n+17,h=>omega
theorem kw_cell (k:Nat)(hk:k<17):∃ m:Bytes,kwList.drop k=m::kwList.drop (k+1)∧kwCells[k]?=some (.string ⟨m.toArray⟩):=by
 match k,hk with
 | 0,_=>exact⟨_,rfl,rfl⟩
 | 1,_=>exact⟨_,rfl,rfl⟩
 | 2,_=>exact⟨_,rfl,rfl⟩
 | 3,_=>exact⟨_,rfl,rfl⟩
 | 4,_=>exact⟨_,rfl,rfl⟩
 | 5,_=>exact⟨_,rfl,rfl⟩
 | 6,_=>exact⟨_,rfl,rfl⟩
 | 7,_=>exact⟨_,rfl,rfl⟩
 | 8,_=>exact⟨_,rfl,rfl⟩
 | 9,_=>exact⟨_,rfl,rfl⟩
 | 10,_=>exact⟨_,rfl,rfl⟩
 | 11,_=>exact⟨_,rfl,rfl⟩
 | 12,_=>exact⟨_,rfl,rfl⟩
 | 13,_=>exact⟨_,rfl,rfl⟩
 | 14,_=>exact⟨_,rfl,rfl⟩
 | 15,_=>exact⟨_,rfl,rfl⟩
 | 16,_=>exact⟨_,rfl,rfl⟩
 | n+17,h=>omega
theorem contains_hit {l m:Bytes}{r x:List Bytes}(h:(l == m)=true)(hx:x=m::r):x.contains l=true:=by
 subst hx;simp only [List.contains_cons,h,Bool.true_or]
theorem contains_miss {l m:Bytes}{r x:List Bytes}(h:(l == m)=false)(hx:x=m::r):x.contains l=r.contains l:=by
 subst hx;simp only [List.contains_cons,h,Bool.false_or]
theorem beq_flip {l m:Bytes}{b:Bool}(h:(l == m)=b):(m == l)=b:=by
 rw [← h,Bool.eq_iff_iff,beq_iff_eq,beq_iff_eq];exact⟨Eq.symm,Eq.symm⟩
set_option maxHeartbeats 400000 in
theorem lex_Keyword (s:ByteArray)(w:World)(hL:Laid w):Calls Tryd.prog 61 #[.string s] w fun e w'=>e=.returned (.bool (isKeyword s.data.toList))∧w=w':=by
 obtain⟨t,fr,hg⟩:=hL.kw;clear hL;have HG:=Lib.hid hg;clear hg;go_enter Tryd.func61,Tryd.ntmps61
 go_wp2_with (refine wpList_load_row rfl 98 _ rfl 1 rfl t _ fr _ HG.out Tryd.underlying98 rfl (by kernel_rfl) ?_)
 go_loop [6] (fun i=>∃ k:Nat,k≤17∧i=.int .i64 k∧isKeyword s.data.toList=(kwList.drop k).contains s.data.toList) (fun i=>17-(intOf i).toNat)
 case atStart=>exact⟨0,by omega,rfl,rfl⟩
 case round =>
  obtain⟨k,hk,rfl,hr⟩:=hrel;have HR:=Lib.hid hr;clear hr
  by_cases hlt:k<17
  ·obtain⟨m,hm,hidx⟩:=kw_index k hlt;have HM:=Lib.hid hm;clear hm;cases he:s.toList == m
   ·have HE:=Lib.hid he;go_wp2_with fail
    go_round
    case rel=>exact⟨k+1,by omega,by go_num,by rw [HR.out,← ByteArray.toList_eq];exact contains_miss HE.out HM.out⟩
    case measure=>simp [intOf];omega
   ·have HE:=Lib.hid he;go_wp2_with fail;go_ret;exact⟨ret_bool (by rw [HR.out,← ByteArray.toList_eq];exact (contains_hit HE.out HM.out).symm),rfl⟩
  ·go_wp2_with fail;go_ret;exact⟨ret_bool (by rw [HR.out,List.drop_eq_nil_of_le (by simp [kwList];omega)];rfl),rfl⟩
set_option maxHeartbeats 400000 in
theorem ref_Keyword (s:ByteArray)(w:World):Calls Tryd.prog 43 #[.string s] w fun e w'=>e=.returned (.bool (isKeyword s.data.toList))∧Below w.heap.size w w':=by
 go_enter Tryd.func43,Tryd.ntmps43;go_wp2_with fail;generalize hW:w.alloc (Obj.cells _ _)=w1;have hb:Below w.heap.size w w1:=by rw [← hW];exact (Below.refl _ _).alloc (Nat.le_refl _) _
 have hc:∀ k,w1.cell? ⟨w.heap.size,k,none⟩=kwCells[k]?:=fun k=>by rw [← hW];exact World.cell?_alloc_new _ _ _ _
 have HC:=Lib.hid hc;clear hc hW
 go_loop [4] (fun i=>∃ k:Nat,k≤17∧i=.int .i64 k∧isKeyword s.data.toList=(kwList.drop k).contains s.data.toList) (fun i=>17-(intOf i).toNat)
 case atStart=>exact⟨0,by omega,rfl,rfl⟩
 case round =>
  obtain⟨k,hk,rfl,hr⟩:=hrel;have HR:=Lib.hid hr;clear hr
  by_cases hlt:k<17
  ·obtain⟨m,hm,hidx⟩:=kw_cell k hlt;have hcell:=(HC.out k).trans hidx;have HM:=Lib.hid hm;clear hm hidx;cases he:s.toList == m
   ·have HE:=Lib.hid he;have he':=beq_flip he;go_wp2_with fail
    go_round
    case rel=>exact⟨k+1,by omega,by go_num,by rw [HR.out,← ByteArray.toList_eq];exact contains_miss HE.out HM.out⟩
    case measure=>simp [intOf];omega
   ·have HE:=Lib.hid he;have he':=beq_flip he;go_wp2_with fail;go_ret;exact⟨ret_bool (by rw [HR.out,← ByteArray.toList_eq];exact (contains_hit HE.out HM.out).symm),hb⟩
  ·go_wp2_with fail;go_ret;exact⟨ret_bool (by rw [HR.out,List.drop_eq_nil_of_le (by simp [kwList];omega)];rfl),hb⟩
end
section
open Lx Go.RowKit
namespace Lx
def isIdent (l:Bytes):Bool:=match l with
 | []=>false
 | c::t=>decide (t.length<32) && isLetter c && (c::t).all isPart && !isKeyword (c::t)
theorem spanOf_all (p:UInt8→Bool)(l:Bytes):spanOf p l=l.length↔l.all p=true:=by
 induction l with
 | nil=>simp [spanOf]
 | cons c t ih =>
   have:=spanOf_le p t;cases h:p c <;> simp [spanOf,h] <;> simp at ih <;> omega
theorem list_of_pos (s:ByteArray)(h:0<s.size):s.data.toList=s[0]::s.data.toList.drop 1:=by
 have:=drop_cons s 0 h;simpa using this
theorem isEmpty_pos (s:ByteArray)(h:0<s.size):s.toList.isEmpty=false:=by rw [ByteArray.toList_eq,list_of_pos s h];rfl
theorem isEmpty_zero (s:ByteArray)(h:s.size=0):s.toList.isEmpty=true:=by
 rw [ByteArray.toList_eq,List.isEmpty_iff,← List.length_eq_zero_iff];simpa using h
theorem isIdent_pos (s:ByteArray)(h:0<s.size):isIdent s.data.toList=(decide (s.size≤32) && isLetter s[0] && s.data.toList.all isPart && !isKeyword s.data.toList):=by
 have e:=list_of_pos s h;have hl:(s.data.toList.drop 1).length=s.size-1:=by simp
 generalize hd:s.data.toList.drop 1=d at e hl;rw [e,isIdent,hl,Bool.eq_iff_iff];simp only [Bool.and_eq_true,decide_eq_true_eq];refine⟨fun ⟨⟨⟨a,b⟩,c⟩,d⟩=>⟨⟨⟨by omega,b⟩,c⟩,d⟩,fun ⟨⟨⟨a,b⟩,c⟩,d⟩=>⟨⟨⟨by omega,b⟩,c⟩,d⟩⟩
theorem isIdent_zero (s:ByteArray)(h:s.size=0):isIdent s.data.toList=false:=by
 have:s.data.toList=[]:=by rw [← List.length_eq_zero_iff];simpa using h
 rw [this];rfl
end Lx
end
section
namespace Lx
structure Tok where
 kind:Nat
 pos:Nat
 text:Bytes
 n:Nat
 deriving DecidableEq
inductive OneR where
 | ok (kind len n:Nat)
 | bad (e:Nat)
 deriving DecidableEq
def numVal (l:Bytes):Nat:=l.foldl (fun a c=>a*10+(c.toNat-48)) 0
def nextPart (l:Bytes):Bool:=match l with
 | []=>false
 | c::_=>isPart c
def markLen (l:Bytes):Option Nat:=(markList.find? (fun m=>m.isPrefixOf l)).map List.length
def wordTok (l:Bytes):OneR:=if 32<spanOf isPart l then .bad 3 else .ok (if isKeyword (l.take (spanOf isPart l)) then 2 else 1) (spanOf isPart l) 0
def numBad (l:Bytes):Bool:=(decide (l.head?=some 48) && decide (1<spanOf isDigit l)) || nextPart (l.drop (spanOf isDigit l))
def numTok (l:Bytes):OneR:=if numBad l then .bad 2
 else if 9223372036854775808≤numVal (l.take (spanOf isDigit l)) then .bad 4 else .ok 3 (spanOf isDigit l) (numVal (l.take (spanOf isDigit l)))
def markTok (l:Bytes):OneR:=match markLen l with
 | some n=>.ok 4 n 0
 | none=>.bad 2
/-- The token at the beginning of a text that is not empty. -/
def oneTok (l:Bytes):OneR:=match l with
 | []=>.bad 2
 | c::t=>if isLetter c then wordTok (c::t) else if isDigit c then numTok (c::t) else markTok (c::t)
def isSep (c:UInt8):Bool:=decide (c.toNat=32∨c.toNat=9∨c.toNat=13∨c.toNat=10)
def opens (c:UInt8)(t:Bytes):Bool:=decide (c.toNat=47) && decide (t.head?=some 47)
/-- What is left behind the separators and comments (true: the text begins inside a comment). -/
def skipB:Bool→Bytes→Bytes
 | _,[]=>[]
 | true,c::t=>if c.toNat=10 then skipB false t else skipB true t
 | false,c::t=>if isSep c then skipB false t else if opens c t then skipB true t else c::t
theorem skipB_suffix (b:Bool)(l:Bytes):skipB b l <:+ l:=by
 induction l generalizing b with
 | nil=>simp [skipB]
 | cons c t ih =>
   cases b
   ·simp only [skipB];split
    ·exact (ih _).trans (List.suffix_cons _ _)
    ·split
     ·exact (ih _).trans (List.suffix_cons _ _)
     ·exact List.suffix_refl _
   ·simp only [skipB];split <;> exact (ih _).trans (List.suffix_cons _ _)
theorem skipB_le (b:Bool)(l:Bytes):(skipB b l).length≤l.length:=(skipB_suffix b l).length_le
abbrev LexR:=Except (Nat×Nat) (List Tok)
def after (out:List Tok):LexR→LexR
 | .error x=>.error x
 | .ok ts=>.ok (out++ts)
/-- The tokens of a text that begins at an offset. -/
def toks:Nat→Bool→Nat→Bytes→LexR
 | 0,_,_,_=>.error (0,0)
 | f+1,b,p,l =>
   let r:=skipB b l
   let q:=p+(l.length-r.length)
   match r with
   | []=>.ok [⟨5,q,[],0⟩]
   | c::t=>match oneTok (c::t) with
     | .bad e=>.error (q,e)
     | .ok k m n=>after [⟨k,q,(c::t).take m,n⟩] (toks f false (q+m) ((c::t).drop m))
theorem spanOf_pos (p:UInt8→Bool)(c:UInt8)(t:Bytes)(h:p c=true):0<spanOf p (c::t):=by simp [spanOf,h]
theorem part_of_letter {c:UInt8}(h:isLetter c=true):isPart c=true:=by simp [isPart,h]
theorem markLen_bounds {l:Bytes}{m:Nat}(h:markLen l=some m):0<m∧m≤l.length:=by
 simp only [markLen,Option.map_eq_some_iff] at h;obtain⟨x,hx,rfl⟩:=h;have h1:=List.find?_some hx;have h2:=List.mem_of_find?_eq_some hx;refine⟨?_,(List.isPrefixOf_iff_prefix.1 h1).length_le⟩;have:∀ y∈markList,0<y.length:=by decide
 exact this x h2
theorem oneTok_bounds {l:Bytes}{k m n:Nat}(h:oneTok l=.ok k m n):0<m∧m≤l.length:=by
 cases l with
 | nil=>simp [oneTok] at h
 | cons c t =>
   simp only [oneTok] at h
   by_cases h1:isLetter c=true
   ·rw [if_pos h1] at h;simp only [wordTok] at h;split at h
    ·simp at h
    ·simp only [OneR.ok.injEq] at h;rw [← h.2.1];exact⟨spanOf_pos _ _ _ (part_of_letter h1),spanOf_le _ _⟩
   ·rw [if_neg h1] at h
    by_cases h2:isDigit c=true
    ·rw [if_pos h2] at h;simp only [numTok] at h;split at h
     ·simp at h
     ·split at h
      ·simp at h
      ·simp only [OneR.ok.injEq] at h;rw [← h.2.1];exact⟨spanOf_pos _ _ _ h2,spanOf_le _ _⟩
    ·rw [if_neg h2] at h;simp only [markTok] at h;cases hm:markLen (c::t) with
     | none=>rw [hm] at h;simp at h
     | some x =>
       rw [hm] at h;simp only [OneR.ok.injEq] at h;rw [← h.2.1];exact markLen_bounds hm
theorem toks_fuel (f:Nat):∀ (g:Nat) (b:Bool) (p:Nat) (l:Bytes),l.length<f→l.length<g→toks f b p l=toks g b p l:=by
 induction f with
 | zero=>intro g b p l h;omega
 | succ f ih =>
   intro g b p l hf hg;cases g with
   | zero=>omega
   | succ g =>
     have hle:=skipB_le b l;simp only [toks];generalize skipB b l=r at hle ⊢;cases r with
     | nil=>rfl
     | cons c t =>
       simp only;cases ho:oneTok (c::t) with
       | bad e=>rfl
       | ok k m n =>
         have hb:=oneTok_bounds ho;simp only;rw [ih g false _ _ (by rw [List.length_drop];omega) (by rw [List.length_drop];omega)]
def lexAt (b:Bool)(p:Nat)(l:Bytes):LexR:=toks (l.length+1) b p l
def tokensOf (l:Bytes):LexR:=if 65536<l.length then .error (0,3) else lexAt false 0 l
theorem lexAt_eq (b:Bool)(p:Nat)(l:Bytes):lexAt b p l=match skipB b l with
  | []=>.ok [⟨5,p+l.length,[],0⟩]
  | c::t=>match oneTok (c::t) with
    | .bad e=>.error (p+(l.length-(t.length+1)),e)
    | .ok k m n=>after [⟨k,p+(l.length-(t.length+1)),(c::t).take m,n⟩] (lexAt false (p+(l.length-(t.length+1))+m) ((c::t).drop m)):=by
 have hle:=skipB_le b l;rw [show lexAt b p l=toks (l.length+1) b p l from rfl,toks];generalize skipB b l=r at hle ⊢;cases r with
 | nil=>simp
 | cons c t =>
   simp only [List.length_cons];cases ho:oneTok (c::t) with
   | bad e=>rfl
   | ok k m n =>
     have hb:=oneTok_bounds ho;simp only;rw [toks_fuel l.length _ false _ _ (by rw [List.length_drop];simp at *;omega) (Nat.lt_succ_self _)];rfl
theorem lexAt_nil (b:Bool)(p:Nat):lexAt b p []=.ok [⟨5,p,[],0⟩]:=by
 rw [lexAt_eq];cases b <;> simp [skipB]
theorem lexAt_of_skip {b b':Bool}{p:Nat}{c:UInt8}{t:Bytes}(h:skipB b (c::t)=skipB b' t):lexAt b p (c::t)=lexAt b' (p+1) t:=by
 have hle:=skipB_le b' t;rw [lexAt_eq,lexAt_eq b',h];generalize skipB b' t=r at hle ⊢;cases r with
 | nil=>simp;omega
 | cons d u =>
   simp only [List.length_cons] at hle ⊢;have e:p+(t.length+1-(u.length+1))=p+1+(t.length-(u.length+1)):=by omega
   rw [e]
theorem lexAt_sep {p:Nat}{c:UInt8}{t:Bytes}(h:isSep c=true):lexAt false p (c::t)=lexAt false (p+1) t:=lexAt_of_skip (by simp [skipB,h])
theorem lexAt_bad {p e:Nat}{c:UInt8}{t:Bytes}(h:isSep c=false)(h2:opens c t=false)(ho:oneTok (c::t)=.bad e):lexAt false p (c::t)=.error (p,e):=by
 rw [lexAt_eq];simp [skipB,h,h2,ho]
theorem lexAt_ok {p k m n:Nat}{c:UInt8}{t:Bytes}(h:isSep c=false)(h2:opens c t=false)(ho:oneTok (c::t)=.ok k m n) :
  lexAt false p (c::t)=after [⟨k,p,(c::t).take m,n⟩] (lexAt false (p+m) ((c::t).drop m)):=by
 rw [lexAt_eq];simp [skipB,h,h2,ho]
theorem after_after (a b:List Tok)(r:LexR):after a (after b r)=after (a++b) r:=by
 cases r <;> simp [after]
theorem after_nil (r:LexR):after [] r=r:=by cases r <;> simp [after]
end Lx
end
section
open Lx Go.RowKit
theorem strOf_data (l:Bytes):(strOf l).data.toList=l:=by simp [strOf]
theorem strOf_size (l:Bytes):(strOf l).size=l.length:=by simp [strOf,ByteArray.size]
theorem strOf_of (s:ByteArray):s=strOf s.data.toList:=by cases s;simp [strOf]
theorem bytes_ext {a b:ByteArray}(h:a.data.toList=b.data.toList):a=b:=by
 cases a;cases b;simp at h;simpa using h
theorem extract_strOf (s:ByteArray)(a b:Nat):s.extract a b=strOf ((s.data.toList.drop a).take (b-a)):=by
 apply bytes_ext;rw [strOf_data,Lib.extract_data]
end
section
open Lx Go.RowKit
def tokAgg (kind pos:Nat)(text:Bytes)(n:Nat):Value:=.agg #[.int .i64 kind,.int .i64 pos,.string (strOf text),.int .i64 n]
def oneV (r:OneR)(l:Bytes)(pos:Nat):Value:=match r with
 | .bad e=>.tuple #[tokAgg 0 0 [] 0,.int .i64 e]
 | .ok k m n=>.tuple #[tokAgg k pos (l.take m) n,.int .i64 0]
def OneP (r:OneR)(l:Bytes)(pos:Nat)(w:World)(e:Ending)(w':World):Prop:=e=.returned (oneV r l pos)∧Below w.heap.size w w'
theorem wordTok_eq (l:Bytes):wordTok l=if 32<spanOf isPart l then .bad 3 else .ok (if isKeyword (l.take (spanOf isPart l)) then 2 else 1) (spanOf isPart l) 0:=rfl
end
section
namespace Lx
def numFrom (acc:Nat)(l:Bytes):Nat:=l.foldl (fun a c=>a*10+(c.toNat-48)) acc
theorem numFrom_cons (acc:Nat)(c:UInt8)(l:Bytes):numFrom acc (c::l)=numFrom (acc*10+(c.toNat-48)) l:=by unfold numFrom;rw [List.foldl_cons]
theorem numFrom_ge (l:Bytes):∀ acc,acc≤numFrom acc l:=by
 induction l with
 | nil=>intro acc;exact Nat.le_refl _
 | cons c t ih=>intro acc;rw [numFrom_cons];have:=ih (acc*10+(c.toNat-48));omega
theorem take_span_all (p:UInt8→Bool)(l:Bytes):(l.take (spanOf p l)).all p=true:=by
 induction l with
 | nil=>simp
 | cons c t ih =>
   simp only [spanOf];split
   ·rename_i h;simp only [List.take_succ_cons,List.all_cons,h,ih,Bool.true_and]
   ·simp
theorem nextPart_lt (s:ByteArray)(k:Nat)(h:k<s.size):nextPart (s.data.toList.drop k)=isPart s[k]:=by rw [drop_cons s k h];rfl
theorem nextPart_ge (s:ByteArray)(k:Nat)(h:s.size≤k):nextPart (s.data.toList.drop k)=false:=by rw [List.drop_eq_nil_of_le (by rw [len_list];exact h)];rfl
theorem numTok_eq (l:Bytes):numTok l=if numBad l then .bad 2 else if 9223372036854775808≤numVal (l.take (spanOf isDigit l)) then .bad 4 else .ok 3 (spanOf isDigit l) (numVal (l.take (spanOf isDigit l))):=rfl
end Lx
end
section
open Lx Go.RowKit
theorem bcell {W w1:World}(hb:Below W.heap.size W w1):(∀ b o,b<W.heap.size→w1.cell? ⟨b,o,none⟩=W.cell? ⟨b,o,none⟩)∧(∀ b o,b<W.heap.size→w1.frozen? ⟨b,o,none⟩=W.frozen? ⟨b,o,none⟩) :=
 ⟨fun b o h=>hb.cell (p:=⟨b,o,none⟩) h,fun b o h=>hb.frozen (p:=⟨b,o,none⟩) h⟩
theorem below_set4 {w0 w:World}{B b:Nat}(h:Below B w0 w)(hb:B≤b)(v0 v1 v2 v3:Value) :
  Below B w0 ((((w.setCell ⟨b,0,none⟩ v0).setCell ⟨b,1,none⟩ v1).setCell ⟨b,2,none⟩ v2).setCell ⟨b,3,none⟩ v3) :=
 (((h.setCell hb _).setCell hb _).setCell hb _).setCell hb _
end
section
open Lx Go.RowKit
theorem oneV_form (r:OneR)(l:Bytes)(pos:Nat):∃ k p x n e,oneV r l pos=.tuple #[.agg #[.int .i64 k,.int .i64 p,.string x,.int .i64 n],.int .i64 e]:=by
 cases r <;> exact⟨_,_,_,_,_,rfl⟩
end
end Go.Proofs.YtmlafcimjhnhhaaDoor
