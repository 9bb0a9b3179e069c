/-
  The lexer's predicates on bytes, walked.
-/
import Derived.Test.YtoookjadbhdfhaaGreatDoorProg
import Derived.Test.YtoookjadbhdfhaaGreatDoorUJpAk
import Derived.WalkKit
import Derived.WalkLawsBesides
import Derived.Lib.Hide
import Derived.LoopTactic
import Derived.Laws.Rows
import Derived.Lib.Strings
import Derived.Outline
import Derived.Lib.ParseIntB
import Derived.Test.YtoookjadbhdfhaaGreatDoorShelf
import Derived.Lib.AtoiErrMem
import Derived.Laws.RangeAny
import Derived.Lib.OthersKept
import Derived.OwnWalk
import Derived.WalkSmall
import Derived.Lib.IndexBytes
set_option linter.unusedSectionVars false
set_option linter.unusedSimpArgs false
set_option linter.unnecessarySimpa false
set_option linter.unusedVariables false
namespace Go.Proofs.YtoookjadbhdfhaaGreatDoor
section
open Lx
theorem ret_bool {a b:Bool}(h:a=b):Ending.returned (.bool a)=.returned (.bool b):=by rw [h]
theorem ret_int {k:IntKind}{a b:Int}(h:a=b):Ending.returned (.int k a)=.returned (.int k b):=by rw [h]
theorem lex_letter (c:UInt8)(w:World):Calls Tryz.prog 67 #[.int .u8 (c.toNat:Int)] w fun e w'=>e=.returned (.bool (isLetter c))∧w=w':=by
 have hc:=c.toNat_lt;go_enter Tryz.func67,Tryz.ntmps67
 go_wp2
 all_goals
  go_ret;exact⟨ret_bool (by rw [Bool.eq_iff_iff];simp [isLetter];omega),rfl⟩
theorem lex_digit (c:UInt8)(w:World):Calls Tryz.prog 87 #[.int .u8 (c.toNat:Int)] w fun e w'=>e=.returned (.bool (isDigit c))∧w=w':=by
 have hc:=c.toNat_lt;go_enter Tryz.func87,Tryz.ntmps87
 go_wp2
 all_goals
  go_ret;exact⟨ret_bool (by rw [Bool.eq_iff_iff];simp [isDigit];omega),rfl⟩
theorem lex_part (c:UInt8)(w:World):Calls Tryz.prog 69 #[.int .u8 (c.toNat:Int)] w fun e w'=>e=.returned (.bool (isPart c))∧w=w':=by
 have hc:=c.toNat_lt;go_enter Tryz.func69,Tryz.ntmps69
 go_wp2_with (first | (go_at_call 67;refine (lex_letter _ _).mono ?_;rintro e w' ⟨rfl,rfl⟩) | (go_at_call 87;refine (lex_digit _ _).mono ?_;rintro e w' ⟨rfl,rfl⟩))
 all_goals
  go_ret;exact⟨ret_bool (by simp_all [isPart];try (rw [Bool.eq_iff_iff];simp;omega)),rfl⟩
end
section
open Lx Go.RowKit
set_option maxHeartbeats 400000 in
theorem lex_span_part (s:ByteArray)(w:World)(hs:s.size≤maxLen):Calls Tryz.prog 68 #[.string s,.func (.func 69) #[] #[]] w fun e w'=>e=.returned (.int .i64 (spanOf isPart s.data.toList:Nat))∧w=w':=by
 unfold maxLen at hs;go_enter Tryz.func68,Tryz.ntmps68;go_wp2_with fail
 go_loop [5] (fun n=>∃ k:Nat,k≤s.size∧n=.int .i64 k∧spanOf isPart s.data.toList=k+spanOf isPart (s.data.toList.drop k)) (fun n=>s.size-(intOf n).toNat)
 case atStart=>exact⟨0,Nat.zero_le _,rfl,by simp⟩
 case round =>
  obtain⟨k,hk,rfl,hr⟩:=hrel;have HR:=Lib.hid hr;clear hr
  by_cases hlt:k<s.size
  ·cases hp:isPart s[k]
   ·have HP:=Lib.hid hp
    go_wp2_with (go_at_call 69;refine (lex_part _ _).mono ?_;rintro e w' ⟨rfl,rfl⟩)
    go_ret;exact⟨ret_int (by rw [HR.out,spanOf_stop _ _ _ hlt HP.out];simp),rfl⟩
   ·have HP:=Lib.hid hp
    go_wp2_with (go_at_call 69;refine (lex_part _ _).mono ?_;rintro e w' ⟨rfl,rfl⟩)
    go_round
    case rel=>exact⟨k+1,by omega,by go_num,by rw [HR.out,spanOf_go _ _ _ hlt HP.out];omega⟩
    case measure=>simp [intOf];omega
  ·go_wp2_with fail;go_ret;exact⟨ret_int (by rw [HR.out,spanOf_end _ _ _ (by omega)];simp),rfl⟩
end
section
open Lx Go.RowKit
namespace Lx
def kwList:List Bytes:=[[99,108,97,115,115],[101,120,116,101,110,100,115],[118,97,114],[100,101,102],[115,116,97,116,105,99],[105,102],[101,108,115,101],[119,104,105,108,101],[116,114,121],[99,97,116,99,104],[116,104,114,111,119],[114,101,116,117,114,110],[110,101,119],[110,117,108,108],[116,104,105,115],[105,110,112,117,116],[105,110,116]]
def isKeyword (l:Bytes):Bool:=kwList.contains l
def strOf (l:Bytes):ByteArray:=⟨l.toArray⟩
end Lx
def kwCells:Array Value:=#[.string ⟨#[99,108,97,115,115]⟩,.string ⟨#[101,120,116,101,110,100,115]⟩,.string ⟨#[118,97,114]⟩,.string ⟨#[100,101,102]⟩,.string ⟨#[115,116,97,116,105,99]⟩,.string ⟨#[105,102]⟩,.string ⟨#[101,108,115,101]⟩,.string ⟨#[119,104,105,108,101]⟩,.string ⟨#[116,114,121]⟩,.string ⟨#[99,97,116,99,104]⟩,.string ⟨#[116,104,114,111,119]⟩,.string ⟨#[114,101,116,117,114,110]⟩,.string ⟨#[110,101,119]⟩,.string ⟨#[110,117,108,108]⟩,.string ⟨#[116,104,105,115]⟩,.string ⟨#[105,110,112,117,116]⟩,.string ⟨#[105,110,116]⟩]
structure Laid (w:World):Prop where
 kw:∃ t fr,w.heap[0]?=some (.cells kwCells t fr)
theorem lt_of_heap {w:World}{g:Nat}{o:Obj}(h:w.heap[g]?=some o):g<w.heap.size:=by
 obtain⟨h,_⟩:=Array.getElem?_eq_some_iff.1 h;exact h
theorem Laid.below {w w':World}{B:Nat}(h:Laid w)(hb:Below B w w')(hB:w.heap.size≤B):Laid w':=by
 obtain⟨⟨t1,f1,h1⟩⟩:=h;exact⟨⟨t1,f1,by rw [hb.block _ (Nat.lt_of_lt_of_le (lt_of_heap h1) hB)];exact h1⟩⟩
theorem Laid.alloc {w:World}(h:Laid w)(o:Obj):Laid (w.alloc o):=h.below ((Below.refl _ _).alloc (Nat.le_refl _) o) (Nat.le_refl _)
end
section
open Lx Go.RowKit
theorem kw_index (k:Nat)(hk:k<17):∃ m:Bytes,kwList.drop k=m::kwList.drop (k+1)∧∀ w,(Instr.index 138 (.agg kwCells) (.int .i64 (k:Int))).run Tryz.prog w=.ok (.string ⟨m.toArray⟩) w:=by
 match k,hk with
 | 0,_=>exact⟨_,rfl,fun _=>by kernel_rfl⟩
 | 1,_=>exact⟨_,rfl,fun _=>by kernel_rfl⟩
 | 2,_=>exact⟨_,rfl,fun _=>by kernel_rfl⟩
 | 3,_=>exact⟨_,rfl,fun _=>by kernel_rfl⟩
 | 4,_=>exact⟨_,rfl,fun _=>by kernel_rfl⟩
 | 5,_=>exact⟨_,rfl,fun _=>by kernel_rfl⟩
 | 6,_=>exact⟨_,rfl,fun _=>by kernel_rfl⟩
 | 7,_=>exact⟨_,rfl,fun _=>by kernel_rfl⟩
 | 8,_=>exact⟨_,rfl,fun _=>by kernel_rfl⟩
 | 9,_=>exact⟨_,rfl,fun _=>by kernel_rfl⟩
 | 10,_=>exact⟨_,rfl,fun _=>by kernel_rfl⟩
 | 11,_=>exact⟨_,rfl,fun _=>by kernel_rfl⟩
 | 12,_=>exact⟨_,rfl,fun _=>by kernel_rfl⟩
 | 13,_=>exact⟨_,rfl,fun _=>by kernel_rfl⟩
 | 14,_=>exact⟨_,rfl,fun _=>by kernel_rfl⟩
 | 15,_=>exact⟨_,rfl,fun _=>by kernel_rfl⟩
 | 16,_=>exact⟨_,rfl,fun _=>by kernel_rfl⟩
 | n+17,h=>omega
theorem contains_hit {l m:Bytes}{r x:List Bytes}(h:(l == m)=true)(hx:x=m::r):x.contains l=true:=by
 subst hx;simp only [List.contains_cons,h,Bool.true_or]
theorem contains_miss {l m:Bytes}{r x:List Bytes}(h:(l == m)=false)(hx:x=m::r):x.contains l=r.contains l:=by
 subst hx;simp only [List.contains_cons,h,Bool.false_or]
end
section
open Lx Go.RowKit
namespace Lx
def isIdent (l:Bytes):Bool:=match l with
 | []=>false
 | c::t=>decide (t.length<32) && isLetter c && (c::t).all isPart && !isKeyword (c::t)
theorem spanOf_all (p:UInt8→Bool)(l:Bytes):spanOf p l=l.length↔l.all p=true:=by
 induction l with
 | nil=>simp [spanOf]
 | cons c t ih =>
   have:=spanOf_le p t;cases h:p c <;> simp [spanOf,h] <;> simp at ih <;> omega
theorem list_of_pos (s:ByteArray)(h:0<s.size):s.data.toList=s[0]::s.data.toList.drop 1:=by
 have:=drop_cons s 0 h;simpa using this
theorem isEmpty_pos (s:ByteArray)(h:0<s.size):s.toList.isEmpty=false:=by rw [ByteArray.toList_eq,list_of_pos s h];rfl
theorem isEmpty_zero (s:ByteArray)(h:s.size=0):s.toList.isEmpty=true:=by
 rw [ByteArray.toList_eq,List.isEmpty_iff,← List.length_eq_zero_iff];simpa using h
theorem isIdent_pos (s:ByteArray)(h:0<s.size):isIdent s.data.toList=(decide (s.size≤32) && isLetter s[0] && s.data.toList.all isPart && !isKeyword s.data.toList):=by
 have e:=list_of_pos s h;have hl:(s.data.toList.drop 1).length=s.size-1:=by simp
 generalize hd:s.data.toList.drop 1=d at e hl;rw [e,isIdent,hl,Bool.eq_iff_iff];simp only [Bool.and_eq_true,decide_eq_true_eq];refine⟨fun ⟨⟨⟨a,b⟩,c⟩,d⟩=>⟨⟨⟨by omega,b⟩,c⟩,d⟩,fun ⟨⟨⟨a,b⟩,c⟩,d⟩=>⟨⟨⟨by omega,b⟩,c⟩,d⟩⟩
theorem isIdent_zero (s:ByteArray)(h:s.size=0):isIdent s.data.toList=false:=by
 have:s.data.toList=[]:=by rw [← List.length_eq_zero_iff];simpa using h
 rw [this];rfl
end Lx
end
section
namespace Lx
structure Tok where
 kind:Nat
 pos:Nat
 text:Bytes
 n:Nat
 deriving DecidableEq
inductive OneR where
 | ok (kind len n:Nat)
 | bad (e:Nat)
 deriving DecidableEq
abbrev LexR:=Except (Nat×Nat) (List Tok)
def after (out:List Tok):LexR→LexR
 | .error x=>.error x
 | .ok ts=>.ok (out++ts)
end Lx
end
section
open Lx Go.RowKit
theorem strOf_of (s:ByteArray):s=strOf s.data.toList:=by cases s;simp [strOf]
end
section
open Lx Go.RowKit
def tokAgg (kind pos:Nat)(text:Bytes)(n:Nat):Value:=.agg #[.int .i64 kind,.int .i64 pos,.string (strOf text),.int .i64 n]
def oneV (r:OneR)(l:Bytes)(pos:Nat):Value:=match r with
 | .bad e=>.tuple #[tokAgg 0 0 [] 0,.int .i64 e]
 | .ok k m n=>.tuple #[tokAgg k pos (l.take m) n,.int .i64 0]
end
section
namespace Lx
end Lx
end
section
open Lx Go.RowKit
end
section
open Lx Go.RowKit
end
section
open Lx Go.RowKit
namespace Lx
end Lx
end
section
open Lx Go.RowKit
end
section
open Lx Go.RowKit
/-- A slice value that reads as a list of tokens. -/
def HasToks (w:World)(v:Value)(ts:List Tok):Prop :=
 (v=.slice none 0 0∧ts=[])∨∃ g cap,v=.slice (some ⟨g,0,none⟩) ts.length cap∧ts.length≤maxLen∧∀ i (h:i<ts.length),w.cell? ⟨g,i*4,none⟩=some (.int .i64 (ts[i].kind:Int))∧w.cell? ⟨g,i*4+1,none⟩=some (.int .i64 (ts[i].pos:Int)) ∧
  w.cell? ⟨g,i*4+2,none⟩=some (.string (strOf ts[i].text))∧w.cell? ⟨g,i*4+3,none⟩=some (.int .i64 (ts[i].n:Int))
theorem HasToks.below {w w':World}{v:Value}{ts:List Tok}(h:HasToks w v ts)(hb:Below w.heap.size w w'):HasToks w' v ts:=by
 rcases h with h | ⟨g,cap,hv,hm,hc⟩
 ·exact .inl h
 ·refine .inr ⟨g,cap,hv,hm,fun i hi=>?_⟩;obtain⟨h0,h1,h2,h3⟩:=hc i hi;have hlt:g<w.heap.size:=World.block_lt_of_cell? w _ h0;exact⟨(hb.cell (p:=⟨g,_,none⟩) hlt).trans h0,(hb.cell (p:=⟨g,_,none⟩) hlt).trans h1,(hb.cell (p:=⟨g,_,none⟩) hlt).trans h2,(hb.cell (p:=⟨g,_,none⟩) hlt).trans h3⟩
end
end Go.Proofs.YtoookjadbhdfhaaGreatDoor
