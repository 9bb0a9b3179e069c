/-
  AX: one more row for an own list in a drawn region; results that hold own lists.
-/
import Derived.Test.YtoookjadbhdfhaaDoorTJpAm
import Derived.WalkKit
import Derived.Test.YtoookjadbhdfhaaDoorProg
import Derived.WalkLawsBesides
import Derived.Lib.Hide
import Derived.LoopTactic
import Derived.Laws.Rows
import Derived.Lib.Strings
import Derived.Outline
import Derived.Lib.ParseIntB
import Derived.Test.YtoookjadbhdfhaaDoorShelf
import Derived.Lib.AtoiErrMem
set_option linter.unusedSectionVars false
set_option linter.unusedSimpArgs false
set_option linter.unnecessarySimpa false
set_option linter.unusedVariables false
set_option linter.unusedSimpArgs false
set_option linter.unusedVariables false
namespace Go.Proofs.YtoookjadbhdfhaaDoor
section
namespace Ax
section
variable {P:Program} {G:Nat→CV} {n:Nat} {e:Env} {H:Heap} {nx nx0 kp ne:Nat} {ops:Array Oper} {os:List Oper} {d:Option Nat} {ty:TypeId} {pos:String} {af:Array Edge} {g:Option (Nat×Bool)} {K:Env→Heap→Nat→Prop} {Q:AExit→Env→Heap→Nat→Prop}
theorem app_key {α:Type}{cv:α→List CV}{k:Nat}{t el:TypeId}{s b1:Nat}{z:Value}{i:TI}(ht:ti P t=some ⟨.slice el,s,z,b1⟩)(hi:ti P el=some i)(hk:i.size=k)(hz:i.zero.cells.size=k)(hk0:0<k)(hby:i.bytes≤1000)
  (hcv:∀ a,(cv a).length=k) (hone:∀ a,(cv a).all CV.one=true) {c:CV} {l:List α} {x:Nat} {u:α} (ho:OwnL cv k H ne c l) (hxb:H x=some (.cells (cv u))) (hn:l.length<1000000000) :
  ∃ d',appA P H ne t t c (.sl x 0 1 k)=some (.sl ne 0 (l.length+1) k,d')∧d'.on H=true∧d'.nx ne=ne+1∧d'.hp H ne ne=some (.cells ((l++[u]).flatMap cv))∧∀ b,b<ne→(∀ b',c=.sl b' 0 l.length k→b≠b')→(d'.hp H ne) b=H b:=by
 rcases ho with⟨rfl,rfl⟩ | ⟨b,rfl,hb,hlt⟩
 ·refine⟨_,app_row0 ht hi hk hz hk0 hxb (hcv u) (hone u) hby,rfl,rfl,by simp [Dl.hp,Ax.upd],fun b hb _=>?_⟩;simp only [Dl.hp];exact upd_miss _ _ _ _ (by omega)
 ·refine⟨_,app_row ht hi hk hz hk0 hb (flatMap_len hcv l) hxb (hcv u) (hone u) (by omega) hby,rfl,rfl,by simp [Dl.hp,Ax.upd,List.flatMap_append],fun b' hb' hne=>?_⟩;simp only [Dl.hp];rw [upd_miss _ _ _ _ (by omega),drp_miss _ _ _ (hne b rfl)]
/-- The same in a region in the text's order, with a known block. -/
theorem AOpl.appRow2 {α:Type}{cv:α→List CV}{k:Nat}{t el:TypeId}{s b1:Nat}{z:Value}{i:TI}(ht:ti P t=some ⟨.slice el,s,z,b1⟩)(hi:ti P el=some i)(hk:i.size=k)(hz:i.zero.cells.size=k)(hk0:0<k)(hby:i.bytes≤1000)
  (hcv:∀ a,(cv a).length=k) (hone:∀ a,(cv a).all CV.one=true) {so xo:Operand} {c:CV} {l:List α} {x:Nat} {u:α} (hd:okD n d=true) (hg:gd ops e ⟨d,.call ⟨.builtin .append,#[so,xo],#[t,t]⟩,ty,pos,af,g⟩=some true)
  (hs:rd G e so=c) (hx:rd G e xo=.sl x 0 1 k) (ho:OwnL cv k H nx c l) (hxb:H x=some (.cells (cv u))) (hn:l.length<1000000000)
  (h:∀ H',H' nx=some (.cells ((l++[u]).flatMap cv))→(∀ b,b<nx→(∀ b',c=.sl b' 0 l.length k→b≠b')→H' b=H b)→AOpl P G n ops os (putE e d (.sl nx 0 (l.length+1) k)) H' (nx+1) Q) :
  AOpl P G n ops (⟨d,.call ⟨.builtin .append,#[so,xo],#[t,t]⟩,ty,pos,af,g⟩::os) e H nx Q:=by
 obtain⟨d',h1,h2,h3,h4,h5⟩:=app_key ht hi hk hz hk0 hby hcv hone ho hxb hn;refine Xa hd hg (c:=.sl nx 0 (l.length+1) k) (H':=d'.hp H nx) (nx':=nx+1) ?_ (h _ h4 h5);simp [stepS,qstep,bltA,astep,estep,hs,hx,h1,h3]
end
section
variable {P:Program} {G:Nat→CV} {n:Nat} {e:Env} {H:Heap} {nx:Nat} {Q:AExit→Env→Heap→Nat→Prop} {ops:Array Oper} {os:List Oper} {d:Option Nat} {op:Op} {ty:TypeId} {pos:String} {af:Array Edge} {g:Option (Nat×Bool)}
end
end Ax
end
section
namespace Ax
theorem Rep.freeze2 {M:Mp}{H:Heap}{nx:Nat}{w:World}(r:Rep M H nx w){b x:Nat}{cs cx cx':List CV}(hb:H b=some (.cells cs))(hx:H x=some (.cells cx))(hne:x≠b)(hv:FVL b cs cx cx') :
  ∃ M',Ext M M'∧Rep M' (upd (drp H b) x (.cells cx')) nx w∧Fr H M nx w (upd (drp H b) x (.cells cx')) M' nx w∧∀ {c c':CV} {v:Value},FV b cs c c'→RV M c v→RV M' c' v:=by
 obtain⟨M',he,r',f',hf⟩:=r.freeze hb;obtain⟨g,m,h1,arr,T,h2,h3,h4⟩:=r.blk x _ hx;have hx':drp H b x=some (.cells cx):=by rw [drp_miss _ _ _ hne];exact hx
 obtain⟨r2,f2⟩:=r'.write (w':=w) x (.cells cx) (.cells cx') g m hx' (he.bk _ _ h1) rfl (fun _ _=>rfl) rfl rfl rfl ⟨arr,T,h2,h3,by
  rw [hv.1];refine⟨by rw [hv.1];exact h4.1,fun j a c=>?_⟩;have hj:j<cx.length:=by rw [← hv.1];exact a
  exact hf (hv.2 j hj a) (h4.2 j hj c)⟩
 exact⟨M',he,r2,f'.trans f2,hf⟩
section
variable {P:Program} {G:Nat→CV} {n:Nat} {e e':Env} {H:Heap} {nx:Nat} {Q:AExit→Env→Heap→Nat→Prop} {ops:Array Oper} {os:List Oper} {b x:Nat} {cs cx cx':List CV}
theorem AWp.frz2 {c:Code}(hb:H b=some (.cells cs))(hx:H x=some (.cells cx))(hne:x≠b)(hv:FVL b cs cx cx')(h:AWp P G n c e (upd (drp H b) x (.cells cx')) nx Q):AWp P G n c e H nx Q:=fun M a w g r v=>by
 obtain⟨M',he,r',f',hf⟩:=r.freeze2 hb hx hne hv;exact wp_mono (h M' a w (g.ext he) r' (v.ext he)) fun _ _ _ hp=>hp.trans f'
/-- A block is said less. -/
theorem AWp.wkH {c:Code}(hx:H x=some (.cells cx))(hw:WkL cx cx')(h:AWp P G n c e (upd H x (.cells cx')) nx Q):AWp P G n c e H nx Q:=fun M a w g r v=>by
 obtain⟨gg,m,h1,arr,T,h2,h3,h4⟩:=r.blk x _ hx;obtain⟨r2,f2⟩:=r.write (w':=w) x (.cells cx) (.cells cx') gg m hx h1 rfl (fun _ _=>rfl) rfl rfl rfl ⟨arr,T,h2,h3,by
  rw [hw.1];refine⟨by rw [hw.1];exact h4.1,fun j a c=>?_⟩;have hj:j<cx.length:=by rw [← hw.1];exact a
  exact (h4.2 j hj c).wk (hw.2 j hj a)⟩
 exact wp_mono (h M a w g r2 v) fun _ _ _ hp=>hp.trans f2
end
end Ax
end
section
namespace Lx
abbrev Bytes:=List UInt8
def isLetter (c:UInt8):Bool:=decide (97≤c.toNat∧c.toNat≤122∨65≤c.toNat∧c.toNat≤90)
def isDigit (c:UInt8):Bool:=decide (48≤c.toNat∧c.toNat≤57)
def isPart (c:UInt8):Bool:=isLetter c || isDigit c || decide (c.toNat=95)
/-- How many bytes at the beginning are of a kind. -/
def spanOf (p:UInt8→Bool):Bytes→Nat
 | []=>0
 | c::t=>if p c then spanOf p t+1 else 0
theorem spanOf_le (p:UInt8→Bool)(l:Bytes):spanOf p l≤l.length:=by
 induction l with
 | nil=>simp [spanOf]
 | cons c t ih=>simp only [spanOf,List.length_cons];split <;> omega
theorem drop_cons (s:ByteArray)(k:Nat)(h:k<s.size):s.data.toList.drop k=s[k]::s.data.toList.drop (k+1):=by
 rw [List.drop_eq_getElem_cons (by simpa using h)];rfl
theorem len_list (s:ByteArray):s.data.toList.length=s.size:=by simp
theorem spanOf_stop (p:UInt8→Bool)(s:ByteArray)(k:Nat)(h:k<s.size)(hp:p s[k]=false):spanOf p (s.data.toList.drop k)=0:=by
 rw [drop_cons s k h];simp [spanOf,hp]
theorem spanOf_go (p:UInt8→Bool)(s:ByteArray)(k:Nat)(h:k<s.size)(hp:p s[k]=true):spanOf p (s.data.toList.drop k)=spanOf p (s.data.toList.drop (k+1))+1:=by
 rw [drop_cons s k h];simp [spanOf,hp]
theorem spanOf_end (p:UInt8→Bool)(s:ByteArray)(k:Nat)(h:s.size≤k):spanOf p (s.data.toList.drop k)=0:=by
 rw [List.drop_eq_nil_of_le (by simpa using h)];rfl
end Lx
end
section
open Lx
theorem ret_bool {a b:Bool}(h:a=b):Ending.returned (.bool a)=.returned (.bool b):=by rw [h]
theorem ret_int {k:IntKind}{a b:Int}(h:a=b):Ending.returned (.int k a)=.returned (.int k b):=by rw [h]
theorem lex_letter (c:UInt8)(w:World):Calls Tryd.prog 39 #[.int .u8 (c.toNat:Int)] w fun e w'=>e=.returned (.bool (isLetter c))∧w=w':=by
 have hc:=c.toNat_lt;go_enter Tryd.func39,Tryd.ntmps39
 go_wp2
 all_goals
  go_ret;exact⟨ret_bool (by rw [Bool.eq_iff_iff];simp [isLetter];omega),rfl⟩
theorem lex_digit (c:UInt8)(w:World):Calls Tryd.prog 57 #[.int .u8 (c.toNat:Int)] w fun e w'=>e=.returned (.bool (isDigit c))∧w=w':=by
 have hc:=c.toNat_lt;go_enter Tryd.func57,Tryd.ntmps57
 go_wp2
 all_goals
  go_ret;exact⟨ret_bool (by rw [Bool.eq_iff_iff];simp [isDigit];omega),rfl⟩
theorem lex_part (c:UInt8)(w:World):Calls Tryd.prog 41 #[.int .u8 (c.toNat:Int)] w fun e w'=>e=.returned (.bool (isPart c))∧w=w':=by
 have hc:=c.toNat_lt;go_enter Tryd.func41,Tryd.ntmps41
 go_wp2_with (first | (go_at_call 39;refine (lex_letter _ _).mono ?_;rintro e w' ⟨rfl,rfl⟩) | (go_at_call 57;refine (lex_digit _ _).mono ?_;rintro e w' ⟨rfl,rfl⟩))
 all_goals
  go_ret;exact⟨ret_bool (by simp_all [isPart];try (rw [Bool.eq_iff_iff];simp;omega)),rfl⟩
end
section
open Lx Go.RowKit
set_option maxHeartbeats 400000 in
theorem lex_span_part (s:ByteArray)(w:World)(hs:s.size≤maxLen):Calls Tryd.prog 40 #[.string s,.func (.func 41) #[] #[]] w fun e w'=>e=.returned (.int .i64 (spanOf isPart s.data.toList:Nat))∧w=w':=by
 unfold maxLen at hs;go_enter Tryd.func40,Tryd.ntmps40;go_wp2_with fail
 go_loop [5] (fun n=>∃ k:Nat,k≤s.size∧n=.int .i64 k∧spanOf isPart s.data.toList=k+spanOf isPart (s.data.toList.drop k)) (fun n=>s.size-(intOf n).toNat)
 case atStart=>exact⟨0,Nat.zero_le _,rfl,by simp⟩
 case round =>
  obtain⟨k,hk,rfl,hr⟩:=hrel;have HR:=Lib.hid hr;clear hr
  by_cases hlt:k<s.size
  ·cases hp:isPart s[k]
   ·have HP:=Lib.hid hp
    go_wp2_with (go_at_call 41;refine (lex_part _ _).mono ?_;rintro e w' ⟨rfl,rfl⟩)
    go_ret;exact⟨ret_int (by rw [HR.out,spanOf_stop _ _ _ hlt HP.out];simp),rfl⟩
   ·have HP:=Lib.hid hp
    go_wp2_with (go_at_call 41;refine (lex_part _ _).mono ?_;rintro e w' ⟨rfl,rfl⟩)
    go_round
    case rel=>exact⟨k+1,by omega,by go_num,by rw [HR.out,spanOf_go _ _ _ hlt HP.out];omega⟩
    case measure=>simp [intOf];omega
  ·go_wp2_with fail;go_ret;exact⟨ret_int (by rw [HR.out,spanOf_end _ _ _ (by omega)];simp),rfl⟩
end
section
open Lx Go.RowKit
namespace Lx
def kwList:List Bytes:=[[99,108,97,115,115],[101,120,116,101,110,100,115],[118,97,114],[100,101,102],[115,116,97,116,105,99],[105,102],[101,108,115,101],[119,104,105,108,101],[116,114,121],[99,97,116,99,104],[116,104,114,111,119],[114,101,116,117,114,110],[110,101,119],[110,117,108,108],[116,104,105,115],[105,110,112,117,116],[105,110,116]]
def isKeyword (l:Bytes):Bool:=kwList.contains l
def strOf (l:Bytes):ByteArray:=⟨l.toArray⟩
end Lx
def kwCells:Array Value:=#[.string ⟨#[99,108,97,115,115]⟩,.string ⟨#[101,120,116,101,110,100,115]⟩,.string ⟨#[118,97,114]⟩,.string ⟨#[100,101,102]⟩,.string ⟨#[115,116,97,116,105,99]⟩,.string ⟨#[105,102]⟩,.string ⟨#[101,108,115,101]⟩,.string ⟨#[119,104,105,108,101]⟩,.string ⟨#[116,114,121]⟩,.string ⟨#[99,97,116,99,104]⟩,.string ⟨#[116,104,114,111,119]⟩,.string ⟨#[114,101,116,117,114,110]⟩,.string ⟨#[110,101,119]⟩,.string ⟨#[110,117,108,108]⟩,.string ⟨#[116,104,105,115]⟩,.string ⟨#[105,110,112,117,116]⟩,.string ⟨#[105,110,116]⟩]
structure Laid (w:World):Prop where
 kw:∃ t fr,w.heap[0]?=some (.cells kwCells t fr)
theorem lt_of_heap {w:World}{g:Nat}{o:Obj}(h:w.heap[g]?=some o):g<w.heap.size:=by
 obtain⟨h,_⟩:=Array.getElem?_eq_some_iff.1 h;exact h
theorem Laid.below {w w':World}{B:Nat}(h:Laid w)(hb:Below B w w')(hB:w.heap.size≤B):Laid w':=by
 obtain⟨⟨t1,f1,h1⟩⟩:=h;exact⟨⟨t1,f1,by rw [hb.block _ (Nat.lt_of_lt_of_le (lt_of_heap h1) hB)];exact h1⟩⟩
theorem Laid.alloc {w:World}(h:Laid w)(o:Obj):Laid (w.alloc o):=h.below ((Below.refl _ _).alloc (Nat.le_refl _) o) (Nat.le_refl _)
end
section
open Lx Go.RowKit
theorem kw_index (k:Nat)(hk:k<17):∃ m:Bytes,kwList.drop k=m::kwList.drop (k+1)∧∀ w,(Instr.index 110 (.agg kwCells) (.int .i64 (k:Int))).run Tryd.prog w=.ok (.string ⟨m.toArray⟩) w:=by
 match k,hk with
 | 0,_=>exact⟨_,rfl,fun _=>by kernel_rfl⟩
 | 1,_=>exact⟨_,rfl,fun _=>by kernel_rfl⟩
 | 2,_=>exact⟨_,rfl,fun _=>by kernel_rfl⟩
 | 3,_=>exact⟨_,rfl,fun _=>by kernel_rfl⟩
 | 4,_=>exact⟨_,rfl,fun _=>by kernel_rfl⟩
 | 5,_=>exact⟨_,rfl,fun _=>by kernel_rfl⟩
 | 6,_=>exact⟨_,rfl,fun _=>by kernel_rfl⟩
 | 7,_=>exact⟨_,rfl,fun _=>by kernel_rfl⟩
 | 8,_=>exact⟨_,rfl,fun _=>by kernel_rfl⟩
 | 9,_=>exact⟨_,rfl,fun _=>by kernel_rfl⟩
 | 10,_=>exact⟨_,rfl,fun _=>by kernel_rfl⟩
 | 11,_=>exact⟨_,rfl,fun _=>by kernel_rfl⟩
 | 12,_=>exact⟨_,rfl,fun _=>by kernel_rfl⟩
 | 13,_=>exact⟨_,rfl,fun _=>by kernel_rfl⟩
 | 14,_=>exact⟨_,rfl,fun _=>by kernel_rfl⟩
 | 15,_=>exact⟨_,rfl,fun _=>by kernel_rfl⟩
 | 16,_=>exact⟨_,rfl,fun _=>by kernel_rfl⟩
 | n+17,h=>omega
theorem contains_hit {l m:Bytes}{r x:List Bytes}(h:(l == m)=true)(hx:x=m::r):x.contains l=true:=by
 subst hx;simp only [List.contains_cons,h,Bool.true_or]
theorem contains_miss {l m:Bytes}{r x:List Bytes}(h:(l == m)=false)(hx:x=m::r):x.contains l=r.contains l:=by
 subst hx;simp only [List.contains_cons,h,Bool.false_or]
end
section
open Lx Go.RowKit
namespace Lx
def isIdent (l:Bytes):Bool:=match l with
 | []=>false
 | c::t=>decide (t.length<32) && isLetter c && (c::t).all isPart && !isKeyword (c::t)
theorem spanOf_all (p:UInt8→Bool)(l:Bytes):spanOf p l=l.length↔l.all p=true:=by
 induction l with
 | nil=>simp [spanOf]
 | cons c t ih =>
   have:=spanOf_le p t;cases h:p c <;> simp [spanOf,h] <;> simp at ih <;> omega
theorem list_of_pos (s:ByteArray)(h:0<s.size):s.data.toList=s[0]::s.data.toList.drop 1:=by
 have:=drop_cons s 0 h;simpa using this
theorem isEmpty_pos (s:ByteArray)(h:0<s.size):s.toList.isEmpty=false:=by rw [ByteArray.toList_eq,list_of_pos s h];rfl
theorem isEmpty_zero (s:ByteArray)(h:s.size=0):s.toList.isEmpty=true:=by
 rw [ByteArray.toList_eq,List.isEmpty_iff,← List.length_eq_zero_iff];simpa using h
theorem isIdent_pos (s:ByteArray)(h:0<s.size):isIdent s.data.toList=(decide (s.size≤32) && isLetter s[0] && s.data.toList.all isPart && !isKeyword s.data.toList):=by
 have e:=list_of_pos s h;have hl:(s.data.toList.drop 1).length=s.size-1:=by simp
 generalize hd:s.data.toList.drop 1=d at e hl;rw [e,isIdent,hl,Bool.eq_iff_iff];simp only [Bool.and_eq_true,decide_eq_true_eq];refine⟨fun ⟨⟨⟨a,b⟩,c⟩,d⟩=>⟨⟨⟨by omega,b⟩,c⟩,d⟩,fun ⟨⟨⟨a,b⟩,c⟩,d⟩=>⟨⟨⟨by omega,b⟩,c⟩,d⟩⟩
theorem isIdent_zero (s:ByteArray)(h:s.size=0):isIdent s.data.toList=false:=by
 have:s.data.toList=[]:=by rw [← List.length_eq_zero_iff];simpa using h
 rw [this];rfl
end Lx
end
section
namespace Lx
structure Tok where
 kind:Nat
 pos:Nat
 text:Bytes
 n:Nat
 deriving DecidableEq
inductive OneR where
 | ok (kind len n:Nat)
 | bad (e:Nat)
 deriving DecidableEq
abbrev LexR:=Except (Nat×Nat) (List Tok)
def after (out:List Tok):LexR→LexR
 | .error x=>.error x
 | .ok ts=>.ok (out++ts)
end Lx
end
section
open Lx Go.RowKit
theorem strOf_of (s:ByteArray):s=strOf s.data.toList:=by cases s;simp [strOf]
end
section
open Lx Go.RowKit
def tokAgg (kind pos:Nat)(text:Bytes)(n:Nat):Value:=.agg #[.int .i64 kind,.int .i64 pos,.string (strOf text),.int .i64 n]
def oneV (r:OneR)(l:Bytes)(pos:Nat):Value:=match r with
 | .bad e=>.tuple #[tokAgg 0 0 [] 0,.int .i64 e]
 | .ok k m n=>.tuple #[tokAgg k pos (l.take m) n,.int .i64 0]
end
section
namespace Lx
end Lx
end
section
open Lx Go.RowKit
end
section
open Lx Go.RowKit
end
end Go.Proofs.YtoookjadbhdfhaaDoor
