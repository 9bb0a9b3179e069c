/-
  Plain Lean: what reading a text gives (the rules of ParSpec on the tokens of a text).
-/
import Derived.Test.YtoookjadbhdfhaaGreatDoorUJpAm
import Derived.Test.YtoookjadbhdfhaaGreatDoorUJpAo
import Derived.Test.YtoookjadbhdfhaaGreatDoorProg
import Derived.Test.YtoookjadbhdfhaaGreatDoorUJpAf
import Derived.WalkKit
import Derived.RegionTactic
import Derived.Lib.Hide
import Derived.Test.YtoookjadbhdfhaaGreatDoorUJpAq
set_option linter.unusedSectionVars false
set_option linter.unusedSimpArgs false
set_option linter.unnecessarySimpa false
set_option linter.unusedVariables false
namespace Go.Proofs.YtoookjadbhdfhaaGreatDoor
section
open Lx
namespace Lx
/-- Tokens as lex.Tokens gives them, as far as the parser leans on it. -/
structure TWF (ts:List Tok):Prop where
 pos:0<ts.length
 kind:(tk ts (ts.length-1)).kind=5
 text:(tk ts (ts.length-1)).text=[]
 n:∀ t∈ts,t.n<9223372036854775808
 len:ts.length≤100000
end Lx
end
set_option linter.unusedSimpArgs false
section
namespace Lx
mutual
def exSz:Ex→Nat
 | .mk _ _ _ _ ks=>exsSz ks+1
def exsSz:List Ex→Nat
 | []=>0
 | e::es=>exSz e+exsSz es
end
mutual
def stSz:St→Nat
 | .mk _ _ _ es b el=>exsSz es+stsSz b+stsSz el+1
def stsSz:List St→Nat
 | []=>0
 | s::l=>stSz s+stsSz l
end
theorem exSz_pos (e:Ex):0<exSz e:=by cases e;rw [exSz];omega
theorem stSz_pos (s:St):0<stSz s:=by cases s;rw [stSz];omega
theorem exsSz_len (l:List Ex):l.length≤exsSz l:=by
 induction l with
 | nil=>simp
 | cons x l ih=>have:=exSz_pos x;simp only [List.length_cons,exsSz];omega
theorem stsSz_len (l:List St):l.length≤stsSz l:=by
 induction l with
 | nil=>simp
 | cons x l ih=>have:=stSz_pos x;simp only [List.length_cons,stsSz];omega
theorem exsSz_mem {l:List Ex}{e:Ex}(h:e∈l):exSz e≤exsSz l:=by
 induction l with
 | nil=>cases h
 | cons x l ih =>
   simp only [exsSz];rcases List.mem_cons.1 h with rfl | h
   ·omega
   ·have:=ih h;omega
theorem stsSz_mem {l:List St}{e:St}(h:e∈l):stSz e≤stsSz l:=by
 induction l with
 | nil=>cases h
 | cons x l ih =>
   simp only [stsSz];rcases List.mem_cons.1 h with rfl | h
   ·omega
   ·have:=ih h;omega
mutual
theorem exDepth_sz:∀ e:Ex,exDepth e≤exSz e
 | .mk k n o m ks=>by rw [exDepth,exSz];have:=exsDepth_sz ks;omega
theorem exsDepth_sz:∀ l:List Ex,exsDepth l≤exsSz l
 | []=>by simp [exsDepth,exsSz]
 | e::l=>by rw [exsDepth,exsSz];have:=exDepth_sz e;have:=exsDepth_sz l;omega
end
mutual
theorem stDepth_sz:∀ s:St,stDepth s≤stSz s
 | .mk k n t es b el=>by rw [stDepth,stSz];have:=exsDepth_sz es;have:=stsDepth_sz b;have:=stsDepth_sz el;omega
theorem stsDepth_sz:∀ l:List St,stsDepth l≤stsSz l
 | []=>by simp [stsDepth,stsSz]
 | e::l=>by rw [stsDepth,stsSz];have:=stDepth_sz e;have:=stsDepth_sz l;omega
end
mutual
theorem stCount_sz:∀ s:St,stCount s+1≤stSz s
 | .mk k n t es b el=>by rw [stCount,stSz];have:=stsCount_sz b;have:=stsCount_sz el;omega
theorem stsCount_sz:∀ l:List St,stsCount l≤stsSz l
 | []=>by simp [stsCount,stsSz]
 | e::l=>by rw [stsCount,stsSz];have:=stCount_sz e;have:=stsCount_sz l;omega
end
section
variable {ts:List Tok}
def Siz (E:Nat→PR Ex):Prop:=∀ i e j,E i=.ok (e,j)→exSz e+i≤j
theorem exSz_mk (k n:Int)(o m:Bytes)(ks:List Ex):exSz (.mk k n o m ks)=exsSz ks+1:=by rw [exSz]
variable {E:Nat→PR Ex} (hE:Siz E)
include hE
omit hE
end
section
variable {ts:List Tok}
def MeZ (j:Nat)(m:Me):Prop:=stsSz m.body≤j∧m.params.length≤j
theorem MeZ.mono {j j':Nat}{m:Me}(h:MeZ j m)(hj:j≤j'):MeZ j' m:=⟨Nat.le_trans h.1 hj,Nat.le_trans h.2 hj⟩
end
end Lx
end
section
open Go.RowKit
namespace Ax
/-- A world that is the same but for one block that nothing speaks of. -/
theorem Rep.outside {M:Mp}{H:Heap}{nx:Nat}{w w':World}{g:Nat}(r:Rep M H nx w)(hi:¬ Im H M g)(hz:∀ o,M.fz g≠some o)(hh:∀ x,x<w.heap.size→x≠g→w'.heap[x]?=w.heap[x]?):Rep M H nx w':=by
 refine⟨fun b k hb=>?_,r.inj,r.fresh,fun x o hx=>?_,r.sep⟩
 ·obtain⟨g',m,a,c⟩:=r.blk b k hb;exact⟨g',m,a,c.ext (.refl _) (hh g' c.lt (fun e=>hi ⟨b,k,m,hb,e▸a⟩))⟩
 ·have h1:=r.fz x o hx;rw [hh x (Array.getElem?_eq_some_iff.mp h1).1 (fun e=>hz o (e▸hx)),h1]
theorem Rep.alloc {M:Mp}{H:Heap}{nx:Nat}{w:World}(r:Rep M H nx w)(o:Obj):Rep M H nx (w.alloc o):=by
 have hh:∀ x,x<w.heap.size→(w.alloc o).heap[x]?=w.heap[x]?:=fun x hx=>Below.heap_alloc w o x hx
 refine⟨fun b k hb=>?_,r.inj,r.fresh,fun x o hx=>?_,r.sep⟩
 ·obtain⟨g',m,a,c⟩:=r.blk b k hb;exact⟨g',m,a,c.ext (.refl _) (hh g' c.lt)⟩
 ·have h1:=r.fz x o hx;rw [hh x (Array.getElem?_eq_some_iff.mp h1).1,h1]
/-- A call with one more block of the caller's own: what it leaves. -/
theorem own_after {M M2:Mp}{H H':Heap}{nx nx':Nat}{w w2 w4:World}{o:Obj}(r:Rep M H nx w)(r2:Rep M2 H' nx' w2)(f:Fr H M nx (w.alloc o) H' M2 nx' w2)
  (hh:∀ x,x<w2.heap.size→x≠w.heap.size→w4.heap[x]?=w2.heap[x]?) (hs:w2.heap.size≤w4.heap.size) (ho:w4.os=w2.os) (ht:w4.tape=w2.tape) (hp:w4.output=w2.output) :
  Rep M2 H' nx' w4∧Fr H M nx w H' M2 nx' w4∧w2.heap[w.heap.size]?=some o:=by
 have hsz:(w.alloc o).heap.size=w.heap.size+1:=by simp
 have ni:¬ Im H M w.heap.size:=fun h=>by have:=r.im_lt h;omega
 have ni':¬ Im H' M2 w.heap.size:=fun h=>by
  rcases f.mono _ h with h1 | h1
  ·exact ni h1
  ·omega
 have nz:∀ x,M2.fz w.heap.size≠some x:=fun x h=>by
  rcases f.fzn _ _ h with h1 | h1 | h1
  ·have:=(Array.getElem?_eq_some_iff.mp (r.fz _ _ h1)).1;omega
  ·exact ni h1
  ·omega
 have g:=f.grown;refine⟨r2.outside ni' nz hh,⟨f.ext,by rw [ho,f.os];rfl,by rw [ht,f.tape];rfl,by rw [hp,f.output];rfl,by omega,fun x hx hn=>?_,fun x h=>?_,f.low,f.nxle,fun x y h=>?_⟩,?_⟩
 ·rw [hh x (by omega) (by omega),f.kept x (by omega) hn];exact Below.heap_alloc w o x hx
 ·rcases f.mono x h with h1 | h1
  ·exact .inl h1
  ·exact .inr (by omega)
 ·rcases f.fzn x y h with h1 | h1 | h1
  ·exact .inl h1
  ·exact .inr (.inl h1)
  ·exact .inr (.inr (by omega))
 ·rw [f.kept _ (by omega) ni];exact (MapKept.heap_alloc w o).1
end Ax
open Ax
theorem assert_fault (p:Int)(w:World):(Instr.typeAssert (.iface 126 (.agg #[.int .i64 p])) 20 126 true).run Tryz.prog w=.ok (.tuple #[.agg #[.int .i64 p],.bool true]) w:=by kernel_rfl
theorem assert_fault_nil (w:World):(Instr.typeAssert .nilIface 20 126 true).run Tryz.prog w=.ok (.tuple #[.agg #[.int .i64 0],.bool false]) w:=by kernel_rfl
set_option maxRecDepth 100000 in
theorem run_catch (pe:Nat)(p:Int)(v2:Value)(w:World)(h2:w.cell? ⟨pe,0,none⟩=some v2)(z2:w.frozen? ⟨pe,0,none⟩=false) :
  CallsD Tryz.prog 72 #[.pointer (some ⟨pe,0,none⟩)] (.panicking [{ v:=.iface 126 (.agg #[.int .i64 p]),recovered:=false }]) w fun e u' w' =>
   e=.returned (.tuple #[])∧u'=.panicking [{ v:=.iface 126 (.agg #[.int .i64 p]),recovered:=true }]∧w'=(w.setCell ⟨pe,0,none⟩ (.int .i64 p)).alloc (.cells #[.int .i64 p] 126):=by
 refine callsD_of_wpS Tryz.func72 rfl fun c₀ cs hu=>?_
 apply wpS_seq;apply wpS_region;simp [wpOpsS,go_sem,recoverD,hu,Tryz.ntmps72,Exit.thenS,assert_fault];have l2:=World.block_lt_of_cell? w _ h2;apply wpS_seq;apply wpS_region;simp [wpOpsS,go_sem,Exit.thenS];refine wpS_cond (t:=true) (by simp [Act.eval,Array.replicate]) ?_;simp only [if_true];apply wpS_region;simp [wpOpsS,go_sem,h2,z2,l2,bodyPostS,results,Tryz.results72]
set_option maxRecDepth 100000 in
theorem run_idle (pe:Nat)(w:World) :
  CallsD Tryz.prog 72 #[.pointer (some ⟨pe,0,none⟩)] .returning w fun e u' w'=>e=.returned (.tuple #[])∧u'=.returning∧w'=w.alloc (.cells #[.int .i64 0] 126):=by
 refine callsD_of_wpS Tryz.func72 rfl fun c₀ cs hu=>?_
 apply wpS_seq;apply wpS_region;simp [wpOpsS,go_sem,recoverD,hu,Tryz.ntmps72,Exit.thenS,assert_fault_nil];refine wpS_of_wp ?_
 go_wp2
 cases c₀
 simp_all [bodyPostS,results,Tryz.results72]
def RunQ (Q:Res→Heap→Nat→Prop):Res→Heap→Nat→Prop:=fun r H' nx'=>match r with
 | .ret _=>Q (.ret (.int .i64 0)) H' nx'
 | .pan v=>∃ e,v=.iface 126 (.agg [.int .i64 e])∧Q (.ret (.int .i64 e)) H' nx'
set_option maxHeartbeats 1000000 in
set_option maxRecDepth 100000 in
theorem tc_run {G:Nat→CV}{g:FuncId}{a b:List CV}{c:CV}{H:Heap}{nx:Nat}{Q:Res→Heap→Nat→Prop}(hen:enters Tryz.prog g=true)(hc:ACall Tryz.prog G g (a++b) H nx (RunQ Q)) :
  ACall Tryz.prog G 45 [c,.fn (.func g) a b] H nx Q:=by
 intro M w vs hg r hvs;obtain⟨vc,vs1,rfl,h1,hvs1⟩:=hvs.cons_inv;obtain⟨vf,vs2,rfl,h2,hvs2⟩:=hvs1.cons_inv;have:=hvs2.nil_inv;subst this;cases h2 with
 | fn _ _ _ fs cs l1 l2 k1 k2 =>
 have hG:∀ (args:Array Value) (w:World),(callFunc g args).run Tryz.prog w=.ok (.enter g args) w:=by
  intro args w;unfold enters at hen;cases hfn:(Tryz.prog).funcs[g]? with
  | none=>rw [hfn] at hen;cases hen
  | some fn =>
    rw [hfn] at hen;simp only [Bool.and_eq_true] at hen;have hn:(fn.name == "runtime.NumGoroutine")=false:=by have:=hen.1;simpa [bne] using this
    have hb:fn.body.isNone=false:=by cases hbb:fn.body <;> simp_all
    simp only [callFunc,Sem.run_bind,run_program,Result.andThen_ok,hfn,hn,hb,Bool.false_eq_true,if_false,Sem.run_pure]
 have hmf:∀ (fn:Fn) (first cap:Array Value) (w:World),(Instr.makeFunc fn first cap).run Tryz.prog w=.ok (.func fn first cap) w:=fun _ _ _ _=>rfl
 have HC:=Lib.hid (hc M (w.alloc (.cells #[.int .i64 0] 31)) (fs++cs) hg (r.alloc _) (RVs.append ⟨l1,k1⟩ ⟨l2,k2⟩));have HR:=Lib.hid r;clear hc hg r hvs hvs1 hvs2 h1 k1 k2 l1 l2 hen
 go_enter_defers Tryz.func45,Tryz.ntmps45
 go_wp2_with fail;refine HC.out.mono ?_;rintro e w2 ⟨M2,x,H',nx',h3,r2,f2,hq⟩;have hE:=(own_after HR.out r2 f2 (fun _ _ _=>rfl) (Nat.le_refl _) rfl rfl rfl).2.2;have hlt:w.heap.size<w2.heap.size:=(Array.getElem?_eq_some_iff.mp hE).1;have hcell:w2.cell? ⟨w.heap.size,0,none⟩=some (.int .i64 0):=by simp [World.cell?,hE]
 have hfro:w2.frozen? ⟨w.heap.size,0,none⟩=false:=by simp [World.frozen?,hE]
 have HF:=Lib.hid f2;have HR2:=Lib.hid r2;have HQ:=Lib.hid hq;have HE:=Lib.hid hE;clear f2 r2 hq hE HC;have fin:∀ (v:Int),w2.heap.size≤(((w2.setCell ⟨w.heap.size,0,none⟩ (.int .i64 v)).alloc (.cells #[.int .i64 v] 126))).heap.size∧∀ (o:Obj) x,x<w2.heap.size→x≠w.heap.size→(((w2.setCell ⟨w.heap.size,0,none⟩ (.int .i64 v)).alloc o)).heap[x]?=w2.heap[x]?:=by
  intro v;refine⟨by simp,fun o x hx hne=>?_⟩;rw [Below.heap_alloc _ _ _ (by simp;omega),Below.heap_setCell _ _ _ _ hne]
 cases x with
 | ret c' =>
   cases e <;> simp only [EndR] at h3;go_wp2_with fail;refine leaves_cons (f:=72) (args:=#[.pointer (some ⟨w.heap.size,0,none⟩)]) (by simp) (by simp [go_sem]) ?_;refine (run_idle w.heap.size _).mono ?_;rintro e u' w5 ⟨rfl,rfl,rfl⟩;simp only [Leaves,settle];refine⟨.int .i64 0,?_,?_⟩
   ·simp [results,Tryz.results45,go_sem,hcell,hlt]
   ·have ha:=own_after (w4:=(w2.setCell ⟨w.heap.size,0,none⟩ (.int .i64 0)).alloc (.cells #[.int .i64 0] 126)) HR.out HR2.out HF.out ((fin 0).2 _) (fin 0).1 rfl rfl rfl;exact⟨M2,.ret (.int .i64 0),H',nx',.int _ _,ha.1,ha.2.1,HQ.out⟩
 | pan c' =>
   cases e <;> simp only [EndR] at h3;obtain⟨v,rfl,hv⟩:=h3;obtain⟨er,rfl,hq⟩:=HQ.out;cases hv with
   | iface _ _ v hv=>cases hv with
     | agg _ us hl hr =>
       obtain⟨u,us',rfl,hu,hu'⟩:=RVs.cons_inv (M:=M2) (cs:=[]) ⟨hl,hr⟩;have:=hu'.nil_inv;subst this;cases hu;refine leaves_cons (f:=72) (args:=#[.pointer (some ⟨w.heap.size,0,none⟩)]) (by simp) (by simp [go_sem]) ?_;refine (run_catch w.heap.size er _ w2 hcell hfro).mono ?_;rintro e u' w5 ⟨rfl,rfl,rfl⟩;simp only [Leaves,settle,List.dropWhile_nil];refine⟨.int .i64 er,?_,?_⟩
       ·simp [results,Tryz.results45,go_sem,hcell,hlt]
       ·have ha:=own_after (w4:=(w2.setCell ⟨w.heap.size,0,none⟩ (.int .i64 er)).alloc (.cells #[.int .i64 er] 126)) HR.out HR2.out HF.out ((fin er).2 _) (fin er).1 rfl rfl rfl;exact⟨M2,.ret (.int .i64 er),H',nx',.int _ _,ha.1,ha.2.1,hq⟩
end
set_option linter.unusedVariables false
section
open Lx
namespace Lx
structure Sg where
 name:Bytes
 static:Bool
 params:List Bytes
 result:Bytes
structure Cd where
 name:Bytes
 super:Bytes
 fields:List Fld
 methods:List Sg
def sgOf (m:Me):Sg:=⟨m.name,m.static,m.params.map (·.typ),m.result⟩
def cdOf (c:Cl):Cd:=⟨c.name,c.super,c.fields,c.methods.map sgOf⟩
def hiOf (l:List Cl):List Cd:=l.map cdOf
def intB:Bytes:=[105,110,116]
def nullB:Bytes:=[110,117,108,108]
def mainB:Bytes:=[109,97,105,110]
def MainB:Bytes:=[77,97,105,110]
/-! the hierarchy -/
def findN (h:List Cd)(s:Bytes):Option Nat:=h.findIdx? fun c=>c.name == s
def findI (h:List Cd)(s:Bytes):Int:=match findN h s with
 | some i=>i
 | none=>-1
def superI (h:List Cd)(i:Nat):Int:=match h[i]? with
 | some c=>if c.super=[] then -1 else findI h c.super
 | none=>-1
/-- The chain of a class, and whether it is cyclic; n bounds its length. -/
def chainF (h:List Cd):Nat→List Nat→Int→List Nat×Bool
 | 0,acc,i=>(acc,decide (0≤i))
 | n+1,acc,i=>if i<0 then (acc,false) else if acc.contains i.toNat then (acc,true) else chainF h n (acc++[i.toNat]) (superI h i.toNat)
def chainC (h:List Cd)(i:Int):List Nat×Bool:=chainF h (h.length+1) [] i
def namedC (h:List Cd)(s:Bytes):List Nat:=(chainC h (findI h s)).1
def typB (h:List Cd)(s:Bytes):Bool:=s == intB || decide (0≤findI h s)
def clsB (h:List Cd)(s:Bytes):Bool:=s != intB && decide (0≤findI h s)
def fieldN (c:Cd)(s:Bytes):Option Nat:=c.fields.findIdx? fun f=>f.name == s
def methN (c:Cd)(s:Bytes):Option Nat:=c.methods.findIdx? fun m=>m.name == s
def ofN:Option Nat→Int
 | some i=>i
 | none=>-1
/-- The field of a name in the first class of a list that has one: class and type. -/
def fieldW (h:List Cd)(f:Bytes):List Nat→Option (Bytes×Bytes)
 | []=>none
 | i::l=>match h[i]? with
   | none=>none
   | some c=>match fieldN c f with
     | some k=>some (c.name,(c.fields[k]?.map (·.typ)).getD [])
     | none=>fieldW h f l
def fieldF (h:List Cd)(s f:Bytes):Option (Bytes×Bytes):=fieldW h f (namedC h s)
def lookW (h:List Cd)(m:Bytes):List Nat→Option (Nat×Nat)
 | []=>none
 | i::l=>match h[i]? with
   | none=>none
   | some c=>match methN c m with
     | some k=>some (i,k)
     | none=>lookW h m l
def lookN (h:List Cd)(i:Int)(m:Bytes):Option (Nat×Nat):=lookW h m (chainC h i).1
def lookF (h:List Cd)(s m:Bytes):Option (Bytes×Sg):=match lookN h (findI h s) m with
 | none=>none
 | some (i,k)=>match h[i]? with
   | none=>none
   | some c=>match c.methods[k]? with
     | none=>none
     | some g=>some (c.name,g)
def supersF (h:List Cd)(s:Bytes):List Bytes:=(namedC h s).map fun i=>((h[i]?).map (·.name)).getD []
def subF (h:List Cd)(a b:Bytes):Bool:=(supersF h a).contains b
def overF (m o:Sg):Bool:=!m.static && !o.static && m.result == o.result && m.params == o.params
/-- The error of the field k of a class, the rest of whose chain is given. -/
def fldE (h:List Cd)(c:Cd)(up:List Nat)(k:Nat)(f:Fld):Nat :=
 if isIdent f.name=false then 5 else if typB h f.typ=false then 8 else if ofN (fieldN c f.name)<k then 7
 else if up.any (fun i=>match h[i]? with | some d=>decide (0≤ofN (fieldN d f.name)) | none=>false) then 7 else 0
def metE (h:List Cd)(c:Cd)(up:List Nat)(k:Nat)(m:Sg):Nat :=
 if isIdent m.name=false then 5 else if ofN (methN c m.name)<k then 7 else if 6<m.params.length then 3
 else if m.params.any (fun p=>!typB h p) then 8 else if m.result≠[]∧typB h m.result=false then 8
 else if up.any (fun i=>match h[i]? with | some d=>d.methods.any (fun o=>o.name == m.name && !overF m o) | none=>false) then 11 else 0
def firstAt {α:Type}(f:Nat→α→Nat):Nat→List α→Nat
 | _,[]=>0
 | k,x::l=>if f k x≠0 then f k x else firstAt f (k+1) l
def clsE (h:List Cd)(i:Nat)(c:Cd):Nat :=
 if isIdent c.name=false then 5 else if findI h c.name≠i then 7 else if c.super≠[]∧findI h c.super<0 then 6
 else if (chainC h i).2 then 10 else if 16<c.fields.length∨16<c.methods.length then 3
 else if firstAt (fldE h c ((chainC h i).1.drop 1)) 0 c.fields≠0 then firstAt (fldE h c ((chainC h i).1.drop 1)) 0 c.fields
 else firstAt (metE h c ((chainC h i).1.drop 1)) 0 c.methods
/-- The index and the error of the first class with one. -/
def checkW (h:List Cd):Nat→List Cd→Int×Nat
 | _,[]=>(0,0)
 | i,c::l=>if clsE h i c≠0 then (i,clsE h i c) else checkW h (i+1) l
def checkF (h:List Cd):Int×Nat:=if 64<h.length then (-1,3) else checkW h 0 h
/-! types of expressions; an error leaves the checker -/
def asgB (h:List Cd)(a b:Bytes):Bool:=if b=intB then a == intB else if clsB h b=false then false else a == b || a == nullB || (clsB h a && subF h a b)
def varF (sc:List Fld)(s:Bytes):Option Bytes:=(sc.find? fun f=>f.name == s).map (·.typ)
abbrev Tk (α:Type):=Except Nat α
def needT (b:Bool)(e:Nat):Tk Unit:=if b then .ok () else .error e
def kidsT (k:Int)(n:Nat):Bool:=if k=6 then n == 2 else if k=8 then n == 1 else if k=9 then decide (1≤n) else if k=10 then true else n == 0
def binT (h:List Cd)(n:Int)(a b:Bytes):Bool:=if n=5∧a≠intB∧b≠intB then (a == nullB && b == nullB) || asgB h a b || asgB h b a else a == intB && b == intB
def needC (h:List Cd)(c:Bytes)(e:Nat):Tk Bytes:=if clsB h c then .ok c else .error e
def fldT (h:List Cd)(c f:Bytes):Tk Bytes:=if clsB h c=false then .error 8 else match fieldF h c f with
 | some (_,t)=>.ok t
 | none=>.error 6
def asgT (h:List Cd)(t:Tk Bytes)(to:Bytes):Tk Unit:=match t with
 | .error e=>.error e
 | .ok a=>if asgB h a to then .ok () else .error 8
/-- A call's result, if its arguments (with their types) fit. -/
def sigT (h:List Cd)(c m:Bytes)(static:Bool)(n:Nat):Tk Sg:=match lookF h c m with
 | none=>.error 6
 | some (_,g)=>if g.static=static then (if n=g.params.length then .ok g else .error 9) else .error 6
def binOf (h:List Cd)(n:Int):Tk (List Bytes)→Tk Bytes
 | .error e=>.error e
 | .ok [a,b]=>if binT h n a b then .ok intB else .error 8
 | .ok _=>.error 1
def fldOf (h:List Cd)(m:Bytes):Tk (List Bytes)→Tk Bytes
 | .error e=>.error e
 | .ok [c]=>fldT h c m
 | .ok _=>.error 1
mutual
def exT9 (h:List Cd)(cls:Bytes)(sc:List Fld):Ex→Tk Bytes
 | .mk k n o m ks =>
   if k<1∨10<k then .error 12 else if k=6∧(n<1∨5<n) then .error 12 else if kidsT k ks.length=false then .error 1
   else if k=1∨k=5 then .ok intB else if k=2 then .ok nullB
   else if k=3 then (match varF sc m with | some t=>.ok t | none=>.error 6)
   else if k=4 then (if cls=[] then .error 6 else .ok cls)
   else if k=7 then needC h m 6
   else if k=6 then binOf h n (tysT h cls sc ks)
   else if k=8 then fldOf h m (tysT h cls sc ks)
   else if k=9 then calT h cls sc m ks
   else (match needC h o 6 with
    | .error e=>.error e
    | .ok _=>match sigT h o m true ks.length with
      | .error e=>.error e
      | .ok g=>match argT h cls sc g.params ks with
        | .error e=>.error e
        | .ok _=>.ok g.result)
/-- The types of expressions from left to right. -/
def tysT (h:List Cd)(cls:Bytes)(sc:List Fld):List Ex→Tk (List Bytes)
 | []=>.ok []
 | e::l=>match exT9 h cls sc e with
   | .error x=>.error x
   | .ok t=>match tysT h cls sc l with
     | .error x=>.error x
     | .ok ts=>.ok (t::ts)
/-- Arguments are assigned to parameters. -/
def argT (h:List Cd)(cls:Bytes)(sc:List Fld):List Bytes→List Ex→Tk Unit
 | p::ps,e::l=>match asgT h (exT9 h cls sc e) p with
   | .error x=>.error x
   | .ok _=>argT h cls sc ps l
 | _,_=>.ok ()
/-- A call on an object: the first kid. -/
def calT (h:List Cd)(cls:Bytes)(sc:List Fld)(m:Bytes):List Ex→Tk Bytes
 | []=>.error 1
 | e::l=>match exT9 h cls sc e with
   | .error x=>.error x
   | .ok c=>if clsB h c=false then .error 8 else match sigT h c m false l.length with
     | .error x=>.error x
     | .ok g=>match argT h cls sc g.params l with
       | .error x=>.error x
       | .ok _=>.ok g.result
end
/-! statements -/
/-- The fault of a statement's kind and of the numbers of its parts. -/
def shpE (k:Int)(ne nb nl:Nat):Nat :=
 if k<1∨9<k then 12
 else if ne<(if k=1∨k=8∨k=6 then 0 else if k=3 then 2 else 1)∨(if k=6 then 0 else if k=3 then 2 else 1)<ne then 1
 else if ¬ (k=4∨k=5∨k=6)∧0<nb then 1 else if ¬ (k=4∨k=6)∧0<nl then 1 else 0
def ex0T (h:List Cd)(cls:Bytes)(sc:List Fld)(es:List Ex)(i:Nat):Tk Bytes:=match es[i]? with
 | some e=>exT9 h cls sc e
 | none=>.error 1
def andT {α β:Type}(a:Tk α)(b:Tk β):Tk β:=match a with
 | .error e=>.error e
 | .ok _=>b
/-- A name is declared: an identifier, a type, new. -/
def newT (h:List Cd)(sc:List Fld)(tb:Bool)(nm:Bytes):Tk Unit:=if isIdent nm=false then .error 5 else if tb=false then .error 8 else if varF sc nm≠none then .error 7 else .ok ()
def kindAt (es:List Ex):Int:=(es[0]?.map (·.kind)).getD 0
/-- A statement without statements within it: the scope behind it. -/
def simT (h:List Cd)(cls res:Bytes)(sc:List Fld)(k:Int)(nm ty:Bytes)(es:List Ex):Tk (List Fld) :=
 if k=1 then andT (newT h sc (typB h ty) nm) (andT (if es=[] then .ok () else asgT h (ex0T h cls sc es 0) ty) (.ok (sc++[⟨nm,ty⟩])))
 else if k=2 then (match varF sc nm with
  | none=>.error 6
  | some t=>andT (asgT h (ex0T h cls sc es 0) t) (.ok sc))
 else if k=3 then (match ex0T h cls sc es 0 with
  | .error e=>.error e
  | .ok c=>match fldT h c nm with
    | .error e=>.error e
    | .ok t=>andT (asgT h (ex0T h cls sc es 1) t) (.ok sc))
 else if k=7 then (match ex0T h cls sc es 0 with
  | .error e=>.error e
  | .ok t=>if t=nullB∨clsB h t=true then .ok sc else .error 8)
 else if k=8 then (if decide (es=[])=decide (res=[]) then andT (if es=[] then .ok () else asgT h (ex0T h cls sc es 0) res) (.ok sc) else .error 9)
 else (if kindAt es=9∨kindAt es=10 then andT (ex0T h cls sc es 0) (.ok sc) else .error 12)
mutual
def stT (h:List Cd)(cls res:Bytes):List Fld→St→Tk (List Fld)
 | sc,.mk k nm ty es b el =>
   if shpE k es.length b.length el.length≠0 then .error (shpE k es.length b.length el.length)
   else if k=4∨k=5 then (match ex0T h cls sc es 0 with
    | .error e=>.error e
    | .ok t=>if t=intB then andT (blT h cls res sc b) (andT (blT h cls res sc el) (.ok sc)) else .error 8)
   else if k=6 then andT (newT h sc (clsB h ty) nm) (andT (blT h cls res sc b) (andT (blT h cls res (sc++[⟨nm,ty⟩]) el) (.ok sc)))
   else simT h cls res sc k nm ty es
def blT (h:List Cd)(cls res:Bytes):List Fld→List St→Tk Unit
 | _,[]=>.ok ()
 | sc,s::l=>match stT h cls res sc s with
   | .error e=>.error e
   | .ok sc'=>blT h cls res sc' l
end
/-! methods and programs -/
/-- Parameters come into scope. -/
def parT:List Fld→List Fld→Tk (List Fld)
 | sc,[]=>.ok sc
 | sc,f::l=>if isIdent f.name=false then .error 5 else if varF sc f.name≠none then .error 7 else parT (sc++[f]) l
mutual
def retT:St→Bool
 | .mk k _ _ _ b el=>decide (k=7∨k=8) || (decide (k=4∨k=6) && retsT b && retsT el)
/-- Every path ends with a return or a throw. -/
def retsT:List St→Bool
 | []=>false
 | s::l=>retT s || retsT l
end
/-- The error of a method. -/
def methE (h:List Cd)(c:Bytes)(m:Me):Nat :=
 if 200<stsCount m.body then 3 else if 32<stsDepth m.body then 15
 else match parT [] m.params with
  | .error e=>e
  | .ok sc=>match blT h (if m.static then [] else c) m.result sc m.body with
    | .error e=>e
    | .ok _=>if m.result≠[]∧retsT m.body=false then 8 else 0
def hasMain (h:List Cd):Bool:=match findN h MainB with
 | none=>false
 | some i=>match h[i]? with
   | none=>false
   | some c=>c.methods.any fun g=>g.name == mainB && g.static && decide (g.params.length=0) && g.result == []
/-- The error of a program. -/
def progE (l:List Cl):Nat :=
 if (checkF (hiOf l)).2≠0 then (checkF (hiOf l)).2 else if hasMain (hiOf l)=false then 14
 else firstLim (fun c=>firstLim (methE (hiOf l) c.name) c.methods) l
/-- Variables come into scope. -/
def scpT (h:List Cd):List Fld→List Fld→Tk (List Fld)
 | sc,[]=>.ok sc
 | sc,f::l=>if isIdent f.name=false then .error 5 else if typB h f.typ=false then .error 8 else if varF sc f.name≠none then .error 7 else scpT h (sc++[f]) l
/-- The type of an expression within a class, with variables in scope, or the error. -/
def exprE (l:List Cl)(c:Bytes)(sc:List Fld)(e:Ex):Tk Bytes :=
 if (checkF (hiOf l)).2≠0 then .error (checkF (hiOf l)).2 else if c≠[]∧findI (hiOf l) c<0 then .error 6
 else match scpT (hiOf l) [] sc with
  | .error e=>.error e
  | .ok sc=>if 32<exDepth e then .error 15 else exT9 (hiOf l) c sc e
end Lx
end
section
open Lx
namespace Lx
structure In where
 op:Int
 dst:Int
 a:Int
 b:Int
 n:Int
 cls:Bytes
 name:Bytes
 args:List Int
 goto:Int
 han:Int
def zIn:In:=⟨0,0,0,0,0,[],[],[],0,0⟩
/-- The builder of a function. -/
structure Bl where
 vars:List Fld
 code:List In
 slots:Nat
 next:Nat
 scope:List Nat
 handler:Int
 handlers:List Nat
def declB (b:Bl):Bl:={ b with scope:=b.scope++[b.next],next:=b.next+1 }
def slotB (b:Bl)(nm:Bytes):Int:=match b.scope.reverse.find? fun s=>match b.vars[s]? with | some f=>f.name == nm | none=>false with
 | some s=>s
 | none=>-1
def tempN (k:Nat):Bytes:=36::numText k
def tempB (b:Bl)(t:Bytes):Bl:={ b with vars:=b.vars++[⟨tempN (b.vars.length-b.slots),t⟩] }
def emitB (b:Bl)(i:In):Bl:={ b with code:=b.code++[{ i with han:=b.handler }] }
/-- An instruction goes to the next one that is emitted. -/
def hereB (b:Bl)(i:Nat):Bl:=match b.code[i]? with
 | some x=>{ b with code:=b.code.set i { x with goto:=b.code.length } }
 | none=>b
def typeAt (b:Bl)(a:Int):Bytes:=match b.vars[a.toNat]? with
 | some f=>f.typ
 | none=>[]
/-- How many kids are operands. -/
def cntB (k n:Int)(ks:List Ex):Nat:=if k=6∧(n=1∨n=2)∧ks[1]?.map (·.kind)=some 1 then 1 else if k=6∨k=8∨k=9∨k=10 then ks.length else 0
def sigOf (h:List Cd)(c m:Bytes):Bytes×Bytes:=match lookF h c m with
 | some (i,g)=>(i,g.result)
 | none=>([],[])
def neg64 (n:Int):Int:=(n*-1+9223372036854775808) % 18446744073709551616-9223372036854775808
/-- The instruction of an expression, whose operands are given, and its type. -/
def insB (h:List Cd)(b:Bl)(k n:Int)(o m:Bytes)(ks:List Ex)(r:List Int):In×Bytes :=
 if k=1 then ({ zIn with op:=1,n:=n },intB)
 else if k=2 then ({ zIn with op:=2 },nullB)
 else if k=5 then ({ zIn with op:=5 },intB)
 else if k=6 then
  (if r.length=1 then ({ zIn with op:=16,a:=r[0]?.getD 0,n:=if n=1 then (ks[1]?.map (·.n)).getD 0 else neg64 ((ks[1]?.map (·.n)).getD 0) },intB)
  else ({ zIn with op:=4,a:=r[0]?.getD 0,b:=r[1]?.getD 0,n:=n },intB))
 else if k=7 then ({ zIn with op:=6,cls:=m },m)
 else if k=8 then ({ zIn with op:=7,a:=r[0]?.getD 0,name:=m },match fieldF h (typeAt b (r[0]?.getD 0)) m with | some (_,t)=>t | none=>[])
 else if k=9 then ({ zIn with op:=9,a:=r[0]?.getD 0,cls:=typeAt b (r[0]?.getD 0),name:=m,args:=r.drop 1 },(sigOf h (typeAt b (r[0]?.getD 0)) m).2)
 else ({ zIn with op:=10,cls:=(sigOf h o m).1,name:=m,args:=r },(sigOf h o m).2)
def setD (p:In×Bytes)(d:Int):In:={ p.1 with dst:=d }
/-- A temporary for an instruction. -/
def finB (b:Bl)(p:In×Bytes):Bl×Int:=(emitB (tempB b p.2) (setD p b.vars.length),b.vars.length)
mutual
/-- The operand of an expression. -/
def opB (h:List Cd):Bl→Ex→Bl×Int
 | b,.mk k n o m ks =>
   if k=3 then (b,slotB b m) else if k=4 then (b,0)
   else finB (opsB h (cntB k n ks) b ks).1 (insB h (opsB h (cntB k n ks) b ks).1 k n o m ks (opsB h (cntB k n ks) b ks).2)
/-- The operands of the first c expressions. -/
def opsB (h:List Cd):Nat→Bl→List Ex→Bl×List Int
 | 0,b,_=>(b,[])
 | _,b,[]=>(b,[])
 | c+1,b,e::l=>((opsB h c (opB h b e).1 l).1,(opB h b e).2::(opsB h c (opB h b e).1 l).2)
end
/-- The builder behind an expression's operands, and its instruction. -/
def insE (h:List Cd)(b:Bl):Ex→Bl×(In×Bytes)
 | .mk k n o m ks=>((opsB h (cntB k n ks) b ks).1,insB h (opsB h (cntB k n ks) b ks).1 k n o m ks (opsB h (cntB k n ks) b ks).2)
def op0B (h:List Cd)(b:Bl)(es:List Ex)(i:Nat):Bl×Int:=match es[i]? with
 | some e=>opB h b e
 | none=>(b,0)
mutual
/-- The local variables that a statement declares. -/
def locS:St→List Fld
 | .mk k nm ty _ b el=>(if k=1 then [⟨nm,ty⟩] else [])++locsS b++(if k=6 then [⟨nm,ty⟩] else [])++locsS el
def locsS:List St→List Fld
 | []=>[]
 | s::l=>locS s++locsS l
end
def slotsB (cls:Bytes)(m:Me):List Fld:=(if m.static then [] else [⟨[116,104,105,115],cls⟩])++m.params++locsS m.body
def simB (h:List Cd)(b:Bl)(k:Int)(nm:Bytes)(es:List Ex):Bl :=
 if k=1 then
  (if es=[] then declB b else emitB (declB (op0B h b es 0).1) { zIn with op:=3,dst:=(op0B h b es 0).1.next,a:=(op0B h b es 0).2 })
 else if k=2 then emitB (op0B h b es 0).1 { zIn with op:=3,dst:=slotB (op0B h b es 0).1 nm,a:=(op0B h b es 0).2 }
 else if k=3 then emitB (op0B h (op0B h b es 0).1 es 1).1 { zIn with op:=8,a:=(op0B h b es 0).2,b:=(op0B h (op0B h b es 0).1 es 1).2,name:=nm }
 else if k=7 then emitB (op0B h b es 0).1 { zIn with op:=14,a:=(op0B h b es 0).2 }
 else if k=8 then (if es=[] then emitB b { zIn with op:=13,a:=-1 } else emitB (op0B h b es 0).1 { zIn with op:=13,a:=(op0B h b es 0).2 })
 else match es[0]? with
  | some e=>emitB (insE h b e).1 (setD (insE h b e).2 (-1))
  | none=>b
def cutB (b:Bl)(n:Nat):Bl:={ b with scope:=b.scope.take n }
def nextB (b:Bl)(n:Nat):Bl:={ b with next:=n }
def handB (b:Bl)(n:Int):Bl:={ b with handler:=n }
def hndB (b:Bl):Bl:={ b with handlers:=b.handlers++[0] }
def setH (b:Bl)(i v:Nat):Bl:={ b with handlers:=b.handlers.set i v }
def brB (b:Bl)(a:Int):Bl:=emitB b { zIn with op:=11,a:=a }
def jmpB (b:Bl)(g:Int):Bl:=emitB b { zIn with op:=12,goto:=g }
def catB (b:Bl)(ty:Bytes):Bl:=emitB (declB b) { zIn with op:=15,dst:=b.next,cls:=ty }
mutual
def stB (h:List Cd):Bl→St→Bl
 | b,.mk k nm ty es bd el =>
   if k=4 then
    let b1:=(op0B h b es 0).1
    let b2:=brB b1 (op0B h b es 0).2
    let b3:=cutB (blB h (nextB b2 (b2.next+(locsS bd).length)) el) b2.scope.length
    let b4:=jmpB b3 0
    let b5:=cutB (blB h (nextB (hereB b4 b1.code.length) b1.next) bd) b4.scope.length
    hereB (nextB b5 b3.next) b3.code.length
   else if k=5 then
    let b1:=(op0B h b es 0).1
    let b2:=jmpB (brB b1 (op0B h b es 0).2) 0
    let b3:=cutB (blB h (hereB b2 b1.code.length) bd) b2.scope.length
    hereB (jmpB b3 b.code.length) (b1.code.length+1)
   else if k=6 then
    let b1:=handB (hndB b) b.handlers.length
    let b2:=handB (cutB (blB h b1 bd) b1.scope.length) b.handler
    let b3:=jmpB b2 0
    let b4:=setH (catB b3 ty) b.handlers.length b3.code.length
    let b5:=cutB (blB h b4 el) b4.scope.length
    hereB (cutB b5 b3.scope.length) b2.code.length
   else simB h b k nm es
/-- Statements one after the other, without the end of their scope. -/
def blB (h:List Cd):Bl→List St→Bl
 | b,[]=>b
 | b,s::l=>blB h (stB h b s) l
end
def endB (b:Bl)(res:Bytes):Bl :=
 if res=[] then emitB b { zIn with op:=13,a:=-1 }
 else if res=intB then emitB (emitB (tempB b intB) { zIn with op:=1,dst:=b.vars.length }) { zIn with op:=13,a:=b.vars.length }
 else emitB (emitB (tempB b nullB) { zIn with op:=2,dst:=b.vars.length }) { zIn with op:=13,a:=b.vars.length }
def decN:Nat→Bl→Bl
 | 0,b=>b
 | n+1,b=>decN n (declB b)
/-- Catch marks become the indices of the handlers. -/
def patB (hs:List Nat)(i:In):In:=if 0≤i.han then { i with han:=(hs[i.han.toNat]?).getD 0 } else i
structure Fu where
 cls:Bytes
 name:Bytes
 static:Bool
 params:Nat
 vars:List Fld
 result:Bytes
 code:List In
def zBl (v:List Fld):Bl:=⟨v,[],v.length,0,[],-1,[]⟩
def bodB (h:List Cd)(cls:Bytes)(m:Me):Bl :=
 let b:=decN (m.params.length+if m.static then 0 else 1) (zBl (slotsB cls m))
 endB (cutB (blB h b m.body) b.scope.length) m.result
def funB (h:List Cd)(cls:Bytes)(m:Me):Fu:=⟨cls,m.name,m.static,m.params.length+(if m.static then 0 else 1),(bodB h cls m).vars,m.result,(bodB h cls m).code.map (patB (bodB h cls m).handlers)⟩
def hasD (op:Int):Bool:=op == 1 || op == 2 || op == 3 || op == 4 || op == 5 || op == 6 || op == 7 || op == 9 || op == 10 || op == 15 || op == 16
/-- The variable that an instruction defines, or -1. -/
def defI (i:In):Int:=if hasD i.op then i.dst else -1
end Lx
end
end Go.Proofs.YtoookjadbhdfhaaGreatDoor
