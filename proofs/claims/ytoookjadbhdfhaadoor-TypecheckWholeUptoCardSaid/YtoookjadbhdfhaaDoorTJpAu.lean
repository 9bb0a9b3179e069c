/-
  Plain Lean: what chapter 9 says of trees: their faults, their limits, their texts.
-/
import Derived.Test.YtoookjadbhdfhaaDoorTJpAr
import Derived.Test.YtoookjadbhdfhaaDoorTJpAn
import Derived.Test.YtoookjadbhdfhaaDoorTLaid
import Derived.Test.YtoookjadbhdfhaaDoorTParTree
import Derived.Test.YtoookjadbhdfhaaDoorTJpAo
import Derived.Test.YtoookjadbhdfhaaDoorProg
import Derived.Test.YtoookjadbhdfhaaDoorTJpAh
import Derived.WalkKit
import Derived.RegionTactic
import Derived.Lib.Hide
set_option linter.unusedSectionVars false
set_option linter.unusedSimpArgs false
set_option linter.unnecessarySimpa false
set_option linter.unusedVariables false
namespace Go.Proofs.YtoookjadbhdfhaaDoor
section
namespace Lx
def isType (t:Bytes):Bool:=t == [105,110,116] || isIdent t
open Go.RowKit (wrap64)
end Lx
end
set_option linter.unusedVariables false
set_option linter.unusedSimpArgs false
section
open Lx Go.RowKit
def KwIs (w:World):Prop:=∃ t fr,w.heap[0]?=some (.cells kwCells t fr)
theorem KwIs.below {w w':World}{B:Nat}(h:KwIs w)(hb:Below B w w')(hB:w.heap.size≤B):KwIs w':=by
 obtain⟨t1,f1,h1⟩:=h;exact⟨t1,f1,by rw [hb.block _ (Nat.lt_of_lt_of_le (lt_of_heap h1) hB)];exact h1⟩
theorem KwIs.alloc {w:World}(h:KwIs w)(o:Obj):KwIs (w.alloc o):=h.below ((Below.refl _ _).alloc (Nat.le_refl _) o) (Nat.le_refl _)
set_option maxHeartbeats 400000 in
theorem fm_keyword (s:ByteArray)(w:World)(hL:KwIs w):Calls Tryd.prog 42 #[.string s] w fun e w'=>e=.returned (.bool (isKeyword s.data.toList))∧w=w':=by
 obtain⟨t,fr,hg⟩:=hL;have HG:=Lib.hid hg;clear hg;go_enter Tryd.func42,Tryd.ntmps42
 go_wp2_with (refine wpList_load_row rfl 110 _ rfl 0 rfl t _ fr _ HG.out Tryd.underlying110 rfl (by kernel_rfl) ?_)
 go_loop [6] (fun i=>∃ k:Nat,k≤17∧i=.int .i64 k∧isKeyword s.data.toList=(kwList.drop k).contains s.data.toList) (fun i=>17-(intOf i).toNat)
 case atStart=>exact⟨0,by omega,rfl,rfl⟩
 case round =>
  obtain⟨k,hk,rfl,hr⟩:=hrel;have HR:=Lib.hid hr;clear hr
  by_cases hlt:k<17
  ·obtain⟨m,hm,hidx⟩:=kw_index k hlt;have HM:=Lib.hid hm;clear hm;cases he:s.toList == m
   ·have HE:=Lib.hid he;go_wp2_with fail
    go_round
    case rel=>exact⟨k+1,by omega,by go_num,by rw [HR.out,← ByteArray.toList_eq];exact contains_miss HE.out HM.out⟩
    case measure=>simp [intOf];omega
   ·have HE:=Lib.hid he;go_wp2_with fail;go_ret;exact⟨ret_bool (by rw [HR.out,← ByteArray.toList_eq];exact (contains_hit HE.out HM.out).symm),rfl⟩
  ·go_wp2_with fail;go_ret;exact⟨ret_bool (by rw [HR.out,List.drop_eq_nil_of_le (by simp [kwList];omega)];rfl),rfl⟩
set_option maxHeartbeats 400000 in
theorem fm_ident0 (s:ByteArray)(w:World)(hs:s.size≤maxLen)(hL:KwIs w):Calls Tryd.prog 23 #[.string s] w fun e w'=>e=.returned (.bool (isIdent s.data.toList))∧w=w':=by
 have HL:=Lib.hid hL;have HS:=Lib.hid hs;clear hL;unfold maxLen at hs
 by_cases h0:s.size=0
 ·have h1:=isEmpty_zero s h0;have H0:=Lib.hid h0;clear h0;go_enter Tryd.func23,Tryd.ntmps23;go_wp2_with fail;go_ret;exact⟨ret_bool (isIdent_zero s H0.out).symm,rfl⟩
 have h0:0<s.size:=by omega
 have h1:=isEmpty_pos s h0;have HI:=Lib.hid (isIdent_pos s h0)
 by_cases h2:s.size≤32
 ·go_enter Tryd.func23,Tryd.ntmps23;go_wp2_with fail;refine (lex_letter _ _).mono ?_;rintro e w' ⟨rfl,rfl⟩;cases h3:isLetter s[0]
  ·have H3:=Lib.hid h3;go_wp2_with fail;go_ret;exact⟨ret_bool (by rw [HI.out,H3.out];simp),rfl⟩
  ·have H3:=Lib.hid h3;go_wp2_with fail;refine (lex_span_part s _ HS.out).mono ?_;rintro e w' ⟨rfl,rfl⟩;have HA:=Lib.hid (spanOf_all isPart s.data.toList);have HSS:=Lib.hid (len_list s);generalize hn:spanOf isPart s.data.toList=n at HA ⊢;clear hn
   by_cases h4:n=s.size
   ·have h5:(n == s.size)=true:=beq_iff_eq.2 h4;have h6:((n:Int) == (s.size:Int))=true:=beq_iff_eq.2 (by omega);have H4:=Lib.hid h4;clear h4;go_wp2_with fail;refine (fm_keyword s _ HL.out).mono ?_;rintro e w' ⟨rfl,rfl⟩;have HB:Hid (s.data.toList.all isPart=true):=HA.out.1 (by rw [HSS.out];exact H4.out);cases h7:isKeyword s.data.toList
    ·have H7:=Lib.hid h7;go_wp2_with fail;go_ret;exact⟨ret_bool (by rw [HI.out,H3.out,HB.out,H7.out];simp [h2]),rfl⟩
    ·have H7:=Lib.hid h7;go_wp2_with fail;go_ret;exact⟨ret_bool (by rw [HI.out,H7.out];simp),rfl⟩
   ·have h5:(n == s.size)=false:=beq_eq_false_iff_ne.2 h4;have h6:((n:Int) == (s.size:Int))=false:=beq_eq_false_iff_ne.2 (by omega);have H4:=Lib.hid h4;clear h4;have HB:Hid (s.data.toList.all isPart=false):=by
     cases hb:s.data.toList.all isPart
     ·rfl
     ·exact absurd (HA.out.2 hb) (by rw [HSS.out];exact H4.out)
    go_wp2_with fail;go_ret;exact⟨ret_bool (by rw [HI.out,HB.out];simp),rfl⟩
 ·go_enter Tryd.func23,Tryd.ntmps23;go_wp2_with fail;go_ret;exact⟨ret_bool (by rw [HI.out];simp [h2]),rfl⟩
end
section
open Lx Go.RowKit
open Go.ChangeShapes Go.WideShapes Go.ChangeAt
theorem KwIs.of_met {W:World}{l:List (String×DataW Unit)}(h:laidMet Tryd.prog l W)(h1:("dataflow/lex.keywords",Rows.laid_dataflow_lex_keywords)∈l):KwIs W:=by
 obtain⟨ps,hv,_,_⟩:=h;obtain⟨g0,t0,cs0,f0,p0,hg0,ht0,hv0,hd0⟩:=laid_entry hv h1;obtain rfl:=Option.some.inj (gKw.symm.trans hg0);obtain rfl:=Option.some.inj (tKw.symm.trans ht0);obtain⟨t,fr,hh⟩:=heap_of_var hg0 hv0;have hcs:=strings_of_array (ss:=kwList) Tryd.underlying110 Tryd.underlying9 cStr cKw hd0;refine⟨t,fr,?_⟩;rw [hh];obtain⟨l0⟩:=cs0;simp only at hcs;rw [hcs];rfl
end
section
open Lx
namespace Lx
/-- Tokens as lex.Tokens gives them, as far as the parser leans on it. -/
structure TWF (ts:List Tok):Prop where
 pos:0<ts.length
 kind:(tk ts (ts.length-1)).kind=5
 text:(tk ts (ts.length-1)).text=[]
 n:∀ t∈ts,t.n<9223372036854775808
 len:ts.length≤100000
end Lx
end
section
namespace Lx
mutual
def exSz:Ex→Nat
 | .mk _ _ _ _ ks=>exsSz ks+1
def exsSz:List Ex→Nat
 | []=>0
 | e::es=>exSz e+exsSz es
end
mutual
def stSz:St→Nat
 | .mk _ _ _ es b el=>exsSz es+stsSz b+stsSz el+1
def stsSz:List St→Nat
 | []=>0
 | s::l=>stSz s+stsSz l
end
theorem exSz_pos (e:Ex):0<exSz e:=by cases e;rw [exSz];omega
theorem stSz_pos (s:St):0<stSz s:=by cases s;rw [stSz];omega
theorem exsSz_len (l:List Ex):l.length≤exsSz l:=by
 induction l with
 | nil=>simp
 | cons x l ih=>have:=exSz_pos x;simp only [List.length_cons,exsSz];omega
theorem stsSz_len (l:List St):l.length≤stsSz l:=by
 induction l with
 | nil=>simp
 | cons x l ih=>have:=stSz_pos x;simp only [List.length_cons,stsSz];omega
theorem exsSz_mem {l:List Ex}{e:Ex}(h:e∈l):exSz e≤exsSz l:=by
 induction l with
 | nil=>cases h
 | cons x l ih =>
   simp only [exsSz];rcases List.mem_cons.1 h with rfl | h
   ·omega
   ·have:=ih h;omega
theorem stsSz_mem {l:List St}{e:St}(h:e∈l):stSz e≤stsSz l:=by
 induction l with
 | nil=>cases h
 | cons x l ih =>
   simp only [stsSz];rcases List.mem_cons.1 h with rfl | h
   ·omega
   ·have:=ih h;omega
mutual
theorem exDepth_sz:∀ e:Ex,exDepth e≤exSz e
 | .mk k n o m ks=>by rw [exDepth,exSz];have:=exsDepth_sz ks;omega
theorem exsDepth_sz:∀ l:List Ex,exsDepth l≤exsSz l
 | []=>by simp [exsDepth,exsSz]
 | e::l=>by rw [exsDepth,exsSz];have:=exDepth_sz e;have:=exsDepth_sz l;omega
end
mutual
theorem stDepth_sz:∀ s:St,stDepth s≤stSz s
 | .mk k n t es b el=>by rw [stDepth,stSz];have:=exsDepth_sz es;have:=stsDepth_sz b;have:=stsDepth_sz el;omega
theorem stsDepth_sz:∀ l:List St,stsDepth l≤stsSz l
 | []=>by simp [stsDepth,stsSz]
 | e::l=>by rw [stsDepth,stsSz];have:=stDepth_sz e;have:=stsDepth_sz l;omega
end
mutual
theorem stCount_sz:∀ s:St,stCount s+1≤stSz s
 | .mk k n t es b el=>by rw [stCount,stSz];have:=stsCount_sz b;have:=stsCount_sz el;omega
theorem stsCount_sz:∀ l:List St,stsCount l≤stsSz l
 | []=>by simp [stsCount,stsSz]
 | e::l=>by rw [stsCount,stsSz];have:=stCount_sz e;have:=stsCount_sz l;omega
end
section
variable {ts:List Tok}
def Siz (E:Nat→PR Ex):Prop:=∀ i e j,E i=.ok (e,j)→exSz e+i≤j
theorem exSz_mk (k n:Int)(o m:Bytes)(ks:List Ex):exSz (.mk k n o m ks)=exsSz ks+1:=by rw [exSz]
variable {E:Nat→PR Ex} (hE:Siz E)
include hE
omit hE
end
section
variable {ts:List Tok}
def MeZ (j:Nat)(m:Me):Prop:=stsSz m.body≤j∧m.params.length≤j
theorem MeZ.mono {j j':Nat}{m:Me}(h:MeZ j m)(hj:j≤j'):MeZ j' m:=⟨Nat.le_trans h.1 hj,Nat.le_trans h.2 hj⟩
end
end Lx
end
section
open Go.RowKit
namespace Ax
/-- A world that is the same but for one block that nothing speaks of. -/
theorem Rep.outside {M:Mp}{H:Heap}{nx:Nat}{w w':World}{g:Nat}(r:Rep M H nx w)(hi:¬ Im H M g)(hz:∀ o,M.fz g≠some o)(hh:∀ x,x<w.heap.size→x≠g→w'.heap[x]?=w.heap[x]?):Rep M H nx w':=by
 refine⟨fun b k hb=>?_,r.inj,r.fresh,fun x o hx=>?_,r.sep⟩
 ·obtain⟨g',m,a,c⟩:=r.blk b k hb;exact⟨g',m,a,c.ext (.refl _) (hh g' c.lt (fun e=>hi ⟨b,k,m,hb,e▸a⟩))⟩
 ·have h1:=r.fz x o hx;rw [hh x (Array.getElem?_eq_some_iff.mp h1).1 (fun e=>hz o (e▸hx)),h1]
theorem Rep.alloc {M:Mp}{H:Heap}{nx:Nat}{w:World}(r:Rep M H nx w)(o:Obj):Rep M H nx (w.alloc o):=by
 have hh:∀ x,x<w.heap.size→(w.alloc o).heap[x]?=w.heap[x]?:=fun x hx=>Below.heap_alloc w o x hx
 refine⟨fun b k hb=>?_,r.inj,r.fresh,fun x o hx=>?_,r.sep⟩
 ·obtain⟨g',m,a,c⟩:=r.blk b k hb;exact⟨g',m,a,c.ext (.refl _) (hh g' c.lt)⟩
 ·have h1:=r.fz x o hx;rw [hh x (Array.getElem?_eq_some_iff.mp h1).1,h1]
/-- A call with one more block of the caller's own: what it leaves. -/
theorem own_after {M M2:Mp}{H H':Heap}{nx nx':Nat}{w w2 w4:World}{o:Obj}(r:Rep M H nx w)(r2:Rep M2 H' nx' w2)(f:Fr H M nx (w.alloc o) H' M2 nx' w2)
  (hh:∀ x,x<w2.heap.size→x≠w.heap.size→w4.heap[x]?=w2.heap[x]?) (hs:w2.heap.size≤w4.heap.size) (ho:w4.os=w2.os) (ht:w4.tape=w2.tape) (hp:w4.output=w2.output) :
  Rep M2 H' nx' w4∧Fr H M nx w H' M2 nx' w4∧w2.heap[w.heap.size]?=some o:=by
 have hsz:(w.alloc o).heap.size=w.heap.size+1:=by simp
 have ni:¬ Im H M w.heap.size:=fun h=>by have:=r.im_lt h;omega
 have ni':¬ Im H' M2 w.heap.size:=fun h=>by
  rcases f.mono _ h with h1 | h1
  ·exact ni h1
  ·omega
 have nz:∀ x,M2.fz w.heap.size≠some x:=fun x h=>by
  rcases f.fzn _ _ h with h1 | h1 | h1
  ·have:=(Array.getElem?_eq_some_iff.mp (r.fz _ _ h1)).1;omega
  ·exact ni h1
  ·omega
 have g:=f.grown;refine⟨r2.outside ni' nz hh,⟨f.ext,by rw [ho,f.os];rfl,by rw [ht,f.tape];rfl,by rw [hp,f.output];rfl,by omega,fun x hx hn=>?_,fun x h=>?_,f.low,f.nxle,fun x y h=>?_⟩,?_⟩
 ·rw [hh x (by omega) (by omega),f.kept x (by omega) hn];exact Below.heap_alloc w o x hx
 ·rcases f.mono x h with h1 | h1
  ·exact .inl h1
  ·exact .inr (by omega)
 ·rcases f.fzn x y h with h1 | h1 | h1
  ·exact .inl h1
  ·exact .inr (.inl h1)
  ·exact .inr (.inr (by omega))
 ·rw [f.kept _ (by omega) ni];exact (MapKept.heap_alloc w o).1
end Ax
open Ax
theorem assert_fault (p:Int)(w:World):(Instr.typeAssert (.iface 99 (.agg #[.int .i64 p])) 20 99 true).run Tryd.prog w=.ok (.tuple #[.agg #[.int .i64 p],.bool true]) w:=by kernel_rfl
theorem assert_fault_nil (w:World):(Instr.typeAssert .nilIface 20 99 true).run Tryd.prog w=.ok (.tuple #[.agg #[.int .i64 0],.bool false]) w:=by kernel_rfl
set_option maxRecDepth 100000 in
theorem run_catch (pe:Nat)(p:Int)(v2:Value)(w:World)(h2:w.cell? ⟨pe,0,none⟩=some v2)(z2:w.frozen? ⟨pe,0,none⟩=false) :
  CallsD Tryd.prog 44 #[.pointer (some ⟨pe,0,none⟩)] (.panicking [{ v:=.iface 99 (.agg #[.int .i64 p]),recovered:=false }]) w fun e u' w' =>
   e=.returned (.tuple #[])∧u'=.panicking [{ v:=.iface 99 (.agg #[.int .i64 p]),recovered:=true }]∧w'=(w.setCell ⟨pe,0,none⟩ (.int .i64 p)).alloc (.cells #[.int .i64 p] 99):=by
 refine callsD_of_wpS Tryd.func44 rfl fun c₀ cs hu=>?_
 apply wpS_seq;apply wpS_region;simp [wpOpsS,go_sem,recoverD,hu,Tryd.ntmps44,Exit.thenS,assert_fault];have l2:=World.block_lt_of_cell? w _ h2;apply wpS_seq;apply wpS_region;simp [wpOpsS,go_sem,Exit.thenS];refine wpS_cond (t:=true) (by simp [Act.eval,Array.replicate]) ?_;simp only [if_true];apply wpS_region;simp [wpOpsS,go_sem,h2,z2,l2,bodyPostS,results,Tryd.results44]
set_option maxRecDepth 100000 in
theorem run_idle (pe:Nat)(w:World) :
  CallsD Tryd.prog 44 #[.pointer (some ⟨pe,0,none⟩)] .returning w fun e u' w'=>e=.returned (.tuple #[])∧u'=.returning∧w'=w.alloc (.cells #[.int .i64 0] 99):=by
 refine callsD_of_wpS Tryd.func44 rfl fun c₀ cs hu=>?_
 apply wpS_seq;apply wpS_region;simp [wpOpsS,go_sem,recoverD,hu,Tryd.ntmps44,Exit.thenS,assert_fault_nil];refine wpS_of_wp ?_
 go_wp2
 cases c₀
 simp_all [bodyPostS,results,Tryd.results44]
def RunQ (Q:Res→Heap→Nat→Prop):Res→Heap→Nat→Prop:=fun r H' nx'=>match r with
 | .ret _=>Q (.ret (.int .i64 0)) H' nx'
 | .pan v=>∃ e,v=.iface 99 (.agg [.int .i64 e])∧Q (.ret (.int .i64 e)) H' nx'
set_option maxHeartbeats 1000000 in
set_option maxRecDepth 100000 in
theorem tc_run {G:Nat→CV}{g:FuncId}{a b:List CV}{c:CV}{H:Heap}{nx:Nat}{Q:Res→Heap→Nat→Prop}(hen:enters Tryd.prog g=true)(hc:ACall Tryd.prog G g (a++b) H nx (RunQ Q)) :
  ACall Tryd.prog G 25 [c,.fn (.func g) a b] H nx Q:=by
 intro M w vs hg r hvs;obtain⟨vc,vs1,rfl,h1,hvs1⟩:=hvs.cons_inv;obtain⟨vf,vs2,rfl,h2,hvs2⟩:=hvs1.cons_inv;have:=hvs2.nil_inv;subst this;cases h2 with
 | fn _ _ _ fs cs l1 l2 k1 k2 =>
 have hG:∀ (args:Array Value) (w:World),(callFunc g args).run Tryd.prog w=.ok (.enter g args) w:=by
  intro args w;unfold enters at hen;cases hfn:(Tryd.prog).funcs[g]? with
  | none=>rw [hfn] at hen;cases hen
  | some fn =>
    rw [hfn] at hen;simp only [Bool.and_eq_true] at hen;have hn:(fn.name == "runtime.NumGoroutine")=false:=by have:=hen.1;simpa [bne] using this
    have hb:fn.body.isNone=false:=by cases hbb:fn.body <;> simp_all
    simp only [callFunc,Sem.run_bind,run_program,Result.andThen_ok,hfn,hn,hb,Bool.false_eq_true,if_false,Sem.run_pure]
 have hmf:∀ (fn:Fn) (first cap:Array Value) (w:World),(Instr.makeFunc fn first cap).run Tryd.prog w=.ok (.func fn first cap) w:=fun _ _ _ _=>rfl
 have HC:=Lib.hid (hc M (w.alloc (.cells #[.int .i64 0] 27)) (fs++cs) hg (r.alloc _) (RVs.append ⟨l1,k1⟩ ⟨l2,k2⟩));have HR:=Lib.hid r;clear hc hg r hvs hvs1 hvs2 h1 k1 k2 l1 l2 hen
 go_enter_defers Tryd.func25,Tryd.ntmps25
 go_wp2_with fail;refine HC.out.mono ?_;rintro e w2 ⟨M2,x,H',nx',h3,r2,f2,hq⟩;have hE:=(own_after HR.out r2 f2 (fun _ _ _=>rfl) (Nat.le_refl _) rfl rfl rfl).2.2;have hlt:w.heap.size<w2.heap.size:=(Array.getElem?_eq_some_iff.mp hE).1;have hcell:w2.cell? ⟨w.heap.size,0,none⟩=some (.int .i64 0):=by simp [World.cell?,hE]
 have hfro:w2.frozen? ⟨w.heap.size,0,none⟩=false:=by simp [World.frozen?,hE]
 have HF:=Lib.hid f2;have HR2:=Lib.hid r2;have HQ:=Lib.hid hq;have HE:=Lib.hid hE;clear f2 r2 hq hE HC;have fin:∀ (v:Int),w2.heap.size≤(((w2.setCell ⟨w.heap.size,0,none⟩ (.int .i64 v)).alloc (.cells #[.int .i64 v] 99))).heap.size∧∀ (o:Obj) x,x<w2.heap.size→x≠w.heap.size→(((w2.setCell ⟨w.heap.size,0,none⟩ (.int .i64 v)).alloc o)).heap[x]?=w2.heap[x]?:=by
  intro v;refine⟨by simp,fun o x hx hne=>?_⟩;rw [Below.heap_alloc _ _ _ (by simp;omega),Below.heap_setCell _ _ _ _ hne]
 cases x with
 | ret c' =>
   cases e <;> simp only [EndR] at h3;go_wp2_with fail;refine leaves_cons (f:=44) (args:=#[.pointer (some ⟨w.heap.size,0,none⟩)]) (by simp) (by simp [go_sem]) ?_;refine (run_idle w.heap.size _).mono ?_;rintro e u' w5 ⟨rfl,rfl,rfl⟩;simp only [Leaves,settle];refine⟨.int .i64 0,?_,?_⟩
   ·simp [results,Tryd.results25,go_sem,hcell,hlt]
   ·have ha:=own_after (w4:=(w2.setCell ⟨w.heap.size,0,none⟩ (.int .i64 0)).alloc (.cells #[.int .i64 0] 99)) HR.out HR2.out HF.out ((fin 0).2 _) (fin 0).1 rfl rfl rfl;exact⟨M2,.ret (.int .i64 0),H',nx',.int _ _,ha.1,ha.2.1,HQ.out⟩
 | pan c' =>
   cases e <;> simp only [EndR] at h3;obtain⟨v,rfl,hv⟩:=h3;obtain⟨er,rfl,hq⟩:=HQ.out;cases hv with
   | iface _ _ v hv=>cases hv with
     | agg _ us hl hr =>
       obtain⟨u,us',rfl,hu,hu'⟩:=RVs.cons_inv (M:=M2) (cs:=[]) ⟨hl,hr⟩;have:=hu'.nil_inv;subst this;cases hu;refine leaves_cons (f:=44) (args:=#[.pointer (some ⟨w.heap.size,0,none⟩)]) (by simp) (by simp [go_sem]) ?_;refine (run_catch w.heap.size er _ w2 hcell hfro).mono ?_;rintro e u' w5 ⟨rfl,rfl,rfl⟩;simp only [Leaves,settle,List.dropWhile_nil];refine⟨.int .i64 er,?_,?_⟩
       ·simp [results,Tryd.results25,go_sem,hcell,hlt]
       ·have ha:=own_after (w4:=(w2.setCell ⟨w.heap.size,0,none⟩ (.int .i64 er)).alloc (.cells #[.int .i64 er] 99)) HR.out HR2.out HF.out ((fin er).2 _) (fin er).1 rfl rfl rfl;exact⟨M2,.ret (.int .i64 er),H',nx',.int _ _,ha.1,ha.2.1,hq⟩
end
end Go.Proofs.YtoookjadbhdfhaaDoor
