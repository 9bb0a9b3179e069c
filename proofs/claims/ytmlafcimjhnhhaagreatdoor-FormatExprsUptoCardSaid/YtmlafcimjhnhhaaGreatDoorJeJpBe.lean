/-
  parse.Expr, walked.
-/
import Derived.Test.YtmlafcimjhnhhaaGreatDoorJeJpBc
import Derived.Test.YtmlafcimjhnhhaaGreatDoorJeJpAu
import Derived.Test.YtmlafcimjhnhhaaGreatDoorJeJpAr
import Derived.Test.YtmlafcimjhnhhaaGreatDoorJeJpAp
import Derived.Test.YtmlafcimjhnhhaaGreatDoorJeParItems
import Derived.RegionTactic
import Derived.BigRegion
set_option linter.unusedSectionVars false
set_option linter.unusedSimpArgs false
set_option linter.unnecessarySimpa false
set_option linter.unusedVariables false
namespace Go.Proofs.YtmlafcimjhnhhaaGreatDoor
section
open Lx Go.RowKit
def formEx (cs:Array Value):Prop:=∃ (k n:Int) (o m:ByteArray) (a:Option Addr) (l c:Nat),cs=#[.int .i64 k,.int .i64 n,.string o,.string m,.slice a l c]
def factEx (e:Ex)(cs:Array Value):Fact:=fEx e cs.toList
set_option maxHeartbeats 1000000 in
theorem rule_Expr (cb:Nat):RuleC 24 cb 24 #[.int .i64 0,.int .i64 0,.string ⟨#[]⟩,.string ⟨#[]⟩,.slice none 0 0] formEx factEx (fun ts=>exprT ts 0):=by
 intro pb g cap ts w hT hE h1 h2 hcb;obtain⟨R,hr⟩:∃ R,R=exprT ts 0:=⟨_,rfl⟩
 show Calls _ _ _ _ (RuleOut pb g cap ts w cb _ formEx factEx (exprT ts 0))
 rw [← hr];have HR:=Lib.hid hr;have HE:=Lib.hid hE;have HC:=Lib.hid hcb;have hcl:=lt_of_heap hcb;clear hr hE hcb;go_enter Tryz.func24,Tryz.ntmps24;go_wp2_with fail;refine (par_expr hT HE.out).mono ?_;intro e w2 ho;rw [← HR.out] at ho;cases R with
 | error q =>
   obtain⟨hg,rfl⟩:=out_error ho;exact⟨rfl,rfl,hg⟩
 | ok x =>
   obtain⟨x,j⟩:=x;obtain⟨hg,v,rfl,⟨d,k,n,o,m,a,l,c,rfl,hx⟩,hE2⟩:=out_ok ho;have hc2:w2.heap[cb]?=some (.cells #[.int .i64 0,.int .i64 0,.string ⟨#[]⟩,.string ⟨#[]⟩,.slice none 0 0] 24 (0,0)):=(hg.block cb hcl (by intro e;cases e;exact h1 rfl)).trans HC.out;obtain⟨c0,cz⟩:=blk_cell hc2;have d0:=c0 0;have d1:=c0 1;have d2:=c0 2;have d3:=c0 3;have d4:=c0 4;simp only [List.getElem?_toArray,List.getElem?_cons_zero,List.getElem?_cons_succ] at d0 d1 d2 d3 d4;have HG:=Lib.hid hg;have HX:=Lib.hid hx;have HE2:=Lib.hid hE2;have HC2:=Lib.hid hc2;have hgl:=HE2.out.g_lt;clear hg hx hE2 hc2 c0 ho HR;go_wp2_with fail;refine bodyPost_end (v:=.tuple #[]) ?_ rfl ⟨rfl,((((HE2.out.set h1 h2 _ _).set h1 h2 _ _).set h1 h2 _ _).set h1 h2 _ _).set h1 h2 _ _,⟨_,⟨k,n,o,m,a,l,c,rfl⟩,B5.set HC2.out _ _ _ _ _,d,IsEx.kept (kept_set5 (by omega) _ _ _ _ _) _ _ _ HX.out⟩,HG.out.os,HG.out.tape,HG.out.output,by simp;exact HG.out.size,fun k hk h3 h4=>?_⟩
   ·simp [results,Tryz.results24,go_sem]
   ·rw [set_block_ne _ _ _ _ _ h4,set_block_ne _ _ _ _ _ h4,set_block_ne _ _ _ _ _ h4,set_block_ne _ _ _ _ _ h4,set_block_ne _ _ _ _ _ h4];exact HG.out.block k hk (by intro e;cases e;exact h3 rfl)
theorem calls_Expr (args:Array Value)(w:World):(callFunc 24 args).run Tryz.prog w=.ok (.enter 24 args) w:=by simp [go_sem]
/-- How parse.Expr ends. -/
def ExprOut (w:World)(r:Except (Nat×Nat) Ex)(e:Ending)(w':World):Prop:=Below w.heap.size w w'∧match r with
 | .error (p,er)=>e=.returned (.tuple #[.agg #[.int .i64 0,.int .i64 0,.string ⟨#[]⟩,.string ⟨#[]⟩,.slice none 0 0],.int .i64 (p:Int),.int .i64 (er:Int)])
 | .ok x=>∃ (k n:Int) (o m:ByteArray) (a:Option Addr) (l c:Nat),e=.returned (.tuple #[.agg #[.int .i64 k,.int .i64 n,.string o,.string m,.slice a l c],.int .i64 0,.int .i64 0])∧(fEx x [.int .i64 k,.int .i64 n,.string o,.string m,.slice a l c]).holds (w.heap.size≤·) w'
theorem below_of_grown {w wc w':World}{cb:Nat}(h:Below w.heap.size w wc)(hg:wc.grownBy w' (some cb))(hcb:w.heap.size≤cb):Below w.heap.size w w' :=
 ⟨hg.os.trans h.os,hg.tape.trans h.tape,hg.output.trans h.output,Nat.le_trans h.size hg.size,fun k hk=>(hg.block k (Nat.lt_of_lt_of_le hk h.size) (by intro e;cases e;omega)).trans (h.block k hk)⟩
theorem below_set5 {w wc:World}{b:Nat}(h:Below w.heap.size w wc)(hb:w.heap.size≤b)(v0 v1 v2 v3 v4:Value):Below w.heap.size w (set5 wc b v0 v1 v2 v3 v4):=by
 unfold set5;exact ((((h.setCell (by exact hb) _).setCell (by exact hb) _).setCell (by exact hb) _).setCell (by exact hb) _).setCell (by exact hb) _
set_option maxHeartbeats 1000000 in
theorem par_Expr (s:ByteArray)(w:World)(hs:s.size≤maxLen)(hL:Laid w):Calls Tryz.prog 9 #[.string s] w (ExprOut w (exprR s.data.toList)):=by
 obtain⟨R,hR⟩:∃ R,R=exprR s.data.toList:=⟨_,rfl⟩;rw [← hR];unfold exprR at hR;have HL:=Lib.hid hL;have HS:=Lib.hid hs;have HRR:=Lib.hid hR;clear hL hs hR;have hmf:∀ (fn:Fn) (first cap:Array Value) (w:World),(Instr.makeFunc fn first cap).run Tryz.prog w=.ok (.func fn first cap) w:=fun _ _ _ _=>rfl
 go_enter Tryz.func9,Tryz.ntmps9;go_wp2_with fail;refine (par_read (rule_Expr (w.heap.size+1)) calls_Expr s _ HS.out ((HL.out.alloc _).alloc _) (alloc_last _ _ _ (by simp))).mono ?_;rintro e w2 ⟨hg,ho⟩;have hb:=below_of_grown (w:=w) (((Below.refl w.heap.size w).alloc (Nat.le_refl _) _).alloc (by simp) _) hg (by omega);have hsz:=hg.size;simp only [World.size_alloc] at hsz;have hB:B5 w2 w.heap.size (.int .i64 0) (.int .i64 0) (.string ⟨#[]⟩) (.string ⟨#[]⟩) (.slice none 0 0):=(hg.block _ (by simp;omega) (by simp)).trans (B5.alloc (B5.new _ _ rfl _ _ _ _ _) _);obtain⟨⟨b0,b1,b2,b3,b4⟩,bf⟩:=hB.cells;have hbl:w.heap.size<w2.heap.size:=by omega
 have HB:=Lib.hid hb;have HRB:=Lib.hid hB;clear hg hb hB;cases hr:readR (fun ts=>exprT ts 0) s.data.toList with
 | error x =>
   obtain⟨p,er⟩:=x;rw [hr] at ho;have hRR:=HRR.out;rw [hr] at hRR;subst ho;have her:2≤er:=by
    unfold readR at hr;cases ht:tokensOf s.data.toList with
    | error y=>rw [ht] at hr;cases hr;exact tokensOf_err ht
    | ok ts =>
      rw [ht] at hr;cases he:exprT ts 0 with
      | error q=>simp only [he] at hr;cases hr;exact Nat.le_refl _
      | ok y=>obtain⟨y,j⟩:=y;simp only [he] at hr;split at hr <;> cases hr;exact Nat.le_refl _
   have he0:((er:Int) != 0)=true:=by rw [bne,beq_eq_false_iff_ne.2 (by omega)];rfl
   have RR:=Lib.hid hRR;clear hr hRR HRR;go_wp2_with fail;refine bodyPost_ret (v:=.tuple #[.agg #[.int .i64 0,.int .i64 0,.string ⟨#[]⟩,.string ⟨#[]⟩,.slice none 0 0],.int .i64 (p:Int),.int .i64 (er:Int)]) ?_ rfl ⟨below_set5 HB.out (Nat.le_refl _) _ _ _ _ _,by rw [RR.out]⟩;simp [results,Tryz.results9,go_sem,b0,b1,b2,b3,b4]
 | ok x =>
   rw [hr] at ho;have hRR:=HRR.out;rw [hr] at hRR;obtain⟨rfl,⟨ts,j,hT,hsp,hj⟩,cs,⟨k,n,o,m,a,l,c,rfl⟩,hcb,hx⟩:=ho;have hX:B5 w2 (w.heap.size+1) (.int .i64 k) (.int .i64 n) (.string o) (.string m) (.slice a l c):=hcb;obtain⟨⟨x0,x1,x2,x3,x4⟩,xf⟩:=hX.cells;have hxl:w.heap.size+1<w2.heap.size:=by omega
   have hd:exDepth x≤1000000:=by have:=exprT_dep _ _ _ hsp;have:=hT.len;omega
   replace hx:(fEx x [.int .i64 k,.int .i64 n,.string o,.string m,.slice a l c]).holds (w.heap.size<·) w2:=(fEx x _).sub _ _ _ (fun g h1 _=>by simp at h1;omega) hx;replace hRR:R=if 32<exDepth x then .error (0,15) else .ok x:=hRR
   obtain⟨d,hx⟩:=hx;have HX:=Lib.hid hx;have RR:=Lib.hid hRR;have HXX:=Lib.hid hX;clear hr hRR HRR hx hX hcb hsp;go_wp2_with fail;refine (par_exprDepth d x _ _ _ _ _ _ _ _ (IsEx.sub (fun _ _ _=>trivial) _ _ _ HX.out) hd).mono ?_;rintro e w3 ⟨rfl,hb3⟩;obtain⟨⟨y0,y1,y2,y3,y4⟩,yf⟩:=(HXX.out.below hb3).cells;obtain⟨⟨z0,z1,z2,z3,z4⟩,zf⟩:=(HRB.out.below hb3).cells;have hsz3:=hb3.size;have HB3:=Lib.hid (HB.out.trans (hb3.mono (by omega)));have HX3:=Lib.hid (IsEx.kept (.of_below hb3) _ _ _ HX.out);have hl1:w.heap.size+1<w3.heap.size:=by omega
   have hl2:w.heap.size<w3.heap.size:=by omega
   clear hb3 HX HXX HRB HB b0 b1 b2 b3 b4 bf x0 x1 x2 x3 x4 xf
   by_cases h32:32<exDepth x
   ·have hRR:=RR.out;rw [if_pos h32] at hRR;have RR2:=Lib.hid hRR;clear hRR RR;go_wp2_with fail;refine bodyPost_ret (v:=.tuple #[.agg #[.int .i64 0,.int .i64 0,.string ⟨#[]⟩,.string ⟨#[]⟩,.slice none 0 0],.int .i64 0,.int .i64 15]) ?_ rfl ⟨below_set5 HB3.out (Nat.le_refl _) _ _ _ _ _,by rw [RR2.out];rfl⟩;simp [results,Tryz.results9,go_sem,z0,z1,z2,z3,z4]
   ·have hRR:=RR.out;rw [if_neg h32] at hRR;have RR2:=Lib.hid hRR;clear hRR RR;go_wp2_with fail;refine bodyPost_ret (v:=.tuple #[.agg #[.int .i64 k,.int .i64 n,.string o,.string m,.slice a l c],.int .i64 0,.int .i64 0]) ?_ rfl ⟨below_set5 HB3.out (Nat.le_refl _) _ _ _ _ _,?_⟩
    ·simp [results,Tryz.results9,go_sem,z0,z1,z2,z3,z4]
    ·rw [RR2.out];refine⟨k,n,o,m,a,l,c,rfl,d,?_⟩;exact IsEx.sub (fun g h1 _=>by omega) _ _ _ (IsEx.kept (kept_set5 (by omega) _ _ _ _ _) _ _ _ HX3.out)
end
section
open Lx
namespace Lx
/-- The texts that the reference asks for. -/
def kmList:List Bytes:=kwList++markList
/-- Tokens, as far as the reference's parser leans on them. -/
structure TWR (ts:List Tok):Prop where
 wf:TWF ts
 km:∀ i x,x∈kmList→isT ts i x=true→(tk ts i).kind=2∨(tk ts i).kind=4
 mks:∀ i x,x∈markList→isT ts i x=true→(tk ts i).kind=4
def TokG (t:Tok):Prop:=(t.kind=1∧isKeyword t.text=false∧∃ c r,t.text=c::r∧isLetter c=true)∨(t.kind=2∧isKeyword t.text=true)∨(t.kind=3∧∃ c r,t.text=c::r∧isDigit c=true)∨t.kind=4∨(t.kind=5∧t.text=[])
theorem take_cons {c:UInt8}{t:Bytes}{m:Nat}(h:0<m):∃ r,(c::t).take m=c::r:=by
 cases m with
 | zero=>omega
 | succ m=>exact⟨_,List.take_succ_cons⟩
theorem oneTok_g {c:UInt8}{t:Bytes}{k m n q:Nat}(h:oneTok (c::t)=.ok k m n):TokG ⟨k,q,(c::t).take m,n⟩:=by
 obtain⟨h0,_⟩:=oneTok_bounds h;obtain⟨r,hr⟩:=take_cons (c:=c) (t:=t) h0;simp only [oneTok] at h;split at h
 ·rename_i hc;simp only [wordTok] at h;split at h
  ·cases h
  ·cases h;cases hk:isKeyword ((c::t).take (spanOf isPart (c::t))) with
   | true=>exact .inr (.inl ⟨rfl,hk⟩)
   | false=>exact .inl ⟨rfl,hk,c,r,hr,hc⟩
 ·split at h
  ·rename_i hc;simp only [numTok] at h;split at h
   ·cases h
   ·split at h
    ·cases h
    ·cases h;exact .inr (.inr (.inl ⟨rfl,c,r,hr,hc⟩))
  ·simp only [markTok] at h;split at h
   ·cases h;exact .inr (.inr (.inr (.inl rfl)))
   ·cases h
theorem km_ne:∀ x∈kmList,x≠[]∧(isLetter (x.headD 0)=true→isKeyword x=true)∧isDigit (x.headD 0)=false:=by decide
theorem mk_kw:∀ x∈markList,isKeyword x=false∧x∈kmList:=by decide
theorem twr_of {l:Bytes}{ts:List Tok}(h:tokensOf l=.ok ts):TWR ts:=by
 have key:∀ i,TokG (tk ts i):=by
  intro i
  by_cases hi:i<ts.length
  ·rw [tk_get _ _ hi];obtain⟨_,h⟩:=tokensOf_len h;obtain⟨us,q,rfl,h1,_⟩:=toks_all TokG (fun k m n q c t ho=>oneTok_g ho) _ _ _ _ _ h;rcases List.mem_append.1 (List.getElem_mem hi) with hm | hm
   ·exact h1 _ hm
   ·simp only [List.mem_singleton] at hm;rw [hm];exact .inr (.inr (.inr (.inr ⟨rfl,rfl⟩)))
  ·have:tk ts i=⟨5,0,[],0⟩:=by simp [tk,List.getElem?_eq_none (by omega:ts.length≤i)]
   rw [this];exact .inr (.inr (.inr (.inr ⟨rfl,rfl⟩)))
 have km:∀ i x,x∈kmList→isT ts i x=true→((tk ts i).kind=2∧isKeyword x=true)∨(tk ts i).kind=4:=by
  intro i x hx ht;obtain⟨hn,hl,hd⟩:=km_ne x hx;unfold isT at ht;have ht:=eq_of_beq ht;rcases key i with⟨_,h2,c,r,h3,h4⟩ | ⟨h,h'⟩ | ⟨_,c,r,h3,h4⟩ | h | ⟨_,h⟩
  ·rw [ht] at h2 h3;rw [h3] at hl h2;rw [hl h4] at h2;cases h2
  ·rw [ht] at h';exact .inl ⟨h,h'⟩
  ·rw [ht] at h3;rw [h3] at hd;have:isDigit c=false:=hd;rw [h4] at this;cases this
  ·exact .inr h
  ·rw [ht] at h;exact (hn h).elim
 refine⟨twf_of h,fun i x hx ht=>?_,fun i x hx ht=>?_⟩
 ·rcases km i x hx ht with h | h
  ·exact .inl h.1
  ·exact .inr h
 ·obtain⟨h1,h2⟩:=mk_kw x hx;rcases km i x h2 ht with h | h
  ·rw [h1] at h;cases h.2
  ·exact h
theorem TWR.kt {ts:List Tok}(h:TWR ts):KT ts:=⟨fun i hk=>by
 constructor
 ·cases ho:opB ts i with
  | false=>rfl
  | true=>have:=h.km i [40] (by decide) ho;omega
 ·cases ho:clB ts i with
  | false=>rfl
  | true=>have:=h.km i [41] (by decide) ho;omega⟩
end Lx
end
set_option linter.unusedSimpArgs false
section
namespace Lx
mutual
def exSz:Ex→Nat
 | .mk _ _ _ _ ks=>exsSz ks+1
def exsSz:List Ex→Nat
 | []=>0
 | e::es=>exSz e+exsSz es
end
mutual
def stSz:St→Nat
 | .mk _ _ _ es b el=>exsSz es+stsSz b+stsSz el+1
def stsSz:List St→Nat
 | []=>0
 | s::l=>stSz s+stsSz l
end
theorem exSz_pos (e:Ex):0<exSz e:=by cases e;rw [exSz];omega
theorem exsSz_len (l:List Ex):l.length≤exsSz l:=by
 induction l with
 | nil=>simp
 | cons x l ih=>have:=exSz_pos x;simp only [List.length_cons,exsSz];omega
theorem exsSz_mem {l:List Ex}{e:Ex}(h:e∈l):exSz e≤exsSz l:=by
 induction l with
 | nil=>cases h
 | cons x l ih =>
   simp only [exsSz];rcases List.mem_cons.1 h with rfl | h
   ·omega
   ·have:=ih h;omega
mutual
theorem exDepth_sz:∀ e:Ex,exDepth e≤exSz e
 | .mk k n o m ks=>by rw [exDepth,exSz];have:=exsDepth_sz ks;omega
theorem exsDepth_sz:∀ l:List Ex,exsDepth l≤exsSz l
 | []=>by simp [exsDepth,exsSz]
 | e::l=>by rw [exsDepth,exsSz];have:=exDepth_sz e;have:=exsDepth_sz l;omega
end
section
variable {ts:List Tok}
def Siz (E:Nat→PR Ex):Prop:=∀ i e j,E i=.ok (e,j)→exSz e+i≤j
variable {E:Nat→PR Ex} (hE:Siz E)
include hE
omit hE
end
section
variable {ts:List Tok}
def MeZ (j:Nat)(m:Me):Prop:=stsSz m.body≤j∧m.params.length≤j
theorem MeZ.mono {j j':Nat}{m:Me}(h:MeZ j m)(hj:j≤j'):MeZ j' m:=⟨Nat.le_trans h.1 hj,Nat.le_trans h.2 hj⟩
end
end Lx
end
section
open Lx Go.RowKit
set_option maxHeartbeats 2000000 in
theorem ref_SameExprs (d:Nat):∀ (l1 l2:List Ex) (a1:Option Addr) (n1 c1:Nat) (a2:Option Addr) (n2 c2:Nat) (w:World),IsList Any w 5 (IsEx Any w d) l1 (.slice a1 n1 c1)→IsList Any w 5 (IsEx Any w d) l2 (.slice a2 n2 c2) →
  Calls Tryz.prog 10 #[.slice a1 n1 c1,.slice a2 n2 c2] w (SameOut w (l1=l2)):=by
 induction d with
 | zero =>
   intro l1 l2 a1 n1 c1 a2 n2 c2 w h1 h2;obtain⟨rfl,hm1,hat1⟩:=h1.exAt;obtain⟨rfl,hm2,hat2⟩:=h2.exAt;cases l1 with
   | cons x l=>obtain⟨_,_,_,_,_,_,_,_,_,_,_,_,_,_,_,_,hx⟩:=hat1 0 (by simp);exact absurd hx (by simp [IsEx])
   | nil =>
     cases l2 with
     | cons x l=>obtain⟨_,_,_,_,_,_,_,_,_,_,_,_,_,_,_,_,hx⟩:=hat2 0 (by simp);exact absurd hx (by simp [IsEx])
     | nil =>
       clear h1 h2 hat1 hat2;go_enter Tryz.func10,Tryz.ntmps10;go_wp2_with fail
       go_loopw [5] (fun i wr=>SameRel ([]:List Ex) [] w i wr) (fun i _=>0-(intOf i).toNat)
       case atStart=>exact⟨0,Nat.zero_le _,rfl,rfl,.refl _ _⟩
       case round =>
        obtain⟨j,hj,rfl,_,hb⟩:=hrel;obtain rfl:j=0:=by simpa using hj
        have HB:=Lib.hid hb;clear hb;go_wp2_with fail;go_ret;exact⟨HB.out,true,rfl,by simp⟩
 | succ d ih =>
   intro l1 l2 a1 n1 c1 a2 n2 c2 w h1 h2;obtain⟨rfl,hm1,hat1⟩:=h1.exAt;obtain⟨rfl,hm2,hat2⟩:=h2.exAt;unfold maxLen at hm1 hm2;have HAT1:=Lib.hid hat1;have HAT2:=Lib.hid hat2;have IH:=Lib.hid ih;clear h1 h2 hat1 hat2 ih
   by_cases hlen:l1.length=l2.length
   ·have hle:((l1.length:Int) != (l2.length:Int))=false:=by rw [bne_eq_false_iff_eq];omega
    have hle1:l1.length≤l2.length:=by omega
    have hle2:l2.length≤l1.length:=by omega
    clear hlen;go_enter Tryz.func10,Tryz.ntmps10;go_wp2_with fail
    go_loopw [5] (fun i wr=>SameRel l1 l2 w i wr) (fun i _=>l1.length-(intOf i).toNat)
    case atStart=>exact⟨0,Nat.zero_le _,rfl,rfl,.refl _ _⟩
    case round =>
     obtain⟨j,hj,rfl,hpre,hb⟩:=hrel;have HPRE:=Lib.hid hpre;clear hpre
     by_cases hlt:j<l1.length
     ·have hlt2:j<l2.length:=by omega
      obtain⟨g1,o1,k1,m1,s1,t1,b1,r1,q1,rfl,hg1,x0,x1,x2,x3,x4,hx⟩:=HAT1.out j hlt;obtain⟨g2,o2,k2,m2,s2,t2,b2,r2,q2,rfl,hg2,y0,y1,y2,y3,y4,hy⟩:=HAT2.out j hlt2;rw [← hb.cell (p:=⟨g1,_,none⟩) hg1] at x0 x1 x2 x3 x4;rw [← hb.cell (p:=⟨g2,_,none⟩) hg2] at y0 y1 y2 y3 y4;have hs:=hb.size;have hw1:g1<wr.heap.size:=by omega
      have hw2:g2<wr.heap.size:=by omega
      obtain⟨oo1,mm1,ks1,he1,rfl,rfl,hl1⟩:=(IsEx.kept (kept_any hb) _ _ _ hx).flds;obtain⟨oo2,mm2,ks2,he2,rfl,rfl,hl2⟩:=(IsEx.kept (kept_any hb) _ _ _ hy).flds;have H1:Hid (∀ x,Below wr.heap.size wr x→IsList Any x 5 (IsEx Any x d) ks1 (.slice b1 r1 q1)):=fun x hx=>hl1.kept (kept_any hx) (by omega) fun _ _ _=>IsEx.kept (kept_any hx) _ _ _
      have H2:Hid (∀ x,Below wr.heap.size wr x→IsList Any x 5 (IsEx Any x d) ks2 (.slice b2 r2 q2)):=fun x hx=>hl2.kept (kept_any hx) (by omega) fun _ _ _=>IsEx.kept (kept_any hx) _ _ _
      have HE1:=Lib.hid he1;have HE2:=Lib.hid he2;have HB:=Lib.hid hb;clear hb hx hy hl1 hl2 he1 he2;have hj1:(j:Int)<(l1.length:Int):=by omega
      have hj2:(j:Int)<(l2.length:Int):=by omega
      have hj0:(0:Int)≤(j:Int):=by omega
      by_cases hk:k1=k2
      rotate_left
      ·have HNE:Hid (l1[j]≠l2[j]):=by show _≠_;rw [HE1.out,HE2.out];intro e;injection e;exact hk ‹_›
       have q:(k1 != k2)=true:=by rw [bne_iff_ne];exact hk
       clear hk;go_wp2_with fail
       go_region
       all_goals
        go_wp2_with fail;go_ret;exact⟨HB.out.trans (((((Below.refl _ _).alloc (Nat.le_refl _) _).alloc (by simp) _).drew).mono HB.out.size),false,rfl,by simp;exact differ hlt hlt2 (HNE.out)⟩
      subst hk
      by_cases hm:m1=m2
      rotate_left
      ·have HNE:Hid (l1[j]≠l2[j]):=by show _≠_;rw [HE1.out,HE2.out];intro e;injection e;exact hm ‹_›
       have q:(m1 != m2)=true:=by rw [bne_iff_ne];exact hm
       clear hm;go_wp2_with fail
       go_region
       all_goals
        go_wp2_with fail;go_ret;exact⟨HB.out.trans (((((Below.refl _ _).alloc (Nat.le_refl _) _).alloc (by simp) _).drew).mono HB.out.size),false,rfl,by simp;exact differ hlt hlt2 (HNE.out)⟩
      subst hm
      by_cases ho:oo1=oo2
      rotate_left
      ·have HNE:Hid (l1[j]≠l2[j]):=by show _≠_;rw [HE1.out,HE2.out];intro e;injection e;exact ho ‹_›
       obtain⟨q,q'⟩:=str_ne ho;clear ho;go_wp2_with fail
       go_region
       all_goals
        go_wp2_with fail;go_ret;exact⟨HB.out.trans (((((Below.refl _ _).alloc (Nat.le_refl _) _).alloc (by simp) _).drew).mono HB.out.size),false,rfl,by simp;exact differ hlt hlt2 (HNE.out)⟩
      subst ho
      by_cases hn:mm1=mm2
      rotate_left
      ·have HNE:Hid (l1[j]≠l2[j]):=by show _≠_;rw [HE1.out,HE2.out];intro e;injection e;exact hn ‹_›
       obtain⟨q,q'⟩:=str_ne hn;clear hn;go_wp2_with fail
       go_region
       all_goals
        go_wp2_with fail;go_ret;exact⟨HB.out.trans (((((Below.refl _ _).alloc (Nat.le_refl _) _).alloc (by simp) _).drew).mono HB.out.size),false,rfl,by simp;exact differ hlt hlt2 (HNE.out)⟩
      subst hn;go_wp2_with fail
      go_region
      all_goals
       go_wp2_with fail;refine (IH.out _ _ _ _ _ _ _ _ _ (H1.out _ (((((Below.refl _ _).alloc (Nat.le_refl _) _).alloc (by simp) _).drew))) (H2.out _ (((((Below.refl _ _).alloc (Nat.le_refl _) _).alloc (by simp) _).drew)))).mono ?_;rintro e w2 ⟨hb2,b,rfl,hbi⟩;have HB2:=Lib.hid (HB.out.trans ((((((Below.refl _ _).alloc (Nat.le_refl _) _).alloc (by simp) _).drew).trans (hb2.mono (by simp;omega))).mono HB.out.size));have HBI:=Lib.hid hbi;clear hb2 hbi;cases b
       ·go_wp2_with fail;go_ret;refine⟨HB2.out,false,rfl,?_⟩;simp;refine differ hlt hlt2 ?_;rw [HE1.out,HE2.out];intro e;injection e;exact absurd (HBI.out.2 ‹_›) (by decide)
       ·go_wp2_with fail
        go_roundw
        case rel =>
         refine⟨j+1,by omega,by go_num,?_,HB2.out⟩;rw [List.take_succ_eq_append_getElem hlt,List.take_succ_eq_append_getElem hlt2,HPRE.out,HE1.out,HE2.out,HBI.out.1 (by simp)]
        case measure=>simp [intOf];omega
     ·have HB:=Lib.hid hb;clear hb;go_wp2_with fail;go_ret;refine⟨HB.out,true,rfl,?_⟩;simp only [true_iff];have hp:=HPRE.out;rw [List.take_of_length_le (by omega),List.take_of_length_le (by omega)] at hp;exact hp
   ·have hle:((l1.length:Int) != (l2.length:Int))=true:=by rw [bne_iff_ne];omega
    have HL:=Lib.hid hlen;clear hlen;go_enter Tryz.func10,Tryz.ntmps10;go_wp2_with fail;go_ret;exact⟨.refl _ _,false,rfl,by simp;intro h;exact HL.out (by rw [h])⟩
end
end Go.Proofs.YtmlafcimjhnhhaaGreatDoor
