/-
  Plain Lean: what PlainProgram prints is written by the grammar, so that it is read back.
-/
import Derived.Test.YtmlafcimjhnhhaaDoorJlJpAu
import Derived.Test.YtmlafcimjhnhhaaDoorJlJpBc
import Derived.Test.YtmlafcimjhnhhaaDoorJlJpAx
set_option linter.unusedSectionVars false
set_option linter.unusedSimpArgs false
set_option linter.unnecessarySimpa false
set_option linter.unusedVariables false
set_option linter.unusedSimpArgs false
set_option linter.unusedVariables false
namespace Go.Proofs.YtmlafcimjhnhhaaDoor
section
open Lx
namespace Lx
/-- A text that reads as these tokens, whatever follows that is no part of a word. -/
def Pr (A:Bytes)(us:List TT):Prop:=∀ rest vs,nextPart rest=false→LxT rest vs→LxT (A++rest) (us++vs)
/-- A text that reads as these tokens, whatever follows. -/
def Pa (A:Bytes)(us:List TT):Prop:=∀ rest vs,LxT rest vs→LxT (A++rest) (us++vs)
theorem Pa.pr {A:Bytes}{us:List TT}(h:Pa A us):Pr A us:=fun r v _ k=>h r v k
theorem Pr.word {x:Bytes}(h:isIdent x=true):Pr x [TT.wd x]:=fun r v hn k=>.word h hn k
theorem Pr.key {x:Bytes}(h:x∈kwList):Pr x [TT.kw x]:=fun r v hn k=>.key h hn k
theorem Pr.num {x:Bytes}{n:Nat}(h:NumText x n):Pr x [TT.nu x n]:=fun r v hn k=>.num h hn k
theorem Pa.mark {x:Bytes}(h:x∈soloList):Pa x [TT.mk x]:=fun r v k=>.mark h k
theorem Pa.nil:Pa [] []:=fun r v k=>k
/-- Separators. -/
theorem Pa.sep {A:Bytes}(h:A.all isSep=true):Pa A []:=by
 induction A with
 | nil=>exact .nil
 | cons c A ih =>
   simp only [List.all_cons,Bool.and_eq_true] at h;exact fun r v k=>.sep h.1 (ih h.2 r v k)
theorem Pa.app {A B:Bytes}{us vs:List TT}(h:Pa A us)(h2:Pa B vs):Pa (A++B) (us++vs):=fun r v k=>by
 rw [List.append_assoc,List.append_assoc];exact h _ _ (h2 _ _ k)
theorem Pa.appR {A B:Bytes}{us vs:List TT}(h:Pa A us)(h2:Pr B vs):Pr (A++B) (us++vs):=fun r v hn k=>by
 rw [List.append_assoc,List.append_assoc];exact h _ _ (h2 _ _ hn k)
/-- A text with which no word goes on. -/
def Brk (B:Bytes):Prop:=∃ c t,B=c::t∧isPart c=false
theorem Pr.app {A B:Bytes}{us vs:List TT}(h:Pr A us)(hb:Brk B)(h2:Pa B vs):Pa (A++B) (us++vs):=fun r v k=>by
 obtain⟨c,t,rfl,hc⟩:=hb;rw [List.append_assoc,List.append_assoc];exact h _ _ hc (h2 _ _ k)
theorem Pr.appR {A B:Bytes}{us vs:List TT}(h:Pr A us)(hb:Brk B)(h2:Pr B vs):Pr (A++B) (us++vs):=fun r v hn k=>by
 obtain⟨c,t,rfl,hc⟩:=hb;rw [List.append_assoc,List.append_assoc];exact h _ _ hc (h2 _ _ hn k)
theorem Brk.app {A:Bytes}(h:Brk A)(B:Bytes):Brk (A++B):=by
 obtain⟨c,t,rfl,hc⟩:=h;exact⟨c,t++B,rfl,hc⟩
theorem Brk.of {c:UInt8}{t:Bytes}(h:isPart c=false):Brk (c::t):=⟨c,t,rfl,h⟩
/-- A colon or an equals sign and a separator. -/
theorem Pa.colon {x:Bytes}{c:UInt8}(hx:x=[58]∨x=[61])(hc:isSep c=true):Pa (x++[c]) [TT.mk x]:=fun r v k=>by
 rw [List.append_assoc];exact .markSep hx hc k
theorem Pa.end {A:Bytes}{us:List TT}(h:Pa A us):LxT A us:=by simpa using h [] [] .nil
/-! numbers -/
theorem dig_digit {n:Nat}(h:n<10):isDigit (dig n)=true∧(dig n).toNat-48=n∧(dig n=48→n=0):=by
 have e:(dig n).toNat=48+n:=by simp [dig];omega
 refine⟨by simp only [isDigit,decide_eq_true_eq];omega,by omega,fun h=>?_⟩;rw [h] at e;have:(48:UInt8).toNat=48:=rfl;omega
theorem numVal_snoc (l:Bytes)(c:UInt8):numVal (l++[c])=numVal l*10+(c.toNat-48):=by simp [numVal]
theorem digits_text:∀ f n,n<10 ^ f→0<f→(digitsOf f n).all isDigit=true∧numVal (digitsOf f n)=n∧digitsOf f n≠[]∧((digitsOf f n).head?=some 48→n=0∧(digitsOf f n).length=1):=by
 intro f
 induction f with
 | zero=>intro n _ h;omega
 | succ f ih =>
   intro n hn _;unfold digitsOf
   by_cases h:n<10
   ·obtain⟨d1,d2,d3⟩:=dig_digit h;rw [if_pos h];refine⟨by simp [d1],by simp [numVal,d2],by simp,fun e=>?_⟩;simp only [List.head?_cons,Option.some.injEq] at e;exact⟨d3 e,rfl⟩
   ·rw [if_neg h];have hf:0<f:=by
     cases f with
     | zero=>simp at hn;omega
     | succ f=>omega
    have hq:n / 10<10 ^ f:=by rw [Nat.div_lt_iff_lt_mul (by decide)];rw [Nat.pow_succ] at hn;exact hn
    obtain⟨i1,i2,i3,i4⟩:=ih _ hq hf;obtain⟨d1,d2,d3⟩:=dig_digit (Nat.mod_lt n (by decide:0<10));refine⟨by simp [i1,d1],by rw [numVal_snoc,i2,d2];omega,by simp,fun e=>?_⟩;rw [List.head?_append,Option.or_of_isSome (by rw [Option.isSome_iff_exists];cases hd:digitsOf f (n / 10) with | nil=>exact absurd hd i3 | cons c t=>exact⟨c,rfl⟩)] at e;have:=(i4 e).1;omega
theorem digits_num {n:Nat}(h:n<9223372036854775808):NumText (digitsOf 20 n) n:=by
 obtain⟨h1,h2,h3,h4⟩:=digits_text 20 n (by omega) (by decide);exact⟨h3,h1,fun e=>(h4 e).2,h2,h⟩
/-! expressions -/
theorem opText_mark {op:Int}(h:1≤op∧op≤5):opText op∈soloList:=by
 have:op=1∨op=2∨op=3∨op=4∨op=5:=by omega
 rcases this with rfl | rfl | rfl | rfl | rfl <;> decide
/-- An operation, in parentheses, is an atom. -/
theorem GrP.bin {op:Int}(h:1≤op∧op≤5){a b:Ex}{us vs:List TT}{s t:Nat}(ha:GrP a us s)(hb:GrP b vs t):GrP (.mk 6 op [] [] [a,b]) (TT.mk [40]::((us++(TT.mk (opText op)::vs))++[TT.mk [41]])) 0:=by
 refine .paren ?_;have:op=1∨op=2∨op=3∨op=4∨op=5:=by omega
 rcases this with rfl | rfl | rfl | rfl | rfl
 ·exact .sum (.add (.prod (.post ha)) (.post hb))
 ·exact .sum (.sub (.prod (.post ha)) (.post hb))
 ·exact .sum (.prod (.mul (.post ha) hb))
 ·exact .less (.prod (.post ha)) (.prod (.post hb))
 ·exact .equal (.prod (.post ha)) (.prod (.post hb))
theorem GrP.expr {e:Ex}{us:List TT}{s:Nat}(h:GrP e us s):GrE e us:=.sum (.prod (.post h))
theorem exSz_kid {k n:Int}{o m:Bytes}{ks:List Ex}{e:Ex}(h:e∈ks):exSz e<exSz (.mk k n o m ks):=by
 rw [exSz];have:exSz e≤exsSz ks:=exsSz_mem h;omega
end Lx
end
section
open Lx
namespace Lx
theorem typ_gr {t:Bytes}(h:WfT t):∃ u,GrT t u∧Pr t [u]:=by
 rcases h with rfl | h
 ·exact⟨_,.inl ⟨rfl,rfl⟩,.key (by decide)⟩
 ·exact⟨_,.inr rfl,.word h⟩
theorem sp (c:UInt8)(h:isSep c=true):Pa [c] []:=.sep (by simp [h])
theorem mk1 {x:Bytes}(h:x∈soloList):Pa (x++[32]) [TT.mk x]:=by simpa using (Pa.mark h).app (Pa.sep (A:=[32]) (by decide))
theorem kw1 {x:Bytes}(h:x∈kwList):Pa (x++[32]) [TT.kw x]:=by simpa using (Pr.key h).app (Brk.of (by decide)) (Pa.sep (A:=[32]) (by decide))
/-- A keyword and a parenthesis. -/
theorem kwP {x:Bytes}(h:x∈kwList):Pa (x++[32,40]) [TT.kw x,TT.mk [40]]:=by simpa using (Pr.key h).app (Brk.of (by decide)) ((Pa.sep (A:=[32]) (by decide)).app (Pa.mark (x:=[40]) (by decide)))
/-- A name and its type. -/
theorem typed_gr {x t:Bytes}(hx:isIdent x=true){u:TT}(hp:Pr t [u]):Pr (x++[58,32]++t) [TT.wd x,TT.mk [58],u]:=by
 simpa using ((Pr.word hx).app (B:=[58,32]) (Brk.of (by decide)) (Pa.colon (x:=[58]) (.inl rfl) (by decide))).appR hp
theorem eq_gr:Pa [32,61,32] [TT.mk [61]]:=by simpa using (Pa.sep (A:=[32]) (by decide)).app (Pa.colon (x:=[61]) (c:=32) (.inr rfl) (by decide))
theorem Pr.ne {A:Bytes}{us:List TT}(h:Pr A us)(hu:us≠[]):A≠[]:=by
 rintro rfl;have:=(h [] [] rfl .nil).len;simp at this;exact hu this
theorem stSz_mem {k:Int}{n t:Bytes}{es:List Ex}{b c:List St}{s:St}(h:s∈b∨s∈c):stSz s<stSz (.mk k n t es b c):=by
 rw [stSz];rcases h with h | h <;> have:=stsSz_mem h <;> omega
theorem fld_gr {f:Fld}(h:WfF f):∃ u,GrT f.typ u∧Pr (fldText f) [TT.wd f.name,TT.mk [58],u]:=by
 obtain⟨u,g,p⟩:=typ_gr h.2;exact⟨u,g,typed_gr h.1 p⟩
theorem pars_gr:∀ {l:List Fld},(∀ f∈l,WfF f)→∃ us,GrPs l us∧Pa ((l.flatMap fun f=>[44,32]++fldText f)++[41]) us
 | [],_=>⟨_,.nil,Pa.mark (x:=[41]) (by decide)⟩
 | f::l,h=>by
   obtain⟨u,g,p⟩:=fld_gr (h f List.mem_cons_self);obtain⟨us,g2,p2⟩:=pars_gr fun x hx=>h x (List.mem_cons_of_mem _ hx)
   refine⟨_,.cons f.name f.typ g g2,?_⟩;have hb:Brk ((l.flatMap fun f=>[44,32]++fldText f)++[41]):=by
    cases l with
    | nil=>exact .of (by decide)
    | cons x l=>exact .of (by decide)
   have:=((mk1 (x:=[44]) (by decide)).appR p).app hb p2;simpa using this
theorem parText_eq:∀ (f:Fld) (l:List Fld),parText (f::l)=fldText f++l.flatMap fun f=>[44,32]++fldText f
 | f,[]=>by simp [parText]
 | f,g::l=>by rw [parText,parText_eq g l];simp;simp
theorem par_gr {l:List Fld}(h:∀ f∈l,WfF f):∃ us,GrPar l us∧Pa (parText l++[41]) us:=by
 cases l with
 | nil=>exact⟨_,.nil,Pa.mark (x:=[41]) (by decide)⟩
 | cons f l =>
   obtain⟨u,g,p⟩:=fld_gr (h f List.mem_cons_self);obtain⟨us,g2,p2⟩:=pars_gr fun x hx=>h x (List.mem_cons_of_mem _ hx)
   refine⟨_,.cons f.name f.typ g g2,?_⟩;have hb:Brk ((l.flatMap fun f=>[44,32]++fldText f)++[41]):=by
    cases l with
    | nil=>exact .of (by decide)
    | cons x l=>exact .of (by decide)
   rw [parText_eq,List.append_assoc];exact p.app hb p2
theorem meths_gr {T:Me→Bytes}(hT:∀ m,WfM m→∃ us,GrMe m us∧Pa (T m) us):∀ {l:List Me},(∀ f∈l,WfM f)→∃ us,GrMs l us∧Pa (l.flatMap T) us
 | [],_=>⟨_,.nil,.nil⟩
 | f::l,h=>by
   obtain⟨us,g,p⟩:=hT f (h f List.mem_cons_self);obtain⟨vs,g2,p2⟩:=meths_gr hT fun x hx=>h x (List.mem_cons_of_mem _ hx)
   refine⟨_,.cons g g2,?_⟩;rw [List.flatMap_cons];exact p.app p2
theorem super_gr {s:Bytes}(h:s=[]∨isIdent s=true)(c:UInt8)(hc:isPart c=false):∃ us,GrSup s us∧∀ {B:Bytes} {vs:List TT},Pa (c::B) vs→∀ n,isIdent n=true→Pa (n++(if s=[] then [] else [32,101,120,116,101,110,100,115,32]++s)++(c::B)) (TT.wd n::(us++vs)):=by
 by_cases h0:s=[]
 ·subst h0;refine⟨[],.none,fun hp n hn=>?_⟩;have:=(Pr.word hn).app (Brk.of hc) hp;simpa using this
 ·have hs:=h.resolve_left h0;refine⟨_,.some s,fun hp n hn=>?_⟩;rw [if_neg h0];have:=((((Pr.word hn).app (Brk.of (by decide)) (Pa.sep (A:=[32]) (by decide))).app (kw1 (x:=[101,120,116,101,110,100,115]) (by decide))).appR (Pr.word hs)).app (Brk.of hc) hp;simpa using this
theorem prog_gr {T:Cl→Bytes}(hT:∀ c,WfC c→∃ us,GrC c us∧Pa (T c) us):∀ {l:List Cl},(∀ f∈l,WfC f)→∃ us,GrPr l us∧Pa (l.flatMap T) us
 | [],_=>⟨_,.nil,.nil⟩
 | f::l,h=>by
   obtain⟨us,g,p⟩:=hT f (h f List.mem_cons_self);obtain⟨vs,g2,p2⟩:=prog_gr hT fun x hx=>h x (List.mem_cons_of_mem _ hx)
   refine⟨_,.cons g g2,?_⟩;rw [List.flatMap_cons];exact p.app p2
end Lx
end
end Go.Proofs.YtmlafcimjhnhhaaDoor
