/-
  Plain Lean: the grammar of statements, methods and classes on tokens without places, and that the parser reads whatever the grammar writes.
-/
import Derived.Test.YtmlafcimjhnhhaaDoorJlJpAw
import Derived.Test.YtmlafcimjhnhhaaDoorJlJpAu
import Derived.OpenShut
set_option linter.unusedSectionVars false
set_option linter.unusedSimpArgs false
set_option linter.unnecessarySimpa false
set_option linter.unusedVariables false
set_option linter.unusedSimpArgs false
set_option linter.unusedVariables false
namespace Go.Proofs.YtmlafcimjhnhhaaDoor
section
open Lx
namespace Lx
/-- What a type is written as. -/
def GrT (t:Bytes)(u:TT):Prop:=(t=[105,110,116]∧u=TT.kw t)∨u=TT.wd t
mutual
inductive GrSt:St→List TT→Prop
 | var0 (x t:Bytes) {u:TT} (hu:GrT t u):GrSt (.mk 1 x t [] [] []) [TT.kw [118,97,114],TT.wd x,TT.mk [58],u,TT.mk [59]]
 | var1 (x t:Bytes) {u:TT} (hu:GrT t u) {e:Ex} {us:List TT} (h:GrE e us):GrSt (.mk 1 x t [e] [] []) (TT.kw [118,97,114]::TT.wd x::TT.mk [58]::u::TT.mk [61]::(us++[TT.mk [59]]))
 | assign (x:Bytes) {e:Ex} {us:List TT} (h:GrE e us):GrSt (.mk 2 x [] [e] [] []) (TT.wd x::TT.mk [61]::(us++[TT.mk [59]]))
 | store {k:Ex} {us:List TT} {s:Nat} (h:GrP k us s) (m:Bytes) {e:Ex} {vs:List TT} (h2:GrE e vs):GrSt (.mk 3 m [] [k,e] [] []) (us++(TT.mk [46]::TT.wd m::TT.mk [61]::(vs++[TT.mk [59]])))
 | if0 {e:Ex} {us:List TT} (h:GrE e us) {b:List St} {vs:List TT} (hb:GrB b vs):GrSt (.mk 4 [] [] [e] b []) (TT.kw [105,102]::TT.mk [40]::(us++(TT.mk [41]::vs)))
 | if1 {e:Ex} {us:List TT} (h:GrE e us) {b c:List St} {vs ws:List TT} (hb:GrB b vs) (hc:GrB c ws):GrSt (.mk 4 [] [] [e] b c) (TT.kw [105,102]::TT.mk [40]::(us++(TT.mk [41]::(vs++(TT.kw [101,108,115,101]::ws)))))
 | while {e:Ex} {us:List TT} (h:GrE e us) {b:List St} {vs:List TT} (hb:GrB b vs):GrSt (.mk 5 [] [] [e] b []) (TT.kw [119,104,105,108,101]::TT.mk [40]::(us++(TT.mk [41]::vs)))
 | try {b:List St} {us:List TT} (hb:GrB b us) (x t:Bytes) {u:TT} (hu:GrT t u) {c:List St} {vs:List TT} (hc:GrB c vs):GrSt (.mk 6 x t [] b c) (TT.kw [116,114,121]::(us++(TT.kw [99,97,116,99,104]::TT.mk [40]::TT.wd x::TT.mk [58]::u::TT.mk [41]::vs)))
 | throw {e:Ex} {us:List TT} (h:GrE e us):GrSt (.mk 7 [] [] [e] [] []) (TT.kw [116,104,114,111,119]::(us++[TT.mk [59]]))
 | return0:GrSt (.mk 8 [] [] [] [] []) [TT.kw [114,101,116,117,114,110],TT.mk [59]]
 | return1 {e:Ex} {us:List TT} (h:GrE e us):GrSt (.mk 8 [] [] [e] [] []) (TT.kw [114,101,116,117,114,110]::(us++[TT.mk [59]]))
 | call {e:Ex} {us:List TT} (h:GrP e us 3):GrSt (.mk 9 [] [] [e] [] []) (us++[TT.mk [59]])
inductive GrB:List St→List TT→Prop
 | mk {l:List St} {us:List TT} (h:GrSs l us):GrB l (TT.mk [123]::(us++[TT.mk [125]]))
inductive GrSs:List St→List TT→Prop
 | nil:GrSs [] []
 | cons {s:St} {us:List TT} {l:List St} {vs:List TT} (h:GrSt s us) (h2:GrSs l vs):GrSs (s::l) (us++vs)
end
theorem GrP.ne {e:Ex}{us:List TT}{s:Nat}(h:GrP e us s):us≠[]:=by obtain⟨u,vs,rfl,_⟩:=h.fst _ (Nat.le_refl _);simp
theorem GrSt.ne {s:St}{us:List TT}(h:GrSt s us):us≠[]:=by cases h <;> simp
section
variable {ts:List Tok} (hT:TWR ts)
include hT
end
/-- B reads what is written with fewer than N tokens. -/
def GoodB (ts:List Tok)(N:Nat)(B:Nat→PR (List St)):Prop:=∀ l us i,us.length<N→GrB l us→AtT ts i us→B i=.ok (l,i+us.length)
section
variable {ts:List Tok} (hT:TWR ts) {N:Nat} {B:Nat→PR (List St)} (hB:GoodB ts N B)
include hT hB
end
section
variable {ts:List Tok} (hT:TWR ts)
include hT
end
end Lx
end
section
open Lx
namespace Lx
inductive GrFs:List Fld→List TT→Prop
 | nil:GrFs [] []
 | cons (x t:Bytes) {u:TT} (hu:GrT t u) {l:List Fld} {us:List TT} (h:GrFs l us):GrFs (⟨x,t⟩::l) (TT.kw [118,97,114]::TT.wd x::TT.mk [58]::u::TT.mk [59]::us)
/-- Parameters behind the first one, with the closing parenthesis. -/
inductive GrPs:List Fld→List TT→Prop
 | nil:GrPs [] [TT.mk [41]]
 | cons (x t:Bytes) {u:TT} (hu:GrT t u) {l:List Fld} {us:List TT} (h:GrPs l us):GrPs (⟨x,t⟩::l) (TT.mk [44]::TT.wd x::TT.mk [58]::u::us)
inductive GrPar:List Fld→List TT→Prop
 | nil:GrPar [] [TT.mk [41]]
 | cons (x t:Bytes) {u:TT} (hu:GrT t u) {l:List Fld} {us:List TT} (h:GrPs l us):GrPar (⟨x,t⟩::l) (TT.wd x::TT.mk [58]::u::us)
inductive GrR:Bytes→List TT→Prop
 | none:GrR [] []
 | some (t:Bytes) {u:TT} (hu:GrT t u):GrR t [TT.mk [58],u]
inductive GrD:Me→List TT→Prop
 | mk (n:Bytes) {ps:List Fld} {us:List TT} (hp:GrPar ps us) {r:Bytes} {vs:List TT} (hr:GrR r vs) {b:List St} {ws:List TT} (hb:GrB b ws):GrD ⟨n,false,ps,r,b⟩ (TT.kw [100,101,102]::TT.wd n::TT.mk [40]::(us++(vs++ws)))
inductive GrMe:Me→List TT→Prop
 | plain {m:Me} {us:List TT} (h:GrD m us):GrMe m us
 | static {n:Bytes} {ps:List Fld} {r:Bytes} {b:List St} {us:List TT} (h:GrD ⟨n,false,ps,r,b⟩ us):GrMe ⟨n,true,ps,r,b⟩ (TT.kw [115,116,97,116,105,99]::us)
inductive GrMs:List Me→List TT→Prop
 | nil:GrMs [] []
 | cons {m:Me} {us:List TT} {l:List Me} {vs:List TT} (h:GrMe m us) (h2:GrMs l vs):GrMs (m::l) (us++vs)
inductive GrSup:Bytes→List TT→Prop
 | none:GrSup [] []
 | some (s:Bytes):GrSup s [TT.kw [101,120,116,101,110,100,115],TT.wd s]
inductive GrC:Cl→List TT→Prop
 | mk (n:Bytes) {s:Bytes} {us:List TT} (hs:GrSup s us) {fs:List Fld} {vs:List TT} (hf:GrFs fs vs) {ms:List Me} {ws:List TT} (hm:GrMs ms ws):GrC ⟨n,s,fs,ms⟩ (TT.kw [99,108,97,115,115]::TT.wd n::(us++(TT.mk [123]::(vs++(ws++[TT.mk [125]])))))
inductive GrPr:List Cl→List TT→Prop
 | nil:GrPr [] []
 | cons {c:Cl} {us:List TT} {l:List Cl} {vs:List TT} (h:GrC c us) (h2:GrPr l vs):GrPr (c::l) (us++vs)
theorem GrB.fst {ts:List Tok}{l:List St}{us:List TT}{i:Nat}(h:GrB l us)(ha:AtT ts i us):(tk ts i).text=[123]:=by cases h with | mk h=>exact ha.1.2.2.1
theorem GrD.fst {ts:List Tok}{m:Me}{us:List TT}{i:Nat}(h:GrD m us)(ha:AtT ts i us):(tk ts i).text=[100,101,102]:=by cases h with | mk n hp hr hb=>exact ha.1.2.2.1
theorem GrMe.fst {ts:List Tok}{m:Me}{us:List TT}{i:Nat}(h:GrMe m us)(ha:AtT ts i us):(tk ts i).text=[100,101,102]∨(tk ts i).text=[115,116,97,116,105,99]:=by
 cases h with
 | plain h=>exact .inl (h.fst ha)
 | static h=>exact .inr ha.1.2.2.1
theorem GrC.fst {ts:List Tok}{m:Cl}{us:List TT}{i:Nat}(h:GrC m us)(ha:AtT ts i us):(tk ts i).text=[99,108,97,115,115]:=by cases h with | mk=>exact ha.1.2.2.1
theorem GrMe.pos {m:Me}{us:List TT}(h:GrMe m us):0<us.length:=by
 cases h with
 | plain h=>cases h;simp
 | static h=>simp
section
variable {ts:List Tok} (hT:TWR ts)
include hT
end
end Lx
end
section
open Lx
namespace Lx
/-- Marks that no next byte lengthens. -/
def soloList:List Bytes:=[[58,58],[61,61],[123],[125],[40],[41],[59],[44],[46],[60],[43],[45],[42]]
/-- The text reads as these tokens. -/
inductive LxT:Bytes→List TT→Prop
 | nil:LxT [] []
 | sep {c:UInt8} {l:Bytes} {us:List TT} (hc:isSep c=true) (h:LxT l us):LxT (c::l) us
 | tok {u:TT} {c:UInt8} {t l:Bytes} {us:List TT} (ht:u.text=c::t) (hs:isSep c=false) (h47:c.toNat≠47) (ho:oneTok (u.text++l)=.ok u.kind u.text.length u.n) (h:LxT l us):LxT (u.text++l) (u::us)
theorem spanOf_app {p:UInt8→Bool}:∀ {x l:Bytes},x.all p=true→(∀ c t,l=c::t→p c=false)→spanOf p (x++l)=x.length
 | [],[],_,_=>rfl
 | [],c::t,_,h=>by simp [spanOf,h c t rfl]
 | c::x,l,hx,h=>by
   simp only [List.all_cons,Bool.and_eq_true] at hx;simp [spanOf,hx.1,spanOf_app hx.2 h]
theorem next_part {l:Bytes}(h:nextPart l=false):∀ c t,l=c::t→isPart c=false:=by rintro c t rfl;exact h
theorem letter_ne {c:UInt8}(h:isLetter c=true):isSep c=false∧c.toNat≠47:=by
 simp only [isLetter,decide_eq_true_eq] at h;simp only [isSep,decide_eq_false_iff_not];omega
theorem digit_ne {c:UInt8}(h:isDigit c=true):isSep c=false∧c.toNat≠47∧isLetter c=false:=by
 simp only [isDigit,decide_eq_true_eq] at h;simp only [isSep,isLetter,decide_eq_false_iff_not];omega
theorem wordTok_app {x l:Bytes}{c:UInt8}{t:Bytes}(hx:x=c::t)(hc:isLetter c=true)(ha:x.all isPart=true)(hl:t.length<32)(hn:nextPart l=false):oneTok (x++l)=.ok (if isKeyword x then 2 else 1) x.length 0:=by
 have hs:=spanOf_app ha (next_part hn);subst hx
 show (if isLetter c then wordTok (c::(t++l)) else _)=_
 rw [if_pos hc];unfold wordTok;rw [← List.cons_append,hs,if_neg (by simp;omega),List.take_left]
theorem isIdent_parts {x:Bytes}(h:isIdent x=true):∃ c t,x=c::t∧isLetter c=true∧x.all isPart=true∧t.length<32∧isKeyword x=false:=by
 cases x with
 | nil=>simp [isIdent] at h
 | cons c t =>
   simp only [isIdent,Bool.and_eq_true,decide_eq_true_eq,Bool.not_eq_true'] at h;exact⟨c,t,rfl,h.1.1.2,h.1.2,h.1.1.1,h.2⟩
theorem LxT.word {x l:Bytes}{us:List TT}(hx:isIdent x=true)(hn:nextPart l=false)(h:LxT l us):LxT (x++l) (TT.wd x::us):=by
 obtain⟨c,t,rfl,h1,h2,h3,h4⟩:=isIdent_parts hx;refine .tok (u:=.wd (c::t)) rfl (letter_ne h1).1 (letter_ne h1).2 ?_ h;have:=wordTok_app rfl h1 h2 h3 hn;rw [h4] at this;exact this
theorem LxT.key {x l:Bytes}{us:List TT}(hx:x∈kwList)(hn:nextPart l=false)(h:LxT l us):LxT (x++l) (TT.kw x::us):=by
 have key:∀ k∈kwList,∃ c t,k=c::t∧isLetter c=true∧k.all isPart=true∧t.length<32∧isKeyword k=true:=by
  intro k hk;simp only [kwList,List.mem_cons,List.not_mem_nil,or_false] at hk;rcases hk with rfl | rfl | rfl | rfl | rfl | rfl | rfl | rfl | rfl | rfl | rfl | rfl | rfl | rfl | rfl | rfl | rfl <;> exact⟨_,_,rfl,by decide,by decide,by decide,by decide⟩
 obtain⟨c,t,rfl,h1,h2,h3,h4⟩:=key x hx;refine .tok (u:=.kw (c::t)) rfl (letter_ne h1).1 (letter_ne h1).2 ?_ h;have:=wordTok_app rfl h1 h2 h3 hn;rw [h4] at this;exact this
/-- The text of a number. -/
def NumText (x:Bytes)(n:Nat):Prop:=x≠[]∧x.all isDigit=true∧(x.head?=some 48→x.length=1)∧numVal x=n∧n<9223372036854775808
theorem LxT.num {x l:Bytes}{n:Nat}{us:List TT}(hx:NumText x n)(hn:nextPart l=false)(h:LxT l us):LxT (x++l) (TT.nu x n::us):=by
 obtain⟨h0,h1,h2,h3,h4⟩:=hx;cases x with
 | nil=>exact absurd rfl h0
 | cons c t =>
   have hc:isDigit c=true:=by simp only [List.all_cons,Bool.and_eq_true] at h1;exact h1.1
   obtain⟨d1,d2,d3⟩:=digit_ne hc;have hs:spanOf isDigit ((c::t)++l)=(c::t).length:=spanOf_app h1 fun d r e=>by
    have:=next_part hn d r e;simp only [isPart,Bool.or_eq_false_iff] at this;exact this.1.2
   refine .tok (u:=.nu (c::t) n) rfl d1 d2 ?_ h
   show oneTok (c::(t++l))=.ok 3 (c::t).length n
   unfold oneTok;simp only [d3,hc,if_true,Bool.false_eq_true,if_false];rw [← List.cons_append];unfold numTok numBad;rw [hs,List.drop_left,List.take_left,hn,h3];have hb:(decide (((c::t)++l).head?=some 48) && decide (1<(c::t).length))=false:=by
    rw [Bool.and_eq_false_iff,decide_eq_false_iff_not,decide_eq_false_iff_not]
    by_cases e:c=48
    ·have:=h2 (by simp [e]);right;omega
    ·left;simp [e]
   rw [hb,if_neg (by decide),if_neg (by omega)]
theorem mark_len {x:Bytes}(hx:x∈soloList)(l:Bytes):∃ c t,x=c::t∧isSep c=false∧c.toNat≠47∧oneTok (x++l)=.ok 4 x.length 0:=by
 simp only [soloList,List.mem_cons,List.not_mem_nil,or_false] at hx;rcases hx with rfl | rfl | rfl | rfl | rfl | rfl | rfl | rfl | rfl | rfl | rfl | rfl | rfl <;>
  exact⟨_,_,rfl,by decide,by decide,by simp [oneTok,isLetter,isDigit,markTok,markLen,markList,List.find?,List.isPrefixOf]⟩
theorem LxT.mark {x l:Bytes}{us:List TT}(hx:x∈soloList)(h:LxT l us):LxT (x++l) (TT.mk x::us):=by
 obtain⟨c,t,h1,h2,h3,h4⟩:=mark_len hx l;exact .tok (u:=.mk x) h1 h2 h3 h4 h
/-- A colon or an equals sign, with a separator behind it. -/
theorem LxT.markSep {x l:Bytes}{c:UInt8}{us:List TT}(hx:x=[58]∨x=[61])(hc:isSep c=true)(h:LxT l us):LxT (x++(c::l)) (TT.mk x::us):=by
 have h1:c≠58:=by rintro rfl;revert hc;decide
 have h2:c≠61:=by rintro rfl;revert hc;decide
 have h3:(58 == c)=false:=by simp [Ne.symm h1]
 have h4:(61 == c)=false:=by simp [Ne.symm h2]
 rcases hx with rfl | rfl <;> refine .tok (u:=.mk _) rfl (by decide) (by decide) ?_ (.sep hc h)
 ·show oneTok (58::c::l)=.ok 4 1 0
  simp [oneTok,isLetter,isDigit,markTok,markLen,markList,List.find?,List.isPrefixOf,h3]
 ·show oneTok (61::c::l)=.ok 4 1 0
  simp [oneTok,isLetter,isDigit,markTok,markLen,markList,List.find?,List.isPrefixOf,h4]
theorem LxT.len {l:Bytes}{us:List TT}(h:LxT l us):us.length≤l.length:=by
 induction h with
 | nil=>simp
 | sep hc h ih=>simp;omega
 | tok ht hs h47 ho h ih=>rw [List.length_append,ht];simp;omega
/-- The lexer on such a text. -/
theorem LxT.lex {l:Bytes}{us:List TT}(h:LxT l us):∀ p,∃ ts q,lexAt false p l=.ok (ts++[⟨5,q,[],0⟩])∧ts.length=us.length∧∀ i (a:i<ts.length) (b:i<us.length),ts[i].kind=us[i].kind∧ts[i].text=us[i].text∧ts[i].n=us[i].n:=by
 induction h with
 | nil=>intro p;exact⟨[],p,lexAt_nil _ _,rfl,fun i a=>by simp at a⟩
 | sep hc h ih =>
   intro p;obtain⟨ts,q,h1,h2,h3⟩:=ih (p+1);exact⟨ts,q,by rw [lexAt_sep hc,h1],h2,h3⟩
 | @tok u c t l us ht hs h47 ho h ih =>
   intro p;obtain⟨ts,q,h1,h2,h3⟩:=ih (p+u.text.length);refine⟨⟨u.kind,p,u.text,u.n⟩::ts,q,?_,by simp [h2],fun i a b=>?_⟩
   ·have e:u.text++l=c::(t++l):=by rw [ht];rfl
    have hop:opens c (t++l)=false:=by simp [opens,h47]
    rw [e] at ho ⊢;rw [lexAt_ok hs hop ho];rw [← e,List.drop_left,List.take_left,h1];rfl
   ·cases i with
    | zero=>exact⟨rfl,rfl,rfl⟩
    | succ i=>exact h3 i (by simpa using a) (by simpa using b)
theorem atT_of {ts:List Tok}:∀ {us:List TT} {i:Nat},(∀ k (_:k<us.length),i+k<ts.length∧(tk ts (i+k)).kind=us[k].kind∧(tk ts (i+k)).text=us[k].text∧(tk ts (i+k)).n=us[k].n)→AtT ts i us
 | [],_,_=>trivial
 | u::us,i,h=>AtT.cons.2 ⟨h 0 (by simp),atT_of fun k hk=>by
   have:=h (k+1) (by simp;omega);rw [show i+(k+1)=i+1+k by omega] at this;exact this⟩
theorem LxT.toks {l:Bytes}{us:List TT}(h:LxT l us)(hl:l.length≤65536):∃ ts,tokensOf l=.ok ts∧AtT ts 0 us∧(tk ts us.length).kind=5∧(tk ts us.length).text=[]:=by
 obtain⟨ts,q,h1,h2,h3⟩:=h.lex 0;refine⟨ts++[⟨5,q,[],0⟩],by unfold tokensOf;rw [if_neg (by omega),h1],atT_of fun k hk=>?_,?_,?_⟩
 ·have hk2:k<ts.length:=by omega
  have e:tk (ts++[⟨5,q,[],0⟩]) (0+k)=ts[k]:=by
   unfold tk;rw [Nat.zero_add,List.getD_eq_getElem?_getD,List.getElem?_append_left hk2,List.getElem?_eq_getElem hk2];rfl
  exact⟨by simp;omega,by rw [e];exact (h3 k hk2 hk).1,by rw [e];exact (h3 k hk2 hk).2.1,by rw [e];exact (h3 k hk2 hk).2.2⟩
 ·rw [← h2];simp [tk]
 ·rw [← h2];simp [tk]
end Lx
end
section
open Lx Go.RowKit
set_option maxHeartbeats 1000000 in
theorem ref_Position (s:ByteArray)(a:Int)(w:World)(hs:s.size≤maxLen)(ha:-9223372036854775808≤a∧a≤9223372036854775807):Calls Tryd.prog 11 #[.string s,.int .i64 a] w fun e w'=>e=.returned (placeV (placeOf s.data.toList a))∧w=w':=by
 unfold maxLen at hs;have hl:=len_list s;have HP:Hid (placeOf s.data.toList a=if 65536<s.size then (0,0,3) else if a<0∨(s.size:Int)<a then (0,0,4) else ((place (s.data.toList.take a.toNat)).1,(place (s.data.toList.take a.toNat)).2,0)):=by show _=_;rw [placeOf,hl]
 clear hl
 by_cases h1:65536<s.size
 ·go_enter Tryd.func11,Tryd.ntmps11;go_wp2_with fail
  go_ret3
  exact⟨by rw [HP.out,if_pos h1];rfl,rfl⟩
 by_cases h2:a<0
 ·go_enter Tryd.func11,Tryd.ntmps11;go_wp2_with fail
  go_ret3
  exact⟨by rw [HP.out,if_neg h1,if_pos (.inl h2)];rfl,rfl⟩
 by_cases h3:(s.size:Int)<a
 ·go_enter Tryd.func11,Tryd.ntmps11;go_wp2_with fail
  go_ret3
  exact⟨by rw [HP.out,if_neg h1,if_pos (.inr h3)];rfl,rfl⟩
 obtain⟨k,rfl⟩:=Int.eq_ofNat_of_zero_le (show 0≤a by omega);have hk:k≤s.size:=by omega
 rw [Int.toNat_natCast,if_neg h1,if_neg (by omega)] at HP;clear h2 h3;go_enter Tryd.func11,Tryd.ntmps11;go_wp2_with fail
 go_loop [7,8,9] (fun ln cl i=>∃ j:Nat,j≤k∧i=.int .i64 j∧ln=.int .i64 ((place (s.data.toList.take j)).1:Nat)∧cl=.int .i64 ((place (s.data.toList.take j)).2:Nat)) (fun _ _ i=>k-(intOf i).toNat)
 case atStart=>exact⟨0,Nat.zero_le _,rfl,rfl,rfl⟩
 case round =>
  obtain⟨j,hj,rfl,rfl,rfl⟩:=hrel;have hle:=place_le (s.data.toList.take j);have hlen:(s.data.toList.take j).length=j:=by rw [List.length_take,len_list];omega
  rw [hlen] at hle;clear hlen
  by_cases hlt:j<k
  ·have hjs:j<s.size:=by omega
   have HT:=Lib.hid (show place (s.data.toList.take (j+1))=stepLC (place (s.data.toList.take j)) s[j] by rw [take_snoc s j hjs,place_snoc]);generalize place (s.data.toList.take j)=pl at hle HT ⊢;obtain⟨ln,cl⟩:=pl;simp only at hle ⊢
   by_cases hc:s[j]=10
   ·have e1:((s[j].toNat:Int) == 10)=true:=by rw [hc];rfl
    have HS:Hid (stepLC (ln,cl) s[j]=(ln+1,1)):=by show _=_;rw [stepLC,if_pos hc]
    clear hc;go_wp2_with fail
    go_round
    case rel=>exact⟨j+1,by omega,by go_num,by rw [HT.out,HS.out];go_num,by rw [HT.out,HS.out];rfl⟩
    case measure=>simp [intOf];omega
   ·have hne:¬ s[j].toNat=10:=fun e=>hc (UInt8.toNat_inj.1 e)
    have e1:((s[j].toNat:Int) == 10)=false:=by rw [beq_eq_false_iff_ne];omega
    have HS:Hid (stepLC (ln,cl) s[j]=(ln,cl+1)):=by show _=_;rw [stepLC,if_neg hc]
    clear hc hne;go_wp2_with fail
    go_round
    case rel=>exact⟨j+1,by omega,by go_num,by rw [HT.out,HS.out],by rw [HT.out,HS.out];go_num⟩
    case measure=>simp [intOf];omega
  ·obtain rfl:j=k:=by omega
   go_wp2_with fail
   go_ret3
   exact⟨by rw [HP.out];rfl,rfl⟩
end
end Go.Proofs.YtmlafcimjhnhhaaDoor
