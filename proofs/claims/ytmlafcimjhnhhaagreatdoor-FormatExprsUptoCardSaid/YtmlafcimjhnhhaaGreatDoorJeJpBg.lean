/-
  Plain Lean: the grammar of fields, methods, classes and programs on tokens without places, and that the parser reads whatever the grammar writes.
-/
import Derived.Test.YtmlafcimjhnhhaaGreatDoorJeJpBf
import Derived.Test.YtmlafcimjhnhhaaGreatDoorJeJpAs
import Derived.Test.YtmlafcimjhnhhaaGreatDoorJeJpAr
import Derived.Test.YtmlafcimjhnhhaaGreatDoorJeJpAt
set_option linter.unusedSectionVars false
set_option linter.unusedSimpArgs false
set_option linter.unnecessarySimpa false
set_option linter.unusedVariables false
set_option linter.unusedSimpArgs false
set_option linter.unusedVariables false
namespace Go.Proofs.YtmlafcimjhnhhaaGreatDoor
section
open Lx
namespace Lx
inductive GrFs:List Fld→List TT→Prop
 | nil:GrFs [] []
 | cons (x t:Bytes) {u:TT} (hu:GrT t u) {l:List Fld} {us:List TT} (h:GrFs l us):GrFs (⟨x,t⟩::l) (TT.kw [118,97,114]::TT.wd x::TT.mk [58]::u::TT.mk [59]::us)
/-- Parameters behind the first one, with the closing parenthesis. -/
inductive GrPs:List Fld→List TT→Prop
 | nil:GrPs [] [TT.mk [41]]
 | cons (x t:Bytes) {u:TT} (hu:GrT t u) {l:List Fld} {us:List TT} (h:GrPs l us):GrPs (⟨x,t⟩::l) (TT.mk [44]::TT.wd x::TT.mk [58]::u::us)
inductive GrPar:List Fld→List TT→Prop
 | nil:GrPar [] [TT.mk [41]]
 | cons (x t:Bytes) {u:TT} (hu:GrT t u) {l:List Fld} {us:List TT} (h:GrPs l us):GrPar (⟨x,t⟩::l) (TT.wd x::TT.mk [58]::u::us)
inductive GrR:Bytes→List TT→Prop
 | none:GrR [] []
 | some (t:Bytes) {u:TT} (hu:GrT t u):GrR t [TT.mk [58],u]
inductive GrD:Me→List TT→Prop
 | mk (n:Bytes) {ps:List Fld} {us:List TT} (hp:GrPar ps us) {r:Bytes} {vs:List TT} (hr:GrR r vs) {b:List St} {ws:List TT} (hb:GrB b ws):GrD ⟨n,false,ps,r,b⟩ (TT.kw [100,101,102]::TT.wd n::TT.mk [40]::(us++(vs++ws)))
inductive GrMe:Me→List TT→Prop
 | plain {m:Me} {us:List TT} (h:GrD m us):GrMe m us
 | static {n:Bytes} {ps:List Fld} {r:Bytes} {b:List St} {us:List TT} (h:GrD ⟨n,false,ps,r,b⟩ us):GrMe ⟨n,true,ps,r,b⟩ (TT.kw [115,116,97,116,105,99]::us)
inductive GrMs:List Me→List TT→Prop
 | nil:GrMs [] []
 | cons {m:Me} {us:List TT} {l:List Me} {vs:List TT} (h:GrMe m us) (h2:GrMs l vs):GrMs (m::l) (us++vs)
inductive GrSup:Bytes→List TT→Prop
 | none:GrSup [] []
 | some (s:Bytes):GrSup s [TT.kw [101,120,116,101,110,100,115],TT.wd s]
inductive GrC:Cl→List TT→Prop
 | mk (n:Bytes) {s:Bytes} {us:List TT} (hs:GrSup s us) {fs:List Fld} {vs:List TT} (hf:GrFs fs vs) {ms:List Me} {ws:List TT} (hm:GrMs ms ws):GrC ⟨n,s,fs,ms⟩ (TT.kw [99,108,97,115,115]::TT.wd n::(us++(TT.mk [123]::(vs++(ws++[TT.mk [125]])))))
inductive GrPr:List Cl→List TT→Prop
 | nil:GrPr [] []
 | cons {c:Cl} {us:List TT} {l:List Cl} {vs:List TT} (h:GrC c us) (h2:GrPr l vs):GrPr (c::l) (us++vs)
theorem GrB.fst {ts:List Tok}{l:List St}{us:List TT}{i:Nat}(h:GrB l us)(ha:AtT ts i us):(tk ts i).text=[123]:=by cases h with | mk h=>exact ha.1.2.2.1
theorem GrD.fst {ts:List Tok}{m:Me}{us:List TT}{i:Nat}(h:GrD m us)(ha:AtT ts i us):(tk ts i).text=[100,101,102]:=by cases h with | mk n hp hr hb=>exact ha.1.2.2.1
theorem GrMe.fst {ts:List Tok}{m:Me}{us:List TT}{i:Nat}(h:GrMe m us)(ha:AtT ts i us):(tk ts i).text=[100,101,102]∨(tk ts i).text=[115,116,97,116,105,99]:=by
 cases h with
 | plain h=>exact .inl (h.fst ha)
 | static h=>exact .inr ha.1.2.2.1
theorem GrC.fst {ts:List Tok}{m:Cl}{us:List TT}{i:Nat}(h:GrC m us)(ha:AtT ts i us):(tk ts i).text=[99,108,97,115,115]:=by cases h with | mk=>exact ha.1.2.2.1
theorem GrMe.pos {m:Me}{us:List TT}(h:GrMe m us):0<us.length:=by
 cases h with
 | plain h=>cases h;simp
 | static h=>simp
section
variable {ts:List Tok} (hT:TWR ts)
include hT
end
end Lx
end
section
open Lx
namespace Lx
/-- Marks that no next byte lengthens. -/
def soloList:List Bytes:=[[58,58],[61,61],[123],[125],[40],[41],[59],[44],[46],[60],[43],[45],[42]]
/-- The text reads as these tokens. -/
inductive LxT:Bytes→List TT→Prop
 | nil:LxT [] []
 | sep {c:UInt8} {l:Bytes} {us:List TT} (hc:isSep c=true) (h:LxT l us):LxT (c::l) us
 | tok {u:TT} {c:UInt8} {t l:Bytes} {us:List TT} (ht:u.text=c::t) (hs:isSep c=false) (h47:c.toNat≠47) (ho:oneTok (u.text++l)=.ok u.kind u.text.length u.n) (h:LxT l us):LxT (u.text++l) (u::us)
theorem spanOf_app {p:UInt8→Bool}:∀ {x l:Bytes},x.all p=true→(∀ c t,l=c::t→p c=false)→spanOf p (x++l)=x.length
 | [],[],_,_=>rfl
 | [],c::t,_,h=>by simp [spanOf,h c t rfl]
 | c::x,l,hx,h=>by
   simp only [List.all_cons,Bool.and_eq_true] at hx;simp [spanOf,hx.1,spanOf_app hx.2 h]
theorem next_part {l:Bytes}(h:nextPart l=false):∀ c t,l=c::t→isPart c=false:=by rintro c t rfl;exact h
theorem letter_ne {c:UInt8}(h:isLetter c=true):isSep c=false∧c.toNat≠47:=by
 simp only [isLetter,decide_eq_true_eq] at h;simp only [isSep,decide_eq_false_iff_not];omega
theorem digit_ne {c:UInt8}(h:isDigit c=true):isSep c=false∧c.toNat≠47∧isLetter c=false:=by
 simp only [isDigit,decide_eq_true_eq] at h;simp only [isSep,isLetter,decide_eq_false_iff_not];omega
theorem wordTok_app {x l:Bytes}{c:UInt8}{t:Bytes}(hx:x=c::t)(hc:isLetter c=true)(ha:x.all isPart=true)(hl:t.length<32)(hn:nextPart l=false):oneTok (x++l)=.ok (if isKeyword x then 2 else 1) x.length 0:=by
 have hs:=spanOf_app ha (next_part hn);subst hx
 show (if isLetter c then wordTok (c::(t++l)) else _)=_
 rw [if_pos hc];unfold wordTok;rw [← List.cons_append,hs,if_neg (by simp;omega),List.take_left]
theorem isIdent_parts {x:Bytes}(h:isIdent x=true):∃ c t,x=c::t∧isLetter c=true∧x.all isPart=true∧t.length<32∧isKeyword x=false:=by
 cases x with
 | nil=>simp [isIdent] at h
 | cons c t =>
   simp only [isIdent,Bool.and_eq_true,decide_eq_true_eq,Bool.not_eq_true'] at h;exact⟨c,t,rfl,h.1.1.2,h.1.2,h.1.1.1,h.2⟩
theorem LxT.word {x l:Bytes}{us:List TT}(hx:isIdent x=true)(hn:nextPart l=false)(h:LxT l us):LxT (x++l) (TT.wd x::us):=by
 obtain⟨c,t,rfl,h1,h2,h3,h4⟩:=isIdent_parts hx;refine .tok (u:=.wd (c::t)) rfl (letter_ne h1).1 (letter_ne h1).2 ?_ h;have:=wordTok_app rfl h1 h2 h3 hn;rw [h4] at this;exact this
theorem LxT.key {x l:Bytes}{us:List TT}(hx:x∈kwList)(hn:nextPart l=false)(h:LxT l us):LxT (x++l) (TT.kw x::us):=by
 have key:∀ k∈kwList,∃ c t,k=c::t∧isLetter c=true∧k.all isPart=true∧t.length<32∧isKeyword k=true:=by
  intro k hk;simp only [kwList,List.mem_cons,List.not_mem_nil,or_false] at hk;rcases hk with rfl | rfl | rfl | rfl | rfl | rfl | rfl | rfl | rfl | rfl | rfl | rfl | rfl | rfl | rfl | rfl | rfl <;> exact⟨_,_,rfl,by decide,by decide,by decide,by decide⟩
 obtain⟨c,t,rfl,h1,h2,h3,h4⟩:=key x hx;refine .tok (u:=.kw (c::t)) rfl (letter_ne h1).1 (letter_ne h1).2 ?_ h;have:=wordTok_app rfl h1 h2 h3 hn;rw [h4] at this;exact this
/-- The text of a number. -/
def NumText (x:Bytes)(n:Nat):Prop:=x≠[]∧x.all isDigit=true∧(x.head?=some 48→x.length=1)∧numVal x=n∧n<9223372036854775808
theorem LxT.num {x l:Bytes}{n:Nat}{us:List TT}(hx:NumText x n)(hn:nextPart l=false)(h:LxT l us):LxT (x++l) (TT.nu x n::us):=by
 obtain⟨h0,h1,h2,h3,h4⟩:=hx;cases x with
 | nil=>exact absurd rfl h0
 | cons c t =>
   have hc:isDigit c=true:=by simp only [List.all_cons,Bool.and_eq_true] at h1;exact h1.1
   obtain⟨d1,d2,d3⟩:=digit_ne hc;have hs:spanOf isDigit ((c::t)++l)=(c::t).length:=spanOf_app h1 fun d r e=>by
    have:=next_part hn d r e;simp only [isPart,Bool.or_eq_false_iff] at this;exact this.1.2
   refine .tok (u:=.nu (c::t) n) rfl d1 d2 ?_ h
   show oneTok (c::(t++l))=.ok 3 (c::t).length n
   unfold oneTok;simp only [d3,hc,if_true,Bool.false_eq_true,if_false];rw [← List.cons_append];unfold numTok numBad;rw [hs,List.drop_left,List.take_left,hn,h3];have hb:(decide (((c::t)++l).head?=some 48) && decide (1<(c::t).length))=false:=by
    rw [Bool.and_eq_false_iff,decide_eq_false_iff_not,decide_eq_false_iff_not]
    by_cases e:c=48
    ·have:=h2 (by simp [e]);right;omega
    ·left;simp [e]
   rw [hb,if_neg (by decide),if_neg (by omega)]
theorem mark_len {x:Bytes}(hx:x∈soloList)(l:Bytes):∃ c t,x=c::t∧isSep c=false∧c.toNat≠47∧oneTok (x++l)=.ok 4 x.length 0:=by
 simp only [soloList,List.mem_cons,List.not_mem_nil,or_false] at hx;rcases hx with rfl | rfl | rfl | rfl | rfl | rfl | rfl | rfl | rfl | rfl | rfl | rfl | rfl <;>
  exact⟨_,_,rfl,by decide,by decide,by simp [oneTok,isLetter,isDigit,markTok,markLen,markList,List.find?,List.isPrefixOf]⟩
theorem LxT.mark {x l:Bytes}{us:List TT}(hx:x∈soloList)(h:LxT l us):LxT (x++l) (TT.mk x::us):=by
 obtain⟨c,t,h1,h2,h3,h4⟩:=mark_len hx l;exact .tok (u:=.mk x) h1 h2 h3 h4 h
theorem LxT.len {l:Bytes}{us:List TT}(h:LxT l us):us.length≤l.length:=by
 induction h with
 | nil=>simp
 | sep hc h ih=>simp;omega
 | tok ht hs h47 ho h ih=>rw [List.length_append,ht];simp;omega
/-- The lexer on such a text. -/
theorem LxT.lex {l:Bytes}{us:List TT}(h:LxT l us):∀ p,∃ ts q,lexAt false p l=.ok (ts++[⟨5,q,[],0⟩])∧ts.length=us.length∧∀ i (a:i<ts.length) (b:i<us.length),ts[i].kind=us[i].kind∧ts[i].text=us[i].text∧ts[i].n=us[i].n:=by
 induction h with
 | nil=>intro p;exact⟨[],p,lexAt_nil _ _,rfl,fun i a=>by simp at a⟩
 | sep hc h ih =>
   intro p;obtain⟨ts,q,h1,h2,h3⟩:=ih (p+1);exact⟨ts,q,by rw [lexAt_sep hc,h1],h2,h3⟩
 | @tok u c t l us ht hs h47 ho h ih =>
   intro p;obtain⟨ts,q,h1,h2,h3⟩:=ih (p+u.text.length);refine⟨⟨u.kind,p,u.text,u.n⟩::ts,q,?_,by simp [h2],fun i a b=>?_⟩
   ·have e:u.text++l=c::(t++l):=by rw [ht];rfl
    have hop:opens c (t++l)=false:=by simp [opens,h47]
    rw [e] at ho ⊢;rw [lexAt_ok hs hop ho];rw [← e,List.drop_left,List.take_left,h1];rfl
   ·cases i with
    | zero=>exact⟨rfl,rfl,rfl⟩
    | succ i=>exact h3 i (by simpa using a) (by simpa using b)
theorem atT_of {ts:List Tok}:∀ {us:List TT} {i:Nat},(∀ k (_:k<us.length),i+k<ts.length∧(tk ts (i+k)).kind=us[k].kind∧(tk ts (i+k)).text=us[k].text∧(tk ts (i+k)).n=us[k].n)→AtT ts i us
 | [],_,_=>trivial
 | u::us,i,h=>AtT.cons.2 ⟨h 0 (by simp),atT_of fun k hk=>by
   have:=h (k+1) (by simp;omega);rw [show i+(k+1)=i+1+k by omega] at this;exact this⟩
theorem LxT.toks {l:Bytes}{us:List TT}(h:LxT l us)(hl:l.length≤65536):∃ ts,tokensOf l=.ok ts∧AtT ts 0 us∧(tk ts us.length).kind=5∧(tk ts us.length).text=[]:=by
 obtain⟨ts,q,h1,h2,h3⟩:=h.lex 0;refine⟨ts++[⟨5,q,[],0⟩],by unfold tokensOf;rw [if_neg (by omega),h1],atT_of fun k hk=>?_,?_,?_⟩
 ·have hk2:k<ts.length:=by omega
  have e:tk (ts++[⟨5,q,[],0⟩]) (0+k)=ts[k]:=by
   unfold tk;rw [Nat.zero_add,List.getD_eq_getElem?_getD,List.getElem?_append_left hk2,List.getElem?_eq_getElem hk2];rfl
  exact⟨by simp;omega,by rw [e];exact (h3 k hk2 hk).1,by rw [e];exact (h3 k hk2 hk).2.1,by rw [e];exact (h3 k hk2 hk).2.2⟩
 ·rw [← h2];simp [tk]
 ·rw [← h2];simp [tk]
theorem expr_back {l:Bytes}{us:List TT}{e:Ex}(h:LxT l us)(hg:GrE e us)(hl:l.length≤65536)(h0:exDepth e≤32):exprR l=.ok e:=by
 obtain⟨ts,h1,h2,h3,h4⟩:=h.toks hl;have h4:(tk ts (0+us.length)).text=[]:=by rw [Nat.zero_add];exact h4
 have:=expr_at (twr_of h1) hg h2 (.of h4 (by decide));unfold exprR readR;rw [h1];simp only;rw [this,Nat.zero_add];simp only;rw [if_pos h3];simp only;rw [if_neg (by omega)]
end Lx
end
section
open Lx Go.RowKit
/-- Where a loop that takes the greatest stands; the box holds its list. -/
def DeepRel (ks:List Ex)(v0:Value)(w:World)(v i:Value)(wr:World):Prop:=∃ n:Nat,n≤ks.length∧i=.int .i64 (n:Int)∧v=.int .i64 (exsDeep (ks.take n))∧Below w.heap.size w wr∧w.heap.size<wr.heap.size∧wr.cell? ⟨w.heap.size,4,none⟩=some v0
set_option maxHeartbeats 1000000 in
theorem ref_Depth (d:Nat):∀ (e:Ex) (k n:Int) (o m:ByteArray) (a:Option Addr) (l c:Nat) (w:World),IsEx Any w d e [.int .i64 k,.int .i64 n,.string o,.string m,.slice a l c] →
  Calls Tryz.prog 18 #[.agg #[.int .i64 k,.int .i64 n,.string o,.string m,.slice a l c]] w fun r w'=>r=.returned (.int .i64 (exDeep e))∧Below w.heap.size w w':=by
 induction d with
 | zero=>intro e k n o m a l c w h;exact absurd h (by simp [IsEx])
 | succ d ih =>
   intro e k n o m a l c w h;obtain⟨oo,mm,ks,rfl,rfl,rfl,hl⟩:=h.flds;obtain⟨rfl,hm,hat⟩:=hl.exAt;unfold maxLen at hm;rw [exDeep];have HAT:=Lib.hid hat;have IH:=Lib.hid ih;clear hl hat ih h;go_enter Tryz.func18,Tryz.ntmps18;go_wp2_with fail
   go_loopw [3,4] (fun v i wr=>DeepRel ks (.slice a ks.length c) w v i wr) (fun _ i _=>ks.length-(intOf i).toNat)
   case atStart=>exact⟨0,Nat.zero_le _,rfl,rfl,(Below.refl _ _).alloc (Nat.le_refl _) _,by simp,by simp [go_sem]⟩
   case round =>
    obtain⟨j,hj,rfl,rfl,hb,hsz,bx⟩:=hrel;have BX:=Lib.hid bx
    by_cases hlt:j<ks.length
    ·obtain⟨g,off,k1,m1,o1,nm1,a1,n1,c1,rfl,hgl,c0,c1',c2,c3,c4,hx⟩:=HAT.out j hlt;rw [← hb.cell (p:=⟨g,_,none⟩) hgl] at c0 c1' c2 c3 c4;have hs:=hb.size;have hg1:g<wr.heap.size:=by omega
     have HX:=Lib.hid (IsEx.kept (kept_any hb) _ _ _ hx);have HS:Hid (exsDeep (ks.take (j+1))=max (exsDeep (ks.take j)) (exDeep ks[j])):=by
      show _=_;rw [List.take_succ_eq_append_getElem hlt,exsDeep_snoc]
     have hj1:(j:Int)<(ks.length:Int):=by omega
     have hj0:(0:Int)≤(j:Int):=by omega
     have HB:=Lib.hid hb;clear hb hx;go_wp2_with fail;refine (IH.out _ _ _ _ _ _ _ _ _ HX.out).mono ?_;rintro e w2 ⟨rfl,hb2⟩;have HB2:=Lib.hid hb2;clear hb2 c0 c1' c2 c3 c4 bx;go_wp2_with fail
     go_roundw
     case rel =>
      refine⟨j+1,by omega,by go_num,?_,HB.out.trans (HB2.out.mono hs),Nat.lt_of_lt_of_le hsz HB2.out.size,(HB2.out.cell (p:=⟨w.heap.size,4,none⟩) hsz).trans BX.out⟩
      first | (rw [HS.out];done) | (rw [HS.out];congr 1;omega)
     case measure=>simp [intOf];omega
    ·have hjl:j=ks.length:=by omega
     subst hjl;have HB:=Lib.hid hb;clear hb;go_wp2_with fail;go_ret;refine⟨?_,HB.out⟩;rw [List.take_length];rfl
end
section
open Ax
theorem ti_int:ti Tryz.prog 3=some ⟨.int .i64,1,.int .i64 0,8⟩:=by kernel_rfl
theorem ti_i64:ti Tryz.prog 2=some ⟨.int .i64,1,.int .i64 0,8⟩:=by kernel_rfl
theorem ti_str:ti Tryz.prog 9=some ⟨.string,1,.string ⟨#[]⟩,16⟩:=by kernel_rfl
theorem ti_bool:ti Tryz.prog 4=some ⟨.bool,1,.bool false,1⟩:=by kernel_rfl
theorem ti_u8:ti Tryz.prog 5=some ⟨.int .u8,1,.int .u8 0,1⟩:=by kernel_rfl
theorem ti_Bys:ti Tryz.prog 44=some ⟨.slice 5,1,.slice none 0 0,24⟩:=by kernel_rfl
theorem ti_Exs:ti Tryz.prog 22=some ⟨.slice 24,1,.slice none 0 0,24⟩:=by kernel_rfl
theorem ti_Ex:ti Tryz.prog 24=some ⟨.struct #[⟨ "Kind",3,0,false, "", "",0⟩,⟨ "N",2,1,false, "", "",8⟩,⟨ "Of",9,2,false, "", "",16⟩,⟨ "Name",9,3,false, "", "",32⟩,⟨ "Kids",22,4,false, "", "",48⟩],5,.agg #[.int .i64 0,.int .i64 0,.string ⟨#[]⟩,.string ⟨#[]⟩,.slice none 0 0],72⟩:=by kernel_rfl
theorem ti_Sts:ti Tryz.prog 92=some ⟨.slice 109,1,.slice none 0 0,24⟩:=by kernel_rfl
theorem ti_St:ti Tryz.prog 109=some ⟨.struct #[⟨ "Kind",3,0,false, "", "",0⟩,⟨ "Name",9,1,false, "", "",8⟩,⟨ "Type",9,2,false, "", "",24⟩,⟨ "Exprs",22,3,false, "", "",40⟩,⟨ "Body",92,4,false, "", "",64⟩,⟨ "Else",92,5,false, "", "",88⟩],6,.agg #[.int .i64 0,.string ⟨#[]⟩,.string ⟨#[]⟩,.slice none 0 0,.slice none 0 0,.slice none 0 0],112⟩:=by kernel_rfl
theorem ti_Flds:ti Tryz.prog 55=some ⟨.slice 98,1,.slice none 0 0,24⟩:=by kernel_rfl
theorem ti_Fld:ti Tryz.prog 98=some ⟨.struct #[⟨ "Name",9,0,false, "", "",0⟩,⟨ "Type",9,1,false, "", "",16⟩],2,.agg #[.string ⟨#[]⟩,.string ⟨#[]⟩],32⟩:=by kernel_rfl
theorem ti_Mes:ti Tryz.prog 56=some ⟨.slice 94,1,.slice none 0 0,24⟩:=by kernel_rfl
theorem ti_Me:ti Tryz.prog 94=some ⟨.struct #[⟨ "Name",9,0,false, "", "",0⟩,⟨ "Static",4,1,false, "", "",16⟩,⟨ "Params",55,2,false, "", "",24⟩,⟨ "Result",9,3,false, "", "",48⟩,⟨ "Body",92,4,false, "", "",64⟩],5,.agg #[.string ⟨#[]⟩,.bool false,.slice none 0 0,.string ⟨#[]⟩,.slice none 0 0],88⟩:=by kernel_rfl
theorem ti_Cls:ti Tryz.prog 33=some ⟨.slice 58,1,.slice none 0 0,24⟩:=by kernel_rfl
theorem ti_Cl:ti Tryz.prog 58=some ⟨.struct #[⟨ "Name",9,0,false, "", "",0⟩,⟨ "Super",9,1,false, "", "",16⟩,⟨ "Fields",55,2,false, "", "",32⟩,⟨ "Methods",56,3,false, "", "",56⟩],4,.agg #[.string ⟨#[]⟩,.string ⟨#[]⟩,.slice none 0 0,.slice none 0 0],80⟩:=by kernel_rfl
theorem ti_So:ti Tryz.prog 35=some ⟨.struct #[⟨ "Classes",33,0,false, "", "",0⟩],1,.agg #[.slice none 0 0],24⟩:=by kernel_rfl
theorem ti_Strs:ti Tryz.prog 79=some ⟨.slice 9,1,.slice none 0 0,24⟩:=by kernel_rfl
theorem ti_Bld:ti Tryz.prog 46=some ⟨.struct #[⟨ "text",44,0,false, "", "dataflow/format",0⟩],1,.agg #[.slice none 0 0],24⟩:=by kernel_rfl
theorem ti_Prn:ti Tryz.prog 48=some ⟨.struct #[⟨ "builder",46,0,true, "", "dataflow/format",0⟩],1,.agg #[.slice none 0 0],24⟩:=by kernel_rfl
theorem ti_OpA:ti Tryz.prog 73=some ⟨.array 5 9,5,.agg #[.string ⟨#[]⟩,.string ⟨#[]⟩,.string ⟨#[]⟩,.string ⟨#[]⟩,.string ⟨#[]⟩],80⟩:=by kernel_rfl
end
section
open Lx Ax Go.RowKit
theorem flatY (T:Bytes):T.flatMap cvY=T.map fun y=>.int .u8 y.toNat:=by
 induction T with
 | nil=>rfl
 | cons y T ih=>rw [List.flatMap_cons,ih];rfl
theorem oneY (T:Bytes):(T.map fun y=>CV.int .u8 y.toNat).all CV.one=true:=by
 rw [List.all_eq_true];intro c hc;obtain⟨y,_,rfl⟩:=List.mem_map.1 hc;rfl
/-- A string behind the printer's text. -/
theorem appStr_key {b nx:Nat}{c:CV}{H:Heap}{T s:Bytes}(hp:PrAt b c H nx T)(hl:T.length+s.length≤80000) :
  ∃ c' d',appA Tryz.prog H nx 44 9 c (.str s)=some (c',d')∧((T++s=[]∧c'=.nils)∨(T++s≠[]∧∃ x,c'=.sl x 0 (T++s).length 1∧(d'.hp H nx) x=some (.cells ((T++s).flatMap cvY))∧x<d'.nx nx∧x≠b))∧nx≤d'.nx nx∧(c'=c∨∀ y,y<nx→offB y c')∧∀ y,y<nx→offB y c→(d'.hp H nx) y=H y:=by
 have hb:=hp.lt;have base:∀ c:CV,appA Tryz.prog H nx 44 9 c (.str s)=match c with
   | .nils=>(match Nat.beq s.length 0 with
     | true=>some (.nils,.no)
     | false=>match Nat.ble s.length 9223372036854775807 && Nat.ble (s.length*1) 140737488355328 with
       | true=>some (.sl nx 0 s.length 1,.nw (.cells (s.map fun y=>.int .u8 y.toNat)))
       | false=>none)
   | .sl b o n k=>(match H b with
     | some (.cells cs)=>match Nat.beq o 0 && Nat.beq k 1 && Nat.ble (n*k) cs.length && Nat.ble (n+s.length) 9223372036854775807 && Nat.ble ((n+s.length)*1) 140737488355328 with
       | true=>some (.sl nx 0 (n+s.length) k,.mv b (.cells (cs.take (n*k)++s.map fun y=>.int .u8 y.toNat)))
       | false=>none
     | _=>none)
   | _=>none:=by
  intro c;unfold appA;simp only [ti_Bys,ti_u8,ti_str,srcA,oneY];rfl
 rw [base c];rcases hp.own with⟨rfl,rfl⟩ | ⟨hT,x,rfl,hx,hlt⟩
 ·by_cases h0:s=[]
  ·subst h0;exact⟨.nils,.no,rfl,.inl ⟨rfl,rfl⟩,Nat.le_refl _,.inl rfl,fun _ _ _=>rfl⟩
  ·have h1:Nat.beq s.length 0=false:=by cases s with
    | nil=>exact absurd rfl h0
    | cons a s=>rfl
   have h2:(Nat.ble s.length 9223372036854775807 && Nat.ble (s.length*1) 140737488355328)=true:=by
    simp only [List.length_nil] at hl;rw [Bool.and_eq_true,Nat.ble_eq,Nat.ble_eq];omega
   simp only [h1,h2];refine⟨_,_,rfl,.inr ⟨by simpa using h0,nx,by simp,?_,by simp [Dl.nx],by omega⟩,by simp [Dl.nx],.inr fun y hy o n k e=>?_,fun y hy _=>?_⟩
   ·simp [Dl.hp,Ax.upd,flatY]
   ·cases e;omega
   ·simp only [Dl.hp];exact upd_miss _ _ _ _ (by omega)
 ·have h2:(Nat.beq 0 0 && Nat.beq 1 1 && Nat.ble (T.length*1) (T.flatMap cvY).length && Nat.ble (T.length+s.length) 9223372036854775807 && Nat.ble ((T.length+s.length)*1) 140737488355328)=true:=by
   have e3:(T.flatMap cvY).length=T.length:=by rw [flatY,List.length_map]
   rw [Bool.and_eq_true,Bool.and_eq_true,Bool.and_eq_true,Nat.ble_eq,Nat.ble_eq,Nat.ble_eq,e3];exact⟨⟨⟨rfl,by omega⟩,by omega⟩,by omega⟩
  simp only [hx,h2];refine⟨_,_,rfl,.inr ⟨by simp [hT],nx,by simp,?_,by simp [Dl.nx],by omega⟩,by simp [Dl.nx],.inr fun y hy o n k e=>?_,fun y hy ho=>?_⟩
  ·have e1:(T.flatMap cvY).take T.length=T.flatMap cvY:=by rw [List.take_of_length_le];rw [flatY,List.length_map];omega
   simp [Dl.hp,Ax.upd,e1];rw [flatY s]
  ·cases e;omega
  ·simp only [Dl.hp];rw [upd_miss _ _ _ _ (by omega),drp_miss _ _ _ (fun e=>ho _ _ _ (by rw [e]))]
section
variable {G:Nat→CV} {n:Nat} {e:Env} {H:Heap} {nx:Nat} {Q:AExit→Env→Heap→Nat→Prop} {ops:Array Oper} {os:List Oper} {d:Option Nat} {ty:TypeId} {pos:String} {af:Array Edge}
theorem AOpl.appStr {so xo:Operand}{b:Nat}{c:CV}{T s:Bytes}(hs:rd G e so=c)(hx:rd G e xo=.str s)(hp:PrAt b c H nx T)(hl:T.length+s.length≤80000)
  (h:∀ c' H' nx',((T++s=[]∧c'=.nils)∨(T++s≠[]∧∃ x,c'=.sl x 0 (T++s).length 1∧H' x=some (.cells ((T++s).flatMap cvY))∧x<nx'∧x≠b))→nx≤nx'→(c'=c∨∀ y,y<nx→offB y c')→(∀ y,y<nx→offB y c→H' y=H y)→AOpl Tryz.prog G n ops os (putE e d c') H' nx' Q) (hd:okD n d=true:=by exact rfl) :
  AOpl Tryz.prog G n ops (⟨d,.call ⟨.builtin .append,#[so,xo],#[44,9]⟩,ty,pos,af,none⟩::os) e H nx Q:=by
 obtain⟨c',d',h1,h2,h3,h4,h5⟩:=appStr_key hp hl;refine AOpl.step hd (c:=c') (H':=d'.hp H nx) (nx':=d'.nx nx) ?_ (h c' _ _ h2 h3 h4 h5);simp [stepS,qstep,bltA,astep,estep,hs,hx,h1]
end
end
section
open Lx Ax Go.RowKit
attribute [local simp] stepS Ax.stepT Dl.on qstep astep estep rd putE over argE ofV ofS loadA pickCells isAggD faddA fieldA partA iaddA idxA bnd binA intA strA unA convA lenA mapOf lookA findK keyD scalD storeA mupA srcA srcD upd drp Dl.hp Dl.nx CV.cs CV.one buildA placesA fillA zrep tasA ifaceD eqA eqFs eqIs range2 copyA nbeq nble nblt decEq beqI bneI beqS bneS isED Int.ofNat_inj List.getElem?_map List.getElem?_eq_getElem Option.map_some ti_int ti_i64 ti_str ti_bool ti_u8 ti_Strs ti_Bld ti_Prn ti_Bys gd gdB callA resA op1
attribute [local simp] one1 drR drp nu1 nu2 nu3 nu4 nu5 nu6 nu7 nu8 nu9 nu10 nu11 nu12 nu13 bl_len
set_option maxRecDepth 10000 in
set_option maxHeartbeats 4000000 in
theorem fm_over {b nx:Nat}{c:CV}{H:Heap}{T:Bytes}(hp:PrAt b c H nx T):ACall Tryz.prog fmG 42 [.ptr b 0] H nx fun r H' nx'=>r=.ret (.bool (decide (65536<T.length)))∧H'=H∧nx'=nx:=by
 refine ACall.of_body Tryz.func42 rfl ?_;have hc:=hp.cell;rcases hp.own with⟨rfl,rfl⟩ | ⟨_,x,rfl,hx,_⟩
 ·refine gV ?_
  (refine⟨_,(by simp [*];rfl),?_⟩;(try simp only [packA]))
  simp
 ·refine gV ?_
  (refine⟨_,(by simp [*];rfl),?_⟩;(try simp only [packA]))
  simp;omega
/-- What is stored into the printer's block. -/
theorem PrAt.stored {b nx1 nx2:Nat}{c1 c2:CV}{H1 H2:Heap}{T1 s:Bytes}(p1:PrAt b c1 H1 nx1 T1)(hl:(T1++s).length≤70000)
  (o2:(T1++s=[]∧c2=.nils)∨(T1++s≠[]∧∃ x,c2=.sl x 0 (T1++s).length 1∧H2 x=some (.cells ((T1++s).flatMap cvY))∧x<nx2∧x≠b)) (n2:nx1≤nx2) (w2:c2=c1∨∀ y,y<nx1→offB y c2) (k2:∀ y,y<nx1→offB y c1→H2 y=H1 y) :
  PrAt b c2 (upd H2 b (.cells [c2])) nx2 (T1++s)∧Pf b c1 H1 nx1 c2 (upd H2 b (.cells [c2])) nx2:=by
 have hb:=p1.lt;refine⟨⟨upd_hit _ _ _,?_,by omega,?_,hl⟩,n2,w2,fun y hy hyb ho=>by rw [upd_miss _ _ _ _ hyb];exact k2 y hy ho⟩
 ·rcases o2 with h | ⟨h0,x,h1,h2,h3,h4⟩
  ·exact .inl h
  ·exact .inr ⟨h0,x,h1,by rw [upd_miss _ _ _ _ h4];exact h2,h3⟩
 ·rcases o2 with⟨_,h⟩ | ⟨h0,x,h1,h2,h3,h4⟩
  ·rw [h];intro o n k e;cases e
  ·rw [h1];intro o n k e;cases e;exact h4 rfl
/-- Where the loop of put stands. -/
def PutS (b xs:Nat)(c:CV)(H0:Heap)(nx0:Nat)(T:Bytes)(strs:List Bytes)(i:Nat)(v:Env)(H:Heap)(nx:Nat):Prop:=v 8=.int .i64 i∧∃ c',PrAt b c' H nx (put T (strs.take i))∧Pf b c H0 nx0 c' H nx∧OwnB b xs c' H nx (.cells (strs.map .str))
theorem take_put (T:Bytes)(strs:List Bytes){i:Nat}(h:i<strs.length):put T (strs.take (i+1))=put1 (put T (strs.take i)) strs[i]:=by
 rw [List.take_succ_eq_append_getElem h,put_app];rfl
set_option maxRecDepth 10000 in
set_option maxHeartbeats 8000000 in
theorem fm_put {b nx xs:Nat}{c:CV}{H:Heap}{T:Bytes}{strs:List Bytes}(hp:PrAt b c H nx T)(hx:H xs=some (.cells (strs.map .str)))(hxn:xs<nx)(hxb:xs≠b)(hxo:offB xs c)(hs:∀ s∈strs,s.length≤1000)(hT:T.length≤66536)(hn:strs.length≤1000) :
  ACall Tryz.prog fmG 37 [.ptr b 0,.sl xs 0 strs.length 1] H nx fun r H' nx'=>r=.ret (.tup [])∧(put T strs).length≤66536∧∃ c',PrAt b c' H' nx' (put T strs)∧Pf b c H nx c' H' nx':=by
 refine ACall.of_body Tryz.func37 rfl ?_;have bnd:∀ i,(put T (strs.take i)).length≤66536:=by
  intro i
  induction i with
  | zero=>simpa [put] using hT
  | succ i ih =>
    by_cases h:i<strs.length
    ·rw [take_put T strs h];unfold put1;split
     ·exact ih
     ·have:=hs _ (List.getElem_mem h);simp only [List.length_append];omega
    ·rw [List.take_of_length_le (by omega)] at ih ⊢;exact ih
 refine gV ?_;refine AWp.countO strs.length [5,8] 9 (PutS b xs c H nx T strs) ⟨by simp [putE,over],c,hp,Pf.refl _ _ _ _,⟨hx,hxn,hxb,hxo⟩⟩ ?_;rintro i v H1 nx1 hi hn1 ⟨h8,c1,p1,f1,ox⟩
 by_cases hb:i<strs.length
 ·have hwi:=up1 hb (by omega);have hsi:=hs _ (List.getElem_mem hb);have hbi:=bnd i;have htk:=take_put T strs hb;obtain⟨T1,hT1⟩:∃ T1,T1=put T (strs.take i):=⟨_,rfl⟩;rw [← hT1] at p1 hbi htk;clear bnd hT1;have ho:=fm_over p1;have hc1:=p1.cell;have hx1:=ox.at';clear hn1 hp hx hi
  by_cases h65:65536<T1.length
  ·have e:decide (65536<T1.length)=true:=by simpa using h65
   rw [e] at ho;rw [put1,if_pos h65] at htk;clear e h65;refine gV ?_;refine AOpl.callG rfl rfl (by simp [*]) (by kernel_rfl) (ho.mono ?_);rintro _ H2 nx2 ⟨rfl,rfl,rfl⟩;dsimp only;refine gV ?_;exact⟨by ((repeat (first | exact Keeps.base _ _ _ _ | (with_reducible exact Keeps.refl _ _ _) | (refine Keeps.put rfl ?_) | (refine Keeps.over' rfl rfl ?_)))),hb,by simp [putE,over],c1,by rw [htk];exact p1,f1,ox⟩
  ·have e:decide (65536<T1.length)=false:=by simpa using h65
   rw [e] at ho;rw [put1,if_neg h65] at htk;clear e;refine gV ?_;refine AOpl.callG rfl rfl (by simp [*]) (by kernel_rfl) (ho.mono ?_);rintro _ H2 nx2 ⟨rfl,rfl,rfl⟩;dsimp only;refine gV ?_;refine AOpl.appStr (c:=c1) (s:=strs[i]) (by simp [*]) (by simp [*]) p1 (by omega) ?_;intro c2 H2 nx2 o2 n2 w2 k2;obtain⟨p2,f2⟩:=PrAt.stored p1 (by simp only [List.length_append];omega) o2 n2 w2 k2;have hb2:H2 b=some (.cells [c1]):=(k2 b p1.lt p1.off).trans p1.cell;clear ho w2;have hlt:i<strs.length:=hb;rcases o2 with⟨_,rfl⟩ | ⟨_,x2,rfl,_⟩
   ·refine gV ?_;exact⟨by ((repeat (first | exact Keeps.base _ _ _ _ | (with_reducible exact Keeps.refl _ _ _) | (refine Keeps.put rfl ?_) | (refine Keeps.over' rfl rfl ?_)))),hlt,by simp [putE,over],_,by rw [htk];exact p2,f1.trans f2,ox.call f2⟩
   ·refine gV ?_;simp only [List.length_append] at p2 f2;exact⟨by ((repeat (first | exact Keeps.base _ _ _ _ | (with_reducible exact Keeps.refl _ _ _) | (refine Keeps.put rfl ?_) | (refine Keeps.over' rfl rfl ?_)))),hlt,by simp [putE,over],_,by rw [htk];exact p2,f1.trans f2,ox.call f2⟩
 ·have hall:strs.take i=strs:=List.take_of_length_le (by omega);rw [hall] at p1;have hbi:=bnd strs.length;rw [List.take_length] at hbi;clear bnd;refine gV ?_
  (refine⟨_,(by simp [*];rfl),?_⟩;(try simp only [packA]))
  exact⟨trivial,hbi,c1,p1,f1⟩
/-- A call of put: the strings in a block of the caller's own. -/
theorem fm_putc {b nx xs m:Nat}{c:CV}{H:Heap}{T T':Bytes}{strs:List Bytes}(hT':T'=put T strs)(hp:PrAt b c H nx T)(ho:OwnB b xs c H nx (.cells (strs.map .str)))(hs:∀ s∈strs,s.length≤1000)(hT:T.length≤66536)(hn:strs.length≤1000)(hm:strs.length=m) :
  ACall Tryz.prog fmG 37 [.ptr b 0,.sl xs 0 m 1] H nx (PPost b c H nx T'):=by
 subst hT';subst hm;exact (fm_put hp ho.at' ho.lt ho.ne ho.off hs hT hn).mono fun _ _ _ ⟨h1,_,h3⟩=>⟨h1,h3⟩
theorem put_len {T:Bytes}:∀ {strs:List Bytes},T.length≤66536→(∀ s∈strs,s.length≤1000)→(put T strs).length≤66536
 | [],h,_=>h
 | s::l,h,hs=>by
   rw [put_cons];refine put_len ?_ fun x hx=>hs x (List.mem_cons_of_mem _ hx)
   have:=hs s List.mem_cons_self;unfold put1;split
   ·exact h
   ·simp only [List.length_append];omega
end
end Go.Proofs.YtmlafcimjhnhhaaGreatDoor
