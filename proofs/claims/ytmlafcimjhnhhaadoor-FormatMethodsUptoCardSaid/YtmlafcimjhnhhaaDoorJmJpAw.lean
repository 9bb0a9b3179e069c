/-
  Plain Lean: the grammar of fields, methods, classes and programs on tokens without places, and that the parser reads whatever the grammar writes.
-/
import Derived.Test.YtmlafcimjhnhhaaDoorJmJpAv
import Derived.Test.YtmlafcimjhnhhaaDoorJmJpAs
set_option linter.unusedSectionVars false
set_option linter.unusedSimpArgs false
set_option linter.unnecessarySimpa false
set_option linter.unusedVariables false
set_option linter.unusedSimpArgs false
set_option linter.unusedVariables false
namespace Go.Proofs.YtmlafcimjhnhhaaDoor
section
open Lx
namespace Lx
inductive GrFs:List Fld→List TT→Prop
 | nil:GrFs [] []
 | cons (x t:Bytes) {u:TT} (hu:GrT t u) {l:List Fld} {us:List TT} (h:GrFs l us):GrFs (⟨x,t⟩::l) (TT.kw [118,97,114]::TT.wd x::TT.mk [58]::u::TT.mk [59]::us)
/-- Parameters behind the first one, with the closing parenthesis. -/
inductive GrPs:List Fld→List TT→Prop
 | nil:GrPs [] [TT.mk [41]]
 | cons (x t:Bytes) {u:TT} (hu:GrT t u) {l:List Fld} {us:List TT} (h:GrPs l us):GrPs (⟨x,t⟩::l) (TT.mk [44]::TT.wd x::TT.mk [58]::u::us)
inductive GrPar:List Fld→List TT→Prop
 | nil:GrPar [] [TT.mk [41]]
 | cons (x t:Bytes) {u:TT} (hu:GrT t u) {l:List Fld} {us:List TT} (h:GrPs l us):GrPar (⟨x,t⟩::l) (TT.wd x::TT.mk [58]::u::us)
inductive GrR:Bytes→List TT→Prop
 | none:GrR [] []
 | some (t:Bytes) {u:TT} (hu:GrT t u):GrR t [TT.mk [58],u]
inductive GrD:Me→List TT→Prop
 | mk (n:Bytes) {ps:List Fld} {us:List TT} (hp:GrPar ps us) {r:Bytes} {vs:List TT} (hr:GrR r vs) {b:List St} {ws:List TT} (hb:GrB b ws):GrD ⟨n,false,ps,r,b⟩ (TT.kw [100,101,102]::TT.wd n::TT.mk [40]::(us++(vs++ws)))
inductive GrMe:Me→List TT→Prop
 | plain {m:Me} {us:List TT} (h:GrD m us):GrMe m us
 | static {n:Bytes} {ps:List Fld} {r:Bytes} {b:List St} {us:List TT} (h:GrD ⟨n,false,ps,r,b⟩ us):GrMe ⟨n,true,ps,r,b⟩ (TT.kw [115,116,97,116,105,99]::us)
inductive GrMs:List Me→List TT→Prop
 | nil:GrMs [] []
 | cons {m:Me} {us:List TT} {l:List Me} {vs:List TT} (h:GrMe m us) (h2:GrMs l vs):GrMs (m::l) (us++vs)
inductive GrSup:Bytes→List TT→Prop
 | none:GrSup [] []
 | some (s:Bytes):GrSup s [TT.kw [101,120,116,101,110,100,115],TT.wd s]
inductive GrC:Cl→List TT→Prop
 | mk (n:Bytes) {s:Bytes} {us:List TT} (hs:GrSup s us) {fs:List Fld} {vs:List TT} (hf:GrFs fs vs) {ms:List Me} {ws:List TT} (hm:GrMs ms ws):GrC ⟨n,s,fs,ms⟩ (TT.kw [99,108,97,115,115]::TT.wd n::(us++(TT.mk [123]::(vs++(ws++[TT.mk [125]])))))
inductive GrPr:List Cl→List TT→Prop
 | nil:GrPr [] []
 | cons {c:Cl} {us:List TT} {l:List Cl} {vs:List TT} (h:GrC c us) (h2:GrPr l vs):GrPr (c::l) (us++vs)
theorem GrB.fst {ts:List Tok}{l:List St}{us:List TT}{i:Nat}(h:GrB l us)(ha:AtT ts i us):(tk ts i).text=[123]:=by cases h with | mk h=>exact ha.1.2.2.1
theorem GrD.fst {ts:List Tok}{m:Me}{us:List TT}{i:Nat}(h:GrD m us)(ha:AtT ts i us):(tk ts i).text=[100,101,102]:=by cases h with | mk n hp hr hb=>exact ha.1.2.2.1
theorem GrMe.fst {ts:List Tok}{m:Me}{us:List TT}{i:Nat}(h:GrMe m us)(ha:AtT ts i us):(tk ts i).text=[100,101,102]∨(tk ts i).text=[115,116,97,116,105,99]:=by
 cases h with
 | plain h=>exact .inl (h.fst ha)
 | static h=>exact .inr ha.1.2.2.1
theorem GrC.fst {ts:List Tok}{m:Cl}{us:List TT}{i:Nat}(h:GrC m us)(ha:AtT ts i us):(tk ts i).text=[99,108,97,115,115]:=by cases h with | mk=>exact ha.1.2.2.1
theorem GrMe.pos {m:Me}{us:List TT}(h:GrMe m us):0<us.length:=by
 cases h with
 | plain h=>cases h;simp
 | static h=>simp
section
variable {ts:List Tok} (hT:TWR ts)
include hT
end
end Lx
end
section
open Lx
namespace Lx
/-- The text reads as these tokens. -/
inductive LxT:Bytes→List TT→Prop
 | nil:LxT [] []
 | sep {c:UInt8} {l:Bytes} {us:List TT} (hc:isSep c=true) (h:LxT l us):LxT (c::l) us
 | tok {u:TT} {c:UInt8} {t l:Bytes} {us:List TT} (ht:u.text=c::t) (hs:isSep c=false) (h47:c.toNat≠47) (ho:oneTok (u.text++l)=.ok u.kind u.text.length u.n) (h:LxT l us):LxT (u.text++l) (u::us)
theorem spanOf_app {p:UInt8→Bool}:∀ {x l:Bytes},x.all p=true→(∀ c t,l=c::t→p c=false)→spanOf p (x++l)=x.length
 | [],[],_,_=>rfl
 | [],c::t,_,h=>by simp [spanOf,h c t rfl]
 | c::x,l,hx,h=>by
   simp only [List.all_cons,Bool.and_eq_true] at hx;simp [spanOf,hx.1,spanOf_app hx.2 h]
theorem next_part {l:Bytes}(h:nextPart l=false):∀ c t,l=c::t→isPart c=false:=by rintro c t rfl;exact h
theorem letter_ne {c:UInt8}(h:isLetter c=true):isSep c=false∧c.toNat≠47:=by
 simp only [isLetter,decide_eq_true_eq] at h;simp only [isSep,decide_eq_false_iff_not];omega
theorem digit_ne {c:UInt8}(h:isDigit c=true):isSep c=false∧c.toNat≠47∧isLetter c=false:=by
 simp only [isDigit,decide_eq_true_eq] at h;simp only [isSep,isLetter,decide_eq_false_iff_not];omega
theorem wordTok_app {x l:Bytes}{c:UInt8}{t:Bytes}(hx:x=c::t)(hc:isLetter c=true)(ha:x.all isPart=true)(hl:t.length<32)(hn:nextPart l=false):oneTok (x++l)=.ok (if isKeyword x then 2 else 1) x.length 0:=by
 have hs:=spanOf_app ha (next_part hn);subst hx
 show (if isLetter c then wordTok (c::(t++l)) else _)=_
 rw [if_pos hc];unfold wordTok;rw [← List.cons_append,hs,if_neg (by simp;omega),List.take_left]
theorem isIdent_parts {x:Bytes}(h:isIdent x=true):∃ c t,x=c::t∧isLetter c=true∧x.all isPart=true∧t.length<32∧isKeyword x=false:=by
 cases x with
 | nil=>simp [isIdent] at h
 | cons c t =>
   simp only [isIdent,Bool.and_eq_true,decide_eq_true_eq,Bool.not_eq_true'] at h;exact⟨c,t,rfl,h.1.1.2,h.1.2,h.1.1.1,h.2⟩
theorem LxT.word {x l:Bytes}{us:List TT}(hx:isIdent x=true)(hn:nextPart l=false)(h:LxT l us):LxT (x++l) (TT.wd x::us):=by
 obtain⟨c,t,rfl,h1,h2,h3,h4⟩:=isIdent_parts hx;refine .tok (u:=.wd (c::t)) rfl (letter_ne h1).1 (letter_ne h1).2 ?_ h;have:=wordTok_app rfl h1 h2 h3 hn;rw [h4] at this;exact this
theorem LxT.key {x l:Bytes}{us:List TT}(hx:x∈kwList)(hn:nextPart l=false)(h:LxT l us):LxT (x++l) (TT.kw x::us):=by
 have key:∀ k∈kwList,∃ c t,k=c::t∧isLetter c=true∧k.all isPart=true∧t.length<32∧isKeyword k=true:=by
  intro k hk;simp only [kwList,List.mem_cons,List.not_mem_nil,or_false] at hk;rcases hk with rfl | rfl | rfl | rfl | rfl | rfl | rfl | rfl | rfl | rfl | rfl | rfl | rfl | rfl | rfl | rfl | rfl <;> exact⟨_,_,rfl,by decide,by decide,by decide,by decide⟩
 obtain⟨c,t,rfl,h1,h2,h3,h4⟩:=key x hx;refine .tok (u:=.kw (c::t)) rfl (letter_ne h1).1 (letter_ne h1).2 ?_ h;have:=wordTok_app rfl h1 h2 h3 hn;rw [h4] at this;exact this
/-- The text of a number. -/
def NumText (x:Bytes)(n:Nat):Prop:=x≠[]∧x.all isDigit=true∧(x.head?=some 48→x.length=1)∧numVal x=n∧n<9223372036854775808
theorem LxT.num {x l:Bytes}{n:Nat}{us:List TT}(hx:NumText x n)(hn:nextPart l=false)(h:LxT l us):LxT (x++l) (TT.nu x n::us):=by
 obtain⟨h0,h1,h2,h3,h4⟩:=hx;cases x with
 | nil=>exact absurd rfl h0
 | cons c t =>
   have hc:isDigit c=true:=by simp only [List.all_cons,Bool.and_eq_true] at h1;exact h1.1
   obtain⟨d1,d2,d3⟩:=digit_ne hc;have hs:spanOf isDigit ((c::t)++l)=(c::t).length:=spanOf_app h1 fun d r e=>by
    have:=next_part hn d r e;simp only [isPart,Bool.or_eq_false_iff] at this;exact this.1.2
   refine .tok (u:=.nu (c::t) n) rfl d1 d2 ?_ h
   show oneTok (c::(t++l))=.ok 3 (c::t).length n
   unfold oneTok;simp only [d3,hc,if_true,Bool.false_eq_true,if_false];rw [← List.cons_append];unfold numTok numBad;rw [hs,List.drop_left,List.take_left,hn,h3];have hb:(decide (((c::t)++l).head?=some 48) && decide (1<(c::t).length))=false:=by
    rw [Bool.and_eq_false_iff,decide_eq_false_iff_not,decide_eq_false_iff_not]
    by_cases e:c=48
    ·have:=h2 (by simp [e]);right;omega
    ·left;simp [e]
   rw [hb,if_neg (by decide),if_neg (by omega)]
theorem LxT.len {l:Bytes}{us:List TT}(h:LxT l us):us.length≤l.length:=by
 induction h with
 | nil=>simp
 | sep hc h ih=>simp;omega
 | tok ht hs h47 ho h ih=>rw [List.length_append,ht];simp;omega
end Lx
end
section
open Lx Go.RowKit
/-- Where a loop that takes the greatest stands; the box holds its list. -/
def DeepRel (ks:List Ex)(v0:Value)(w:World)(v i:Value)(wr:World):Prop:=∃ n:Nat,n≤ks.length∧i=.int .i64 (n:Int)∧v=.int .i64 (exsDeep (ks.take n))∧Below w.heap.size w wr∧w.heap.size<wr.heap.size∧wr.cell? ⟨w.heap.size,4,none⟩=some v0
set_option maxHeartbeats 1000000 in
theorem ref_Depth (d:Nat):∀ (e:Ex) (k n:Int) (o m:ByteArray) (a:Option Addr) (l c:Nat) (w:World),IsEx Any w d e [.int .i64 k,.int .i64 n,.string o,.string m,.slice a l c] →
  Calls Tryd.prog 70 #[.agg #[.int .i64 k,.int .i64 n,.string o,.string m,.slice a l c]] w fun r w'=>r=.returned (.int .i64 (exDeep e))∧Below w.heap.size w w':=by
 induction d with
 | zero=>intro e k n o m a l c w h;exact absurd h (by simp [IsEx])
 | succ d ih =>
   intro e k n o m a l c w h;obtain⟨oo,mm,ks,rfl,rfl,rfl,hl⟩:=h.flds;obtain⟨rfl,hm,hat⟩:=hl.exAt;unfold maxLen at hm;rw [exDeep];have HAT:=Lib.hid hat;have IH:=Lib.hid ih;clear hl hat ih h;go_enter Tryd.func70,Tryd.ntmps70;go_wp2_with fail
   go_loopw [3,4] (fun v i wr=>DeepRel ks (.slice a ks.length c) w v i wr) (fun _ i _=>ks.length-(intOf i).toNat)
   case atStart=>exact⟨0,Nat.zero_le _,rfl,rfl,(Below.refl _ _).alloc (Nat.le_refl _) _,by simp,by simp [go_sem]⟩
   case round =>
    obtain⟨j,hj,rfl,rfl,hb,hsz,bx⟩:=hrel;have BX:=Lib.hid bx
    by_cases hlt:j<ks.length
    ·obtain⟨g,off,k1,m1,o1,nm1,a1,n1,c1,rfl,hgl,c0,c1',c2,c3,c4,hx⟩:=HAT.out j hlt;rw [← hb.cell (p:=⟨g,_,none⟩) hgl] at c0 c1' c2 c3 c4;have hs:=hb.size;have hg1:g<wr.heap.size:=by omega
     have HX:=Lib.hid (IsEx.kept (kept_any hb) _ _ _ hx);have HS:Hid (exsDeep (ks.take (j+1))=max (exsDeep (ks.take j)) (exDeep ks[j])):=by
      show _=_;rw [List.take_succ_eq_append_getElem hlt,exsDeep_snoc]
     have hj1:(j:Int)<(ks.length:Int):=by omega
     have hj0:(0:Int)≤(j:Int):=by omega
     have HB:=Lib.hid hb;clear hb hx;go_wp2_with fail;refine (IH.out _ _ _ _ _ _ _ _ _ HX.out).mono ?_;rintro e w2 ⟨rfl,hb2⟩;have HB2:=Lib.hid hb2;clear hb2 c0 c1' c2 c3 c4 bx;go_wp2_with fail
     go_roundw
     case rel =>
      refine⟨j+1,by omega,by go_num,?_,HB.out.trans (HB2.out.mono hs),Nat.lt_of_lt_of_le hsz HB2.out.size,(HB2.out.cell (p:=⟨w.heap.size,4,none⟩) hsz).trans BX.out⟩
      first | (rw [HS.out];done) | (rw [HS.out];congr 1;omega)
     case measure=>simp [intOf];omega
    ·have hjl:j=ks.length:=by omega
     subst hjl;have HB:=Lib.hid hb;clear hb;go_wp2_with fail;go_ret;refine⟨?_,HB.out⟩;rw [List.take_length];rfl
end
section
open Lx Go.RowKit
/-- Where the loop of Count stands. -/
def CntRel (l:List St)(w:World)(v i:Value)(wr:World):Prop:=∃ n:Nat,n≤l.length∧i=.int .i64 (n:Int)∧v=.int .i64 (wrap64 (stsCount (l.take n):Int))∧∃ m,wr=w.drewN m
set_option maxHeartbeats 1000000 in
theorem ref_Count (d:Nat):∀ (l:List St) (a:Option Addr) (n c:Nat) (w:World),IsList Any w 6 (IsSt Any w d) l (.slice a n c) →
  Calls Tryd.prog 52 #[.slice a n c] w fun r w'=>r=.returned (.int .i64 (wrap64 (stsCount l:Int)))∧∃ m,w'=w.drewN m:=by
 induction d with
 | zero =>
   intro l a n c w h;obtain⟨rfl,hm,hat⟩:=h.stAt;cases l with
   | cons x l=>obtain⟨_,_,_,_,_,_,_,_,_,_,_,_,_,_,_,_,_,hx⟩:=hat 0 (by simp);exact absurd hx (by simp [IsSt])
   | nil =>
     clear h hat;go_enter Tryd.func52,Tryd.ntmps52;go_wp2_with fail
     go_loopw [3,4] (fun v i wr=>CntRel [] w v i wr) (fun _ i _=>0-(intOf i).toNat)
     case atStart=>exact⟨0,Nat.zero_le _,rfl,by simp [stsCount,wrap64],0,rfl⟩
     case round =>
      obtain⟨j,hj,rfl,rfl,mm,rfl⟩:=hrel;obtain rfl:j=0:=by simpa using hj
      go_wp2_with fail;go_ret;exact⟨rfl,mm,rfl⟩
 | succ d ih =>
   intro l a n c w h;obtain⟨rfl,hm,hat⟩:=h.stAt;unfold maxLen at hm;have HAT:=Lib.hid hat;have IH:=Lib.hid ih;clear h hat ih;go_enter Tryd.func52,Tryd.ntmps52;go_wp2_with fail
   go_loopw [3,4] (fun v i wr=>CntRel l w v i wr) (fun _ i _=>l.length-(intOf i).toNat)
   case atStart=>exact⟨0,Nat.zero_le _,rfl,by simp [stsCount,wrap64],0,rfl⟩
   case round =>
    obtain⟨j,hj,rfl,rfl,mm,hwr⟩:=hrel;have hb:Below w.heap.size w wr:=by rw [hwr];exact below_drewN (Below.refl _ _) _
    have HWR:=Lib.hid hwr;clear hwr
    by_cases hlt:j<l.length
    ·obtain⟨g,off,k1,s1,t1,e1,r1,q1,a2,n2,c2,a3,n3,c3,rfl,hgl,⟨x0,x1,x2,x3,x4,x5⟩,hx⟩:=HAT.out j hlt;rw [← hb.cell (p:=⟨g,_,none⟩) hgl] at x4 x5;have hgw:g<wr.heap.size:=Nat.lt_of_lt_of_le hgl hb.size;obtain⟨nn,tt,es,bd,el,he,rfl,rfl,hl1,hl2,hl3⟩:=(IsSt.kept (kept_any hb) _ _ _ hx).flds;have H2:Hid (∀ x,Below wr.heap.size wr x→IsList Any x 6 (IsSt Any x d) bd (.slice a2 n2 c2)):=fun x hx=>hl2.kept (kept_any hx) (by omega) fun _ _ _=>IsSt.kept (kept_any hx) _ _ _
     have H3:Hid (∀ x,Below wr.heap.size wr x→IsList Any x 6 (IsSt Any x d) el (.slice a3 n3 c3)):=fun x hx=>hl3.kept (kept_any hx) (by omega) fun _ _ _=>IsSt.kept (kept_any hx) _ _ _
     have HS:Hid (wrap64 (stsCount (l.take (j+1)):Int)=wrap64 (wrap64 (stsCount (l.take j):Int)+wrap64 (wrap64 (1+wrap64 (stsCount bd:Int))+wrap64 (stsCount el:Int)))):=by
      show _=wrap64 (_+wrap64 (wrap64 _+_))
      rw [List.take_succ_eq_append_getElem hlt,stsCount_snocW,he,stCount,w64_one,w64_add (1+(stsCount bd:Int)),w64_add]
      congr 1 <;> (simp;omega)
     have hj1:(j:Int)<(l.length:Int):=by omega
     have hj0:(0:Int)≤(j:Int):=by omega
     clear hx hl1 hl2 hl3 he x0 x1 x2 x3 hb;go_wp2_with fail
     go_quiet (first
      | (with_reducible refine Calls.quiet_of (IH.out bd a2 n2 c2 _ (H2.out _ (below_drewN (Below.refl _ _) _))))
      | (with_reducible refine Calls.quiet_of (IH.out el a3 n3 c3 _ (H3.out _ (below_drewN (Below.refl _ _) _)))))
     go_wp2_with fail
     go_roundw
     case rel=>exact⟨j+1,by omega,by go_num,by rw [HS.out],mm+nq,by rw [HWR.out,World.drewN_drewN]⟩
     case measure=>simp [intOf];omega
    ·have hjl:j=l.length:=by omega
     subst hjl;clear hb;go_wp2_with fail;go_ret;exact⟨by rw [List.take_length];rfl,mm,HWR.out⟩
end
end Go.Proofs.YtmlafcimjhnhhaaDoor
