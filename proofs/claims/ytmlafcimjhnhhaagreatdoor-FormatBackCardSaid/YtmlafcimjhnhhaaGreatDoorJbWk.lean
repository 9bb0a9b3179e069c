/-
  Where a walk stands: own blocks, one row that grows, and facts on trees, carried over calls, allocations and stores by one lemma each.
-/
import Derived.Test.YtmlafcimjhnhhaaGreatDoorJbParExpr
import Derived.Deep.AppendLies
set_option linter.unusedSectionVars false
set_option linter.unusedSimpArgs false
set_option linter.unnecessarySimpa false
set_option linter.unusedVariables false
namespace Go.Proofs.YtmlafcimjhnhhaaGreatDoor
open Lx Go.RowKit
/-- A fact on memory that leans on allowed blocks alone. -/
structure Fact where
 holds:(Nat→Prop)→World→Prop
 kept:∀ (A:Nat→Prop) (w w':World),KeptA A w w'→holds A w→holds A w'
 sub:∀ (A A':Nat→Prop) (w:World),(∀ g,A g→g<w.heap.size→A' g)→holds A w→holds A' w
def Fact.none:Fact:=⟨fun _ _=>True,fun _ _ _ _ h=>h,fun _ _ _ _ h=>h⟩
def Fact.and (F G:Fact):Fact:=⟨fun A w=>F.holds A w∧G.holds A w,fun A w w' hk h=>⟨F.kept A w w' hk h.1,G.kept A w w' hk h.2⟩,fun A A' w hs h=>⟨F.sub A A' w hs h.1,G.sub A A' w hs h.2⟩⟩
def fEx (e:Ex)(cs:List Value):Fact:=⟨fun A w=>∃ d,IsEx A w d e cs,fun _ _ _ hk h=>by obtain⟨d,h⟩:=h;exact⟨d,IsEx.kept hk _ _ _ h⟩,fun _ _ _ hs h=>by obtain⟨d,h⟩:=h;exact⟨d,IsEx.sub hs _ _ _ h⟩⟩
def fSt (e:St)(cs:List Value):Fact:=⟨fun A w=>∃ d,IsSt A w d e cs,fun _ _ _ hk h=>by obtain⟨d,h⟩:=h;exact⟨d,IsSt.kept hk _ _ _ h⟩,fun _ _ _ hs h=>by obtain⟨d,h⟩:=h;exact⟨d,IsSt.sub hs _ _ _ h⟩⟩
def fMe (e:Me)(cs:List Value):Fact:=⟨fun A w=>∃ d,IsMe A w d e cs,fun _ _ _ hk h=>by obtain⟨d,h⟩:=h;exact⟨d,IsMe.kept hk h⟩,fun _ _ _ hs h=>by obtain⟨d,h⟩:=h;exact⟨d,IsMe.sub hs h⟩⟩
def fCl (e:Cl)(cs:List Value):Fact:=⟨fun A w=>∃ d,IsCl A w d e cs,fun _ _ _ hk h=>by obtain⟨d,h⟩:=h;exact⟨d,IsCl.kept hk h⟩,fun _ _ _ hs h=>by obtain⟨d,h⟩:=h;exact⟨d,IsCl.sub hs h⟩⟩
def fExs (l:List Ex)(v:Value):Fact:=⟨fun A w=>∃ d,IsList A w 5 (IsEx A w d) l v,fun _ _ _ hk h=>by obtain⟨d,h⟩:=h;exact⟨d,h.kept hk (by omega) fun _ _ _=>IsEx.kept hk _ _ _⟩,fun _ _ _ hs h=>by obtain⟨d,h⟩:=h;exact⟨d,h.sub hs (by omega) fun _ _ _=>IsEx.sub hs _ _ _⟩⟩
def fSts (l:List St)(v:Value):Fact:=⟨fun A w=>∃ d,IsList A w 6 (IsSt A w d) l v,fun _ _ _ hk h=>by obtain⟨d,h⟩:=h;exact⟨d,h.kept hk (by omega) fun _ _ _=>IsSt.kept hk _ _ _⟩,fun _ _ _ hs h=>by obtain⟨d,h⟩:=h;exact⟨d,h.sub hs (by omega) fun _ _ _=>IsSt.sub hs _ _ _⟩⟩
def fFlds (l:List Fld)(v:Value):Fact:=⟨fun A w=>IsList A w 2 IsFld l v,fun _ _ _ hk h=>h.kept hk (by omega) fun _ _ _ h=>h,fun _ _ _ hs h=>h.sub hs (by omega) fun _ _ _ h=>h⟩
def fMes (l:List Me)(v:Value):Fact:=⟨fun A w=>∃ d,IsList A w 5 (IsMe A w d) l v,fun _ _ _ hk h=>by obtain⟨d,h⟩:=h;exact⟨d,h.kept hk (by omega) fun _ _ _=>IsMe.kept hk⟩,fun _ _ _ hs h=>by obtain⟨d,h⟩:=h;exact⟨d,h.sub hs (by omega) fun _ _ _=>IsMe.sub hs⟩⟩
def fCls (l:List Cl)(v:Value):Fact:=⟨fun A w=>∃ d,IsList A w 4 (IsCl A w d) l v,fun _ _ _ hk h=>by obtain⟨d,h⟩:=h;exact⟨d,h.kept hk (by omega) fun _ _ _=>IsCl.kept hk⟩,fun _ _ _ hs h=>by obtain⟨d,h⟩:=h;exact⟨d,h.sub hs (by omega) fun _ _ _=>IsCl.sub hs⟩⟩
/-- A block, known whole. -/
def fBlk (b:Nat)(o:Obj):Fact:=⟨fun A w=>A b∧w.heap[b]?=some o,fun _ _ _ hk h=>⟨h.1,(hk b h.1 (lt_of_heap h.2)).trans h.2⟩,fun _ _ _ hs h=>⟨hs b h.1 (lt_of_heap h.2),h.2⟩⟩
def fFlatEx (l:List Ex)(xs:List Value):Fact:=⟨fun A w=>∃ d,Flat 5 (IsEx A w d) l xs,fun _ _ _ hk h=>by obtain⟨d,h⟩:=h;exact⟨d,h.mono fun _ _=>IsEx.kept hk _ _ _⟩,fun _ _ _ hs h=>by obtain⟨d,h⟩:=h;exact⟨d,h.mono fun _ _=>IsEx.sub hs _ _ _⟩⟩
def fFlatSt (l:List St)(xs:List Value):Fact:=⟨fun A w=>∃ d,Flat 6 (IsSt A w d) l xs,fun _ _ _ hk h=>by obtain⟨d,h⟩:=h;exact⟨d,h.mono fun _ _=>IsSt.kept hk _ _ _⟩,fun _ _ _ hs h=>by obtain⟨d,h⟩:=h;exact⟨d,h.mono fun _ _=>IsSt.sub hs _ _ _⟩⟩
def fFlatFld (l:List Fld)(xs:List Value):Fact:=⟨fun _ _=>Flat 2 IsFld l xs,fun _ _ _ _ h=>h,fun _ _ _ _ h=>h⟩
def fFlatMe (l:List Me)(xs:List Value):Fact:=⟨fun A w=>∃ d,Flat 5 (IsMe A w d) l xs,fun _ _ _ hk h=>by obtain⟨d,h⟩:=h;exact⟨d,h.mono fun _ _=>IsMe.kept hk⟩,fun _ _ _ hs h=>by obtain⟨d,h⟩:=h;exact⟨d,h.mono fun _ _=>IsMe.sub hs⟩⟩
def fFlatCl (l:List Cl)(xs:List Value):Fact:=⟨fun A w=>∃ d,Flat 4 (IsCl A w d) l xs,fun _ _ _ hk h=>by obtain⟨d,h⟩:=h;exact⟨d,h.mono fun _ _=>IsCl.kept hk⟩,fun _ _ _ hs h=>by obtain⟨d,h⟩:=h;exact⟨d,h.mono fun _ _=>IsCl.sub hs⟩⟩
section
variable {A:Nat→Prop} {w:World}
theorem fFlatEx.snoc {l:List Ex}{xs cs:List Value}{e:Ex}(h:(fFlatEx l xs).holds A w)(he:(fEx e cs).holds A w)(hc:cs.length=5):(fFlatEx (l++[e]) (xs++cs)).holds A w:=by
 obtain⟨d,h⟩:=h;obtain⟨d',he⟩:=he;exact⟨max d d',Flat.snoc (h.mono fun _ _ hx=>hx.le (Nat.le_max_left _ _)) hc (he.le (Nat.le_max_right _ _))⟩
theorem fFlatSt.snoc {l:List St}{xs cs:List Value}{e:St}(h:(fFlatSt l xs).holds A w)(he:(fSt e cs).holds A w)(hc:cs.length=6):(fFlatSt (l++[e]) (xs++cs)).holds A w:=by
 obtain⟨d,h⟩:=h;obtain⟨d',he⟩:=he;exact⟨max d d',Flat.snoc (h.mono fun _ _ hx=>hx.le (Nat.le_max_left _ _)) hc (he.le (Nat.le_max_right _ _))⟩
theorem fFlatMe.snoc {l:List Me}{xs cs:List Value}{e:Me}(h:(fFlatMe l xs).holds A w)(he:(fMe e cs).holds A w)(hc:cs.length=5):(fFlatMe (l++[e]) (xs++cs)).holds A w:=by
 obtain⟨d,h⟩:=h;obtain⟨d',he⟩:=he;exact⟨max d d',Flat.snoc (h.mono fun _ _ hx=>hx.le (Nat.le_max_left _ _)) hc (he.le (Nat.le_max_right _ _))⟩
theorem fFlatCl.snoc {l:List Cl}{xs cs:List Value}{e:Cl}(h:(fFlatCl l xs).holds A w)(he:(fCl e cs).holds A w)(hc:cs.length=4):(fFlatCl (l++[e]) (xs++cs)).holds A w:=by
 obtain⟨d,h⟩:=h;obtain⟨d',he⟩:=he;exact⟨max d d',Flat.snoc (h.mono fun _ _ hx=>hx.le (Nat.le_max_left _ _)) hc (he.le (Nat.le_max_right _ _))⟩
end
theorem fEx.mk {A:Nat→Prop}{w:World}{k n:Int}{o m:Bytes}{ks:List Ex}{v:Value}(h:(fExs ks v).holds A w):(fEx (.mk k n o m ks) [.int .i64 k,.int .i64 n,.string (strOf o),.string (strOf m),v]).holds A w:=by
 obtain⟨d,h⟩:=h;exact⟨d+1,v,rfl,h⟩
theorem fExs.nil {A:Nat→Prop}{w:World}(a:Option Addr)(c:Nat):(fExs [] (.slice a 0 c)).holds A w:=⟨0,Nat.zero_le _,.inl ⟨rfl,_,_,rfl⟩⟩
theorem fSts.nil {A:Nat→Prop}{w:World}(a:Option Addr)(c:Nat):(fSts [] (.slice a 0 c)).holds A w:=⟨0,Nat.zero_le _,.inl ⟨rfl,_,_,rfl⟩⟩
theorem fExs.one {A:Nat→Prop}{w:World}{e:Ex}{b:Nat}{a0 a1 a2 a3 a4:Value}{T:TypeId}{fr:Nat×Nat}(cp:Nat)(hb:(fBlk b (.cells #[a0,a1,a2,a3,a4] T fr)).holds A w)(he:(fEx e [a0,a1,a2,a3,a4]).holds A w)(hcp:1≤cp:=by omega):(fExs [e] (.slice (some ⟨b,0,none⟩) 1 cp)).holds A w:=by
 obtain⟨d,he⟩:=he;obtain⟨hA,hb⟩:=hb;refine⟨d,by unfold maxLen;simp,.inr ⟨b,0,cp,rfl,⟨hA,hcp⟩,fun i hi=>?_⟩⟩;have hc:∀ o,w.cell? ⟨b,o,none⟩=([a0,a1,a2,a3,a4]:List Value)[o]?:=by intro o;simp [World.cell?,hb]
 match i,hi with
 | 0,_=>exact⟨_,rfl,fun j hj=>by rw [hc];match j,hj with | 0,_=>rfl | 1,_=>rfl | 2,_=>rfl | 3,_=>rfl | 4,_=>rfl,he⟩
theorem fExs.two {A:Nat→Prop}{w:World}{e1 e2:Ex}{b:Nat}{a0 a1 a2 a3 a4 b0 b1 b2 b3 b4:Value}{T:TypeId}{fr:Nat×Nat}(cp:Nat)(hb:(fBlk b (.cells #[a0,a1,a2,a3,a4,b0,b1,b2,b3,b4] T fr)).holds A w)(h1:(fEx e1 [a0,a1,a2,a3,a4]).holds A w)(h2:(fEx e2 [b0,b1,b2,b3,b4]).holds A w)(hcp:2≤cp:=by omega):(fExs [e1,e2] (.slice (some ⟨b,0,none⟩) 2 cp)).holds A w:=by
 obtain⟨d,h1⟩:=h1;obtain⟨d',h2⟩:=h2;obtain⟨hA,hb⟩:=hb;exact⟨max d d',isList_two hA hb (h1.le (Nat.le_max_left _ _)) (h2.le (Nat.le_max_right _ _)) cp hcp⟩
theorem fSt.mk {A:Nat→Prop}{w:World}{k:Int}{nm ty:Bytes}{es:List Ex}{b el:List St}{v1 v2 v3:Value}(h1:(fExs es v1).holds A w)(h2:(fSts b v2).holds A w)(h3:(fSts el v3).holds A w):(fSt (.mk k nm ty es b el) [.int .i64 k,.string (strOf nm),.string (strOf ty),v1,v2,v3]).holds A w:=by
 obtain⟨d1,h1⟩:=h1;obtain⟨d2,h2⟩:=h2;obtain⟨d3,h3⟩:=h3;refine⟨max d1 (max d2 d3)+1,v1,v2,v3,rfl,h1.mono fun x _ cs hx=>hx.le (by omega),h2.mono fun x _ cs hx=>hx.le (by omega),h3.mono fun x _ cs hx=>hx.le (by omega)⟩
theorem fMe.mk {A:Nat→Prop}{w:World}{nm rs:Bytes}{s:Bool}{ps:List Fld}{b:List St}{v1 v2:Value}(h1:(fFlds ps v1).holds A w)(h2:(fSts b v2).holds A w):(fMe ⟨nm,s,ps,rs,b⟩ [.string (strOf nm),.bool s,v1,.string (strOf rs),v2]).holds A w:=by
 obtain⟨d,h2⟩:=h2;exact⟨d,v1,v2,rfl,h1,h2⟩
theorem fCl.mk {A:Nat→Prop}{w:World}{nm sp:Bytes}{fs:List Fld}{ms:List Me}{v1 v2:Value}(h1:(fFlds fs v1).holds A w)(h2:(fMes ms v2).holds A w):(fCl ⟨nm,sp,fs,ms⟩ [.string (strOf nm),.string (strOf sp),v1,v2]).holds A w:=by
 obtain⟨d,h2⟩:=h2;exact⟨d,v1,v2,rfl,h1,h2⟩
/-- A row that grows. -/
structure RowD where
 v:Value
 T:TypeId
 k:Nat
 n:Nat
 xs:List Value
def noRow:RowD:=⟨.slice none 0 0,0,0,0,[]⟩
def nilRow (T:TypeId)(k:Nat):RowD:=⟨.slice none 0 0,T,k,0,[]⟩
/-- The blocks that trees may lie in: from lo on, no own block, not the row's. -/
def Allow (lo:Nat)(L:List (Nat×Obj))(r:Option Nat)(k:Nat):Prop:=lo≤k∧(∀ p∈L,k≠p.1)∧r≠some k
structure Wk (pb:Nat) (w wc:World) (L:List (Nat×Obj)) (X:RowD) (F:Fact):Prop where
 grown:w.grownBy wc (some pb)
 pbl:pb<w.heap.size
 ord:L.Pairwise (fun p q=>q.1<p.1)
 own:∀ p∈L,w.heap.size≤p.1∧wc.heap[p.1]?=some p.2
 row:wc.ownsRow w.heap.size X.T X.k X.v X.n X.xs
 apart:∀ p∈L,X.v.ownBlock≠some p.1
 fact:F.holds (Allow w.heap.size L X.v.ownBlock) wc
section
variable {pb:Nat} {w wc w':World} {L:List (Nat×Obj)} {X:RowD} {F G:Fact}
theorem Wk.start (h:pb<w.heap.size):Wk pb w w [] noRow .none:=⟨.refl _ _,h,.nil,fun _ h=>(nomatch h),World.ownsRow_nil _ _ _ _,fun _ h=>(nomatch h),trivial⟩
theorem Wk.imp (h:Wk pb w wc L X F)(hFG:∀ A,F.holds A wc→G.holds A wc):Wk pb w wc L X G:=⟨h.grown,h.pbl,h.ord,h.own,h.row,h.apart,hFG _ h.fact⟩
theorem Wk.impA (h:Wk pb w wc L X F)(hFG:F.holds (Allow w.heap.size L X.v.ownBlock) wc→G.holds (Allow w.heap.size L X.v.ownBlock) wc):Wk pb w wc L X G:=⟨h.grown,h.pbl,h.ord,h.own,h.row,h.apart,hFG h.fact⟩
theorem Wk.lo_le (h:Wk pb w wc L X F):w.heap.size≤wc.heap.size:=h.grown.size
/-- The row of a nil slice may be of any type. -/
theorem Wk.row0 (h:Wk pb w wc L X F)(hn:X.v.ownBlock=Option.none)(T:TypeId)(k:Nat):Wk pb w wc L (nilRow T k) F :=
 ⟨h.grown,h.pbl,h.ord,h.own,World.ownsRow_nil _ _ _ _,fun _ _=>by simp [nilRow,Value.ownBlock],by have:=h.fact;rw [hn] at this;exact this⟩
/-- Any change that keeps all that was, but the blocks of pb. -/
theorem Wk.call (h:Wk pb w wc L X F)(hg:wc.grownBy w' (some pb)):Wk pb w w' L X F:=by
 have hlo:=h.pbl;refine⟨grown_trans h.grown hg,h.pbl,h.ord,fun p hp=>?_,?_,h.apart,?_⟩
 ·obtain⟨h1,h2⟩:=h.own p hp;exact⟨h1,(hg.block p.1 (lt_of_heap h2) (by intro e;cases e;omega)).trans h2⟩
 ·refine h.row.kept hg ?_;cases hv:X.v.ownBlock with
  | none=>exact .inl rfl
  | some k=>exact .inr (fun e=>by have:=(h.row.lt k hv).1;cases e;omega)
 ·exact F.kept _ _ _ (kept_grown hg (fun hA=>by have:=hA.1;omega)) h.fact
theorem Wk.below (h:Wk pb w wc L X F)(hb:Below wc.heap.size wc w'):Wk pb w w' L X F:=h.call (grown_below hb)
theorem Wk.alloc0 (h:Wk pb w wc L X F)(o:Obj):Wk pb w (wc.alloc o) L X F:=h.below ((Below.refl _ _).alloc (Nat.le_refl _) o)
theorem Wk.drew (h:Wk pb w wc L X F):Wk pb w wc.drew L X F:=h.below (below_drew wc)
theorem Wk.own_lt (h:Wk pb w wc L X F){p:Nat×Obj}(hp:p∈L):p.1<wc.heap.size:=lt_of_heap (h.own p hp).2
theorem Wk.alloc (h:Wk pb w wc L X F)(b:Nat)(hb:b=wc.heap.size)(o:Obj):Wk pb w (wc.alloc o) ((b,o)::L) X F:=by
 subst hb;have h0:=h.alloc0 o;refine⟨h0.grown,h.pbl,List.pairwise_cons.2 ⟨fun p hp=>h.own_lt hp,h.ord⟩,?_,h0.row,?_,?_⟩
 ·intro p hp;rcases List.mem_cons.1 hp with rfl | hp
  ·exact⟨h.grown.size,alloc_last _ _ _ rfl⟩
  ·exact h0.own p hp
 ·intro p hp;rcases List.mem_cons.1 hp with rfl | hp
  ·intro e;have:=(h.row.lt _ e).2;simp at this
  ·exact h.apart p hp
 ·refine F.kept _ _ _ (kept_alloc wc o) (F.sub _ _ _ ?_ h.fact);intro k hk hl;refine⟨hk.1,fun p hp=>?_,hk.2.2⟩;rcases List.mem_cons.1 hp with rfl | hp
  ·exact Nat.ne_of_lt hl
  ·exact hk.2.1 p hp
theorem Wk.set (h:Wk pb w wc L X F)(n:Nat){b:Nat}{cs:Array Value}{T:TypeId}{fr:Nat×Nat}(hL:L[n]?=some (b,.cells cs T fr))(o:Nat)(v:Value):Wk pb w (wc.setCell ⟨b,o,none⟩ v) (L.set n (b,.cells (cs.setIfInBounds o v) T fr)) X F:=by
 obtain⟨hn,hLn⟩:=List.getElem?_eq_some_iff.1 hL;have hm:(b,Obj.cells cs T fr)∈L:=hLn▸List.getElem_mem hn;obtain⟨hb1,hb2⟩:=h.own _ hm;have hfst:(L.set n (b,.cells (cs.setIfInBounds o v) T fr)).map (·.1)=L.map (·.1):=by
  rw [List.map_set];apply List.ext_getElem? ;intro i;rw [List.getElem?_set];split
  ·rename_i hi;subst hi;simp [hn,hLn]
  ·rfl
 have hmem:∀ p∈L.set n (b,.cells (cs.setIfInBounds o v) T fr),∃ q∈L,q.1=p.1:=by
  intro p hp;have h1:p.1∈(L.set n (b,.cells (cs.setIfInBounds o v) T fr)).map (·.1):=List.mem_map_of_mem hp;rw [hfst] at h1;obtain⟨q,hq,e⟩:=List.mem_map.1 h1;exact⟨q,hq,e⟩
 have hmem2:∀ q∈L,∃ p∈L.set n (b,.cells (cs.setIfInBounds o v) T fr),p.1=q.1:=by
  intro p hp;have h1:p.1∈L.map (·.1):=List.mem_map_of_mem hp;rw [← hfst] at h1;obtain⟨q,hq,e⟩:=List.mem_map.1 h1;exact⟨q,hq,e⟩
 refine⟨grown_set h.grown hb1 o v,h.pbl,?_,?_,?_,?_,?_⟩
 ·have h1:(L.map (·.1)).Pairwise (fun p q=>q<p):=List.pairwise_map.2 h.ord;rw [← hfst] at h1;exact List.pairwise_map.1 h1
 ·intro p hp;obtain⟨i,hi,rfl⟩:=List.getElem_of_mem hp;rw [List.getElem_set];split
  ·exact⟨hb1,set_block_at hb2⟩
  ·rename_i hne;have hi':i<L.length:=by simpa using hi
   obtain⟨h1,h2⟩:=h.own L[i] (List.getElem_mem hi');refine⟨h1,(set_block_ne _ _ _ _ _ ?_).trans h2⟩;have hord:=List.pairwise_iff_getElem.1 h.ord;rcases Nat.lt_or_gt_of_ne hne with hlt | hlt
   ·have:=hord n i hn hi' hlt;rw [hLn] at this;exact Nat.ne_of_lt this
   ·have:=hord i n hi' hn hlt;rw [hLn] at this;exact Nat.ne_of_gt this
 ·have hg:wc.grownBy (wc.setCell ⟨b,o,none⟩ v) (some b):=Lib.grownBy_setB (.refl _ _) _ _;exact h.row.kept hg (.inr (h.apart _ hm))
 ·intro p hp;obtain⟨q,hq,e⟩:=hmem p hp;rw [← e];exact h.apart q hq
 ·refine F.kept _ _ _ ?_ (F.sub _ _ _ ?_ h.fact)
  ·intro k hk _;refine set_block_ne _ _ _ _ _ ?_;obtain⟨p,hp,e⟩:=hmem2 _ hm;have:=hk.2.1 p hp;rw [e] at this;exact this
  ·intro k hk _;refine⟨hk.1,fun p hp=>?_,hk.2.2⟩;obtain⟨q,hq,e⟩:=hmem p hp;rw [← e];exact hk.2.1 q hq
/-- An own block becomes the row. -/
theorem Wk.toRow (h:Wk pb w wc L X F)(n:Nat){b:Nat}{cs:Array Value}{T:TypeId}(hL:L[n]?=some (b,.cells cs T (0,0)))(k m:Nat)(hm:cs.size=m*k)(hml:m≤maxLen) :
  Wk pb w wc (L.eraseIdx n) ⟨.slice (some ⟨b,0,none⟩) m m,T,k,m,cs.toList⟩ F:=by
 obtain⟨hn,hLn⟩:=List.getElem?_eq_some_iff.1 hL;have hm2:(b,Obj.cells cs T (0,0))∈L:=hLn▸List.getElem_mem hn;obtain⟨hb1,hb2⟩:=h.own _ hm2;have hsub:∀ p∈L.eraseIdx n,p∈L:=fun p hp=>List.mem_of_mem_eraseIdx hp
 refine⟨h.grown,h.pbl,h.ord.sublist (List.eraseIdx_sublist _ _),fun p hp=>h.own p (hsub p hp),⟨by simp [hm],.inr ⟨b,m,cs,rfl,hb1,hb2,Nat.le_refl _,hml,hm,?_⟩⟩,fun p hp=>?_,F.sub _ _ _ ?_ h.fact⟩
 ·rw [← hm];exact List.take_of_length_le (by simp)
 ·obtain⟨i,hi,hne,e⟩:=List.mem_eraseIdx_iff_getElem.1 hp;subst e;intro e2;simp only [Value.ownBlock,Option.some.injEq] at e2;have hord:=List.pairwise_iff_getElem.1 h.ord;rcases Nat.lt_or_gt_of_ne hne with hlt | hlt
  ·have h1:=hord i n hi hn hlt;rw [hLn] at h1;have h1:b<L[i].1:=h1;omega
  ·have h1:=hord n i hn hi hlt;rw [hLn] at h1;have h1:L[i].1<b:=h1;omega
 ·intro k hk _;refine⟨hk.1,fun p hp=>hk.2.1 p (hsub p hp),fun e=>?_⟩;simp only [Value.ownBlock,Option.some.injEq] at e;exact hk.2.1 _ hm2 e.symm
/-- A fact on what a call has laid. -/
theorem Wk.add (h:Wk pb w w' L X F){F0:Fact}(h0:Wk pb w wc L X F0)(G:Fact)(hG:G.holds (wc.heap.size≤·) w'):Wk pb w w' L X (F.and G):=by
 refine⟨h.grown,h.pbl,h.ord,h.own,h.row,h.apart,h.fact,G.sub _ _ _ ?_ hG⟩;intro k hk _;have hk:wc.heap.size≤k:=hk;refine⟨Nat.le_trans h0.lo_le hk,fun p hp=>?_,fun e=>?_⟩
 ·have:=h0.own_lt hp;omega
 ·have:=(h0.row.lt k e).2;omega
/-- An own block becomes a part of a tree. -/
theorem Wk.give (h:Wk pb w wc L X F)(n:Nat){b:Nat}{o:Obj}(hL:L[n]?=some (b,o)):Wk pb w wc (L.eraseIdx n) X (F.and (fBlk b o)):=by
 obtain⟨hn,hLn⟩:=List.getElem?_eq_some_iff.1 hL;have hm:(b,o)∈L:=hLn▸List.getElem_mem hn;obtain⟨hb1,hb2⟩:=h.own _ hm;have hsub:∀ p∈L.eraseIdx n,p∈L:=fun p hp=>List.mem_of_mem_eraseIdx hp
 refine⟨h.grown,h.pbl,h.ord.sublist (List.eraseIdx_sublist _ _),fun p hp=>h.own p (hsub p hp),h.row,fun p hp=>h.apart p (hsub p hp),F.sub _ _ _ ?_ h.fact,⟨hb1,fun p hp=>?_,h.apart _ hm⟩,hb2⟩
 ·exact fun k hk _=>⟨hk.1,fun p hp=>hk.2.1 p (hsub p hp),hk.2.2⟩
 ·obtain⟨i,hi,hne,e⟩:=List.mem_eraseIdx_iff_getElem.1 hp;subst e;have hord:=List.pairwise_iff_getElem.1 h.ord;rcases Nat.lt_or_gt_of_ne hne with hlt | hlt
  ·have h1:=hord i n hi hn hlt;rw [hLn] at h1;have h1:b<L[i].1:=h1;show b≠L[i].1;omega
  ·have h1:=hord n i hn hi hlt;rw [hLn] at h1;have h1:L[i].1<b:=h1;show b≠L[i].1;omega
/-- An own block is left. -/
theorem Wk.drop (h:Wk pb w wc L X F)(n:Nat):Wk pb w wc (L.eraseIdx n) X F:=by
 have hsub:∀ p∈L.eraseIdx n,p∈L:=fun p hp=>List.mem_of_mem_eraseIdx hp
 exact⟨h.grown,h.pbl,h.ord.sublist (List.eraseIdx_sublist _ _),fun p hp=>h.own p (hsub p hp),h.row,fun p hp=>h.apart p (hsub p hp),F.sub _ _ _ (fun k hk _=>⟨hk.1,fun p hp=>hk.2.1 p (hsub p hp),hk.2.2⟩) h.fact⟩
theorem Wk.fin (h:Wk pb w wc L X F):F.holds (w.heap.size≤·) wc:=F.sub _ _ _ (fun _ hk _=>hk.1) h.fact
/-- Behind an append. -/
theorem Wk.append (h:Wk pb w wc L X F){g' cap' m:Nat}{news:List Value}(hown:w'.ownsRow w.heap.size X.T X.k (.slice (some ⟨g',0,none⟩) (X.n+m) cap') (X.n+m) (X.xs++news))(hg:wc.grownBy w' X.v.ownBlock)(hat:X.v.ownBlock=some g'∨g'=wc.heap.size) :
  Wk pb w w' L ⟨.slice (some ⟨g',0,none⟩) (X.n+m) cap',X.T,X.k,X.n+m,X.xs++news⟩ F:=by
 have hlow:∀ k,X.v.ownBlock=some k→w.heap.size≤k:=fun k hk=>(h.row.lt k hk).1
 have hne:∀ k,X.v.ownBlock≠some k→k<wc.heap.size→k≠g':=by
  intro k h1 h2 e;subst e;rcases hat with h3 | h3
  ·exact h1 h3
  ·omega
 refine⟨⟨hg.os.trans h.grown.os,hg.tape.trans h.grown.tape,hg.output.trans h.grown.output,Nat.le_trans h.grown.size hg.size,fun k hk hn=>(hg.block k (Nat.lt_of_lt_of_le hk h.grown.size) (fun e=>by have:=hlow k e.symm;omega)).trans (h.grown.block k hk hn)⟩,h.pbl,h.ord,?_,hown,?_,?_⟩
 ·intro p hp;obtain⟨h1,h2⟩:=h.own p hp;exact⟨h1,(hg.block p.1 (lt_of_heap h2) (Ne.symm (h.apart p hp))).trans h2⟩
 ·intro p hp e;simp only [Value.ownBlock,Option.some.injEq] at e;exact hne p.1 (h.apart p hp) (h.own_lt hp) e.symm
 ·have h1:F.holds (fun k=>Allow w.heap.size L X.v.ownBlock k∧k≠g') wc:=F.sub _ _ _ (fun k hk hl=>⟨hk,hne k hk.2.2 hl⟩) h.fact;refine F.sub _ _ _ (fun k hk _=>⟨hk.1.1,hk.1.2.1,fun e=>?_⟩) (F.kept _ _ _ (fun k hk hl=>hg.block k hl (Ne.symm hk.1.2.2)) h1);simp only [Value.ownBlock,Option.some.injEq] at e;exact hk.2 e.symm
theorem IsList.of_own2 {α:Type}{A:Nat→Prop}{w:World}{B:Nat}{T:TypeId}{k:Nat}{P:α→List Value→Prop}{l:List α}{v:Value}{xs:List Value}(h:w.ownsRow B T k v l.length xs)(hf:Flat k P l xs)(hA:∀ g,v.ownBlock=some g→A g):IsList A w k P l v:=by
 obtain⟨hl,h1 | ⟨g,off,cp,hv,hA0,hc⟩⟩:=IsList.of_own (A:=fun _=>True) h hf (fun _ _=>trivial)
 ·exact⟨hl,.inl h1⟩
 ·by_cases h0:l=[]
  ·exact⟨hl,.inl ⟨h0,some ⟨g,off,Option.none⟩,cp,by rw [hv,h0];rfl⟩⟩
  ·exact⟨hl,.inr ⟨g,off,cp,hv,⟨hA g (by rw [hv];rfl),hA0.2⟩,hc⟩⟩
theorem fExs.of_row {A:Nat→Prop}{wc:World}{B:Nat}{T:TypeId}{v:Value}{l:List Ex}{xs:List Value}(hr:wc.ownsRow B T 5 v l.length xs)(hf:(fFlatEx l xs).holds A wc)(hA:∀ g,v.ownBlock=some g→A g):(fExs l v).holds A wc:=by
 obtain⟨d,hf⟩:=hf;exact⟨d,IsList.of_own2 hr hf hA⟩
theorem fSts.of_row {A:Nat→Prop}{wc:World}{B:Nat}{T:TypeId}{v:Value}{l:List St}{xs:List Value}(hr:wc.ownsRow B T 6 v l.length xs)(hf:(fFlatSt l xs).holds A wc)(hA:∀ g,v.ownBlock=some g→A g):(fSts l v).holds A wc:=by
 obtain⟨d,hf⟩:=hf;exact⟨d,IsList.of_own2 hr hf hA⟩
theorem fMes.of_row {A:Nat→Prop}{wc:World}{B:Nat}{T:TypeId}{v:Value}{l:List Me}{xs:List Value}(hr:wc.ownsRow B T 5 v l.length xs)(hf:(fFlatMe l xs).holds A wc)(hA:∀ g,v.ownBlock=some g→A g):(fMes l v).holds A wc:=by
 obtain⟨d,hf⟩:=hf;exact⟨d,IsList.of_own2 hr hf hA⟩
theorem fCls.of_row {A:Nat→Prop}{wc:World}{B:Nat}{T:TypeId}{v:Value}{l:List Cl}{xs:List Value}(hr:wc.ownsRow B T 4 v l.length xs)(hf:(fFlatCl l xs).holds A wc)(hA:∀ g,v.ownBlock=some g→A g):(fCls l v).holds A wc:=by
 obtain⟨d,hf⟩:=hf;exact⟨d,IsList.of_own2 hr hf hA⟩
theorem fFlds.of_row {A:Nat→Prop}{wc:World}{B:Nat}{T:TypeId}{v:Value}{l:List Fld}{xs:List Value}(hr:wc.ownsRow B T 2 v l.length xs)(hf:(fFlatFld l xs).holds A wc)(hA:∀ g,v.ownBlock=some g→A g):(fFlds l v).holds A wc :=
 IsList.of_own2 hr hf hA
/-- The row is whole: it becomes a part of a tree. -/
theorem Wk.whole (h:Wk pb w wc L X F)(hG:∀ A,F.holds A wc→(∀ g,X.v.ownBlock=some g→A g)→G.holds A wc):Wk pb w wc L noRow G:=by
 have h1:F.holds (Allow w.heap.size L Option.none) wc:=F.sub _ _ _ (fun k hk _=>⟨hk.1,hk.2.1,by simp⟩) h.fact;refine⟨h.grown,h.pbl,h.ord,h.own,World.ownsRow_nil _ _ _ _,fun _ _=>by simp [noRow,Value.ownBlock],hG _ h1 fun g hg=>⟨(h.row.lt g hg).1,fun p hp e=>h.apart p hp (by rw [hg,e]),by simp [noRow,Value.ownBlock]⟩⟩
end
/-- Where a rule of the parser stands. -/
structure PS (pb g cap:Nat) (ts:List Tok) (w:World) (j:Nat) (wc:World) (L:List (Nat×Obj)) (X:RowD) (F:Fact):Prop where
 wk:Wk pb w wc L X F
 env:PEnv pb g cap ts j wc
 gl:g<w.heap.size
section
variable {pb g cap:Nat} {ts:List Tok} {i j:Nat} {w wc w':World} {L:List (Nat×Obj)} {X:RowD} {F G:Fact}
theorem PEnv.ps (h:PEnv pb g cap ts i w):PS pb g cap ts w i w [] noRow .none:=⟨.start h.pb_lt,h,h.g_lt⟩
theorem PS.imp (h:PS pb g cap ts w j wc L X F)(hFG:∀ A,F.holds A wc→G.holds A wc):PS pb g cap ts w j wc L X G:=⟨h.wk.imp hFG,h.env,h.gl⟩
theorem PS.impA (h:PS pb g cap ts w j wc L X F)(hFG:F.holds (Allow w.heap.size L X.v.ownBlock) wc→G.holds (Allow w.heap.size L X.v.ownBlock) wc):PS pb g cap ts w j wc L X G:=⟨h.wk.impA hFG,h.env,h.gl⟩
theorem PS.row0 (h:PS pb g cap ts w j wc L X F)(hn:X.v.ownBlock=Option.none)(T:TypeId)(k:Nat):PS pb g cap ts w j wc L (nilRow T k) F:=⟨h.wk.row0 hn T k,h.env,h.gl⟩
theorem PS.call (h:PS pb g cap ts w j wc L X F){j':Nat}(hg:wc.grownBy w' (some pb))(hE:PEnv pb g cap ts j' w'):PS pb g cap ts w j' w' L X F:=⟨h.wk.call hg,hE,h.gl⟩
theorem PS.below (h:PS pb g cap ts w j wc L X F)(hb:Below wc.heap.size wc w'):PS pb g cap ts w j w' L X F:=⟨h.wk.below hb,h.env.keep hb,h.gl⟩
theorem PS.alloc0 (h:PS pb g cap ts w j wc L X F)(o:Obj):PS pb g cap ts w j (wc.alloc o) L X F:=⟨h.wk.alloc0 o,h.env.alloc o,h.gl⟩
theorem PS.drew (h:PS pb g cap ts w j wc L X F):PS pb g cap ts w j wc.drew L X F:=h.below (below_drew wc)
theorem PS.alloc (h:PS pb g cap ts w j wc L X F)(b:Nat)(hb:b=wc.heap.size)(o:Obj):PS pb g cap ts w j (wc.alloc o) ((b,o)::L) X F:=⟨h.wk.alloc b hb o,h.env.alloc o,h.gl⟩
theorem PS.set (h:PS pb g cap ts w j wc L X F)(n:Nat){b:Nat}{cs:Array Value}{T:TypeId}{fr:Nat×Nat}(hL:L[n]?=some (b,.cells cs T fr))(o:Nat)(v:Value):PS pb g cap ts w j (wc.setCell ⟨b,o,none⟩ v) (L.set n (b,.cells (cs.setIfInBounds o v) T fr)) X F:=by
 obtain⟨hn,hLn⟩:=List.getElem?_eq_some_iff.1 hL;have hm:(b,Obj.cells cs T fr)∈L:=hLn▸List.getElem_mem hn;have hb:w.heap.size≤b:=(h.wk.own _ hm).1;have h1:=h.wk.pbl;have h2:=h.gl;exact⟨h.wk.set n hL o v,h.env.set (by omega) (by omega) o v,h.gl⟩
theorem PS.setTo (h:PS pb g cap ts w j wc L X F)(n:Nat){b:Nat}{cs:Array Value}{T:TypeId}{fr:Nat×Nat}(hL:L[n]?=some (b,.cells cs T fr))(o:Nat)(v:Value)(cs':Array Value)(hc:cs.setIfInBounds o v=cs')(L':List (Nat×Obj))(hL':L.set n (b,.cells cs' T fr)=L'):PS pb g cap ts w j (wc.setCell ⟨b,o,none⟩ v) L' X F:=by
 have:=h.set n hL o v;rw [hc,hL'] at this;exact this
theorem PS.toRow (h:PS pb g cap ts w j wc L X F)(n:Nat){b:Nat}{cs:Array Value}{T:TypeId}(hL:L[n]?=some (b,.cells cs T (0,0)))(k m:Nat)(hm:cs.size=m*k)(hml:m≤maxLen):PS pb g cap ts w j wc (L.eraseIdx n) ⟨.slice (some ⟨b,0,none⟩) m m,T,k,m,cs.toList⟩ F:=⟨h.wk.toRow n hL k m hm hml,h.env,h.gl⟩
theorem PS.set5 (h:PS pb g cap ts w j wc L X F)(n:Nat){b:Nat}{a0 a1 a2 a3 a4:Value}{T:TypeId}{fr:Nat×Nat}(hL:L[n]?=some (b,.cells #[a0,a1,a2,a3,a4] T fr))(v0 v1 v2 v3 v4:Value)(L':List (Nat×Obj))(hL':L.set n (b,.cells #[v0,v1,v2,v3,v4] T fr)=L') :
  PS pb g cap ts w j (((((wc.setCell ⟨b,0,none⟩ v0).setCell ⟨b,1,none⟩ v1).setCell ⟨b,2,none⟩ v2).setCell ⟨b,3,none⟩ v3).setCell ⟨b,4,none⟩ v4) L' X F:=by
 obtain⟨hn,_⟩:=List.getElem?_eq_some_iff.1 hL;have e:∀ x y:Nat×Obj,(L.set n x).set n y=L.set n y:=fun x y=>List.set_set ..
 have q:∀ x:Nat×Obj,(L.set n x)[n]?=some x:=fun x=>by simp [hn]
 have h1:=h.setTo n hL 0 v0 #[v0,a1,a2,a3,a4] rfl _ rfl;have h2:=h1.setTo n (q _) 1 v1 #[v0,v1,a2,a3,a4] rfl _ (e _ _);have h3:=h2.setTo n (q _) 2 v2 #[v0,v1,v2,a3,a4] rfl _ (e _ _);have h4:=h3.setTo n (q _) 3 v3 #[v0,v1,v2,v3,a4] rfl _ (e _ _);exact h4.setTo n (q _) 4 v4 #[v0,v1,v2,v3,v4] rfl _ ((e _ _).trans hL')
theorem PS.set6 (h:PS pb g cap ts w j wc L X F)(n:Nat){b:Nat}{a0 a1 a2 a3 a4 a5:Value}{T:TypeId}{fr:Nat×Nat}(hL:L[n]?=some (b,.cells #[a0,a1,a2,a3,a4,a5] T fr))(v0 v1 v2 v3 v4 v5:Value)(L':List (Nat×Obj))(hL':L.set n (b,.cells #[v0,v1,v2,v3,v4,v5] T fr)=L') :
  PS pb g cap ts w j ((((((wc.setCell ⟨b,0,none⟩ v0).setCell ⟨b,1,none⟩ v1).setCell ⟨b,2,none⟩ v2).setCell ⟨b,3,none⟩ v3).setCell ⟨b,4,none⟩ v4).setCell ⟨b,5,none⟩ v5) L' X F:=by
 obtain⟨hn,_⟩:=List.getElem?_eq_some_iff.1 hL;have e:∀ x y:Nat×Obj,(L.set n x).set n y=L.set n y:=fun x y=>List.set_set ..
 have q:∀ x:Nat×Obj,(L.set n x)[n]?=some x:=fun x=>by simp [hn]
 have h1:=h.setTo n hL 0 v0 #[v0,a1,a2,a3,a4,a5] rfl _ rfl;have h2:=h1.setTo n (q _) 1 v1 #[v0,v1,a2,a3,a4,a5] rfl _ (e _ _);have h3:=h2.setTo n (q _) 2 v2 #[v0,v1,v2,a3,a4,a5] rfl _ (e _ _);have h4:=h3.setTo n (q _) 3 v3 #[v0,v1,v2,v3,a4,a5] rfl _ (e _ _);have h5:=h4.setTo n (q _) 4 v4 #[v0,v1,v2,v3,v4,a5] rfl _ (e _ _);exact h5.setTo n (q _) 5 v5 #[v0,v1,v2,v3,v4,v5] rfl _ ((e _ _).trans hL')
theorem PS.set4 (h:PS pb g cap ts w j wc L X F)(n:Nat){b:Nat}{a0 a1 a2 a3:Value}{T:TypeId}{fr:Nat×Nat}(hL:L[n]?=some (b,.cells #[a0,a1,a2,a3] T fr))(v0 v1 v2 v3:Value)(L':List (Nat×Obj))(hL':L.set n (b,.cells #[v0,v1,v2,v3] T fr)=L') :
  PS pb g cap ts w j ((((wc.setCell ⟨b,0,none⟩ v0).setCell ⟨b,1,none⟩ v1).setCell ⟨b,2,none⟩ v2).setCell ⟨b,3,none⟩ v3) L' X F:=by
 obtain⟨hn,_⟩:=List.getElem?_eq_some_iff.1 hL;have e:∀ x y:Nat×Obj,(L.set n x).set n y=L.set n y:=fun x y=>List.set_set ..
 have q:∀ x:Nat×Obj,(L.set n x)[n]?=some x:=fun x=>by simp [hn]
 have h1:=h.setTo n hL 0 v0 #[v0,a1,a2,a3] rfl _ rfl;have h2:=h1.setTo n (q _) 1 v1 #[v0,v1,a2,a3] rfl _ (e _ _);have h3:=h2.setTo n (q _) 2 v2 #[v0,v1,v2,a3] rfl _ (e _ _);exact h3.setTo n (q _) 3 v3 #[v0,v1,v2,v3] rfl _ ((e _ _).trans hL')
theorem PS.set2 (h:PS pb g cap ts w j wc L X F)(n:Nat){b:Nat}{a0 a1:Value}{T:TypeId}{fr:Nat×Nat}(hL:L[n]?=some (b,.cells #[a0,a1] T fr))(v0 v1:Value)(L':List (Nat×Obj))(hL':L.set n (b,.cells #[v0,v1] T fr)=L') :
  PS pb g cap ts w j ((wc.setCell ⟨b,0,none⟩ v0).setCell ⟨b,1,none⟩ v1) L' X F:=by
 obtain⟨hn,_⟩:=List.getElem?_eq_some_iff.1 hL;have e:∀ x y:Nat×Obj,(L.set n x).set n y=L.set n y:=fun x y=>List.set_set ..
 have q:∀ x:Nat×Obj,(L.set n x)[n]?=some x:=fun x=>by simp [hn]
 have h1:=h.setTo n hL 0 v0 #[v0,a1] rfl _ rfl;exact h1.setTo n (q _) 1 v1 #[v0,v1] rfl _ ((e _ _).trans hL')
theorem PS.add (h:PS pb g cap ts w j w' L X F){F0:Fact}{j0:Nat}(h0:PS pb g cap ts w j0 wc L X F0)(G:Fact)(hG:G.holds (wc.heap.size≤·) w'):PS pb g cap ts w j w' L X (F.and G):=⟨h.wk.add h0.wk G hG,h.env,h.gl⟩
theorem PS.give (h:PS pb g cap ts w j wc L X F)(n:Nat){b:Nat}{o:Obj}(hL:L[n]?=some (b,o)):PS pb g cap ts w j wc (L.eraseIdx n) X (F.and (fBlk b o)):=⟨h.wk.give n hL,h.env,h.gl⟩
theorem PS.drop (h:PS pb g cap ts w j wc L X F)(n:Nat):PS pb g cap ts w j wc (L.eraseIdx n) X F:=⟨h.wk.drop n,h.env,h.gl⟩
theorem PS.append (h:PS pb g cap ts w j wc L X F){g' cap' m:Nat}{news:List Value}(hown:w'.ownsRow w.heap.size X.T X.k (.slice (some ⟨g',0,none⟩) (X.n+m) cap') (X.n+m) (X.xs++news))(hg:wc.grownBy w' X.v.ownBlock)(hat:X.v.ownBlock=some g'∨g'=wc.heap.size) :
  PS pb g cap ts w j w' L ⟨.slice (some ⟨g',0,none⟩) (X.n+m) cap',X.T,X.k,X.n+m,X.xs++news⟩ F:=by
 refine⟨h.wk.append hown hg hat,?_,h.gl⟩;have e:∀ k,k<w.heap.size→w'.heap[k]?=wc.heap[k]?:=fun k hk=>hg.block k (Nat.lt_of_lt_of_le hk h.wk.grown.size) (fun hr=>by have:=(h.wk.row.lt k hr.symm).1;omega)
 refine⟨(e pb h.wk.pbl).trans h.env.blk,h.env.ne,h.env.len,h.env.lt,fun k hk=>?_⟩;have e2:∀ o,w'.cell? ⟨g,o,none⟩=wc.cell? ⟨g,o,none⟩:=fun o=>World.cell?_of_block (e g h.gl)
 simp only [e2];exact h.env.cell k hk
theorem PS.whole (h:PS pb g cap ts w j wc L X F)(hG:∀ A,F.holds A wc→(∀ g,X.v.ownBlock=some g→A g)→G.holds A wc):PS pb g cap ts w j wc L noRow G:=⟨h.wk.whole hG,h.env,h.gl⟩
theorem PS.lo_le (h:PS pb g cap ts w j wc L X F):w.heap.size≤wc.heap.size:=h.wk.lo_le
theorem PS.blk (h:PS pb g cap ts w j wc L X F)(n:Nat){b:Nat}{o:Obj}(hL:L[n]?=some (b,o)):w.heap.size≤b∧b<wc.heap.size∧wc.heap[b]?=some o:=by
 obtain⟨hn,hLn⟩:=List.getElem?_eq_some_iff.1 hL;have hm:(b,o)∈L:=hLn▸List.getElem_mem hn;obtain⟨h1,h2⟩:=h.wk.own _ hm;exact⟨h1,lt_of_heap h2,h2⟩
theorem blk_cell {wc:World}{b:Nat}{cs:Array Value}{T:TypeId}(h:wc.heap[b]?=some (.cells cs T (0,0))):(∀ o,wc.cell? ⟨b,o,none⟩=cs[o]?)∧∀ o,wc.frozen? ⟨b,o,none⟩=false:=by
 constructor
 ·intro o;simp [World.cell?,h]
 ·intro o;simp [World.frozen?,h]
theorem PS.cells1 (h:PS pb g cap ts w j wc L X F)(n:Nat){b:Nat}{a0:Value}{T:TypeId}(hL:L[n]?=some (b,.cells #[a0] T (0,0))):wc.cell? ⟨b,0,none⟩=some a0∧∀ o,wc.frozen? ⟨b,o,none⟩=false :=
 have h1:=blk_cell (h.blk n hL).2.2
 ⟨h1.1 0,h1.2⟩
theorem PS.cells2 (h:PS pb g cap ts w j wc L X F)(n:Nat){b:Nat}{a0 a1:Value}{T:TypeId}(hL:L[n]?=some (b,.cells #[a0,a1] T (0,0))):(wc.cell? ⟨b,0,none⟩=some a0∧wc.cell? ⟨b,1,none⟩=some a1)∧∀ o,wc.frozen? ⟨b,o,none⟩=false :=
 have h1:=blk_cell (h.blk n hL).2.2
 ⟨⟨h1.1 0,h1.1 1⟩,h1.2⟩
theorem PS.cells4 (h:PS pb g cap ts w j wc L X F)(n:Nat){b:Nat}{a0 a1 a2 a3:Value}{T:TypeId}(hL:L[n]?=some (b,.cells #[a0,a1,a2,a3] T (0,0))):(wc.cell? ⟨b,0,none⟩=some a0∧wc.cell? ⟨b,1,none⟩=some a1∧wc.cell? ⟨b,2,none⟩=some a2∧wc.cell? ⟨b,3,none⟩=some a3)∧∀ o,wc.frozen? ⟨b,o,none⟩=false :=
 have h1:=blk_cell (h.blk n hL).2.2
 ⟨⟨h1.1 0,h1.1 1,h1.1 2,h1.1 3⟩,h1.2⟩
theorem PS.cells5 (h:PS pb g cap ts w j wc L X F)(n:Nat){b:Nat}{a0 a1 a2 a3 a4:Value}{T:TypeId}(hL:L[n]?=some (b,.cells #[a0,a1,a2,a3,a4] T (0,0))):(wc.cell? ⟨b,0,none⟩=some a0∧wc.cell? ⟨b,1,none⟩=some a1∧wc.cell? ⟨b,2,none⟩=some a2∧wc.cell? ⟨b,3,none⟩=some a3∧wc.cell? ⟨b,4,none⟩=some a4)∧∀ o,wc.frozen? ⟨b,o,none⟩=false :=
 have h1:=blk_cell (h.blk n hL).2.2
 ⟨⟨h1.1 0,h1.1 1,h1.1 2,h1.1 3,h1.1 4⟩,h1.2⟩
theorem PS.cells6 (h:PS pb g cap ts w j wc L X F)(n:Nat){b:Nat}{a0 a1 a2 a3 a4 a5:Value}{T:TypeId}(hL:L[n]?=some (b,.cells #[a0,a1,a2,a3,a4,a5] T (0,0))):(wc.cell? ⟨b,0,none⟩=some a0∧wc.cell? ⟨b,1,none⟩=some a1∧wc.cell? ⟨b,2,none⟩=some a2∧wc.cell? ⟨b,3,none⟩=some a3∧wc.cell? ⟨b,4,none⟩=some a4∧wc.cell? ⟨b,5,none⟩=some a5)∧∀ o,wc.frozen? ⟨b,o,none⟩=false :=
 have h1:=blk_cell (h.blk n hL).2.2
 ⟨⟨h1.1 0,h1.1 1,h1.1 2,h1.1 3,h1.1 4,h1.1 5⟩,h1.2⟩
/-- Behind a call of a rule: it has failed, and so has all; or it has not, and we go on. -/
theorem PS.rule {α β:Type}{Q:α→Value→World→Prop}{r:PR α}{e:Ending}{k:α→Nat→PR β}{R:PR β}{Q':β→Value→World→Prop}(hS:PS pb g cap ts w j wc L X F)(ho:POut pb g cap ts wc Q r e w')(hR:R=bindP r k) :
  (∃ ch,e=.panicked ch∧POut pb g cap ts w Q' R (.panicked ch) w')∨∃ a j v,e=.returned v∧Q a v w'∧PS pb g cap ts w j w' L X F∧R=k a j∧wc.heap.size≤w'.heap.size∧r=.ok (a,j):=by
 match r,ho,hR with
 | .error q,ho,hR=>obtain⟨hg,he⟩:=out_error ho;exact .inl ⟨_,he,fin_error hR (grown_trans hS.wk.grown hg)⟩
 | .ok (a,j),ho,hR=>obtain⟨hg,v,he,hQ,hE⟩:=out_ok ho;exact .inr ⟨a,j,v,he,hQ,hS.call hg hE,hR,hg.size,rfl⟩
theorem PS.step (h:PS pb g cap ts w j wc L X F)(hj:j+1<ts.length):PS pb g cap ts w (j+1) (wc.setCell ⟨pb,1,none⟩ (.int .i64 ((j:Int)+1))) L X F:=h.call (Lib.grownBy_setB (.refl _ _) _ _) (h.env.step hj)
theorem PS.ret {α:Type}{Q:α→Value→World→Prop}{R:PR α}{a:α}{v:Value}(hS:PS pb g cap ts w j wc L X F)(hR:R=.ok (a,j))(hQ:Q a v wc):POut pb g cap ts w Q R (.returned v) wc:=fin_ok hR hS.wk.grown hQ hS.env
theorem PS.panic {α:Type}{Q:α→Value→World→Prop}{R:PR α}(hS:PS pb g cap ts w j wc L X F)(hb:Below wc.heap.size wc w')(hR:R=.error j):POut pb g cap ts w Q R (.panicked (misfit (tk ts j).pos)) w':=fin_error hR (grown_trans hS.wk.grown (grown_below hb))
end
end Go.Proofs.YtmlafcimjhnhhaaGreatDoor
