/-
  AX: operations that write.
-/
import Derived.Test.YtoookjadbhdfhaaDoorTJpAc
set_option linter.unusedSectionVars false
set_option linter.unusedSimpArgs false
set_option linter.unnecessarySimpa false
set_option linter.unusedVariables false
set_option linter.unusedSimpArgs false
set_option linter.unusedVariables false
namespace Go.Proofs.YtoookjadbhdfhaaDoor
section
namespace Ax
theorem oneV_oneCell {v:Value}(h:oneV v=true):v.oneCell'=true:=by cases v <;> first | rfl | (simp [oneV] at h)
/-- What became of the heap. -/
inductive Dl where
 | no
 | set (b:Nat) (k:CB)
 | mv (b:Nat) (k:CB)
 | nw (k:CB)
def Dl.hp (H:Heap)(nx:Nat):Dl→Heap
 | .no=>H
 | .set b k=>upd H b k
 | .mv b k=>upd (drp H b) nx k
 | .nw k=>upd H nx k
def Dl.nx (nx:Nat):Dl→Nat
 | .no=>nx
 | .set _ _=>nx
 | .mv _ _=>nx+1
 | .nw _=>nx+1
/-- A step that writes went well. -/
def EOk (P:Program)(H:Heap)(M:Mp)(nx:Nat)(w:World)(s:Sem Next)(c:CV)(d:Dl):Prop :=
 ∃ M' w',((∃ z,s.run P w=.ok (.value z) w'∧RV M' c z)∨(s.run P w=.ok .skip w'∧c=.any))∧Rep M' (d.hp H nx) (d.nx nx) w'∧Fr H M nx w (d.hp H nx) M' (d.nx nx) w'
/-! stores -/
theorem seg_take {α:Type}(A vs:List α)(o q n:Nat)(hA:n≤A.length)(hq:vs.length=q)(hn:o+q≤n) :
  (A.take o++vs++A.drop (o+q)).take n=(A.take n).take o++vs++(A.take n).drop (o+q):=by
 have hl:(A.take o++vs).length=o+q:=by simp;omega
 rw [List.take_append,hl,List.take_of_length_le (by omega),List.drop_take,List.take_take,Nat.min_eq_left (by omega)]
theorem cells_write {M:Mp}{H:Heap}{nx:Nat}{w:World}(r:Rep M H nx w){b g m o:Nat}{cs l:List CV}{arr:Array Value}{T:TypeId}{vs:List Value}(hb:H b=some (.cells cs))(hm:M.bk b=some (g,m))(ha:w.heap[g]?=some (.cells arr T (0,0)))
  (hs:arr.size=m) (hr:RVs M cs (arr.toList.take cs.length)) (hv:RVs M l vs) (hle:o+l.length≤cs.length) :
  Rep M (upd H b (.cells (cs.take o++l++cs.drop (o+l.length)))) nx (w.setRow g (arr.toList.take o++vs++arr.toList.drop (o+vs.length)).toArray) ∧
  Fr H M nx w (upd H b (.cells (cs.take o++l++cs.drop (o+l.length)))) M nx (w.setRow g (arr.toList.take o++vs++arr.toList.drop (o+vs.length)).toArray):=by
 have hvl:vs.length=l.length:=hv.1;have hcl:cs.length≤arr.size:=by have:=hr.1;simp at this;omega
 refine r.write b _ _ g m hb hm (setRow_size _ _ _) (fun x hx=>setRow_other w g x _ hx) rfl rfl rfl ⟨_,T,setRow_heap w g arr _ T _ ha,?_,?_⟩
 ·simp;omega
 ·have hlen:(cs.take o++l++cs.drop (o+l.length)).length=cs.length:=by simp;omega
  rw [hlen,hvl];rw [seg_take arr.toList vs o l.length cs.length (by simp;omega) hvl hle];exact ((hr.take o).append hv).append (hr.drop _)
def storeA (P:Program)(H:Heap)(t:TypeId)(a x:CV):Option (CV×Dl):=match a with
 | .ptr b o=>match H b with
   | some (.cells cs)=>match ti P t with
     | some i=>match x.cs with
       | some l=>match Nat.beq l.length i.size && l.all CV.one && Nat.ble (o+l.length) cs.length with
         | true=>some (.any,.set b (.cells (cs.take o++l++cs.drop (o+l.length))))
         | false=>none
       | none=>none
     | none=>none
   | _=>none
 | _=>none
theorem storeA_sound {P:Program}{H:Heap}{M:Mp}{nx:Nat}{w:World}{t:TypeId}{a x c:CV}{d:Dl}{av xv:Value}(h:storeA P H t a x=some (c,d))(r:Rep M H nx w)(ha:RV M a av)(hx:RV M x xv) :
  EOk P H M nx w (do Instr.storeAt t av xv;pure .skip) c d:=by
 unfold storeA at h;split at h
 case h_2=>cases h
 rename_i b o;split at h
 case h_2=>cases h
 rename_i cs hb;split at h
 case h_2=>cases h
 rename_i i hti;split at h
 case h_2=>cases h
 rename_i l hl;split at h
 case h_2=>cases h
 rename_i hc;cases h;simp only [Bool.and_eq_true] at hc;have h1:=beq_eq hc.1.1;have h2:=hc.1.2;have h3:=Nat.le_of_ble_eq_true hc.2;cases ha with
 | ptr _ _ g m hm =>
   obtain⟨g',m',hm',arr,T,hw,hs,hr⟩:=r.blk b _ hb;rw [hm] at hm';cases hm';have hv:=hx.cs hl;have hcl:cs.length≤arr.size:=by have:=hr.1;simp at this;omega
   have hvl:xv.cells.toList.length=l.length:=hv.1;have hst:=run_storeCells_at P g o T xv.cells.toList 0 arr w hw (by omega) (fun v hv'=>oneV_oneCell (hv.oneV h2 v hv'));obtain⟨r',f'⟩:=cells_write r hb hm hw hs hr hv h3;refine⟨M,_,.inr ⟨?_,rfl⟩,r',f'⟩;have hsz:xv.cells.size=i.size:=by simp at hvl;omega
   simp only [Instr.storeAt,Instr.sureAddr,storeVar,Sem.run_bind,Sem.run_pure,Result.andThen_ok,ti_size hti,hsz,ne_eq,not_true_eq_false,if_false];rw [hst];simp
/-! sources of append and copy -/
def srcA (H:Heap)(size:Nat)(x:CV):Option (Nat×List CV):=match x with
 | .nils=>some (0,[])
 | .lst rows=>match rows.all (fun r=>Nat.beq r.length size) with
   | true=>some (rows.length,rows.flatten)
   | false=>none
 | .sl b o n k=>match H b with
   | some (.cells cs)=>match Nat.beq k size && Nat.ble (o+n*k) cs.length with
     | true=>some (n,(cs.drop o).take (n*k))
     | false=>none
   | _=>none
 | .str l=>match Nat.beq size 1 with
   | true=>some (l.length,l.map fun b=>.int .u8 b.toNat)
   | false=>none
 | _=>none
theorem flat_rvs {M:Mp}{arr:Array Value}{k:Nat}:∀ {rows:List (List CV)} {o:Nat},(∀ r∈rows,r.length=k)→o+rows.length*k≤arr.size →
  (∀ i (a:i<rows.length) j (b:j<rows[i].length) (d:o+i*k+j<arr.size),RV M rows[i][j] arr[o+i*k+j])→RVs M rows.flatten ((arr.toList.drop o).take (rows.length*k))
 | [],o,_,_,_=>by simpa using RVs.nil
 | r::rows,o,hk,hl,hr=>by
   have hrk:r.length=k:=hk r (by simp);have hmul:(rows.length+1)*k=k+rows.length*k:=by rw [Nat.add_mul];omega
   simp only [List.length_cons] at hl ⊢;rw [hmul] at hl ⊢;rw [List.take_add,List.flatten_cons];refine RVs.append ⟨by simp;omega,fun j a b=>?_⟩ ?_
   ·have:=hr 0 (by simp) j (by simpa using a) (by simp;omega);simpa using this
   ·rw [List.drop_drop];refine flat_rvs (fun r' hm=>hk r' (by simp [hm])) (by omega) (fun i a j b d=>?_);have h2:o+(i+1)*k+j=o+k+i*k+j:=by rw [Nat.add_mul];omega
    have:=hr (i+1) (by simpa using a) j (by simpa using b) (by omega);simpa [h2] using this
theorem run_fc {P:Program}{w:World}{g o n k c:Nat}{arr:Array Value}{T:TypeId}{fr:Nat×Nat}(h:w.heap[g]?=some (.cells arr T fr))(hl:o+n*k≤arr.size) :
  (Builtin.firstCells k n (.slice (some ⟨g,o,none⟩) n c)).run P w=.ok ((arr.toList.drop o).take (n*k)).toArray w :=
 run_firstCells_some w k n ⟨g,o,none⟩ n c _ (by simp;omega) (fun j v hj=>by
  rw [cell_at h];rw [List.getElem?_take] at hj;split at hj
  ·simpa using hj
  ·cases hj)
theorem srcA_sound {P:Program}{H:Heap}{M:Mp}{nx:Nat}{w:World}{size:Nat}{x:CV}{v:Value}{m:Nat}{cs:List CV}(h:srcA H size x=some (m,cs))(r:Rep M H nx w)(hx:RV M x v) :
  ∃ news:List Value,news.length=m*size∧RVs M cs news∧∀ w',w'.heap=w.heap→(Builtin.lenOf v).run P w'=.ok m w'∧(Builtin.firstCells size m v).run P w'=.ok news.toArray w':=by
 unfold srcA at h;split at h
 ·cases h;cases hx;exact⟨[],by simp,.nil,fun w' _=>⟨by simp [Builtin.lenOf],by simp [Builtin.firstCells]⟩⟩
 ·rename_i rows;split at h
  case h_2=>cases h
  rename_i hall;cases h;cases hx with
  | lst0 a c=>exact⟨[],by simp,.nil,fun w' _=>⟨by simp [Builtin.lenOf],by cases a <;> simp [Builtin.firstCells,loadCells,loadCellsFrom]⟩⟩
  | lst _ g o n k c arr T fr hg hn hc hk hl hr =>
    subst hn
    by_cases he:rows=[]
    ·subst he;exact⟨[],by simp,.nil,fun w' _=>⟨by simp [Builtin.lenOf],by simp [Builtin.firstCells,loadCells,loadCellsFrom]⟩⟩
    ·have hks:k=size:=by
      obtain⟨r0,hr0⟩:=List.exists_mem_of_ne_nil _ he;rw [← beq_eq (List.all_eq_true.mp hall r0 hr0)];exact (hk r0 hr0).symm
     subst hks;refine⟨_,by simp;omega,flat_rvs hk hl hr,fun w' hw=>⟨by simp [Builtin.lenOf],run_fc (by rw [hw];exact r.fz g _ hg) hl⟩⟩
 ·rename_i b o n k;split at h
  case h_2=>cases h
  rename_i ds hb;split at h
  case h_2=>cases h
  rename_i hc;cases h;simp only [Bool.and_eq_true] at hc;have h1:=beq_eq hc.1;have h2:=Nat.le_of_ble_eq_true hc.2;subst h1;cases hx with
  | sl _ _ _ _ g m' c hm hn hm' =>
    obtain⟨g',m'',hm'',arr,T,ha,hs,hr⟩:=r.blk b _ hb;rw [hm] at hm'';cases hm'';have hlen:ds.length≤arr.size:=by have:=hr.1;simp at this;omega
    refine⟨(arr.toList.drop o).take (m*k),by simp;omega,?_,fun w' hw=>⟨by simp [Builtin.lenOf],run_fc (by rw [hw];exact ha) (by omega)⟩⟩;have:=(hr.drop o).take (m*k);rw [List.drop_take,List.take_take,Nat.min_eq_left (by omega)] at this;exact this
 ·rename_i l;split at h
  case h_2=>cases h
  rename_i hc;have h1:=beq_eq hc;subst h1;cases h;cases hx with
  | str _ s hs =>
    subst hs;refine⟨s.data.toList.map fun b=>.int .u8 b.toNat,by simp,⟨by simp,fun j a b=>?_⟩,fun w' _=>⟨by simp [Builtin.lenOf,data_len],?_⟩⟩
    ·simp only [List.getElem_map];exact .int _ _
    ·simp only [Builtin.firstCells,Sem.run_pure]
     congr 1
     apply Array.ext';rw [Array.toList_map,Lib.extract_data];simp only [List.drop_zero,Nat.sub_zero,List.take_length]
 ·cases h
def srcD:TypeDesc→Bool
 | .slice _=>true
 | .string=>true
 | _=>false
theorem srcD_cases {d:TypeDesc}(h:srcD d=true):(∃ e,d=.slice e)∨d=.string:=by
 cases d <;> first | exact .inl ⟨_,rfl⟩ | exact .inr rfl | (simp [srcD] at h)
theorem run_app_room {P:Program}{w:World}{t t' ty e:TypeId}{i:TI}{d':TypeDesc}{g n cap m:Nat}{cur:Array Value}{T:TypeId}{x:Value}{news:List Value}(ht:P.underlying t=some (.slice e))(ht':P.underlying t'=some d')(hd:srcD d'=true)
  (hi:ti P e=some i) (hl:(Builtin.lenOf x).run P w=.ok m w) (hf:(Builtin.firstCells i.size m x).run P w=.ok news.toArray w) (hg:w.heap[g]?=some (.cells cur T (0,0))) (h1:∀ u∈news,u.oneCell'=true)
  (hroom:n+m≤cap) (hfit:n*i.size+news.length≤cur.size) :
  (Builtin.append_ #[t,t'] ty #[.slice (some ⟨g,0,none⟩) n cap,x]).run P w =
   .ok (.slice (some ⟨g,0,none⟩) (n+m) cap) (w.setRow g (cur.toList.take (n*i.size)++news++cur.toList.drop (n*i.size+news.length)).toArray):=by
 have hst:=run_storeCells_at P g (n*i.size) T news 0 cur w hg (by simpa using hfit) h1;simp only [Nat.add_zero] at hst;rcases srcD_cases hd with⟨e',rfl⟩ | rfl
 ·simp [Builtin.append_,run_underlying ht,run_underlying ht',ti_size hi,hl,hroom,hf,addr_add,hst]
 ·simp [Builtin.append_,run_underlying ht,run_underlying ht',ti_size hi,hl,hroom,hf,addr_add,hst]
theorem run_app_grow {P:Program}{w:World}{t t' ty e:TypeId}{i:TI}{d':TypeDesc}{n cap m:Nat}{x:Value}{base:Option Addr}{olds news:List Value}(ht:P.underlying t=some (.slice e))(ht':P.underlying t'=some d')(hd:srcD d'=true)
  (hi:ti P e=some i) (hl:(Builtin.lenOf x).run P w=.ok m w) (hf:(Builtin.firstCells i.size m x).run P w.drew=.ok news.toArray w.drew) (ho:(Builtin.firstCells i.size n (.slice base n cap)).run P w.drew=.ok olds.toArray w.drew)
  (hg:cap<n+m) (h63:n+m≤9223372036854775807) (hfit:(n+m)*i.bytes≤140737488355328) :
  (Builtin.append_ #[t,t'] ty #[.slice base n cap,x]).run P w =
   .ok (.slice (some ⟨w.heap.size,0,none⟩) (n+m) (grownCap w (n+m) cap e)) (w.drew.alloc (.cells (olds.toArray++news.toArray++Builtin.zeroCells i.zero.cells (grownCap w (n+m) cap e-(n+m))) e)):=by
 have hn:¬ (n+m≤cap):=by omega
 have h63':¬ (9223372036854775807<((n:Int)+(m:Int))):=by omega
 have h48:=growslice_fits hg hfit;have h48':¬ (281474976710656<Builtin.nextslicecap (n+m) cap*i.bytes):=by omega
 obtain⟨_,f,hf',_,hz,hby⟩:=ti_spec hi;rcases srcD_cases hd with⟨e',rfl⟩ | rfl
 ·simp [Builtin.append_,run_underlying ht,run_underlying ht',ti_size hi,hl,hn,h63',h48',typeInfo,hf',hby,Question.forced,hf,ho,newRow,grownCap,ti_zero hi]
  congr 2
  apply Array.ext';simp [List.append_assoc]
 ·simp [Builtin.append_,run_underlying ht,run_underlying ht',ti_size hi,hl,hn,h63',h48',typeInfo,hf',hby,Question.forced,hf,ho,newRow,grownCap,ti_zero hi]
  congr 2
  apply Array.ext';simp [List.append_assoc]
theorem grow_ok {M:Mp}{H H1:Heap}{nx:Nat}{w:World}(r:Rep M H nx w)(s:Sub H1 H)(vs:List Value)(rest:Array Value)(T:TypeId)(l:List CV)(hl:RVs M l vs) :
  Rep (updM M nx (w.heap.size,(vs.toArray++rest).size)) (upd H1 nx (.cells l)) (nx+1) (w.drew.alloc (.cells (vs.toArray++rest) T)) ∧
  Fr H M nx w (upd H1 nx (.cells l)) (updM M nx (w.heap.size,(vs.toArray++rest).size)) (nx+1) (w.drew.alloc (.cells (vs.toArray++rest) T)):=by
 have hfree:M.bk nx=none:=r.fresh nx (Nat.le_refl _);have hobj:(vs.toArray++rest).toList.take l.length=vs:=by
  have:l.length=vs.length:=hl.1.symm;rw [this];simp
 have hRB:RB (updM M nx (w.heap.size,(vs.toArray++rest).size)) (w.drew.alloc (.cells (vs.toArray++rest) T)) w.heap.size (vs.toArray++rest).size (.cells l) :=
  ⟨_,T,by show (w.heap.push _)[w.heap.size]?=_;simp,rfl,by rw [hobj];exact hl.ext (Ext.updM hfree)⟩
 exact⟨(r.weak s).new nx (.cells l) _ (.cells (vs.toArray++rest) T) hfree (Nat.le_succ nx) (Nat.lt_succ_self nx) rfl hRB,Fr.new nx (.cells l) _ (.cells (vs.toArray++rest) T) hfree (Nat.le_refl _) (Nat.le_succ nx) s rfl rfl rfl rfl⟩
def appA (P:Program)(H:Heap)(nx:Nat)(t t':TypeId)(s x:CV):Option (CV×Dl):=match ti P t with
 | some ⟨.slice e,_,_,_⟩=>match ti P e with
   | some i=>match ti P t' with
     | some j=>match srcD j.und && Nat.blt 0 i.size && Nat.beq i.zero.cells.size i.size with
       | false=>none
       | true=>match srcA H i.size x with
         | some (m,l)=>match l.all CV.one with
           | true=>match s with
             | .nils=>match Nat.beq m 0 with
               | true=>some (.nils,.no)
               | false=>match Nat.ble m 9223372036854775807 && Nat.ble (m*i.bytes) 140737488355328 with
                 | true=>some (.sl nx 0 m i.size,.nw (.cells l))
                 | false=>none
             | .sl b o n k=>match H b with
               | some (.cells cs)=>match Nat.beq o 0 && Nat.beq k i.size && Nat.ble (n*k) cs.length && Nat.ble (n+m) 9223372036854775807 && Nat.ble ((n+m)*i.bytes) 140737488355328 with
                 | true=>some (.sl nx 0 (n+m) k,.mv b (.cells (cs.take (n*k)++l)))
                 | false=>none
               | _=>none
             | _=>none
           | false=>none
         | none=>none
     | none=>none
   | none=>none
 | _=>none
theorem appA_sound {P:Program}{H:Heap}{M:Mp}{nx:Nat}{w:World}{t t' ty:TypeId}{s x c:CV}{d:Dl}{sv xv:Value}(h:appA P H nx t t' s x=some (c,d))(r:Rep M H nx w)(hs:RV M s sv)(hx:RV M x xv) :
  EOk P H M nx w (do pure (.value (← Builtin.append_ #[t,t'] ty #[sv,xv]))) c d:=by
 unfold appA at h;split at h
 case h_2=>cases h
 rename_i e _ _ _ ht;split at h
 case h_2=>cases h
 rename_i i hi;split at h
 case h_2=>cases h
 rename_i j hj;split at h
 ·cases h
 rename_i hij;simp only [Bool.and_eq_true] at hij;have hsz:0<i.size:=blt_lt hij.1.2;have hzs:=beq_eq hij.2;split at h
 case h_2=>cases h
 rename_i m l hsrc;split at h
 case h_2=>cases h
 rename_i hone;obtain⟨news,hnl,hnr,hrun⟩:=srcA_sound (P:=P) hsrc r hx;have h1:∀ u∈news,u.oneCell'=true:=fun u hu=>oneV_oneCell (hnr.oneV hone u hu)
 obtain⟨hu,f,hf,hfs,hfz,hfb⟩:=ti_spec hi;have hzl:∀ q,(Builtin.zeroCells i.zero.cells q).size=q*i.zero.cells.size:=fun q=>by simp [Builtin.zeroCells]
 have hll:l.length=m*i.size:=by rw [← hnl];exact hnr.1.symm
 have hfree:M.bk nx=none:=r.fresh nx (Nat.le_refl _);split at h
 ·split at h
  ·rename_i hm;have hm':=beq_eq hm;subst hm';cases h;cases hs;have:news=[]:=List.eq_nil_of_length_eq_zero (by simpa using hnl);subst this;refine⟨M,w,.inl ⟨.slice none 0 0,?_,.nils⟩,r,.refl _ _ _ _⟩;have e1:=(hrun w rfl).1;have e2:=(hrun w rfl).2;have hu':=(ti_spec hj).1;rcases srcD_cases hij.1.1 with⟨e',hju⟩ | hju
   ·rw [hju] at hu';simp [Builtin.append_,run_underlying (ti_spec ht).1,run_underlying hu',ti_size hi,e1,e2]
   ·rw [hju] at hu';simp [Builtin.append_,run_underlying (ti_spec ht).1,run_underlying hu',ti_size hi,e1,e2]
  ·rename_i hm;split at h
   case h_2=>cases h
   rename_i hb;cases h;simp only [Bool.and_eq_true] at hb;have hb1:=Nat.le_of_ble_eq_true hb.1;have hb2:=Nat.le_of_ble_eq_true hb.2;have hm0:m≠0:=fun e=>by rw [e] at hm;simp at hm
   cases hs;have hr:=run_app_grow (P:=P) (w:=w) (ty:=ty) (n:=0) (cap:=0) (base:=none) (olds:=[]) (ti_spec ht).1 (ti_spec hj).1 hij.1.1 hi (hrun w rfl).1 (hrun w.drew rfl).2 (by simp [Builtin.firstCells]) (by omega) (by omega) (by simpa using hb2);simp only [Nat.zero_add,List.append_toArray,List.nil_append] at hr;have hge:=grownCap_ge w m 0 e;obtain⟨hrep,hfr⟩:=grow_ok r (Sub.refl H) news (Builtin.zeroCells i.zero.cells (grownCap w m 0 e-m)) e l hnr;refine⟨_,_,.inl ⟨_,by rw [Sem.run_bind,hr];rfl,?_⟩,hrep,hfr⟩;refine .sl _ _ _ _ _ _ _ (updM_hit _ _ _) hge ?_;simp only [Array.size_append,List.size_toArray,hzl,hzs,hnl,← Nat.add_mul];rw [Nat.zero_add];exact Nat.mul_le_mul_right _ (by omega)
 ·rename_i b o n k;split at h
  case h_2=>cases h
  rename_i cs hb;split at h
  case h_2=>cases h
  rename_i hc;cases h;simp only [Bool.and_eq_true] at hc;have c1:=beq_eq hc.1.1.1.1;have c2:=beq_eq hc.1.1.1.2;have c3:=Nat.le_of_ble_eq_true hc.1.1.2;have c4:=Nat.le_of_ble_eq_true hc.1.2;have c5:=Nat.le_of_ble_eq_true hc.2;subst c1;subst c2;cases hs with
  | sl _ _ _ _ g q cap hm hn hm' =>
    obtain⟨g',q',hm'',arr,T,ha,hsq,hr⟩:=r.blk b _ hb;rw [hm] at hm'';cases hm'';have hlen:cs.length≤arr.size:=by have:=hr.1;simp at this;omega
    have holds:RVs M (cs.take (n*i.size)) (arr.toList.take (n*i.size)):=by
     have:=hr.take (n*i.size);rw [List.take_take,Nat.min_eq_left c3] at this;exact this
    by_cases hroom:n+m≤cap
    ·have hcap:(n+m)*i.size≤cap*i.size:=Nat.mul_le_mul_right _ hroom;rw [Nat.add_mul] at hcap;have hrn:=run_app_room (P:=P) (w:=w) (ty:=ty) (ti_spec ht).1 (ti_spec hj).1 hij.1.1 hi (hrun w rfl).1 (hrun w rfl).2 ha h1 hroom (by omega);obtain⟨r1,f1⟩:=r.move b _ g q hb hm;have he:=f1.ext;obtain⟨r2,f2⟩:=r1.write nx _ (.cells (cs.take (n*i.size)++l)) g q (upd_hit _ _ _) (updM_hit _ _ _) (w':=w.setRow g (arr.toList.take (n*i.size)++news++arr.toList.drop (n*i.size+news.length)).toArray) (setRow_size _ _ _) (fun x hx=>setRow_other w g x _ hx) rfl rfl rfl
      ⟨_,T,setRow_heap w g arr _ T _ ha,by simp;omega,by
       have e2:(cs.take (n*i.size)++l).length=n*i.size+news.length:=by simp;omega
       rw [e2];have e3:(arr.toList.take (n*i.size)++news++arr.toList.drop (n*i.size+news.length)).take (n*i.size+news.length)=arr.toList.take (n*i.size)++news:=by
        have:(arr.toList.take (n*i.size)++news).length=n*i.size+news.length:=by simp;omega
        rw [← this];exact List.take_left
       simp only [e3];exact (holds.append hnr).ext he⟩
     have hupd:upd (upd (drp H b) nx (.cells cs)) nx (.cells (cs.take (n*i.size)++l))=upd (drp H b) nx (.cells (cs.take (n*i.size)++l)):=by
      funext y;unfold upd;split <;> rfl
     rw [hupd] at r2 f2;refine⟨_,_,.inl ⟨_,by rw [Sem.run_bind,hrn];rfl,?_⟩,r2,f1.trans f2⟩;exact .sl _ _ _ _ _ _ _ (updM_hit _ _ _) hroom hm'
    ·have hro:(Builtin.firstCells i.size n (.slice (some ⟨g,0,none⟩) n cap)).run P w.drew=.ok (arr.toList.take (n*i.size)).toArray w.drew:=by
      have:=run_fc (P:=P) (w:=w.drew) (g:=g) (o:=0) (n:=n) (k:=i.size) (c:=cap) (show w.drew.heap[g]?=some (.cells arr T (0,0)) from ha) (by omega);simpa using this
     have hrn:=run_app_grow (P:=P) (w:=w) (ty:=ty) (ti_spec ht).1 (ti_spec hj).1 hij.1.1 hi (hrun w rfl).1 (hrun w.drew rfl).2 hro (by omega) c4 c5;have hge:=grownCap_ge w (n+m) cap e;obtain⟨hrep,hfr⟩:=grow_ok r (Sub.drp H b) (arr.toList.take (n*i.size)++news) (Builtin.zeroCells i.zero.cells (grownCap w (n+m) cap e-(n+m))) e _ (holds.append hnr);simp only [List.append_toArray] at hrn;refine⟨_,_,.inl ⟨_,by rw [Sem.run_bind,hrn];rfl,?_⟩,hrep,hfr⟩;refine .sl _ _ _ _ _ _ _ (updM_hit _ _ _) hge ?_;have e4:(arr.toList.take (n*i.size)).length=n*i.size:=by simp;omega
     simp only [Array.size_append,List.size_toArray,List.length_append,e4,hzl,hzs,hnl,← Nat.add_mul];rw [Nat.zero_add];exact Nat.mul_le_mul_right _ (by omega)
 ·cases h
end Ax
end
section
namespace Ax
def mupA (P:Program)(H:Heap)(t:TypeId)(m k v:CV):Option (CV×Dl):=match ti P t with
 | some ⟨.map kt _,_,_,_⟩=>match ti P kt with
   | some ik=>match m with
     | .mp b=>match H b with
       | some (.map ks vs)=>match keyD ik.und k with
         | true=>match findK ik.und k ks 0 with
           | some (some q)=>some (.any,.set b (.map (ks.set q k) (vs.set q v)))
           | some none=>some (.any,.set b (.map (ks++[k]) (vs++[v])))
           | none=>none
         | false=>none
       | _=>none
     | _=>none
   | none=>none
 | _=>none
theorem sameNow_bits {d:TypeDesc}{a b:Value}(h:Instr.sameNow d a b=some true):Instr.sameBits 10000 b a=true:=by
 unfold Instr.sameNow at h;split at h
 ·split at h
  ·rename_i e;subst e;have:∀ x y:Int,(some (x == y)=some true)→x=y:=by intro x y h;simpa using h
   have e:=this _ _ h;subst e;simp [Instr.sameBits]
  ·cases h
 ·have e:∀ x y:ByteArray,(some (x == y)=some true)→(y == x)=true:=by
   intro x y h;have h1:(x == y)=true:=by simpa using h
   rw [bytes_beq_data] at h1 ⊢;simp at h1 ⊢;exact h1.symm
  simpa [Instr.sameBits] using e _ _ h
 ·have:∀ x y:Bool,(some (x == y)=some true)→x=y:=by intro x y h;simpa using h
  have e:=this _ _ h;subst e;simp [Instr.sameBits]
 ·cases h
theorem mupA_sound {P:Program}{H:Heap}{M:Mp}{nx:Nat}{w:World}{t:TypeId}{m k v c:CV}{d:Dl}{mv kv vv:Value}(h:mupA P H t m k v=some (c,d))(r:Rep M H nx w)(hm:RV M m mv)(hk:RV M k kv)(hv:RV M v vv) :
  EOk P H M nx w (do Instr.mapUpdate t mv kv vv;pure .skip) c d:=by
 unfold mupA at h;split at h
 case h_2=>cases h
 rename_i kt et _ _ _ ht;split at h
 case h_2=>cases h
 rename_i ik hik;split at h
 case h_2=>cases h
 rename_i b;split at h
 case h_2=>cases h
 rename_i ks vs hb;split at h
 case h_2=>cases h
 rename_i hkd;cases hm with
 | mp _ g q hg =>
   obtain⟨g',q',hg',en,clock,ha,hks,hvs⟩:=r.blk b _ hb;rw [hg] at hg';cases hg';have hck:=keyD_check (w:=w) hik hkd hk false 9999;have hlt:g<w.heap.size:=(Array.getElem?_eq_some_iff.1 ha).1;have wr:∀ (en':Array MapEntry) (clock':Nat) (ks' vs':List CV),RVs M ks' (en'.toList.map (·.key))→RVs M vs' (en'.toList.map (·.val)) →
     Rep M (upd H b (.map ks' vs')) nx { w with heap:=w.heap.setIfInBounds g (.map en' clock') }∧Fr H M nx w (upd H b (.map ks' vs')) M nx { w with heap:=w.heap.setIfInBounds g (.map en' clock') }:=by
    intro en' clock' ks' vs' h1 h2;exact r.write b _ _ g q hb hg (by simp) (fun x hx=>by simp [Ne.symm hx]) rfl rfl rfl ⟨en',clock',by simp [hlt],h1,h2⟩
   split at h
   ·rename_i j hj;cases h;obtain⟨_,e,he,hf,hsn⟩:=findK_sound hk hj hks;simp only [Nat.sub_zero] at he;have hea:en[j]?=some e:=by rw [← Array.getElem?_toList];exact he
    have hst:(Instr.keyThatStays e.key kv).run P w=.ok kv w:=by simp [Instr.keyThatStays,sameNow_bits hsn]
    have hmod:(en.modify j fun x=>{ x with key:=kv,val:=vv }).toList=en.toList.set j { e with key:=kv,val:=vv }:=by
     rw [Array.toList_modify];obtain⟨hjl,hje⟩:=List.getElem?_eq_some_iff.mp he;apply List.ext_getElem?;intro i;rw [List.getElem?_modify,List.getElem?_set]
     by_cases hij:j=i
     ·subst hij;simp [hjl,hje,he];simpa using hjl
     ·simp [hij]
    obtain⟨r',f'⟩:=wr (en.modify j fun x=>{ x with key:=kv,val:=vv }) clock (ks.set j k) (vs.set j v)
     (by rw [hmod,List.map_set];exact hks.set j hk) (by rw [hmod,List.map_set];exact hvs.set j hv)
    refine⟨M,_,.inr ⟨?_,rfl⟩,r',f'⟩;simp [Instr.mapUpdate,ti_und ht,MapKept.run_getObj_map ha,hck,Instr.findKey,ti_und hik,hf,hea,hst,MapKept.run_setObj_map _ ha]
   ·rename_i hj;cases h;have hf:=findK_sound hk hj hks;simp only at hf;obtain⟨r',f'⟩:=wr (en.push { key:=kv,val:=vv,born:=clock }) (clock+1) (ks++[k]) (vs++[v])
     (by simp only [Array.toList_push,List.map_append,List.map_cons,List.map_nil];exact hks.append (.one hk)) (by simp only [Array.toList_push,List.map_append,List.map_cons,List.map_nil];exact hvs.append (.one hv))
    refine⟨M,_,.inr ⟨?_,rfl⟩,r',f'⟩;simp [Instr.mapUpdate,ti_und ht,MapKept.run_getObj_map ha,hck,Instr.findKey,ti_und hik,hf,MapKept.run_setObj_map _ ha]
   ·cases h
/-! the next letter of a string that is ranged over -/
def nextA (H:Heap)(x:CV)(str:Bool):Option (CV×Dl):=match str with
 | false=>none
 | true=>match x with
   | .ptr b 0=>match H b with
     | some (.iter l p)=>match l[p]? with
       | none=>some (.tup [.bool false],.no)
       | some c=>match Nat.ble c.toNat 127 with
         | true=>some (.tup [.bool true,.int .i64 p,.int .i32 c.toNat],.set b (.iter l (p+1)))
         | false=>none
     | _=>none
   | _=>none
theorem nextA_sound {P:Program}{H:Heap}{x:CV}{str:Bool}{c:CV}{d:Dl}{M:Mp}{nx:Nat}{w:World}{v:Value}{ty:TypeId}(h:nextA H x str=some (c,d))(r:Rep M H nx w)(hx:RV M x v) :
  EOk P H M nx w (do pure (.value (← Instr.next v str ty))) c d:=by
 unfold nextA at h;split at h
 ·cases h
 split at h
 case h_2=>cases h
 rename_i b;split at h
 case h_2=>cases h
 rename_i l p hb;cases hx with
 | ptr _ _ g m hg =>
 obtain⟨g',m',hg',s,ha,hs⟩:=r.blk b _ hb;rw [hg] at hg';cases hg';have hlt:g<w.heap.size:=(Array.getElem?_eq_some_iff.1 ha).1;have hsz:s.size=l.length:=by rw [← hs,Array.length_toList];rfl
 split at h
 ·rename_i hp;cases h;have hp':¬ p<s.size:=by rw [hsz];simpa using hp
  refine⟨M,w,.inl ⟨.tuple #[.bool false],?_,.tup _ [.bool false] rfl (fun j a e=>?_)⟩,r,.refl _ _ _ _⟩
  ·simp [Instr.next,getObj,Sem.run,ha,hp']
  ·have:j=0:=by simpa using a
   subst this;exact .bool _
 ·rename_i ch hp;split at h
  case h_2=>cases h
  rename_i hle;cases h;obtain⟨hpl,hpe⟩:=List.getElem?_eq_some_iff.mp hp;have hp':p<s.size:=by omega
  have hce:s[p]'hp'=ch:=by
   rw [← hpe];subst hs;simp;rfl
  have hd:Utf8.decode s p=(ch.toNat,1):=by
   rw [← hce];exact decode_ascii s p hp' (by rw [hce];have:=Nat.le_of_ble_eq_true hle;omega)
  obtain⟨r',f'⟩:=r.write (w':={ w with heap:=w.heap.setIfInBounds g (.stringIter s (p+1)) }) b _ (.iter l (p+1)) g m hb hg (by simp) (fun x hx=>by simp [Ne.symm hx]) rfl rfl rfl ⟨s,by simp [hlt],hs⟩;refine⟨M,_,.inl ⟨.tuple #[.bool true,.int .i64 p,.int .i32 ch.toNat],?_,.tup _ [.bool true,.int .i64 p,.int .i32 ch.toNat] rfl (fun j a e=>?_)⟩,r',f'⟩
  ·simp [Instr.next,getObj,setObj,Sem.run,ha,hp',hd,goInt]
  ·have:j=0∨j=1∨j=2:=by simp at a;omega
   rcases this with rfl | rfl | rfl
   ·exact .bool _
   ·exact .int _ _
   ·exact .int _ _
/-! copy (of no more rows than there is room for) -/
def copyA (P:Program)(H:Heap)(t:TypeId)(a x:CV):Option (CV×Dl):=match ti P t with
 | some ⟨.slice e,_,_,_⟩=>match ti P e with
   | some i=>match srcA H i.size x with
     | some (m,l)=>match l.all CV.one with
       | true=>match a with
         | .sl b o n k=>match H b with
           | some (.cells cs)=>match Nat.ble m n && Nat.ble (o+l.length) cs.length with
             | true=>some (.int .i64 m,.set b (.cells (cs.take o++l++cs.drop (o+l.length))))
             | false=>none
           | _=>none
         | _=>none
       | false=>none
     | none=>none
   | none=>none
 | _=>none
theorem copyA_sound {P:Program}{H:Heap}{M:Mp}{nx:Nat}{w:World}{t t' ty:TypeId}{a x c:CV}{d:Dl}{av xv:Value}(h:copyA P H t a x=some (c,d))(r:Rep M H nx w)(ha:RV M a av)(hx:RV M x xv) :
  EOk P H M nx w (do pure (.value (← Builtin.copy_ #[t,t'] ty #[av,xv]))) c d:=by
 unfold copyA at h;split at h
 case h_2=>cases h
 rename_i e _ _ _ ht;split at h
 case h_2=>cases h
 rename_i i hti;split at h
 case h_2=>cases h
 rename_i q l hsrc;split at h
 case h_2=>cases h
 rename_i hone;split at h
 case h_2=>cases h
 rename_i b o n k;split at h
 case h_2=>cases h
 rename_i cs hb;split at h
 case h_2=>cases h
 rename_i hc;cases h;simp only [Bool.and_eq_true] at hc;have h1:=Nat.le_of_ble_eq_true hc.1;have h3:=Nat.le_of_ble_eq_true hc.2;obtain⟨news,hnl,hv,hrun⟩:=srcA_sound (P:=P) hsrc r hx;cases ha with
 | sl _ _ _ _ g m cc hm hn hmm =>
   obtain⟨g',m',hm',arr,T,hw,hs,hr⟩:=r.blk b _ hb;rw [hm] at hm';cases hm';have hcl:cs.length≤arr.size:=by have:=hr.1;simp at this;omega
   have hvl:news.length=l.length:=hv.1;have hst:=run_storeCells_at P g o T news 0 arr w hw (by omega) (fun v hv'=>oneV_oneCell (hv.oneV hone v hv'));obtain⟨r',f'⟩:=cells_write r hb hm hw hs hr hv h3;refine⟨M,_,.inl ⟨.int .i64 q,?_,.int _ _⟩,r',f'⟩;obtain⟨e1,e2⟩:=hrun w rfl;simp only [Builtin.copy_,List.getElem?_toArray,List.getElem?_cons_zero,List.getElem?_cons_succ,Sem.run_bind,ti_und ht,Result.andThen_ok,e1,Nat.min_def,if_pos h1,ti_size hti,e2];rw [hst];simp [goInt]
/-! one step that writes -/
def estep (P:Program)(H:Heap)(nx:Nat)(ρ:Operand→CV)(op:Op):Option (CV×Dl):=match op with
 | .store t a x=>storeA P H t (ρ a) (ρ x)
 | .mapUpdate t m k v=>mupA P H t (ρ m) (ρ k) (ρ v)
 | .insert t m k v=>mupA P H t (ρ m) (ρ k) (ρ v)
 | .next x str=>nextA H (ρ x) str
 | .call c=>match c.callee with
   | .builtin .append=>match c.argTypes.toList,c.args.toList with
     | [t,t'],[s,x]=>appA P H nx t t' (ρ s) (ρ x)
     | _,_=>none
   | .builtin .copy=>match c.argTypes.toList,c.args.toList with
     | [t,t'],[s,x]=>copyA P H t (ρ s) (ρ x)
     | _,_=>none
   | _=>none
 | _=>none
theorem estep_sound {P:Program}{H:Heap}{ρ:Operand→CV}{o:Oper}{c:CV}{d:Dl}{M:Mp}{nx:Nat}{w:World}{σ:Operand→Value}(h:estep P H nx ρ o.op=some (c,d))(r:Rep M H nx w)(hρ:∀ x∈o.op.operands,RV M (ρ x) (σ x)) :
  EOk P H M nx w (execOp σ o) c d:=by
 unfold estep at h;split at h
 ·rename_i t a x hop;have:=storeA_sound h r (hρ a (by simp [hop,Op.operands])) (hρ x (by simp [hop,Op.operands]));unfold execOp;rw [hop];exact this
 ·rename_i t m k v hop;have:=mupA_sound h r (hρ m (by simp [hop,Op.operands])) (hρ k (by simp [hop,Op.operands])) (hρ v (by simp [hop,Op.operands]));unfold execOp;rw [hop];exact this
 ·rename_i t m k v hop;have:=mupA_sound h r (hρ m (by simp [hop,Op.operands])) (hρ k (by simp [hop,Op.operands])) (hρ v (by simp [hop,Op.operands]));unfold execOp;rw [hop];exact this
 ·rename_i x str hop;have:=nextA_sound (P:=P) (ty:=o.type) h r (hρ x (by simp [hop,Op.operands]));unfold execOp;rw [hop];exact this
 ·rename_i cl hop;split at h
  ·rename_i hb;split at h
   ·rename_i t t' s x hts hxs;have ets:cl.argTypes=#[t,t']:=by apply Array.ext';simpa using hts
    have exs:cl.args=#[s,x]:=by apply Array.ext';simpa using hxs
    have:=appA_sound (ty:=o.type) h r (hρ s (by simp [hop,Op.operands,Call.operands,hb,exs])) (hρ x (by simp [hop,Op.operands,Call.operands,hb,exs]));have e:(execOp σ o).run P w=(do pure (.value (← Builtin.append_ #[t,t'] o.type #[σ s,σ x])):Sem Next).run P w:=by
     unfold execOp;rw [hop];simp only [resolve,hb,Sem.run_bind,Sem.run_pure,Result.andThen_ok,invoke,builtin,ets,exs,List.map_toArray,List.map_cons,List.map_nil]
    unfold EOk at this ⊢;rw [e];exact this
   ·cases h
  ·rename_i hb;split at h
   ·rename_i t t' s x hts hxs;have ets:cl.argTypes=#[t,t']:=by apply Array.ext';simpa using hts
    have exs:cl.args=#[s,x]:=by apply Array.ext';simpa using hxs
    have:=copyA_sound (P:=P) (t':=t') (ty:=o.type) h r (hρ s (by simp [hop,Op.operands,Call.operands,hb,exs])) (hρ x (by simp [hop,Op.operands,Call.operands,hb,exs]));have e:(execOp σ o).run P w=(do pure (.value (← Builtin.copy_ #[t,t'] o.type #[σ s,σ x])):Sem Next).run P w:=by
     unfold execOp;rw [hop];simp only [resolve,hb,Sem.run_bind,Sem.run_pure,Result.andThen_ok,invoke,builtin,ets,exs,List.map_toArray,List.map_cons,List.map_nil]
    unfold EOk at this ⊢;rw [e];exact this
   ·cases h
  ·cases h
 ·cases h
end Ax
end
end Go.Proofs.YtoookjadbhdfhaaDoor
