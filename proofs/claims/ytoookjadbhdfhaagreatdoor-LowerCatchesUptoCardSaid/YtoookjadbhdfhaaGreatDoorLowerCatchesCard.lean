/-
  LowerCatches: handlers lie behind the instructions that they handle and are entered only by exceptions; calls name existing classes and functions; the last instruction is a return outside all handlers: the law returns true for every input of bulk at most 1048576; the listed variables are tied to the program's text.
-/
import Derived.Test.YtoookjadbhdfhaaGreatDoorULowerCatchesLaw
import Derived.Test.YtoookjadbhdfhaaGreatDoorULwMet
import Derived.Test.YtoookjadbhdfhaaGreatDoorUJpAq
import Derived.Test.YtoookjadbhdfhaaGreatDoorUJpBb
import Derived.Test.YtoookjadbhdfhaaGreatDoorTie
import Derived.Test.YtoookjadbhdfhaaGreatDoorCards
import Derived.SevenTiedAt
import Derived.ShutString
import Derived.JoinedCond
import Derived.Deep.DeepHandedRow
namespace Go.Proofs.YtoookjadbhdfhaaGreatDoor
open Lx Go.RowKit
open Go.ChangeShapes Go.WideShapes Go.ChangeAt
theorem lowerCatches_own:ownKnob Tryz.prog.godebug=none:=by kernel_rfl
theorem lowerCatches_met (os:Os)(args:Array Value):laidMetH Tryz.prog Rows.lowerCatchesUptoRow.laid ((World.doorLaid Tryz.prog 29 os).forCall (fun _ _=>0) ⟨#[],args,[]⟩).memory :=
 laidMetH_of_parts3 (fuel:=8) (laidMet_of_run' 8 (by kernel_rfl) (by kernel_rfl)) (by kernel_rfl) (by kernel_rfl)
theorem lowerCatches_laid {W:World}(h:laidMetH Tryz.prog Rows.lowerCatchesUptoRow.laid W):LLaid W:=by
 rw [MakeChecks.laidMetH_plain _ _ _ (by kernel_rfl)] at h;refine LLaid.of_met h (KwIs.of_met h ?_) ?_ <;> (unfold Rows.lowerCatchesUptoRow;repeat (first | exact List.mem_cons_self | apply List.mem_cons_of_mem))
set_option maxRecDepth 100000 in
theorem lowerCatches_contract (H:Type)(enc:TypeId×Value→H)(W:World)(base:Nat)(args:Array Value)(ds gs:List (DataW H))(before:List MemPlace)
  (hval0:∀ (j:Nat) t v,Tryz.f4.params[j]?=some t→args[j]?=some v→Value.okWide Tryz.prog W .any base t v)
  (hW:DataW.Whole enc Tryz.prog Tryz.f4.params.toList Rows.lowerCatchesSpec.vars false W args.toList ds gs before) (hk:Rows.uptoSmall H (ds++gs)=true) (hL:laidMetH Tryz.prog Rows.lowerCatchesUptoRow.laid W) :
  Calls Tryz.prog 4 args W fun e W'=>∃ v,e=.returned v∧Rows.lowerCatchesSpec.post enc Tryz.prog Tryz.f4 false true false false W args v W':=by
 have hval:∀ (j:Nat) t v,Tryz.f4.params[j]?=some t→args[j]?=some v→Value.okWide Tryz.prog W .any base t v:=hval0;have hW':=hW;obtain⟨p,q,hA0,hV,rfl,hfz,hnd⟩:=hW;have hA:DataW.TrodAll enc Tryz.prog W 0 (fun _=>true) true Tryz.f4.params.toList args.toList ds p:=hA0;rw [Tryz.params4] at hA hval;obtain⟨v0,d0,rfl,rfl,h0⟩:=trodAll_one hA;obtain⟨a0,n0,c0,l0,k0,rfl,hl0,hz0,hb0⟩:=openB_so (hval 0 24 v0 rfl rfl) h0;obtain⟨rfl,rfl⟩:=trodVars_none hV;have hLaid:=lowerCatches_laid hL;have hs:Rows.uptoBulkAll [d0]≤1048576:=of_decide_eq_true hk;simp only [Rows.uptoBulkAll,Nat.add_zero] at hs;clear hA0 hval0 hk;simp only [List.append_nil] at hW';refine (law_LowerCatches k0 l0 a0 n0 c0 W hl0 hz0 (by omega) hLaid).mono fun e W' ⟨he,hb⟩=>?_
 subst he;exact⟨_,rfl,_,_,_,[],_,[],hW',trodAll_mk1 (shut_bool Tryz.underlying4 _),stays_all hb (by decide) hA,rfl,hb.frame _,fun h=>by cases h⟩
theorem lowerCatches_okB (os:Os):Input.okWideB Tryz.prog ((World.doorLaid Tryz.prog 29 os).forCall (fun _ _=>0) ⟨#[],#[.agg #[.slice none 0 0]],[]⟩) 4 ⟨#[],#[.agg #[.slice none 0 0]],[]⟩=true:=by kernel_rfl
theorem lowerCatches_reads (os:Os){H:Type}(enc:TypeId×Value→H):∃ places,DataW.whole enc Tryz.prog ((World.doorLaid Tryz.prog 29 os).forCall (fun _ _=>0) ⟨#[],#[.agg #[.slice none 0 0]],[]⟩).memory Tryz.f4.params.toList Rows.lowerCatchesSpec.vars false #[(.agg #[.slice none 0 0]:Value)].toList 8=some ([.agg [.nil]],[],places) :=
 ⟨[],by kernel_rfl⟩
set_option maxRecDepth 100000 in
theorem lowerCatches_lifted (os:Os)(started:os.Started)(H:Type)(enc:TypeId×Value→H)(F:Stop.Interp) :
  ReturnsInHanded {} Tryz.checked os 4 .any ((Rows.OpenSpec.upto Rows.lowerCatchesSpec).preRow enc Tryz.prog Tryz.f4 Rows.lowerCatchesUptoRow.domain false Rows.lowerCatchesUptoRow.laid) (((Rows.OpenSpec.upto Rows.lowerCatchesSpec).at F).post enc Tryz.prog Tryz.f4 false true false false):=by
 obtain⟨places,hx⟩:=lowerCatches_reads os enc;refine returnsInHanded_of_row (C:=Tryz.checked) (s:=Rows.OpenSpec.upto Rows.lowerCatchesSpec) lowerCatches_own started (by kernel_rfl) Tryz.func4
  ⟨World.doorLaid Tryz.prog 29 os,fun _ _=>0,⟨#[],#[.agg #[.slice none 0 0]],[]⟩,rfl,World.shaped_of_RefB (by kernel_rfl) (by kernel_rfl),(Input.okWide_of_okWideB (base:=0) (lowerCatches_okB os)).1,(Input.okWide_of_okWideB (lowerCatches_okB os)).2,
   OpenSpec.preRow_of_cond 8 hx (by kernel_rfl) (fun k hk=>by cases hk;kernel_rfl) (by kernel_rfl) (lowerCatches_met os _),by
    simp only [Assume.holds];exact⟨by simp,by simp,fun _=>Modest.zero,by simp,by simp⟩⟩ ?_
 intro W base args ds gs before hval hW _ hcond _ hL _ _;exact lowerCatches_contract H enc W base args ds gs before hval hW (hcond _ rfl) hL
theorem lowerCatches_holds:Rows.LowerCatchesUptoSaid :=
 OpenClaim.holds_of_cond 4 Tryz.f4 rfl rfl rfl rfl rfl rfl rfl ⟨rfl,rfl,rfl,rfl,rfl⟩ rfl rfl rfl rfl rfl (by kernel_rfl) Tryz.func4 (by kernel_rfl)
  (of_decide_eq_true (by kernel_rfl)) (by unfold Func.isWrapper;first | (rw [if_pos (by decide +kernel)];kernel_rfl) | (rw [if_neg (by decide +kernel)];exact⟨rfl,rfl⟩))
  (fun os started H enc _ F=>by rw [OpenClaim.pre_eq_preRow];exact lowerCatches_lifted os started H enc F)
theorem lowerCatches_card:Rows.LowerCatchesUptoCardSaid :=
 Claim7.holds_tied_plain_at .later [] [.data,.data,.data,.data] true Rows.lowerCatchesUptoCard.stood.harness true
  lowerCatches_holds (fun _ h=>by cases h) (by kernel_rfl) (fun _ h=>by cases h) lowerCatchesUpto_row_tie rfl ⟨rfl,rfl⟩ (by kernel_rfl) rfl
  (fun f fn hf hfn=>by
   obtain rfl:f=4:=Option.some.inj ((show Tryz.prog.funcNamed "dataflow/dataflowlaw12.LowerCatches"=some 4 by kernel_rfl).symm.trans hf) |>.symm
   obtain rfl:fn=Tryz.f4:=(Option.some.inj (Tryz.func4.symm.trans hfn)).symm;exact⟨by kernel_rfl,fun j t ht=>by
    rw [Tryz.params4] at ht;have hm:t∈[24]:=by simpa using Array.mem_of_getElem? ht
    have hall:([24].all fun u=>!Tryz.prog.wantsStandIn u)=true:=by kernel_rfl
    exact (show Tryz.prog.wantsStandIn t=false by simpa using List.all_eq_true.1 hall t hm)⟩)
  (by kernel_rfl)
#print axioms lowerCatches_card
end Go.Proofs.YtoookjadbhdfhaaGreatDoor
