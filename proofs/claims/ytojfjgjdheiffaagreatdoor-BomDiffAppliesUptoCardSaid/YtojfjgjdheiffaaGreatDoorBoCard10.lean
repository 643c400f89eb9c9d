/- PROVED: BomDiffApplies answers true for all two bills of bulk at most 1048576. Condition: the package-level tables that the row lists hold what the program's text lays. -/
import Derived.Test.YtojfjgjdheiffaaGreatDoorNm
import Derived.Test.YtojfjgjdheiffaaGreatDoorBoH
import Derived.Test.YtojfjgjdheiffaaGreatDoorBoM
set_option maxRecDepth 100000
namespace Go.Proofs.YtojfjgjdheiffaaGreatDoor
open Go Go.RowKit Go.WideShapes Go.ChangeShapes Go.ChangeAt Pe Pe.Tryz
namespace law10
theorem par10:Tryz.f10.params= #[25,25]:=by kernel_rfl
theorem zf1(H:Type)(enc:TypeId×Value->H)(W:World)(base:Nat)(args:Array Value)(ds gs:List (DataW H))(before:List MemPlace)
  (hval:∀(j:Nat) t v,Tryz.f10.params[j]?=some t->args[j]?=some v->Value.okWide Tryz.prog W .any base t v)
  (hW:DataW.Whole enc Tryz.prog Tryz.f10.params.toList Rows.bomDiffAppliesSpec.vars false W args.toList ds gs before) (hc:Rows.uptoBulkAll ds<=1048576) :
  Calls Tryz.prog 10 args W λe W'=>∃v,e= .returned v/\Rows.bomDiffAppliesSpec.post enc Tryz.prog Tryz.f10 false true false false W args v W':=by
 refine zk7 (G:=zmZ) (fn:=Tryz.f10) (us:=[.st 3,.st 3]) stepM zrI u4 (by kernel_rfl) ⟨zwt,(λn h=>⟨_,Tryz.underlying25⟩),by kernel_rfl,of_decide_eq_true (by kernel_rfl),zwt,(λn h=>⟨_,Tryz.underlying25⟩),by kernel_rfl,of_decide_eq_true (by kernel_rfl),trivial⟩ rfl (λds hl=>?_) W base args ds gs before hval hW (λy hy=>?_)
 ·match ds,hl with
  |[d0,d1],_=>rfl
 ·obtain ⟨b,l,⟨⟩⟩:Gt.Bill×Gt.Bill×Unit:=y;obtain ⟨ps,q,rfl,h5,h6⟩:=hy.inv_st;have hbx:Rd zmZ [.st 3] (sg (u:= .st 3) b) [.agg ps]:= .st h5 .nil;obtain ⟨ps2,q2,rfl,h7,h8⟩:=Rd.inv_st (n:=3) (us:=[]) h6;have hbl:Rd zmZ [.st 3] (sg (u:= .st 3) l) [.agg ps2]:= .st h7 .nil;simp only[Rows.uptoBulkAll] at hc;have k:=zoc b _ hbx (by omega);have k2:=zoc l _ hbl (by omega);exact Pe.Tryz.ok10 (zah 300) (zdl _) (b,l,()) (true,()) (L10 (by omega) k k2)
def w0:Value:= .agg #[.string ⟨#[]⟩,.string ⟨#[]⟩,.string ⟨#[]⟩,.slice none 0 0,.slice none 0 0]
def w:Array Value:= #[w0,w0]
theorem reads(os:Os){H:Type}(enc:TypeId×Value->H):∃places,DataW.whole enc Tryz.prog ((World.laidAll Tryz.prog os zd2).forCall (λ_ _=>0) ⟨#[],w,[]⟩).memory Tryz.f10.params.toList Rows.bomDiffAppliesSpec.vars false w.toList 8=some ([.agg [.lit (.string []),.lit (.string []),.lit (.string []),.nil,.nil],.agg [.lit (.string []),.lit (.string []),.lit (.string []),.nil,.nil]],[],places) :=
 ⟨[],by kernel_rfl⟩
theorem znS(os:Os)(started:os.Started)(H:Type)(enc:TypeId×Value->H)(F:Stop.Interp) :
  ReturnsInHanded {} Tryz.checked os 10 .any ((Rows.OpenSpec.upto Rows.bomDiffAppliesSpec).preRow enc Tryz.prog Tryz.f10 Rows.bomDiffAppliesUptoRow.domain false Rows.bomDiffAppliesUptoRow.laid) (((Rows.OpenSpec.upto Rows.bomDiffAppliesSpec).at F).post enc Tryz.prog Tryz.f10 false true false false):=by
 obtain ⟨places,hx⟩:=reads os enc
 refine returnsInHanded_of_row (C:=Tryz.checked) (s:=Rows.OpenSpec.upto Rows.bomDiffAppliesSpec) own started (by kernel_rfl) Tryz.func10
  (zlM (enc:=enc) (C:=Tryz.checked) false (World.laidAll Tryz.prog os zd2) w (World.laidAll_os _ _ _) (zrr os _) (by kernel_rfl)
   (OpenSpec.preRow_of_cond 8 hx (by kernel_rfl) (λk hk=>by cases hk;kernel_rfl) (by kernel_rfl) (zqI os _))) ?_
 intro W base args ds gs before hval hW _ hcond _ hL _ _;have hg:gs=[]:=by
  obtain ⟨p,q,_,hV,_,_,_⟩:=hW
  match gs,hV with
  |[],_=>rfl
 have hb:=of_decide_eq_true (hcond _ rfl);rw[hg,yAR] at hb;exact zf1 H enc W base args ds gs before hval hW hb
theorem cl1:(Rows.bomDiffAppliesUptoRow.inPlace==Tryz.prog.inPlace 10)=true:=by kernel_rfl
theorem cl2:(Rows.bomDiffAppliesUptoRow.unfollowed==Tryz.prog.unfollowed 10)=true:=by kernel_rfl
theorem cl3:(Rows.bomDiffAppliesUptoRow.recurses==Tryz.prog.recurses 10)=true:=by kernel_rfl
theorem cl4:(Rows.bomDiffAppliesUptoRow.named==Tryz.prog.varsNamed 10)=true:=by kernel_rfl
theorem zvq:joinedFacts Tryz.prog 10 Tryz.f10 (Rows.OpenSpec.upto Rows.bomDiffAppliesSpec).bare Rows.bomDiffAppliesUptoRow=true:=by
 unfold joinedFacts;rw[cl1,cl2,cl3,cl4]
 kernel_rfl
theorem zqf:Rows.BomDiffAppliesUptoSaid :=
 OpenClaim.holds_of_cond 10 Tryz.f10 rfl rfl rfl rfl rfl rfl rfl ⟨rfl,rfl,rfl,rfl,rfl⟩ rfl rfl rfl rfl rfl (by kernel_rfl) Tryz.func10 zvq
  (of_decide_eq_true (by kernel_rfl)) (by unfold Func.isWrapper;first|(rw[if_pos (by decide+kernel)];kernel_rfl)|(rw[if_neg (by decide+kernel)];exact ⟨rfl,rfl⟩))
  (λos started H enc _ F=>by rw[OpenClaim.pre_eq_preRow];exact znS os started H enc F)
theorem plain (f : FuncId) (fn : Func) (hf : Tryz.pinned.checked.prog.funcNamed "provender/provenderlaw4.BomDiffApplies" = some f) (hfn : Tryz.pinned.checked.prog.funcs[f]? = some fn) :
  true=Tryz.pinned.checked.prog.looks []/\∀(j:Nat) t,fn.params[j]?=some t->Tryz.pinned.checked.prog.wantsStandIn t=false:=by
 obtain rfl : f = 10 := yAS ((show Tryz.prog.funcNamed "provender/provenderlaw4.BomDiffApplies" = some 10 by kernel_rfl).symm.trans hf) |>.symm
 obtain rfl:fn=Tryz.f10:=(yAS (Tryz.func10.symm.trans hfn)).symm;refine ⟨by kernel_rfl,λj t ht=>?_⟩;rw[par10] at ht;have ht':t=25:=by have:=Array.mem_of_getElem? ht;simp only[List.mem_toArray,yAm,yAX,or_false,or_self] at this;exact this
 subst ht';exact (show Tryz.prog.wantsStandIn 25=false by kernel_rfl)
theorem wf1:Rows.bomDiffAppliesUptoRow.wfByText (Rows.OpenSpec.upto Rows.bomDiffAppliesSpec)=true:=by kernel_rfl
theorem mn1 : Tryz.pinned.checked.prog.mainIs = some (true, "391c0bdd617fb8033717c8ec64d112760f28bb5ac3bda4e7daf8828759e126a0".toList) := by kernel_rfl
theorem gb1:false=Rows.bomDiffAppliesUptoRow.goesBy Tryz.pinned.checked.prog:=by kernel_rfl
theorem cardUpto:Rows.BomDiffAppliesUptoCardSaid :=
 Claim7.holds_tied_plain_at .later [] _ _ _ _ zqf (λ_ h=>by cases h) wf1 (λ_ h=>by cases h) bomDiffAppliesUpto_row_tie rfl ⟨rfl,rfl⟩ mn1 rfl plain gb1
end law10
end Go.Proofs.YtojfjgjdheiffaaGreatDoor
#print axioms Go.Proofs.YtojfjgjdheiffaaGreatDoor.law10.cardUpto
