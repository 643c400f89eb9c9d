/- PROVED: BomPartMatchesSpec answers true for every bill, text and number of bulk at most 1048576. Condition: the package-level tables that the row lists hold what the program's text lays. -/
import Derived.Test.YtojfjgjdheiffaaGreatDoorBoH
set_option maxRecDepth 100000
namespace Go.Proofs.YtojfjgjdheiffaaGreatDoor
open Go Go.RowKit Go.WideShapes Go.ChangeShapes Go.ChangeAt Pe Pe.Tryz
namespace law8
theorem par8:Tryz.f8.params= #[25,9,3]:=by kernel_rfl
theorem zf1(H:Type)(enc:TypeId×Value->H)(W:World)(base:Nat)(args:Array Value)(ds gs:List (DataW H))(before:List MemPlace)
  (Qt:∀(j:Nat) t v,Tryz.f8.params[j]?=some t->args[j]?=some v->Value.okWide Tryz.prog W .any base t v)
  (hW:DataW.Whole enc Tryz.prog Tryz.f8.params.toList Rows.bomPartMatchesSpecSpec.vars false W args.toList ds gs before) (hc:Rows.uptoBulkAll ds<=1048576) :
  Calls Tryz.prog 8 args W λe W'=>∃v,e= .returned v/\Rows.bomPartMatchesSpecSpec.post enc Tryz.prog Tryz.f8 false true false false W args v W':=by
 refine zk7 (G:=zmZ) (fn:=Tryz.f8) (us:=[.st 3,.str,.int .i64]) stepM zrI u4 (by kernel_rfl) ⟨zwt,λn h=>⟨_,Tryz.underlying25⟩,by kernel_rfl,of_decide_eq_true (by kernel_rfl),zkg,(λn h=>by cases h),by kernel_rfl,of_decide_eq_true (by kernel_rfl),mInt,(λn h=>by cases h),by kernel_rfl,of_decide_eq_true (by kernel_rfl),trivial⟩ rfl (λds hl=>?_) W base args ds gs before Qt hW (λy hy=>?_) zw7
 ·match ds,hl with
  |[d0,d1,d2],_=>rfl
 ·obtain ⟨b,x0,x1,⟨⟩⟩:Gt.Kn×By×Int×Unit:=y;obtain ⟨ps,q,rfl,h5,h6⟩:=hy.inv_st;have hbx:Rd zmZ [.st 3] (sg (u:= .st 3) b) [.agg ps]:= .st h5 .nil;simp only[Rows.uptoBulkAll] at hc;have k:=zoc b _ hbx (by omega);exact Pe.Tryz.ok8 (zah 300) (zdl _) (b,x0,x1,()) (true,()) (L8 (by omega) k x0 x1)
def w0:Value:= .agg #[.string ⟨#[]⟩,.string ⟨#[]⟩,.string ⟨#[]⟩,.slice none 0 0,.slice none 0 0]
def w:Array Value:= #[w0,.string ⟨#[]⟩,.int .i64 0]
theorem reads(os:Os){H:Type}(enc:TypeId×Value->H):∃places,DataW.whole enc Tryz.prog ((World.laidAll Tryz.prog os zd2).forCall (λ_ _=>0) ⟨#[],w,[]⟩).memory Tryz.f8.params.toList Rows.bomPartMatchesSpecSpec.vars false w.toList 8=some ([.agg [.lit (.string []),.lit (.string []),.lit (.string []),.nil,.nil],.lit (.string []),.lit (.int .i64 0)],[],places) :=
 ⟨[],by kernel_rfl⟩
theorem znS(os:Os)(started:os.Started)(H:Type)(enc:TypeId×Value->H)(F:Stop.Interp) :
  ReturnsInHanded {} Tryz.checked os 8 .any ((Rows.OpenSpec.upto Rows.bomPartMatchesSpecSpec).preRow enc Tryz.prog Tryz.f8 Rows.bomPartMatchesSpecUptoRow.domain false Rows.bomPartMatchesSpecUptoRow.laid) (((Rows.OpenSpec.upto Rows.bomPartMatchesSpecSpec).at F).post enc Tryz.prog Tryz.f8 false true false false):=by
 obtain ⟨places,hx⟩:=reads os enc
 refine returnsInHanded_of_row (C:=Tryz.checked) (s:=Rows.OpenSpec.upto Rows.bomPartMatchesSpecSpec) own started (by kernel_rfl) Tryz.func8
  (zlM (enc:=enc) (C:=Tryz.checked) false (World.laidAll Tryz.prog os zd2) w (World.laidAll_os _ _ _) (zrr os _) (by kernel_rfl)
   (OpenSpec.preRow_of_cond 8 hx (by kernel_rfl) (λk hk=>by cases hk;kernel_rfl) (by kernel_rfl) (zqI os _))) ?_
 intro W base args ds gs before Qt hW _ hcond _ hL _ _;have hg:gs=[]:=by
  obtain ⟨p,q,_,hV,_,_,_⟩:=hW
  match gs,hV with
  |[],_=>rfl
 have hb:=of_decide_eq_true (hcond _ rfl);rw[hg,yAR] at hb;exact zf1 H enc W base args ds gs before Qt hW hb
theorem cl1:(Rows.bomPartMatchesSpecUptoRow.inPlace==Tryz.prog.inPlace 8)=true:=by kernel_rfl
theorem cl2:(Rows.bomPartMatchesSpecUptoRow.unfollowed==Tryz.prog.unfollowed 8)=true:=by kernel_rfl
theorem cl3:(Rows.bomPartMatchesSpecUptoRow.recurses==Tryz.prog.recurses 8)=true:=by kernel_rfl
theorem cl4:(Rows.bomPartMatchesSpecUptoRow.named==Tryz.prog.varsNamed 8)=true:=by kernel_rfl
theorem closed:joinedFacts Tryz.prog 8 Tryz.f8 (Rows.OpenSpec.upto Rows.bomPartMatchesSpecSpec).bare Rows.bomPartMatchesSpecUptoRow=true:=by
 unfold joinedFacts;rw[cl1,cl2,cl3,cl4]
 kernel_rfl
theorem zqf:Rows.BomPartMatchesSpecUptoSaid :=
 OpenClaim.holds_of_cond 8 Tryz.f8 rfl rfl rfl rfl rfl rfl rfl ⟨rfl,rfl,rfl,rfl,rfl⟩ rfl rfl rfl rfl rfl (by kernel_rfl) Tryz.func8 closed
  (of_decide_eq_true (by kernel_rfl)) (by unfold Func.isWrapper;first|(rw[if_pos (by decide+kernel)];kernel_rfl)|(rw[if_neg (by decide+kernel)];exact ⟨rfl,rfl⟩))
  (λos started H enc _ F=>by rw[OpenClaim.pre_eq_preRow];exact znS os started H enc F)
theorem plain (f : FuncId) (fn : Func) (hf : Tryz.pinned.checked.prog.funcNamed "provender/provenderlaw4.BomPartMatchesSpec" = some f) (hfn : Tryz.pinned.checked.prog.funcs[f]? = some fn) :
  true=Tryz.pinned.checked.prog.looks []/\∀(j:Nat) t,fn.params[j]?=some t->Tryz.pinned.checked.prog.wantsStandIn t=false:=by
 obtain rfl : f = 8 := yAS ((show Tryz.prog.funcNamed "provender/provenderlaw4.BomPartMatchesSpec" = some 8 by kernel_rfl).symm.trans hf) |>.symm
 obtain rfl:fn=Tryz.f8:=(yAS (Tryz.func8.symm.trans hfn)).symm;refine ⟨by kernel_rfl,λj t ht=>?_⟩;rw[par8] at ht;have ht':t=25\/t=9\/t=3:=by have:=Array.mem_of_getElem? ht;simp only[List.mem_toArray,yAm,yAX,or_false] at this;exact this
 rcases ht' with rfl|rfl|rfl;·exact (show Tryz.prog.wantsStandIn 25=false by kernel_rfl)
 ·exact (show Tryz.prog.wantsStandIn 9=false by kernel_rfl)
 ·exact (show Tryz.prog.wantsStandIn 3=false by kernel_rfl)
theorem wf1:Rows.bomPartMatchesSpecUptoRow.wfByText (Rows.OpenSpec.upto Rows.bomPartMatchesSpecSpec)=true:=by kernel_rfl
theorem mn1 : Tryz.pinned.checked.prog.mainIs = some (true, "391c0bdd617fb8033717c8ec64d112760f28bb5ac3bda4e7daf8828759e126a0".toList) := by kernel_rfl
theorem gb1:false=Rows.bomPartMatchesSpecUptoRow.goesBy Tryz.pinned.checked.prog:=by kernel_rfl
theorem cardUpto:Rows.BomPartMatchesSpecUptoCardSaid :=
 Claim7.holds_tied_plain_at .later [] _ _ _ _ zqf (λ_ h=>by cases h) wf1 (λ_ h=>by cases h) bomPartMatchesSpecUpto_row_tie rfl ⟨rfl,rfl⟩ mn1 rfl plain gb1
end law8
end Go.Proofs.YtojfjgjdheiffaaGreatDoor
#print axioms Go.Proofs.YtojfjgjdheiffaaGreatDoor.law8.cardUpto
