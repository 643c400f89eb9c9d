/- PROVED: LicenceChooseMatchesSpec answers true for every catalogue, every expression, every expression, all texts of bulk at most 1048576. Condition: the package-level tables that the row lists hold what the program's text lays. -/
import Derived.Test.YteimbekcnkogoaaGreatDoorNm
import Derived.Test.YteimbekcnkogoaaGreatDoorLizI
import Derived.Test.YteimbekcnkogoaaGreatDoorLizWy3
set_option maxRecDepth 100000
namespace Go.Proofs.YteimbekcnkogoaaGreatDoor
open Go Go.RowKit Go.WideShapes Go.ChangeShapes Go.ChangeAt Pe Pe.Tryz
namespace law10
open LicSpec
def zbJ:List (String×DataW Unit):=Rows.licenceChooseMatchesSpecRow.laid
theorem zs3 (os:Os):(World.holding Tryz.prog os ⟨#[],#[],[]⟩).layFits Tryz.prog zbJ []=true:=by kernel_rfl
theorem zmr (os:Os):(World.holding Tryz.prog os ⟨#[],#[],[]⟩).layIfaces Tryz.prog zbJ (World.laidAll Tryz.prog os zbJ)=true:=by kernel_rfl
theorem znn (os:Os) (args:Array Value):laidMetH Tryz.prog zbJ ((World.laidAll Tryz.prog os zbJ).forCall (fun _ _=>0) ⟨#[],args,[]⟩).memory:=by
 rw [MakeChecks.laidMetH_plain _ _ _ (by kernel_rfl)];exact laidMet_laidAll _ (zs3 os) (zmr os)
theorem zpb (os:Os) (args:Array Value):((World.laidAll Tryz.prog os zbJ).forCall (fun _ _=>0) ⟨#[],args,[]⟩).Shaped Tryz.prog :=
 World.shaped_of_ZipB (by kernel_rfl) (by kernel_rfl)
theorem par:Tryz.f10.params= #[42,24,24,30]:=by kernel_rfl
theorem zhk (H:Type) (enc:TypeId×Value→H) (W:World) (base:Nat) (args:Array Value) (ds gs:List (DataW H)) (before:List MemPlace)
  (hval:∀(j:Nat) t v,Tryz.f10.params[j]? =some t→args[j]? =some v→Value.okWide Tryz.prog W .any base t v)
  (hW:DataW.Whole enc Tryz.prog Tryz.f10.params.toList Rows.licenceChooseMatchesSpecSpec.vars false W args.toList ds gs before) (hc:Rows.uptoBulkAll ds≤1048576) :
  Calls Tryz.prog 10 args W fun e W'=>∃v,e= .returned v∧Rows.licenceChooseMatchesSpecSpec.post enc Tryz.prog Tryz.f10 false true false false W args v W':=by
 refine zlk (fn:=Tryz.f10) (us:=[.st 2,.st 4,.st 4,.sl .str]) zaq.get_put ztB zsO u4 (by kernel_rfl) ⟨mCat,(fun n h=>⟨_,Tryz.underlying42⟩),by kernel_rfl,of_decide_eq_true (by kernel_rfl),m0 mEx,(fun n h=>⟨_,Tryz.underlying24⟩),by kernel_rfl,of_decide_eq_true (by kernel_rfl),m0 mEx,(fun n h=>⟨_,Tryz.underlying24⟩),by kernel_rfl,of_decide_eq_true (by kernel_rfl),mTxs,(fun n h=>by cases h),by kernel_rfl,of_decide_eq_true (by kernel_rfl),trivial⟩ rfl (fun ds hl=> ?_) W base args ds gs before hval hW (fun y hy=> ?_)
 ·match ds,hl with
  | [d1,d2,d3,d4],_=>rfl
 ·obtain ⟨y0,y1,y2,y3,⟨⟩⟩:(Cat)×(Ex)×(Ex)×(List (List UInt8))×Unit:=y
  obtain ⟨p0,r0,rfl,a0,b0⟩:=hy.inv_st
  have x0:Rd un [.st 2] (sg (u:= .st 2) y0) [.agg p0]:= .st a0 .nil
  obtain ⟨p1,r1,rfl,a1,b1⟩:=b0.inv_st
  have x1:Rd un [.st 4] (sg (u:= .st 4) y1) [.agg p1]:= .st a1 .nil
  obtain ⟨p2,r2,rfl,a2,b2⟩:=b1.inv_st
  have x2:Rd un [.st 4] (sg (u:= .st 4) y2) [.agg p2]:= .st a2 .nil
  obtain ⟨d3,r3,rfl,a3,b3⟩:=b2.inv_sl
  simp only [Rows.uptoBulkAll] at hc
  have k0:=zp7 y0 _ x0 (by omega)
  obtain ⟨e1,f1⟩:=znF (N:=2000000) (yAi _) _ y1 (.agg p1) (yAi _) x1 (by omega)
  obtain ⟨e2,f2⟩:=znF (N:=2000000) (yAi _) _ y2 (.agg p2) (yAi _) x2 (by omega)
  have s3:=(zdg a3 (by omega) fun s d=>zfz s d).1
  have hL:m10 (zah 2000000) y0 y1 y2 y3=some (true,()):=L10 k0 e1 (by omega) e2 (by omega) s3 (by omega)
  exact Pe.Tryz.ok10 (zah 2000000) (zdF _) (y0,y1,y2,y3,()) (true,()) hL
def w0:Value:= .agg #[.slice none 0 0,.slice none 0 0,.slice none 0 0]
def w1:Value:= .agg #[.int .i64 0,.string ⟨#[]⟩,.bool false,.string ⟨#[]⟩,.slice none 0 0]
def w2:Value:= .agg #[.int .i64 0,.string ⟨#[]⟩,.bool false,.string ⟨#[]⟩,.slice none 0 0]
def w3:Value:= .slice none 0 0
theorem reads (os:Os) {H:Type} (enc:TypeId×Value→H):∃places,DataW.whole enc Tryz.prog ((World.laidAll Tryz.prog os zbJ).forCall (fun _ _=>0) ⟨#[],#[w0,w1,w2,w3],[]⟩).memory Tryz.f10.params.toList Rows.licenceChooseMatchesSpecSpec.vars false #[w0,w1,w2,w3].toList 8=some ([.agg [.nil,.nil,.nil],.agg [.lit (.int .i64 0),.lit (.string []),.lit (.bool false),.lit (.string []),.nil],.agg [.lit (.int .i64 0),.lit (.string []),.lit (.bool false),.lit (.string []),.nil],.nil],[],places) :=
 ⟨[],by kernel_rfl⟩
theorem zou (os:Os) (started:os.Started) (H:Type) (enc:TypeId×Value→H) (F:Stop.Interp) :
  ReturnsInHanded {} Tryz.checked os 10 .any ((Rows.OpenSpec.upto Rows.licenceChooseMatchesSpecSpec).preRow enc Tryz.prog Tryz.f10 Rows.licenceChooseMatchesSpecUptoRow.domain false Rows.licenceChooseMatchesSpecUptoRow.laid) (((Rows.OpenSpec.upto Rows.licenceChooseMatchesSpecSpec).at F).post enc Tryz.prog Tryz.f10 false true false false):=by
 obtain ⟨places,hx⟩:=reads os enc
 refine returnsInHanded_of_row (C:=Tryz.checked) (s:=Rows.OpenSpec.upto Rows.licenceChooseMatchesSpecSpec) own started (by kernel_rfl) Tryz.func10
  (zlT (enc:=enc) (C:=Tryz.checked) false (World.laidAll Tryz.prog os zbJ) #[w0,w1,w2,w3] (World.laidAll_os _ _ _) (zpb os _) (by kernel_rfl)
   (OpenSpec.preRow_of_cond 8 hx (by kernel_rfl) (fun k hk=>by cases hk;kernel_rfl) (by kernel_rfl) (znn os _))) ?_
 intro W base args ds gs before hval hW _ hcond _ hL _ _
 have hg:gs=[]:=by
  obtain ⟨p,q,_,hV,_,_,_⟩:=hW
  match gs,hV with
  | [],_=>rfl
 have hb:=of_decide_eq_true (hcond _ rfl)
 rw [hg,yAO] at hb
 exact zhk H enc W base args ds gs before hval hW hb
theorem cl1:(Rows.licenceChooseMatchesSpecUptoRow.inPlace==Tryz.prog.inPlace 10)=true:=by kernel_rfl
theorem cl2:(Rows.licenceChooseMatchesSpecUptoRow.unfollowed==Tryz.prog.unfollowed 10)=true:=by kernel_rfl
theorem cl3:(Rows.licenceChooseMatchesSpecUptoRow.recurses==Tryz.prog.recurses 10)=true:=by kernel_rfl
theorem cl4:(Rows.licenceChooseMatchesSpecUptoRow.named==Tryz.prog.varsNamed 10)=true:=by kernel_rfl
theorem ztW:joinedFacts Tryz.prog 10 Tryz.f10 (Rows.OpenSpec.upto Rows.licenceChooseMatchesSpecSpec).bare Rows.licenceChooseMatchesSpecUptoRow=true:=by
 unfold joinedFacts
 rw [cl1,cl2,cl3,cl4]
 kernel_rfl
theorem zqV:Rows.LicenceChooseMatchesSpecUptoSaid :=
 OpenClaim.holds_of_cond 10 Tryz.f10 rfl rfl rfl rfl rfl rfl rfl ⟨rfl,rfl,rfl,rfl,rfl⟩ rfl rfl rfl rfl rfl (by kernel_rfl) Tryz.func10 ztW
  (of_decide_eq_true (by kernel_rfl)) (by unfold Func.isWrapper;first | (rw [if_pos (by decide+kernel)];kernel_rfl) | (rw [if_neg (by decide+kernel)];exact ⟨rfl,rfl⟩))
  (fun os started H enc _ F=>by rw [OpenClaim.pre_eq_preRow];exact zou os started H enc F)
theorem plain (f : FuncId) (fn : Func) (hf : Tryz.pinned.checked.prog.funcNamed "provender/provenderlaw3.LicenceChooseMatchesSpec" = some f) (hfn : Tryz.pinned.checked.prog.funcs[f]? = some fn) :
  true=Tryz.pinned.checked.prog.looks []∧∀(j:Nat) t,fn.params[j]? =some t→Tryz.pinned.checked.prog.wantsStandIn t=false:=by
 obtain rfl : f = 10 := yAB ((show Tryz.prog.funcNamed "provender/provenderlaw3.LicenceChooseMatchesSpec" = some 10 by kernel_rfl).symm.trans hf) |>.symm
 obtain rfl:fn=Tryz.f10:=(yAB (Tryz.func10.symm.trans hfn)).symm
 refine ⟨by kernel_rfl,fun j t ht=> ?_⟩
 rw [par] at ht
 have ht':t=42∨t=24∨t=24∨t=30:=by
  have:=Array.mem_of_getElem? ht
  simp only [List.mem_toArray,yAj,yBv,or_false] at this
  exact this
 rcases ht' with rfl | rfl | rfl | rfl
 ·exact (show Tryz.prog.wantsStandIn 42=false by kernel_rfl)
 ·exact (show Tryz.prog.wantsStandIn 24=false by kernel_rfl)
 ·exact (show Tryz.prog.wantsStandIn 24=false by kernel_rfl)
 ·exact (show Tryz.prog.wantsStandIn 30=false by kernel_rfl)
theorem cardUpto:Rows.LicenceChooseMatchesSpecUptoCardSaid :=
 Claim7.holds_tied_plain_at .later [] _ _ _ _ zqV (fun _ h=>by cases h) (by kernel_rfl) (fun _ h=>by cases h) licenceChooseMatchesSpecUpto_row_tie rfl ⟨rfl,rfl⟩ (by kernel_rfl) rfl plain (by kernel_rfl)
end law10
end Go.Proofs.YteimbekcnkogoaaGreatDoor
#print axioms Go.Proofs.YteimbekcnkogoaaGreatDoor.law10.cardUpto
