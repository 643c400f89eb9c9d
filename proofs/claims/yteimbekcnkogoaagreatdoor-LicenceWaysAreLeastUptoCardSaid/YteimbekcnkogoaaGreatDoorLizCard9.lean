/- PROVED: LicenceWaysAreLeast answers true for every catalogue, every expression of bulk at most 1048576. Condition: the package-level tables that the row lists hold what the program's text lays. -/
import Derived.Test.YteimbekcnkogoaaGreatDoorLizI
import Derived.Test.YteimbekcnkogoaaGreatDoorLizWy7
set_option maxRecDepth 100000
namespace Go.Proofs.YteimbekcnkogoaaGreatDoor
open Go Go.RowKit Go.WideShapes Go.ChangeShapes Go.ChangeAt Pe Pe.Tryz
namespace law9
open LicSpec
def theLaid:List (String×DataW Unit):=Rows.licenceWaysAreLeastRow.laid
theorem fits0 (os:Os):(World.holding Tryz.prog os ⟨#[],#[],[]⟩).layFits Tryz.prog theLaid []=true:=by kernel_rfl
theorem ifaces0 (os:Os):(World.holding Tryz.prog os ⟨#[],#[],[]⟩).layIfaces Tryz.prog theLaid (World.laidAll Tryz.prog os theLaid)=true:=by kernel_rfl
theorem laid_met (os:Os) (args:Array Value):laidMetH Tryz.prog theLaid ((World.laidAll Tryz.prog os theLaid).forCall (fun _ _=>0) ⟨#[],args,[]⟩).memory:=by
 rw [MakeChecks.laidMetH_plain _ _ _ (by kernel_rfl)];exact laidMet_laidAll _ (fits0 os) (ifaces0 os)
theorem shaped0 (os:Os) (args:Array Value):((World.laidAll Tryz.prog os theLaid).forCall (fun _ _=>0) ⟨#[],args,[]⟩).Shaped Tryz.prog :=
 World.shaped_of_ZipB (by kernel_rfl) (by kernel_rfl)
theorem par:Tryz.f9.params= #[42,24]:=by kernel_rfl
theorem contract (H:Type) (enc:TypeId×Value→H) (W:World) (base:Nat) (args:Array Value) (ds gs:List (DataW H)) (before:List MemPlace)
  (hval:∀(j:Nat) t v,Tryz.f9.params[j]? =some t→args[j]? =some v→Value.okWide Tryz.prog W .any base t v)
  (hW:DataW.Whole enc Tryz.prog Tryz.f9.params.toList Rows.licenceWaysAreLeastSpec.vars false W args.toList ds gs before) (hc:Rows.uptoBulkAll ds≤1048576) :
  Calls Tryz.prog 9 args W fun e W'=>∃v,e= .returned v∧Rows.licenceWaysAreLeastSpec.post enc Tryz.prog Tryz.f9 false true false false W args v W':=by
 refine law_contract (fn:=Tryz.f9) (us:=[.st 2,.st 4]) uniOk.get_put stepM4 laidOut u4 (by kernel_rfl) ⟨mCat,(fun n h=>⟨_,Tryz.underlying42⟩),by kernel_rfl,of_decide_eq_true (by kernel_rfl),m0 mEx,(fun n h=>⟨_,Tryz.underlying24⟩),by kernel_rfl,of_decide_eq_true (by kernel_rfl),trivial⟩ rfl (fun ds hl=> ?_) W base args ds gs before hval hW (fun y hy=> ?_)
 ·match ds,hl with
  | [d1,d2],_=>rfl
 ·obtain ⟨y0,y1,⟨⟩⟩:(Cat)×(Ex)×Unit:=y
  obtain ⟨p0,r0,rfl,a0,b0⟩:=hy.inv_st
  have x0:Rd un [.st 2] (sg (u:= .st 2) y0) [.agg p0]:= .st a0 .nil
  obtain ⟨p1,r1,rfl,a1,b1⟩:=b0.inv_st
  have x1:Rd un [.st 4] (sg (u:= .st 4) y1) [.agg p1]:= .st a1 .nil
  simp only [Rows.uptoBulkAll] at hc
  have k0:=cat_small y0 _ x0 (by omega)
  obtain ⟨e1,f1⟩:=ex_small (N:=2000000) (Nat.le_refl _) _ y1 (.agg p1) (Nat.le_refl _) x1 (by omega)
  have hL:m9 (orcN 2000000) y0 y1=some (true,()):=L9 k0 e1 (by omega) (by omega)
  exact Pe.Tryz.ok9 (orcN 2000000) (orcN_sound _) (y0,y1,()) (true,()) hL
def w0:Value:= .agg #[.slice none 0 0,.slice none 0 0,.slice none 0 0]
def w1:Value:= .agg #[.int .i64 0,.string ⟨#[]⟩,.bool false,.string ⟨#[]⟩,.slice none 0 0]
theorem reads (os:Os) {H:Type} (enc:TypeId×Value→H):∃places,DataW.whole enc Tryz.prog ((World.laidAll Tryz.prog os theLaid).forCall (fun _ _=>0) ⟨#[],#[w0,w1],[]⟩).memory Tryz.f9.params.toList Rows.licenceWaysAreLeastSpec.vars false #[w0,w1].toList 8=some ([.agg [.nil,.nil,.nil],.agg [.lit (.int .i64 0),.lit (.string []),.lit (.bool false),.lit (.string []),.nil]],[],places) :=
 ⟨[],by kernel_rfl⟩
theorem liftedUpto (os:Os) (started:os.Started) (H:Type) (enc:TypeId×Value→H) (F:Stop.Interp) :
  ReturnsInHanded {} Tryz.checked os 9 .any ((Rows.OpenSpec.upto Rows.licenceWaysAreLeastSpec).preRow enc Tryz.prog Tryz.f9 Rows.licenceWaysAreLeastUptoRow.domain false Rows.licenceWaysAreLeastUptoRow.laid) (((Rows.OpenSpec.upto Rows.licenceWaysAreLeastSpec).at F).post enc Tryz.prog Tryz.f9 false true false false):=by
 obtain ⟨places,hx⟩:=reads os enc
 refine returnsInHanded_of_row (C:=Tryz.checked) (s:=Rows.OpenSpec.upto Rows.licenceWaysAreLeastSpec) own started (by kernel_rfl) Tryz.func9
  (witness_lay (enc:=enc) (C:=Tryz.checked) false (World.laidAll Tryz.prog os theLaid) #[w0,w1] (World.laidAll_os _ _ _) (shaped0 os _) (by kernel_rfl)
   (OpenSpec.preRow_of_cond 8 hx (by kernel_rfl) (fun k hk=>by cases hk;kernel_rfl) (by kernel_rfl) (laid_met os _))) ?_
 intro W base args ds gs before hval hW _ hcond _ hL _ _
 have hg:gs=[]:=by
  obtain ⟨p,q,_,hV,_,_,_⟩:=hW
  match gs,hV with
  | [],_=>rfl
 have hb:=of_decide_eq_true (hcond _ rfl)
 rw [hg,List.append_nil] at hb
 exact contract H enc W base args ds gs before hval hW hb
theorem cl1:(Rows.licenceWaysAreLeastUptoRow.inPlace==Tryz.prog.inPlace 9)=true:=by kernel_rfl
theorem cl2:(Rows.licenceWaysAreLeastUptoRow.unfollowed==Tryz.prog.unfollowed 9)=true:=by kernel_rfl
theorem cl3:(Rows.licenceWaysAreLeastUptoRow.recurses==Tryz.prog.recurses 9)=true:=by kernel_rfl
theorem cl4:(Rows.licenceWaysAreLeastUptoRow.named==Tryz.prog.varsNamed 9)=true:=by kernel_rfl
theorem closed:joinedFacts Tryz.prog 9 Tryz.f9 (Rows.OpenSpec.upto Rows.licenceWaysAreLeastSpec).bare Rows.licenceWaysAreLeastUptoRow=true:=by
 unfold joinedFacts
 rw [cl1,cl2,cl3,cl4]
 kernel_rfl
theorem saidUpto:Rows.LicenceWaysAreLeastUptoSaid :=
 OpenClaim.holds_of_cond 9 Tryz.f9 rfl rfl rfl rfl rfl rfl rfl ⟨rfl,rfl,rfl,rfl,rfl⟩ rfl rfl rfl rfl rfl (by kernel_rfl) Tryz.func9 closed
  (of_decide_eq_true (by kernel_rfl)) (by unfold Func.isWrapper;first | (rw [if_pos (by decide+kernel)];kernel_rfl) | (rw [if_neg (by decide+kernel)];exact ⟨rfl,rfl⟩))
  (fun os started H enc _ F=>by rw [OpenClaim.pre_eq_preRow];exact liftedUpto os started H enc F)
theorem plain (f : FuncId) (fn : Func) (hf : Tryz.pinned.checked.prog.funcNamed "provender/provenderlaw3.LicenceWaysAreLeast" = some f) (hfn : Tryz.pinned.checked.prog.funcs[f]? = some fn) :
  true=Tryz.pinned.checked.prog.looks []∧∀(j:Nat) t,fn.params[j]? =some t→Tryz.pinned.checked.prog.wantsStandIn t=false:=by
 obtain rfl : f = 9 := Option.some.inj ((show Tryz.prog.funcNamed "provender/provenderlaw3.LicenceWaysAreLeast" = some 9 by kernel_rfl).symm.trans hf) |>.symm
 obtain rfl:fn=Tryz.f9:=(Option.some.inj (Tryz.func9.symm.trans hfn)).symm
 refine ⟨by kernel_rfl,fun j t ht=> ?_⟩
 rw [par] at ht
 have ht':t=42∨t=24:=by
  have:=Array.mem_of_getElem? ht
  simp only [List.mem_toArray,List.mem_cons,List.not_mem_nil,or_false] at this
  exact this
 rcases ht' with rfl | rfl
 ·exact (show Tryz.prog.wantsStandIn 42=false by kernel_rfl)
 ·exact (show Tryz.prog.wantsStandIn 24=false by kernel_rfl)
theorem cardUpto:Rows.LicenceWaysAreLeastUptoCardSaid :=
 Claim7.holds_tied_plain_at .later [] _ _ _ _ saidUpto (fun _ h=>by cases h) (by kernel_rfl) (fun _ h=>by cases h) licenceWaysAreLeastUpto_row_tie rfl ⟨rfl,rfl⟩ (by kernel_rfl) rfl plain (by kernel_rfl)
end law9
end Go.Proofs.YteimbekcnkogoaaGreatDoor
#print axioms Go.Proofs.YteimbekcnkogoaaGreatDoor.law9.cardUpto
