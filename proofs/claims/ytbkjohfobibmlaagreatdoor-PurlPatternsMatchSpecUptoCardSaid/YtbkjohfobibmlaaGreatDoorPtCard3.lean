/- PROVED: PurlPatternsMatchSpec answers true for every text and name of bulk at most 1048576. Condition: the package-level tables that the row lists hold what the program's text lays. -/
import Derived.Test.YtbkjohfobibmlaaGreatDoorNm
import Derived.Test.YtbkjohfobibmlaaGreatDoorPtI
set_option maxRecDepth 100000
namespace Go.Proofs.YtbkjohfobibmlaaGreatDoor
open Go Go.RowKit Go.WideShapes Go.ChangeShapes Go.ChangeAt Pe Pe.Tryz
namespace law3
theorem par3:Tryz.f3.params= #[9,24]:=by kernel_rfl
theorem zky(H:Type)(enc:TypeId×Value->H)(W:World)(base:Nat)(args:Array Value)(ds gs:List (DataW H))(zcn:List MemPlace)
  (hval:∀(j:Nat) t v,Tryz.f3.params[j]?=some t->args[j]?=some v->Value.okWide Tryz.prog W .any base t v)
  (hW:DataW.Whole enc Tryz.prog Tryz.f3.params.toList Rows.purlPatternsMatchSpecSpec.vars false W args.toList ds gs zcn) (hc:Rows.uptoBulkAll ds<=1048576) :
  Calls Tryz.prog 3 args W λe W'=>∃v,e= .returned v/\Rows.purlPatternsMatchSpecSpec.post enc Tryz.prog Tryz.f3 false true false false W args v W':=by
 refine zlA (G:=zt0) (fn:=Tryz.f3) (us:=[.str,.st 3]) stepM zsR u4 (by kernel_rfl) ⟨zrZ,(λn h=>by cases h),by kernel_rfl,of_decide_eq_true (by kernel_rfl),mPurl,(λn h=>⟨_,Tryz.underlying24⟩),by kernel_rfl,of_decide_eq_true (by kernel_rfl),trivial⟩ rfl (λds hl=>?_) W base args ds gs zcn hval hW (λy hy=>?_) (λt ht=>by cases ht)
 ·match ds,hl with
  |[d1,d2],_=>rfl
 ·obtain ⟨s,p,⟨⟩⟩:List UInt8×Gt.Purl×Unit:=y;obtain ⟨r0,rfl,_,hy⟩:=hy.inv_str;obtain ⟨ps,r,rfl,h5,_⟩:=hy.inv_st;have hx:Rd zt0 [.st 3] (sg (u:= .st 3) p) [.agg ps]:= .st h5 .nil;simp only[Rows.uptoBulkAll,Rows.uptoBulk] at hc;exact Pe.Tryz.ok3 (zal 15) (zdR _) (s,p,()) (true,()) (L3 0 s (zol hx (by simp only[Rows.uptoBulkAll,Rows.uptoBulk];omega)))
def w0:Value:= .agg #[.string ⟨#[]⟩,.string ⟨#[]⟩,.string ⟨#[]⟩,.string ⟨#[]⟩,.slice none 0 0,.string ⟨#[]⟩]
theorem zsA(os:Os){H:Type}(enc:TypeId×Value->H):∃places,DataW.whole enc Tryz.prog ((World.laidAll Tryz.prog os zeB).forCall (λ_ _=>0) ⟨#[],#[.string ⟨#[]⟩,w0],[]⟩).memory Tryz.f3.params.toList Rows.purlPatternsMatchSpecSpec.vars false #[Value.string ⟨#[]⟩,w0].toList 8=some ([.lit (.string []),.agg [.lit (.string []),.lit (.string []),.lit (.string []),.lit (.string []),.nil,.lit (.string [])]],[],places) :=
 ⟨[],by kernel_rfl⟩
theorem zoy(os:Os)(started:os.Started)(H:Type)(enc:TypeId×Value->H)(F:Stop.Interp) :
  ReturnsInHanded {} Tryz.checked os 3 .any ((Rows.OpenSpec.upto Rows.purlPatternsMatchSpecSpec).preRow enc Tryz.prog Tryz.f3 Rows.purlPatternsMatchSpecUptoRow.domain false Rows.purlPatternsMatchSpecUptoRow.laid) (((Rows.OpenSpec.upto Rows.purlPatternsMatchSpecSpec).at F).post enc Tryz.prog Tryz.f3 false true false false):=by
 obtain ⟨places,hx⟩:=zsA os enc
 refine returnsInHanded_of_row (C:=Tryz.checked) (s:=Rows.OpenSpec.upto Rows.purlPatternsMatchSpecSpec) own started (by kernel_rfl) Tryz.func3
  (zma (enc:=enc) (C:=Tryz.checked) false (World.laidAll Tryz.prog os zeB) #[.string ⟨#[]⟩,w0] (World.laidAll_os _ _ _) (zsx os _) (by kernel_rfl)
   (OpenSpec.preRow_of_cond 8 hx (by kernel_rfl) (λk hk=>by cases hk;kernel_rfl) (by kernel_rfl) (zrt os _))) ?_
 intro W base args ds gs zcn hval hW _ hcond _ hL _ _;have hg:gs=[]:=by
  obtain ⟨p,q,_,hV,_,_,_⟩:=hW
  match gs,hV with
  |[],_=>rfl
 have hb:=of_decide_eq_true (hcond _ rfl);rw[hg,yAR] at hb;exact zky H enc W base args ds gs zcn hval hW hb
theorem zq6:Rows.PurlPatternsMatchSpecUptoSaid :=
 OpenClaim.holds_of_cond 3 Tryz.f3 rfl rfl rfl rfl rfl rfl rfl ⟨rfl,rfl,rfl,rfl,rfl⟩ rfl rfl rfl rfl rfl (by kernel_rfl) Tryz.func3 (by kernel_rfl)
  (of_decide_eq_true (by kernel_rfl)) (by unfold Func.isWrapper;first|(rw[if_pos (by decide+kernel)];kernel_rfl)|(rw[if_neg (by decide+kernel)];exact ⟨rfl,rfl⟩))
  (λos started H enc _ F=>by rw[OpenClaim.pre_eq_preRow];exact zoy os started H enc F)
theorem plain (f : FuncId) (fn : Func) (hf : Tryz.pinned.checked.prog.funcNamed "provender/provenderlaw2.PurlPatternsMatchSpec" = some f) (hfn : Tryz.pinned.checked.prog.funcs[f]? = some fn) :
  false=Tryz.pinned.checked.prog.looks []/\∀(j:Nat) t,fn.params[j]?=some t->Tryz.pinned.checked.prog.wantsStandIn t=false:=by
 obtain rfl : f = 3 := yAp ((show Tryz.prog.funcNamed "provender/provenderlaw2.PurlPatternsMatchSpec" = some 3 by kernel_rfl).symm.trans hf) |>.symm
 obtain rfl:fn=Tryz.f3:=(yAp (Tryz.func3.symm.trans hfn)).symm;refine ⟨by kernel_rfl,λj t ht=>?_⟩;rw[par3] at ht;have ht':t=9\/t=24:=by simpa using Array.mem_of_getElem? ht
 rcases ht' with rfl|rfl;·exact (show Tryz.prog.wantsStandIn 9=false by kernel_rfl)
 ·exact (show Tryz.prog.wantsStandIn 24=false by kernel_rfl)
theorem cardUpto:Rows.PurlPatternsMatchSpecUptoCardSaid :=
 Claim7.holds_tied_plain_at .later [] _ _ _ _ zq6 (λ_ h=>by cases h) (by kernel_rfl) (λ_ h=>by cases h) purlPatternsMatchSpecUpto_row_tie rfl ⟨rfl,rfl⟩ (by kernel_rfl) rfl plain (by kernel_rfl)
end law3
end Go.Proofs.YtbkjohfobibmlaaGreatDoor
#print axioms Go.Proofs.YtbkjohfobibmlaaGreatDoor.law3.cardUpto
