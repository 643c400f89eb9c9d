/- PROVED: PurlSpellingsMatchAlike answers true for every text and name of bulk at most 1048576. Condition: the package-level tables that the row lists hold what the program's text lays. -/
import Derived.Test.YtbkjohfobibmlaaDoorNm
import Derived.Test.YtbkjohfobibmlaaDoorPtI
set_option maxRecDepth 100000
namespace Go.Proofs.YtbkjohfobibmlaaDoor
open Go Go.RowKit Go.WideShapes Go.ChangeShapes Go.ChangeAt Pe Pe.Tryd
namespace law3
theorem par3:Tryd.f3.params= #[9,24]:=by kernel_rfl
theorem zjo(H:Type)(enc:TypeId×Value->H)(W:World)(base:Nat)(args:Array Value)(ds gs:List (DataW H))(zcc:List MemPlace)
  (hval:∀(j:Nat) t v,Tryd.f3.params[j]?=some t->args[j]?=some v->Value.okWide Tryd.prog W .any base t v)
  (hW:DataW.Whole enc Tryd.prog Tryd.f3.params.toList Rows.purlSpellingsMatchAlikeSpec.vars false W args.toList ds gs zcc) (hc:Rows.uptoBulkAll ds<=1048576) :
  Calls Tryd.prog 3 args W λe W'=>∃v,e= .returned v/\Rows.purlSpellingsMatchAlikeSpec.post enc Tryd.prog Tryd.f3 false true false false W args v W':=by
 refine zkm (G:=zrD) (fn:=Tryd.f3) (us:=[.str,.st 3]) stepM zqP u4 (by kernel_rfl) ⟨zp2,(λn h=>by cases h),by kernel_rfl,of_decide_eq_true (by kernel_rfl),mPurl,(λn h=>⟨_,Tryd.underlying24⟩),by kernel_rfl,of_decide_eq_true (by kernel_rfl),trivial⟩ rfl (λds hl=>?_) W base args ds gs zcc hval hW (λy hy=>?_) (λt ht=>by cases ht)
 ·match ds,hl with
  |[d1,d2],_=>rfl
 ·obtain ⟨s,p,⟨⟩⟩:List UInt8×Gt.Purl×Unit:=y;obtain ⟨r0,rfl,_,hy⟩:=hy.inv_str;obtain ⟨ps,r,rfl,h5,_⟩:=hy.inv_st;have hx:Rd zrD [.st 3] (sg (u:= .st 3) p) [.agg ps]:= .st h5 .nil;simp only[Rows.uptoBulkAll,Rows.uptoBulk] at hc;exact Pe.Tryd.ok3 (zam 7) (zdm _) (s,p,()) (true,()) (L3 0 s (zmS hx (by simp only[Rows.uptoBulkAll,Rows.uptoBulk];omega)))
def w0:Value:= .agg #[.string ⟨#[]⟩,.string ⟨#[]⟩,.string ⟨#[]⟩,.string ⟨#[]⟩,.slice none 0 0,.string ⟨#[]⟩]
theorem zqA(os:Os){H:Type}(enc:TypeId×Value->H):∃places,DataW.whole enc Tryd.prog ((World.laidAll Tryd.prog os zd8).forCall (λ_ _=>0) ⟨#[],#[.string ⟨#[]⟩,w0],[]⟩).memory Tryd.f3.params.toList Rows.purlSpellingsMatchAlikeSpec.vars false #[Value.string ⟨#[]⟩,w0].toList 8=some ([.lit (.string []),.agg [.lit (.string []),.lit (.string []),.lit (.string []),.lit (.string []),.nil,.lit (.string [])]],[],places) :=
 ⟨[],by kernel_rfl⟩
theorem zm3(os:Os)(started:os.Started)(H:Type)(enc:TypeId×Value->H)(F:Stop.Interp) :
  ReturnsInHanded {} Tryd.checked os 3 .any ((Rows.OpenSpec.upto Rows.purlSpellingsMatchAlikeSpec).preRow enc Tryd.prog Tryd.f3 Rows.purlSpellingsMatchAlikeUptoRow.domain false Rows.purlSpellingsMatchAlikeUptoRow.laid) (((Rows.OpenSpec.upto Rows.purlSpellingsMatchAlikeSpec).at F).post enc Tryd.prog Tryd.f3 false true false false):=by
 obtain ⟨places,hx⟩:=zqA os enc
 refine returnsInHanded_of_row (C:=Tryd.checked) (s:=Rows.OpenSpec.upto Rows.purlSpellingsMatchAlikeSpec) own started (by kernel_rfl) Tryd.func3
  (zkU (enc:=enc) (C:=Tryd.checked) false (World.laidAll Tryd.prog os zd8) #[.string ⟨#[]⟩,w0] (World.laidAll_os _ _ _) (zqw os _) (by kernel_rfl)
   (OpenSpec.preRow_of_cond 8 hx (by kernel_rfl) (λk hk=>by cases hk;kernel_rfl) (by kernel_rfl) (zpx os _))) ?_
 intro W base args ds gs zcc hval hW _ hcond _ hL _ _;have hg:gs=[]:=by
  obtain ⟨p,q,_,hV,_,_,_⟩:=hW
  match gs,hV with
  |[],_=>rfl
 have hb:=of_decide_eq_true (hcond _ rfl);rw[hg,yAY] at hb;exact zjo H enc W base args ds gs zcc hval hW hb
theorem zo9:Rows.PurlSpellingsMatchAlikeUptoSaid :=
 OpenClaim.holds_of_cond 3 Tryd.f3 rfl rfl rfl rfl rfl rfl rfl ⟨rfl,rfl,rfl,rfl,rfl⟩ rfl rfl rfl rfl rfl (by kernel_rfl) Tryd.func3 (by kernel_rfl)
  (of_decide_eq_true (by kernel_rfl)) (by unfold Func.isWrapper;first|(rw[if_pos (by decide+kernel)];kernel_rfl)|(rw[if_neg (by decide+kernel)];exact ⟨rfl,rfl⟩))
  (λos started H enc _ F=>by rw[OpenClaim.pre_eq_preRow];exact zm3 os started H enc F)
theorem plain (f : FuncId) (fn : Func) (hf : Tryd.pinned.checked.prog.funcNamed "provender/provenderlaw2.PurlSpellingsMatchAlike" = some f) (hfn : Tryd.pinned.checked.prog.funcs[f]? = some fn) :
  false=Tryd.pinned.checked.prog.looks []/\∀(j:Nat) t,fn.params[j]?=some t->Tryd.pinned.checked.prog.wantsStandIn t=false:=by
 obtain rfl : f = 3 := yAt ((show Tryd.prog.funcNamed "provender/provenderlaw2.PurlSpellingsMatchAlike" = some 3 by kernel_rfl).symm.trans hf) |>.symm
 obtain rfl:fn=Tryd.f3:=(yAt (Tryd.func3.symm.trans hfn)).symm;refine ⟨by kernel_rfl,λj t ht=>?_⟩;rw[par3] at ht;have ht':t=9\/t=24:=by simpa using Array.mem_of_getElem? ht
 rcases ht' with rfl|rfl;·exact (show Tryd.prog.wantsStandIn 9=false by kernel_rfl)
 ·exact (show Tryd.prog.wantsStandIn 24=false by kernel_rfl)
theorem cardUpto:Rows.PurlSpellingsMatchAlikeUptoCardSaid :=
 Claim7.holds_tied_plain_at .later [] _ _ _ _ zo9 (λ_ h=>by cases h) (by kernel_rfl) (λ_ h=>by cases h) purlSpellingsMatchAlikeUpto_row_tie rfl ⟨rfl,rfl⟩ (by kernel_rfl) rfl plain (by kernel_rfl)
end law3
end Go.Proofs.YtbkjohfobibmlaaDoor
#print axioms Go.Proofs.YtbkjohfobibmlaaDoor.law3.cardUpto
