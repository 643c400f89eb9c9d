/- PROVED: PurlDigestsMatchSpec answers true for every text and digests of bulk at most 1048576. Condition: the package-level tables that the row lists hold what the program's text lays. -/
import Derived.Test.YtiapbmjlocfhgaaDoorNm
import Derived.Test.YtiapbmjlocfhgaaDoorPtI
set_option maxRecDepth 100000
namespace Go.Proofs.YtiapbmjlocfhgaaDoor
open Go Go.RowKit Go.WideShapes Go.ChangeShapes Go.ChangeAt Pe Pe.Tryd
namespace law3
theorem par3:Tryd.f3.params= #[9,22,22]:=by kernel_rfl
theorem zvh{H:Type}{us:List U}{t:ElL Sx (.sl (.st 1)::us)}{ds:List (DataW H)}(h:Rd zt0 (.sl (.st 1)::us) t ds):∃d r,ds=d::r/\Rd zt0 [.sl (.st 1)] (sg (u:= .sl (.st 1)) (eL (hd t))) [d]/\Rd zt0 us (tl t) r:=by
 cases h with
 |sl0 h0 h=>exact ⟨_,_,rfl,.sl0 h0 .nil,h⟩|sl es sp hl h1 h=>exact ⟨_,_,rfl,.sl es sp hl h1 .nil,h⟩
theorem zky(H:Type)(enc:TypeId×Value->H)(W:World)(base:Nat)(args:Array Value)(ds gs:List (DataW H))(before:List MemPlace)
  (hval:∀(j:Nat) t v,Tryd.f3.params[j]?=some t->args[j]?=some v->Value.okWide Tryd.prog W .any base t v)
  (hW:DataW.Whole enc Tryd.prog Tryd.f3.params.toList Rows.purlDigestsMatchSpecSpec.vars false W args.toList ds gs before) (hc:Rows.uptoBulkAll ds<=1048576) (hL:laidMetH Tryd.prog zeB W) :
  Calls Tryd.prog 3 args W λe W'=>∃v,e= .returned v/\Rows.purlDigestsMatchSpecSpec.post enc Tryd.prog Tryd.f3 false true false false W args v W':=by
 refine zlA (G:=zt0) (fn:=Tryd.f3) (us:=[.str,.sl (.st 1),.sl (.st 1)]) stepM zsR u4 (by kernel_rfl) ⟨zrZ,(λn h=>by cases h),by kernel_rfl,of_decide_eq_true (by kernel_rfl),zvA,(λn h=>by cases h),by kernel_rfl,of_decide_eq_true (by kernel_rfl),zvA,(λn h=>by cases h),by kernel_rfl,of_decide_eq_true (by kernel_rfl),trivial⟩ rfl (λds hl=>?_) W base args ds gs before hval hW (λy hy=>?_) (zvo hL)
 ·match ds,hl with
  |[d1,d2,d3],_=>rfl
 ·obtain ⟨s,a,b,⟨⟩⟩:List UInt8×List Gt.Digest×List Gt.Digest×Unit:=y;obtain ⟨r0,rfl,_,hy⟩:=hy.inv_str;obtain ⟨da,r1,rfl,ga,hy⟩:=zvh hy;obtain ⟨db,r2,rfl,gb,_⟩:=zvh hy;have ga:Rd zt0 [.sl (.st 1)] (sg (u:= .sl (.st 1)) a) [da]:=ga;have gb:Rd zt0 [.sl (.st 1)] (sg (u:= .sl (.st 1)) b) [db]:=gb;have hc:s.length+1+(Rows.uptoBulk da+(Rows.uptoBulk db+Rows.uptoBulkAll r2))<=1048576:=by
   simp only[Rows.uptoBulkAll,Rows.uptoBulk] at hc;exact hc
  have hs:s.length<=1000000000:=by omega
  exact Pe.Tryd.ok3 (zal 7) (zdR _) (s,a,b,()) (true,()) (L3 0 hs (zuX ga (by simp only[Rows.uptoBulkAll];omega)) (zuX gb (by simp only[Rows.uptoBulkAll];omega)))
def w0:Value:= .slice none 0 0
theorem zsA(os:Os){H:Type}(enc:TypeId×Value->H):∃places,DataW.whole enc Tryd.prog ((World.laidAll Tryd.prog os zeB).forCall (λ_ _=>0) ⟨#[],#[.string ⟨#[]⟩,w0,w0],[]⟩).memory Tryd.f3.params.toList Rows.purlDigestsMatchSpecSpec.vars false #[Value.string ⟨#[]⟩,w0,w0].toList 8=some ([.lit (.string []),.nil,.nil],[],places) :=
 ⟨[],by kernel_rfl⟩
theorem zoy(os:Os)(started:os.Started)(H:Type)(enc:TypeId×Value->H)(F:Stop.Interp) :
  ReturnsInHanded {} Tryd.checked os 3 .any ((Rows.OpenSpec.upto Rows.purlDigestsMatchSpecSpec).preRow enc Tryd.prog Tryd.f3 Rows.purlDigestsMatchSpecUptoRow.domain false Rows.purlDigestsMatchSpecUptoRow.laid) (((Rows.OpenSpec.upto Rows.purlDigestsMatchSpecSpec).at F).post enc Tryd.prog Tryd.f3 false true false false):=by
 obtain ⟨places,hx⟩:=zsA os enc
 refine returnsInHanded_of_row (C:=Tryd.checked) (s:=Rows.OpenSpec.upto Rows.purlDigestsMatchSpecSpec) own started (by kernel_rfl) Tryd.func3
  (zma (enc:=enc) (C:=Tryd.checked) false (World.laidAll Tryd.prog os zeB) #[.string ⟨#[]⟩,w0,w0] (World.laidAll_os _ _ _) (zsx os _) (by kernel_rfl)
   (OpenSpec.preRow_of_cond 8 hx (by kernel_rfl) (λk hk=>by cases hk;kernel_rfl) (by kernel_rfl) (zrt os _))) ?_
 intro W base args ds gs before hval hW _ hcond _ hL _ _;have hg:gs=[]:=by
  obtain ⟨p,q,_,hV,_,_,_⟩:=hW
  match gs,hV with
  |[],_=>rfl
 have hb:=of_decide_eq_true (hcond _ rfl);rw[hg,yAR] at hb;exact zky H enc W base args ds gs before hval hW hb hL
theorem zq6:Rows.PurlDigestsMatchSpecUptoSaid :=
 OpenClaim.holds_of_cond 3 Tryd.f3 rfl rfl rfl rfl rfl rfl rfl ⟨rfl,rfl,rfl,rfl,rfl⟩ rfl rfl rfl rfl rfl (by kernel_rfl) Tryd.func3 (by kernel_rfl)
  (of_decide_eq_true (by kernel_rfl)) (by unfold Func.isWrapper;first|(rw[if_pos (by decide+kernel)];kernel_rfl)|(rw[if_neg (by decide+kernel)];exact ⟨rfl,rfl⟩))
  (λos started H enc _ F=>by rw[OpenClaim.pre_eq_preRow];exact zoy os started H enc F)
theorem plain (f : FuncId) (fn : Func) (hf : Tryd.pinned.checked.prog.funcNamed "provender/provenderlaw2.PurlDigestsMatchSpec" = some f) (hfn : Tryd.pinned.checked.prog.funcs[f]? = some fn) :
  false=Tryd.pinned.checked.prog.looks []/\∀(j:Nat) t,fn.params[j]?=some t->Tryd.pinned.checked.prog.wantsStandIn t=false:=by
 obtain rfl : f = 3 := yAp ((show Tryd.prog.funcNamed "provender/provenderlaw2.PurlDigestsMatchSpec" = some 3 by kernel_rfl).symm.trans hf) |>.symm
 obtain rfl:fn=Tryd.f3:=(yAp (Tryd.func3.symm.trans hfn)).symm;refine ⟨by kernel_rfl,λj t ht=>?_⟩;rw[par3] at ht;have ht':t=9\/t=22:=by simpa using Array.mem_of_getElem? ht
 rcases ht' with rfl|rfl;·exact (show Tryd.prog.wantsStandIn 9=false by kernel_rfl)
 ·exact (show Tryd.prog.wantsStandIn 22=false by kernel_rfl)
theorem cardUpto:Rows.PurlDigestsMatchSpecUptoCardSaid :=
 Claim7.holds_tied_plain_at .later [] _ _ _ _ zq6 (λ_ h=>by cases h) (by kernel_rfl) (λ_ h=>by cases h) purlDigestsMatchSpecUpto_row_tie rfl ⟨rfl,rfl⟩ (by kernel_rfl) rfl plain (by kernel_rfl)
end law3
end Go.Proofs.YtiapbmjlocfhgaaDoor
#print axioms Go.Proofs.YtiapbmjlocfhgaaDoor.law3.cardUpto
