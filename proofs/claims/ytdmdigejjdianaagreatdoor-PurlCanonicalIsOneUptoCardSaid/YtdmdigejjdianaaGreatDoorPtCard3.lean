/- PROVED: PurlCanonicalIsOne answers true for every name of bulk at most 1048576. Condition: the package-level tables that the row lists hold what the program's text lays. -/
import Derived.Test.YtdmdigejjdianaaGreatDoorNm
import Derived.Test.YtdmdigejjdianaaGreatDoorPtI
set_option maxRecDepth 100000
namespace Go.Proofs.YtdmdigejjdianaaGreatDoor
open Go Go.RowKit Go.WideShapes Go.ChangeShapes Go.ChangeAt Pe Pe.Tryz
namespace law3
theorem par3:Tryz.f3.params= #[24]:=by kernel_rfl
theorem zin(H:Type)(enc:TypeId×Value->H)(W:World)(base:Nat)(args:Array Value)(ds gs:List (DataW H))(zb2:List MemPlace)
  (hval:∀(j:Nat) t v,Tryz.f3.params[j]?=some t->args[j]?=some v->Value.okWide Tryz.prog W .any base t v)
  (hW:DataW.Whole enc Tryz.prog Tryz.f3.params.toList Rows.purlCanonicalIsOneSpec.vars false W args.toList ds gs zb2) (hc:Rows.uptoBulkAll ds<=1048576) :
  Calls Tryz.prog 3 args W λe W'=>∃v,e= .returned v/\Rows.purlCanonicalIsOneSpec.post enc Tryz.prog Tryz.f3 false true false false W args v W':=by
 refine zjc (G:=zpN) (fn:=Tryz.f3) (us:=[.st 6]) stepM zo3 u4 (by kernel_rfl) ⟨mPurl,(λn h=>⟨_,Tryz.underlying24⟩),by kernel_rfl,of_decide_eq_true (by kernel_rfl),trivial⟩ rfl (λds hl=>?_) W base args ds gs zb2 hval hW (λy hy=>?_) (λt ht=>by cases ht)
 ·match ds,hl with
  |[d1],_=>rfl
 ·obtain ⟨p,⟨⟩⟩:Gt.Purl×Unit:=y;obtain ⟨ps,r,rfl,h5,_⟩:=hy.inv_st;have hx:Rd zpN [.st 6] (sg (u:= .st 6) p) [.agg ps]:= .st h5 .nil;simp only[Rows.uptoBulkAll,Rows.uptoBulk] at hc;exact Pe.Tryz.ok3 (zam 7) (zc9 _) (p,()) (true,()) (L3 0 (zlt hx (by simp only[Rows.uptoBulkAll,Rows.uptoBulk];omega)))
def w0:Value:= .agg #[.string ⟨#[]⟩,.string ⟨#[]⟩,.string ⟨#[]⟩,.string ⟨#[]⟩,.slice none 0 0,.string ⟨#[]⟩]
theorem zpB(os:Os){H:Type}(enc:TypeId×Value->H):∃places,DataW.whole enc Tryz.prog ((World.laidAll Tryz.prog os zdP).forCall (λ_ _=>0) ⟨#[],#[w0],[]⟩).memory Tryz.f3.params.toList Rows.purlCanonicalIsOneSpec.vars false #[w0].toList 8=some ([.agg [.lit (.string []),.lit (.string []),.lit (.string []),.lit (.string []),.nil,.lit (.string [])]],[],places) :=
 ⟨[],by kernel_rfl⟩
theorem zlD(os:Os)(started:os.Started)(H:Type)(enc:TypeId×Value->H)(F:Stop.Interp) :
  ReturnsInHanded {} Tryz.checked os 3 .any ((Rows.OpenSpec.upto Rows.purlCanonicalIsOneSpec).preRow enc Tryz.prog Tryz.f3 Rows.purlCanonicalIsOneUptoRow.domain false Rows.purlCanonicalIsOneUptoRow.laid) (((Rows.OpenSpec.upto Rows.purlCanonicalIsOneSpec).at F).post enc Tryz.prog Tryz.f3 false true false false):=by
 obtain ⟨places,hx⟩:=zpB os enc
 refine returnsInHanded_of_row (C:=Tryz.checked) (s:=Rows.OpenSpec.upto Rows.purlCanonicalIsOneSpec) own started (by kernel_rfl) Tryz.func3
  (zjM (enc:=enc) (C:=Tryz.checked) false (World.laidAll Tryz.prog os zdP) #[w0] (World.laidAll_os _ _ _) (zoM os _) (by kernel_rfl)
   (OpenSpec.preRow_of_cond 8 hx (by kernel_rfl) (λk hk=>by cases hk;kernel_rfl) (by kernel_rfl) (znU os _))) ?_
 intro W base args ds gs zb2 hval hW _ hcond _ hL _ _;have hg:gs=[]:=by
  obtain ⟨p,q,_,hV,_,_,_⟩:=hW
  match gs,hV with
  |[],_=>rfl
 have hb:=of_decide_eq_true (hcond _ rfl);rw[hg,yAW] at hb;exact zin H enc W base args ds gs zb2 hval hW hb
theorem znu:Rows.PurlCanonicalIsOneUptoSaid :=
 OpenClaim.holds_of_cond 3 Tryz.f3 rfl rfl rfl rfl rfl rfl rfl ⟨rfl,rfl,rfl,rfl,rfl⟩ rfl rfl rfl rfl rfl (by kernel_rfl) Tryz.func3 (by kernel_rfl)
  (of_decide_eq_true (by kernel_rfl)) (by unfold Func.isWrapper;first|(rw[if_pos (by decide+kernel)];kernel_rfl)|(rw[if_neg (by decide+kernel)];exact ⟨rfl,rfl⟩))
  (λos started H enc _ F=>by rw[OpenClaim.pre_eq_preRow];exact zlD os started H enc F)
theorem plain (f : FuncId) (fn : Func) (hf : Tryz.pinned.checked.prog.funcNamed "provender/provenderlaw2.PurlCanonicalIsOne" = some f) (hfn : Tryz.pinned.checked.prog.funcs[f]? = some fn) :
  true=Tryz.pinned.checked.prog.looks []/\∀(j:Nat) t,fn.params[j]?=some t->Tryz.pinned.checked.prog.wantsStandIn t=false:=by
 obtain rfl : f = 3 := yAy ((show Tryz.prog.funcNamed "provender/provenderlaw2.PurlCanonicalIsOne" = some 3 by kernel_rfl).symm.trans hf) |>.symm
 obtain rfl:fn=Tryz.f3:=(yAy (Tryz.func3.symm.trans hfn)).symm;refine ⟨by kernel_rfl,λj t ht=>?_⟩;rw[par3] at ht;have ht':t=24:=by simpa using Array.mem_of_getElem? ht
 subst ht';exact (show Tryz.prog.wantsStandIn 24=false by kernel_rfl)
theorem cardUpto:Rows.PurlCanonicalIsOneUptoCardSaid :=
 Claim7.holds_tied_plain_at .later [] _ _ _ _ znu (λ_ h=>by cases h) (by kernel_rfl) (λ_ h=>by cases h) purlCanonicalIsOneUpto_row_tie rfl ⟨rfl,rfl⟩ (by kernel_rfl) rfl plain (by kernel_rfl)
end law3
end Go.Proofs.YtdmdigejjdianaaGreatDoor
#print axioms Go.Proofs.YtdmdigejjdianaaGreatDoor.law3.cardUpto
