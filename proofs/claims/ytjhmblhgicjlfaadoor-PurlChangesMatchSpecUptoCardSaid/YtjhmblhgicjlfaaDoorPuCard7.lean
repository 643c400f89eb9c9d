/- PROVED: PurlChangesMatchSpec answers true for every name and all three texts of bulk at most 1048576. Condition: the package-level tables that the row lists hold what the program's text lays. -/
import Derived.Test.YtjhmblhgicjlfaaDoorPuIn
import Derived.Test.YtjhmblhgicjlfaaDoorPuE
set_option maxRecDepth 100000
namespace Go.Proofs.YtjhmblhgicjlfaaDoor
open Go Go.RowKit Go.WideShapes Go.ChangeShapes Go.ChangeAt Pe Pe.Tryd
namespace law7
theorem par:Tryd.f7.params= #[24,9,9,9]:=by kernel_rfl
theorem contract (H:Type) (enc:TypeId×Value→H) (W:World) (base:Nat) (args:Array Value) (ds gs:List (DataW H)) (before:List MemPlace)
  (hval:∀(j:Nat) t v,Tryd.f7.params[j]? =some t→args[j]? =some v→Value.okWide Tryd.prog W .any base t v)
  (hW:DataW.Whole enc Tryd.prog Tryd.f7.params.toList Rows.purlChangesMatchSpecSpec.vars false W args.toList ds gs before) (hc:Rows.uptoBulkAll ds≤1048576) :
  Calls Tryd.prog 7 args W fun e W'=>∃v,e= .returned v∧Rows.purlChangesMatchSpecSpec.post enc Tryd.prog Tryd.f7 false true false false W args v W':=by
 refine law_contract (fn:=Tryd.f7) (us:=[.st 4,.str,.str,.str]) uniOk.get_put stepM laidOut u4 (by kernel_rfl) ⟨mPurl,(fun n h=>⟨_,Tryd.underlying24⟩),by kernel_rfl,of_decide_eq_true (by kernel_rfl),mStr,(fun n h=>by cases h),by kernel_rfl,of_decide_eq_true (by kernel_rfl),mStr,(fun n h=>by cases h),by kernel_rfl,of_decide_eq_true (by kernel_rfl),mStr,(fun n h=>by cases h),by kernel_rfl,of_decide_eq_true (by kernel_rfl),trivial⟩ rfl (fun ds hl=> ?_) W base args ds gs before hval hW (fun y hy=> ?_)
 ·match ds,hl with
  | [d0,d1,d2,d3],_=>rfl
 ·obtain ⟨y0,y1,y2,y3,⟨⟩⟩:Gt.Purl×List UInt8×List UInt8×List UInt8×Unit:=y
  obtain ⟨p0,r0,rfl,a0,b0⟩:=hy.inv_st
  have x0:Rd un [.st 4] (sg (u:= .st 4) y0) [.agg p0]:= .st a0 .nil
  obtain ⟨r1,rfl,a1,b1⟩:=b0.inv_str
  obtain ⟨r2,rfl,a2,b2⟩:=b1.inv_str
  obtain ⟨r3,rfl,a3,b3⟩:=b2.inv_str
  simp only [Rows.uptoBulkAll] at hc
  have k0:=purl_small x0 (by simp only [Rows.uptoBulkAll];omega)
  exact Pe.Tryd.ok7 (orcN 100) (orcN_sound _) (y0,y1,y2,y3,()) (true,()) (L7 90 k0 y1 y2 y3)
def w:Array Value:= #[(.agg #[.string ⟨#[]⟩,.string ⟨#[]⟩,.string ⟨#[]⟩,.string ⟨#[]⟩,.slice none 0 0,.string ⟨#[]⟩]),(.string ⟨#[]⟩),(.string ⟨#[]⟩),(.string ⟨#[]⟩)]
theorem reads (os:Os) {H:Type} (enc:TypeId×Value→H):∃places,DataW.whole enc Tryd.prog ((World.laidAll Tryd.prog os theLaid).forCall (fun _ _=>0) ⟨#[],w,[]⟩).memory Tryd.f7.params.toList Rows.purlChangesMatchSpecSpec.vars false w.toList 8=some ([.agg [.lit (.string []),.lit (.string []),.lit (.string []),.lit (.string []),.nil,.lit (.string [])],.lit (.string []),.lit (.string []),.lit (.string [])],[],places) :=
 ⟨[],by kernel_rfl⟩
theorem liftedUpto (os:Os) (started:os.Started) (H:Type) (enc:TypeId×Value→H) (F:Stop.Interp) :
  ReturnsInHanded {} Tryd.checked os 7 .any ((Rows.OpenSpec.upto Rows.purlChangesMatchSpecSpec).preRow enc Tryd.prog Tryd.f7 Rows.purlChangesMatchSpecUptoRow.domain false Rows.purlChangesMatchSpecUptoRow.laid) (((Rows.OpenSpec.upto Rows.purlChangesMatchSpecSpec).at F).post enc Tryd.prog Tryd.f7 false true false false):=by
 obtain ⟨places,hx⟩:=reads os enc
 refine returnsInHanded_of_row (C:=Tryd.checked) (s:=Rows.OpenSpec.upto Rows.purlChangesMatchSpecSpec) own started (by kernel_rfl) Tryd.func7
  (witness_lay (enc:=enc) (C:=Tryd.checked) false (World.laidAll Tryd.prog os theLaid) w (World.laidAll_os _ _ _) (shaped0 os _) (by kernel_rfl)
   (OpenSpec.preRow_of_cond 8 hx (by kernel_rfl) (fun k hk=>by cases hk;kernel_rfl) (by kernel_rfl) (laid_met os _))) ?_
 intro W base args ds gs before hval hW _ hcond _ hL _ _
 have hg:gs=[]:=by
  obtain ⟨p,q,_,hV,_,_,_⟩:=hW
  match gs,hV with
  | [],_=>rfl
 have hb:=of_decide_eq_true (hcond _ rfl)
 rw [hg,List.append_nil] at hb
 exact contract H enc W base args ds gs before hval hW hb
theorem saidUpto:Rows.PurlChangesMatchSpecUptoSaid :=
 OpenClaim.holds_of_cond 7 Tryd.f7 rfl rfl rfl rfl rfl rfl rfl ⟨rfl,rfl,rfl,rfl,rfl⟩ rfl rfl rfl rfl rfl (by kernel_rfl) Tryd.func7 (by kernel_rfl)
  (of_decide_eq_true (by kernel_rfl)) (by unfold Func.isWrapper;first | (rw [if_pos (by decide+kernel)];kernel_rfl) | (rw [if_neg (by decide+kernel)];exact ⟨rfl,rfl⟩))
  (fun os started H enc _ F=>by rw [OpenClaim.pre_eq_preRow];exact liftedUpto os started H enc F)
theorem plain (f : FuncId) (fn : Func) (hf : Tryd.pinned.checked.prog.funcNamed "provender/provenderlaw2.PurlChangesMatchSpec" = some f) (hfn : Tryd.pinned.checked.prog.funcs[f]? = some fn) :
  false=Tryd.pinned.checked.prog.looks []∧∀(j:Nat) t,fn.params[j]? =some t→Tryd.pinned.checked.prog.wantsStandIn t=false:=by
 obtain rfl : f = 7 := Option.some.inj ((show Tryd.prog.funcNamed "provender/provenderlaw2.PurlChangesMatchSpec" = some 7 by kernel_rfl).symm.trans hf) |>.symm
 obtain rfl:fn=Tryd.f7:=(Option.some.inj (Tryd.func7.symm.trans hfn)).symm
 refine ⟨by kernel_rfl,fun j t ht=> ?_⟩
 rw [par] at ht
 have ht':t=24∨t=9∨t=9∨t=9:=by
  have:=Array.mem_of_getElem? ht
  simp only [List.mem_toArray,List.mem_cons,List.not_mem_nil,or_false] at this
  exact this
 rcases ht' with rfl | rfl | rfl | rfl
 ·exact (show Tryd.prog.wantsStandIn 24=false by kernel_rfl)
 ·exact (show Tryd.prog.wantsStandIn 9=false by kernel_rfl)
 ·exact (show Tryd.prog.wantsStandIn 9=false by kernel_rfl)
 ·exact (show Tryd.prog.wantsStandIn 9=false by kernel_rfl)
theorem cardUpto:Rows.PurlChangesMatchSpecUptoCardSaid :=
 Claim7.holds_tied_plain_at .later [] _ _ _ _ saidUpto (fun _ h=>by cases h) (by kernel_rfl) (fun _ h=>by cases h) purlChangesMatchSpecUpto_row_tie rfl ⟨rfl,rfl⟩ (by kernel_rfl) rfl plain (by kernel_rfl)
end law7
end Go.Proofs.YtjhmblhgicjlfaaDoor
#print axioms Go.Proofs.YtjhmblhgicjlfaaDoor.law7.cardUpto
