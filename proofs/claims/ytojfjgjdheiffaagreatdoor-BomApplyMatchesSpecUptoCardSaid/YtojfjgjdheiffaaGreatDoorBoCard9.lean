/- PROVED: BomApplyMatchesSpec answers true for every bill and row of changes of bulk at most 1048576. Condition: the package-level tables that the row lists hold what the program's text lays. -/
import Derived.Test.YtojfjgjdheiffaaGreatDoorNm
import Derived.Test.YtojfjgjdheiffaaGreatDoorBoH
import Derived.Test.YtojfjgjdheiffaaGreatDoorBoK
set_option maxRecDepth 100000
namespace Go.Proofs.YtojfjgjdheiffaaGreatDoor
open Go Go.RowKit Go.WideShapes Go.ChangeShapes Go.ChangeAt Pe Pe.Tryz
namespace law9
theorem zua{H:Type}(x:Gt.BillChange)(d:DataW H)(h:Rd zmZ [.st 4] (sg (u:= .st 4) x) [d])(hb:Rows.uptoBulk d<=2000000):SmK x:=by obtain ⟨ps,r,h0,h1,_⟩:=h.inv_st;obtain ⟨rfl,_⟩:=List.cons.inj h0;have h1:Rd zmZ [.int .i64,.str,.str,.sl (.st 5),.sl (.st 7)] ((x.kind,x.ref,x.text,x.component,x.edge,()):ElL Sx [.int .i64,.str,.str,.sl (.st 5),.sl (.st 7)]) ps:=h1;obtain ⟨r1,rfl,w1,h2⟩:=h1.inv_int;obtain ⟨r2,rfl,w2,h3⟩:=h2.inv_str;obtain ⟨r3,rfl,w3,h4⟩:=h3.inv_str;obtain ⟨d4,r4,rfl,k4,h5⟩:=h4.inv_sl;have hb:Rows.uptoBulk (H:=H) (.agg (.lit (.int .i64 x.kind):: .lit (.string x.ref):: .lit (.string x.text)::d4::r4))<=2000000:=hb;simp only[Rows.uptoBulk,Rows.uptoBulkAll] at hb;obtain ⟨_,a2⟩:=zf8 (u:= .st 5) (l:=x.component) k4 (by omega) λs d=>zn6 s d;exact ⟨by omega,a2⟩
theorem par9:Tryz.f9.params= #[25,58]:=by kernel_rfl
theorem zf1(H:Type)(enc:TypeId×Value->H)(W:World)(base:Nat)(args:Array Value)(ds gs:List (DataW H))(before:List MemPlace)
  (hval:∀(j:Nat) t v,Tryz.f9.params[j]?=some t->args[j]?=some v->Value.okWide Tryz.prog W .any base t v)
  (hW:DataW.Whole enc Tryz.prog Tryz.f9.params.toList Rows.bomApplyMatchesSpecSpec.vars false W args.toList ds gs before) (hc:Rows.uptoBulkAll ds<=1048576) :
  Calls Tryz.prog 9 args W λe W'=>∃v,e= .returned v/\Rows.bomApplyMatchesSpecSpec.post enc Tryz.prog Tryz.f9 false true false false W args v W':=by
 refine zk7 (G:=zmZ) (fn:=Tryz.f9) (us:=[.st 3,.sl (.st 4)]) stepM zrI u4 (by kernel_rfl) ⟨mBill,(λn h=>⟨_,Tryz.underlying25⟩),by kernel_rfl,of_decide_eq_true (by kernel_rfl),mChs,(λn h=>by cases h),by kernel_rfl,of_decide_eq_true (by kernel_rfl),trivial⟩ rfl (λds hl=>?_) W base args ds gs before hval hW (λy hy=>?_)
 ·match ds,hl with
  |[d0,d1],_=>rfl
 ·obtain ⟨b,l,⟨⟩⟩:Gt.Bill×List Gt.BillChange×Unit:=y;obtain ⟨ps,q,rfl,h5,h6⟩:=hy.inv_st;have hbx:Rd zmZ [.st 3] (sg (u:= .st 3) b) [.agg ps]:= .st h5 .nil;obtain ⟨d2,r2,rfl,k2,h7⟩:=h6.inv_sl;simp only[Rows.uptoBulkAll] at hc;have k:=zoc b _ hbx (by omega);obtain ⟨_,a2⟩:=zf8 (u:= .st 4) (l:=l) k2 (by omega) λx d=>zua x d;exact Pe.Tryz.ok9 (zah 300) (zdl _) (b,l,()) (true,()) (L9 (by omega) k a2)
def w0:Value:= .agg #[.string ⟨#[]⟩,.string ⟨#[]⟩,.string ⟨#[]⟩,.slice none 0 0,.slice none 0 0]
def w:Array Value:= #[w0,.slice none 0 0]
theorem reads(os:Os){H:Type}(enc:TypeId×Value->H):∃places,DataW.whole enc Tryz.prog ((World.laidAll Tryz.prog os zd2).forCall (λ_ _=>0) ⟨#[],w,[]⟩).memory Tryz.f9.params.toList Rows.bomApplyMatchesSpecSpec.vars false w.toList 8=some ([.agg [.lit (.string []),.lit (.string []),.lit (.string []),.nil,.nil],.nil],[],places) :=
 ⟨[],by kernel_rfl⟩
theorem znS(os:Os)(started:os.Started)(H:Type)(enc:TypeId×Value->H)(F:Stop.Interp) :
  ReturnsInHanded {} Tryz.checked os 9 .any ((Rows.OpenSpec.upto Rows.bomApplyMatchesSpecSpec).preRow enc Tryz.prog Tryz.f9 Rows.bomApplyMatchesSpecUptoRow.domain false Rows.bomApplyMatchesSpecUptoRow.laid) (((Rows.OpenSpec.upto Rows.bomApplyMatchesSpecSpec).at F).post enc Tryz.prog Tryz.f9 false true false false):=by
 obtain ⟨places,hx⟩:=reads os enc
 refine returnsInHanded_of_row (C:=Tryz.checked) (s:=Rows.OpenSpec.upto Rows.bomApplyMatchesSpecSpec) own started (by kernel_rfl) Tryz.func9
  (zlM (enc:=enc) (C:=Tryz.checked) false (World.laidAll Tryz.prog os zd2) w (World.laidAll_os _ _ _) (zrr os _) (by kernel_rfl)
   (OpenSpec.preRow_of_cond 8 hx (by kernel_rfl) (λk hk=>by cases hk;kernel_rfl) (by kernel_rfl) (zqI os _))) ?_
 intro W base args ds gs before hval hW _ hcond _ hL _ _;have hg:gs=[]:=by
  obtain ⟨p,q,_,hV,_,_,_⟩:=hW
  match gs,hV with
  |[],_=>rfl
 have hb:=of_decide_eq_true (hcond _ rfl);rw[hg,yAR] at hb;exact zf1 H enc W base args ds gs before hval hW hb
theorem cl1:(Rows.bomApplyMatchesSpecUptoRow.inPlace==Tryz.prog.inPlace 9)=true:=by kernel_rfl
theorem cl2:(Rows.bomApplyMatchesSpecUptoRow.unfollowed==Tryz.prog.unfollowed 9)=true:=by kernel_rfl
theorem cl3:(Rows.bomApplyMatchesSpecUptoRow.recurses==Tryz.prog.recurses 9)=true:=by kernel_rfl
theorem cl4:(Rows.bomApplyMatchesSpecUptoRow.named==Tryz.prog.varsNamed 9)=true:=by kernel_rfl
theorem zvq:joinedFacts Tryz.prog 9 Tryz.f9 (Rows.OpenSpec.upto Rows.bomApplyMatchesSpecSpec).bare Rows.bomApplyMatchesSpecUptoRow=true:=by
 unfold joinedFacts;rw[cl1,cl2,cl3,cl4]
 kernel_rfl
theorem zqf:Rows.BomApplyMatchesSpecUptoSaid :=
 OpenClaim.holds_of_cond 9 Tryz.f9 rfl rfl rfl rfl rfl rfl rfl ⟨rfl,rfl,rfl,rfl,rfl⟩ rfl rfl rfl rfl rfl (by kernel_rfl) Tryz.func9 zvq
  (of_decide_eq_true (by kernel_rfl)) (by unfold Func.isWrapper;first|(rw[if_pos (by decide+kernel)];kernel_rfl)|(rw[if_neg (by decide+kernel)];exact ⟨rfl,rfl⟩))
  (λos started H enc _ F=>by rw[OpenClaim.pre_eq_preRow];exact znS os started H enc F)
theorem plain (f : FuncId) (fn : Func) (hf : Tryz.pinned.checked.prog.funcNamed "provender/provenderlaw4.BomApplyMatchesSpec" = some f) (hfn : Tryz.pinned.checked.prog.funcs[f]? = some fn) :
  true=Tryz.pinned.checked.prog.looks []/\∀(j:Nat) t,fn.params[j]?=some t->Tryz.pinned.checked.prog.wantsStandIn t=false:=by
 obtain rfl : f = 9 := yAS ((show Tryz.prog.funcNamed "provender/provenderlaw4.BomApplyMatchesSpec" = some 9 by kernel_rfl).symm.trans hf) |>.symm
 obtain rfl:fn=Tryz.f9:=(yAS (Tryz.func9.symm.trans hfn)).symm;refine ⟨by kernel_rfl,λj t ht=>?_⟩;rw[par9] at ht;have ht':t=25\/t=58:=by have:=Array.mem_of_getElem? ht;simp only[List.mem_toArray,yAm,yAX,or_false] at this;exact this
 rcases ht' with rfl|rfl;·exact (show Tryz.prog.wantsStandIn 25=false by kernel_rfl)
 ·exact (show Tryz.prog.wantsStandIn 58=false by kernel_rfl)
theorem wf1:Rows.bomApplyMatchesSpecUptoRow.wfByText (Rows.OpenSpec.upto Rows.bomApplyMatchesSpecSpec)=true:=by kernel_rfl
theorem mn1 : Tryz.pinned.checked.prog.mainIs = some (true, "391c0bdd617fb8033717c8ec64d112760f28bb5ac3bda4e7daf8828759e126a0".toList) := by kernel_rfl
theorem gb1:false=Rows.bomApplyMatchesSpecUptoRow.goesBy Tryz.pinned.checked.prog:=by kernel_rfl
theorem cardUpto:Rows.BomApplyMatchesSpecUptoCardSaid :=
 Claim7.holds_tied_plain_at .later [] _ _ _ _ zqf (λ_ h=>by cases h) wf1 (λ_ h=>by cases h) bomApplyMatchesSpecUpto_row_tie rfl ⟨rfl,rfl⟩ mn1 rfl plain gb1
end law9
end Go.Proofs.YtojfjgjdheiffaaGreatDoor
#print axioms Go.Proofs.YtojfjgjdheiffaaGreatDoor.law9.cardUpto
