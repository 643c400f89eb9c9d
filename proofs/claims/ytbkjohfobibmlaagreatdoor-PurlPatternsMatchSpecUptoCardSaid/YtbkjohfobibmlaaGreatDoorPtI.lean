/- PROVED HERE: a part of the seat's proofs; see the text that holds the claim's theorem. -/
import Derived.Test.YtbkjohfobibmlaaGreatDoorNm
import Derived.Test.YtbkjohfobibmlaaGreatDoorCards
import Derived.Test.YtbkjohfobibmlaaGreatDoorTie
import Derived.Below
import Derived.ChangeSame
import Derived.WalkKit
import Derived.ProofKit
import Derived.OpenShut
import Derived.Deep.DeepHandedRow
import Derived.LaidMore
import Derived.Lay
import Derived.SevenTiedAt
import Derived.Stop.Joined
import Derived.Test.YtbkjohfobibmlaaGreatDoorPtK
import Derived.Test.YtbkjohfobibmlaaGreatDoorPeE
section
/- What each law's card shares: the world of the witness, the frame's end, the way from a pure model to a row's zky. -/
set_option maxRecDepth 100000
namespace Go.Proofs.YtbkjohfobibmlaaGreatDoor
open Go Go.RowKit Go.WideShapes Go.ChangeShapes Go.ChangeAt
section
variable{H:Type}{enc:TypeId×Value->H}{P:Program}
theorem zma{C:Checked}{os:Os}{f:FuncId}{fn:Func}{s:OpenSpec}{conds:List PathCond}{apart:Bool}{laid:List (String×DataW Unit)}(modest:Bool)(w0:World)(args:Array Value)(hos:w0.os=os)
  (hsh:(w0.forCall (λ_ _=>0) ⟨#[],args,[]⟩).Shaped C.prog)
  (hok:Input.okWideB C.prog (w0.forCall (λ_ _=>0) ⟨#[],args,[]⟩) f ⟨#[],args,[]⟩=true)
  (hrow:s.preRow enc C.prog fn conds apart laid (w0.forCall (λ_ _=>0) ⟨#[],args,[]⟩).memory args) :
  ∃(w:World) (tape:Tape) (i:Input),w.os=os/\(w.forCall tape i).Shaped C.prog/\i.vars=[]/\Input.okWide C.prog (w.forCall tape i) .any w.heap.size f i /\
   s.preRow enc C.prog fn conds apart laid (w.forCall tape i).memory i.args/\({ modest:=modest }:Assume).holds C.prog (lone (Frame.enter C.prog f i.args .normal) [] (w.forCall tape i)) :=
 ⟨w0,λ_ _=>0,⟨#[],args,[]⟩,hos,hsh,(Input.okWide_of_okWideB (base:=0) hok).1,(Input.okWide_of_okWideB hok).2,hrow,by simp only[Assume.holds];exact ⟨by simp,by simp,λ_=>Modest.zero,by simp,by simp⟩⟩
end
theorem own:ownKnob Tryz.prog.godebug=none:=by kernel_rfl
theorem u9:Tryz.prog.underlying 9=some .string:=by kernel_rfl
theorem u4:Tryz.prog.underlying 4=some .bool:=by kernel_rfl
def zeB:List (String×DataW Unit):=Rows.purlPatternsMatchSpecRow.laid
theorem fits0(os:Os):(World.holding Tryz.prog os ⟨#[],#[],[]⟩).layFits Tryz.prog zeB []=true:=by kernel_rfl
theorem zsY(os:Os):(World.holding Tryz.prog os ⟨#[],#[],[]⟩).layIfaces Tryz.prog zeB (World.laidAll Tryz.prog os zeB)=true:=by kernel_rfl
theorem zrt(os:Os)(args:Array Value):laidMetH Tryz.prog zeB ((World.laidAll Tryz.prog os zeB).forCall (λ_ _=>0) ⟨#[],args,[]⟩).memory:=by rw[MakeChecks.laidMetH_plain _ _ _ (by kernel_rfl)];exact laidMet_laidAll _ (fits0 os) (zsY os)
theorem zsx(os:Os)(args:Array Value):((World.laidAll Tryz.prog os zeB).forCall (λ_ _=>0) ⟨#[],args,[]⟩).Shaped Tryz.prog :=
 World.shaped_of_ZipB (by kernel_rfl) (by kernel_rfl)
end Go.Proofs.YtbkjohfobibmlaaGreatDoor
end
section
/- What is handed in to the laws of names: which types are read as which codes; a name of bounded bulk has few qualifiers. -/
set_option maxRecDepth 100000
namespace Go.Proofs.YtbkjohfobibmlaaGreatDoor
open Go Go.RowKit Go.WideShapes Go.ChangeShapes Go.ChangeAt Pe Pe.Tryz
def zt0:Grp un:=Grp.plain un zaB.get_put λn=>match n with|0=>rfl|1=>rfl|2=>rfl|3=>rfl|4=>rfl|5=>rfl|6=>rfl|7=>rfl|8=>rfl|9=>rfl|10=>rfl|11=>rfl|12=>rfl|13=>rfl|14=>rfl|15=>rfl|16=>rfl|_+17=>rfl
def M:U->TypeId->Prop:=λu t=>(u= .str/\t=9)\/(u= .st 2/\t=95)\/(u= .sl (.st 2)/\t=22)\/(u= .st 3/\t=24)
theorem zrZ:M .str 9:= .inl ⟨rfl,rfl⟩
theorem mPair:M (.st 2) 95:= .inr (.inl ⟨rfl,rfl⟩)
theorem ztR:M (.sl (.st 2)) 22:= .inr (.inr (.inl ⟨rfl,rfl⟩))
theorem mPurl:M (.st 3) 24:= .inr (.inr (.inr ⟨rfl,rfl⟩))
theorem stepM:∀u t,M u t->zuL zt0 Tryz.prog M u t:=by
 intro u t h;rcases h with ⟨rfl,rfl⟩|⟨rfl,rfl⟩|⟨rfl,rfl⟩|⟨rfl,rfl⟩;·exact u9
 ·exact ⟨by kernel_rfl,.inl ⟨_,Tryz.underlying95,⟨by kernel_rfl,by kernel_rfl,zrZ,by kernel_rfl,by kernel_rfl,zrZ,trivial⟩⟩⟩
 ·exact ⟨95,Tryz.underlying22,by kernel_rfl,by decide,mPair⟩
 ·exact ⟨by kernel_rfl,.inl ⟨_,Tryz.underlying24,⟨by kernel_rfl,by kernel_rfl,zrZ,by kernel_rfl,by kernel_rfl,zrZ,by kernel_rfl,by kernel_rfl,zrZ,by kernel_rfl,by kernel_rfl,zrZ,by kernel_rfl,by kernel_rfl,ztR,by kernel_rfl,by kernel_rfl,zrZ,trivial⟩⟩⟩
theorem zsR:laidOutB Tryz.prog=true:=by kernel_rfl
theorem zrF{H:Type}(d:DataW H):1<=Rows.uptoBulk d:=by
 cases d with
 |lit l=>cases l<;>simp[Rows.uptoBulk]|_=>simp[Rows.uptoBulk]
theorem znW{H:Type}:∀(l:List (DataW H)),l.length<=Rows.uptoBulkAll l
 |[]=>by simp
 |x::r=>by have:=znW r;have:=zrF x;simp only[Rows.uptoBulkAll,yAi];omega
theorem zol{H:Type}{p:Gt.Purl}{ds:List (DataW H)}(h:Rd zt0 [.st 3] (sg (u:= .st 3) p) ds)(hc:Rows.uptoBulkAll ds<=1048576):p.qualifiers.length<=1000000000:=by
 obtain ⟨ps,r,rfl,h1,_⟩:=h.inv_st;have h1:Rd zt0 [.str,.str,.str,.str,.sl (.st 2),.str] ((p.kind,p.space,p.name,p.version,p.qualifiers,p.sub,()):ElL Sx [.str,.str,.str,.str,.sl (.st 2),.str]) ps:=h1;obtain ⟨r1,rfl,w1,h2⟩:=h1.inv_str;obtain ⟨r2,rfl,w2,h3⟩:=h2.inv_str;obtain ⟨r3,rfl,w3,h4⟩:=h3.inv_str;obtain ⟨r4,rfl,w4,h5⟩:=h4.inv_str;obtain ⟨dk,r5,rfl,h6,h7⟩:=h5.inv_sl;rcases h6 with ⟨_,h0⟩|⟨es,sp,rfl,hl,_⟩
 ·have h0:p.qualifiers=[]:=h0;rw[h0];simp
 ·have hl':es.length=p.qualifiers.length:=hl;have:=znW es;simp only[Rows.uptoBulk,Rows.uptoBulkAll] at hc;omega
end Go.Proofs.YtbkjohfobibmlaaGreatDoor
end
