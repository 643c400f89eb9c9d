/- PROVED HERE: a part of the seat's proofs; see the text that holds the claim's theorem. -/
import Derived.Test.YtdmdigejjdianaaGreatDoorNm
import Derived.Test.YtdmdigejjdianaaGreatDoorCards
import Derived.Test.YtdmdigejjdianaaGreatDoorTie
import Derived.Below
import Derived.ChangeSame
import Derived.WalkKit
import Derived.ProofKit
import Derived.OpenShut
import Derived.Deep.DeepHandedRow
import Derived.LaidMore
import Derived.Lay
import Derived.SevenTiedAt
import Derived.Stop.Joined
import Derived.Test.YtdmdigejjdianaaGreatDoorPtF
import Derived.Test.YtdmdigejjdianaaGreatDoorPeE
section
/- What each law's card shares: the world of the witness, the frame's end, the way from a pure model to a row's zin. -/
set_option maxRecDepth 100000
namespace Go.Proofs.YtdmdigejjdianaaGreatDoor
open Go Go.RowKit Go.WideShapes Go.ChangeShapes Go.ChangeAt
section
variable{H:Type}{enc:TypeId×Value->H}{P:Program}
theorem zjM{C:Checked}{os:Os}{f:FuncId}{fn:Func}{s:OpenSpec}{conds:List PathCond}{apart:Bool}{laid:List (String×DataW Unit)}(modest:Bool)(w0:World)(args:Array Value)(hos:w0.os=os)
  (hsh:(w0.forCall (λ_ _=>0) ⟨#[],args,[]⟩).Shaped C.prog)
  (hok:Input.okWideB C.prog (w0.forCall (λ_ _=>0) ⟨#[],args,[]⟩) f ⟨#[],args,[]⟩=true)
  (hrow:s.preRow enc C.prog fn conds apart laid (w0.forCall (λ_ _=>0) ⟨#[],args,[]⟩).memory args) :
  ∃(w:World) (tape:Tape) (i:Input),w.os=os/\(w.forCall tape i).Shaped C.prog/\i.vars=[]/\Input.okWide C.prog (w.forCall tape i) .any w.heap.size f i /\
   s.preRow enc C.prog fn conds apart laid (w.forCall tape i).memory i.args/\({ modest:=modest }:Assume).holds C.prog (lone (Frame.enter C.prog f i.args .normal) [] (w.forCall tape i)) :=
 ⟨w0,λ_ _=>0,⟨#[],args,[]⟩,hos,hsh,(Input.okWide_of_okWideB (base:=0) hok).1,(Input.okWide_of_okWideB hok).2,hrow,by simp only[Assume.holds];exact ⟨by simp,by simp,λ_=>Modest.zero,by simp,by simp⟩⟩
end
theorem own:ownKnob Tryz.prog.godebug=none:=by kernel_rfl
theorem u9:Tryz.prog.underlying 9=some .string:=by kernel_rfl
theorem u4:Tryz.prog.underlying 4=some .bool:=by kernel_rfl
def zdP:List (String×DataW Unit):=Rows.purlCanonicalIsOneRow.laid
theorem fits0(os:Os):(World.holding Tryz.prog os ⟨#[],#[],[]⟩).layFits Tryz.prog zdP []=true:=by kernel_rfl
theorem zpa(os:Os):(World.holding Tryz.prog os ⟨#[],#[],[]⟩).layIfaces Tryz.prog zdP (World.laidAll Tryz.prog os zdP)=true:=by kernel_rfl
theorem znU(os:Os)(args:Array Value):laidMetH Tryz.prog zdP ((World.laidAll Tryz.prog os zdP).forCall (λ_ _=>0) ⟨#[],args,[]⟩).memory:=by rw[MakeChecks.laidMetH_plain _ _ _ (by kernel_rfl)];exact laidMet_laidAll _ (fits0 os) (zpa os)
theorem zoM(os:Os)(args:Array Value):((World.laidAll Tryz.prog os zdP).forCall (λ_ _=>0) ⟨#[],args,[]⟩).Shaped Tryz.prog :=
 World.shaped_of_ZipB (by kernel_rfl) (by kernel_rfl)
end Go.Proofs.YtdmdigejjdianaaGreatDoor
end
section
/- What is handed in to the laws of names: which types are read as which codes; a name of bounded bulk has few qualifiers. -/
set_option maxRecDepth 100000
namespace Go.Proofs.YtdmdigejjdianaaGreatDoor
open Go Go.RowKit Go.WideShapes Go.ChangeShapes Go.ChangeAt Pe Pe.Tryz
def zpN:Grp un:=Grp.plain un zaz.get_put λn=>match n with|0=>rfl|1=>rfl|2=>rfl|3=>rfl|4=>rfl|5=>rfl|6=>rfl|7=>rfl|8=>rfl|9=>rfl|10=>rfl|11=>rfl|12=>rfl|13=>rfl|14=>rfl|15=>rfl|16=>rfl|_+17=>rfl
def M:U->TypeId->Prop:=λu t=>(u= .str/\t=9)\/(u= .st 5/\t=43)\/(u= .sl (.st 5)/\t=22)\/(u= .st 6/\t=24)
theorem zo0:M .str 9:= .inl ⟨rfl,rfl⟩
theorem mPair:M (.st 5) 43:= .inr (.inl ⟨rfl,rfl⟩)
theorem zpI:M (.sl (.st 5)) 22:= .inr (.inr (.inl ⟨rfl,rfl⟩))
theorem mPurl:M (.st 6) 24:= .inr (.inr (.inr ⟨rfl,rfl⟩))
theorem stepM:∀u t,M u t->zqw zpN Tryz.prog M u t:=by
 intro u t h;rcases h with ⟨rfl,rfl⟩|⟨rfl,rfl⟩|⟨rfl,rfl⟩|⟨rfl,rfl⟩;·exact u9
 ·exact ⟨by kernel_rfl,.inl ⟨_,Tryz.underlying43,⟨by kernel_rfl,by kernel_rfl,zo0,by kernel_rfl,by kernel_rfl,zo0,trivial⟩⟩⟩
 ·exact ⟨43,Tryz.underlying22,by kernel_rfl,by decide,mPair⟩
 ·exact ⟨by kernel_rfl,.inl ⟨_,Tryz.underlying24,⟨by kernel_rfl,by kernel_rfl,zo0,by kernel_rfl,by kernel_rfl,zo0,by kernel_rfl,by kernel_rfl,zo0,by kernel_rfl,by kernel_rfl,zo0,by kernel_rfl,by kernel_rfl,zpI,by kernel_rfl,by kernel_rfl,zo0,trivial⟩⟩⟩
theorem zo3:laidOutB Tryz.prog=true:=by kernel_rfl
theorem zn6{H:Type}(d:DataW H):1<=Rows.uptoBulk d:=by
 cases d with
 |lit l=>cases l<;>simp[Rows.uptoBulk]|_=>simp[Rows.uptoBulk]
theorem zk8{H:Type}:∀(l:List (DataW H)),l.length<=Rows.uptoBulkAll l
 |[]=>by simp
 |x::r=>by have:=zk8 r;have:=zn6 x;simp only[Rows.uptoBulkAll,yAA];omega
theorem zlt{H:Type}{p:Gt.Purl}{ds:List (DataW H)}(h:Rd zpN [.st 6] (sg (u:= .st 6) p) ds)(hc:Rows.uptoBulkAll ds<=1048576):p.qualifiers.length<=1000000000:=by
 obtain ⟨ps,r,rfl,h1,_⟩:=h.inv_st;have h1:Rd zpN [.str,.str,.str,.str,.sl (.st 5),.str] ((p.kind,p.space,p.name,p.version,p.qualifiers,p.sub,()):ElL Sx [.str,.str,.str,.str,.sl (.st 5),.str]) ps:=h1;obtain ⟨r1,rfl,w1,h2⟩:=h1.inv_str;obtain ⟨r2,rfl,w2,h3⟩:=h2.inv_str;obtain ⟨r3,rfl,w3,h4⟩:=h3.inv_str;obtain ⟨r4,rfl,w4,h5⟩:=h4.inv_str;obtain ⟨dk,r5,rfl,h6,h7⟩:=h5.inv_sl;rcases h6 with ⟨_,h0⟩|⟨es,sp,rfl,hl,_⟩
 ·have h0:p.qualifiers=[]:=h0;rw[h0];simp
 ·have hl':es.length=p.qualifiers.length:=hl;have:=zk8 es;simp only[Rows.uptoBulk,Rows.uptoBulkAll] at hc;omega
end Go.Proofs.YtdmdigejjdianaaGreatDoor
end
