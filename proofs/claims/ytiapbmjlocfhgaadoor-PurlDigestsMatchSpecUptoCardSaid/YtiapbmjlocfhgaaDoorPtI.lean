/- PROVED HERE: a part of the seat's proofs; see the text that holds the claim's theorem. -/
import Derived.Test.YtiapbmjlocfhgaaDoorNm
import Derived.Test.YtiapbmjlocfhgaaDoorCards
import Derived.Test.YtiapbmjlocfhgaaDoorTie
import Derived.Lib.LaidTab
import Derived.Below
import Derived.ChangeSame
import Derived.WalkKit
import Derived.ProofKit
import Derived.OpenShut
import Derived.Deep.DeepHandedRow
import Derived.LaidMore
import Derived.Lay
import Derived.SevenTiedAt
import Derived.Stop.Joined
import Derived.Test.YtiapbmjlocfhgaaDoorPtE
import Derived.Test.YtiapbmjlocfhgaaDoorPeE
section
/- What each law's card shares: the world of the witness, the frame's end, the way from a pure model to a row's zky. -/
set_option maxRecDepth 100000
namespace Go.Proofs.YtiapbmjlocfhgaaDoor
open Go Go.RowKit Go.WideShapes Go.ChangeShapes Go.ChangeAt
section
variable{H:Type}{enc:TypeId×Value->H}{P:Program}
theorem zma{C:Checked}{os:Os}{f:FuncId}{fn:Func}{s:OpenSpec}{conds:List PathCond}{apart:Bool}{laid:List (String×DataW Unit)}(modest:Bool)(w0:World)(args:Array Value)(hos:w0.os=os)
  (hsh:(w0.forCall (λ_ _=>0) ⟨#[],args,[]⟩).Shaped C.prog)
  (hok:Input.okWideB C.prog (w0.forCall (λ_ _=>0) ⟨#[],args,[]⟩) f ⟨#[],args,[]⟩=true)
  (hrow:s.preRow enc C.prog fn conds apart laid (w0.forCall (λ_ _=>0) ⟨#[],args,[]⟩).memory args) :
  ∃(w:World) (tape:Tape) (i:Input),w.os=os/\(w.forCall tape i).Shaped C.prog/\i.vars=[]/\Input.okWide C.prog (w.forCall tape i) .any w.heap.size f i /\
   s.preRow enc C.prog fn conds apart laid (w.forCall tape i).memory i.args/\({ modest:=modest }:Assume).holds C.prog (lone (Frame.enter C.prog f i.args .normal) [] (w.forCall tape i)) :=
 ⟨w0,λ_ _=>0,⟨#[],args,[]⟩,hos,hsh,(Input.okWide_of_okWideB (base:=0) hok).1,(Input.okWide_of_okWideB hok).2,hrow,by simp only[Assume.holds];exact ⟨by simp,by simp,λ_=>Modest.zero,by simp,by simp⟩⟩
end
theorem own:ownKnob Tryd.prog.godebug=none:=by kernel_rfl
theorem u9:Tryd.prog.underlying 9=some .string:=by kernel_rfl
theorem u4:Tryd.prog.underlying 4=some .bool:=by kernel_rfl
def zeB:List (String×DataW Unit):=Rows.purlDigestsMatchSpecRow.laid
theorem fits0(os:Os):(World.holding Tryd.prog os ⟨#[],#[],[]⟩).layFits Tryd.prog zeB []=true:=by kernel_rfl
theorem zsY(os:Os):(World.holding Tryd.prog os ⟨#[],#[],[]⟩).layIfaces Tryd.prog zeB (World.laidAll Tryd.prog os zeB)=true:=by kernel_rfl
theorem zrt(os:Os)(args:Array Value):laidMetH Tryd.prog zeB ((World.laidAll Tryd.prog os zeB).forCall (λ_ _=>0) ⟨#[],args,[]⟩).memory:=by rw[MakeChecks.laidMetH_plain _ _ _ (by kernel_rfl)];exact laidMet_laidAll _ (fits0 os) (zsY os)
theorem zsx(os:Os)(args:Array Value):((World.laidAll Tryd.prog os zeB).forCall (λ_ _=>0) ⟨#[],args,[]⟩).Shaped Tryd.prog :=
 World.shaped_of_ZipB (by kernel_rfl) (by kernel_rfl)
end Go.Proofs.YtiapbmjlocfhgaaDoor
end
section
/- What is handed in to the law of digests: which types are read as which codes; the digests are small; the table. -/
set_option maxRecDepth 100000
namespace Go.Proofs.YtiapbmjlocfhgaaDoor
open Go Go.RowKit Go.WideShapes Go.ChangeShapes Go.ChangeAt Pe Pe.Tryd
def zt0:Grp un:=Grp.plain un zaB.get_put λn=>match n with|0=>rfl|1=>rfl|2=>rfl|3=>rfl|4=>rfl|5=>rfl|_+6=>rfl
def M:U->TypeId->Prop:=λu t=>(u= .str/\t=9)\/(u= .st 1/\t=31)\/(u= .sl (.st 1)/\t=22)
theorem zrZ:M .str 9:= .inl ⟨rfl,rfl⟩
theorem mDig:M (.st 1) 31:= .inr (.inl ⟨rfl,rfl⟩)
theorem zvA:M (.sl (.st 1)) 22:= .inr (.inr ⟨rfl,rfl⟩)
theorem stepM:∀u t,M u t->zuL zt0 Tryd.prog M u t:=by
 intro u t h;rcases h with ⟨rfl,rfl⟩|⟨rfl,rfl⟩|⟨rfl,rfl⟩;·exact u9
 ·exact ⟨by kernel_rfl,.inl ⟨_,Tryd.underlying31,⟨by kernel_rfl,by kernel_rfl,zrZ,by kernel_rfl,by kernel_rfl,zrZ,trivial⟩⟩⟩
 ·exact ⟨31,Tryd.underlying22,by kernel_rfl,by decide,mDig⟩
theorem zsR:laidOutB Tryd.prog=true:=by kernel_rfl
theorem zu2{H:Type}:∀(l:List (DataW H))(i:Nat)(h:i<l.length),Rows.uptoBulk l[i]<=Rows.uptoBulkAll l
 |[],i,h=>by simp at h
 |x::r,0,h=>by simp[Rows.uptoBulkAll]
 |x::r,i+1,h=>by have:=zu2 r i (by simpa using h);simp only[Rows.uptoBulkAll,List.getElem_cons_succ];omega
theorem zuX{H:Type}{l:List Gt.Digest}{ds:List (DataW H)}(h:Rd zt0 [.sl (.st 1)] (sg (u:= .sl (.st 1)) l) ds)(hc:Rows.uptoBulkAll ds<=1048576):Small l:=by
 obtain ⟨d,r,rfl,h6,_⟩:=h.inv_sl;rcases h6 with ⟨_,h0⟩|⟨es,sp,rfl,hl,h1⟩
 ·have h0:l=[]:=h0;rw[h0];intro x hx;cases hx
 ·intro x hx;obtain ⟨i,hi,rfl⟩:=List.getElem_of_mem hx;have hl':es.length=l.length:=hl;have he:i<es.length:=by omega
  have hr:Rd zt0 [.st 1] (sg (u:= .st 1) l[i]) [es[i]]:=h1 i l[i] es[i] (yAh hi) (yAh he);obtain ⟨ps,r2,e2,g1,_⟩:=hr.inv_st;have g1:Rd zt0 [.str,.str] ((l[i].algo,l[i].text,()):ElL Sx [.str,.str]) ps:=g1;obtain ⟨r3,rfl,w1,g2⟩:=g1.inv_str;obtain ⟨r4,rfl,w2,g3⟩:=g2.inv_str;have hb:=zu2 es i he;have e3:es[i]= .agg (.lit (.string l[i].algo):: .lit (.string l[i].text)::r4):=(yBL e2).1;rw[e3] at hb;simp only[Rows.uptoBulk,Rows.uptoBulkAll] at hb hc;omega
theorem zvo{W:World}(h:laidMetH Tryd.prog zeB W):TabE un W []:=by
 rw[MakeChecks.laidMetH_plain _ _ _ (by kernel_rfl)] at h;have h2:laidMet Tryd.prog (zeB.drop 1) W:=by obtain ⟨ps,hv,hnd,hrows⟩:=h;obtain ⟨g,t,cs,fuel,p,q,_,_,_,_,hq,rfl⟩:=hv;exact ⟨q,hq,List.Nodup.sublist (List.sublist_append_right _ _) hnd,λb off hm=>hrows b off (yCb _ hm)⟩
 have hT : Lib.TabIs Tryd.prog W "math/bits.deBruijn64tab" .u8 zvp :=
  Lib.tabIs_of_head (rest:=zeB.drop 2) (g:=3) (t:=124) (e:=5) (n:=64) (by kernel_rfl) (by kernel_rfl) Tryd.underlying124 Tryd.underlying5 (by kernel_rfl) (by kernel_rfl) h2
 have hc:∀(j:Nat) v,(zvp.map (Value.int .u8))[j]?=some v->W.cell? ⟨3,j,none⟩=some v:=by intro j v hj;rw[yAg,yA3] at hj;obtain ⟨z,hz,rfl⟩:=hj;obtain ⟨hlt,rfl⟩:=yAc.1 hz;have:=hT.cell (g:=3) (by kernel_rfl) j hlt;rw[this,List.getD,yAh hlt];rfl
 intro t ht;obtain rfl:=yBk.1 ht;refine ⟨(Pe.cell_lt (hc 0 _ rfl)).1,by simp,hc⟩
end Go.Proofs.YtiapbmjlocfhgaaDoor
end
