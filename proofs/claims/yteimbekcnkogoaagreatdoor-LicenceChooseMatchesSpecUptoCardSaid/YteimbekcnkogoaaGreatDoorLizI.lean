/- PROVED HERE: a part of the seat's proofs; see the text that holds the claim's theorem. -/
import Derived.Test.YteimbekcnkogoaaGreatDoorNm
import Derived.Test.YteimbekcnkogoaaGreatDoorCards
import Derived.Test.YteimbekcnkogoaaGreatDoorTie
import Derived.Below
import Derived.ChangeSame
import Derived.WalkKit
import Derived.ProofKit
import Derived.OpenShut
import Derived.Deep.DeepHandedRow
import Derived.LaidMore
import Derived.Lay
import Derived.SevenTiedAt
import Derived.Stop.Joined
import Derived.Test.YteimbekcnkogoaaGreatDoorLizC
import Derived.Test.YteimbekcnkogoaaGreatDoorLizD
import Derived.Test.YteimbekcnkogoaaGreatDoorPeE
import Derived.Test.YteimbekcnkogoaaGreatDoorLizE
import Derived.Test.YteimbekcnkogoaaGreatDoorLizF
section
/- What each law's card shares: the world of the witness, the frame's end, the way from a pure model to a row's zhk. -/
set_option maxRecDepth 100000
namespace Go.Proofs.YteimbekcnkogoaaGreatDoor
open Go Go.RowKit Go.WideShapes Go.ChangeShapes Go.ChangeAt
section
variable {H:Type} {enc:TypeId×Value→H} {P:Program}
theorem zlT {C:Checked} {os:Os} {f:FuncId} {fn:Func} {s:OpenSpec} {conds:List PathCond} {apart:Bool} {laid:List (String×DataW Unit)} (modest:Bool) (w0:World) (args:Array Value) (hos:w0.os=os)
  (hsh:(w0.forCall (fun _ _=>0) ⟨#[],args,[]⟩).Shaped C.prog)
  (hok:Input.okWideB C.prog (w0.forCall (fun _ _=>0) ⟨#[],args,[]⟩) f ⟨#[],args,[]⟩=true)
  (hrow:s.preRow enc C.prog fn conds apart laid (w0.forCall (fun _ _=>0) ⟨#[],args,[]⟩).memory args) :
  ∃(w:World) (tape:Tape) (i:Input),w.os=os∧(w.forCall tape i).Shaped C.prog∧i.vars=[]∧Input.okWide C.prog (w.forCall tape i) .any w.heap.size f i ∧
   s.preRow enc C.prog fn conds apart laid (w.forCall tape i).memory i.args∧({ modest:=modest }:Assume).holds C.prog (lone (Frame.enter C.prog f i.args .normal) [] (w.forCall tape i)) :=
 ⟨w0,fun _ _=>0,⟨#[],args,[]⟩,hos,hsh,(Input.okWide_of_okWideB (base:=0) hok).1,(Input.okWide_of_okWideB hok).2,hrow,by
  simp only [Assume.holds]
  exact ⟨by simp,by simp,fun _=>Modest.zero,by simp,by simp⟩⟩
end
theorem own:ownKnob Tryz.prog.godebug=none:=by kernel_rfl
theorem u9:Tryz.prog.underlying 9=some .string:=by kernel_rfl
theorem u4:Tryz.prog.underlying 4=some .bool:=by kernel_rfl
def zbJ:List (String×DataW Unit):=Rows.licenceObligationsMatchSpecRow.laid
theorem zs3 (os:Os):(World.holding Tryz.prog os ⟨#[],#[],[]⟩).layFits Tryz.prog zbJ []=true:=by kernel_rfl
theorem zmr (os:Os):(World.holding Tryz.prog os ⟨#[],#[],[]⟩).layIfaces Tryz.prog zbJ (World.laidAll Tryz.prog os zbJ)=true:=by kernel_rfl
theorem znn (os:Os) (args:Array Value):laidMetH Tryz.prog zbJ ((World.laidAll Tryz.prog os zbJ).forCall (fun _ _=>0) ⟨#[],args,[]⟩).memory:=by
 rw [MakeChecks.laidMetH_plain _ _ _ (by kernel_rfl)];exact laidMet_laidAll _ (zs3 os) (zmr os)
theorem zpb (os:Os) (args:Array Value):((World.laidAll Tryz.prog os zbJ).forCall (fun _ _=>0) ⟨#[],args,[]⟩).Shaped Tryz.prog :=
 World.shaped_of_ZipB (by kernel_rfl) (by kernel_rfl)
end Go.Proofs.YteimbekcnkogoaaGreatDoor
end
section
/- What is handed in to the laws of licences: which types are read as which codes; expressions of bounded bulk are small. -/
set_option maxRecDepth 100000
namespace Go.Proofs.YteimbekcnkogoaaGreatDoor
open Go Go.RowKit Go.WideShapes Go.ChangeShapes Go.ChangeAt Pe Pe.Tryz
open LicSpec
def M:U→TypeId→Prop:=fun u t=>(u= .int .i64∧(t=3∨t=3))∨(u= .str∧t=9)∨(u= .bool∧t=4)∨(u= .st 4∧t=24)∨(u= .sl (.st 4)∧t=22)
theorem mInt:M (.int .i64) 3:= .inl ⟨rfl,.inl rfl⟩
theorem zre:M .str 9:= .inr (.inl ⟨rfl,rfl⟩)
theorem mBool:M .bool 4:= .inr (.inr (.inl ⟨rfl,rfl⟩))
theorem mEx:M (.st 4) 24:= .inr (.inr (.inr (.inl ⟨rfl,rfl⟩)))
theorem mExs:M (.sl (.st 4)) 22:= .inr (.inr (.inr (.inr ⟨rfl,rfl⟩)))
theorem stepM:∀u t,M u t→zr7 Tryz.prog un M u t:=by
 intro u t h
 rcases h with ⟨rfl,rfl | rfl⟩ | ⟨rfl,rfl⟩ | ⟨rfl,rfl⟩ | ⟨rfl,rfl⟩ | ⟨rfl,rfl⟩
 ·exact (by kernel_rfl:Tryz.prog.underlying 3=some (.int .i64))
 ·exact (by kernel_rfl:Tryz.prog.underlying 3=some (.int .i64))
 ·exact u9
 ·exact u4
 ·exact ⟨by kernel_rfl,.inl ⟨_,Tryz.underlying24,⟨by kernel_rfl,by kernel_rfl,mInt,by kernel_rfl,by kernel_rfl,zre,by kernel_rfl,by kernel_rfl,mBool,by kernel_rfl,by kernel_rfl,zre,by kernel_rfl,by kernel_rfl,mExs,trivial⟩⟩⟩
 ·exact ⟨24,Tryz.underlying22,by kernel_rfl,by decide,mEx⟩
theorem zsO:laidOutB Tryz.prog=true:=by kernel_rfl
theorem zkm {H:Type}:∀{l:List (DataW H)} {i:Nat} {d:DataW H},l[i]? =some d→Rows.uptoBulk d≤Rows.uptoBulkAll l
 | [],i,d,h=>by simp at h
 | x::r,0,d,h=>by simp at h;subst h;simp only [Rows.uptoBulkAll];omega
 | x::r,i+1,d,h=>by
   have:=zkm (l:=r) (i:=i) (d:=d) (by simpa using h)
   simp only [Rows.uptoBulkAll];omega
theorem znL {H:Type} (d:DataW H):1≤Rows.uptoBulk d:=by
 cases d with
 | lit l=>cases l<;>simp [Rows.uptoBulk]
 | _=>simp [Rows.uptoBulk]
theorem zkn {H:Type}:∀(l:List (DataW H)),l.length≤Rows.uptoBulkAll l
 | []=>by simp
 | x::r=>by have:=zkn r;have:=znL x;simp only [Rows.uptoBulkAll,yAt];omega
theorem rd_ex {H:Type} {e:Ex} {d:DataW H} (h:Rd un [.st 4] (sg (u:= .st 4) e) [d]) :
  ∃dk,d= .agg [.lit (.int .i64 e.kind),.lit (.string e.name),.lit (.bool e.later),.lit (.string e.wth),dk]∧(Lit.int .i64 e.kind).wf=true ∧
   ((dk= .nil∧e.kids=[])∨∃es sp,dk= .slice es sp∧es.length=e.kids.length∧∀(i:Nat) (x:Ex) (d:DataW H),e.kids[i]? =some x→es[i]? =some d→Rd un [.st 4] (sg (u:= .st 4) x) [d]):=by
 obtain ⟨ps,r,h0,h1,_⟩:=h.inv_st
 obtain ⟨rfl,_⟩:=yB8 h0
 have h1:Rd un [.int .i64,.str,.bool,.str,.sl (.st 4)] ((e.kind,e.name,e.later,e.wth,e.kids,()):ElL Sx [.int .i64,.str,.bool,.str,.sl (.st 4)]) ps:=h1
 obtain ⟨r1,rfl,w1,h2⟩:=h1.inv_int
 obtain ⟨r2,rfl,w2,h3⟩:=h2.inv_str
 obtain ⟨r3,rfl,h4⟩:=h3.inv_bool
 obtain ⟨r4,rfl,w4,h5⟩:=h4.inv_str
 obtain ⟨dk,r5,rfl,h6,h7⟩:=h5.inv_sl
 obtain rfl:=h7.inv_nil
 exact ⟨dk,rfl,w1,h6⟩
theorem znF {H:Type} {N:Nat} (hN:N≤2000000):∀(n:Nat) (e:Ex) (d:DataW H),Rows.uptoBulk d≤n→Rd un [.st 4] (sg (u:= .st 4) e) [d]→Rows.uptoBulk d≤N→Small e∧e.lev≤Rows.uptoBulk d:=by
 intro n
 induction n with
 | zero=>intro e d h;have:=znL d;omega
 | succ n ih =>
   intro e d hn h hb
   obtain ⟨dk,rfl,_,h5⟩:=rd_ex h
   simp only [Rows.uptoBulk,Rows.uptoBulkAll] at hn hb ⊢
   have key:SmallL e.kids∧e.kids.length≤Rows.uptoBulk dk∧ziV e.kids≤Rows.uptoBulk dk:=by
    rcases h5 with ⟨rfl,h0⟩ | ⟨es,sp,rfl,hl,h6⟩
    ·rw [h0];simp [SmallL,ziV]
    ·simp only [Rows.uptoBulk] at hn hb ⊢
     have hlen:=zkn es
     have one:∀k∈e.kids,Small k∧k.lev≤Rows.uptoBulkAll es:=by
      intro k hk
      obtain ⟨i,hi,rfl⟩:=yBs hk
      have hi':es[i]? =some es[i]:=yAe (by omega)
      have hm:=zkm hi'
      obtain ⟨a,b⟩:=ih e.kids[i] es[i] (by omega) (h6 i _ _ (yAe hi) hi') (by omega)
      exact ⟨a,by omega⟩
     refine ⟨zhx fun k hk=>(one k hk).1,by omega,?_⟩
     have:=znh fun k hk=>(one k hk).2
     omega
   obtain ⟨k1,k2,k3⟩:=key
   cases e with
   | mk a b c d l =>
     simp only at *
     refine ⟨?_,?_⟩
     ·simp only [Small];exact ⟨by omega,by omega,by omega,k1⟩
     ·simp only [Ex.lev];omega
end Go.Proofs.YteimbekcnkogoaaGreatDoor
end
section
/- What is handed in to the laws of catalogues: which types are read as which codes; what is handed in is small. -/
set_option maxRecDepth 100000
namespace Go.Proofs.YteimbekcnkogoaaGreatDoor
open Go Go.RowKit Go.WideShapes Go.ChangeShapes Go.ChangeAt Pe Pe.Tryz
open LicSpec
def M4:U→TypeId→Prop:=fun u t=>M u t∨(u= .st 2∧t=42)∨(u= .sl (.st 5)∧t=38)∨(u= .sl (.st 3)∧t=39)∨(u= .sl (.st 0)∧t=40)∨(u= .st 5∧t=131)∨(u= .st 3∧t=129)∨(u= .st 0∧t=49)∨(u= .sl .str∧t=30)∨(u= .sl (.st 6)∧t=43)∨(u= .st 6∧t=64)
theorem m0 {u:U} {t:TypeId} (h:M u t):M4 u t:= .inl h
theorem zlv {P:Program} {M M':U→TypeId→Prop} (h:∀u t,M u t→M' u t):∀(fs:List Field) (k:Nat) (us:List U),Flds M P k fs us→Flds M' P k fs us
 | [],_,[],h1=>h1
 | [],_,_::_,h1=>h1.elim
 | _::_,_,[],h1=>h1.elim
 | _::fs,_,_::us,h1=>⟨h1.1,h1.2.1,h _ _ h1.2.2.1,zlv h fs _ us h1.2.2.2⟩
theorem zo8 {M M':U→TypeId→Prop} (h:∀u t,M u t→M' u t) {u:U} {t:TypeId} (h1:zr7 Tryz.prog un M u t):zr7 Tryz.prog un M' u t:=by
 cases u with
 | int k=>exact h1
 | bool=>exact h1
 | str=>exact h1
 | sl u=>obtain ⟨e,a,b,c,d⟩:=h1;exact ⟨e,a,b,c,h _ _ d⟩
 | st n =>
   obtain ⟨a,⟨fs,b,c⟩ | ⟨k,e,u,b,c,d,f⟩⟩:=h1
   ·exact ⟨a,.inl ⟨fs,b,zlv h _ _ _ c⟩⟩
   ·exact ⟨a,.inr ⟨k,e,u,b,c,d,h _ _ f⟩⟩
 | mp _ _=>exact h1
 | rw _=>exact h1
theorem mCat:M4 (.st 2) 42:= .inr (.inl ⟨rfl,rfl⟩)
theorem mLics:M4 (.sl (.st 5)) 38:= .inr (.inr (.inl ⟨rfl,rfl⟩))
theorem mExcs:M4 (.sl (.st 3)) 39:= .inr (.inr (.inr (.inl ⟨rfl,rfl⟩)))
theorem mCls:M4 (.sl (.st 0)) 40:= .inr (.inr (.inr (.inr (.inl ⟨rfl,rfl⟩))))
theorem mLic:M4 (.st 5) 131:= .inr (.inr (.inr (.inr (.inr (.inl ⟨rfl,rfl⟩)))))
theorem mExc:M4 (.st 3) 129:= .inr (.inr (.inr (.inr (.inr (.inr (.inl ⟨rfl,rfl⟩))))))
theorem mCl:M4 (.st 0) 49:= .inr (.inr (.inr (.inr (.inr (.inr (.inr (.inl ⟨rfl,rfl⟩)))))))
theorem mTxs:M4 (.sl .str) 30:= .inr (.inr (.inr (.inr (.inr (.inr (.inr (.inr (.inl ⟨rfl,rfl⟩))))))))
theorem mUse:M4 (.st 6) 64:= .inr (.inr (.inr (.inr (.inr (.inr (.inr (.inr (.inr (.inr ⟨rfl,rfl⟩)))))))))
theorem ztB:∀u t,M4 u t→zr7 Tryz.prog un M4 u t:=by
 intro u t h
 rcases h with h | ⟨rfl,rfl⟩ | ⟨rfl,rfl⟩ | ⟨rfl,rfl⟩ | ⟨rfl,rfl⟩ | ⟨rfl,rfl⟩ | ⟨rfl,rfl⟩ | ⟨rfl,rfl⟩ | ⟨rfl,rfl⟩ | ⟨rfl,rfl⟩ | ⟨rfl,rfl⟩
 ·exact zo8 (fun _ _=>m0) (stepM u t h)
 ·exact ⟨by kernel_rfl,.inl ⟨_,Tryz.underlying42,⟨by kernel_rfl,by kernel_rfl,mLics,by kernel_rfl,by kernel_rfl,mExcs,by kernel_rfl,by kernel_rfl,mCls,trivial⟩⟩⟩
 ·exact ⟨131,Tryz.underlying38,by kernel_rfl,by decide,mLic⟩
 ·exact ⟨129,Tryz.underlying39,by kernel_rfl,by decide,mExc⟩
 ·exact ⟨49,Tryz.underlying40,by kernel_rfl,by decide,mCl⟩
 ·exact ⟨by kernel_rfl,.inl ⟨_,Tryz.underlying131,⟨by kernel_rfl,by kernel_rfl,m0 zre,by kernel_rfl,by kernel_rfl,m0 zre,by kernel_rfl,by kernel_rfl,m0 mInt,by kernel_rfl,by kernel_rfl,mTxs,trivial⟩⟩⟩
 ·exact ⟨by kernel_rfl,.inl ⟨_,Tryz.underlying129,⟨by kernel_rfl,by kernel_rfl,m0 zre,by kernel_rfl,by kernel_rfl,mTxs,by kernel_rfl,by kernel_rfl,mTxs,trivial⟩⟩⟩
 ·exact ⟨by kernel_rfl,.inr ⟨2,9,.str,Tryz.underlying49,by kernel_rfl,by kernel_rfl,m0 zre⟩⟩
 ·exact ⟨9,Tryz.underlying30,by kernel_rfl,by decide,m0 zre⟩
 ·exact ⟨64,Tryz.underlying43,by kernel_rfl,by decide,mUse⟩
 ·exact ⟨by kernel_rfl,.inl ⟨_,Tryz.underlying64,⟨by kernel_rfl,by kernel_rfl,m0 zre,by kernel_rfl,by kernel_rfl,m0 zre,trivial⟩⟩⟩
theorem zdg {H:Type} {u:U} {l:List (El Sx u)} {d:DataW H} {Q:El Sx u→Prop}
  (h:(d= .nil∧l=[])∨∃es sp,d= .slice es sp∧es.length=l.length∧∀(i:Nat) (x:El Sx u) (d:DataW H),l[i]? =some x→es[i]? =some d→Rd un [u] (sg x) [d])
  (hb:Rows.uptoBulk d≤2000000) (hq:∀(x:El Sx u) (d:DataW H),Rd un [u] (sg x) [d]→Rows.uptoBulk d≤2000000→Q x):l.length≤2000000∧∀x∈l,Q x:=by
 rcases h with ⟨rfl,rfl⟩ | ⟨es,sp,rfl,hl,h6⟩
 ·exact ⟨by simp,by simp⟩
 ·simp only [Rows.uptoBulk] at hb
  have hlen:=zkn es
  refine ⟨by omega,fun x hx=> ?_⟩
  obtain ⟨i,hi,rfl⟩:=yBs hx
  have hi':es[i]? =some es[i]:=yAe (by omega)
  have hm:=zkm hi'
  exact hq _ _ (h6 i _ _ (yAe hi) hi') (by omega)
theorem zfz {H:Type} (s:List UInt8) (d:DataW H) (h:Rd un [.str] (sg (u:= .str) s) [d]) (hb:Rows.uptoBulk d≤2000000):s.length≤2000000:=by
 obtain ⟨r,h0,_,_⟩:=h.inv_str
 obtain ⟨rfl,_⟩:=yB8 h0
 have hb:Rows.uptoBulk (H:=H) (.lit (.string s))≤2000000:=hb
 simp only [Rows.uptoBulk] at hb;omega
theorem zog {H:Type} (x:Gt.LicenceRule) (d:DataW H) (h:Rd un [.st 5] (sg (u:= .st 5) x) [d]) (hb:Rows.uptoBulk d≤2000000):x.name.length≤2000000∧x.family.length≤2000000∧Txs x.obligations:=by
 obtain ⟨ps,r,h0,h1,_⟩:=h.inv_st
 obtain ⟨rfl,_⟩:=yB8 h0
 have h1:Rd un [.str,.str,.int .i64,.sl .str] ((x.name,x.family,x.order,x.obligations,()):ElL Sx [.str,.str,.int .i64,.sl .str]) ps:=h1
 obtain ⟨r1,rfl,w1,h2⟩:=h1.inv_str
 obtain ⟨r2,rfl,w2,h3⟩:=h2.inv_str
 obtain ⟨r3,rfl,w3,h4⟩:=h3.inv_int
 obtain ⟨dk,r5,rfl,h6,h7⟩:=h4.inv_sl
 have hb:Rows.uptoBulk (H:=H) (.agg (.lit (.string x.name):: .lit (.string x.family):: .lit (.int .i64 x.order)::dk::r5))≤2000000:=hb
 simp only [Rows.uptoBulk,Rows.uptoBulkAll] at hb
 exact ⟨by omega,by omega,zdg h6 (by omega) fun s d=>zfz s d⟩
theorem zpW {H:Type} (x:Gt.Exception) (d:DataW H) (h:Rd un [.st 3] (sg (u:= .st 3) x) [d]) (hb:Rows.uptoBulk d≤2000000):x.name.length≤2000000∧Txs x.for_∧Txs x.lifts:=by
 obtain ⟨ps,r,h0,h1,_⟩:=h.inv_st
 obtain ⟨rfl,_⟩:=yB8 h0
 have h1:Rd un [.str,.sl .str,.sl .str] ((x.name,x.for_,x.lifts,()):ElL Sx [.str,.sl .str,.sl .str]) ps:=h1
 obtain ⟨r1,rfl,w1,h2⟩:=h1.inv_str
 obtain ⟨dk,r5,rfl,h6,h7⟩:=h2.inv_sl
 obtain ⟨dl,r6,rfl,h8,h9⟩:=h7.inv_sl
 have hb:Rows.uptoBulk (H:=H) (.agg (.lit (.string x.name)::dk::dl::r6))≤2000000:=hb
 simp only [Rows.uptoBulk,Rows.uptoBulkAll] at hb
 exact ⟨by omega,zdg h6 (by omega) fun s d=>zfz s d,zdg h8 (by omega) fun s d=>zfz s d⟩
theorem zol {H:Type} (x:Gt.A2_string) (d:DataW H) (h:Rd un [.st 0] (sg (u:= .st 0) x) [d]) (hb:Rows.uptoBulk d≤2000000):x.e0.length≤2000000∧x.e1.length≤2000000:=by
 obtain ⟨ps,r,h0,h1,_⟩:=h.inv_st
 obtain ⟨rfl,_⟩:=yB8 h0
 have h1:Rd un [.str,.str] ((x.e0,x.e1,()):ElL Sx [.str,.str]) ps:=h1
 obtain ⟨r1,rfl,w1,h2⟩:=h1.inv_str
 obtain ⟨r2,rfl,w2,h3⟩:=h2.inv_str
 have hb:Rows.uptoBulk (H:=H) (.agg (.lit (.string x.e0):: .lit (.string x.e1)::r2))≤2000000:=hb
 simp only [Rows.uptoBulk,Rows.uptoBulkAll] at hb
 exact ⟨by omega,by omega⟩
theorem zp7 {H:Type} (c:Cat) (d:DataW H) (h:Rd un [.st 2] (sg (u:= .st 2) c) [d]) (hb:Rows.uptoBulk d≤2000000):SmallC c:=by
 obtain ⟨ps,r,h0,h1,_⟩:=h.inv_st
 obtain ⟨rfl,_⟩:=yB8 h0
 have h1:Rd un [.sl (.st 5),.sl (.st 3),.sl (.st 0)] ((c.licences,c.exceptions,c.clashes,()):ElL Sx [.sl (.st 5),.sl (.st 3),.sl (.st 0)]) ps:=h1
 obtain ⟨d1,r1,rfl,k1,h2⟩:=h1.inv_sl
 obtain ⟨d2,r2,rfl,k2,h3⟩:=h2.inv_sl
 obtain ⟨d3,r3,rfl,k3,h4⟩:=h3.inv_sl
 simp only [Rows.uptoBulk,Rows.uptoBulkAll] at hb
 obtain ⟨a1,a2⟩:=zdg k1 (by omega) fun s d=>zog s d
 obtain ⟨b1,b2⟩:=zdg k2 (by omega) fun s d=>zpW s d
 obtain ⟨c1,c2⟩:=zdg k3 (by omega) fun s d=>zol s d
 exact ⟨a1,a2,b1,b2,c1,c2⟩
end Go.Proofs.YteimbekcnkogoaaGreatDoor
end
