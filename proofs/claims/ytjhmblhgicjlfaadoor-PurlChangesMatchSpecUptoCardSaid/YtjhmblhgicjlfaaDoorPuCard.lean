/- What each law's card shares: the world of the witness, the frame's end, the way from a pure model to a row's contract. -/
import Derived.Test.YtjhmblhgicjlfaaDoorCards
import Derived.Test.YtjhmblhgicjlfaaDoorTie
import Derived.Below
import Derived.ChangeSame
import Derived.WalkKit
import Derived.ProofKit
import Derived.OpenShut
import Derived.Deep.DeepHandedRow
import Derived.LaidMore
import Derived.Lay
import Derived.SevenTiedAt
import Derived.Stop.Joined
import Derived.Test.YtjhmblhgicjlfaaDoorPuC
set_option maxRecDepth 100000
namespace Go.Proofs.YtjhmblhgicjlfaaDoor
open Go Go.RowKit Go.WideShapes Go.ChangeShapes Go.ChangeAt
section
variable {H:Type} {enc:TypeId×Value→H} {P:Program}
theorem witness_lay {C:Checked} {os:Os} {f:FuncId} {fn:Func} {s:OpenSpec} {conds:List PathCond} {apart:Bool} {laid:List (String×DataW Unit)} (modest:Bool) (w0:World) (args:Array Value) (hos:w0.os=os)
  (hsh:(w0.forCall (fun _ _=>0) ⟨#[],args,[]⟩).Shaped C.prog)
  (hok:Input.okWideB C.prog (w0.forCall (fun _ _=>0) ⟨#[],args,[]⟩) f ⟨#[],args,[]⟩=true)
  (hrow:s.preRow enc C.prog fn conds apart laid (w0.forCall (fun _ _=>0) ⟨#[],args,[]⟩).memory args) :
  ∃(w:World) (tape:Tape) (i:Input),w.os=os∧(w.forCall tape i).Shaped C.prog∧i.vars=[]∧Input.okWide C.prog (w.forCall tape i) .any w.heap.size f i ∧
   s.preRow enc C.prog fn conds apart laid (w.forCall tape i).memory i.args∧({ modest:=modest }:Assume).holds C.prog (lone (Frame.enter C.prog f i.args .normal) [] (w.forCall tape i)) :=
 ⟨w0,fun _ _=>0,⟨#[],args,[]⟩,hos,hsh,(Input.okWide_of_okWideB (base:=0) hok).1,(Input.okWide_of_okWideB hok).2,hrow,by
  simp only [Assume.holds]
  exact ⟨by simp,by simp,fun _=>Modest.zero,by simp,by simp⟩⟩
end
theorem own:ownKnob Tryd.prog.godebug=none:=by kernel_rfl
theorem u9:Tryd.prog.underlying 9=some .string:=by kernel_rfl
theorem u4:Tryd.prog.underlying 4=some .bool:=by kernel_rfl
def theLaid:List (String×DataW Unit):=Rows.purlKindsMatchSpecRow.laid
theorem fits0 (os:Os):(World.holding Tryd.prog os ⟨#[],#[],[]⟩).layFits Tryd.prog theLaid []=true:=by kernel_rfl
theorem ifaces0 (os:Os):(World.holding Tryd.prog os ⟨#[],#[],[]⟩).layIfaces Tryd.prog theLaid (World.laidAll Tryd.prog os theLaid)=true:=by kernel_rfl
theorem laid_met (os:Os) (args:Array Value):laidMetH Tryd.prog theLaid ((World.laidAll Tryd.prog os theLaid).forCall (fun _ _=>0) ⟨#[],args,[]⟩).memory:=by
 rw [MakeChecks.laidMetH_plain _ _ _ (by kernel_rfl)];exact laidMet_laidAll _ (fits0 os) (ifaces0 os)
theorem shaped0 (os:Os) (args:Array Value):((World.laidAll Tryd.prog os theLaid).forCall (fun _ _=>0) ⟨#[],args,[]⟩).Shaped Tryd.prog :=
 World.shaped_of_ZipB (by kernel_rfl) (by kernel_rfl)
end Go.Proofs.YtjhmblhgicjlfaaDoor
