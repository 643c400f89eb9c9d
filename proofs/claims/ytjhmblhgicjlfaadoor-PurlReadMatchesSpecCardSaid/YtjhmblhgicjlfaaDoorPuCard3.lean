/- PROVED: PurlReadMatchesSpec answers true for every text: Read of the program answers as Read of the reference. Condition: the package-level tables that the row lists hold what the program's text lays. -/
import Derived.ChangeMaps5
import Derived.Test.YtjhmblhgicjlfaaDoorPuCard
import Derived.Test.YtjhmblhgicjlfaaDoorPuH
set_option maxRecDepth 100000
namespace Go.Proofs.YtjhmblhgicjlfaaDoor.law3
open Go Go.RowKit Go.WideShapes Go.ChangeShapes Go.ChangeAt

theorem par3 : Tryd.f3.params = #[9] := by kernel_rfl
theorem walk (w : World) (s : ByteArray) : Calls Tryd.prog 3 #[.string s] w fun e w' => e = .returned (.bool true) ∧ Below w.heap.size w w' := by
 have h := Pe.Tryd.ok3 (Pe.Tryd.orcN 28) (Pe.Tryd.orcN_sound 28) (s.data.toList, ()) (true, ()) (Pe.Tryd.L3 0 s.data.toList)
 refine (h (fun _ _ => False) w [.string s] (fun _ _ h => h.elim) ⟨rfl, trivial⟩).mono fun e w' ⟨v, h1, h2, h3⟩ => ?_
 subst h1
 exact ⟨congrArg Ending.returned h3, h2⟩

theorem contract (H : Type) (enc : TypeId × Value → H) (W : World) (base : Nat) (args : Array Value) (ds gs : List (DataW H)) (before : List MemPlace)
  (hval : ∀ (j : Nat) t v, Tryd.f3.params[j]? = some t → args[j]? = some v → Value.okWide Tryd.prog W .any base t v)
  (hW : DataW.Whole enc Tryd.prog Tryd.f3.params.toList Rows.purlReadMatchesSpecSpec.vars false W args.toList ds gs before) :
  Calls Tryd.prog 3 args W fun e W' => ∃ v, e = .returned v ∧ Rows.purlReadMatchesSpecSpec.post enc Tryd.prog Tryd.f3 false true false false W args v W' := by
 have hW' := hW
 obtain ⟨p, q, hA0, hV, rfl, hfz, hnd⟩ := hW
 have hA : DataW.TrodAll enc Tryd.prog W 0 (fun _ => true) true Tryd.f3.params.toList args.toList ds p := hA0
 rw [par3] at hA hval
 obtain ⟨v0, vs0, d0, ds0, p0, q0, hargs, rfl, rfl, h0, r0⟩ := trodAll_cons hA
 obtain ⟨rfl, rfl, rfl⟩ := trodAll_nil r0
 obtain rfl : args = #[v0] := by cases args; simp_all
 obtain ⟨rfl, rfl⟩ := trodVars_none hV
 obtain ⟨s, rfl, rfl, rfl, hs⟩ := ChangeMaps.open_string u9 (hval 0 9 v0 rfl rfl) h0
 clear hA0
 simp only [List.append_nil] at hW'
 refine (walk W s).mono fun e W' ⟨he, hg⟩ => ?_
 subst he
 exact ⟨_, rfl, post_of_below (pa := []) (pv := []) hW' (fun _ _ _ => trodAll_cons_mk (shut_bool u4 _) trodAll_mk0) (fun _ _ => trodAll_cons_mk (ChangeMaps.shut_string u9 hs) trodAll_mk0) (fun _ _ => rfl) rfl
  hg (ok_one (by kernel_rfl) rfl (okWide_bool_mk u4 _))⟩

theorem reads (os : Os) {H : Type} (enc : TypeId × Value → H) : ∃ places, DataW.whole enc Tryd.prog ((World.laidAll Tryd.prog os theLaid).forCall (fun _ _ => 0) ⟨#[], #[.string ⟨#[]⟩], []⟩).memory Tryd.f3.params.toList Rows.purlReadMatchesSpecSpec.vars false #[Value.string ⟨#[]⟩].toList 8 = some ([.lit (.string [])], [], places) :=
 ⟨[], by kernel_rfl⟩

theorem lifted (os : Os) (started : os.Started) (H : Type) (enc : TypeId × Value → H) (F : Stop.Interp) :
  ReturnsInHanded {} Tryd.checked os 3 .any ((OpenSpec.ofChange Rows.purlReadMatchesSpecSpec).preRow enc Tryd.prog Tryd.f3 Rows.purlReadMatchesSpecRow.domain false Rows.purlReadMatchesSpecRow.laid) (((OpenSpec.ofChange Rows.purlReadMatchesSpecSpec).at F).post enc Tryd.prog Tryd.f3 false true false false) := by
 obtain ⟨places, hx⟩ := reads os enc
 refine returnsInHanded_of_row (C := Tryd.checked) (s := OpenSpec.ofChange Rows.purlReadMatchesSpecSpec) own started (by kernel_rfl) Tryd.func3
  (witness_lay (enc := enc) (C := Tryd.checked) false (World.laidAll Tryd.prog os theLaid) #[.string ⟨#[]⟩] (World.laidAll_os _ _ _) (shaped0 os _) (by kernel_rfl)
   (OpenSpec.preRow_of_cond 8 hx (by kernel_rfl) (fun k hk => by cases hk) (by kernel_rfl) (laid_met os _))) ?_
 intro W base args ds gs before hval hW _ _ _ hL _ _
 exact contract H enc W base args ds gs before hval hW

theorem said : Rows.PurlReadMatchesSpecSaid :=
 OpenClaim.holds_of_cond 3 Tryd.f3 rfl rfl rfl rfl rfl rfl rfl ⟨rfl, rfl, rfl, rfl, rfl⟩ rfl rfl rfl rfl rfl (by kernel_rfl) Tryd.func3 (by kernel_rfl)
  (of_decide_eq_true (by kernel_rfl)) (by unfold Func.isWrapper; first | (rw [if_pos (by decide +kernel)]; kernel_rfl) | (rw [if_neg (by decide +kernel)]; exact ⟨rfl, rfl⟩))
  (fun os started H enc _ F => by rw [OpenClaim.pre_eq_preRow]; exact lifted os started H enc F)

theorem plain (f : FuncId) (fn : Func) (hf : Tryd.pinned.checked.prog.funcNamed "provender/provenderlaw2.PurlReadMatchesSpec" = some f) (hfn : Tryd.pinned.checked.prog.funcs[f]? = some fn) :
  false = Tryd.pinned.checked.prog.looks [] ∧ ∀ (j : Nat) t, fn.params[j]? = some t → Tryd.pinned.checked.prog.wantsStandIn t = false := by
 obtain rfl : f = 3 := Option.some.inj ((show Tryd.prog.funcNamed "provender/provenderlaw2.PurlReadMatchesSpec" = some 3 by kernel_rfl).symm.trans hf) |>.symm
 obtain rfl : fn = Tryd.f3 := (Option.some.inj (Tryd.func3.symm.trans hfn)).symm
 refine ⟨by kernel_rfl, fun j t ht => ?_⟩
 rw [par3] at ht
 obtain rfl : t = 9 := by simpa using Array.mem_of_getElem? ht
 exact (show Tryd.prog.wantsStandIn 9 = false by kernel_rfl)

theorem card : Rows.PurlReadMatchesSpecCardSaid :=
 Claim7.holds_tied_plain_at .later [] _ _ _ _ said (fun _ h => by cases h) (by kernel_rfl) (fun _ h => by cases h) purlReadMatchesSpec_row_tie rfl ⟨rfl, rfl⟩ (by kernel_rfl) rfl plain (by kernel_rfl)
end Go.Proofs.YtjhmblhgicjlfaaDoor.law3
#print axioms Go.Proofs.YtjhmblhgicjlfaaDoor.law3.card
