/- PROVED: PurlTextsComeBack answers true for every name and text of bulk at most 1048576. Condition: the package-level tables that the row lists hold what the program's text lays. -/
import Derived.Test.YtjhmblhgicjlfaaDoorPuIn
import Derived.Test.YtjhmblhgicjlfaaDoorPuH
set_option maxRecDepth 100000
namespace Go.Proofs.YtjhmblhgicjlfaaDoor
open Go Go.RowKit Go.WideShapes Go.ChangeShapes Go.ChangeAt Pe Pe.Tryd
/-! the card -/
namespace law4
theorem par4 : Tryd.f4.params = #[24, 9] := by kernel_rfl
theorem contract (H : Type) (enc : TypeId × Value → H) (W : World) (base : Nat) (args : Array Value) (ds gs : List (DataW H)) (before : List MemPlace)
  (hval : ∀ (j : Nat) t v, Tryd.f4.params[j]? = some t → args[j]? = some v → Value.okWide Tryd.prog W .any base t v)
  (hW : DataW.Whole enc Tryd.prog Tryd.f4.params.toList Rows.purlTextsComeBackSpec.vars false W args.toList ds gs before) (hc : Rows.uptoBulkAll ds ≤ 1048576) :
  Calls Tryd.prog 4 args W fun e W' => ∃ v, e = .returned v ∧ Rows.purlTextsComeBackSpec.post enc Tryd.prog Tryd.f4 false true false false W args v W' := by
 refine law_contract (fn := Tryd.f4) (us := [.st 4, .str]) uniOk.get_put stepM laidOut u4 (by kernel_rfl) ⟨mPurl, (fun n h => ⟨_, Tryd.underlying24⟩), by kernel_rfl, of_decide_eq_true (by kernel_rfl), mStr, (fun n h => by cases h), by kernel_rfl, of_decide_eq_true (by kernel_rfl), trivial⟩ rfl (fun ds hl => ?_) W base args ds gs before hval hW (fun y hy => ?_)
 ·match ds, hl with
  | [d1, d2], _ => rfl
 ·obtain ⟨p, s, ⟨⟩⟩ : Gt.Purl × List UInt8 × Unit := y
  obtain ⟨ps, r, rfl, h5, _⟩ := hy.inv_st
  have hx : Rd un [.st 4] (sg (u := .st 4) p) [.agg ps] := .st h5 .nil
  simp only [Rows.uptoBulkAll] at hc
  exact Pe.Tryd.ok4 (orcN 28) (orcN_sound _) (p, s, ()) (true, ()) (L4 0 (purl_small hx (by simp only [Rows.uptoBulkAll]; omega)) s)

def w0 : Value := .agg #[.string ⟨#[]⟩, .string ⟨#[]⟩, .string ⟨#[]⟩, .string ⟨#[]⟩, .slice none 0 0, .string ⟨#[]⟩]
theorem reads (os : Os) {H : Type} (enc : TypeId × Value → H) : ∃ places, DataW.whole enc Tryd.prog ((World.laidAll Tryd.prog os theLaid).forCall (fun _ _ => 0) ⟨#[], #[w0, .string ⟨#[]⟩], []⟩).memory Tryd.f4.params.toList Rows.purlTextsComeBackSpec.vars false #[w0, Value.string ⟨#[]⟩].toList 8 = some ([.agg [.lit (.string []), .lit (.string []), .lit (.string []), .lit (.string []), .nil, .lit (.string [])], .lit (.string [])], [], places) :=
 ⟨[], by kernel_rfl⟩

theorem liftedUpto (os : Os) (started : os.Started) (H : Type) (enc : TypeId × Value → H) (F : Stop.Interp) :
  ReturnsInHanded {} Tryd.checked os 4 .any ((Rows.OpenSpec.upto Rows.purlTextsComeBackSpec).preRow enc Tryd.prog Tryd.f4 Rows.purlTextsComeBackUptoRow.domain false Rows.purlTextsComeBackUptoRow.laid) (((Rows.OpenSpec.upto Rows.purlTextsComeBackSpec).at F).post enc Tryd.prog Tryd.f4 false true false false) := by
 obtain ⟨places, hx⟩ := reads os enc
 refine returnsInHanded_of_row (C := Tryd.checked) (s := Rows.OpenSpec.upto Rows.purlTextsComeBackSpec) own started (by kernel_rfl) Tryd.func4
  (witness_lay (enc := enc) (C := Tryd.checked) false (World.laidAll Tryd.prog os theLaid) #[w0, .string ⟨#[]⟩] (World.laidAll_os _ _ _) (shaped0 os _) (by kernel_rfl)
   (OpenSpec.preRow_of_cond 8 hx (by kernel_rfl) (fun k hk => by cases hk; kernel_rfl) (by kernel_rfl) (laid_met os _))) ?_
 intro W base args ds gs before hval hW _ hcond _ hL _ _
 have hg : gs = [] := by
  obtain ⟨p, q, _, hV, _, _, _⟩ := hW
  match gs, hV with
  | [], _ => rfl
 have hb := of_decide_eq_true (hcond _ rfl)
 rw [hg, List.append_nil] at hb
 exact contract H enc W base args ds gs before hval hW hb

theorem saidUpto : Rows.PurlTextsComeBackUptoSaid :=
 OpenClaim.holds_of_cond 4 Tryd.f4 rfl rfl rfl rfl rfl rfl rfl ⟨rfl, rfl, rfl, rfl, rfl⟩ rfl rfl rfl rfl rfl (by kernel_rfl) Tryd.func4 (by kernel_rfl)
  (of_decide_eq_true (by kernel_rfl)) (by unfold Func.isWrapper; first | (rw [if_pos (by decide +kernel)]; kernel_rfl) | (rw [if_neg (by decide +kernel)]; exact ⟨rfl, rfl⟩))
  (fun os started H enc _ F => by rw [OpenClaim.pre_eq_preRow]; exact liftedUpto os started H enc F)

theorem plain (f : FuncId) (fn : Func) (hf : Tryd.pinned.checked.prog.funcNamed "provender/provenderlaw2.PurlTextsComeBack" = some f) (hfn : Tryd.pinned.checked.prog.funcs[f]? = some fn) :
  false = Tryd.pinned.checked.prog.looks [] ∧ ∀ (j : Nat) t, fn.params[j]? = some t → Tryd.pinned.checked.prog.wantsStandIn t = false := by
 obtain rfl : f = 4 := Option.some.inj ((show Tryd.prog.funcNamed "provender/provenderlaw2.PurlTextsComeBack" = some 4 by kernel_rfl).symm.trans hf) |>.symm
 obtain rfl : fn = Tryd.f4 := (Option.some.inj (Tryd.func4.symm.trans hfn)).symm
 refine ⟨by kernel_rfl, fun j t ht => ?_⟩
 rw [par4] at ht
 have ht' : t = 24 ∨ t = 9 := by simpa using Array.mem_of_getElem? ht
 rcases ht' with rfl | rfl
 ·exact (show Tryd.prog.wantsStandIn 24 = false by kernel_rfl)
 ·exact (show Tryd.prog.wantsStandIn 9 = false by kernel_rfl)

theorem cardUpto : Rows.PurlTextsComeBackUptoCardSaid :=
 Claim7.holds_tied_plain_at .later [] _ _ _ _ saidUpto (fun _ h => by cases h) (by kernel_rfl) (fun _ h => by cases h) purlTextsComeBackUpto_row_tie rfl ⟨rfl, rfl⟩ (by kernel_rfl) rfl plain (by kernel_rfl)
end law4
end Go.Proofs.YtjhmblhgicjlfaaDoor
#print axioms Go.Proofs.YtjhmblhgicjlfaaDoor.law4.cardUpto
