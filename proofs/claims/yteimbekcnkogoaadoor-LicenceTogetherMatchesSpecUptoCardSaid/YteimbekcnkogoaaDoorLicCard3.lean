/- PROVED: LicenceTogetherMatchesSpec answers true for every list of expressions of bulk at most 1048576. Condition: the package-level tables that the row lists hold what the program's text lays. -/
import Derived.Test.YteimbekcnkogoaaDoorLicIn
import Derived.Test.YteimbekcnkogoaaDoorLicLaw9
set_option maxRecDepth 100000
namespace Go.Proofs.YteimbekcnkogoaaDoor
open Go Go.RowKit Go.WideShapes Go.ChangeShapes Go.ChangeAt Pe Pe.Tryd
/-! the card -/
namespace law3
open LicSpec
theorem par5 : Tryd.f5.params = #[22] := by kernel_rfl
theorem contract (H : Type) (enc : TypeId × Value → H) (W : World) (base : Nat) (args : Array Value) (ds gs : List (DataW H)) (before : List MemPlace)
    (hval : ∀ (j : Nat) t v, Tryd.f5.params[j]? = some t → args[j]? = some v → Value.okWide Tryd.prog W .any base t v)
    (hW : DataW.Whole enc Tryd.prog Tryd.f5.params.toList Rows.licenceTogetherMatchesSpecSpec.vars false W args.toList ds gs before) (hc : Rows.uptoBulkAll ds ≤ 1048576) :
    Calls Tryd.prog 5 args W fun e W' => ∃ v, e = .returned v ∧ Rows.licenceTogetherMatchesSpecSpec.post enc Tryd.prog Tryd.f5 false true false false W args v W' := by
  refine law_contract (fn := Tryd.f5) (us := [.sl (.st 4)]) uniOk.get_put stepM laidOut u4 (by kernel_rfl) ⟨mExs, (fun n h => by cases h), by kernel_rfl, of_decide_eq_true (by kernel_rfl), trivial⟩ rfl (fun ds hl => ?_) W base args ds gs before hval hW (fun y hy => ?_)
  · match ds, hl with
    | [d], _ => rfl
  · obtain ⟨l, ⟨⟩⟩ : List Ex × Unit := y
    obtain ⟨d, r, rfl, h5, _⟩ := hy.inv_sl
    have key : SmallL l ∧ l.length ≤ 2000000 ∧ ∀ k ∈ l, k.lev ≤ 1048576 := by
      rcases h5 with ⟨_, h0⟩ | ⟨es, sp, rfl, hl, h6⟩
      · have h0' : l = [] := h0
        subst h0'
        exact ⟨by simp [SmallL], by simp, by simp⟩
      · simp only [Rows.uptoBulk, Rows.uptoBulkAll] at hc
        have hlen := bulk_len es
        have hl' : es.length = l.length := hl
        have one : ∀ k ∈ l, Small k ∧ k.lev ≤ 1048576 := by
          intro k hk
          obtain ⟨i, hi, rfl⟩ := List.getElem_of_mem hk
          have hi' : es[i]? = some es[i] := List.getElem?_eq_getElem (by omega)
          have hm := bulk_mem hi'
          obtain ⟨a, b⟩ := ex_small (N := 2000000) (Nat.le_refl _) _ l[i] es[i] (Nat.le_refl _) (h6 i _ _ (List.getElem?_eq_getElem hi) hi') (by omega)
          exact ⟨a, by omega⟩
        exact ⟨smallL_of fun k hk => (one k hk).1, by omega, fun k hk => (one k hk).2⟩
    obtain ⟨k1, k2, k3⟩ := key
    exact Pe.Tryd.ok5 (orcN (1048576 + 300)) (orcN_sound _) (l, ()) (true, ()) (L5 k1 k2 k3 (by omega))

theorem reads (os : Os) {H : Type} (enc : TypeId × Value → H) : ∃ places, DataW.whole enc Tryd.prog ((World.laidAll Tryd.prog os theLaid).forCall (fun _ _ => 0) ⟨#[], #[.slice none 0 0], []⟩).memory Tryd.f5.params.toList Rows.licenceTogetherMatchesSpecSpec.vars false #[Value.slice none 0 0].toList 8 = some ([.nil], [], places) :=
  ⟨[], by kernel_rfl⟩

theorem liftedUpto (os : Os) (started : os.Started) (H : Type) (enc : TypeId × Value → H) (F : Stop.Interp) :
    ReturnsInHanded {} Tryd.checked os 5 .any ((Rows.OpenSpec.upto Rows.licenceTogetherMatchesSpecSpec).preRow enc Tryd.prog Tryd.f5 Rows.licenceTogetherMatchesSpecUptoRow.domain false Rows.licenceTogetherMatchesSpecUptoRow.laid) (((Rows.OpenSpec.upto Rows.licenceTogetherMatchesSpecSpec).at F).post enc Tryd.prog Tryd.f5 false true false false) := by
  obtain ⟨places, hx⟩ := reads os enc
  refine returnsInHanded_of_row (C := Tryd.checked) (s := Rows.OpenSpec.upto Rows.licenceTogetherMatchesSpecSpec) own started (by kernel_rfl) Tryd.func5
    (witness_lay (enc := enc) (C := Tryd.checked) false (World.laidAll Tryd.prog os theLaid) #[.slice none 0 0] (World.laidAll_os _ _ _) (shaped0 os _) (by kernel_rfl)
      (OpenSpec.preRow_of_cond 8 hx (by kernel_rfl) (fun k hk => by cases hk; kernel_rfl) (by kernel_rfl) (laid_met os _))) ?_
  intro W base args ds gs before hval hW _ hcond _ hL _ _
  have hg : gs = [] := by
    obtain ⟨p, q, _, hV, _, _, _⟩ := hW
    match gs, hV with
    | [], _ => rfl
  have hb := of_decide_eq_true (hcond _ rfl)
  rw [hg, List.append_nil] at hb
  exact contract H enc W base args ds gs before hval hW hb

theorem saidUpto : Rows.LicenceTogetherMatchesSpecUptoSaid :=
  OpenClaim.holds_of_cond 5 Tryd.f5 rfl rfl rfl rfl rfl rfl rfl ⟨rfl, rfl, rfl, rfl, rfl⟩ rfl rfl rfl rfl rfl (by kernel_rfl) Tryd.func5 (by kernel_rfl)
    (of_decide_eq_true (by kernel_rfl)) (by unfold Func.isWrapper; first | (rw [if_pos (by decide +kernel)]; kernel_rfl) | (rw [if_neg (by decide +kernel)]; exact ⟨rfl, rfl⟩))
    (fun os started H enc _ F => by rw [OpenClaim.pre_eq_preRow]; exact liftedUpto os started H enc F)

theorem plain (f : FuncId) (fn : Func) (hf : Tryd.pinned.checked.prog.funcNamed "provender/provenderlaw3.LicenceTogetherMatchesSpec" = some f) (hfn : Tryd.pinned.checked.prog.funcs[f]? = some fn) :
    true = Tryd.pinned.checked.prog.looks [] ∧ ∀ (j : Nat) t, fn.params[j]? = some t → Tryd.pinned.checked.prog.wantsStandIn t = false := by
  obtain rfl : f = 5 := Option.some.inj ((show Tryd.prog.funcNamed "provender/provenderlaw3.LicenceTogetherMatchesSpec" = some 5 by kernel_rfl).symm.trans hf) |>.symm
  obtain rfl : fn = Tryd.f5 := (Option.some.inj (Tryd.func5.symm.trans hfn)).symm
  refine ⟨by kernel_rfl, fun j t ht => ?_⟩
  rw [par5] at ht
  obtain rfl : t = 22 := by simpa using Array.mem_of_getElem? ht
  exact (show Tryd.prog.wantsStandIn 22 = false by kernel_rfl)

theorem cardUpto : Rows.LicenceTogetherMatchesSpecUptoCardSaid :=
  Claim7.holds_tied_plain_at .later [] _ _ _ _ saidUpto (fun _ h => by cases h) (by kernel_rfl) (fun _ h => by cases h) licenceTogetherMatchesSpecUpto_row_tie rfl ⟨rfl, rfl⟩ (by kernel_rfl) rfl plain (by kernel_rfl)
end law3
end Go.Proofs.YteimbekcnkogoaaDoor
#print axioms Go.Proofs.YteimbekcnkogoaaDoor.law3.cardUpto
