/- PROVED: LicenceObligationsMatchSpec answers true for every catalogue and every expression of bulk at most 1048576. Condition: the package-level tables that the row lists hold what the program's text lays. -/
import Derived.Test.YteimbekcnkogoaaGreatDoorLizIn
import Derived.Test.YteimbekcnkogoaaGreatDoorLizF
set_option maxRecDepth 100000
namespace Go.Proofs.YteimbekcnkogoaaGreatDoor
open Go Go.RowKit Go.WideShapes Go.ChangeShapes Go.ChangeAt Pe Pe.Tryz
namespace law4
open LicSpec
/-- Which types are read as which codes. -/
def M4 : U → TypeId → Prop := fun u t => M u t ∨ (u = .st 2 ∧ t = 42) ∨ (u = .sl (.st 5) ∧ t = 38) ∨ (u = .sl (.st 3) ∧ t = 39) ∨ (u = .sl (.st 0) ∧ t = 40) ∨ (u = .st 5 ∧ t = 131) ∨ (u = .st 3 ∧ t = 129) ∨ (u = .st 0 ∧ t = 49) ∨ (u = .sl .str ∧ t = 30) ∨ (u = .sl (.st 6) ∧ t = 43) ∨ (u = .st 6 ∧ t = 64)
theorem m0 {u : U} {t : TypeId} (h : M u t) : M4 u t := .inl h
theorem flds_mono {P : Program} {M M' : U → TypeId → Prop} (h : ∀ u t, M u t → M' u t) : ∀ (fs : List Field) (k : Nat) (us : List U), Flds M P k fs us → Flds M' P k fs us
 | [], _, [], h1 => h1
 | [], _, _ :: _, h1 => h1.elim
 | _ :: _, _, [], h1 => h1.elim
 | _ :: fs, _, _ :: us, h1 => ⟨h1.1, h1.2.1, h _ _ h1.2.2.1, flds_mono h fs _ us h1.2.2.2⟩
theorem step_mono {M M' : U → TypeId → Prop} (h : ∀ u t, M u t → M' u t) {u : U} {t : TypeId} (h1 : Step Tryz.prog un M u t) : Step Tryz.prog un M' u t := by
 cases u with
 | int k => exact h1
 | bool => exact h1
 | str => exact h1
 | sl u => obtain ⟨e, a, b, c, d⟩ := h1; exact ⟨e, a, b, c, h _ _ d⟩
 | st n =>
   obtain ⟨a, ⟨fs, b, c⟩ | ⟨k, e, u, b, c, d, f⟩⟩ := h1
   ·exact ⟨a, .inl ⟨fs, b, flds_mono h _ _ _ c⟩⟩
   ·exact ⟨a, .inr ⟨k, e, u, b, c, d, h _ _ f⟩⟩
 | mp _ _ => exact h1
 | rw _ => exact h1
theorem mCat : M4 (.st 2) 42 := .inr (.inl ⟨rfl, rfl⟩)
theorem mLics : M4 (.sl (.st 5)) 38 := .inr (.inr (.inl ⟨rfl, rfl⟩))
theorem mExcs : M4 (.sl (.st 3)) 39 := .inr (.inr (.inr (.inl ⟨rfl, rfl⟩)))
theorem mCls : M4 (.sl (.st 0)) 40 := .inr (.inr (.inr (.inr (.inl ⟨rfl, rfl⟩))))
theorem mLic : M4 (.st 5) 131 := .inr (.inr (.inr (.inr (.inr (.inl ⟨rfl, rfl⟩)))))
theorem mExc : M4 (.st 3) 129 := .inr (.inr (.inr (.inr (.inr (.inr (.inl ⟨rfl, rfl⟩))))))
theorem mCl : M4 (.st 0) 49 := .inr (.inr (.inr (.inr (.inr (.inr (.inr (.inl ⟨rfl, rfl⟩)))))))
theorem mTxs : M4 (.sl .str) 30 := .inr (.inr (.inr (.inr (.inr (.inr (.inr (.inr (.inl ⟨rfl, rfl⟩))))))))
theorem mUses : M4 (.sl (.st 6)) 43 := .inr (.inr (.inr (.inr (.inr (.inr (.inr (.inr (.inr (.inl ⟨rfl, rfl⟩)))))))))
theorem mUse : M4 (.st 6) 64 := .inr (.inr (.inr (.inr (.inr (.inr (.inr (.inr (.inr (.inr ⟨rfl, rfl⟩)))))))))
theorem stepM4 : ∀ u t, M4 u t → Step Tryz.prog un M4 u t := by
 intro u t h
 rcases h with h | ⟨rfl, rfl⟩ | ⟨rfl, rfl⟩ | ⟨rfl, rfl⟩ | ⟨rfl, rfl⟩ | ⟨rfl, rfl⟩ | ⟨rfl, rfl⟩ | ⟨rfl, rfl⟩ | ⟨rfl, rfl⟩ | ⟨rfl, rfl⟩ | ⟨rfl, rfl⟩
 ·exact step_mono (fun _ _ => m0) (stepM u t h)
 ·exact ⟨by kernel_rfl, .inl ⟨_, Tryz.underlying42, ⟨by kernel_rfl, by kernel_rfl, mLics, by kernel_rfl, by kernel_rfl, mExcs, by kernel_rfl, by kernel_rfl, mCls, trivial⟩⟩⟩
 ·exact ⟨131, Tryz.underlying38, by kernel_rfl, by decide, mLic⟩
 ·exact ⟨129, Tryz.underlying39, by kernel_rfl, by decide, mExc⟩
 ·exact ⟨49, Tryz.underlying40, by kernel_rfl, by decide, mCl⟩
 ·exact ⟨by kernel_rfl, .inl ⟨_, Tryz.underlying131, ⟨by kernel_rfl, by kernel_rfl, m0 mStr, by kernel_rfl, by kernel_rfl, m0 mStr, by kernel_rfl, by kernel_rfl, m0 mInt, by kernel_rfl, by kernel_rfl, mTxs, trivial⟩⟩⟩
 ·exact ⟨by kernel_rfl, .inl ⟨_, Tryz.underlying129, ⟨by kernel_rfl, by kernel_rfl, m0 mStr, by kernel_rfl, by kernel_rfl, mTxs, by kernel_rfl, by kernel_rfl, mTxs, trivial⟩⟩⟩
 ·exact ⟨by kernel_rfl, .inr ⟨2, 9, .str, Tryz.underlying49, by kernel_rfl, by kernel_rfl, m0 mStr⟩⟩
 ·exact ⟨9, Tryz.underlying30, by kernel_rfl, by decide, m0 mStr⟩
 ·exact ⟨64, Tryz.underlying43, by kernel_rfl, by decide, mUse⟩
 ·exact ⟨by kernel_rfl, .inl ⟨_, Tryz.underlying64, ⟨by kernel_rfl, by kernel_rfl, m0 mStr, by kernel_rfl, by kernel_rfl, m0 mStr, trivial⟩⟩⟩

/-- What is handed in is small. -/
theorem all_small {H : Type} {u : U} {l : List (El Sx u)} {d : DataW H} {Q : El Sx u → Prop}
  (h : (d = .nil ∧ l = []) ∨ ∃ es sp, d = .slice es sp ∧ es.length = l.length ∧ ∀ (i : Nat) (x : El Sx u) (d : DataW H), l[i]? = some x → es[i]? = some d → Rd un [u] (sg x) [d])
  (hb : Rows.uptoBulk d ≤ 2000000) (hq : ∀ (x : El Sx u) (d : DataW H), Rd un [u] (sg x) [d] → Rows.uptoBulk d ≤ 2000000 → Q x) : l.length ≤ 2000000 ∧ ∀ x ∈ l, Q x := by
 rcases h with ⟨rfl, rfl⟩ | ⟨es, sp, rfl, hl, h6⟩
 ·exact ⟨by simp, by simp⟩
 ·simp only [Rows.uptoBulk] at hb
  have hlen := bulk_len es
  refine ⟨by omega, fun x hx => ?_⟩
  obtain ⟨i, hi, rfl⟩ := List.getElem_of_mem hx
  have hi' : es[i]? = some es[i] := List.getElem?_eq_getElem (by omega)
  have hm := bulk_mem hi'
  exact hq _ _ (h6 i _ _ (List.getElem?_eq_getElem hi) hi') (by omega)
theorem str_small {H : Type} (s : List UInt8) (d : DataW H) (h : Rd un [.str] (sg (u := .str) s) [d]) (hb : Rows.uptoBulk d ≤ 2000000) : s.length ≤ 2000000 := by
 obtain ⟨r, h0, _, _⟩ := h.inv_str
 obtain ⟨rfl, _⟩ := List.cons.inj h0
 have hb : Rows.uptoBulk (H := H) (.lit (.string s)) ≤ 2000000 := hb
 simp only [Rows.uptoBulk] at hb; omega
theorem rule_small {H : Type} (x : Gt.LicenceRule) (d : DataW H) (h : Rd un [.st 5] (sg (u := .st 5) x) [d]) (hb : Rows.uptoBulk d ≤ 2000000) : x.name.length ≤ 2000000 ∧ x.family.length ≤ 2000000 ∧ Txs x.obligations := by
 obtain ⟨ps, r, h0, h1, _⟩ := h.inv_st
 obtain ⟨rfl, _⟩ := List.cons.inj h0
 have h1 : Rd un [.str, .str, .int .i64, .sl .str] ((x.name, x.family, x.order, x.obligations, ()) : ElL Sx [.str, .str, .int .i64, .sl .str]) ps := h1
 obtain ⟨r1, rfl, w1, h2⟩ := h1.inv_str
 obtain ⟨r2, rfl, w2, h3⟩ := h2.inv_str
 obtain ⟨r3, rfl, w3, h4⟩ := h3.inv_int
 obtain ⟨dk, r5, rfl, h6, h7⟩ := h4.inv_sl
 have hb : Rows.uptoBulk (H := H) (.agg (.lit (.string x.name) :: .lit (.string x.family) :: .lit (.int .i64 x.order) :: dk :: r5)) ≤ 2000000 := hb
 simp only [Rows.uptoBulk, Rows.uptoBulkAll] at hb
 exact ⟨by omega, by omega, all_small h6 (by omega) fun s d => str_small s d⟩
theorem exc_small {H : Type} (x : Gt.Exception) (d : DataW H) (h : Rd un [.st 3] (sg (u := .st 3) x) [d]) (hb : Rows.uptoBulk d ≤ 2000000) : x.name.length ≤ 2000000 ∧ Txs x.for_ ∧ Txs x.lifts := by
 obtain ⟨ps, r, h0, h1, _⟩ := h.inv_st
 obtain ⟨rfl, _⟩ := List.cons.inj h0
 have h1 : Rd un [.str, .sl .str, .sl .str] ((x.name, x.for_, x.lifts, ()) : ElL Sx [.str, .sl .str, .sl .str]) ps := h1
 obtain ⟨r1, rfl, w1, h2⟩ := h1.inv_str
 obtain ⟨dk, r5, rfl, h6, h7⟩ := h2.inv_sl
 obtain ⟨dl, r6, rfl, h8, h9⟩ := h7.inv_sl
 have hb : Rows.uptoBulk (H := H) (.agg (.lit (.string x.name) :: dk :: dl :: r6)) ≤ 2000000 := hb
 simp only [Rows.uptoBulk, Rows.uptoBulkAll] at hb
 exact ⟨by omega, all_small h6 (by omega) fun s d => str_small s d, all_small h8 (by omega) fun s d => str_small s d⟩
theorem pair_small {H : Type} (x : Gt.A2_string) (d : DataW H) (h : Rd un [.st 0] (sg (u := .st 0) x) [d]) (hb : Rows.uptoBulk d ≤ 2000000) : x.e0.length ≤ 2000000 ∧ x.e1.length ≤ 2000000 := by
 obtain ⟨ps, r, h0, h1, _⟩ := h.inv_st
 obtain ⟨rfl, _⟩ := List.cons.inj h0
 have h1 : Rd un [.str, .str] ((x.e0, x.e1, ()) : ElL Sx [.str, .str]) ps := h1
 obtain ⟨r1, rfl, w1, h2⟩ := h1.inv_str
 obtain ⟨r2, rfl, w2, h3⟩ := h2.inv_str
 have hb : Rows.uptoBulk (H := H) (.agg (.lit (.string x.e0) :: .lit (.string x.e1) :: r2)) ≤ 2000000 := hb
 simp only [Rows.uptoBulk, Rows.uptoBulkAll] at hb
 exact ⟨by omega, by omega⟩
theorem cat_small {H : Type} (c : Cat) (d : DataW H) (h : Rd un [.st 2] (sg (u := .st 2) c) [d]) (hb : Rows.uptoBulk d ≤ 2000000) : SmallC c := by
 obtain ⟨ps, r, h0, h1, _⟩ := h.inv_st
 obtain ⟨rfl, _⟩ := List.cons.inj h0
 have h1 : Rd un [.sl (.st 5), .sl (.st 3), .sl (.st 0)] ((c.licences, c.exceptions, c.clashes, ()) : ElL Sx [.sl (.st 5), .sl (.st 3), .sl (.st 0)]) ps := h1
 obtain ⟨d1, r1, rfl, k1, h2⟩ := h1.inv_sl
 obtain ⟨d2, r2, rfl, k2, h3⟩ := h2.inv_sl
 obtain ⟨d3, r3, rfl, k3, h4⟩ := h3.inv_sl
 simp only [Rows.uptoBulk, Rows.uptoBulkAll] at hb
 obtain ⟨a1, a2⟩ := all_small k1 (by omega) fun s d => rule_small s d
 obtain ⟨b1, b2⟩ := all_small k2 (by omega) fun s d => exc_small s d
 obtain ⟨c1, c2⟩ := all_small k3 (by omega) fun s d => pair_small s d
 exact ⟨a1, a2, b1, b2, c1, c2⟩

theorem par4 : Tryz.f4.params = #[42, 43] := by kernel_rfl
theorem contract (H : Type) (enc : TypeId × Value → H) (W : World) (base : Nat) (args : Array Value) (ds gs : List (DataW H)) (before : List MemPlace)
  (hval : ∀ (j : Nat) t v, Tryz.f4.params[j]? = some t → args[j]? = some v → Value.okWide Tryz.prog W .any base t v)
  (hW : DataW.Whole enc Tryz.prog Tryz.f4.params.toList Rows.licenceObligationsMatchSpecSpec.vars false W args.toList ds gs before) (hc : Rows.uptoBulkAll ds ≤ 1048576) :
  Calls Tryz.prog 4 args W fun e W' => ∃ v, e = .returned v ∧ Rows.licenceObligationsMatchSpecSpec.post enc Tryz.prog Tryz.f4 false true false false W args v W' := by
 refine law_contract (fn := Tryz.f4) (us := [.st 2, .sl (.st 6)]) uniOk.get_put stepM4 laidOut u4 (by kernel_rfl) ⟨mCat, (fun n h => ⟨_, Tryz.underlying42⟩), by kernel_rfl, of_decide_eq_true (by kernel_rfl), mUses, (fun n h => by cases h), by kernel_rfl, of_decide_eq_true (by kernel_rfl), trivial⟩ rfl (fun ds hl => ?_) W base args ds gs before hval hW (fun y hy => ?_)
 ·match ds, hl with
  | [d1, d2], _ => rfl
 ·obtain ⟨c, l, ⟨⟩⟩ : Cat × List Gt.Use × Unit := y
  obtain ⟨ps, r, rfl, h5, h6⟩ := hy.inv_st
  have hcx : Rd un [.st 2] (sg (u := .st 2) c) [.agg ps] := .st h5 .nil
  simp only [Rows.uptoBulkAll] at hc
  have k := cat_small c _ hcx (by omega)
  exact Pe.Tryz.ok4 (orcN 2000000) (orcN_sound _) (c, l, ()) (true, ()) (L4 (c := c) k l (by omega))

def w0 : Value := .agg #[.slice none 0 0, .slice none 0 0, .slice none 0 0]
def w1 : Value := .slice none 0 0
theorem reads (os : Os) {H : Type} (enc : TypeId × Value → H) : ∃ places, DataW.whole enc Tryz.prog ((World.laidAll Tryz.prog os theLaid).forCall (fun _ _ => 0) ⟨#[], #[w0, w1], []⟩).memory Tryz.f4.params.toList Rows.licenceObligationsMatchSpecSpec.vars false #[w0, w1].toList 8 = some ([.agg [.nil, .nil, .nil], .nil], [], places) :=
 ⟨[], by kernel_rfl⟩

theorem liftedUpto (os : Os) (started : os.Started) (H : Type) (enc : TypeId × Value → H) (F : Stop.Interp) :
  ReturnsInHanded {} Tryz.checked os 4 .any ((Rows.OpenSpec.upto Rows.licenceObligationsMatchSpecSpec).preRow enc Tryz.prog Tryz.f4 Rows.licenceObligationsMatchSpecUptoRow.domain false Rows.licenceObligationsMatchSpecUptoRow.laid) (((Rows.OpenSpec.upto Rows.licenceObligationsMatchSpecSpec).at F).post enc Tryz.prog Tryz.f4 false true false false) := by
 obtain ⟨places, hx⟩ := reads os enc
 refine returnsInHanded_of_row (C := Tryz.checked) (s := Rows.OpenSpec.upto Rows.licenceObligationsMatchSpecSpec) own started (by kernel_rfl) Tryz.func4
  (witness_lay (enc := enc) (C := Tryz.checked) false (World.laidAll Tryz.prog os theLaid) #[w0, w1] (World.laidAll_os _ _ _) (shaped0 os _) (by kernel_rfl)
   (OpenSpec.preRow_of_cond 8 hx (by kernel_rfl) (fun k hk => by cases hk; kernel_rfl) (by kernel_rfl) (laid_met os _))) ?_
 intro W base args ds gs before hval hW _ hcond _ hL _ _
 have hg : gs = [] := by
  obtain ⟨p, q, _, hV, _, _, _⟩ := hW
  match gs, hV with
  | [], _ => rfl
 have hb := of_decide_eq_true (hcond _ rfl)
 rw [hg, List.append_nil] at hb
 exact contract H enc W base args ds gs before hval hW hb

theorem cl1 : (Rows.licenceObligationsMatchSpecUptoRow.inPlace == Tryz.prog.inPlace 4) = true := by kernel_rfl
theorem cl2 : (Rows.licenceObligationsMatchSpecUptoRow.unfollowed == Tryz.prog.unfollowed 4) = true := by kernel_rfl
theorem cl3 : (Rows.licenceObligationsMatchSpecUptoRow.recurses == Tryz.prog.recurses 4) = true := by kernel_rfl
theorem cl4 : (Rows.licenceObligationsMatchSpecUptoRow.named == Tryz.prog.varsNamed 4) = true := by kernel_rfl
theorem closed : joinedFacts Tryz.prog 4 Tryz.f4 (Rows.OpenSpec.upto Rows.licenceObligationsMatchSpecSpec).bare Rows.licenceObligationsMatchSpecUptoRow = true := by
 unfold joinedFacts
 rw [cl1, cl2, cl3, cl4]
 kernel_rfl
theorem saidUpto : Rows.LicenceObligationsMatchSpecUptoSaid :=
 OpenClaim.holds_of_cond 4 Tryz.f4 rfl rfl rfl rfl rfl rfl rfl ⟨rfl, rfl, rfl, rfl, rfl⟩ rfl rfl rfl rfl rfl (by kernel_rfl) Tryz.func4 closed
  (of_decide_eq_true (by kernel_rfl)) (by unfold Func.isWrapper; first | (rw [if_pos (by decide +kernel)]; kernel_rfl) | (rw [if_neg (by decide +kernel)]; exact ⟨rfl, rfl⟩))
  (fun os started H enc _ F => by rw [OpenClaim.pre_eq_preRow]; exact liftedUpto os started H enc F)

theorem plain (f : FuncId) (fn : Func) (hf : Tryz.pinned.checked.prog.funcNamed "provender/provenderlaw3.LicenceObligationsMatchSpec" = some f) (hfn : Tryz.pinned.checked.prog.funcs[f]? = some fn) :
  true = Tryz.pinned.checked.prog.looks [] ∧ ∀ (j : Nat) t, fn.params[j]? = some t → Tryz.pinned.checked.prog.wantsStandIn t = false := by
 obtain rfl : f = 4 := Option.some.inj ((show Tryz.prog.funcNamed "provender/provenderlaw3.LicenceObligationsMatchSpec" = some 4 by kernel_rfl).symm.trans hf) |>.symm
 obtain rfl : fn = Tryz.f4 := (Option.some.inj (Tryz.func4.symm.trans hfn)).symm
 refine ⟨by kernel_rfl, fun j t ht => ?_⟩
 rw [par4] at ht
 have ht' : t = 42 ∨ t = 43 := by simpa using Array.mem_of_getElem? ht
 rcases ht' with rfl | rfl
 ·exact (show Tryz.prog.wantsStandIn 42 = false by kernel_rfl)
 ·exact (show Tryz.prog.wantsStandIn 43 = false by kernel_rfl)

theorem cardUpto : Rows.LicenceObligationsMatchSpecUptoCardSaid :=
 Claim7.holds_tied_plain_at .later [] _ _ _ _ saidUpto (fun _ h => by cases h) (by kernel_rfl) (fun _ h => by cases h) licenceObligationsMatchSpecUpto_row_tie rfl ⟨rfl, rfl⟩ (by kernel_rfl) rfl plain (by kernel_rfl)
end law4
end Go.Proofs.YteimbekcnkogoaaGreatDoor
#print axioms Go.Proofs.YteimbekcnkogoaaGreatDoor.law4.cardUpto
