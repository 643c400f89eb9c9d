/- Functions. -/
import Derived.Test.YteimbekcnkogoaaDoorPe16
namespace Pe
open Go Go.RowKit
variable {S : Nat → Type}
section
variable {P : Program} {un : Uni S} {tb : Tb S} {orc : Orc S} {inl : Inl S} {an : Ann} {E : Wl.Ctx} {D : Dat} {H : List Wl.Res} {N : Wl.Fr} {e : Env S} {bx : Bxs S} {a : Act} {w : World}

theorem castL_rep (hun : UniOk un) (hs : St un E N D H e bx a w) {nu' : Nu} : ∀ {us : List U} {ps : List (PV S)} {t : ElL S us} {vs : List Value}, castL un bx us ps = some t → RepL un (ids H) D w ps vs → RepL un nu' D w (injL us t) vs
  | [], [], t, [], _, _ => by simp [injL, RepL]
  | u :: us, p :: ps, t, v :: vs, hc, hr => by
    obtain ⟨x, t', h1, h2, rfl⟩ := castL_cons hc
    simp only [RepL, injL] at hr ⊢
    exact ⟨Rep_inj (cast_dr hun h1 (hs.fz hun hr.1)).2, castL_rep hun hs h2 hr.2⟩
  | [], _ :: _, _, _, hc, _ => by simp [castL] at hc
  | _ :: _, [], _, _, hc, _ => by simp [castL] at hc
  | [], [], _, _ :: _, _, hr => by simp [RepL] at hr
  | _ :: _, _ :: _, _, [], _, hr => by simp [RepL] at hr

def resM (tmps : Array Value) : ResultVar → Sem Value
  | .tmp t => pure (tmps.getD t undef)
  | .cell b T => do loadVar T (← asAddr (tmps.getD b undef))
theorem results_eq (fn : Func) (tmps : Array Value) : results fn tmps = (do let vs ← fn.results.toList.mapM (resM tmps); pure (if hh : vs.toArray.size = 1 then vs.toArray[0] else .tuple vs.toArray)) := by
  have : (fun x : ResultVar => match x with
    | .tmp t => pure (tmps.getD t undef)
    | .cell a t => do loadVar t (← asAddr (tmps.getD a undef))) = resM tmps := by funext x; cases x <;> rfl
  unfold results
  rw [Array.mapM_eq_mapM_toList]
  simp only [map_eq_pure_bind, bind_assoc, pure_bind]
  exact congrArg (fun f => fn.results.toList.mapM f >>= fun vs => pure (if hh : vs.toArray.size = 1 then vs.toArray[0] else .tuple vs.toArray)) this

theorem resPs_run (hun : UniOk un) (ht : TbOk P un tb) (hs : St un E N D H e bx a w) : ∀ {rvs : List ResultVar} {ps : List (PV S)}, resPs un tb e bx rvs = some ps →
    ∃ vs : List Value, (rvs.mapM (resM a.tmps)).run P w = .ok vs w ∧ RepL un (ids H) D w ps vs
  | [], ps, h => by simp [resPs] at h; subst h; exact ⟨[], by simp, by simp [RepL]⟩
  | .tmp t :: r, ps, h => by
    unfold resPs at h
    split at h
    · rename_i p l h1 h2
      cases h
      obtain ⟨vs, g1, g2⟩ := resPs_run hun ht hs h2
      exact ⟨a.tmps.getD t undef :: vs, by simp only [List.mapM_cons, resM, pure_bind, Sem.run_bind, g1, Result.andThen]; rfl, by simp only [RepL]; exact ⟨hs.slots t p h1, g2⟩⟩
    · cases h
  | .cell b T :: r, ps, h => by
    unfold resPs at h
    split at h
    · rename_i q l h1 h2
      split at h
      · rename_i p h3
        cases h
        obtain ⟨vs, g1, g2⟩ := resPs_run hun ht hs h2
        obtain ⟨u, g3, g4⟩ := load_rep hun ht hs h3 (hs.slots b q h1)
        refine ⟨u :: vs, ?_, by simp only [RepL]; exact ⟨g4, g2⟩⟩
        have g5 : (resM a.tmps (.cell b T)).run P w = .ok u w := by
          simp only [resM]
          unfold Instr.loadAt at g3
          generalize a.tmps.getD b undef = vv at g3 ⊢
          cases vv with
          | pointer ad =>
            cases ad with
            | some ad => simpa [asAddr, Instr.sureAddr] using g3
            | none => simp [Instr.sureAddr, stuck, Sem.run_bind] at g3
          | _ => simp [Instr.sureAddr, stuck, Sem.run_bind] at g3
        simp only [List.mapM_cons, Sem.run_bind, g5, Result.andThen, g1]; rfl
      · cases h
    · cases h

theorem rep_one {nu : Nu} {ps : List (PV S)} {vs : List Value} (h : RepL un nu D w ps vs) : Rep un nu D w (one? ps) (if hh : vs.toArray.size = 1 then vs.toArray[0] else .tuple vs.toArray) := by
  match ps, vs, h with
  | [], [], _ => simp [one?, Rep, RepL]
  | [p], [v], h => simpa [one?, RepL] using h
  | p :: q :: ps, v :: x :: vs, h => simp only [one?, Rep]; exact ⟨_, by simp, h⟩
  | [], _ :: _, h => simp [RepL] at h
  | _ :: _, [], h => simp [RepL] at h
  | [_], _ :: _ :: _, h => simp [RepL] at h
  | _ :: _ :: _, [_], h => simp [RepL] at h

theorem results_run (hun : UniOk un) (ht : TbOk P un tb) (hs : St un E N D H e bx a w) {fn : Func} {ps : List (PV S)} (h : resPs un tb e bx fn.results.toList = some ps) {rs : List U} {t : ElL S rs} (hc : castL un bx rs ps = some t) :
    ∃ v, (results fn a.tmps).run P w = .ok v w ∧ Rep un [] D w (one? (injL rs t)) v := by
  obtain ⟨vs, h1, h2⟩ := resPs_run hun ht hs h
  refine ⟨_, ?_, rep_one (castL_rep hun hs (nu' := []) hc h2)⟩
  rw [results_eq]
  simp only [Sem.run_bind, h1, Result.andThen]
  rfl

theorem look_argEnv : ∀ (l : List (PV S)) (k i : Nat) (v : PV S), look (argEnv k l) i = some v → k ≤ i ∧ l[i - k]? = some v
  | [], _, _, _, h => by cases h
  | u :: r, k, i, v, h => by
    simp only [argEnv, look] at h
    cases hb : Nat.beq k i with
    | true => rw [hb] at h; have : k = i := Nat.eq_of_beq_eq_true hb; subst this; simp at h; subst h; simp
    | false =>
      rw [hb] at h
      obtain ⟨h1, h2⟩ := look_argEnv r (k + 1) i v h
      refine ⟨by omega, ?_⟩
      rw [show i - k = (i - (k + 1)) + 1 by omega]; simpa using h2

theorem RepL.len {nu : Nu} : ∀ {ps : List (PV S)} {vs : List Value}, RepL un nu D w ps vs → ps.length = vs.length
  | [], [], _ => rfl
  | p :: ps, v :: vs, hr => by simp only [RepL] at hr; simp [RepL.len hr.2]
  | _ :: _, [], hr => by simp [RepL] at hr
  | [], _ :: _, hr => by simp [RepL] at hr

/-- A function that is read by its text comes back with what the reading says. -/
theorem fnI_back (hmix : P.follows .mixedOrders = true) (hun : UniOk un) (ht : TbOk P un tb) (hor : SoundO P un orc) (hin : SoundI P un inl) {fn : Func} {args : List (PV S)} {rs : List U} {r : ElL S rs} {f : FuncId}
    (h : fnI un tb orc inl an fn args bx rs = some r) (hf : P.funcs[f]? = some fn) {vs : List Value} (hD : ∀ k o, D k o → k < w.heap.size) (hH : ∀ r ∈ H, ∃ id, r = .ref id) (hbx : BxRep un (ids H) D w ⟨w, []⟩ bx H) (ha : RepL un (ids H) D w args vs) :
    Back P un D f vs.toArray w (one? (injL rs r)) := by
  unfold fnI at h
  split at h
  · cases h
  · rename_i c hb
    obtain ⟨h0, h⟩ := bif_some h
    simp only [Bool.and_eq_true, List.all_eq_true, Nat.blt_eq, Nat.ble_eq] at h0
    refine calls_of_wp hf hb ?_
    have hlen := ha.len
    have hst : St un ⟨w, []⟩ ⟨fn.ntmps, []⟩ D H (argEnv 0 args) bx { tmps := vs.toArray ++ Array.replicate (fn.ntmps - vs.toArray.size) undef, defers := [] } w := by
      refine ⟨⟨Wl.Grow.refl _ _, hD, fun r hr => ?_, fun r hr g hg => ?_, ?_, fun i g hi => by simp at hi⟩, ?_, rfl, hbx, fun i p hi => ?_⟩
      · obtain ⟨id, rfl⟩ := hH r hr; trivial
      · obtain ⟨id, rfl⟩ := hH r hr; cases hg
      · refine List.Pairwise.imp_of_mem (R := fun _ _ => True) (fun {r r'} hr hr' _ => ?_) (List.pairwise_of_forall fun _ _ => trivial)
        obtain ⟨id, rfl⟩ := hH r hr
        intro g hg; cases hg
      · simp; omega
      · obtain ⟨_, h1⟩ := look_argEnv args 0 i p hi
        obtain ⟨v, h2, h3⟩ := ha.get i p (by simpa using h1)
        have hlt : i < vs.length := (List.getElem?_eq_some_iff.1 h2).1
        simp only [Array.getD_eq_getD_getElem?]
        rw [Array.getElem?_append_left (by simpa using hlt)]
        simpa [h2] using h3
    refine exec_wp (E := ⟨w, []⟩) (D0 := D) (N := ⟨fn.ntmps, []⟩) hmix hun ht hor hin _ _ _ _ _ _ h h0.1 ⟨D, H, hst, fun k o hk => .inl hk⟩ fun x e' bx' hk _ _ a' w' hH' => ?_
    have fin : (match resPs un tb e' bx' fn.results.toList with
      | some l => castL un bx' rs l
      | none => none) = some r → a'.defers = [] ∧ ∃ v, (results fn a'.tmps).run P w' = .ok v w' ∧ ∃ v', Ending.returned v = .returned v' ∧ Below w.heap.size w w' ∧ Rep un [] (newD D w w') w' (one? (injL rs r)) v' := by
      intro hk
      split at hk
      · rename_i l hl
        obtain ⟨D', H', hs', hD'⟩ := hH'
        obtain ⟨v, g1, g2⟩ := results_run hun ht hs' hl hk
        have hg := hs'.inn.out
        refine ⟨hs'.defers, v, g1, v, rfl, ⟨hg.os, hg.tape, hg.output, hg.size, fun k hk => hg.block k hk (by simp)⟩, ?_⟩
        refine g2.ge ⟨fun k o hk => ?_, fun _ _ _ => rfl⟩ fun _ _ h => h
        rcases hD' k o hk with h1 | h1
        · exact .inl h1
        · exact .inr ⟨h1, hs'.inn.lt k o hk⟩
      · cases hk
    cases x with
    | normal => exact fin hk
    | ret => exact fin hk
    | exit i => cases hk
    | goto l => cases hk
    | panic ch => cases hk
    | outgrown => cases hk

/-- What the lent boxes hold at the end. -/
theorem lend_end (hun : UniOk un) (hs : St un E N D H e bx a w) {D' : Dat} (hge : Ge D w D' w) : ∀ {ts : List TypeId} {lc : List U} {gs ls : List Nat} {c : ElL S lc}, lend un bx ts lc ls = some c → BlocksOf H ls gs → LentRep un D' w ts lc c gs
  | [], [], [], [], c, _, _ => by simp [LentRep]
  | T :: ts, u :: us, g :: gs, b :: bs, c, h, hb => by
    unfold lend at h
    split at h
    · rename_i T' cs hg
      split at h
      · rename_i x t h1 h2
        obtain ⟨h3, h4⟩ := bif_some h
        cases h4
        simp only [Bool.and_eq_true] at h3
        have hT := Nat.eq_of_beq_eq_true h3.1
        subst hT
        simp only [BlocksOf] at hb
        obtain ⟨⟨T0, cs0, hH⟩, hb2⟩ := hb
        obtain ⟨r, hr1, hr2⟩ := hs.boxes.get hg
        rw [hH] at hr1; cases hr1
        simp only [BoxRep] at hr2
        obtain ⟨rfl, hl⟩ := hr2
        simp only [LentRep]
        exact ⟨⟨cs0, (hs.inn.res _ (List.mem_of_getElem? hH)).2, (lend_one hun hs h1 hl).mono hge⟩, lend_end hun hs hge h2 hb2⟩
      · cases h
    · cases h
  | [], [], [], _ :: _, _, h, _ => by simp [lend] at h
  | [], [], _ :: _, [], _, _, hb => by simp [BlocksOf] at hb
  | [], [], _ :: _, _ :: _, _, h, _ => by simp [lend] at h
  | [], _ :: _, _, _, _, h, _ => by simp [lend] at h
  | _ :: _, [], _, _, _, h, _ => by simp [lend] at h
  | _ :: _, _ :: _, _, [], _, h, _ => by simp [lend] at h
  | _ :: _, _ :: _, [], _ :: _, _, _, hb => by simp [BlocksOf] at hb

/-- The blocks as the callee's own boxes. -/
def lentRes (w : World) : List TypeId → List Nat → List Wl.Res
  | T :: ts, g :: gs => .box g T (match w.heap[g]? with | some (.cells cs _ _) => cs.toList | _ => []) :: lentRes w ts gs
  | _, _ => []
theorem lentRes_spec (hf : Flat un) {c : List U} : ∀ {ts : List TypeId} {lc : List U} {t : ElL S lc} {gs : List Nat}, LentRep un D w ts lc t gs → ∀ {nu : Nu} {E : Wl.Ctx},
    BxRep un nu D w E (mkLent un ts lc t) (lentRes w ts gs) ∧ ids (lentRes w ts gs) = ptrIds gs ∧ (lentRes w ts gs).length = gs.length ∧ ts.length = gs.length ∧
    ∀ r ∈ lentRes w ts gs, ∃ g ∈ gs, ∃ T cs, r = .box g T cs ∧ w.heap[g]? = some (.cells cs.toArray T (0, 0))
  | [], [], _, [], _, _, _ => by simp [mkLent, lentRes, BxRep, ids]
  | T :: ts, u :: us, t, g :: gs, h, nu, E => by
    simp only [LentRep] at h
    obtain ⟨⟨cs, h1, h2⟩, h3⟩ := h
    obtain ⟨k1, k2, k3, k4, k5⟩ := lentRes_spec hf (c := c) h3 (nu := nu) (E := E)
    simp only [mkLent, lentRes, h1, BxRep, BoxRep]
    refine ⟨⟨⟨trivial, openEl_rep hf h2⟩, k1⟩, by simpa [ids, resId] using k2, by simp [k3], by simp [k4], fun r hr => ?_⟩
    rcases List.mem_cons.1 hr with rfl | hr
    · exact ⟨g, by simp, T, _, rfl, by simpa using h1⟩
    · obtain ⟨g', m1, m2⟩ := k5 r hr; exact ⟨g', by simp [m1], m2⟩
  | [], [], _, _ :: _, h, _, _ => by simp [LentRep] at h
  | [], _ :: _, _, _, h, _, _ => by simp [LentRep] at h
  | _ :: _, [], _, _, h, _, _ => by simp [LentRep] at h
  | _ :: _, _ :: _, _, [], h, _, _ => by simp [LentRep] at h
theorem lentRes_blocks : ∀ {ts : List TypeId} {gs : List Nat}, ts.length = gs.length → (lentRes w ts gs).map Wl.Res.block = gs.map some
  | [], [], _ => rfl
  | T :: ts, g :: gs, h => by simp only [lentRes, List.map_cons, Wl.Res.block]; rw [lentRes_blocks (by simpa using h)]
  | [], _ :: _, h => by simp at h
  | _ :: _, [], h => by simp at h

theorem unval_val : ∀ {ps : List U} {vs : List Value} {p : ElL S ps}, unval ps vs = some p → valI ps p = vs
  | [], [], _, _ => rfl
  | .int k :: us, v :: vs, p, h => by
    cases v with
    | int k' n =>
      simp only [unval] at h
      split at h
      · rename_i hk t' h1 h2
        have := hk.down; subst this
        cases h
        simp only [valI]; rw [unval_val h2]
      · cases h
    | _ => simp [unval] at h
  | [], _ :: _, _, h => by simp [unval] at h
  | .int _ :: _, [], _, h => by simp [unval] at h
  | .bool :: _, _, _, h => by simp [unval] at h
  | .str :: _, _, _, h => by simp [unval] at h
  | .sl _ :: _, _, _, h => by simp [unval] at h
  | .st _ :: _, _, _, h => by simp [unval] at h
theorem unpan_eq {pan : TypeId} {ps : List U} {ch : List PanicEntry} {p : ElL S ps} (h : unpan pan ps ch = some p) : ch = [panE pan ps p] := by
  unfold unpan at h
  split at h
  · rename_i T a
    obtain ⟨h1, h2⟩ := bif_some h
    have := Nat.eq_of_beq_eq_true h1
    subst this
    simp only [panE, unval_val h2]
  · cases h

theorem mkLent_var : ∀ {ts : List TypeId} {lc : List U} {c : ElL S lc} {i : Nat} {b : Box S}, getB (mkLent un ts lc c) i = some b → ∃ T cs, b = .var T cs
  | [], _, _, _, _, h => by simp [mkLent, getB] at h
  | _ :: _, [], _, _, _, h => by simp [mkLent, getB] at h
  | T :: ts, u :: us, t, 0, b, h => by simp [mkLent, getB] at h; exact ⟨_, _, h.symm⟩
  | T :: ts, u :: us, t, i + 1, b, h => mkLent_var (ts := ts) (lc := us) (c := t.2) (i := i) (by simpa [mkLent, getB] using h)
theorem blocks_range : ∀ {gs : List Nat} {k : Nat}, (∀ (i g : Nat), gs[i]? = some g → ∃ T cs, H[k + i]? = some (.box g T cs)) → BlocksOf H (List.range' k gs.length) gs
  | [], _, _ => by simp [BlocksOf]
  | g :: gs, k, h => by
    simp only [List.length_cons, List.range'_succ, BlocksOf]
    exact ⟨h 0 g rfl, blocks_range fun i g' hi => by have := h (i + 1) g' (by simpa using hi); rwa [show k + 1 + i = k + (i + 1) by omega]⟩

/-- A function to which boxes are lent does what the reading says. -/
theorem fnE_sat (hmix : P.follows .mixedOrders = true) (hun : UniOk un) (ht : TbOk P un tb) (hor : SoundO P un orc) (hin : SoundI P un inl) {fn : Func} {args : List (PV S)} {ts : List TypeId} {lc : List U} {c : ElL S lc} {rs ps : List U} {pan : TypeId} {r : Out S lc rs ps} {f : FuncId}
    (h : fnE un tb orc inl an fn args ts lc c rs ps pan = some r) (hf : P.funcs[f]? = some fn) : SatE P un f args ts lc c rs ps pan r := by
  intro D w vs gs hD hgn hgD hl ha
  unfold fnE at h
  split at h
  · cases h
  · rename_i b hb
    obtain ⟨h0, h⟩ := bif_some h
    simp only [Bool.and_eq_true, List.all_eq_true, Nat.blt_eq, Nat.ble_eq] at h0
    obtain ⟨⟨h0, h00⟩, h01⟩ := h0
    refine calls_of_wp hf hb ?_
    have hlen := ha.len
    obtain ⟨k1, k2, k3, k4, k5⟩ := lentRes_spec hun.flat (c := []) hl (nu := ids (lentRes w ts gs)) (E := ⟨w, gs⟩)
    have hblk := lentRes_blocks (w := w) k4
    have hst : St un ⟨w, gs⟩ ⟨fn.ntmps, []⟩ D (lentRes w ts gs) (argEnv 0 args) (mkLent un ts lc c) { tmps := vs.toArray ++ Array.replicate (fn.ntmps - vs.toArray.size) undef, defers := [] } w := by
      refine ⟨⟨Wl.Grow.refl _ _, hD, fun r hr => ?_, fun r hr g hg o _ => ?_, ?_, fun i g hi => ?_⟩, ?_, rfl, k1, fun i p hi => ?_⟩
      · obtain ⟨g, hgm, T, cs, rfl, hw⟩ := k5 r hr; exact ⟨.inr hgm, hw⟩
      · obtain ⟨g', hgm, T, cs, rfl, hw⟩ := k5 r hr
        simp [Wl.Res.block] at hg; subst hg
        exact hgD _ hgm o
      · have h1 : (gs.map some).Pairwise (fun (x y : Option Nat) => ∀ g, x = some g → y ≠ some g) := by
          rw [List.pairwise_map]
          exact List.Pairwise.imp (fun {a b} hab g hg hg' => by simp at hg hg'; exact hab (hg.trans hg'.symm)) hgn
        rw [← hblk, List.pairwise_map] at h1
        exact h1
      · have hid : (ids (lentRes w ts gs))[i]? = (ptrIds gs)[i]? := by rw [k2]
        have hi' : gs[i]? = some g := hi
        simp only [ids, List.getElem?_map, hi', Option.map_some] at hid
        cases hr : (lentRes w ts gs)[i]? with
        | none => rw [hr] at hid; cases hid
        | some r0 =>
          rw [hr] at hid
          obtain ⟨g0, _, T0, cs0, rfl, _⟩ := k5 r0 (List.mem_of_getElem? hr)
          simp [resId] at hid
          subst hid
          exact ⟨T0, cs0, rfl⟩
      · simp; omega
      · obtain ⟨_, h1⟩ := look_argEnv args 0 i p hi
        obtain ⟨v, h2, h3⟩ := ha.get i p (by simpa using h1)
        have hlt : i < vs.length := (List.getElem?_eq_some_iff.1 h2).1
        rw [k2]
        simp only [Array.getD_eq_getD_getElem?]
        rw [Array.getElem?_append_left (by simpa using hlt)]
        simpa [h2] using h3
    refine exec_wp (E := ⟨w, gs⟩) (D0 := D) (N := ⟨fn.ntmps, []⟩) hmix hun ht hor hin _ _ _ _ _ _ h h0 ⟨D, _, hst, fun k o hk => .inl hk⟩ fun x e' bx' hk _ hpb a' w' hH' => ?_
    obtain ⟨D', H', hs', hD'⟩ := hH'
    have hg := hs'.inn.out
    have hge : Ge D' w' (newD D w w') w' := ⟨fun k o hk => by
      rcases hD' k o hk with h1 | h1
      · exact .inl h1
      · exact .inr ⟨h1, hs'.inn.lt k o hk⟩, fun _ _ _ => rfl⟩
    have hbl : BlocksOf H' (List.range ts.length) gs := by
      rw [List.range_eq_range', k4]
      exact blocks_range fun i g hi => by simpa using hs'.inn.lent i g hi
    have hsame : sameLen w w' gs := by
      intro g hgm T cs hw
      obtain ⟨i, hi⟩ := List.getElem?_of_mem hgm
      have hil : i < gs.length := (List.getElem?_eq_some_iff.1 hi).1
      obtain ⟨b0, hb0⟩ := getB_some (bx := mkLent un ts lc c) (i := i) (by rw [k1.length, k3]; exact hil)
      obtain ⟨T1, csP, rfl⟩ := mkLent_var hb0
      obtain ⟨r0, hr1, hr2⟩ := k1.get hb0
      obtain ⟨g0, _, T0, cs0, rfl, hw0⟩ := k5 r0 (List.mem_of_getElem? hr1)
      have hid : (ids (lentRes w ts gs))[i]? = (ptrIds gs)[i]? := by rw [k2]
      simp only [ids, List.getElem?_map, hr1, hi, Option.map_some, resId] at hid
      simp at hid
      subst hid
      simp only [BoxRep] at hr2
      obtain ⟨rfl, hl2⟩ := hr2
      rw [hw] at hw0
      simp at hw0
      obtain ⟨hcs, rfl⟩ := hw0
      obtain ⟨csP', hb1, hlenP⟩ := hpb.var i _ _ hb0
      obtain ⟨r1, hr3, hr4⟩ := hs'.boxes.get hb1
      obtain ⟨T2, cs2, hr5⟩ := hs'.inn.lent i _ hi
      rw [hr3] at hr5; cases hr5
      simp only [BoxRep] at hr4
      obtain ⟨rfl, hl3⟩ := hr4
      refine ⟨cs2.toArray, ?_, (hs'.inn.res _ (List.mem_of_getElem? hr3)).2⟩
      have e1 := hl2.length
      have e2 := hl3.length
      rw [hcs]; simp; omega
    have fin : finE un tb fn e' bx' ts lc rs ps = some r → a'.defers = [] ∧ ∃ v, (results fn a'.tmps).run P w' = .ok v w' ∧ EndE un D w ts lc rs ps pan gs r (.returned v) w' := by
      intro hk
      unfold finE at hk
      split at hk
      · rename_i l hl'
        split at hk
        · rename_i t c' hc1 hc2
          cases hk
          obtain ⟨v, g1, g2⟩ := results_run hun ht hs' hl' hc1
          refine ⟨hs'.defers, v, g1, ⟨hg.os, hg.tape, hg.output, hg.size, hg.block⟩, ⟨v, rfl, g2.ge hge fun _ _ h => h⟩, lend_end hun hs' hge hc2 hbl⟩
        · cases hk
      · cases hk
    cases x with
    | normal => exact fin hk
    | ret => exact fin hk
    | panic ch =>
      simp only at hk
      split at hk
      · rename_i p hp
        cases hk
        refine ⟨hs'.defers, ⟨hg.os, hg.tape, hg.output, hg.size, hg.block⟩, ?_, hsame⟩
        rw [unpan_eq hp]
      · cases hk
    | exit i => cases hk
    | goto l => cases hk
    | outgrown => cases hk

theorem inlN_sound (hmix : P.follows .mixedOrders = true) (hun : UniOk un) (ht : TbOk P un tb) (hor : SoundO P un orc) : ∀ n, SoundI P un (inlN un tb orc n)
  | 0 => ⟨fun _ _ _ _ _ _ _ _ _ _ _ h => by simp [inlN] at h, fun _ _ _ _ _ _ _ h => by simp [inlN] at h⟩
  | n + 1 => ⟨fun fn an args ts lc c rs ps pan r f h hf => fnE_sat hmix hun ht hor (inlN_sound hmix hun ht hor n) h hf, fun fn an args bx rs r f h hf D H w vs hD hH hbx ha => fnI_back hmix hun ht hor (inlN_sound hmix hun ht hor n) h hf hD hH hbx ha⟩

theorem fnF_sat (hmix : P.follows .mixedOrders = true) (hun : UniOk un) (ht : TbOk P un tb) (hor : SoundO P un orc) {fn : Func} {args : List (PV S)} {ts : List TypeId} {lc : List U} {c : ElL S lc} {rs ps : List U} {pan : TypeId} {r : Out S lc rs ps} {f : FuncId}
    (h : fnF un tb orc an fn args ts lc c rs ps pan = some r) (hf : P.funcs[f]? = some fn) : SatE P un f args ts lc c rs ps pan r :=
  fnE_sat hmix hun ht hor (inlN_sound hmix hun ht hor 6) h hf
/-- What the reading of a function says, the function does. -/
theorem fnM_sat (hmix : P.follows .mixedOrders = true) (hun : UniOk un) (ht : TbOk P un tb) (hor : SoundO P un orc) {fn : Func} {args : List (PV S)} {rs : List U} {r : ElL S rs} {f : FuncId}
    (h : fnM un tb orc an fn args rs = some r) (hf : P.funcs[f]? = some fn) : Sat P un f args rs r :=
  fun D w vs hD ha => fnI_back (H := []) hmix hun ht hor (inlN_sound hmix hun ht hor 6) h hf hD (by simp) (by simp only [BxRep]) ha
end
end Pe
