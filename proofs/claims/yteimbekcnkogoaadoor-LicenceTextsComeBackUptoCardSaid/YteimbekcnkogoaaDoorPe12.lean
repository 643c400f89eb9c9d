/- Places where a state is told by its codes. -/
import Derived.Test.YteimbekcnkogoaaDoorPe11
namespace Pe
open Go Go.RowKit
variable {S : Nat → Type}

/-! ### pointers within a value stand for boxes that were there when it was made -/
section
variable {un : Uni S}
mutual
theorem Rep.low {nu0 nu nu' : Nu} {D0 D : Dat} {w0 w : World} {m : Nat} (hm : nu0.length ≤ m) (hn : ∀ i, i < m → nu'[i]? = nu[i]?) : ∀ (p : PV S) (v0 v : Value), p.rowless = true → Rep un nu0 D0 w0 p v0 → Rep un nu D w p v → Rep un nu' D w p v
  | .int _ _, _, _, _, _, h => by simpa only [Rep] using h
  | .bool _, _, _, _, _, h => by simpa only [Rep] using h
  | .str _, _, _, _, _, h => by simpa only [Rep] using h
  | .sl _ _, _, _, _, _, h => by simpa only [Rep] using h
  | .nils, _, _, _, _, h => by simpa only [Rep] using h
  | .st _ _, _, _, _, _, h => by simpa only [Rep] using h
  | .agg l, _, _, hr, h0, h => by
    simp only [Rep, PV.rowless] at h0 h hr ⊢
    obtain ⟨c0, _, h0⟩ := h0
    obtain ⟨cs, h1, h2⟩ := h
    exact ⟨cs, h1, RepL.low hm hn l c0 cs hr h0 h2⟩
  | .tup l, _, _, hr, h0, h => by
    simp only [Rep, PV.rowless] at h0 h hr ⊢
    obtain ⟨c0, _, h0⟩ := h0
    obtain ⟨cs, h1, h2⟩ := h
    exact ⟨cs, h1, RepL.low hm hn l c0 cs hr h0 h2⟩
  | .elp _ _ _, _, _, _, _, h => by simpa only [Rep] using h
  | .ptr j _, _, _, _, h0, h => by
    simp only [Rep] at h0 h ⊢
    obtain ⟨g0, h1, _⟩ := h0
    obtain ⟨g, h2, h3⟩ := h
    have : j < nu0.length := (List.getElem?_eq_some_iff.1 h1).1
    exact ⟨g, by rw [hn j (by omega)]; exact h2, h3⟩
  | .nilp, _, _, _, _, h => by simpa only [Rep] using h
  | .row _, _, _, hr, _, _ => by simp [PV.rowless] at hr
  | .func _ l r, _, _, hr, h0, h => by
    simp only [Rep, PV.rowless, Bool.and_eq_true] at h0 h hr ⊢
    obtain ⟨a0, c0, _, h0, h0'⟩ := h0
    obtain ⟨a, c, h1, h2, h3⟩ := h
    exact ⟨a, c, h1, RepL.low hm hn l a0 a hr.1 h0 h2, RepL.low hm hn r c0 c hr.2 h0' h3⟩
  | .nilFunc, _, _, _, _, h => by simpa only [Rep] using h
  | .iface _ x, _, _, hr, h0, h => by
    simp only [Rep, PV.rowless] at h0 h hr ⊢
    obtain ⟨y0, _, h0⟩ := h0
    obtain ⟨y, h1, h2⟩ := h
    exact ⟨y, h1, Rep.low hm hn x y0 y hr h0 h2⟩
  | .nilIface, _, _, _, _, h => by simpa only [Rep] using h
  | .junk, _, _, _, _, _ => by simp only [Rep]
theorem RepL.low {nu0 nu nu' : Nu} {D0 D : Dat} {w0 w : World} {m : Nat} (hm : nu0.length ≤ m) (hn : ∀ i, i < m → nu'[i]? = nu[i]?) : ∀ (ps : List (PV S)) (vs0 vs : List Value), rowlessL ps = true → RepL un nu0 D0 w0 ps vs0 → RepL un nu D w ps vs → RepL un nu' D w ps vs
  | [], _, [], _, _, _ => by simp only [RepL]
  | p :: ps, v0 :: vs0, v :: vs, hr, h0, h => by
    simp only [RepL, rowlessL, Bool.and_eq_true] at h0 h hr ⊢
    exact ⟨Rep.low hm hn p v0 v hr.1 h0.1 h.1, RepL.low hm hn ps vs0 vs hr.2 h0.2 h.2⟩
  | [], _, _ :: _, _, _, h => by simp [RepL] at h
  | _ :: _, [], _, _, h0, _ => by simp [RepL] at h0
  | _ :: _, _ :: _, [], _, _, h => by simp [RepL] at h
end

/-- A cell that is kept: what is known of it, or nothing. -/
theorem cells_low {nu0 nu nu' : Nu} {D0 D : Dat} {w0 w : World} {m : Nat} (hm : nu0.length ≤ m) (hn : ∀ i, i < m → nu'[i]? = nu[i]?) : ∀ (cs cs' : List (PV S)) (vs0 vs : List Value), RepL un nu0 D0 w0 cs vs0 → CellsP (cs.map calmP) cs' → RepL un nu D w cs' vs → RepL un nu' D w (cs.map calmP) vs
  | [], [], _, [], _, _, _ => by simp [RepL]
  | c :: cs, c' :: cs', v0 :: vs0, v :: vs, h0, hc, h => by
    simp only [RepL, List.map_cons] at h0 h ⊢
    refine ⟨?_, cells_low hm hn cs cs' vs0 vs h0.2 ⟨by have := hc.1; simp at this; simpa using this, fun j p hp => by have := hc.2 (j + 1) p (by simpa using hp); simpa using this⟩ h.2⟩
    unfold calmP
    cases hr : c.rowless with
    | false => simp [Rep]
    | true =>
      simp only [cond_true]
      cases hj : isJunk c with
      | true => cases c <;> simp [isJunk] at hj; simp [Rep]
      | false =>
        have := hc.2 0 c (by simp [calmP, hr]) hr hj
        simp at this
        subst this
        exact Rep.low hm hn _ v0 v hr h0.1 h.1
  | [], _ :: _, _, _, _, hc, _ => by have := hc.1; simp at this
  | _ :: _, [], _, _, _, hc, _ => by have := hc.1; simp at this
  | _, _ :: _, _, [], _, _, h => by simp [RepL] at h
  | [], [], _, _ :: _, _, _, h => by simp [RepL] at h
  | _ :: _, _, [], _, h0, _, _ => by simp [RepL] at h0

theorem calm_rep {E E0 : Wl.Ctx} {nu0 nu nu' : Nu} {D0 D : Dat} {w0 w : World} {m : Nat} (hm : nu0.length ≤ m) (hn : ∀ i, i < m → nu'[i]? = nu[i]?) : ∀ {b b' : Box S} {r0 r : Wl.Res} {ro0 ro : Bool}, BoxRep un nu0 D0 w0 E0 ro0 b r0 → CPres b.calm b' → BoxRep un nu D w E ro b' r → BoxRep un nu' D w E ro b.calm r := by
  intro b
  induction b with
  | var T cs =>
    intro b' r0 r ro0 ro h0 hc h
    cases b' with
    | var T' cs' =>
      simp only [Box.calm, CPres] at hc ⊢
      obtain ⟨rfl, hc⟩ := hc
      have hr0 : ∃ vs0, RepL un nu0 D0 w0 cs vs0 := by
        cases r0 <;> cases ro0 <;> simp only [BoxRep] at h0
        · exact ⟨_, h0.2⟩
        · obtain ⟨g, vs, _, _, _, _, h5⟩ := h0; exact ⟨vs, h5⟩
      obtain ⟨vs0, hr0⟩ := hr0
      cases r <;> cases ro <;> simp only [BoxRep] at h ⊢
      · exact ⟨h.1, cells_low hm hn cs cs' vs0 _ hr0 hc h.2⟩
      · obtain ⟨g, vs, h1, h2, h3, h4, h5⟩ := h
        exact ⟨g, vs, h1, h2, h3, h4, cells_low hm hn cs cs' vs0 _ hr0 hc h5⟩
    | _ => exact hc.elim
  | own u T l =>
    intro b' r0 r ro0 ro h0 hc h
    cases b' with
    | own u' T' l' =>
      simp only [Box.calm, CPres] at hc ⊢
      rw [hc] at h
      cases r <;> cases ro <;> simp only [BoxRep] at h ⊢
      · exact h
      · refine ⟨h.1, ?_⟩; simpa only [Rep] using h.2
    | _ => exact hc.elim
  | lk b ih =>
    intro b' r0 r ro0 ro h0 hc h
    cases b' with
    | lk b' => simp only [Box.calm, CPres, BoxRep] at h0 hc h ⊢; exact ih h0 hc h
    | _ => exact hc.elim
  | ro b ih =>
    intro b' r0 r ro0 ro h0 hc h
    cases b' with
    | ro b' => simp only [Box.calm, CPres, BoxRep] at h0 hc h ⊢; exact ih h0 hc h
    | _ => exact hc.elim
  | gone =>
    intro b' r0 r ro0 ro h0 hc h
    simp only [Box.calm]
    cases r <;> cases ro <;> simp only [BoxRep]
end

section
variable {P : Program} {un : Uni S} {E : Wl.Ctx} {D0 : Dat} {N : Wl.Fr} {D D' : Dat} {H : List Wl.Res} {e : Env S} {bx : Bxs S} {a : Act} {w w' : World}

/-! ### rows told anew -/
theorem slotsOf_rep (hs : St un E N D H e bx a w) : ∀ {l : List (Nat × CTy)} {ps : List (PV S)}, slotsOf e l = some ps → RepL un (ids H) D w ps (l.map fun p => a.tmps.getD p.1 undef)
  | [], ps, h => by simp [slotsOf] at h; subst h; simp [RepL]
  | (i, t) :: l, ps, h => by
    unfold slotsOf at h
    split at h
    · rename_i p ps' h1 h2
      cases h
      simp only [List.map_cons, RepL]
      exact ⟨hs.slots i p h1, slotsOf_rep hs h2⟩
    · cases h

def cellsAt (H : List Wl.Res) (i : Nat) : List Value := match H[i]? with
  | some (.box _ _ vs) => vs
  | _ => []
def valsOf (H : List Wl.Res) : List (Nat × List CTy) → List Value
  | [] => []
  | (i, _) :: r => cellsAt H i ++ valsOf H r
theorem var_cells {nu : Nu} (hb : BxRep un nu D w E bx H) {i : Nat} {T : TypeId} {cs : List (PV S)} (h : getB bx i = some (.var T cs)) : ∃ g vs, H[i]? = some (.box g T vs) ∧ cellsAt H i = vs ∧ RepL un nu D w cs vs := by
  obtain ⟨r, h1, h2⟩ := hb.get h
  cases r with
  | box g T' vs => simp only [BoxRep] at h2; obtain ⟨rfl, h2⟩ := h2; exact ⟨g, vs, h1, by simp [cellsAt, h1], h2⟩
  | _ => simp [BoxRep] at h2
theorem varsOf_rep {nu : Nu} (hb : BxRep un nu D w E bx H) : ∀ {l : List (Nat × List CTy)} {ps : List (PV S)}, varsOf bx l = some ps → RepL un nu D w ps (valsOf H l) ∧ ∀ i ts, (i, ts) ∈ l → (∃ T cs, getB bx i = some (.var T cs)) ∧ (cellsAt H i).length = ts.length
  | [], ps, h => by simp [varsOf] at h; subst h; simp [RepL, valsOf]
  | (i, ts) :: l, ps, h => by
    unfold varsOf at h
    split at h
    · rename_i T cs ps' h1 h2
      obtain ⟨h3, h4⟩ := bif_some h
      cases h4
      obtain ⟨g, vs, g1, g2, g3⟩ := var_cells hb h1
      obtain ⟨g4, g5⟩ := varsOf_rep hb h2
      refine ⟨by simp only [valsOf]; exact (g2 ▸ g3).append g4, fun j ts' hj => ?_⟩
      rcases List.mem_cons.1 hj with hj | hj
      · cases hj
        exact ⟨⟨T, cs, h1⟩, by rw [g2, ← g3.length]; exact Nat.eq_of_beq_eq_true h3⟩
      · exact g5 j ts' hj
    · cases h

/-- Where the rows that are told come from: a box's number, or nothing. -/
def comes (H : List Wl.Res) : List (Option Nat) → List Wl.Res → Prop
  | [], [] => True
  | some b :: bs, r :: rs => (∃ v T size n xs, r = .own v T size n xs) ∧ H[b]? = some r ∧ comes H bs rs
  | none :: bs, r :: rs => (∃ T size, r = .own (.slice none 0 0) T size 0 []) ∧ comes H bs rs
  | _, _ => False

theorem castL_cons {u : U} {us : List U} {p : PV S} {ps : List (PV S)} {t : ElL S (u :: us)} (h : castL un bx (u :: us) (p :: ps) = some t) : ∃ x t', Pe.cast un u (Pe.fz bx p) = some x ∧ castL un bx us ps = some t' ∧ t = (x, t') := by
  unfold castL at h
  split at h
  · rename_i x t' h1 h2; cases h; exact ⟨x, t', h1, h2, rfl⟩
  · cases h

theorem cut_rows (hun : UniOk un) (hs : St un E N D H e bx a w) : ∀ (ts : List CTy) (ps : List (PV S)) (vs : List Value) (seen : List Nat) (t : ElL S (ts.map CTy.code)) (n : Nat), rowsOwn bx ts ps seen = true → castL un bx (ts.map CTy.code) ps = some t → RepL un (ids H) D w ps vs →
    ∃ (bs : List (Option Nat)) (rs : List Wl.Res), comes H bs rs ∧ (∀ b, some b ∈ bs → b ∉ seen ∧ ∃ u T l, getB bx b = some (.own u T l)) ∧ (bs.filterMap id).Nodup ∧ (∀ nu' : Nu, BxRep un nu' D w E (mkOwn ts t) rs) ∧
      ∀ nu' : Nu, ((∀ i r, rs[i]? = some r → nu'[n + i]? = some (resId r)) → RepL un nu' D w (mkPs ts t n) vs)
  | [], [], [], _, _, _, _, _, _ => ⟨[], [], by simp [comes], by simp, by simp, fun nu' => by simp [mkOwn, BxRep], fun nu' _ => by simp [mkPs, RepL]⟩
  | .fr u :: ts, p :: ps, v :: vs, seen, t, n, ho, hc, hr => by
    simp only [RepL] at hr
    simp only [rowsOwn] at ho
    obtain ⟨x, t', h1, h2, rfl⟩ := castL_cons (u := u) (us := ts.map CTy.code) hc
    · skip
      obtain ⟨bs, rs, g1, g2, g3, g4, g5⟩ := cut_rows hun hs ts ps vs seen t' n ho h2 hr.2
      refine ⟨bs, rs, g1, g2, g3, g4, fun nu' hn => ?_⟩
      simp only [mkPs, RepL]
      exact ⟨Rep_inj (cast_dr hun h1 (hs.fz hun hr.1)).2, g5 nu' hn⟩
  | .own u T :: ts, p :: ps, v :: vs, seen, t, n, ho, hc, hr => by
    simp only [RepL] at hr
    obtain ⟨x, t', h1, h2, rfl⟩ := castL_cons (u := .sl u) (us := ts.map CTy.code) hc
    · skip
      have hx := (cast_dr hun h1 (hs.fz hun hr.1)).2
      cases p with
      | row b =>
        simp only [rowsOwn, Bool.and_eq_true, Bool.not_eq_true'] at ho
        obtain ⟨⟨o1, o2⟩, o3⟩ := ho
        cases hg : getB bx b with
        | none => rw [hg] at o1; simp at o1
        | some box =>
          rw [hg] at o1
          cases box with
          | own u0 T0 l0 =>
            simp only at o1
            have hT : T = T0 := Nat.eq_of_beq_eq_true o1
            subst hT
            obtain ⟨r, hr1, hr2⟩ := hs.boxes.get hg
            have hu : u0 = u ∧ HEq l0 x := by
              have h1' := h1
              simp only [Pe.fz, Pe.fz1, hg, Option.map_some, Box.base, Pe.cast, Pe.cast0] at h1'
              split at h1'
              · rename_i heq _; subst heq; cases h1'; exact ⟨rfl, HEq.rfl⟩
              · cases h1'
            obtain ⟨rfl, hl⟩ := hu
            have hl := eq_of_heq hl
            subst hl
            cases r with
            | own v0 T' size m xs =>
              obtain ⟨bs, rs, g1, g2, g3, g4, g5⟩ := cut_rows hun hs ts ps vs (b :: seen) t' (n + 1) o3 h2 hr.2
              have hvv : v0 = v ∧ v.oneCell' = true ∧ v.cells = #[v] := by
                have := hr.1
                simp only [Rep, ids, List.getElem?_map, hr1, Option.map_some, resId, Option.some.injEq, Prod.mk.injEq, true_and] at this
                exact this
              refine ⟨some b :: bs, .own v0 T' size m xs :: rs, ?_, ?_, ?_, fun nu' => ?_, fun nu' hn => ?_⟩
              · simp only [comes]; exact ⟨⟨_, _, _, _, _, rfl⟩, hr1, g1⟩
              · intro b' hb'
                rcases List.mem_cons.1 hb' with hb' | hb'
                · cases hb'; exact ⟨by simpa using o2, _, _, _, hg⟩
                · obtain ⟨k1, k2⟩ := g2 b' hb'
                  exact ⟨fun hk => k1 (by simp [hk]), k2⟩
              · simp only [List.filterMap_cons, id]
                refine List.nodup_cons.2 ⟨fun hk => ?_, g3⟩
                obtain ⟨y, hy, hyb⟩ := List.mem_filterMap.1 hk
                simp only [id] at hyb; subst hyb
                exact (g2 b hy).1 (by simp)
              · simp only [mkOwn, BxRep]
                refine ⟨?_, g4 nu'⟩
                simp only [BoxRep] at hr2 ⊢
                exact hr2
              · simp only [mkPs, RepL, Rep]
                refine ⟨⟨?_, hvv.2⟩, g5 nu' fun i r hi => ?_⟩
                · have := hn 0 _ rfl; simp [resId] at this; rw [this, hvv.1]
                · have := hn (i + 1) r (by simpa using hi)
                  rwa [show n + (i + 1) = n + 1 + i by omega] at this
            | _ => simp [BoxRep] at hr2
          | _ => simp at o1
      | nils =>
        simp only [rowsOwn] at ho
        obtain ⟨bs, rs, g1, g2, g3, g4, g5⟩ := cut_rows hun hs ts ps vs seen t' (n + 1) ho h2 hr.2
        have hv := hr.1
        simp only [Rep] at hv
        have hx0 : x = ([] : List (El S u)) := by
          simp only [Pe.fz, Pe.fz1, Pe.cast, Pe.cast0] at h1
          exact (Option.some.inj h1).symm
        clear hx hc h1
        subst hx0
        refine ⟨none :: bs, .own (.slice none 0 0) T (U.size un u) 0 [] :: rs, ?_, ?_, by simpa using g3, fun nu' => ?_, fun nu' hn => ?_⟩
        · simp only [comes]; exact ⟨⟨_, _, rfl⟩, g1⟩
        · intro b' hb'
          rcases List.mem_cons.1 hb' with hb' | hb'
          · cases hb'
          · exact g2 b' hb'
        · simp only [mkOwn, BxRep]
          refine ⟨?_, g4 nu'⟩
          simp only [BoxRep]
          exact ⟨trivial, trivial, rfl, fun g hg => by simp [Value.ownBlock] at hg, fun i y hi => by simp at hi⟩
        · simp only [mkPs, RepL, Rep]
          refine ⟨⟨?_, ?_⟩, g5 nu' fun i r hi => ?_⟩
          · have := hn 0 _ rfl; simp [resId] at this; rw [this, hv]
          · rw [hv]; exact ⟨rfl, rfl⟩
          · have := hn (i + 1) r (by simpa using hi)
            rwa [show n + (i + 1) = n + 1 + i by omega] at this
      | _ => simp [rowsOwn] at ho
  | [], _ :: _, _, _, _, _, ho, _, _ => by simp [rowsOwn] at ho
  | .fr _ :: _, [], _, _, _, _, ho, _, _ => by simp [rowsOwn] at ho
  | .own _ _ :: _, [], _, _, _, _, ho, _, _ => by simp [rowsOwn] at ho
  | [], [], _ :: _, _, _, _, _, _, hr => by simp [RepL] at hr
  | _ :: _, _ :: _, [], _, _, _, _, _, hr => by simp [RepL] at hr
end
end Pe
