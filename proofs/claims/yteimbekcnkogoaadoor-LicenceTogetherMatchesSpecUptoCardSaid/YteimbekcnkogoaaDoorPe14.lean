/- A told state is a state; and what is kept. -/
import Derived.Test.YteimbekcnkogoaaDoorPe13
namespace Pe
open Go Go.RowKit
variable {S : Nat → Type}

/-- What a box that was there is now, in a piece that ends in a told state. -/
def Kept (c : Cut) (i : Nat) (bx' : Bxs S) : Box S → Prop
  | .var T cs => (i ∈ c.boxes.map (·.1) ∧ ∃ cs', getB bx' i = some (.var T cs') ∧ cs'.length = cs.length) ∨ (i ∉ c.boxes.map (·.1) ∧ ∃ b', getB bx' i = some (.lk b') ∧ CPres (.var T (cs.map calmP)) b')
  | .lk b => ∃ b', getB bx' i = some (.lk (.lk b')) ∧ CPres b.calm b'
  | .ro b => ∃ b', getB bx' i = some (.ro b') ∧ CPres b.calm b'
  | .own _ _ _ => True
  | .gone => ∃ b', getB bx' i = some b' ∧ fixed b' = true

theorem CPres.calm : ∀ (b : Box S), CPres b b.calm
  | .var T cs => ⟨rfl, by simp, fun j p hp hr hj => by simp [List.getElem?_map, hp, calmP, hr]⟩
  | .lk b => CPres.calm b
  | .ro b => CPres.calm b
  | .own _ _ _ => rfl
  | .gone => trivial

theorem sumlen {H : List Wl.Res} : ∀ (l : List (Nat × List CTy)), (∀ i ts, (i, ts) ∈ l → (cellsAt H i).length = ts.length) → (valsOf H l).length = (l.map (·.2.length)).sum
  | [], _ => rfl
  | (i, ts) :: l, h => by simp only [valsOf, List.length_append, List.map_cons, List.sum_cons]; rw [h i ts (by simp), sumlen l fun j ts' hj => h j ts' (by simp [hj])]
theorem mkBoxes_get : ∀ (l : List (Nat × List CTy)) (ps : List (PV S)) (B : Bxs S), (∀ j ts, (j, ts) ∈ l → ∀ T cs, getB B j = some (.var T cs) → ts.length = cs.length) → (l.map (·.2.length)).sum ≤ ps.length → ∀ i b, getB B i = some b →
    ((∀ T cs, b ≠ .var T cs) → getB (mkBoxes l ps B) i = some b) ∧ ∀ T cs, b = .var T cs → ∃ cs', getB (mkBoxes l ps B) i = some (.var T cs') ∧ cs'.length = cs.length
  | [], _, _, _, _, i, b, h => ⟨fun _ => h, fun T cs hb => ⟨cs, by rw [mkBoxes, h, hb], rfl⟩⟩
  | (j, ts) :: l, ps, B, hl, hp, i, b, h => by
    simp only [List.map_cons, List.sum_cons] at hp
    simp only [mkBoxes]
    cases hg : getB B j with
    | none => exact mkBoxes_get l (ps.drop ts.length) B (fun j' ts' hj => hl j' ts' (by simp [hj])) (by simp; omega) i b h
    | some x =>
      cases x with
      | var T0 cs0 =>
        have hlen := hl j ts (by simp) T0 cs0 hg
        have hset : ∀ j' ts', (j', ts') ∈ l → ∀ T cs, getB (setB B j (.var T0 (ps.take ts.length))) j' = some (.var T cs) → ts'.length = cs.length := by
          intro j' ts' hj T cs hgj
          by_cases hjj : j' = j
          · subst hjj
            rw [getB_set hg] at hgj
            cases hgj
            rw [hl j' ts' (by simp [hj]) T0 cs0 hg, ← hlen]; simp; omega
          · rw [getB_set_ne hjj] at hgj
            exact hl j' ts' (by simp [hj]) T cs hgj
        by_cases hij : i = j
        · subst hij
          rw [hg] at h; cases h
          refine ⟨fun hne => absurd rfl (hne T0 cs0), fun T cs he => ?_⟩
          cases he
          obtain ⟨cs', g1, g2⟩ := (mkBoxes_get l (ps.drop ts.length) _ hset (by simp; omega) i _ (getB_set hg)).2 T0 _ rfl
          exact ⟨cs', g1, by rw [g2, ← hlen]; simp; omega⟩
        · exact mkBoxes_get l (ps.drop ts.length) _ hset (by simp; omega) i b (by rw [getB_set_ne hij]; exact h)
      | _ => exact mkBoxes_get l (ps.drop ts.length) B (fun j' ts' hj => hl j' ts' (by simp [hj])) (by simp; omega) i b h

theorem look_append (e e' : Env S) (i : Nat) : look (e ++ e') i = (look e i).or (look e' i) := by
  induction e with
  | nil => rfl
  | cons x r ih =>
    obtain ⟨j, p⟩ := x
    simp only [List.cons_append, look]
    cases Nat.beq j i with
    | true => rfl
    | false => exact ih

theorem maskG_spec (W : List Nat) : ∀ (e : Env S) (sn : List Nat) (i : Nat) (p : PV S), look (maskG W sn e) i = some p → i ∉ sn ∧ i ∉ W ∧ look e i = some p ∧ p.rowless = true
  | [], _, _, _, h => by simp [maskG, look] at h
  | (j, q) :: r, sn, i, p, h => by
    unfold maskG at h
    cases hs : sn.contains j with
    | true =>
      rw [hs] at h
      obtain ⟨h1, h2, h3, h4⟩ := maskG_spec W r sn i p h
      refine ⟨h1, h2, ?_, h4⟩
      simp only [look]
      cases hb : Nat.beq j i with
      | true => exact absurd (Nat.eq_of_beq_eq_true hb ▸ (by simpa using hs)) h1
      | false => exact h3
    | false =>
      rw [hs] at h
      simp only [cond_false] at h
      cases hw : (W.contains j || !q.rowless) with
      | true =>
        rw [hw] at h
        obtain ⟨h1, h2, h3, h4⟩ := maskG_spec W r (j :: sn) i p h
        simp only [List.mem_cons, not_or] at h1
        refine ⟨h1.2, h2, ?_, h4⟩
        simp only [look]
        cases hb : Nat.beq j i with
        | true => exact absurd (Nat.eq_of_beq_eq_true hb).symm h1.1
        | false => exact h3
      | false =>
        rw [hw] at h
        simp only [cond_false, look] at h ⊢
        cases hb : Nat.beq j i with
        | true =>
          rw [hb] at h
          have := Nat.eq_of_beq_eq_true hb
          subst this
          simp only [cond_true, Option.some.injEq] at h ⊢
          subst h
          simp only [Bool.or_eq_false_iff, Bool.not_eq_false'] at hw
          exact ⟨by simpa using hs, by simpa using hw.1, rfl, hw.2⟩
        | false =>
          rw [hb] at h
          obtain ⟨h1, h2, h3, h4⟩ := maskG_spec W r (j :: sn) i p h
          simp only [List.mem_cons, not_or] at h1
          exact ⟨h1.2, h2, h3, h4⟩
theorem mask_of {W : List Nat} : ∀ (e : Env S) (sn : List Nat) (i : Nat) (p : PV S), i ∉ sn → i ∉ W → look e i = some p → p.rowless = true → look (maskG W sn e) i = some p
  | [], _, _, _, _, _, h, _ => by simp [look] at h
  | (j, q) :: r, sn, i, p, h1, h2, h, h4 => by
    unfold maskG
    simp only [look] at h
    cases hb : Nat.beq j i with
    | true =>
      have := Nat.eq_of_beq_eq_true hb
      subst this
      rw [hb] at h; simp at h; subst h
      have e1 : sn.contains j = false := by simpa using h1
      have e2 : W.contains j = false := by simpa using h2
      rw [e1, e2]; simp only [cond_false, Bool.false_or, h4, Bool.not_true, look, hb, cond_true]
    | false =>
      rw [hb] at h
      have hne : i ≠ j := fun he => by subst he; simp at hb
      cases hs : sn.contains j with
      | true => exact mask_of r sn i p h1 h2 h h4
      | false =>
        simp only [cond_false]
        cases hw : (W.contains j || !q.rowless) with
        | true => exact mask_of r (j :: sn) i p (by simp [hne, h1]) h2 h h4
        | false => simp only [cond_false, look, hb]; exact mask_of r (j :: sn) i p (by simp [hne, h1]) h2 h h4

section
variable {P : Program} {un : Uni S} {E : Wl.Ctx} {D0 : Dat} {N : Wl.Fr} {D D' : Dat} {H : List Wl.Res} {e : Env S} {bx : Bxs S} {a : Act} {w w' : World}

theorem zip_rep {nu : Nu} {f : Nat → Value} : ∀ {l : List (Nat × CTy)} {ps : List (PV S)} {vs : List Value}, RepL un nu D w ps (l.map (fun p => f p.1) ++ vs) → ∀ (i : Nat) (p : PV S) (e : Env S), look (zipSlots l ps ++ e) i = some p → Rep un nu D w p (f i) ∨ (i ∉ l.map (·.1) ∧ look e i = some p)
  | [], ps, vs, _, i, p, e, h => by cases ps <;> exact .inr ⟨by simp, by simpa [zipSlots] using h⟩
  | (j, t) :: l, [], vs, hr, i, p, e, h => by simp [RepL] at hr
  | (j, t) :: l, q :: ps, vs, hr, i, p, e, h => by
    simp only [List.map_cons, List.cons_append, RepL] at hr
    simp only [zipSlots, List.cons_append, look] at h
    cases hb : Nat.beq j i with
    | true => rw [hb] at h; simp at h; subst h; rw [← Nat.eq_of_beq_eq_true hb]; exact .inl hr.1
    | false =>
      rw [hb] at h
      rcases zip_rep hr.2 i p e h with h | h
      · exact .inl h
      · refine .inr ⟨?_, h.2⟩
        have hne : i ≠ j := fun he => by subst he; simp at hb
        simp only [List.map_cons, List.mem_cons, not_or]
        exact ⟨hne, h.1⟩

theorem BxRep.of_get {nu : Nu} : ∀ {bx : Bxs S} {H : List Wl.Res}, bx.length = H.length → (∀ (i : Nat) b r, getB bx i = some b → H[i]? = some r → BoxRep un nu D w E false b r) → BxRep un nu D w E bx H
  | [], [], _, _ => by simp [BxRep]
  | b :: bs, r :: rs, hl, h => by
    simp only [BxRep]
    exact ⟨h 0 b r rfl rfl, BxRep.of_get (by simpa using hl) fun i b' r' hb hr => h (i + 1) b' r' (by simpa [getB] using hb) (by simpa using hr)⟩
  | [], _ :: _, hl, _ => by simp at hl
  | _ :: _, [], hl, _ => by simp at hl

theorem cut_holds (hun : UniOk un) {c : Cut} {W : List Nat} {e0 e' : Env S} {bx0 bx' : Bxs S} {a0 : Act} {w0 : World} (h0 : Holds un E D0 N e0 bx0 a0 w0) (hs : Holds un E D0 N e' bx' a w) (he : ∀ i p, i ∉ c.slots.map (·.1) → look (mask W e0) i = some p → look e' i = some p)
    (hb : ∀ i b, getB bx0 i = some b → Kept c i bx' b) (hlen : bx0.length ≤ bx'.length) {t : ElL S c.codes} (hc : castCut un c e' bx' = some t) : Holds un E D0 N (mkEnv c W e0 bx0.length t) (mkBx c bx0 t) a w ∧ PresB bx0 (mkBx c bx0 t) := by
  obtain ⟨D, H, st, hD⟩ := hs
  obtain ⟨D00, H0, st0, _⟩ := h0
  unfold castCut at hc
  split at hc
  · rename_i ps qs hps hqs
    obtain ⟨hro, hcl⟩ := bif_some hc
    obtain ⟨hv1, hv2⟩ := varsOf_rep st.boxes hqs
    have hR := (slotsOf_rep st hps).append hv1
    obtain ⟨bs, rs, g1, g2, g3, g4, g5⟩ := cut_rows hun st c.tys (ps ++ qs) _ [] t bx0.length hro hcl hR
    have hBl : (noRows bx0).length = bx0.length := noRows_length bx0
    have hHl : bx'.length = H.length := st.boxes.length
    have hsl : (stay (noRows bx0) H).length = bx0.length := by rw [stay_length (by omega), hBl]
    have hstay : ∀ i b0 r, getB bx0 i = some b0 → H[i]? = some r → (stay (noRows bx0) H)[i]? = some (match nr1 b0 with | .gone => goneRes r | _ => r) := fun i b0 r hi hr => stay_get (by rw [getB_noRows, hi]; rfl) hr
    have hin : In E D (stay (noRows bx0) H ++ rs) w := by
      refine st.inn.cut (by omega) g1 g3 (fun b hbm hbl => ?_) (fun b hbm g T cs hH => ?_) fun i g hi => ?_
      rotate_left 1
      · obtain ⟨_, u, T', l, hbo⟩ := g2 b hbm
        obtain ⟨r, hr1, hr2⟩ := st.boxes.get hbo
        rw [hH] at hr1; cases hr1
        simp [BoxRep] at hr2
      · obtain ⟨T, cs, h2⟩ := st0.inn.lent i g hi
        have := (List.getElem?_eq_some_iff.1 h2).1
        rw [hBl, st0.boxes.length]; exact this
      obtain ⟨_, u, T, l, hbo⟩ := g2 b hbm
      obtain ⟨b0, hb0⟩ := getB_some (bx := bx0) (i := b) (by omega)
      rw [getB_noRows, hb0]
      have := hb b b0 hb0
      cases b0 <;> simp only [Kept] at this <;> simp only [Option.map_some, nr1, Box.calm]
      · rcases this with ⟨_, cs', h1, _⟩ | ⟨_, b', h1, _⟩ <;> (rw [hbo] at h1; cases h1)
      · obtain ⟨b', h1, _⟩ := this; rw [hbo] at h1; cases h1
      · obtain ⟨b', h1, _⟩ := this; rw [hbo] at h1; cases h1
    have hids : ∀ i, i < bx0.length → (ids (stay (noRows bx0) H ++ rs))[i]? = (ids H)[i]? := by
      intro i hi
      obtain ⟨b0, hb0⟩ := getB_some hi
      obtain ⟨r, hr⟩ : ∃ r, H[i]? = some r := ⟨_, List.getElem?_eq_getElem (by omega)⟩
      simp only [ids, List.getElem?_map]
      rw [List.getElem?_append_left (by omega), hstay i b0 r hb0 hr, hr]
      cases nr1 b0 <;> first | rfl | (simp only [Option.map_some, goneRes_id])
    have hidn : ∀ (i : Nat) r, rs[i]? = some r → (ids (stay (noRows bx0) H ++ rs))[bx0.length + i]? = some (resId r) := by
      intro i r hr
      simp only [ids, List.getElem?_map]
      rw [List.getElem?_append_right (by omega), hsl, Nat.add_sub_cancel_left, hr]; rfl
    have hP := g5 _ hidn
    have hm0 : (ids H0).length ≤ bx0.length := by rw [st0.boxes.length]; simp [ids]
    have hbase : BxRep un (ids (stay (noRows bx0) H ++ rs)) D w E (blank (c.boxes.map (·.1)) 0 (noRows bx0)) (stay (noRows bx0) H) := by
      refine BxRep.of_get (by rw [blank_length, hBl, hsl]) fun i b r hib hir => ?_
      have hil : i < bx0.length := by have := getB_lt hib; rw [blank_length, hBl] at this; exact this
      obtain ⟨b0, hb0⟩ := getB_some hil
      obtain ⟨r1, hr1⟩ : ∃ r, H[i]? = some r := ⟨_, List.getElem?_eq_getElem (by omega)⟩
      rw [hstay i b0 r1 hb0 hr1] at hir
      rw [getB_blank, getB_noRows, hb0] at hib
      simp only [Option.map_some, Option.some.injEq, Nat.zero_add] at hib hir
      have hk := hb i b0 hb0
      obtain ⟨r0, _, hr02⟩ := st0.boxes.get hb0
      cases b0 with
      | var T cs =>
        simp only [nr1, Box.calm] at hib hir
        subst hir
        simp only [Kept] at hk
        rcases hk with ⟨hmem, cs', h1, h2⟩ | ⟨hmem, b', h1, h2⟩
        · have hcon : (c.boxes.map (·.1)).contains i = true := List.contains_iff_mem.2 hmem
          simp only [bl1, hcon, cond_true] at hib
          subst hib
          obtain ⟨r2, hr2, hr3⟩ := st.boxes.get h1
          rw [hr1] at hr2; cases hr2
          cases r1 <;> simp only [BoxRep] at hr3 ⊢
          refine ⟨hr3.1, junks_rep ?_⟩
          have := hr3.2.length; simp; omega
        · have hcon : (c.boxes.map (·.1)).contains i = false := by
            cases hx : (c.boxes.map (·.1)).contains i with
            | true => exact absurd (List.contains_iff_mem.1 hx) hmem
            | false => rfl
          simp only [bl1, hcon, cond_false] at hib
          subst hib
          obtain ⟨r2, hr2, hr3⟩ := st.boxes.get h1
          rw [hr1] at hr2; cases hr2
          simp only [BoxRep] at hr3
          exact calm_rep (b := .var T cs) hm0 hids hr02 h2 hr3
      | lk b0 =>
        simp only [nr1, Box.calm] at hib hir
        subst hir
        simp only [bl1] at hib; subst hib
        obtain ⟨b', h1, h2⟩ := hk
        obtain ⟨r2, hr2, hr3⟩ := st.boxes.get h1
        rw [hr1] at hr2; cases hr2
        simp only [BoxRep] at hr3 hr02 ⊢
        exact calm_rep hm0 hids hr02 h2 hr3
      | ro b0 =>
        simp only [nr1, Box.calm] at hib hir
        subst hir
        simp only [bl1] at hib; subst hib
        obtain ⟨b', h1, h2⟩ := hk
        obtain ⟨r2, hr2, hr3⟩ := st.boxes.get h1
        rw [hr1] at hr2; cases hr2
        simp only [BoxRep] at hr3 hr02 ⊢
        exact calm_rep hm0 hids hr02 h2 hr3
      | own u T l => simp only [nr1, bl1] at hib; subst hib; cases r <;> simp only [BoxRep]
      | gone => simp only [nr1, Box.calm, bl1] at hib; subst hib; cases r <;> simp only [BoxRep]
    have hbx : ∀ i ts, (i, ts) ∈ c.boxes → (∀ g T vs, (stay (noRows bx0) H)[i]? = some (.box g T vs) → H[i]? = some (.box g T vs)) ∧ (cellsAt H i).length = ts.length := by
      intro i ts hi
      refine ⟨fun g T vs hx => ?_, (hv2 i ts hi).2⟩
      have hil : i < bx0.length := by rw [← hsl]; exact (List.getElem?_eq_some_iff.1 hx).1
      obtain ⟨b0, hb0⟩ := getB_some hil
      obtain ⟨r1, hr1⟩ : ∃ r, H[i]? = some r := ⟨_, List.getElem?_eq_getElem (by omega)⟩
      rw [hstay i b0 r1 hb0 hr1] at hx
      rw [hr1]
      cases hnr : nr1 b0 <;> rw [hnr] at hx <;> simp at hx <;> first | (simp [hx]; done) | (cases r1 <;> simp [goneRes] at hx <;> simp [hx])
    have hdrop := hP.drop c.slots.length
    rw [show c.slots.length = (c.slots.map fun p => a.tmps.getD p.1 undef).length by simp, List.drop_left] at hdrop
    simp only [List.length_map] at hdrop
    refine ⟨⟨D, _, ⟨hin, st.size, st.defers, ?_, fun i p hi => ?_⟩, hD⟩, ?_⟩
    · exact (mkBoxes_rep hbase hbx hdrop).append (g4 _)
    · rcases zip_rep (f := fun i => a.tmps.getD i undef) hP i p _ hi with h | ⟨h1, h2⟩
      · exact h
      · obtain ⟨_, _, h3, h4⟩ := maskG_spec W e0 [] i p h2
        exact Rep.low hm0 hids p _ _ h4 (st0.slots i p h3) (st.slots i p (he i p h1 h2))
    · have hget := mkBoxes_get c.boxes ((mkPs c.tys t bx0.length).drop c.slots.length) (blank (c.boxes.map (·.1)) 0 (noRows bx0)) (fun j ts hj T cs hgj => by
        have hjl : j < bx0.length := by have := getB_lt hgj; rw [blank_length, hBl] at this; exact this
        obtain ⟨b0, hb0⟩ := getB_some hjl
        rw [getB_blank, getB_noRows, hb0] at hgj
        simp only [Option.map_some, Option.some.injEq, Nat.zero_add] at hgj
        have hk := hb j b0 hb0
        have hmem : j ∈ c.boxes.map (·.1) := List.mem_map.2 ⟨_, hj, rfl⟩
        obtain ⟨⟨T2, cs2, hv⟩, hv'⟩ := hv2 j ts hj
        cases b0 with
        | var T0 cs0 =>
          simp only [nr1, Box.calm, bl1, List.contains_iff_mem.2 hmem, cond_true] at hgj
          cases hgj
          simp only [Kept] at hk
          rcases hk with ⟨_, cs', h1, h2⟩ | ⟨hn, _⟩
          · obtain ⟨g, vs, k1, k2, k3⟩ := var_cells st.boxes h1
            have := k3.length
            rw [← hv', k2]; simp; omega
          · exact absurd hmem hn
        | _ => simp [nr1, Box.calm, bl1] at hgj) (by rw [← sumlen c.boxes fun i ts hi => (hv2 i ts hi).2]; rw [hdrop.length]; exact Nat.le_refl _)
      refine ⟨by rw [mkBx, List.length_append, mkBoxes_length, blank_length, hBl]; omega, fun i b hi hf => ?_, fun i T cs hi => ?_⟩
      · have h1 : getB (blank (c.boxes.map (·.1)) 0 (noRows bx0)) i = some b.calm := by
          rw [getB_blank, getB_noRows, hi]
          cases b <;> simp [fixed] at hf <;> rfl
        refine ⟨b.calm, getB_append ((hget i _ h1).1 fun T cs hcon => ?_), CPres.calm b⟩
        cases b <;> simp [fixed] at hf <;> simp [Box.calm] at hcon
      · have h1 : ∃ cs1, getB (blank (c.boxes.map (·.1)) 0 (noRows bx0)) i = some (.var T cs1) ∧ cs1.length = cs.length := by
          rw [getB_blank, getB_noRows, hi]
          simp only [Option.map_some, nr1, Box.calm, bl1, Nat.zero_add]
          cases (c.boxes.map (·.1)).contains i <;> exact ⟨_, rfl, by simp⟩
        obtain ⟨cs1, h1, h2⟩ := h1
        obtain ⟨cs', h3, h4⟩ := (hget i _ h1).2 T cs1 rfl
        exact ⟨cs', getB_append h3, h4.trans h2⟩
  · cases hc
end
end Pe
