/- A told state is a state. -/
import Derived.Test.YteimbekcnkogoaaDoorPe12
namespace Pe
open Go Go.RowKit
variable {S : Nat → Type}
section
variable {P : Program} {un : Uni S} {E : Wl.Ctx} {D0 : Dat} {N : Wl.Fr} {D D' : Dat} {H : List Wl.Res} {e : Env S} {bx : Bxs S} {a : Act} {w w' : World}

theorem In.pick (h : In E D H w) {H' : List Wl.Res} (f : Nat → Option Nat) (h1 : ∀ (k : Nat) r, H'[k]? = some r → (r.block = none ∧ Wl.Res.holds E w r) ∨ ∃ i, f k = some i ∧ H[i]? = some r) (h2 : ∀ k k' i, f k = some i → f k' = some i → k = k') (hl : ∀ (i g : Nat), E.lent[i]? = some g → ∃ T cs, H'[i]? = some (.box g T cs)) : In E D H' w := by
  refine ⟨h.out, h.lt, fun r hr => ?_, fun r hr g hg o hf hd => ?_, ?_, hl⟩
  · obtain ⟨k, hk⟩ := List.getElem?_of_mem hr
    rcases h1 k r hk with h3 | ⟨i, _, h3⟩
    · exact h3.2
    · exact h.res r (List.mem_of_getElem? h3)
  · obtain ⟨k, hk⟩ := List.getElem?_of_mem hr
    rcases h1 k r hk with h3 | ⟨i, _, h3⟩
    · rw [h3.1] at hg; cases hg
    · exact h.apart r (List.mem_of_getElem? h3) g hg o hf hd
  · rw [List.pairwise_iff_getElem]
    intro i j hi hj hij g hg hg'
    rcases h1 i _ (List.getElem?_eq_getElem hi) with h3 | ⟨x, hx, h3⟩
    · rw [h3.1] at hg; cases hg
    · rcases h1 j _ (List.getElem?_eq_getElem hj) with h4 | ⟨y, hy, h4⟩
      · rw [h4.1] at hg'; cases hg'
      · have hxy : x ≠ y := fun he => by subst he; have := h2 i j x hx hy; omega
        have hxl := (List.getElem?_eq_some_iff.1 h3).1
        have hyl := (List.getElem?_eq_some_iff.1 h4).1
        have e3 := (List.getElem?_eq_some_iff.1 h3).2
        have e4 := (List.getElem?_eq_some_iff.1 h4).2
        rcases Nat.lt_or_gt_of_ne hxy with hlt | hgt
        · have := (List.pairwise_iff_getElem.1 h.disj) x y hxl hyl hlt
          rw [e3, e4] at this
          exact this g hg hg'
        · have := (List.pairwise_iff_getElem.1 h.disj) y x hyl hxl hgt
          rw [e3, e4] at this
          exact this g hg' hg

/-- What stays of the resources: rows are remembered alone. -/
def goneRes : Wl.Res → Wl.Res
  | .box g T cs => .box g T cs
  | r => .ref (resId r)
theorem goneRes_id (r : Wl.Res) : resId (goneRes r) = resId r := by cases r <;> rfl
def stay : Bxs S → List Wl.Res → List Wl.Res
  | .gone :: bs, r :: rs => goneRes r :: stay bs rs
  | _ :: bs, r :: rs => r :: stay bs rs
  | _, _ => []
theorem stay_length : ∀ {bs : Bxs S} {rs : List Wl.Res}, bs.length ≤ rs.length → (stay bs rs).length = bs.length
  | [], _, _ => by simp [stay]
  | b :: bs, [], h => by simp at h
  | b :: bs, r :: rs, h => by cases b <;> simp [stay, stay_length (bs := bs) (rs := rs) (by simpa using h)]
theorem stay_get : ∀ {bs : Bxs S} {rs : List Wl.Res} {i : Nat} {b : Box S} {r : Wl.Res}, getB bs i = some b → rs[i]? = some r → (stay bs rs)[i]? = some (match b with | .gone => goneRes r | _ => r)
  | b :: bs, r :: rs, 0, c, s, h, hr => by simp [getB] at h hr; subst h; subst hr; cases b <;> rfl
  | b :: bs, r :: rs, i + 1, c, s, h, hr => by
    have := stay_get (bs := bs) (rs := rs) (i := i) (b := c) (r := s) (by simpa [getB] using h) (by simpa using hr)
    cases b <;> simpa [stay] using this
  | [], _, _, _, _, h, _ => by simp [getB] at h
  | _ :: _, [], _, _, _, _, hr => by simp at hr

theorem getB_some : ∀ {bx : Bxs S} {i : Nat}, i < bx.length → ∃ b, getB bx i = some b
  | [], _, h => by simp at h
  | b :: _, 0, _ => ⟨b, rfl⟩
  | _ :: r, i + 1, h => by simpa [getB] using getB_some (bx := r) (by simpa using h)

theorem comes_get : ∀ {bs : List (Option Nat)} {rs : List Wl.Res}, comes H bs rs → ∀ (j : Nat) r, rs[j]? = some r → (∃ b, bs[j]? = some (some b) ∧ H[b]? = some r) ∨ (bs[j]? = some none ∧ ∃ T size, r = .own (.slice none 0 0) T size 0 [])
  | [], [], _, j, r, h => by simp at h
  | some b :: bs, s :: rs, hc, 0, r, h => by simp only [comes] at hc; simp at h; subst h; exact .inl ⟨b, rfl, hc.2.1⟩
  | some b :: bs, s :: rs, hc, j + 1, r, h => by simp only [comes] at hc; simpa using comes_get hc.2.2 j r (by simpa using h)
  | none :: bs, s :: rs, hc, 0, r, h => by simp only [comes] at hc; simp at h; subst h; exact .inr ⟨rfl, hc.1⟩
  | none :: bs, s :: rs, hc, j + 1, r, h => by simp only [comes] at hc; simpa using comes_get hc.2 j r (by simpa using h)
  | [], _ :: _, hc, _, _, _ => by simp [comes] at hc
  | some _ :: _, [], hc, _, _, _ => by simp [comes] at hc
  | none :: _, [], hc, _, _, _ => by simp [comes] at hc

theorem nodup_inj : ∀ {bs : List (Option Nat)}, (bs.filterMap id).Nodup → ∀ (j j' : Nat) b, bs[j]? = some (some b) → bs[j']? = some (some b) → j = j'
  | [], _, j, _, _, h, _ => by simp at h
  | x :: bs, hn, 0, 0, _, _, _ => rfl
  | x :: bs, hn, 0, j' + 1, b, h, h' => by
    simp at h; subst h
    simp only [List.filterMap_cons, id] at hn
    exact absurd (List.mem_filterMap.2 ⟨some b, List.mem_of_getElem? (show bs[j']? = some (some b) by simpa using h'), rfl⟩ : b ∈ bs.filterMap id) (List.nodup_cons.1 hn).1
  | x :: bs, hn, j + 1, 0, b, h, h' => by
    simp at h'; subst h'
    simp only [List.filterMap_cons, id] at hn
    exact absurd (List.mem_filterMap.2 ⟨some b, List.mem_of_getElem? (show bs[j]? = some (some b) by simpa using h), rfl⟩ : b ∈ bs.filterMap id) (List.nodup_cons.1 hn).1
  | x :: bs, hn, j + 1, j' + 1, b, h, h' => by
    have hn' : (bs.filterMap id).Nodup := by
      cases x with
      | none => simpa using hn
      | some y => simp only [List.filterMap_cons, id] at hn; exact (List.nodup_cons.1 hn).2
    rw [nodup_inj hn' j j' b (by simpa using h) (by simpa using h')]

theorem In.cut (h : In E D H w) {B : Bxs S} (hB : B.length ≤ H.length) {bs : List (Option Nat)} {rs : List Wl.Res} (hc : comes H bs rs) (hn : (bs.filterMap id).Nodup) (hg : ∀ b, some b ∈ bs → b < B.length → getB B b = some .gone) (hnb : ∀ b, some b ∈ bs → ∀ g T cs, H[b]? ≠ some (.box g T cs)) (hlt : ∀ (i g : Nat), E.lent[i]? = some g → i < B.length) : In E D (stay B H ++ rs) w := by
  have hsl := stay_length hB
  refine h.pick (fun k => if k < B.length then (match getB B k, H[k]? with | some .gone, some (.box _ _ _) => some k | some .gone, _ => none | _, _ => some k) else (bs[k - B.length]?).join) (fun k r hr => ?_) (fun k k' i hk hk' => ?_) (fun i g hi => ?_)
  rotate_left 2
  · obtain ⟨T, cs, h2⟩ := h.lent i g hi
    obtain ⟨b, hb⟩ := getB_some (hlt i g hi)
    refine ⟨T, cs, ?_⟩
    rw [List.getElem?_append_left (by rw [hsl]; exact hlt i g hi), stay_get hb h2]
    cases b <;> rfl
  · rcases Nat.lt_or_ge k B.length with hlt | hge
    · rw [List.getElem?_append_left (by omega)] at hr
      obtain ⟨b, hb⟩ := getB_some hlt
      obtain ⟨s, hs⟩ : ∃ s, H[k]? = some s := ⟨_, List.getElem?_eq_getElem (by omega)⟩
      rw [stay_get hb hs] at hr
      simp only [Option.some.injEq] at hr
      by_cases hgone : b = .gone
      · subst hgone
        simp only at hr; subst hr
        cases s with
        | box g T cs => exact .inr ⟨k, by simp only [if_pos hlt, hb, hs], hs⟩
        | own => exact .inl ⟨rfl, trivial⟩
        | ref => exact .inl ⟨rfl, trivial⟩
      · right
        refine ⟨k, ?_, ?_⟩
        · simp only [if_pos hlt, hb]
          cases b <;> first | rfl | exact absurd rfl hgone
        · rw [hs]; cases b <;> first | (simp only at hr; rw [hr]) | exact absurd rfl hgone
    · rw [List.getElem?_append_right (by omega), hsl] at hr
      rcases comes_get hc _ r hr with ⟨b, h1, h2⟩ | ⟨h1, T, size, rfl⟩
      · exact .inr ⟨b, by simp only [if_neg (show ¬ k < B.length by omega), h1]; rfl, h2⟩
      · exact .inl ⟨rfl, World.ownsRow_nil _ _ _ _⟩
  · have first : ∀ k, k < B.length → ∀ i, (match getB B k, H[k]? with | some .gone, some (.box _ _ _) => some k | some .gone, _ => none | _, _ => some k) = some i → k = i ∧ (getB B k ≠ some .gone ∨ ∃ g T cs, H[k]? = some (.box g T cs)) := by
      intro k _ i h
      split at h
      · rename_i hbx; cases h; exact ⟨rfl, .inr ⟨_, _, _, hbx⟩⟩
      · cases h
      · rename_i hne1 hne; cases h; exact ⟨rfl, .inl fun hc => by
          first | exact hne1 hc | exact hne hc⟩
    have second : ∀ k, ∀ i, (bs[k - B.length]?).join = some i → bs[k - B.length]? = some (some i) := by
      intro k i h
      cases hx : bs[k - B.length]? with
      | none => rw [hx] at h; cases h
      | some y => rw [hx] at h; cases y with
        | none => cases h
        | some z => cases h; rfl
    split at hk
    · rename_i hlt
      obtain ⟨e1, e2⟩ := first k hlt i hk
      subst e1
      split at hk'
      · rename_i hlt'; exact (first k' hlt' _ hk').1.symm
      · rcases e2 with e2 | ⟨g, T, cs, e2⟩
        · exact absurd (hg k (List.mem_of_getElem? (second k' k hk')) hlt) e2
        · exact absurd e2 (hnb k (List.mem_of_getElem? (second k' k hk')) g T cs)
    · rename_i hge
      split at hk'
      · rename_i hlt'
        obtain ⟨e1, e2⟩ := first k' hlt' i hk'
        subst e1
        rcases e2 with e2 | ⟨g, T, cs, e2⟩
        · exact absurd (hg k' (List.mem_of_getElem? (second k k' hk)) hlt') e2
        · exact absurd e2 (hnb k' (List.mem_of_getElem? (second k k' hk)) g T cs)
      · rename_i hge'
        have := nodup_inj hn _ _ i (second k i hk) (second k' i hk')
        omega

theorem BxRep.append {nu : Nu} : ∀ {bs cs : Bxs S} {rs ss : List Wl.Res}, BxRep un nu D w E bs rs → BxRep un nu D w E cs ss → BxRep un nu D w E (bs ++ cs) (rs ++ ss)
  | [], _, [], _, _, h => h
  | b :: bs, cs, r :: rs, ss, h, k => by simp only [BxRep, List.cons_append] at h ⊢; exact ⟨h.1, h.2.append k⟩
  | [], _, _ :: _, _, h, _ => by simp [BxRep] at h
  | _ :: _, _, [], _, h, _ => by simp [BxRep] at h

theorem junks_rep {nu : Nu} : ∀ {cs : List (PV S)} {vs : List Value}, cs.length = vs.length → RepL un nu D w (cs.map fun _ => .junk) vs
  | [], [], _ => by simp [RepL]
  | _ :: cs, _ :: vs, h => by simp only [List.map_cons, RepL, Rep, true_and]; exact junks_rep (by simpa using h)
  | [], _ :: _, h => by simp at h
  | _ :: _, [], h => by simp at h

theorem mkBoxes_length : ∀ (l : List (Nat × List CTy)) (ps : List (PV S)) (B : Bxs S), (mkBoxes l ps B).length = B.length
  | [], _, _ => rfl
  | (i, l) :: r, ps, B => by
    simp only [mkBoxes]
    rw [mkBoxes_length r]
    split <;> simp [setB_length]
theorem list_set_same {α : Type} {l : List α} {i : Nat} {x : α} (h : l[i]? = some x) : l.set i x = l := by
  apply List.ext_getElem?
  intro j
  by_cases hij : i = j
  · subst hij; rw [List.getElem?_set_self (List.getElem?_eq_some_iff.1 h).1, h]
  · rw [List.getElem?_set_ne hij]

theorem mkBoxes_rep {nu : Nu} {H : List Wl.Res} : ∀ {l : List (Nat × List CTy)} {ps : List (PV S)} {B : Bxs S} {H1 : List Wl.Res}, BxRep un nu D w E B H1 → (∀ i ts, (i, ts) ∈ l → (∀ g T vs, H1[i]? = some (.box g T vs) → H[i]? = some (.box g T vs)) ∧ (cellsAt H i).length = ts.length) → RepL un nu D w ps (valsOf H l) → BxRep un nu D w E (mkBoxes l ps B) H1
  | [], _, _, _, h, _, _ => h
  | (i, ts) :: l, ps, B, H1, h, hl, hr => by
    simp only [mkBoxes]
    obtain ⟨h1, h2⟩ := hl i ts (by simp)
    have htake := hr.take ts.length
    have hdrop := hr.drop ts.length
    simp only [valsOf] at htake hdrop
    rw [← h2, List.take_left] at htake
    rw [← h2, List.drop_left] at hdrop
    rw [h2] at htake hdrop
    refine mkBoxes_rep ?_ (fun j ts' hj => hl j ts' (by simp [hj])) hdrop
    split
    · rename_i T cs hg
      obtain ⟨g, vs, g1, g2, g3⟩ := var_cells h hg
      have hset : H1.set i (.box g T vs) = H1 := list_set_same g1
      rw [← hset]
      refine h.set ?_
      simp only [BoxRep]
      refine ⟨trivial, ?_⟩
      have : cellsAt H i = vs := by unfold cellsAt; rw [h1 _ _ _ g1]
      rw [← this]; exact htake
    · exact h
end

/-! what becomes of the boxes, one by one -/
def nr1 : Box S → Box S
  | .own _ _ _ => .gone
  | b => b.calm
theorem getB_noRows : ∀ (bx : Bxs S) (i : Nat), getB (noRows bx) i = (getB bx i).map nr1
  | [], _ => rfl
  | b :: r, 0 => by cases b <;> rfl
  | b :: r, i + 1 => by cases b <;> simpa [noRows, getB] using getB_noRows r i
theorem noRows_length : ∀ (bx : Bxs S), (noRows bx).length = bx.length
  | [] => rfl
  | b :: r => by cases b <;> simp [noRows, noRows_length r]
def lk1 (c : List (Nat × List CTy)) (i : Nat) : Box S → Box S
  | .var T cs => bif (c.map (·.1)).contains i then .var T cs else .lk (.var T cs)
  | .lk b => .lk (.lk b)
  | b => b
theorem getB_lock (c : List (Nat × List CTy)) : ∀ (bx : Bxs S) (k i : Nat), getB (lockFrom c k bx) i = (getB bx i).map (lk1 c (k + i))
  | [], _, _ => by simp [lockFrom, getB]
  | b :: r, k, 0 => by cases b <;> rfl
  | b :: r, k, i + 1 => by
    have := getB_lock c r (k + 1) i
    rw [show k + 1 + i = k + (i + 1) by omega] at this
    cases b <;> simpa [lockFrom, getB] using this
theorem lock_length (c : List (Nat × List CTy)) : ∀ (bx : Bxs S) (k : Nat), (lockFrom c k bx).length = bx.length
  | [], _ => rfl
  | b :: r, k => by cases b <;> simp [lockFrom, lock_length c r]
def bl1 (ks : List Nat) (i : Nat) : Box S → Box S
  | .var T cs => bif ks.contains i then .var T (cs.map fun _ => .junk) else .var T cs
  | b => b
theorem getB_blank (ks : List Nat) : ∀ (bx : Bxs S) (k i : Nat), getB (blank ks k bx) i = (getB bx i).map (bl1 ks (k + i))
  | [], _, _ => by simp [blank, getB]
  | b :: r, k, 0 => by cases b <;> rfl
  | b :: r, k, i + 1 => by
    have := getB_blank ks r (k + 1) i
    rw [show k + 1 + i = k + (i + 1) by omega] at this
    cases b <;> simpa [blank, getB] using this
theorem blank_length (ks : List Nat) : ∀ (bx : Bxs S) (k : Nat), (blank ks k bx).length = bx.length
  | [], _ => rfl
  | b :: r, k => by cases b <;> simp [blank, blank_length ks r]

section
variable {P : Program} {un : Uni S} {E : Wl.Ctx} {D0 : Dat} {N : Wl.Fr} {D D' : Dat} {H : List Wl.Res} {e : Env S} {bx : Bxs S} {a : Act} {w w' : World}

theorem lock_bx {nu : Nu} (c : List (Nat × List CTy)) : ∀ {bx : Bxs S} {H : List Wl.Res} (k : Nat), BxRep un nu D w E bx H → BxRep un nu D w E (lockFrom c k bx) H
  | [], [], _, _ => by simp [lockFrom, BxRep]
  | b :: bs, r :: rs, k, h => by
    simp only [BxRep] at h
    have ih := lock_bx c (k + 1) h.2
    cases b <;> simp only [lockFrom, BxRep]
    case var T cs => cases (c.map (·.1)).contains k <;> simp only [cond_true, cond_false] <;> exact ⟨by simpa only [BoxRep] using h.1, ih⟩
    case lk b => exact ⟨by simpa only [BoxRep] using h.1, ih⟩
    all_goals exact ⟨h.1, ih⟩
  | [], _ :: _, _, h => by simp [BxRep] at h
  | _ :: _, [], _, h => by simp [BxRep] at h
theorem unlock_bx {nu : Nu} : ∀ (n : Nat) (L : Bxs S) {bx : Bxs S} {H : List Wl.Res}, BxRep un nu D w E bx H → BxRep un nu D w E (unlock n L bx) H
  | 0, _, _, _, h => by simpa [unlock] using h
  | n + 1, [], bx, H, h => by cases bx <;> simpa [unlock] using h
  | n + 1, l :: L, [], H, h => by cases l <;> simpa [unlock] using h
  | n + 1, l :: L, b :: bs, [], h => by simp [BxRep] at h
  | n + 1, l :: L, b :: bs, r :: rs, h => by
    simp only [BxRep] at h
    have ih := unlock_bx n L h.2
    cases l <;> cases b <;> simp only [unlock, BxRep] <;> first | exact ⟨h.1, ih⟩ | exact ⟨by simpa only [BoxRep] using h.1, ih⟩
theorem Holds.lock (c : List (Nat × List CTy)) (h : Holds un E D0 N e bx a w) : Holds un E D0 N e (lockFrom c 0 bx) a w := by
  obtain ⟨D, H, h1, h2⟩ := h
  exact ⟨D, H, ⟨h1.inn, h1.size, h1.defers, lock_bx c 0 h1.boxes, h1.slots⟩, h2⟩
theorem Holds.unlock (n : Nat) (L : Bxs S) (h : Holds un E D0 N e bx a w) : Holds un E D0 N e (unlock n L bx) a w := by
  obtain ⟨D, H, h1, h2⟩ := h
  exact ⟨D, H, ⟨h1.inn, h1.size, h1.defers, unlock_bx n L h1.boxes, h1.slots⟩, h2⟩
end
end Pe
