/- Calls to which boxes are lent. -/
import Derived.Test.YteimbekcnkogoaaDoorPe9
namespace Pe
open Go Go.RowKit
variable {S : Nat → Type}
section
variable {P : Program} {un : Uni S} {E : Wl.Ctx} {D0 : Dat} {N : Wl.Fr} {D D' : Dat} {H : List Wl.Res} {e : Env S} {bx : Bxs S} {a : Act} {w w' : World} {o : Oper} {R : Type} {r : R}

theorem posOf_get {b : Nat} : ∀ {ls : List Nat} {k j : Nat}, posOf b ls k = some j → ∃ i, j = k + i ∧ ls[i]? = some b
  | [], _, _, h => by cases h
  | i :: r, k, j, h => by
    unfold posOf at h
    cases hb : Nat.beq i b with
    | true => rw [hb] at h; cases h; exact ⟨0, rfl, by rw [Nat.eq_of_beq_eq_true hb]; rfl⟩
    | false =>
      rw [hb] at h
      obtain ⟨i', h1, h2⟩ := posOf_get h
      exact ⟨i' + 1, by omega, by simpa using h2⟩
theorem nub_spec : ∀ (l sn : List Nat), (nub sn l).Nodup ∧ ∀ i ∈ nub sn l, i ∉ sn
  | [], _ => ⟨List.nodup_nil, fun _ h => by cases h⟩
  | i :: r, sn => by
    unfold nub
    by_cases hc : sn.contains i = true
    · rw [hc]; exact nub_spec r sn
    · rw [Bool.not_eq_true] at hc
      rw [hc]
      obtain ⟨h1, h2⟩ := nub_spec r (i :: sn)
      have hi : i ∉ sn := by simpa using hc
      refine ⟨List.nodup_cons.2 ⟨fun h => h2 i h (by simp), h1⟩, fun j hj => ?_⟩
      rcases List.mem_cons.1 hj with rfl | hj
      · exact hi
      · exact fun h => h2 j hj (by simp [h])

/-- The blocks of these boxes. -/
def BlocksOf (H : List Wl.Res) : List Nat → List Nat → Prop
  | [], [] => True
  | b :: bs, g :: gs => (∃ T cs, H[b]? = some (.box g T cs)) ∧ BlocksOf H bs gs
  | _, _ => False
theorem BlocksOf.get : ∀ {ls gs : List Nat}, BlocksOf H ls gs → ∀ {i b : Nat}, ls[i]? = some b → ∃ g, gs[i]? = some g ∧ ∃ T cs, H[b]? = some (.box g T cs)
  | [], [], _, _, _, h => by simp at h
  | c :: bs, g :: gs, hb, 0, b, h => by simp only [BlocksOf] at hb; simp at h; subst h; exact ⟨g, rfl, hb.1⟩
  | c :: bs, g :: gs, hb, i + 1, b, h => by simp only [BlocksOf] at hb; simpa using hb.2.get (by simpa using h)
  | [], _ :: _, hb, _, _, _ => by simp [BlocksOf] at hb
  | _ :: _, [], hb, _, _, _ => by simp [BlocksOf] at hb
theorem BlocksOf.mem : ∀ {ls gs : List Nat}, BlocksOf H ls gs → ∀ {g : Nat}, g ∈ gs → ∃ b ∈ ls, ∃ T cs, H[b]? = some (.box g T cs)
  | [], [], _, _, h => by cases h
  | c :: bs, g :: gs, hb, k, h => by
    simp only [BlocksOf] at hb
    rcases List.mem_cons.1 h with rfl | h
    · exact ⟨c, by simp, hb.1⟩
    · obtain ⟨b, h1, h2⟩ := hb.2.mem h; exact ⟨b, by simp [h1], h2⟩
  | [], _ :: _, hb, _, _ => by simp [BlocksOf] at hb
  | _ :: _, [], hb, _, _ => by simp [BlocksOf] at hb
theorem BlocksOf.mem' : ∀ {ls gs : List Nat}, BlocksOf H ls gs → ∀ {b : Nat}, b ∈ ls → ∃ g ∈ gs, ∃ T cs, H[b]? = some (.box g T cs)
  | [], [], _, _, h => by cases h
  | c :: bs, g :: gs, hb, k, h => by
    simp only [BlocksOf] at hb
    rcases List.mem_cons.1 h with rfl | h
    · exact ⟨g, by simp, hb.1⟩
    · obtain ⟨b, h1, h2⟩ := hb.2.mem' h; exact ⟨b, by simp [h1], h2⟩
  | [], _ :: _, hb, _, _ => by simp [BlocksOf] at hb
  | _ :: _, [], hb, _, _ => by simp [BlocksOf] at hb

/-- One block, one place. -/
theorem block_one (hd : H.Pairwise Wl.apartR) {i j : Nat} {r s : Wl.Res} {g : Nat} (hi : H[i]? = some r) (hj : H[j]? = some s) (h1 : r.block = some g) (h2 : s.block = some g) : i = j := by
  have hil : i < H.length := (List.getElem?_eq_some_iff.1 hi).1
  have hjl : j < H.length := (List.getElem?_eq_some_iff.1 hj).1
  have hri : H[i] = r := (List.getElem?_eq_some_iff.1 hi).2
  have hsj : H[j] = s := (List.getElem?_eq_some_iff.1 hj).2
  rcases Nat.lt_trichotomy i j with hlt | rfl | hlt
  · have := (List.pairwise_iff_getElem.1 hd) i j hil hjl hlt
    rw [hri, hsj] at this
    exact absurd h2 (this g h1)
  · rfl
  · have := (List.pairwise_iff_getElem.1 hd) j i hjl hil hlt
    rw [hri, hsj] at this
    exact absurd h1 (this g h2)
theorem BlocksOf.nodup (hd : H.Pairwise Wl.apartR) : ∀ {ls gs : List Nat}, BlocksOf H ls gs → ls.Nodup → gs.Nodup
  | [], [], _, _ => List.nodup_nil
  | c :: bs, g :: gs, hb, hn => by
    simp only [BlocksOf] at hb
    obtain ⟨h1, h2⟩ := List.nodup_cons.1 hn
    refine List.nodup_cons.2 ⟨fun hg => ?_, hb.2.nodup hd h2⟩
    obtain ⟨b, hb1, T, cs, hb2⟩ := hb.2.mem hg
    obtain ⟨T', cs', hc⟩ := hb.1
    have := block_one hd hc hb2 (g := g) rfl rfl
    subst this
    exact h1 hb1
  | [], _ :: _, hb, _ => by simp [BlocksOf] at hb
  | _ :: _, [], hb, _ => by simp [BlocksOf] at hb

/-! ### what is handed over -/
mutual
theorem ren_rep (hun : UniOk un) (hs : St un E N D H e bx a w) {ls gs : List Nat} (hb : BlocksOf H ls gs) : ∀ (p q : PV S) (v : Value), ren ls bx p = some q → Rep un (ids H) D w p v → Rep un (ptrIds gs) D w q v
  | .ptr b off, q, v, h, hr => by
    simp only [ren] at h
    split at h
    · rename_i k hk
      cases h
      obtain ⟨i, rfl, hi⟩ := posOf_get hk
      obtain ⟨g, h1, T, cs, h2⟩ := hb.get hi
      simp only [Rep, ids, List.getElem?_map, h2, Option.map_some, resId] at hr ⊢
      obtain ⟨g', h3, rfl⟩ := hr
      simp at h3; subst h3
      exact ⟨g, by simp [h1], rfl⟩
    · cases h
  | .func f l r, q, v, h, hr => by
    simp only [ren] at h
    split at h
    · rename_i l' r' h1 h2
      cases h
      simp only [Rep] at hr ⊢
      obtain ⟨x, y, h3, h4, h5⟩ := hr
      exact ⟨x, y, h3, renL_rep hun hs hb l l' x h1 h4, renL_rep hun hs hb r r' y h2 h5⟩
    · cases h
  | .row b, q, v, h, hr => by
    simp only [ren] at h
    have := hs.fz1 hun hr
    split at h
    · rename_i u l hf
      cases h
      rw [hf] at this
      simpa only [Rep] using this
    · cases h
  | .agg l, q, v, h, hr => by
    simp only [ren] at h
    split at h
    · rename_i l' h1
      cases h
      simp only [Rep] at hr ⊢
      obtain ⟨x, h3, h4⟩ := hr
      exact ⟨x, h3, renL_rep hun hs hb l l' x h1 h4⟩
    · cases h
  | .int _ _, q, v, h, hr => by simp only [ren] at h; cases h; simpa only [Rep] using hr
  | .bool _, q, v, h, hr => by simp only [ren] at h; cases h; simpa only [Rep] using hr
  | .str _, q, v, h, hr => by simp only [ren] at h; cases h; simpa only [Rep] using hr
  | .sl _ _, q, v, h, hr => by simp only [ren] at h; cases h; simpa only [Rep] using hr
  | .nils, q, v, h, hr => by simp only [ren] at h; cases h; simpa only [Rep] using hr
  | .st _ _, q, v, h, hr => by simp only [ren] at h; cases h; simpa only [Rep] using hr
  | .nilp, q, v, h, hr => by simp only [ren] at h; cases h; simpa only [Rep] using hr
  | .nilFunc, q, v, h, hr => by simp only [ren] at h; cases h; simpa only [Rep] using hr
  | .nilIface, q, v, h, hr => by simp only [ren] at h; cases h; simpa only [Rep] using hr
  | .tup _, _, _, h, _ => by simp [ren] at h
  | .elp _ _ _, _, _, h, _ => by simp [ren] at h
  | .iface _ _, _, _, h, _ => by simp [ren] at h
  | .junk, _, _, h, _ => by simp [ren] at h
theorem renL_rep (hun : UniOk un) (hs : St un E N D H e bx a w) {ls gs : List Nat} (hb : BlocksOf H ls gs) : ∀ (p q : List (PV S)) (v : List Value), renL ls bx p = some q → RepL un (ids H) D w p v → RepL un (ptrIds gs) D w q v
  | [], q, v, h, hr => by simp only [renL] at h; cases h; cases v <;> simp_all [RepL]
  | p :: r, q, v, h, hr => by
    simp only [renL] at h
    split at h
    · rename_i q' l h1 h2
      cases h
      cases v with
      | nil => simp [RepL] at hr
      | cons x v =>
        simp only [RepL] at hr ⊢
        exact ⟨ren_rep hun hs hb p q' x h1 hr.1, renL_rep hun hs hb r l v h2 hr.2⟩
    · cases h
end

theorem castE_rep (hun : UniOk un) (hs : St un E N D H e bx a w) {ls gs : List Nat} (hb : BlocksOf H ls gs) : ∀ {us : List (Option U)} {ps t : List (PV S)} {vs : List Value}, castE un ls bx us ps = some t → RepL un (ids H) D w ps vs → RepL un (ptrIds gs) D w t vs
  | [], [], t, vs, hc, hr => by simp [castE] at hc; subst hc; cases vs <;> simp_all [RepL]
  | some u :: us, p :: ps, t, v :: vs, hc, hr => by
    simp only [RepL] at hr
    unfold castE at hc
    split at hc
    · rename_i x t' h1 h2
      cases hc
      simp only [RepL]
      exact ⟨Rep_inj (cast_dr hun h1 (hs.fz hun hr.1)).2, castE_rep hun hs hb h2 hr.2⟩
    · cases hc
  | none :: us, p :: ps, t, v :: vs, hc, hr => by
    simp only [RepL] at hr
    unfold castE at hc
    split at hc
    · rename_i q t' h1 h2
      cases hc
      simp only [RepL]
      exact ⟨ren_rep hun hs hb p q v h1 hr.1, castE_rep hun hs hb h2 hr.2⟩
    · cases hc
  | some _ :: _, _ :: _, _, [], _, hr => by simp [RepL] at hr
  | none :: _, _ :: _, _, [], _, hr => by simp [RepL] at hr
  | [], _ :: _, _, _, hc, _ => by simp [castE] at hc
  | some _ :: _, [], _, _, hc, _ => by simp [castE] at hc
  | none :: _, [], _, _, hc, _ => by simp [castE] at hc

theorem mkV_rep {nu : Nu} {u : U} {cs : List (PV S)} {vs : List Value} (h : RepL un nu D w cs vs) : ∃ v, Rep un nu D w (mkV u cs) v ∧ ((∃ n, u = .st n ∧ v = .agg vs.toArray) ∨ ((∀ n, u ≠ .st n) ∧ (vs = [v] ∨ ∃ l, mkV u cs = .tup l))) := by
  cases u with
  | st n => exact ⟨.agg vs.toArray, by simp only [mkV, Rep]; exact ⟨vs, rfl, h⟩, .inl ⟨n, rfl, rfl⟩⟩
  | _ =>
    simp only [mkV]
    match cs, vs, h with
    | [], [], _ => exact ⟨.tuple #[], by simp [one?, Rep, RepL], .inr ⟨by simp, .inr ⟨_, rfl⟩⟩⟩
    | [p], [v], h => exact ⟨v, by simpa [one?, RepL] using h, .inr ⟨by simp, .inl rfl⟩⟩
    | p :: q :: ps, v :: x :: vs, h => exact ⟨.tuple (v :: x :: vs).toArray, by simp only [one?, Rep]; exact ⟨_, rfl, h⟩, .inr ⟨by simp, .inr ⟨_, rfl⟩⟩⟩
    | [], _ :: _, h => simp [RepL] at h
    | _ :: _, [], h => simp [RepL] at h
    | [_], _ :: _ :: _, h => simp [RepL] at h
    | _ :: _ :: _, [_], h => simp [RepL] at h

/-- What a box holds, as data. -/
theorem lend_one (hun : UniOk un) (hs : St un E N D H e bx a w) {u : U} {cs : List (PV S)} {vs : List Value} {x : El S u} (hc : cast un u (fz bx (mkV u cs)) = some x) (h : RepL un (ids H) D w cs vs) : DR un D w [u] (sg x) vs := by
  obtain ⟨v, h1, h2⟩ := mkV_rep (un := un) (u := u) h
  have h3 := (cast_dr hun hc (hs.fz hun h1)).1
  rcases h2 with ⟨n, rfl, rfl⟩ | ⟨hu, rfl | ⟨l, hl⟩⟩
  · simpa [Value.cells] using h3
  · obtain ⟨h4, _⟩ : v.cells = #[v] ∧ True := by
      have hc' : cast0 u (fz bx (mkV u cs)) = some x := by cases u <;> first | exact absurd rfl (hu _) | simpa [cast] using hc
      exact ⟨(cast0_dr (un := un) hc' (hs.fz hun h1)).2.1, trivial⟩
    rw [h4] at h3; exact h3
  · exfalso
    rw [hl] at hc
    have : fz bx (.tup l : PV S) = .tup l := rfl
    rw [this] at hc
    cases u <;> simp [cast, cast0] at hc

theorem lend_rep (hun : UniOk un) (hs : St un E N D H e bx a w) : ∀ {ts : List TypeId} {lc : List U} {ls : List Nat} {c : ElL S lc}, lend un bx ts lc ls = some c →
    ∃ gs, BlocksOf H ls gs ∧ LentRep un D w ts lc c gs ∧ ts.length = lc.length ∧ ls.length = ts.length
  | [], [], [], c, _ => ⟨[], by simp [BlocksOf], by simp [LentRep], rfl, rfl⟩
  | T :: ts, u :: us, b :: bs, c, h => by
    unfold lend at h
    split at h
    · rename_i T' cs hg
      split at h
      · rename_i x t h1 h2
        obtain ⟨h3, h4⟩ := bif_some h
        cases h4
        simp only [Bool.and_eq_true] at h3
        have hT := Nat.eq_of_beq_eq_true h3.1
        subst hT
        obtain ⟨gs, k1, k2, k3, k4⟩ := lend_rep hun hs h2
        obtain ⟨r, hr1, hr2⟩ := hs.boxes.get hg
        have hh := hs.inn.res _ (List.mem_of_getElem? hr1)
        cases r with
        | own => simp [BoxRep] at hr2
        | ref => simp [BoxRep] at hr2
        | box g T2 vs =>
          simp only [BoxRep] at hr2
          obtain ⟨rfl, hl⟩ := hr2
          refine ⟨g :: gs, by simp only [BlocksOf]; exact ⟨⟨_, _, hr1⟩, k1⟩, ?_, by simp [k3], by simp [k4]⟩
          simp only [LentRep]
          exact ⟨⟨vs, hh.2, lend_one hun hs h1 hl⟩, k2⟩
      · cases h
    · cases h
  | [], [], _ :: _, _, h => by simp [lend] at h
  | [], _ :: _, _, _, h => by simp [lend] at h
  | _ :: _, [], _, _, h => by simp [lend] at h
  | _ :: _, _ :: _, [], _, h => by simp [lend] at h

theorem lend_var : ∀ {ts : List TypeId} {lc : List U} {ls : List Nat} {c : ElL S lc}, lend un bx ts lc ls = some c → ∀ b ∈ ls, ∃ T cs, getB bx b = some (.var T cs)
  | [], [], [], _, _, b, hb => by cases hb
  | T :: ts, u :: us, b :: bs, c, h, b', hb => by
    unfold lend at h
    split at h
    · rename_i T' cs hg
      split at h
      · rename_i x t h1 h2
        rcases List.mem_cons.1 hb with rfl | hb
        · exact ⟨_, _, hg⟩
        · exact lend_var h2 b' hb
      · cases h
    · cases h
  | [], [], _ :: _, _, h, _, _ => by simp [lend] at h
  | [], _ :: _, _, _, h, _, _ => by simp [lend] at h
  | _ :: _, [], _, _, h, _, _ => by simp [lend] at h
  | _ :: _, _ :: _, [], _, h, _, _ => by simp [lend] at h

/-! ### what comes back -/
def reRes (w' : World) : Wl.Res → Wl.Res
  | .box g T _ => .box g T (match w'.heap[g]? with | some (.cells cs _ _) => cs.toList | _ => [])
  | r => r
theorem reRes_block (w' : World) (r : Wl.Res) : (reRes w' r).block = r.block := by cases r <;> rfl
theorem reRes_id (w' : World) (r : Wl.Res) : resId (reRes w' r) = resId r := by cases r <;> rfl
def relist (w' : World) (ls : List Nat) : Nat → List Wl.Res → List Wl.Res
  | _, [] => []
  | k, r :: rs => (bif ls.contains k then reRes w' r else r) :: relist w' ls (k + 1) rs
theorem relist_get (w' : World) (ls : List Nat) : ∀ (H : List Wl.Res) (k i : Nat), (relist w' ls k H)[i]? = (H[i]?).map fun r => bif ls.contains (k + i) then reRes w' r else r
  | [], _, _ => by simp [relist]
  | r :: rs, k, 0 => by simp [relist]
  | r :: rs, k, i + 1 => by simp only [relist, List.getElem?_cons_succ]; rw [relist_get w' ls rs (k + 1) i]; rw [show k + 1 + i = k + (i + 1) by omega]
theorem relist_length (w' : World) (ls : List Nat) : ∀ (H : List Wl.Res) (k : Nat), (relist w' ls k H).length = H.length
  | [], _ => rfl
  | r :: rs, k => by simp [relist, relist_length w' ls rs (k + 1)]
theorem relist_map {α : Type} (f : Wl.Res → α) (hf : ∀ r, f (reRes w' r) = f r) (ls : List Nat) (H : List Wl.Res) : (relist w' ls 0 H).map f = H.map f := by
  apply List.ext_getElem?
  intro i
  simp only [List.getElem?_map, relist_get, Option.map_map]
  congr 1
  funext r
  simp only [Function.comp]
  cases ls.contains (0 + i) <;> simp [hf]
theorem relist_ids (ls : List Nat) (H : List Wl.Res) : ids (relist w' ls 0 H) = ids H := relist_map resId (reRes_id w') ls H

theorem In.relist (h : In E D H w) {ls gs : List Nat} (hb : BlocksOf H ls gs) (hg : Wl.Grow gs w w') (hc : ∀ b ∈ ls, ∀ g T cs, H[b]? = some (.box g T cs) → ∃ cs', w'.heap[g]? = some (.cells cs' T (0, 0))) : In E (newD D w w') (Pe.relist w' ls 0 H) w' := by
  have hgs : ∀ g ∈ gs, E.w.heap.size ≤ g ∨ g ∈ E.lent := fun g hgm => by
    obtain ⟨b, _, T, cs, hH⟩ := hb.mem hgm
    exact (h.res _ (List.mem_of_getElem? hH)).1
  refine ⟨⟨hg.os.trans h.out.os, hg.tape.trans h.out.tape, hg.output.trans h.out.output, Nat.le_trans h.out.size hg.size, fun k hk hn => ?_⟩, fun k o hk => ?_, fun r hr => ?_, fun r hr g hgr o hf hD => ?_, ?_, fun i g hi => ?_⟩
  rotate_left 5
  · obtain ⟨T, cs, h2⟩ := h.lent i g hi
    rw [relist_get, h2]
    simp only [Option.map_some]
    cases ls.contains (0 + i)
    · exact ⟨T, cs, rfl⟩
    · exact ⟨T, _, rfl⟩
  · refine (hg.block k (Nat.lt_of_lt_of_le hk h.out.size) fun hk2 => ?_).trans (h.out.block k hk hn)
    rcases hgs k hk2 with h1 | h1
    · omega
    · exact hn h1
  · rcases hk with hk | hk
    · exact Nat.lt_of_lt_of_le (h.lt k o hk) hg.size
    · exact hk.2
  · rcases List.getElem?_of_mem hr with ⟨i, hi⟩
    rw [relist_get] at hi
    cases hH : H[i]? with
    | none => rw [hH] at hi; cases hi
    | some s =>
      rw [hH] at hi
      simp only [Option.map_some, Option.some.injEq, Nat.zero_add] at hi
      have hs := h.res s (List.mem_of_getElem? hH)
      by_cases hil : i ∈ ls
      · have : ls.contains i = true := by simpa using hil
        rw [this] at hi
        simp only [cond_true] at hi
        obtain ⟨g, _, T, cs, hH2⟩ := hb.mem' hil
        rw [hH] at hH2; cases hH2
        obtain ⟨cs', hc'⟩ := hc i hil g T cs hH
        subst hi
        exact ⟨hs.1, by simp [hc']⟩
      · have : ls.contains i = false := by simpa using hil
        rw [this] at hi
        simp only [cond_false] at hi
        subst hi
        refine Wl.Res.holds_of hs fun g hgb => hg.block g (Wl.Res.holds_lt hs hgb).2 fun hgm => ?_
        obtain ⟨b, hbl, T, cs, hH2⟩ := hb.mem hgm
        have := block_one h.disj hH hH2 hgb rfl
        subst this
        exact hil hbl
  · rcases List.getElem?_of_mem hr with ⟨i, hi⟩
    rw [relist_get] at hi
    cases hH : H[i]? with
    | none => rw [hH] at hi; cases hi
    | some s =>
      rw [hH] at hi
      simp only [Option.map_some, Option.some.injEq, Nat.zero_add] at hi
      have hsm := List.mem_of_getElem? hH
      have hbs : s.block = some g := by
        rw [← hi] at hgr
        cases hcc : ls.contains i <;> rw [hcc] at hgr <;> simpa [reRes_block] using hgr
      have hfs : free s o := by
        rw [← hi] at hf
        cases hcc : ls.contains i <;> rw [hcc] at hf
        · exact hf
        · cases s <;> first | exact hf | trivial
      rcases hD with hD | hD
      · exact h.apart s hsm g hbs o hfs hD
      · have := (Wl.Res.holds_lt (h.res s hsm) hbs).2; omega
  · have h1 : (H.map Wl.Res.block).Pairwise (fun x y => ∀ g, x = some g → y ≠ some g) := by rw [List.pairwise_map]; exact h.disj
    rw [← relist_map (w' := w') Wl.Res.block (reRes_block w') ls H, List.pairwise_map] at h1
    exact h1

theorem Ge.grow (h : In E D H w) {gs : List Nat} (hg : Wl.Grow gs w w') (hd : ∀ g ∈ gs, ∀ o, ¬ D g o) : Ge D w (newD D w w') w' :=
  ⟨fun _ _ hk => .inl hk, fun k o hk => World.cell?_of_block (hg.block k (h.lt k o hk) fun hk2 => hd k hk2 o hk)⟩

theorem BxRep.of_get' {nu : Nu} : ∀ {bx : Bxs S} {H : List Wl.Res}, bx.length = H.length → (∀ (i : Nat) b r, getB bx i = some b → H[i]? = some r → BoxRep un nu D w E false b r) → BxRep un nu D w E bx H
  | [], [], _, _ => by simp [BxRep]
  | b :: bs, r :: rs, hl, h => by simp only [BxRep]; exact ⟨h 0 b r rfl rfl, BxRep.of_get' (by simpa using hl) fun i b r hb hr => h (i + 1) b r hb (by simpa using hr)⟩
  | [], _ :: _, hl, _ => by simp at hl
  | _ :: _, [], hl, _ => by simp at hl

theorem getB_set_eq : ∀ {bx : Bxs S} {j : Nat} {y z : Box S}, getB (setB bx j y) j = some z → z = y
  | [], _, _, _, h => by simp [setB, getB] at h
  | _ :: _, 0, _, _, h => by simp [setB, getB] at h; exact h.symm
  | _ :: r, n + 1, _, _, h => by simp only [setB, getB] at h; exact getB_set_eq h

theorem putBs_length : ∀ (ts : List TypeId) (lc : List U) (ls : List Nat) (t : ElL S lc) (bx : Bxs S), (putBs un ts lc ls t bx).length = bx.length
  | [], _, _, _, _ => by simp [putBs]
  | _ :: _, [], _, _, _ => by simp [putBs]
  | _ :: _, _ :: _, [], _, _ => by simp [putBs]
  | T :: ts, u :: us, b :: bs, t, bx => by simp only [putBs]; rw [putBs_length, setB_length]
theorem putBs_rep (hf : Flat un) {nu : Nu} {H' : List Wl.Res} : ∀ {ts : List TypeId} {lc : List U} {ls gs : List Nat} {t : ElL S lc} {bx : Bxs S}, LentRep un D w ts lc t gs → (∀ (b g : Nat), (b, g) ∈ ls.zip gs → ∀ r T cs, H'[b]? = some r → w.heap[g]? = some (.cells cs T (0, 0)) → r = .box g T cs.toList) →
    ls.length = ts.length → (∀ (i : Nat) b r, i ∉ ls → getB bx i = some b → H'[i]? = some r → BoxRep un nu D w E false b r) → ∀ (i : Nat) b r, getB (putBs un ts lc ls t bx) i = some b → H'[i]? = some r → BoxRep un nu D w E false b r
  | [], [], [], [], _, _, _, _, _, h, i, b, r, hb, hr => h i b r (by simp) (by simpa [putBs] using hb) hr
  | T :: ts, u :: us, b :: bs, g :: gs, t, bx, hl, hz, hlen, h, i, b', r, hb, hr => by
    simp only [LentRep] at hl
    simp only [putBs] at hb
    refine putBs_rep hf (ls := bs) hl.2 (fun b g hm => hz b g (by simp [hm])) (by simpa using hlen) (fun i b' r hi hb hr => ?_) i b' r hb hr
    by_cases hib : i = b
    · subst hib
      have := getB_set_eq hb
      subst this
      obtain ⟨cs, h1, h2⟩ := hl.1
      have := hz i g (by simp) r T cs.toArray hr h1
      subst this
      simp only [BoxRep]
      exact ⟨trivial, openEl_rep hf h2⟩
    · rw [getB_set_ne hib] at hb
      exact h i b' r (by simp [hi, hib]) hb hr
  | [], [], _ :: _, _, _, _, _, _, hlen, _, _, _, _, _, _ => by simp at hlen
  | _ :: _, _ :: _, [], _, _, _, _, _, hlen, _, _, _, _, _, _ => by simp at hlen
  | _ :: _, _ :: _, _ :: _, [], _, _, hl, _, _, _, _, _, _, _, _ => by simp [LentRep] at hl
  | [], _ :: _, _, _, _, _, hl, _, _, _, _, _, _, _, _ => by simp [LentRep] at hl
  | _ :: _, [], _, _, _, _, hl, _, _, _, _, _, _, _, _ => by simp [LentRep] at hl
  | [], [], [], _ :: _, _, _, hl, _, _, _, _, _, _, _, _ => by simp [LentRep] at hl

theorem openEl_len (un : Uni S) : ∀ (u : U) (x : El S u), (openEl un u x).length = U.size un u
  | .st n, x => by
    have : ∀ (us : List U) (t : ElL S us), (injL us t).length = us.length := by
      intro us
      induction us with
      | nil => intro t; rfl
      | cons u us ih => intro t; simp [injL, ih]
    simp only [openEl, U.size]; exact this _ _
  | .int _, _ => rfl
  | .bool, _ => rfl
  | .str, _ => rfl
  | .sl _, _ => rfl

/-- Boxes are boxes, of one size. -/
def Same (bx0 bx : Bxs S) : Prop := ∀ b T cs, getB bx0 b = some (.var T cs) → ∃ cs', getB bx b = some (.var T cs') ∧ cs'.length = cs.length
theorem putBs_pres : ∀ {ts : List TypeId} {lc : List U} {ls : List Nat} {c : ElL S lc} (t : ElL S lc) (bx' : Bxs S), lend un bx ts lc ls = some c → Same bx bx' → PresB bx bx' → PresB bx (putBs un ts lc ls t bx')
  | [], [], [], _, _, _, _, _, h => by simpa [putBs] using h
  | T :: ts, u :: us, b :: bs, c, t, bx', h, hs, hp => by
    unfold lend at h
    split at h
    · rename_i T' cs hg
      split at h
      · rename_i x t' h1 h2
        obtain ⟨h3, h4⟩ := bif_some h
        simp only [Bool.and_eq_true] at h3
        have hT := Nat.eq_of_beq_eq_true h3.1
        subst hT
        have hlen := Nat.eq_of_beq_eq_true h3.2
        simp only [putBs]
        obtain ⟨cs1, hb1, hl1⟩ := hs b _ _ hg
        refine putBs_pres t.2 _ h2 (fun b2 T2 cs2 hg2 => ?_) (hp.trans (PresB.set hb1 rfl fun T3 cs3 he => by cases he; exact ⟨_, rfl, by rw [openEl_len]; omega⟩))
        obtain ⟨cs3, hb3, hl3⟩ := hs b2 T2 cs2 hg2
        by_cases hbb : b2 = b
        · subst hbb
          rw [hg] at hg2; cases hg2
          exact ⟨_, getB_set hb1, by rw [openEl_len]; omega⟩
        · exact ⟨cs3, by rw [getB_set_ne hbb]; exact hb3, hl3⟩
      · cases h
    · cases h
  | [], [], _ :: _, _, _, _, h, _, _ => by simp [lend] at h
  | [], _ :: _, _, _, _, _, h, _, _ => by simp [lend] at h
  | _ :: _, [], _, _, _, _, h, _, _ => by simp [lend] at h
  | _ :: _, _ :: _, [], _, _, _, h, _, _ => by simp [lend] at h

theorem junkBs_length : ∀ (ls : List Nat) (bx : Bxs S), (junkBs ls bx).length = bx.length
  | [], _ => rfl
  | b :: bs, bx => by
    simp only [junkBs]
    rw [junkBs_length bs]
    split <;> simp [setB_length]
theorem junkL {nu : Nu} : ∀ {cs : List (PV S)} {vs : List Value}, cs.length = vs.length → RepL un nu D w (cs.map fun _ => .junk) vs
  | [], [], _ => by simp [RepL]
  | _ :: cs, _ :: vs, h => by simp only [List.map_cons, RepL, Rep]; exact ⟨trivial, junkL (by simpa using h)⟩
  | [], _ :: _, h => by simp at h
  | _ :: _, [], h => by simp at h
theorem junkBs_get : ∀ (ls : List Nat) (bx : Bxs S) (i : Nat) (b : Box S), getB (junkBs ls bx) i = some b → (i ∉ ls ∧ getB bx i = some b) ∨ (i ∈ ls ∧ ∃ b0, getB bx i = some b0 ∧ ((∀ T cs, b0 = .var T cs → b = .var T (cs.map fun _ => .junk)) ∧ ((∀ T cs, b0 ≠ .var T cs) → b = b0)))
  | [], bx, i, b, h => .inl ⟨by simp, h⟩
  | c :: cs, bx, i, b, h => by
    simp only [junkBs] at h
    rcases junkBs_get cs _ i b h with ⟨h1, h2⟩ | ⟨h1, b0, h2, h3, h4⟩
    · by_cases hic : i = c
      · subst hic
        right
        refine ⟨by simp, ?_⟩
        split at h2
        · rename_i T cs2 hg
          have := getB_set_eq h2; subst this
          exact ⟨_, hg, fun T' cs' he => by cases he; rfl, fun hn => absurd rfl (hn _ _)⟩
        · rename_i hn
          exact ⟨b, h2, fun T' cs' he => by subst he; exact absurd h2 (hn _ _), fun _ => rfl⟩
      · left
        refine ⟨by simp [h1, hic], ?_⟩
        split at h2
        · rw [getB_set_ne hic] at h2; exact h2
        · exact h2
    · right
      refine ⟨by simp [h1], ?_⟩
      by_cases hic : i = c
      · subst hic
        split at h2
        · rename_i T cs2 hg
          have := getB_set_eq h2; subst this
          refine ⟨_, hg, fun T' cs' he => ?_, fun hn => absurd rfl (hn _ _)⟩
          cases he
          rw [h3 _ _ rfl]; simp
        · exact ⟨b0, h2, h3, h4⟩
      · split at h2
        · rw [getB_set_ne hic] at h2; exact ⟨b0, h2, h3, h4⟩
        · exact ⟨b0, h2, h3, h4⟩
theorem junkBs_pres : ∀ (ls : List Nat) (bx : Bxs S), PresB bx (junkBs ls bx)
  | [], bx => PresB.refl bx
  | b :: bs, bx => by
    simp only [junkBs]
    refine PresB.trans ?_ (junkBs_pres bs _)
    split
    · rename_i T cs hg
      exact PresB.set hg rfl fun T' cs' he => by cases he; exact ⟨_, rfl, by simp⟩
    · exact PresB.refl bx

/-- A call to which boxes are lent. -/
theorem eff_wp (hun : UniOk un) {c : Call} {f : FuncId} {l : List (PV S)} (hen : enters e c = some (f, l)) (ho : o.op = .call c) (hcf : ∀ args w, (callFunc f args).run P w = .ok (.enter f args) w)
    {ls : List Nat} (hls : ls.Nodup) {args : Option (List (PV S))} {ts : List TypeId} {lc rs ps : List U} {pan : TypeId} {ask : List (PV S) → ElL S lc → Option (Out S lc rs ps)} {K : PV S → Env S → Bxs S → Option R} {KX : Exit → Env S → Bxs S → Option R}
    (h : effCall un e bx ls args ts lc rs ps pan ask K KX = some r)
    (hargs : ∀ t, args = some t → ∀ D H a w gs, St un E N D H e bx a w → BlocksOf H ls gs → ∀ vs, RepL un (ids H) D w l vs → RepL un (ptrIds gs) D w t vs)
    (hask : ∀ t c r, ask t c = some r → SatE P un f t ts lc c rs ps pan r)
    (hd : ∀ d, o.dst = some d → d < N.n) (hs : Holds un E D0 N e bx a w) {next : Act → World → Prop} {Q : Exit → Act → World → Prop}
    (hk : ∀ p e' bx', K p e' bx' = some r → Pres [] e e' → PresB bx bx' → ∀ a' w', Holds un E D0 N (push o.dst p e') bx' a' w' → next a' w')
    (hx : ∀ x e' bx', KX x e' bx' = some r → Pres [] e e' → PresB bx bx' → ∀ a' w', Holds un E D0 N e' bx' a' w' → Q x a' w') : o.wp P a w next Q := by
  unfold effCall at h
  split at h
  · rename_i t cc hcc
    obtain ⟨D, H, hs, hD⟩ := hs
    obtain ⟨gs, hb, hl, hlen1, hlen2⟩ := lend_rep hun hs hcc
    obtain ⟨vs, g1, g2⟩ := enters_run hs hen ho hcf
    have hgD : ∀ g ∈ gs, ∀ o, ¬ D g o := fun g hg o => by
      obtain ⟨b, _, T, cs, hH⟩ := hb.mem hg
      exact hs.inn.apart _ (List.mem_of_getElem? hH) g rfl o trivial
    unfold Oper.wp
    rw [g1]
    cases hr : ask t cc with
    | none => rw [hr] at h; simp [oc] at h
    | some res =>
      rw [hr] at h
      refine (hask t cc res hr D w vs gs hs.inn.lt (hb.nodup hs.inn.disj hls) hgD hl (hargs t rfl D H a w gs hs hb vs g2)).mono fun x w1 hx1 => ?_
      obtain ⟨hg, hx1⟩ := hx1
      have hge := Ge.grow hs.inn hg hgD
      have hD' : ∀ k o, newD D w w1 k o → D0 k o ∨ E.w.heap.size ≤ k := fun k o hk => by
        rcases hk with hk | hk
        · exact hD k o hk
        · exact .inr (Nat.le_trans hs.inn.out.size hk.1)
      have hbl : ∀ (b g : Nat), (b, g) ∈ ls.zip gs → ∃ T cs, H[b]? = some (.box g T cs) := by
        clear hl hx1 hge hgD hg hlen2 hargs hls hcc h
        intro b g hm
        induction ls generalizing gs with
        | nil => simp at hm
        | cons c bs ih =>
          cases gs with
          | nil => simp at hm
          | cons g' gs =>
            simp only [BlocksOf] at hb
            simp only [List.zip_cons_cons, List.mem_cons, Prod.mk.injEq] at hm
            rcases hm with ⟨rfl, rfl⟩ | hm
            · exact hb.1
            · exact ih gs hb.2 hm
      cases res with
      | inl out =>
        obtain ⟨⟨v, rfl, hv⟩, hl'⟩ := hx1
        simp only [oc] at h
        have hcells : ∀ b ∈ ls, ∀ g T cs, H[b]? = some (.box g T cs) → ∃ cs', w1.heap[g]? = some (.cells cs' T (0, 0)) := by
          have : ∀ {ts : List TypeId} {lc : List U} {ls gs : List Nat} {c c' : ElL S lc} {D D' : Dat}, LentRep un D w ts lc c gs → LentRep un D' w1 ts lc c' gs → BlocksOf H ls gs → ∀ b ∈ ls, ∀ g T cs, H[b]? = some (.box g T cs) → ∃ cs', w1.heap[g]? = some (.cells cs' T (0, 0)) := by
            intro ts
            induction ts with
            | nil =>
              intro lc ls gs c c' D D' k1 k2 k3 b hbm
              cases lc <;> cases gs <;> cases ls <;> simp_all [LentRep, BlocksOf]
            | cons T0 ts ih =>
              intro lc ls gs c c' D D' k1 k2 k3 b hbm g T cs hH
              cases lc with
              | nil => simp [LentRep] at k1
              | cons u us =>
                cases gs with
                | nil => simp [LentRep] at k1
                | cons g0 gs =>
                  cases ls with
                  | nil => cases hbm
                  | cons b0 bs =>
                    simp only [LentRep] at k1 k2
                    simp only [BlocksOf] at k3
                    rcases List.mem_cons.1 hbm with rfl | hbm
                    · obtain ⟨⟨T1, cs1, k4⟩, k5⟩ := k3
                      rw [hH] at k4; cases k4
                      obtain ⟨⟨cs2, k6, _⟩, _⟩ := k1
                      obtain ⟨⟨cs3, k7, _⟩, _⟩ := k2
                      have := (hs.inn.res _ (List.mem_of_getElem? hH)).2
                      rw [k6] at this
                      simp at this
                      rw [← this.2]
                      exact ⟨_, k7⟩
                    · exact ih k1.2 k2.2 k3.2 b hbm g T cs hH
          exact this hl hl' hb
        have hin := hs.inn.relist hb hg hcells
        have hids := relist_ids (w' := w1) ls H
        refine hk _ _ _ h (Pres.refl _ _) (putBs_pres _ _ hcc (fun b T cs h => ⟨cs, h, rfl⟩) (PresB.refl _)) _ _ ⟨_, _, hs.step hin ?_ (fun i q hi => ?_) hd ?_, hD'⟩
        · refine BxRep.of_get' (by rw [putBs_length, relist_length]; exact hs.boxes.length) ?_
          refine putBs_rep hun.flat hl' (fun b g hm r T cs hr hw => ?_) hlen2 (fun i b r hi hgb hr => ?_)
          · obtain ⟨T1, cs1, hH⟩ := hbl b g hm
            rw [relist_get, hH] at hr
            have hbm : ls.contains b = true := by simpa using (List.of_mem_zip hm).1
            simp only [Option.map_some, Nat.zero_add, hbm, cond_true, Option.some.injEq] at hr
            subst hr
            obtain ⟨cs', hc'⟩ := hcells b (List.of_mem_zip hm).1 g T1 cs1 hH
            rw [hc'] at hw; cases hw
            simp [reRes, hc']
          · rw [hids]
            rw [relist_get] at hr
            have hbm : ls.contains i = false := by simpa using hi
            obtain ⟨r0, hr1, hr2⟩ := hs.boxes.get hgb
            rw [hr1] at hr
            simp only [Option.map_some, Nat.zero_add, hbm, cond_false, Option.some.injEq] at hr
            subst hr
            exact hr2.mono hge (grow_kept hs.inn.out hin.out) fun _ _ h => h
        · rw [hids]; exact (hs.slots i q hi).ge hge fun _ _ h => h
        · exact hv.ge (Ge.refl _ _) fun i x h => by simp at h
      | inr p =>
        obtain ⟨rfl, hsl⟩ := hx1
        simp only [oc] at h
        have hcells : ∀ b ∈ ls, ∀ g T cs, H[b]? = some (.box g T cs) → ∃ cs', cs'.size = cs.length ∧ w1.heap[g]? = some (.cells cs' T (0, 0)) := fun b hbm g T cs hH => by
          obtain ⟨g', hgm, T', cs', hH'⟩ := hb.mem' hbm
          rw [hH] at hH'; cases hH'
          obtain ⟨cs2, h1, h2⟩ := hsl g hgm T cs.toArray (hs.inn.res _ (List.mem_of_getElem? hH)).2
          exact ⟨cs2, by simpa using h1, h2⟩
        have hin := hs.inn.relist hb hg fun b hbm g T cs hH => (hcells b hbm g T cs hH).imp fun _ h => h.2
        have hids := relist_ids (w' := w1) ls H
        refine hx _ _ _ h (Pres.refl _ _) (junkBs_pres _ _) _ _ ⟨_, _, ⟨hin, hs.size, hs.defers, ?_, fun i q hi => ?_⟩, hD'⟩
        · refine BxRep.of_get' (by rw [junkBs_length, relist_length]; exact hs.boxes.length) fun i b r hgb hr => ?_
          rw [hids]
          rw [relist_get] at hr
          rcases junkBs_get ls bx i b hgb with ⟨h1, h2⟩ | ⟨h1, b0, h2, h3, _⟩
          · have hbm : ls.contains i = false := by simpa using h1
            obtain ⟨r0, hr1, hr2⟩ := hs.boxes.get h2
            rw [hr1] at hr
            simp only [Option.map_some, Nat.zero_add, hbm, cond_false, Option.some.injEq] at hr
            subst hr
            exact hr2.mono hge (grow_kept hs.inn.out hin.out) fun _ _ h => h
          · have hbm : ls.contains i = true := by simpa using h1
            obtain ⟨T, cs, hv⟩ := lend_var hcc i h1
            rw [h2] at hv; cases hv
            obtain ⟨r0, hr1, hr2⟩ := hs.boxes.get h2
            rw [hr1] at hr
            simp only [Option.map_some, Nat.zero_add, hbm, cond_true, Option.some.injEq] at hr
            subst hr
            rw [h3 T cs rfl]
            cases r0 with
            | own => simp [BoxRep] at hr2
            | ref => simp [BoxRep] at hr2
            | box g T2 vs =>
              simp only [BoxRep] at hr2
              obtain ⟨rfl, hl2⟩ := hr2
              obtain ⟨cs', hc1, hc2⟩ := hcells i h1 g _ vs hr1
              simp only [reRes, hc2, BoxRep]
              refine ⟨trivial, junkL ?_⟩
              rw [hl2.length]; simpa using hc1.symm
        · rw [hids]; exact (hs.slots i q hi).ge hge fun _ _ h => h
  · cases h
end
end Pe
