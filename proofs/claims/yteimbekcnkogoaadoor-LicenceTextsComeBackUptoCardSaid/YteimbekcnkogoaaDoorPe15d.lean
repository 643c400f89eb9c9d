/- A region whose operations write, in any order; silent operations go ahead. -/
import Derived.Test.YteimbekcnkogoaaDoorPe15c
namespace Pe
open Go Go.RowKit
variable {S : Nat → Type}
section
variable {P : Program} {un : Uni S} {tb : Tb S} {orc : Orc S} {inl : Inl S} {E : Wl.Ctx} {D0 : Dat} {N : Wl.Fr} {R : Type} {r : R} {Q : Exit → Act → World → Prop} {ops : Array Oper}

theorem silent_bx {o : Oper} (h : silent o = true) {e : Env S} (bx bx' : Bxs S) {R : Type} (K : PV S → Option R) : popQ un tb orc inl o e bx K = (popQ un tb orc inl o e bx' some).bind K := by
  unfold silent at h
  simp only [Bool.and_eq_true] at h
  have h2 := h.2
  unfold popQ
  cases ho : o.op <;> rw [ho] at h2 <;> simp at h2 <;> simp only []
  case move x => split <;> rfl
  case assign x => split <;> rfl
  case nilCheck x => split <;> rfl
  case fieldAddr s x f =>
    split
    · rename_i p row hx hrow
      cases hk : Nat.beq row.kd 3 with
      | false => rfl
      | true => simp only [cond_true]; split <;> rfl
    · rfl
theorem silent_guard {o : Oper} (h : silent o = true) : o.guard = none := by
  unfold silent at h
  simp only [Bool.and_eq_true] at h
  cases hg : o.guard with
  | none => rfl
  | some x => rw [hg] at h; simp at h
theorem rowlessAt_spec {e : Env S} : ∀ {l : List Nat}, rowlessAt e l = true → ∀ t ∈ l, ∃ q, look e t = some q ∧ q.rowless = true
  | [], _, t, ht => by cases ht
  | u :: l, h, t, ht => by
    unfold rowlessAt at h
    simp only [Bool.and_eq_true] at h
    rcases List.mem_cons.1 ht with rfl | ht
    · cases hl : look e t with
      | none => rw [hl] at h; simp at h
      | some q => rw [hl] at h; exact ⟨q, rfl, h.1⟩
    · exact rowlessAt_spec h.2 t ht
theorem mem_slotsIn {l : List Operand} {t : Nat} : t ∈ slotsIn l ↔ Operand.tmp t ∈ l := by
  simp only [slotsIn, List.mem_filterMap]
  constructor
  · rintro ⟨x, h1, h2⟩
    cases x <;> simp at h2
    subst h2; exact h1
  · intro h; exact ⟨_, h, rfl⟩
theorem slotsIn_looks {o : Oper} {t : Nat} (h : t ∈ slotsIn o.op.operands.toList) : t ∈ o.looksAt ops := by
  unfold Oper.looksAt
  exact List.mem_append_left _ h

theorem edge_spec {i j : Nat} (h : edge ops i j = true) : ∃ o, ops[j]? = some o ∧ ∃ e ∈ o.after.toList, Region.binds .any e = true ∧ e.on = i := by
  unfold edge at h
  split at h
  · rename_i o ho
    refine ⟨o, ho, ?_⟩
    rw [← Array.any_toList, List.any_eq_true] at h
    obtain ⟨e, h1, h2⟩ := h
    simp only [Bool.and_eq_true] at h2
    exact ⟨e, h1, h2.1, Nat.eq_of_beq_eq_true h2.2⟩
  · cases h

/-- What is checked of the silent operations. -/
structure SilOk (ops : Array Oper) (sn : List Nat) (i : Nat) (o : Oper) (d : Nat) : Prop where
  get : ops[i]? = some o
  dst : o.dst = some d
  new : i ∉ sn
  uniq : ∀ j oj, ops[j]? = some oj → i ≠ j → oj.dst ≠ some d
  look : ∀ j oj, ops[j]? = some oj → d ∈ oj.looksAt ops → edge ops i j = true
  from_ : ∀ j oj dj, ops[j]? = some oj → oj.dst = some dj → dj ∈ slotsIn o.op.operands.toList → j ∈ sn
theorem okSil_cons {sn : List Nat} {i : Nat} {l : List Nat} (h : okSil ops sn (i :: l) = true) : (∃ o d, SilOk ops sn i o d) ∧ okSil ops (i :: sn) l = true := by
  unfold okSil at h
  rw [Bool.and_eq_true] at h
  refine ⟨?_, h.2⟩
  have h1 := h.1
  split at h1
  · rename_i o ho
    split at h1
    · rename_i d hd
      simp only [Bool.and_eq_true, List.all_eq_true, List.mem_range] at h1
      have hj : ∀ j oj, ops[j]? = some oj → _ := fun j oj hj => by
        have := h1.2 j (Array.getElem?_eq_some_iff.1 hj).1
        rw [hj] at this
        exact this
      refine ⟨o, d, ho, hd, by simpa using h1.1, fun j oj hj' hne => ?_, fun j oj hj' hl => ?_, fun j oj dj hj' hdj hm => ?_⟩
      · have := hj j oj hj'
        simp only [Bool.and_eq_true, Bool.or_eq_true] at this
        rcases this.1.1 with h3 | h3
        · exact absurd (Nat.eq_of_beq_eq_true h3) hne
        · simpa using h3
      · have := hj j oj hj'
        simp only [Bool.and_eq_true, Bool.or_eq_true] at this
        rcases this.1.2 with h3 | h3
        · simp [hl] at h3
        · exact h3
      · have := hj j oj hj'
        simp only [Bool.and_eq_true, Bool.or_eq_true] at this
        rcases this.2 with h3 | h3
        · simpa using h3
        · rw [hdj] at h3; simp [hm] at h3
    · cases h1
  · cases h1
theorem okSil_mem : ∀ {sil sn : List Nat}, okSil ops sn sil = true → ∀ s ∈ sil, s ∉ sn ∧ ∃ sn' o d, SilOk ops sn' s o d ∧ ∀ j ∈ sn', j ∈ sn ∨ j ∈ sil
  | [], _, _, s, hs => by cases hs
  | i :: l, sn, h, s, hs => by
    obtain ⟨⟨o, d, h1⟩, h2⟩ := okSil_cons h
    rcases List.mem_cons.1 hs with rfl | hs
    · exact ⟨h1.new, sn, o, d, h1, fun j hj => .inl hj⟩
    · obtain ⟨h3, sn', o', d', h4, h5⟩ := okSil_mem h2 s hs
      refine ⟨fun h => h3 (by simp [h]), sn', o', d', h4, fun j hj => ?_⟩
      rcases h5 j hj with h6 | h6
      · rcases List.mem_cons.1 h6 with rfl | h6
        · exact .inr (by simp)
        · exact .inl h6
      · exact .inr (by simp [h6])

/-- What is known of a silent operation. -/
structure SilAt (un : Uni S) (tb : Tb S) (orc : Orc S) (inl : Inl S) (e : Env S) (o : Oper) (d : Nat) (p : PV S) : Prop where
  silent : Pe.silent o = true
  dst : o.dst = some d
  val : look e d = some p
  rowless : p.rowless = true
  args : ∀ t ∈ slotsIn o.op.operands.toList, ∃ q, look e t = some q ∧ q.rowless = true
  run : popQ un tb orc inl o e [] some = some p

theorem execS_spec {bx : Bxs S} : ∀ {sil sn : List Nat} {e : Env S} {K : Env S → Option R}, execS un tb orc inl ops bx sil e K = some r → okSil ops sn sil = true →
    ∃ e1, K e1 = some r ∧ (∀ t, (∀ s ∈ sil, ∀ o, ops[s]? = some o → o.dst ≠ some t) → look e1 t = look e t) ∧ ∀ s ∈ sil, ∃ o d p, ops[s]? = some o ∧ SilAt un tb orc inl e1 o d p
  | [], sn, e, K, h, _ => ⟨e, h, fun _ _ => rfl, fun s hs => by cases hs⟩
  | i :: l, sn, e, K, h, hok => by
    obtain ⟨⟨o, d, h1⟩, h2⟩ := okSil_cons hok
    unfold execS at h
    rw [h1.get] at h
    simp only at h
    obtain ⟨h3, h4⟩ := bif_some h
    simp only [Bool.and_eq_true] at h3
    rw [silent_bx h3.1 bx []] at h4
    rw [Option.bind_eq_some_iff] at h4
    obtain ⟨p, h5, h6⟩ := h4
    obtain ⟨h7, h8⟩ := bif_some h6
    obtain ⟨e1, k1, k2, k3⟩ := execS_spec h8 h2
    have other : ∀ s ∈ l, s ≠ i ∧ s ∉ sn := fun s hs => by
      have := (okSil_mem h2 s hs).1
      exact ⟨fun he => this (by simp [he]), fun hx => this (by simp [hx])⟩
    have hd : look e1 d = some p := by
      rw [k2 d fun s hs o' ho' => h1.uniq s o' ho' (other s hs).1.symm]
      rw [h1.dst]; simp [push, look]
    have hargs : ∀ t ∈ slotsIn o.op.operands.toList, look e1 t = look e t := fun t ht => by
      rw [k2 t fun s hs o' ho' hc => (other s hs).2 (h1.from_ s o' t ho' hc ht)]
      rw [h1.dst]
      refine look_push_ne fun hc => ?_
      simp at hc; subst hc
      exact h1.new (h1.from_ i o d h1.get h1.dst ht)
    refine ⟨e1, k1, fun t ht => ?_, fun s hs => ?_⟩
    · rw [k2 t fun s hs => ht s (by simp [hs])]
      exact look_push_ne (ht i (by simp) o h1.get)
    · rcases List.mem_cons.1 hs with rfl | hs
      · refine ⟨o, d, p, h1.get, h3.1, h1.dst, hd, h7, fun t ht => ?_, ?_⟩
        · rw [hargs t ht]; exact rowlessAt_spec h3.2 t ht
        · rw [popQ_congr fun x hx t hxt => hargs t (mem_slotsIn.2 (hxt ▸ hx))]; exact h5
      · exact k3 s hs

theorem mark_size : ∀ (sil : List Nat) (listed : Array Bool), (mark listed sil).size = listed.size
  | [], _ => rfl
  | i :: l, listed => by simp [mark, mark_size l]
theorem mark_get : ∀ (sil : List Nat) (listed : Array Bool) (j : Nat), (mark listed sil)[j]? = if j < listed.size then (if j ∈ sil then some true else listed[j]?) else none
  | [], listed, j => by
    simp only [mark, List.not_mem_nil, if_false]
    split
    · rfl
    · simp; omega
  | i :: l, listed, j => by
    simp only [mark, mark_get l, Array.size_setIfInBounds, List.mem_cons]
    split
    · rename_i hlt
      by_cases hjl : j ∈ l
      · simp [hjl]
      · rw [if_neg hjl, Array.getElem?_setIfInBounds]
        by_cases hij : i = j
        · subst hij; simp [hlt]
        · simp [hij, hjl, Ne.symm hij]
    · rfl
theorem mark_in {sil : List Nat} {i : Nat} (hi : i ∈ sil) (listed : Array Bool) : mark (listed.setIfInBounds i true) sil = mark listed sil := by
  apply Array.ext_getElem?
  intro j
  rw [mark_get, mark_get, Array.size_setIfInBounds, Array.getElem?_setIfInBounds]
  by_cases hij : i = j
  · subst hij; simp [hi]
  · simp [hij]
theorem mark_out {sil : List Nat} {i : Nat} (hi : i ∉ sil) (listed : Array Bool) : mark (listed.setIfInBounds i true) sil = (mark listed sil).setIfInBounds i true := by
  apply Array.ext_getElem?
  intro j
  rw [mark_get, Array.size_setIfInBounds, Array.getElem?_setIfInBounds, Array.getElem?_setIfInBounds, mark_get, mark_size]
  by_cases hij : i = j
  · subst hij; simp [hi]
  · simp [hij]
theorem mark_true {sil : List Nat} {listed : Array Bool} {j : Nat} {b : Bool} (h : listed.getD j false = true) : (mark listed sil).getD j b = true := by
  rw [Array.getD_eq_getD_getElem?] at h ⊢
  rw [mark_get]
  cases hj : listed[j]? with
  | none => rw [hj] at h; simp at h
  | some x =>
    rw [hj] at h
    have hlt := (Array.getElem?_eq_some_iff.1 hj).1
    rw [if_pos hlt]
    split
    · rfl
    · simpa using h
theorem mark_same {sil : List Nat} {listed : Array Bool} {j : Nat} {b : Bool} (h : j ∉ sil) : (mark listed sil).getD j b = listed.getD j b := by
  rw [Array.getD_eq_getD_getElem?, Array.getD_eq_getD_getElem?, mark_get, if_neg h]
  split
  · rfl
  · rename_i hlt
    have : listed[j]? = none := by simp; omega
    rw [this]

theorem look_killO {k : Option (Nat × PV S)} : ∃ f : PV S → PV S, (∀ (e : Env S) t, look (killO k e) t = (look e t).map f) ∧ ∀ p, p.rowless = true → f p = p := by
  cases k with
  | none => exact ⟨id, fun e t => by simp [killO], fun _ _ => rfl⟩
  | some x => exact ⟨PV.kill x.1 x.2, fun e t => look_killE x.1 x.2 e t, fun p hp => kill_rowless x.1 x.2 p hp⟩

theorem any2_wp (hmix : P.follows .mixedOrders = true) (hun : UniOk un) (ht : TbOk P un tb) (hor : SoundO P un orc) (hin : SoundI P un inl) {id : Nat} {sil : List Nat} {KX : Exit → Env S → Bxs S → Option R} {K : Env S → Bxs S → Option R} {e : Env S} {bx : Bxs S} {a : Act} {w : World}
    (hord : okOrder ops.toList = true) (hsok : okSil ops [] sil = true) (h : execS un tb orc inl ops bx sil e (fun e => execAny un tb orc inl ops (fun x e bx => KX x (without (dsts ops.toList) e) bx) ops.size (mark (Array.replicate ops.size false) sil) e bx K) = some r)
    (hd : ∀ o ∈ ops.toList, ∀ d, o.dst = some d → d < N.n) (hs : Holds un E D0 N e bx a { w with drawn := w.drawn + 1 })
    (hk : ∀ e' bx', K e' bx' = some r → Pres (dsts ops.toList) e e' → PresB bx bx' → ∀ a' w', Holds un E D0 N e' bx' a' w' → Q .normal a' w')
    (hkx : ∀ x e' bx', KX x e' bx' = some r → PresB bx bx' → ∀ a' w', Pres (dsts ops.toList) e e' → Holds un E D0 N e' bx' a' w' → Q x a' w') : (Code.region id ops true).wp P Q a w := by
  obtain ⟨hback, hpair⟩ := okOrder_spec hord
  obtain ⟨e1, h1, h2, h3⟩ := execS_spec h hsok
  have hsil := okSil_mem hsok
  have hlist : ∀ {i : Nat} {o : Oper}, ops[i]? = some o → ops.toList[i]? = some o := fun h => by simpa using h
  have hget : ∀ {i : Nat} {o : Oper}, ops[i]? = some o → i < ops.size := fun h => (Array.getElem?_eq_some_iff.1 h).1
  have hmem : ∀ {i : Nat} {o : Oper}, ops[i]? = some o → o ∈ ops.toList := fun h => List.mem_of_getElem? (hlist h)
  refine wp_region_any hmix ?_
  have hinb : ∀ {listed : Array Bool} {i : Nat}, listed.size = ops.size → i < ops.size → listed.getD i true = listed.getD i false := fun {listed i} hsz hi => by
    simp [Array.getD_eq_getD_getElem?, hsz, hi]
  have noready : ∀ (listed : Array Bool), listed.size = ops.size → Region.ready .any ops listed = [] → ∀ i, i < ops.size → listed.getD i false = true := by
    intro listed hsz hr i hi
    cases hb : listed.getD i false with
    | true => rfl
    | false =>
      obtain ⟨k, h1, h2, h3⟩ := least (p := fun i => listed.getD i false = false) ops.size ⟨i, hi, hb⟩
      have : k ∈ Region.ready .any ops listed := ready_spec.2 ⟨h1, by rw [hinb hsz h1]; exact h2, ops[k], by simp [h1], fun x hx hbx => by
        have hlt := hback k ops[k] (by simp [h1]) x hx hbx
        simpa using h3 _ hlt⟩
      rw [hr] at this; cases this
  have key : ∀ (fuel : Nat) (listed : Array Bool) (n : Nat) (em ea : Env S) (bx' : Bxs S) (a : Act) (w : World), listed.size = ops.size → unl ops.size listed ≤ fuel →
      execAny un tb orc inl ops (fun x e bx => KX x (without (dsts ops.toList) e) bx) n (mark listed sil) em bx' K = some r →
      (∀ s ∈ sil, ∃ o d p, ops[s]? = some o ∧ SilAt un tb orc inl em o d p) →
      (∀ t, (∀ s ∈ sil, listed.getD s false = false → ∀ o, ops[s]? = some o → o.dst ≠ some t) → look ea t = look em t) →
      Pres (dsts ops.toList) e em → PresB bx bx' → Holds un E D0 N ea bx' a w → wpAny P .any ops Q fuel listed a w := by
    intro fuel
    have fin : ∀ {listed : Array Bool} {n : Nat} {em ea : Env S} {bx' : Bxs S} {a : Act} {w : World}, listed.size = ops.size → Region.ready .any ops listed = [] →
        execAny un tb orc inl ops (fun x e bx => KX x (without (dsts ops.toList) e) bx) n (mark listed sil) em bx' K = some r →
        (∀ s ∈ sil, ∃ o d p, ops[s]? = some o ∧ SilAt un tb orc inl em o d p) →
        (∀ t, (∀ s ∈ sil, listed.getD s false = false → ∀ o, ops[s]? = some o → o.dst ≠ some t) → look ea t = look em t) →
        Pres (dsts ops.toList) e em → PresB bx bx' → Holds un E D0 N ea bx' a w → Q .normal a w := by
      intro listed n em ea bx' a w hsz hr hm hs hag hp hb hH
      have hall := noready listed hsz hr
      have hr2 : Region.ready .any ops (mark listed sil) = [] := by
        apply List.eq_nil_iff_forall_not_mem.2
        intro i hi
        obtain ⟨g1, g2, _⟩ := ready_spec.1 hi
        rw [mark_true (hall i g1)] at g2; cases g2
      have hK : K em bx' = some r := by
        cases n with
        | zero => unfold execAny at hm; rw [hr2] at hm; exact hm
        | succ n => unfold execAny at hm; rw [hr2] at hm; exact hm
      refine hk em bx' hK hp hb a w (hH.sub fun t p htp => ?_)
      rw [hag t fun s hs hl o ho => by
        obtain ⟨o', _, _, ho', _⟩ := h3 s hs
        have := hall s (hget ho'); rw [hl] at this; cases this]
      exact htp
    induction fuel with
    | zero =>
      intro listed n em ea bx' a w hsz hf hm hs hag hp hb hH
      have hr : Region.ready .any ops listed = [] := by
        apply List.eq_nil_iff_forall_not_mem.2
        intro i hi
        obtain ⟨g1, g2, _⟩ := ready_spec.1 hi
        have : i ∈ (List.range ops.size).filter fun i => !listed.getD i true := by simp only [List.mem_filter, List.mem_range]; exact ⟨g1, by rw [g2]; rfl⟩
        have h0 : ((List.range ops.size).filter fun i => !listed.getD i true) = [] := List.length_eq_zero_iff.1 (Nat.le_zero.1 hf)
        rw [h0] at this; cases this
      exact ⟨hr, fin hsz hr hm hs hag hp hb hH⟩
    | succ fuel ih =>
      intro listed n em ea bx' a w hsz hf hm hs hag hp hb hH
      refine ⟨fun hr => fin hsz hr hm hs hag hp hb hH, fun i hi => ?_⟩
      obtain ⟨g1, g2, o, g3, g4⟩ := ready_spec.1 hi
      have g2' : listed.getD i false = false := by rw [← hinb hsz g1]; exact g2
      have hset : ∀ j, (listed.setIfInBounds i true).getD j false = if j = i then true else listed.getD j false := fun j => by
        simp only [Array.getD_eq_getD_getElem?, Array.getElem?_setIfInBounds]
        by_cases hji : i = j
        · subst hji; simp [hsz, g1]
        · rw [if_neg hji, if_neg (Ne.symm hji)]
      have hunl : unl ops.size (listed.setIfInBounds i true) ≤ fuel := by
        have : unl ops.size (listed.setIfInBounds i true) < unl ops.size listed := by
          unfold unl
          refine filter_lt (fun j hj => ?_) (List.mem_range.2 g1) (by rw [g2]; rfl) ?_
          · simp only [Array.getD_eq_getD_getElem?, Array.getElem?_setIfInBounds] at hj ⊢
            split at hj
            · split at hj <;> simp at hj
            · exact hj
          · simp [Array.getD_eq_getD_getElem?, hsz, g1]
        omega
      have hops : ∀ x ∈ o.op.operands.toList, ∀ t, x = .tmp t → look ea t = look em t := fun x hx t hxt => by
        refine hag t fun s hs' hl o' ho' hc => ?_
        obtain ⟨_, sn', o2, d2, hok, _⟩ := hsil s hs'
        have e1 := hok.get; rw [ho'] at e1; cases e1
        have e2 := hok.dst; rw [hc] at e2; cases e2
        obtain ⟨o3, k1, x', k2, k3, k4⟩ := edge_spec (hok.look i o g3 (slotsIn_looks (mem_slotsIn.2 (hxt ▸ hx))))
        rw [g3] at k1; cases k1
        have := g4 x' k2 k3
        rw [k4, hl] at this; cases this
      unfold wpOp
      rw [g3]
      simp only
      by_cases hisil : i ∈ sil
      · obtain ⟨o', d, p, ho', hst⟩ := hs i hisil
        rw [g3] at ho'; cases ho'
        rw [if_pos (by simp [Region.wanted, silent_guard hst.silent])]
        left
        have hrun : popQ un tb orc inl o ea bx' some = some p := by
          rw [silent_bx hst.silent bx' [], popQ_congr hops, hst.run]; rfl
        obtain ⟨p', hp', hg⟩ := popQ_gives hun ht hor hin hrun
        cases hp'
        refine gives_step hg (hd o (hmem g3)) hH fun a' w' hH' => ?_
        refine ih _ n em _ bx' a' w' (by simpa using hsz) hunl (by rw [mark_in hisil]; exact hm) hs (fun t htt => ?_) hp hb hH'
        by_cases htd : t = d
        · subst htd
          rw [hst.dst, hst.val]; simp [push, look]
        · rw [look_push_ne (by rw [hst.dst]; simpa using Ne.symm htd)]
          refine hag t fun s hs' hl o' ho' => ?_
          by_cases hsi : s = i
          · subst hsi
            rw [g3] at ho'; cases ho'
            rw [hst.dst]; simpa using Ne.symm htd
          · exact htt s hs' (by rw [hset, if_neg hsi]; exact hl) o' ho'
      · have hir : i ∈ Region.ready .any ops (mark listed sil) := ready_spec.2 ⟨g1, by rw [mark_same hisil]; exact g2, o, g3, fun x hx hbx => mark_true (g4 x hx hbx)⟩
        cases n with
        | zero =>
          unfold execAny at hm
          split at hm
          · rename_i hr; rw [hr] at hir; cases hir
          · cases hm
        | succ n =>
          unfold execAny at hm
          split at hm
          · rename_i hr; rw [hr] at hir; cases hir
          · rename_i i0 l0 hr
            rw [hr] at hir
            have hm1 := sameL_some hm _ (List.mem_map.2 ⟨i, hir, rfl⟩)
            simp only [g3] at hm1
            split at hm1
            · rename_i hg
              rw [if_pos (by simp [Region.wanted, hg])]
              left
              have hm2 := popK_congr hops hm1
              have hpush : ∀ {e' : Env S} {p : PV S} {e0 : Env S}, Pres [] e0 e' → Pres (dsts ops.toList) e e0 → Pres (dsts ops.toList) e (push o.dst p e') := fun {e' p e0} q1 q2 => by
                refine ((q2.trans q1).trans (Pres.push [] e' o.dst p)).mono fun t htt => ?_
                simp only [List.append_nil, List.mem_append] at htt
                rcases htt with htt | htt
                · exact htt
                · simp only [dsts, List.mem_filterMap]
                  exact ⟨o, hmem g3, by simpa using htt⟩
              refine popK_wp hun ht hor hin hm2 (hd o (hmem g3)) hH (fun p e' bx2 hK2 hp2 hb2 a' w' hH2 => ?_) fun x e' bx2 hK2 hp2 hb2 a' w' hH2 => ?_
              · split at hK2
                · rename_i he'
                  subst he'
                  obtain ⟨f, hf1, hf2⟩ := look_killO (k := killOf o em bx')
                  have hemk : Pres [] em (killO (killOf o em bx') em) := fun t q _ hq hr => by rw [hf1, hq]; simp [hf2 q hr]
                  refine ih _ n _ _ bx2 a' w' (by simpa using hsz) hunl (by rw [mark_out hisil]; exact hK2) (fun s hs' => ?_) (fun t htt => ?_) (hpush hemk hp) (hb.trans hb2) hH2
                  · obtain ⟨os, d, ps, ho', hst⟩ := hs s hs'
                    obtain ⟨_, sn', o2, d2, hok, hsn⟩ := hsil s hs'
                    have q1 := hok.get; rw [ho'] at q1; cases q1
                    have q2 := hok.dst; rw [hst.dst] at q2; cases q2
                    have hne : s ≠ i := fun h => hisil (h ▸ hs')
                    have hval : ∀ t, o.dst ≠ some t → ∀ q, look em t = some q → q.rowless = true → look (push o.dst p (killO (killOf o em bx') em)) t = some q := fun t hn q hq hr => by
                      rw [look_push_ne hn, hf1, hq]; simp [hf2 q hr]
                    have hnw : ∀ t ∈ slotsIn os.op.operands.toList, o.dst ≠ some t := fun t htm hc => by
                      rcases hsn _ (hok.from_ i o t g3 hc htm) with h4 | h4
                      · cases h4
                      · exact hisil h4
                    refine ⟨os, d, ps, ho', hst.silent, hst.dst, hval d (hok.uniq i o g3 hne) ps hst.val hst.rowless, hst.rowless, fun t htm => ?_, ?_⟩
                    · obtain ⟨q, hq1, hq2⟩ := hst.args t htm
                      exact ⟨q, hval t (hnw t htm) q hq1 hq2, hq2⟩
                    · rw [popQ_congr (e := em) fun x hx t hxt => ?_]
                      · exact hst.run
                      · have htm := mem_slotsIn.2 (hxt ▸ hx)
                        obtain ⟨q, hq1, hq2⟩ := hst.args t htm
                        rw [hval t (hnw t htm) q hq1 hq2, hq1]
                  · by_cases htd : o.dst = some t
                    · rw [htd]; simp [push, look]
                    · rw [look_push_ne htd, look_push_ne htd, hf1, hf1]
                      rw [hag t fun s hs' hl o' ho' => ?_]
                      have hne : s ≠ i := fun h => hisil (h ▸ hs')
                      exact htt s hs' (by rw [hset, if_neg hne]; exact hl) o' ho'
                · cases hK2
              · split at hK2
                · rename_i he'
                  subst he'
                  refine hkx x _ bx2 hK2 (hb.trans hb2) a' w' (fun t q hn hq hr => ?_) (hH2.sub fun t q hq => ?_)
                  · rw [look_without, if_neg hn]; exact hp t q hn hq hr
                  · rw [look_without] at hq
                    split at hq
                    · cases hq
                    · rename_i hn
                      rw [hag t fun s hs' hl o' ho' hc => hn (mem_dsts.2 ⟨s, o', hlist ho', hc⟩)]
                      exact hq
                · cases hK2
            · cases hm1
  refine key ops.size _ ops.size e1 e bx a _ (by simp) ?_ h1 h3 (fun t htt => ?_) (fun t q hn hq _ => ?_) (PresB.refl _) hs
  · exact Nat.le_trans (List.length_filter_le _ _) (by simp)
  · refine (h2 t fun s hs' o ho => htt s hs' ?_ o ho).symm
    simp only [Array.getD_eq_getD_getElem?, Array.getElem?_replicate]
    split <;> rfl
  · rw [h2 t fun s hs' o ho hc => hn (mem_dsts.2 ⟨s, o, hlist ho, hc⟩)]; exact hq
end
end Pe
