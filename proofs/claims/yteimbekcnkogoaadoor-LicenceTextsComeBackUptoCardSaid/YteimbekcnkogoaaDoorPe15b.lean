/- A region in any order. -/
import Derived.Test.YteimbekcnkogoaaDoorPe15
namespace Pe
open Go Go.RowKit
variable {S : Nat → Type}
section
variable {P : Program} {un : Uni S} {E : Wl.Ctx} {D0 : Dat} {N : Wl.Fr} {bx : Bxs S}

def Went (P : Program) (un : Uni S) (bx : Bxs S) (ops : List Oper) (o : Oper) (e : Env S) (p : PV S) : Prop :=
  ((o.guard = none ∨ ∃ d want, gslot ops o = some (d, want) ∧ look e d = some (.bool want)) ∧ Gives P un o (restr (slotsIn o.op.operands.toList) e) bx p) ∨
  ((∃ d want, gslot ops o = some (d, want) ∧ (look e d = some (.bool (!want)) ∨ look e d = some undefV)) ∧ p = undefV)

theorem QPath.at {ops l : List Oper} {e e' : Env S} (h : QPath P un bx ops l e e') : ∀ (i : Nat) (o : Oper), l[i]? = some o → ∃ ei p,
    (∀ s, s ∉ dsts (l.take i) → look ei s = look e s) ∧ (∀ s, s ∉ dsts (l.drop i) → look ei s = look e' s) ∧ Went P un bx ops o ei p ∧ ∀ d, o.dst = some d → d ∉ dsts (l.drop (i + 1)) → look e' d = some p := by
  have main : ∀ {o : Oper} {l : List Oper} {e e' : Env S} {p : PV S}, QPath P un bx ops (o :: l) e e' → QPath P un bx ops l (push o.dst p e) e' → Went P un bx ops o e p →
      (∀ (i : Nat) (q : Oper), l[i]? = some q → ∃ ei p', (∀ s, s ∉ dsts (l.take i) → look ei s = look (push o.dst p e) s) ∧ (∀ s, s ∉ dsts (l.drop i) → look ei s = look e' s) ∧ Went P un bx ops q ei p' ∧ ∀ d, q.dst = some d → d ∉ dsts (l.drop (i + 1)) → look e' d = some p') →
      ∀ (i : Nat) (q : Oper), (o :: l)[i]? = some q → ∃ ei p', (∀ s, s ∉ dsts ((o :: l).take i) → look ei s = look e s) ∧ (∀ s, s ∉ dsts ((o :: l).drop i) → look ei s = look e' s) ∧ Went P un bx ops q ei p' ∧ ∀ d, q.dst = some d → d ∉ dsts ((o :: l).drop (i + 1)) → look e' d = some p' := by
    intro o l e e' p h k hw ih i q hi
    cases i with
    | zero =>
      simp only [List.getElem?_cons_zero, Option.some.injEq] at hi
      subst hi
      refine ⟨e, p, fun _ _ => rfl, fun s hs => (h.keep s (by simpa using hs)).symm, hw, fun d hd hn => ?_⟩
      rw [k.keep d (by simpa using hn), hd]
      simp [push, look]
    | succ i =>
      obtain ⟨ei, p', h1, h2, h3, h4⟩ := ih i q (by simpa using hi)
      refine ⟨ei, p', fun s hs => ?_, fun s hs => h2 s (by simpa using hs), h3, fun d hd hn => h4 d hd (by simpa using hn)⟩
      simp only [List.take_succ_cons, dsts, List.filterMap_cons] at hs
      cases hd : o.dst with
      | none => rw [hd] at hs h1; rw [h1 s hs]; rfl
      | some d => rw [hd] at hs h1; simp at hs; rw [h1 s (by simpa [dsts] using hs.2), look_push_ne (by simpa using fun h => hs.1 h.symm)]
  induction h with
  | nil => intro i o h; simp at h
  | @run o l e e' p hg h k ih => exact main (.run hg h k) k (.inl ⟨hg, h⟩) ih
  | @shut o l e e' d want hg h k ih => exact main (.shut hg h k) k (.inr ⟨⟨d, want, hg, h⟩, rfl⟩) ih

theorem Went.congr {ops : List Oper} {o : Oper} {e e2 : Env S} {p : PV S} (h : Went P un bx ops o e p) (ha : ∀ s, s ∈ o.looksAt ops.toArray → look e2 s = look e s) : Went P un bx ops o e2 p := by
  have hgs : ∀ {d want}, gslot ops o = some (d, want) → d ∈ o.looksAt ops.toArray := fun hg => by
    obtain ⟨j, h1, h2⟩ := gslot_spec hg
    unfold Oper.looksAt
    rw [h1]
    simp only [List.mem_append]
    right
    rw [h2]; simp
  rcases h with ⟨hg, h⟩ | ⟨⟨d, want, h1, h2⟩, h3⟩
  · refine .inl ⟨hg.imp id fun ⟨d, want, g1, g2⟩ => ⟨d, want, g1, by rw [ha d (hgs g1)]; exact g2⟩, h.sub fun i q hq => ?_⟩
    rw [look_restr] at hq ⊢
    split at hq
    · rename_i hi
      rw [if_pos hi, ha i (by unfold Oper.looksAt; exact List.mem_append_left _ hi)]; exact hq
    · cases hq
  · exact .inr ⟨⟨d, want, h1, by rw [ha d (hgs h1)]; exact h2⟩, h3⟩

theorem mem_dsts {l : List Oper} {s : Nat} : s ∈ dsts l ↔ ∃ (j : Nat) (o : Oper), l[j]? = some o ∧ o.dst = some s := by
  simp only [dsts, List.mem_filterMap]
  constructor
  · rintro ⟨o, h1, h2⟩
    obtain ⟨j, hj⟩ := List.mem_iff_getElem?.1 h1
    exact ⟨j, o, hj, h2⟩
  · rintro ⟨j, o, h1, h2⟩
    exact ⟨o, List.mem_of_getElem? h1, h2⟩

def ordAfter (ops : List Oper) (i j : Nat) : Bool := match ops[j]? with | some o => o.after.any fun e => Region.binds .any e && Nat.beq e.on i | none => false

theorem okOrder_spec {ops : List Oper} (h : okOrder ops = true) :
    (∀ i o, ops[i]? = some o → ∀ e ∈ o.after.toList, Region.binds .any e = true → e.on < i) ∧
    ∀ i j oi oj, ops[i]? = some oi → ops[j]? = some oj → i ≠ j → ∀ d, oi.dst = some d → oj.dst ≠ some d ∧ (d ∈ oj.looksAt ops.toArray → (i < j ∧ ordAfter ops i j = true) ∨ (j < i ∧ ordAfter ops j i = true)) := by
  have memz : ∀ {i : Nat} {o : Oper}, ops[i]? = some o → (o, i) ∈ ops.zipIdx := fun {i o} hi => by
    rw [List.mem_zipIdx_iff_getElem?]; exact hi
  unfold okOrder at h
  simp only [Bool.and_eq_true, List.all_eq_true] at h
  obtain ⟨h1, h2⟩ := h
  constructor
  · intro i o hi e he hb
    have := h1 _ (memz hi)
    simp only [Array.all_eq_true_iff_forall_mem] at this
    have := this e (by simpa using he)
    rw [hb] at this
    simpa [Nat.blt_eq] using this
  · intro i j oi oj hi hj hne d hd
    have := h2 _ (memz hi) _ (memz hj)
    simp only [hd, Bool.or_eq_true, Bool.and_eq_true] at this
    rcases this with this | ⟨g1, g2⟩
    · exact absurd (Nat.eq_of_beq_eq_true this) hne
    · refine ⟨by simpa using g1, fun hm => ?_⟩
      rcases g2 with g2 | g2
      · simp [hm] at g2
      · cases hlt : Nat.blt i j with
        | true => rw [hlt] at g2; exact .inl ⟨by simpa [Nat.blt_eq] using hlt, g2⟩
        | false =>
          rw [hlt] at g2
          have : ¬ i < j := fun h => by rw [← Nat.blt_eq] at h; simp [h] at hlt
          exact .inr ⟨by omega, g2⟩

theorem ordAfter_spec {ops : List Oper} {i j : Nat} (h : ordAfter ops i j = true) : ∃ o, ops[j]? = some o ∧ ∃ e ∈ o.after.toList, Region.binds .any e = true ∧ e.on = i := by
  unfold ordAfter at h
  split at h
  · rename_i o ho
    refine ⟨o, ho, ?_⟩
    rw [← Array.any_toList, List.any_eq_true] at h
    obtain ⟨e, h1, h2⟩ := h
    simp only [Bool.and_eq_true] at h2
    exact ⟨e, h1, h2.1, Nat.eq_of_beq_eq_true h2.2⟩
  · cases h

theorem ready_spec {ops : Array Oper} {listed : Array Bool} {i : Nat} : i ∈ Region.ready .any ops listed ↔ i < ops.size ∧ listed.getD i true = false ∧ ∃ o, ops[i]? = some o ∧ ∀ e ∈ o.after.toList, Region.binds .any e = true → listed.getD e.on false = true := by
  unfold Region.ready
  simp only [List.mem_filter, List.mem_range, Bool.and_eq_true, Bool.not_eq_true']
  refine and_congr_right fun hi => and_congr_right fun _ => ?_
  rw [Array.getElem?_eq_getElem hi]
  simp only [Option.map_some, Option.getD_some, Option.some.injEq, exists_eq_left', ← Array.all_toList, List.all_eq_true, Bool.or_eq_true, Bool.not_eq_true']
  exact forall_congr' fun e => forall_congr' fun _ => by cases Region.binds .any e <;> simp

def unl (n : Nat) (listed : Array Bool) : Nat := ((List.range n).filter fun i => !listed.getD i true).length

theorem filter_le {p q : Nat → Bool} (hpq : ∀ j, q j = true → p j = true) : ∀ l : List Nat, (l.filter q).length ≤ (l.filter p).length
  | [] => Nat.le_refl _
  | x :: l => by
    have := filter_le hpq l
    simp only [List.filter_cons]
    cases hq : q x with
    | true => rw [hpq x hq]; simpa using this
    | false => cases p x <;> simp <;> omega
theorem filter_lt {p q : Nat → Bool} (hpq : ∀ j, q j = true → p j = true) {i : Nat} : ∀ {l : List Nat}, i ∈ l → p i = true → q i = false → (l.filter q).length < (l.filter p).length
  | x :: l, hm, hp, hq => by
    simp only [List.filter_cons]
    have hle := filter_le hpq l
    rcases List.mem_cons.1 hm with rfl | hm
    · rw [hp, hq]; simp; omega
    · have := filter_lt hpq hm hp hq
      cases hqx : q x with
      | true => rw [hpq x hqx]; simp; omega
      | false => cases p x <;> simp <;> omega

theorem least {p : Nat → Prop} [DecidablePred p] : ∀ n, (∃ i, i < n ∧ p i) → ∃ i, i < n ∧ p i ∧ ∀ j, j < i → ¬ p j := by
  intro n ⟨i, hi, hp⟩
  induction i using Nat.strongRecOn with
  | ind i ih =>
    by_cases hx : ∃ j, j < i ∧ p j
    · obtain ⟨j, hj, hpj⟩ := hx
      exact ih j hj (Nat.lt_trans hj hi) hpj
    · exact ⟨i, hi, hp, fun j hj hpj => hx ⟨j, hj, hpj⟩⟩

theorem any_wp (hmix : P.follows .mixedOrders = true) {id : Nat} {ops : Array Oper} {e e' : Env S} (hord : okOrder ops.toList = true) (h : QPath P un bx ops.toList ops.toList e e') {a : Act} {w : World} (hd : ∀ o ∈ ops.toList, ∀ d, o.dst = some d → d < N.n) (hs : Holds un E D0 N e bx a { w with drawn := w.drawn + 1 }) {Q : Exit → Act → World → Prop}
    (hk : ∀ a' w', Holds un E D0 N e' bx a' w' → Q .normal a' w') : (Code.region id ops true).wp P Q a w := by
  obtain ⟨hback, hpair⟩ := okOrder_spec hord
  refine wp_region_any hmix ?_
  have hin : ∀ {listed : Array Bool} {i : Nat}, listed.size = ops.size → i < ops.size → listed.getD i true = listed.getD i false := fun {listed i} hsz hi => by
    simp [Array.getD_eq_getD_getElem?, hsz, hi]
  have hget : ∀ {i : Nat} {o : Oper}, ops[i]? = some o → i < ops.size := fun h => (Array.getElem?_eq_some_iff.1 h).1
  have hlist : ∀ {i : Nat} {o : Oper}, ops[i]? = some o → ops.toList[i]? = some o := fun h => by simpa using h
  have noready : ∀ (listed : Array Bool), listed.size = ops.size → Region.ready .any ops listed = [] → ∀ i, i < ops.size → listed.getD i false = true := by
    intro listed hsz hr i hi
    cases hb : listed.getD i false with
    | true => rfl
    | false =>
      obtain ⟨k, h1, h2, h3⟩ := least (p := fun i => listed.getD i false = false) ops.size ⟨i, hi, hb⟩
      have : k ∈ Region.ready .any ops listed := ready_spec.2 ⟨h1, by rw [hin hsz h1]; exact h2, ops[k], by simp [h1], fun x hx hbx => by
        have hlt := hback k ops[k] (by simp [h1]) x hx hbx
        simpa using h3 _ hlt⟩
      rw [hr] at this; cases this
  have key : ∀ (fuel : Nat) (listed : Array Bool) (cur : Env S) (a : Act) (w : World), listed.size = ops.size → unl ops.size listed ≤ fuel →
      (∀ j o, ops[j]? = some o → listed.getD j false = true → ∀ x ∈ o.after.toList, Region.binds .any x = true → listed.getD x.on false = true) →
      (∀ s j o, ops[j]? = some o → o.dst = some s → listed.getD j false = true → look cur s = look e' s) →
      (∀ s, (∀ j o, ops[j]? = some o → o.dst = some s → listed.getD j false = false) → look cur s = look e s) →
      Holds un E D0 N cur bx a w → wpAny P .any ops Q fuel listed a w := by
    have fin : ∀ {listed : Array Bool} {cur : Env S} {a : Act} {w : World}, listed.size = ops.size → Region.ready .any ops listed = [] →
      (∀ s j o, ops[j]? = some o → o.dst = some s → listed.getD j false = true → look cur s = look e' s) →
      (∀ s, (∀ j o, ops[j]? = some o → o.dst = some s → listed.getD j false = false) → look cur s = look e s) →
      Holds un E D0 N cur bx a w → Q .normal a w := by
      intro listed cur a w hsz hr hL hU hH
      refine hk a w (hH.sub fun s p hp => ?_)
      by_cases hm : s ∈ dsts ops.toList
      · obtain ⟨j, o, h1, h2⟩ := mem_dsts.1 hm
        have h1' : ops[j]? = some o := by simpa using h1
        rw [hL s j o h1' h2 (noready _ hsz hr j (hget h1'))]; exact hp
      · rw [hU s fun j o h1 h2 => absurd (mem_dsts.2 ⟨j, o, hlist h1, h2⟩) hm, ← h.keep s hm]; exact hp
    intro fuel
    induction fuel with
    | zero =>
      intro listed cur a w hsz hf hc hL hU hH
      have hr : Region.ready .any ops listed = [] := by
        apply List.eq_nil_iff_forall_not_mem.2
        intro i hi
        obtain ⟨g1, g2, _⟩ := ready_spec.1 hi
        have : i ∈ (List.range ops.size).filter fun i => !listed.getD i true := by simp only [List.mem_filter, List.mem_range]; exact ⟨g1, by rw [g2]; rfl⟩
        have h0 : ((List.range ops.size).filter fun i => !listed.getD i true) = [] := List.length_eq_zero_iff.1 (Nat.le_zero.1 hf)
        rw [h0] at this; cases this
      exact ⟨hr, fin hsz hr hL hU hH⟩
    | succ fuel ih =>
      intro listed cur a w hsz hf hc hL hU hH
      refine ⟨fun hr => fin hsz hr hL hU hH, fun i hi => ?_⟩
      obtain ⟨g1, g2, o, g3, g4⟩ := ready_spec.1 hi
      have g2' : listed.getD i false = false := by rw [← hin hsz g1]; exact g2
      have hset : ∀ j, (listed.setIfInBounds i true).getD j false = if j = i then true else listed.getD j false := fun j => by
        simp only [Array.getD_eq_getD_getElem?, Array.getElem?_setIfInBounds]
        by_cases hji : i = j
        · subst hji; simp [hsz, g1]
        · rw [if_neg hji, if_neg (Ne.symm hji)]
      obtain ⟨ei, p, k1, k2, k3, k4⟩ := h.at i o (hlist g3)
      have hcur : ∀ s, s ∈ o.looksAt ops → look cur s = look ei s := by
        intro s hs
        by_cases hx : ∃ j oj, ops[j]? = some oj ∧ oj.dst = some s ∧ j ≠ i
        · obtain ⟨j, oj, q1, q2, q3⟩ := hx
          obtain ⟨_, q4⟩ := hpair j i oj o (hlist q1) (hlist g3) q3 s q2
          have uniq : ∀ j' oj', ops[j']? = some oj' → oj'.dst = some s → j' = j := fun j' oj' u1 u2 => by
            by_cases hne : j' = j
            · exact hne
            · exact absurd q2 (hpair j' j oj' oj (hlist u1) (hlist q1) hne s u2).1
          rcases q4 (by simpa using hs) with ⟨q5, q6⟩ | ⟨q5, q6⟩
          · obtain ⟨o', r1, x, r2, r3, r4⟩ := ordAfter_spec q6
            have : o' = o := by have := hlist g3; rw [r1] at this; cases this; rfl
            subst this
            have hlj : listed.getD j false = true := by rw [← r4]; exact g4 x r2 r3
            rw [hL s j oj q1 q2 hlj]
            refine (k2 s fun hm => ?_).symm
            obtain ⟨j', oj', u1, u2⟩ := mem_dsts.1 hm
            rw [List.getElem?_drop] at u1
            have := uniq _ oj' (by simpa using u1) u2
            omega
          · obtain ⟨o', r1, x, r2, r3, r4⟩ := ordAfter_spec q6
            have : o' = oj := by have := hlist q1; rw [r1] at this; cases this; rfl
            subst this
            have hlj : listed.getD j false = false := by
              cases hb : listed.getD j false with
              | false => rfl
              | true => have := hc j o' q1 hb x r2 r3; rw [r4, g2'] at this; cases this
            rw [hU s fun j' oj' u1 u2 => by rw [uniq j' oj' u1 u2]; exact hlj]
            refine (k1 s fun hm => ?_).symm
            obtain ⟨j', oj', u1, u2⟩ := mem_dsts.1 hm
            rw [List.getElem?_take] at u1
            split at u1
            · have := uniq _ oj' (by simpa using u1) u2; omega
            · cases u1
        · have hno : ∀ j oj, ops[j]? = some oj → oj.dst = some s → j = i := fun j oj u1 u2 => by
            by_cases hne : j = i
            · exact hne
            · exact absurd ⟨j, oj, u1, u2, hne⟩ hx
          rw [hU s fun j oj u1 u2 => by rw [hno j oj u1 u2]; exact g2']
          refine (k1 s fun hm => ?_).symm
          obtain ⟨j', oj', u1, u2⟩ := mem_dsts.1 hm
          rw [List.getElem?_take] at u1
          split at u1
          · have := hno _ oj' (by simpa using u1) u2; omega
          · cases u1
      have hdo : ∀ d, o.dst = some d → d < N.n := hd o (List.mem_of_getElem? (hlist g3))
      have hnext : ∀ a' w', Holds un E D0 N (push o.dst p cur) bx a' w' → wpAny P .any ops Q fuel (listed.setIfInBounds i true) a' w' := by
        intro a' w' hH'
        refine ih _ _ a' w' (by simpa using hsz) ?_ ?_ ?_ ?_ hH'
        · have : unl ops.size (listed.setIfInBounds i true) < unl ops.size listed := by
            unfold unl
            refine filter_lt (fun j hj => ?_) (List.mem_range.2 g1) (by rw [g2]; rfl) ?_
            · simp only [Array.getD_eq_getD_getElem?, Array.getElem?_setIfInBounds] at hj ⊢
              split at hj
              · split at hj <;> simp at hj
              · exact hj
            · simp [Array.getD_eq_getD_getElem?, hsz, g1]
          omega
        · intro j oj u1 u2 x u3 u4
          rw [hset] at u2 ⊢
          split at u2
          · rename_i hji; subst hji
            rw [g3] at u1; cases u1
            rw [g4 x u3 u4]; split <;> rfl
          · rw [hc j oj u1 u2 x u3 u4]; split <;> rfl
        · intro s j oj u1 u2 u3
          rw [hset] at u3
          by_cases hji : j = i
          · subst hji
            rw [g3] at u1; cases u1
            rw [k4 s u2 fun hm => by
              obtain ⟨j', oj', v1, v2⟩ := mem_dsts.1 hm
              rw [List.getElem?_drop] at v1
              exact absurd v2 (hpair j (j + 1 + j') o oj' (hlist g3) v1 (by omega) s u2).1]
            rw [u2]; simp [push, look]
          · rw [if_neg hji] at u3
            have hne : o.dst ≠ some s := fun hx => (hpair j i oj o (hlist u1) (hlist g3) hji s u2).1 hx
            rw [look_push_ne hne]; exact hL s j oj u1 u2 u3
        · intro s hall
          have hne : o.dst ≠ some s := fun hx => by have := hall i o g3 hx; rw [hset, if_pos rfl] at this; cases this
          rw [look_push_ne hne]
          exact hU s fun j oj u1 u2 => by
            have := hall j oj u1 u2; rw [hset] at this
            split at this
            · cases this
            · exact this
      unfold wpOp
      rw [g3]
      simp only
      have k3' := k3.congr (e2 := cur) (fun s hs => hcur s (by simpa using hs))
      rcases k3' with ⟨hg, hgv⟩ | ⟨⟨d, want, m1, m2⟩, m3⟩
      · have hw : Region.wanted o (yielded ops a.tmps) = true := by
          rcases hg with hg | ⟨d, want, m1, m2⟩
          · simp [Region.wanted, hg]
          · simpa using wanted_yes m1 hH m2
        rw [if_pos hw]
        exact .inl (gives_step (hgv.sub (restr_sub _ _)) hdo hH hnext)
      · have hw : Region.wanted o (yielded ops a.tmps) = false := by simpa using wanted_no m1 hH m2
        rw [hw, if_neg (by simp)]
        subst m3
        exact hnext _ _ (hH.undef hdo)
  refine key ops.size _ e a _ (by simp) ?_ ?_ ?_ ?_ hs
  · exact Nat.le_trans (List.length_filter_le _ _) (by simp)
  · intro j o _ hj; simp [Array.getD_eq_getD_getElem?, Array.getElem?_replicate] at hj; split at hj <;> simp at hj
  · intro s j o _ _ hj; simp [Array.getD_eq_getD_getElem?, Array.getElem?_replicate] at hj; split at hj <;> simp at hj
  · intro s _; rfl
end
end Pe
