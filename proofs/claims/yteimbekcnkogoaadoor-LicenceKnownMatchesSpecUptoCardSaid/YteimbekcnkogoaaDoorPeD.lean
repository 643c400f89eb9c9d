/- PROVED HERE: a part of the seat's proofs; see the text that holds the claim's theorem. -/
import Derived.Laws.Tables
import Derived.Laws.StructEq
import Derived.ChangeKeysEq
import Derived.ChangeArms
import Derived.OpenShut
import Derived.ChangeReads
import Derived.Below
import Derived.WideShapes
import Derived.WideKeyArgs
import Derived.ChangeSame
import Derived.RowKit
import Derived.Test.YteimbekcnkogoaaDoorPeC
import Derived.Test.YteimbekcnkogoaaDoorPeA
section
/- A region in any order. -/
namespace Pe
open Go Go.RowKit
variable {S : Nat → Type}
section
variable {P : Program} {un : Uni S} {E : Wl.Ctx} {D0 : Dat} {N : Wl.Fr} {bx : Bxs S}

def Went (P : Program) (un : Uni S) (bx : Bxs S) (ops : List Oper) (o : Oper) (e : Env S) (p : PV S) : Prop :=
  ((o.guard = none ∨ ∃ d want, gslot ops o = some (d, want) ∧ look e d = some (.bool want)) ∧ Gives P un o (restr (slotsIn o.op.operands.toList) e) bx p) ∨
  ((∃ d want, gslot ops o = some (d, want) ∧ (look e d = some (.bool (!want)) ∨ look e d = some undefV)) ∧ p = undefV)

theorem QPath.at {ops l : List Oper} {e e' : Env S} (h : QPath P un bx ops l e e') : ∀ (i : Nat) (o : Oper), l[i]? = some o → ∃ ei p,
    (∀ s, s ∉ dsts (l.take i) → look ei s = look e s) ∧ (∀ s, s ∉ dsts (l.drop i) → look ei s = look e' s) ∧ Went P un bx ops o ei p ∧ ∀ d, o.dst = some d → d ∉ dsts (l.drop (i + 1)) → look e' d = some p := by
  have main : ∀ {o : Oper} {l : List Oper} {e e' : Env S} {p : PV S}, QPath P un bx ops (o :: l) e e' → QPath P un bx ops l (push o.dst p e) e' → Went P un bx ops o e p →
      (∀ (i : Nat) (q : Oper), l[i]? = some q → ∃ ei p', (∀ s, s ∉ dsts (l.take i) → look ei s = look (push o.dst p e) s) ∧ (∀ s, s ∉ dsts (l.drop i) → look ei s = look e' s) ∧ Went P un bx ops q ei p' ∧ ∀ d, q.dst = some d → d ∉ dsts (l.drop (i + 1)) → look e' d = some p') →
      ∀ (i : Nat) (q : Oper), (o :: l)[i]? = some q → ∃ ei p', (∀ s, s ∉ dsts ((o :: l).take i) → look ei s = look e s) ∧ (∀ s, s ∉ dsts ((o :: l).drop i) → look ei s = look e' s) ∧ Went P un bx ops q ei p' ∧ ∀ d, q.dst = some d → d ∉ dsts ((o :: l).drop (i + 1)) → look e' d = some p' := by
    intro o l e e' p h k hw ih i q hi
    cases i with
    | zero =>
      simp only [List.getElem?_cons_zero, Option.some.injEq] at hi
      subst hi
      refine ⟨e, p, fun _ _ => rfl, fun s hs => (h.keep s (by simpa using hs)).symm, hw, fun d hd hn => ?_⟩
      rw [k.keep d (by simpa using hn), hd]
      simp [push, look]
    | succ i =>
      obtain ⟨ei, p', h1, h2, h3, h4⟩ := ih i q (by simpa using hi)
      refine ⟨ei, p', fun s hs => ?_, fun s hs => h2 s (by simpa using hs), h3, fun d hd hn => h4 d hd (by simpa using hn)⟩
      simp only [List.take_succ_cons, dsts, List.filterMap_cons] at hs
      cases hd : o.dst with
      | none => rw [hd] at hs h1; rw [h1 s hs]; rfl
      | some d => rw [hd] at hs h1; simp at hs; rw [h1 s (by simpa [dsts] using hs.2), look_push_ne (by simpa using fun h => hs.1 h.symm)]
  induction h with
  | nil => intro i o h; simp at h
  | @run o l e e' p hg h k ih => exact main (.run hg h k) k (.inl ⟨hg, h⟩) ih
  | @shut o l e e' d want hg h k ih => exact main (.shut hg h k) k (.inr ⟨⟨d, want, hg, h⟩, rfl⟩) ih

theorem Went.congr {ops : List Oper} {o : Oper} {e e2 : Env S} {p : PV S} (h : Went P un bx ops o e p) (ha : ∀ s, s ∈ o.looksAt ops.toArray → look e2 s = look e s) : Went P un bx ops o e2 p := by
  have hgs : ∀ {d want}, gslot ops o = some (d, want) → d ∈ o.looksAt ops.toArray := fun hg => by
    obtain ⟨j, h1, h2⟩ := gslot_spec hg
    unfold Oper.looksAt
    rw [h1]
    simp only [List.mem_append]
    right
    rw [h2]; simp
  rcases h with ⟨hg, h⟩ | ⟨⟨d, want, h1, h2⟩, h3⟩
  · refine .inl ⟨hg.imp id fun ⟨d, want, g1, g2⟩ => ⟨d, want, g1, by rw [ha d (hgs g1)]; exact g2⟩, h.sub fun i q hq => ?_⟩
    rw [look_restr] at hq ⊢
    split at hq
    · rename_i hi
      rw [if_pos hi, ha i (by unfold Oper.looksAt; exact List.mem_append_left _ hi)]; exact hq
    · cases hq
  · exact .inr ⟨⟨d, want, h1, by rw [ha d (hgs h1)]; exact h2⟩, h3⟩

theorem mem_dsts {l : List Oper} {s : Nat} : s ∈ dsts l ↔ ∃ (j : Nat) (o : Oper), l[j]? = some o ∧ o.dst = some s := by
  simp only [dsts, List.mem_filterMap]
  constructor
  · rintro ⟨o, h1, h2⟩
    obtain ⟨j, hj⟩ := List.mem_iff_getElem?.1 h1
    exact ⟨j, o, hj, h2⟩
  · rintro ⟨j, o, h1, h2⟩
    exact ⟨o, List.mem_of_getElem? h1, h2⟩

def ordAfter (ops : List Oper) (i j : Nat) : Bool := match ops[j]? with | some o => o.after.any fun e => Region.binds .any e && Nat.beq e.on i | none => false

theorem okOrder_spec {ops : List Oper} (h : okOrder ops = true) :
    (∀ i o, ops[i]? = some o → ∀ e ∈ o.after.toList, Region.binds .any e = true → e.on < i) ∧
    ∀ i j oi oj, ops[i]? = some oi → ops[j]? = some oj → i ≠ j → ∀ d, oi.dst = some d → oj.dst ≠ some d ∧ (d ∈ oj.looksAt ops.toArray → (i < j ∧ ordAfter ops i j = true) ∨ (j < i ∧ ordAfter ops j i = true)) := by
  have memz : ∀ {i : Nat} {o : Oper}, ops[i]? = some o → (o, i) ∈ ops.zipIdx := fun {i o} hi => by
    rw [List.mem_zipIdx_iff_getElem?]; exact hi
  unfold okOrder at h
  simp only [Bool.and_eq_true, List.all_eq_true] at h
  obtain ⟨h1, h2⟩ := h
  constructor
  · intro i o hi e he hb
    have := h1 _ (memz hi)
    simp only [Array.all_eq_true_iff_forall_mem] at this
    have := this e (by simpa using he)
    rw [hb] at this
    simpa [Nat.blt_eq] using this
  · intro i j oi oj hi hj hne d hd
    have := h2 _ (memz hi) _ (memz hj)
    simp only [hd, Bool.or_eq_true, Bool.and_eq_true] at this
    rcases this with this | ⟨g1, g2⟩
    · exact absurd (Nat.eq_of_beq_eq_true this) hne
    · refine ⟨by simpa using g1, fun hm => ?_⟩
      rcases g2 with g2 | g2
      · simp [hm] at g2
      · cases hlt : Nat.blt i j with
        | true => rw [hlt] at g2; exact .inl ⟨by simpa [Nat.blt_eq] using hlt, g2⟩
        | false =>
          rw [hlt] at g2
          have : ¬ i < j := fun h => by rw [← Nat.blt_eq] at h; simp [h] at hlt
          exact .inr ⟨by omega, g2⟩

theorem ordAfter_spec {ops : List Oper} {i j : Nat} (h : ordAfter ops i j = true) : ∃ o, ops[j]? = some o ∧ ∃ e ∈ o.after.toList, Region.binds .any e = true ∧ e.on = i := by
  unfold ordAfter at h
  split at h
  · rename_i o ho
    refine ⟨o, ho, ?_⟩
    rw [← Array.any_toList, List.any_eq_true] at h
    obtain ⟨e, h1, h2⟩ := h
    simp only [Bool.and_eq_true] at h2
    exact ⟨e, h1, h2.1, Nat.eq_of_beq_eq_true h2.2⟩
  · cases h

theorem ready_spec {ops : Array Oper} {listed : Array Bool} {i : Nat} : i ∈ Region.ready .any ops listed ↔ i < ops.size ∧ listed.getD i true = false ∧ ∃ o, ops[i]? = some o ∧ ∀ e ∈ o.after.toList, Region.binds .any e = true → listed.getD e.on false = true := by
  unfold Region.ready
  simp only [List.mem_filter, List.mem_range, Bool.and_eq_true, Bool.not_eq_true']
  refine and_congr_right fun hi => and_congr_right fun _ => ?_
  rw [Array.getElem?_eq_getElem hi]
  simp only [Option.map_some, Option.getD_some, Option.some.injEq, exists_eq_left', ← Array.all_toList, List.all_eq_true, Bool.or_eq_true, Bool.not_eq_true']
  exact forall_congr' fun e => forall_congr' fun _ => by cases Region.binds .any e <;> simp

def unl (n : Nat) (listed : Array Bool) : Nat := ((List.range n).filter fun i => !listed.getD i true).length

theorem filter_le {p q : Nat → Bool} (hpq : ∀ j, q j = true → p j = true) : ∀ l : List Nat, (l.filter q).length ≤ (l.filter p).length
  | [] => Nat.le_refl _
  | x :: l => by
    have := filter_le hpq l
    simp only [List.filter_cons]
    cases hq : q x with
    | true => rw [hpq x hq]; simpa using this
    | false => cases p x <;> simp <;> omega
theorem filter_lt {p q : Nat → Bool} (hpq : ∀ j, q j = true → p j = true) {i : Nat} : ∀ {l : List Nat}, i ∈ l → p i = true → q i = false → (l.filter q).length < (l.filter p).length
  | x :: l, hm, hp, hq => by
    simp only [List.filter_cons]
    have hle := filter_le hpq l
    rcases List.mem_cons.1 hm with rfl | hm
    · rw [hp, hq]; simp; omega
    · have := filter_lt hpq hm hp hq
      cases hqx : q x with
      | true => rw [hpq x hqx]; simp; omega
      | false => cases p x <;> simp <;> omega

theorem least {p : Nat → Prop} [DecidablePred p] : ∀ n, (∃ i, i < n ∧ p i) → ∃ i, i < n ∧ p i ∧ ∀ j, j < i → ¬ p j := by
  intro n ⟨i, hi, hp⟩
  induction i using Nat.strongRecOn with
  | ind i ih =>
    by_cases hx : ∃ j, j < i ∧ p j
    · obtain ⟨j, hj, hpj⟩ := hx
      exact ih j hj (Nat.lt_trans hj hi) hpj
    · exact ⟨i, hi, hp, fun j hj hpj => hx ⟨j, hj, hpj⟩⟩

theorem any_wp (hmix : P.follows .mixedOrders = true) {id : Nat} {ops : Array Oper} {e e' : Env S} (hord : okOrder ops.toList = true) (h : QPath P un bx ops.toList ops.toList e e') {a : Act} {w : World} (hd : ∀ o ∈ ops.toList, ∀ d, o.dst = some d → d < N.n) (hs : Holds un E D0 N e bx a { w with drawn := w.drawn + 1 }) {Q : Exit → Act → World → Prop}
    (hk : ∀ a' w', Holds un E D0 N e' bx a' w' → Q .normal a' w') : (Code.region id ops true).wp P Q a w := by
  obtain ⟨hback, hpair⟩ := okOrder_spec hord
  refine wp_region_any hmix ?_
  have hin : ∀ {listed : Array Bool} {i : Nat}, listed.size = ops.size → i < ops.size → listed.getD i true = listed.getD i false := fun {listed i} hsz hi => by
    simp [Array.getD_eq_getD_getElem?, hsz, hi]
  have hget : ∀ {i : Nat} {o : Oper}, ops[i]? = some o → i < ops.size := fun h => (Array.getElem?_eq_some_iff.1 h).1
  have hlist : ∀ {i : Nat} {o : Oper}, ops[i]? = some o → ops.toList[i]? = some o := fun h => by simpa using h
  have noready : ∀ (listed : Array Bool), listed.size = ops.size → Region.ready .any ops listed = [] → ∀ i, i < ops.size → listed.getD i false = true := by
    intro listed hsz hr i hi
    cases hb : listed.getD i false with
    | true => rfl
    | false =>
      obtain ⟨k, h1, h2, h3⟩ := least (p := fun i => listed.getD i false = false) ops.size ⟨i, hi, hb⟩
      have : k ∈ Region.ready .any ops listed := ready_spec.2 ⟨h1, by rw [hin hsz h1]; exact h2, ops[k], by simp [h1], fun x hx hbx => by
        have hlt := hback k ops[k] (by simp [h1]) x hx hbx
        simpa using h3 _ hlt⟩
      rw [hr] at this; cases this
  have key : ∀ (fuel : Nat) (listed : Array Bool) (cur : Env S) (a : Act) (w : World), listed.size = ops.size → unl ops.size listed ≤ fuel →
      (∀ j o, ops[j]? = some o → listed.getD j false = true → ∀ x ∈ o.after.toList, Region.binds .any x = true → listed.getD x.on false = true) →
      (∀ s j o, ops[j]? = some o → o.dst = some s → listed.getD j false = true → look cur s = look e' s) →
      (∀ s, (∀ j o, ops[j]? = some o → o.dst = some s → listed.getD j false = false) → look cur s = look e s) →
      Holds un E D0 N cur bx a w → wpAny P .any ops Q fuel listed a w := by
    have fin : ∀ {listed : Array Bool} {cur : Env S} {a : Act} {w : World}, listed.size = ops.size → Region.ready .any ops listed = [] →
      (∀ s j o, ops[j]? = some o → o.dst = some s → listed.getD j false = true → look cur s = look e' s) →
      (∀ s, (∀ j o, ops[j]? = some o → o.dst = some s → listed.getD j false = false) → look cur s = look e s) →
      Holds un E D0 N cur bx a w → Q .normal a w := by
      intro listed cur a w hsz hr hL hU hH
      refine hk a w (hH.sub fun s p hp => ?_)
      by_cases hm : s ∈ dsts ops.toList
      · obtain ⟨j, o, h1, h2⟩ := mem_dsts.1 hm
        have h1' : ops[j]? = some o := by simpa using h1
        rw [hL s j o h1' h2 (noready _ hsz hr j (hget h1'))]; exact hp
      · rw [hU s fun j o h1 h2 => absurd (mem_dsts.2 ⟨j, o, hlist h1, h2⟩) hm, ← h.keep s hm]; exact hp
    intro fuel
    induction fuel with
    | zero =>
      intro listed cur a w hsz hf hc hL hU hH
      have hr : Region.ready .any ops listed = [] := by
        apply List.eq_nil_iff_forall_not_mem.2
        intro i hi
        obtain ⟨g1, g2, _⟩ := ready_spec.1 hi
        have : i ∈ (List.range ops.size).filter fun i => !listed.getD i true := by simp only [List.mem_filter, List.mem_range]; exact ⟨g1, by rw [g2]; rfl⟩
        have h0 : ((List.range ops.size).filter fun i => !listed.getD i true) = [] := List.length_eq_zero_iff.1 (Nat.le_zero.1 hf)
        rw [h0] at this; cases this
      exact ⟨hr, fin hsz hr hL hU hH⟩
    | succ fuel ih =>
      intro listed cur a w hsz hf hc hL hU hH
      refine ⟨fun hr => fin hsz hr hL hU hH, fun i hi => ?_⟩
      obtain ⟨g1, g2, o, g3, g4⟩ := ready_spec.1 hi
      have g2' : listed.getD i false = false := by rw [← hin hsz g1]; exact g2
      have hset : ∀ j, (listed.setIfInBounds i true).getD j false = if j = i then true else listed.getD j false := fun j => by
        simp only [Array.getD_eq_getD_getElem?, Array.getElem?_setIfInBounds]
        by_cases hji : i = j
        · subst hji; simp [hsz, g1]
        · rw [if_neg hji, if_neg (Ne.symm hji)]
      obtain ⟨ei, p, k1, k2, k3, k4⟩ := h.at i o (hlist g3)
      have hcur : ∀ s, s ∈ o.looksAt ops → look cur s = look ei s := by
        intro s hs
        by_cases hx : ∃ j oj, ops[j]? = some oj ∧ oj.dst = some s ∧ j ≠ i
        · obtain ⟨j, oj, q1, q2, q3⟩ := hx
          obtain ⟨_, q4⟩ := hpair j i oj o (hlist q1) (hlist g3) q3 s q2
          have uniq : ∀ j' oj', ops[j']? = some oj' → oj'.dst = some s → j' = j := fun j' oj' u1 u2 => by
            by_cases hne : j' = j
            · exact hne
            · exact absurd q2 (hpair j' j oj' oj (hlist u1) (hlist q1) hne s u2).1
          rcases q4 (by simpa using hs) with ⟨q5, q6⟩ | ⟨q5, q6⟩
          · obtain ⟨o', r1, x, r2, r3, r4⟩ := ordAfter_spec q6
            have : o' = o := by have := hlist g3; rw [r1] at this; cases this; rfl
            subst this
            have hlj : listed.getD j false = true := by rw [← r4]; exact g4 x r2 r3
            rw [hL s j oj q1 q2 hlj]
            refine (k2 s fun hm => ?_).symm
            obtain ⟨j', oj', u1, u2⟩ := mem_dsts.1 hm
            rw [List.getElem?_drop] at u1
            have := uniq _ oj' (by simpa using u1) u2
            omega
          · obtain ⟨o', r1, x, r2, r3, r4⟩ := ordAfter_spec q6
            have : o' = oj := by have := hlist q1; rw [r1] at this; cases this; rfl
            subst this
            have hlj : listed.getD j false = false := by
              cases hb : listed.getD j false with
              | false => rfl
              | true => have := hc j o' q1 hb x r2 r3; rw [r4, g2'] at this; cases this
            rw [hU s fun j' oj' u1 u2 => by rw [uniq j' oj' u1 u2]; exact hlj]
            refine (k1 s fun hm => ?_).symm
            obtain ⟨j', oj', u1, u2⟩ := mem_dsts.1 hm
            rw [List.getElem?_take] at u1
            split at u1
            · have := uniq _ oj' (by simpa using u1) u2; omega
            · cases u1
        · have hno : ∀ j oj, ops[j]? = some oj → oj.dst = some s → j = i := fun j oj u1 u2 => by
            by_cases hne : j = i
            · exact hne
            · exact absurd ⟨j, oj, u1, u2, hne⟩ hx
          rw [hU s fun j oj u1 u2 => by rw [hno j oj u1 u2]; exact g2']
          refine (k1 s fun hm => ?_).symm
          obtain ⟨j', oj', u1, u2⟩ := mem_dsts.1 hm
          rw [List.getElem?_take] at u1
          split at u1
          · have := hno _ oj' (by simpa using u1) u2; omega
          · cases u1
      have hdo : ∀ d, o.dst = some d → d < N.n := hd o (List.mem_of_getElem? (hlist g3))
      have hnext : ∀ a' w', Holds un E D0 N (push o.dst p cur) bx a' w' → wpAny P .any ops Q fuel (listed.setIfInBounds i true) a' w' := by
        intro a' w' hH'
        refine ih _ _ a' w' (by simpa using hsz) ?_ ?_ ?_ ?_ hH'
        · have : unl ops.size (listed.setIfInBounds i true) < unl ops.size listed := by
            unfold unl
            refine filter_lt (fun j hj => ?_) (List.mem_range.2 g1) (by rw [g2]; rfl) ?_
            · simp only [Array.getD_eq_getD_getElem?, Array.getElem?_setIfInBounds] at hj ⊢
              split at hj
              · split at hj <;> simp at hj
              · exact hj
            · simp [Array.getD_eq_getD_getElem?, hsz, g1]
          omega
        · intro j oj u1 u2 x u3 u4
          rw [hset] at u2 ⊢
          split at u2
          · rename_i hji; subst hji
            rw [g3] at u1; cases u1
            rw [g4 x u3 u4]; split <;> rfl
          · rw [hc j oj u1 u2 x u3 u4]; split <;> rfl
        · intro s j oj u1 u2 u3
          rw [hset] at u3
          by_cases hji : j = i
          · subst hji
            rw [g3] at u1; cases u1
            rw [k4 s u2 fun hm => by
              obtain ⟨j', oj', v1, v2⟩ := mem_dsts.1 hm
              rw [List.getElem?_drop] at v1
              exact absurd v2 (hpair j (j + 1 + j') o oj' (hlist g3) v1 (by omega) s u2).1]
            rw [u2]; simp [push, look]
          · rw [if_neg hji] at u3
            have hne : o.dst ≠ some s := fun hx => (hpair j i oj o (hlist u1) (hlist g3) hji s u2).1 hx
            rw [look_push_ne hne]; exact hL s j oj u1 u2 u3
        · intro s hall
          have hne : o.dst ≠ some s := fun hx => by have := hall i o g3 hx; rw [hset, if_pos rfl] at this; cases this
          rw [look_push_ne hne]
          exact hU s fun j oj u1 u2 => by
            have := hall j oj u1 u2; rw [hset] at this
            split at this
            · cases this
            · exact this
      unfold wpOp
      rw [g3]
      simp only
      have k3' := k3.congr (e2 := cur) (fun s hs => hcur s (by simpa using hs))
      rcases k3' with ⟨hg, hgv⟩ | ⟨⟨d, want, m1, m2⟩, m3⟩
      · have hw : Region.wanted o (yielded ops a.tmps) = true := by
          rcases hg with hg | ⟨d, want, m1, m2⟩
          · simp [Region.wanted, hg]
          · simpa using wanted_yes m1 hH m2
        rw [if_pos hw]
        exact .inl (gives_step (hgv.sub (restr_sub _ _)) hdo hH hnext)
      · have hw : Region.wanted o (yielded ops a.tmps) = false := by simpa using wanted_no m1 hH m2
        rw [hw, if_neg (by simp)]
        subst m3
        exact hnext _ _ (hH.undef hdo)
  refine key ops.size _ e a _ (by simp) ?_ ?_ ?_ ?_ hs
  · exact Nat.le_trans (List.length_filter_le _ _) (by simp)
  · intro j o _ hj; simp [Array.getD_eq_getD_getElem?, Array.getElem?_replicate] at hj; split at hj <;> simp at hj
  · intro s j o _ _ hj; simp [Array.getD_eq_getD_getElem?, Array.getElem?_replicate] at hj; split at hj <;> simp at hj
  · intro s _; rfl
end
end Pe
end
section
/- A region whose operations write, in any order. -/
namespace Pe
open Go Go.RowKit
variable {S : Nat → Type}
theorem same_some {R : Type} {x y : Option R} {r : R} (h : same x y = some r) : x = some r ∧ y = some r := by
  unfold same at h
  split at h
  · rename_i hxy; subst hxy; exact ⟨h, h⟩
  · cases h
theorem same_self {R : Type} (x : Option R) : same x x = x := by unfold same; rw [if_pos rfl]
theorem sameL_some {R : Type} {r : R} : ∀ {l : List (Option R)}, sameL l = some r → ∀ x ∈ l, x = some r
  | [], _, x, hx => by cases hx
  | [y], h, x, hx => by simp only [List.mem_singleton] at hx; subst hx; exact h
  | x :: y :: l, h, z, hz => by
    obtain ⟨h1, h2⟩ := same_some h
    rcases List.mem_cons.1 hz with rfl | hz
    · exact h1
    · exact sameL_some h2 z hz
section
variable {P : Program} {un : Uni S} {tb : Tb S} {orc : Orc S} {inl : Inl S} {E : Wl.Ctx} {D0 : Dat} {N : Wl.Fr} {R : Type} {r : R} {Q : Exit → Act → World → Prop}

theorem execAny_wp (hun : UniOk un) (ht : TbOk P un tb) (hor : SoundO P un orc) (hin : SoundI P un inl) {ops : Array Oper} {KX : Exit → Env S → Bxs S → Option R} {K : Env S → Bxs S → Option R} (hd : ∀ o ∈ ops.toList, ∀ d, o.dst = some d → d < N.n) :
    ∀ (n : Nat) (listed : Array Bool) (e : Env S) (bx : Bxs S) {a : Act} {w : World}, execAny un tb orc inl ops KX n listed e bx K = some r → Holds un E D0 N e bx a w →
      (∀ e' bx', K e' bx' = some r → Pres (dsts ops.toList) e e' → PresB bx bx' → ∀ a' w', Holds un E D0 N e' bx' a' w' → Q .normal a' w') →
      (∀ x e' bx', KX x e' bx' = some r → Pres (dsts ops.toList) e e' → PresB bx bx' → ∀ a' w', Holds un E D0 N e' bx' a' w' → Q x a' w') → wpAny P .any ops Q n listed a w := by
  intro n
  induction n with
  | zero =>
    intro listed e bx a w h hs hk hkx
    unfold execAny at h
    split at h
    · rename_i hr; exact ⟨hr, hk e bx h (Pres.refl _ _) (PresB.refl _) a w hs⟩
    · cases h
  | succ n ih =>
    intro listed e bx a w h hs hk hkx
    unfold execAny at h
    split at h
    · rename_i hr; exact ⟨fun _ => hk e bx h (Pres.refl _ _) (PresB.refl _) a w hs, fun i hi => (by rw [hr] at hi; cases hi)⟩
    · rename_i i0 l0 hr
      refine ⟨fun hn => (by rw [hr] at hn; cases hn), fun i hi => ?_⟩
      rw [hr] at hi
      have h1 := sameL_some h _ (List.mem_map.2 ⟨i, hi, rfl⟩)
      unfold wpOp
      split at h1
      · rename_i o ho
        split at h1
        · rename_i hg
          rw [ho]
          simp only
          have hom : o ∈ ops.toList := by
            have := (Array.getElem?_eq_some_iff.1 ho)
            obtain ⟨hlt, rfl⟩ := this
            simp
          rw [if_pos (by simp [Region.wanted, hg])]
          left
          have hdst : ∀ i ∈ o.dst.toList, i ∈ dsts ops.toList := fun i hi => by
            simp only [dsts, List.mem_filterMap]
            exact ⟨o, hom, by simpa using hi⟩
          refine popK_wp hun ht hor hin h1 (hd o hom) hs (fun p e1 bx1 h2 hp hb a' w' h3 => ?_) fun x e' bx' h2 hp hb => hkx x e' bx' h2 (hp.mono fun i hi => by cases hi) hb
          have pr : ∀ e2, Pres (dsts ops.toList) (push o.dst p e1) e2 → Pres (dsts ops.toList) e e2 := fun e2 hp2 => by
            refine ((hp.trans (Pres.push [] e1 o.dst p)).trans hp2).mono fun i hi => ?_
            simp only [List.nil_append, List.mem_append] at hi
            rcases hi with hi | hi
            · exact hdst i hi
            · exact hi
          exact ih _ _ _ h2 h3 (fun e2 bx2 h4 hp2 hb2 a2 w2 h5 => hk e2 bx2 h4 (pr e2 hp2) (hb.trans hb2) a2 w2 h5) fun x e2 bx2 h4 hp2 hb2 a2 w2 h5 => hkx x e2 bx2 h4 (pr e2 hp2) (hb.trans hb2) a2 w2 h5
        · cases h1
      · cases h1

theorem bbeq_true {v want : Bool} (h : bbeq v want = true) : v = want := by cases v <;> cases want <;> simp_all [bbeq]
theorem bbeq_false {v want : Bool} (h : bbeq v want = false) : v = !want := by cases v <;> cases want <;> simp_all [bbeq]
/-- After each operation the known guards are known still. -/
theorem Known.kill {kn : List (Nat × Bool)} {e e' : Env S} (h : Known kn e) (hp : Pres [] e e') : Known kn e' := fun d v hv => hp d _ (by simp) (h d v hv) rfl

theorem execG_wp (hun : UniOk un) (ht : TbOk P un tb) (hor : SoundO P un orc) (hin : SoundI P un inl) {ops : List Oper} {KX : Exit → Env S → Bxs S → Option R} : ∀ (n : Nat) (kn : List (Nat × Bool)) (l : List Oper) (e : Env S) (bx : Bxs S) (K : Env S → Bxs S → Option R) {a : Act} {w : World}, execG un tb orc inl ops KX n kn l e bx K = some r → Known kn e → (∀ o ∈ l, ∀ d, o.dst = some d → d < N.n) → Holds un E D0 N e bx a w →
    (∀ e' bx', K e' bx' = some r → Pres (dsts l) e e' → PresB bx bx' → ∀ a' w', Holds un E D0 N e' bx' a' w' → Q .normal a' w') →
    (∀ x e' bx', KX x e' bx' = some r → Pres (dsts l) e e' → PresB bx bx' → ∀ a' w', Holds un E D0 N e' bx' a' w' → Q x a' w') → wpList P ops.toArray Q l a w := by
  intro n
  induction n with
  | zero =>
    intro kn l e bx K a w h hkn hd hs hk hkx
    cases l with
    | nil => simp only [execG] at h; exact wpList_nil (hk e bx h (Pres.refl _ _) (PresB.refl _) a w hs)
    | cons o l => simp [execG] at h
  | succ n ih =>
    intro kn l e bx K a w h hkn hd hs hk hkx
    cases l with
    | nil => simp only [execG] at h; exact wpList_nil (hk e bx h (Pres.refl _ _) (PresB.refl _) a w hs)
    | cons o l =>
      have hmem : ∀ i, i ∈ dsts l → i ∈ dsts (o :: l) := fun i hi => by
        simp only [dsts, List.filterMap_cons]
        cases o.dst <;> simp [dsts] at hi ⊢
        · exact hi
        · exact .inr hi
      have pr : ∀ {e1 e2 : Env S} {p : PV S}, Pres [] e e1 → Pres (dsts l) (push o.dst p e1) e2 → Pres (dsts (o :: l)) e e2 := fun {e1 e2 p} hp hp2 => by
        refine ((hp.trans (Pres.push [] e1 o.dst p)).trans hp2).mono fun i hi => ?_
        simp only [List.nil_append, List.mem_append] at hi
        rcases hi with hi | hi
        · simp only [dsts, List.filterMap_cons]
          cases ho : o.dst <;> rw [ho] at hi <;> simp at hi ⊢
          exact .inl hi
        · exact hmem i hi
      have run : popK un tb orc inl o e bx (fun p e' bx' => execG un tb orc inl ops KX n (dropK o.dst kn) l (push o.dst p e') bx' K) KX = some r → Region.wanted o (yielded ops.toArray a.tmps) = true → wpList P ops.toArray Q (o :: l) a w := by
        intro h hw
        refine wpList_step fun K' hK' => ?_
        rw [if_pos hw]
        exact popK_wp hun ht hor hin h (hd o (by simp)) hs (fun p e1 bx1 h1 hp hb a' w' h2 => hK' a' w' (ih _ l _ _ K h1 ((hkn.kill hp).push o.dst p) (fun o ho => hd o (by simp [ho])) h2 (fun e2 bx2 h3 hp2 hb2 a2 w2 h4 => hk e2 bx2 h3 (pr hp hp2) (hb.trans hb2) a2 w2 h4) fun x e2 bx2 h3 hp2 hb2 a2 w2 h4 => hkx x e2 bx2 h3 (pr hp hp2) (hb.trans hb2) a2 w2 h4))
          fun x e' bx' h1 hp hb => hkx x e' bx' h1 (hp.mono fun i hi => by cases hi) hb
      have shut : execG un tb orc inl ops KX n (dropK o.dst kn) l (push o.dst undefV e) bx K = some r → Region.wanted o (yielded ops.toArray a.tmps) = false → wpList P ops.toArray Q (o :: l) a w := by
        intro h hw
        refine wpList_step fun K' hK' => ?_
        rw [hw, if_neg (by simp)]
        exact hK' _ _ (ih _ l _ _ K h (hkn.push o.dst undefV) (fun o ho => hd o (by simp [ho])) (hs.undef (hd o (by simp))) (fun e2 bx2 h3 hp2 hb2 a2 w2 h4 => hk e2 bx2 h3 (pr (Pres.refl _ _) hp2) hb2 a2 w2 h4) fun x e2 bx2 h3 hp2 hb2 a2 w2 h4 => hkx x e2 bx2 h3 (pr (Pres.refl _ _) hp2) hb2 a2 w2 h4)
      unfold execG at h
      split at h
      · rename_i hg; exact run h (by simp [Region.wanted, hg])
      · split at h
        · cases h
        · rename_i d want hgs
          split at h
          · rename_i v hv
            have hlk := hkn d v hv
            cases hb : bbeq v want with
            | true =>
              rw [hb] at h
              have := bbeq_true hb; subst this
              exact run h (by simpa using wanted_yes hgs hs hlk)
            | false =>
              rw [hb] at h
              have := bbeq_false hb; subst this
              exact shut h (by simpa using wanted_no hgs hs (.inl hlk))
          · split at h
            · rename_i hlk; exact shut h (by simpa using wanted_no hgs hs (.inr hlk))
            · rename_i b hlk
              have one : ∀ b', b = b' → execG un tb orc inl ops KX n ((d, b') :: kn) (o :: l) ((d, .bool b') :: e) bx K = some r → wpList P ops.toArray Q (o :: l) a w := by
                rintro b' rfl h
                have hsub : Sub ((d, .bool b) :: e) e := by
                  intro i p hp
                  simp only [look] at hp
                  cases hb : Nat.beq d i with
                  | true => rw [hb] at hp; simp at hp; subst hp; rw [← Nat.eq_of_beq_eq_true hb]; exact hlk
                  | false => rw [hb] at hp; exact hp
                have hpr : ∀ {e2 : Env S}, Pres (dsts (o :: l)) ((d, .bool b) :: e) e2 → Pres (dsts (o :: l)) e e2 := fun {e2} hp i p hi hl hr => by
                  refine hp i p hi ?_ hr
                  simp only [look]
                  cases hb : Nat.beq d i with
                  | true => have := Nat.eq_of_beq_eq_true hb; subst this; rw [hlk] at hl; exact hl
                  | false => exact hl
                refine ih _ _ _ _ K h (fun i u hu => ?_) hd (hs.sub hsub) (fun e2 bx2 h3 hp2 hb2 a2 w2 h4 => hk e2 bx2 h3 (hpr hp2) hb2 a2 w2 h4) fun x e2 bx2 h3 hp2 hb2 a2 w2 h4 => hkx x e2 bx2 h3 (hpr hp2) hb2 a2 w2 h4
                simp only [lookK, look] at hu ⊢
                cases hb : Nat.beq d i with
                | true => rw [hb] at hu; simp at hu; subst hu; rfl
                | false => rw [hb] at hu; exact hkn i u hu
              rcases br_some h with ⟨hb, h⟩ | ⟨hb, h⟩
              · exact one true hb h
              · exact one false hb h
            · cases h

/-! silent operations ahead -/
theorem ev_congr {e e2 : Env S} {x : Operand} (h : ∀ t, x = .tmp t → look e2 t = look e t) : ev e2 x = ev e x := by
  cases x with
  | tmp t => exact h t rfl
  | _ => rfl
theorem evs_congr {e e2 : Env S} : ∀ {l : List Operand}, (∀ x ∈ l, ∀ t, x = .tmp t → look e2 t = look e t) → evs e2 l = evs e l
  | [], _ => rfl
  | x :: r, h => by
    simp only [evs]
    rw [ev_congr (h x (by simp)), evs_congr fun y hy => h y (by simp [hy])]
theorem partsOf_congr {e e2 : Env S} : ∀ {l : List (Nat × Operand)}, (∀ x ∈ l, ∀ t, x.2 = .tmp t → look e2 t = look e t) → partsOf e2 l = partsOf e l
  | [], _ => rfl
  | (i, x) :: r, h => by
    simp only [partsOf]
    rw [ev_congr (h (i, x) (by simp)), partsOf_congr fun y hy => h y (by simp [hy])]
theorem enters_congr {e e2 : Env S} {c : Call} (h : ∀ x ∈ c.operands.toList, ∀ t, x = .tmp t → look e2 t = look e t) : enters e2 c = enters e c := by
  unfold enters
  cases hc : c.callee with
  | value f =>
    simp only
    rw [ev_congr (h f (by simp [Call.operands, hc])), evs_congr fun x hx => h x (by simp [Call.operands, hc]; exact .inr (by simpa using hx))]
  | _ => rfl
theorem popQ0_congr {o : Oper} {e e2 : Env S} {bx : Bxs S} {K : PV S → Option R} (hW : ∀ x ∈ o.op.operands.toList, ∀ t, x = .tmp t → look e2 t = look e t) : popQ0 un tb orc inl o e2 bx K = popQ0 un tb orc inl o e bx K := by
  unfold popQ0
  cases ho : o.op <;> rw [ho] at hW <;> simp only [Op.operands] at hW <;> try rfl
  case move x => simp only [ev_congr (hW x (by simp))]
  case assign x => simp only [ev_congr (hW x (by simp))]
  case pick c x y => simp only [ev_congr (hW c (by simp)), ev_congr (hW x (by simp)), ev_congr (hW y (by simp))]
  case build t ps => simp only [partsOf_congr (e := e) (e2 := e2) (l := ps.toList) fun x hx => hW x.2 (by simp only [Array.mem_toList_iff, List.mem_map]; simpa using ⟨x.1, by simpa using hx⟩)]
  case load t x => simp only [ev_congr (hW x (by simp))]
  case nilCheck x => simp only [ev_congr (hW x (by simp))]
  case binOp op t x y t' => simp only [ev_congr (hW x (by simp)), ev_congr (hW y (by simp))]
  case unOp op t x => cases op <;> simp only [ev_congr (hW x (by simp))]
  case makeInterface t x => simp only [ev_congr (hW x (by simp))]
  case makeFunc fn first cap => simp only [evs_congr (e := e) (e2 := e2) (l := first.toList) fun x hx => hW x (by simp; exact .inl (by simpa using hx)), evs_congr (e := e) (e2 := e2) (l := cap.toList) fun x hx => hW x (by simp; exact .inr (by simpa using hx))]
  case slice t x lo hi mx =>
    cases mx with
    | some _ => rfl
    | none =>
      simp only [ev_congr (hW x (by simp))]
      cases lo <;> cases hi <;> simp only []
      · rename_i y; rw [ev_congr (hW y (by simp))]
      · rename_i y; rw [ev_congr (hW y (by simp))]
      · rename_i y z; rw [ev_congr (hW y (by simp)), ev_congr (hW z (by simp))]
  case fieldAddr s x f => simp only [ev_congr (hW x (by simp))]
  case indexAddr t x i => simp only [ev_congr (hW x (by simp)), ev_congr (hW i (by simp))]
  case index t x i => simp only [ev_congr (hW x (by simp)), ev_congr (hW i (by simp))]
  case extract x i => simp only [ev_congr (hW x (by simp))]
  case call c =>
    have h1 : evs e2 c.args.toList = evs e c.args.toList := evs_congr fun x hx => hW x (by simp [Call.operands]; exact .inr (by simpa using hx))
    have h2 : enters e2 c = enters e c := enters_congr hW
    simp only [h1, h2]

theorem popQ_congr {o : Oper} {e e2 : Env S} {bx : Bxs S} {K : PV S → Option R} (hW : ∀ x ∈ o.op.operands.toList, ∀ t, x = .tmp t → look e2 t = look e t) : popQ un tb orc inl o e2 bx K = popQ un tb orc inl o e bx K := by
  have h0 := popQ0_congr (un := un) (tb := tb) (orc := orc) (inl := inl) (bx := bx) (K := K) hW
  have hv : ∀ x, x ∈ o.op.operands.toList → ev e2 x = ev e x := fun x hx => ev_congr (hW x hx)
  have hvs : ∀ c, o.op = .call c → evs e2 c.args.toList = evs e c.args.toList := fun c hc => evs_congr fun x hx => hW x (by rw [hc]; simp [Op.operands, Call.operands]; exact .inr (by simpa using hx))
  unfold popQ
  cases ho : o.op with
  | indexAddr t x i => simp only [hv x (by simp [ho, Op.operands]), hv i (by simp [ho, Op.operands]), h0]
  | fieldAddr s x f => simp only [hv x (by simp [ho, Op.operands]), h0]
  | nilCheck x => simp only [hv x (by simp [ho, Op.operands]), h0]
  | load t x => simp only [hv x (by simp [ho, Op.operands]), h0]
  | lookup t m x ok => simp only [hv m (by simp [ho, Op.operands]), hv x (by simp [ho, Op.operands])]
  | convert s d x => simp only [hv x (by simp [ho, Op.operands])]
  | call c => simp only [hvs c ho, h0]
  | _ => exact h0

/-- The rows that an operation lets go on, or that it takes. -/
def killOf0 (o : Oper) (e : Env S) (bx : Bxs S) : List (Nat × PV S) := match o.op with
  | .call c => match c.callee with
    | .builtin .append => match evs e c.args.toList with
      | some [.row b, _] => match getB bx b with
        | some (.own v _ old) => [(b, .sl v old)]
        | _ => []
      | _ => []
    | _ => []
  | _ => []
def killOf (tb : Tb S) (o : Oper) (e : Env S) (bx : Bxs S) : List (Nat × PV S) := match o.op with
  | .slice _ x _ _ none => match ev e x with
    | some (.row b) => match getB bx b with
      | some (.wr _ _ _) => [(b, .junk)]
      | _ => []
    | _ => []
  | .call c => match c.callee with
    | .builtin .append => match evs e c.args.toList with
      | some [.row b, x] => match getB (freezeB (rowsP x) bx) b with
        | some (.own v _ old) => [(b, .sl v old)]
        | some (.wr _ _ _) => [(b, .junk)]
        | _ => []
      | _ => []
    | .value _ => match enters e c with
      | some (f, l) => match tb.sig.get f with
        | some (.lin g) => (match argCells (nub [] (refsL l)) g.as l, varsOf bx ((nub [] (refsL l)).zip (g.bs.map (·.2.2))) with
          | some ps, some qs => takenL (freezeB (frs g.ins (qs ++ ps)) bx) g.ins (qs ++ ps)
          | _, _ => [])
        | _ => []
      | none => []
    | _ => []
  | _ => []
open Classical in
theorem popK0_congr {o : Oper} {e e2 : Env S} {bx : Bxs S} {K : PV S → Env S → Bxs S → Option R} {KX : Exit → Env S → Bxs S → Option R} (hW : ∀ x ∈ o.op.operands.toList, ∀ t, x = .tmp t → look e2 t = look e t) (h : popK0 un tb orc inl o e bx K KX = some r) :
    popK0 un tb orc inl o e2 bx (fun p e' bx' => if e' = takeE (killOf0 o e bx) e2 then K p (takeE (killOf0 o e bx) e) bx' else none) (fun x e' bx' => if e' = e2 then KX x e bx' else none) = some r := by
  have quiet : killOf0 o e bx = [] → popQ un tb orc inl o e bx (fun p => K p e bx) = some r → popQ un tb orc inl o e2 bx (fun p => if e2 = takeE (killOf0 o e bx) e2 then K p (takeE (killOf0 o e bx) e) bx else none) = some r := by
    intro hk h
    rw [popQ_congr hW]
    simp only [hk, takeE, if_true]
    exact h
  unfold popK0 at h ⊢
  split at h
  · rename_i T ho
    have hk : killOf0 o e bx = [] := by unfold killOf0; rw [ho]
    simp only [hk, takeE, if_true]
    exact h
  · rename_i T x ho
    have hk : killOf0 o e bx = [] := by unfold killOf0; rw [ho]
    rw [ho] at hW; simp only [Op.operands] at hW
    simp only [hk, takeE, if_true, ev_congr (hW x (by simp))]
    exact h
  · rename_i t x y ho
    have hk : killOf0 o e bx = [] := by unfold killOf0; rw [ho]
    rw [ho] at hW; simp only [Op.operands] at hW
    simp only [hk, takeE, if_true, ev_congr (hW x (by simp)), ev_congr (hW y (by simp))]
    exact h
  · rename_i t n ps ho
    have hk : killOf0 o e bx = [] := by unfold killOf0; rw [ho]
    rw [ho] at hW; simp only [Op.operands] at hW
    simp only [hk, takeE, if_true, partsOf_congr (e := e) (e2 := e2) (l := ps.toList) fun x hx => hW x.2 (by simp only [Array.mem_toList_iff, List.mem_map]; simpa using ⟨x.1, by simpa using hx⟩)]
    exact h
  · rename_i c ho
    have hW0 := hW
    rw [ho] at hW; simp only [Op.operands] at hW
    have h1 : evs e2 c.args.toList = evs e c.args.toList := evs_congr fun x hx => hW x (by simp [Call.operands]; exact .inr (by simpa using hx))
    have h2 : enters e2 c = enters e c := enters_congr hW
    simp only [h1, h2]
    split at h
    · rename_i hc
      try simp only [hc]
      split at h
      · rename_i s x t hargs htw
        try simp only [hargs, htw]
        split at h
        · cases h
        · rename_i T u hel
          try simp only [hel]
          split at h
          · rename_i new hnew
            try simp only [hnew]
            split at h
            · have hk : killOf0 o e bx = [] := by unfold killOf0; rw [ho]; simp [hc, hargs]
              simp only [hk, takeE, if_true]
              exact h
            · rename_i b
              split at h
              · rename_i v T' old hg
                try simp only [hg]
                have hk : killOf0 o e bx = [(b, .sl v old)] := by unfold killOf0; rw [ho]; simp [hc, hargs, hg]
                simp only [hk, takeE, if_true]
                exact h
              · cases h
            · cases h
          · cases h
      · cases h
    · rename_i f hc
      have hk : killOf0 o e bx = [] := by unfold killOf0; rw [ho]; simp [hc]
      split at h
      · rename_i f l hen
        try simp only [hc]
        try simp only [hen]
        split at h
        · rename_i us ts lc rs ps pan hsig
          simp only [hk, takeE, effCall, if_true] at h ⊢
          exact h
        · rename_i fn an ts lc rs ps pan hsig
          simp only [hk, takeE, effCall, if_true] at h ⊢
          exact h
        · rename_i hn1 hn2
          have := quiet hk h
          first
            | exact this
            | (split
               · rename_i hsig; exact absurd hsig (hn1 _ _ _ _ _ _)
               · rename_i hsig; exact absurd hsig (hn2 _ _ _ _ _ _ _)
               · exact this)
      · cases h
    · rename_i hn1 hn2
      have hk : killOf0 o e bx = [] := by
        unfold killOf0; rw [ho]
        first
          | rfl
          | (simp only []; done)
          | (split <;> first | rfl | (rename_i hcc; exact absurd hcc hn1))
      have := quiet hk h
      first
        | exact this
        | (split
           · rename_i hcc; exact absurd hcc hn1
           · rename_i hcc; exact absurd hcc (hn2 _)
           · exact this)
  · rename_i x ho
    rw [ho] at hW; simp only [Op.operands] at hW
    simp only [if_true, ev_congr (hW x (by simp))]
    exact h
  · rename_i n1 n2 n3 n4 n5 n6
    have hk : killOf0 o e bx = [] := by
      unfold killOf0
      first
        | rfl
        | (split
           · rename_i hcc; exact absurd hcc (n5 _)
           · rfl)
    have := quiet hk h
    first
      | exact this
      | (split
         · rename_i hcc; exact absurd hcc (n1 _)
         · rename_i hcc; exact absurd hcc (n2 _ _)
         · rename_i hcc; exact absurd hcc (n3 _ _ _)
         · rename_i hcc; exact absurd hcc (n4 _ _ _)
         · rename_i hcc; exact absurd hcc (n5 _)
         · rename_i hcc; exact absurd hcc (n6 _)
         · exact this)

def killX (tb : Tb S) (o : Oper) (e : Env S) (bx : Bxs S) : List (Nat × PV S) := match o.op with
  | .call c => match c.callee with
    | .value _ => killOf tb o e bx
    | _ => []
  | _ => []
open Classical in
theorem popK_congr {o : Oper} {e e2 : Env S} {bx : Bxs S} {K : PV S → Env S → Bxs S → Option R} {KX : Exit → Env S → Bxs S → Option R} (hW : ∀ x ∈ o.op.operands.toList, ∀ t, x = .tmp t → look e2 t = look e t) (h : popK un tb orc inl o e bx K KX = some r) :
    popK un tb orc inl o e2 bx (fun p e' bx' => if e' = takeE (killOf tb o e bx) e2 then K p (takeE (killOf tb o e bx) e) bx' else none) (fun x e' bx' => if e' = takeE (killX tb o e bx) e2 then KX x (takeE (killX tb o e bx) e) bx' else none) = some r := by
  have hv : ∀ x, x ∈ o.op.operands.toList → ev e2 x = ev e x := fun x hx => ev_congr (hW x hx)
  have hvs : ∀ c, o.op = .call c → evs e2 c.args.toList = evs e c.args.toList := fun c hc => evs_congr fun x hx => hW x (by rw [hc]; simp [Op.operands, Call.operands]; exact .inr (by simpa using hx))
  have hen : ∀ c, o.op = .call c → enters e2 c = enters e c := fun c hc => enters_congr (by rw [hc] at hW; exact hW)
  have old : ∀ l, killOf tb o e bx = killOf0 o e (freezeB l bx) → killX tb o e bx = [] → popK0 un tb orc inl o e (freezeB l bx) K KX = some r → popK0 un tb orc inl o e2 (freezeB l bx) (fun p e' bx' => if e' = takeE (killOf tb o e bx) e2 then K p (takeE (killOf tb o e bx) e) bx' else none) (fun x e' bx' => if e' = takeE (killX tb o e bx) e2 then KX x (takeE (killX tb o e bx) e) bx' else none) = some r := fun l hk hx h => by
    rw [hk, hx]; exact popK0_congr hW h
  have quiet : killOf tb o e bx = [] → popQ un tb orc inl o e bx (fun p => K p e bx) = some r → popQ un tb orc inl o e2 bx (fun p => if e2 = takeE (killOf tb o e bx) e2 then K p (takeE (killOf tb o e bx) e) bx else none) = some r := by
    intro hk h
    rw [popQ_congr hW]
    simp only [hk, takeE, if_true]
    exact h
  have mset : ∀ t m x y, killOf tb o e bx = [] → m ∈ o.op.operands.toList → x ∈ o.op.operands.toList → y ∈ o.op.operands.toList → mapSet un tb e bx t m x y K = some r → mapSet un tb e2 bx t m x y (fun p e' bx' => if e' = takeE (killOf tb o e bx) e2 then K p (takeE (killOf tb o e bx) e) bx' else none) = some r := by
    intro t m x y hk h1 h2 h3 h
    unfold mapSet at h ⊢
    simp only [hv m h1, hv x h2, hv y h3, hk, takeE, if_true]
    exact h
  unfold popK at h ⊢
  cases ho : o.op with
  | makeMap t rs =>
    rw [ho] at h
    have hk : killOf tb o e bx = [] := by unfold killOf; rw [ho]
    have hx : killX tb o e bx = [] := by unfold killX; rw [ho]
    cases rs with
    | none => simp only [hk, takeE, if_true] at h ⊢; exact h
    | some v => exact old [] (by rw [hk]; unfold killOf0; rw [ho]) hx h
  | mapUpdate t m x y =>
    rw [ho] at h
    have hk : killOf tb o e bx = [] := by unfold killOf; rw [ho]
    exact mset t m x y hk (by simp [ho, Op.operands]) (by simp [ho, Op.operands]) (by simp [ho, Op.operands]) h
  | insert t m x y =>
    rw [ho] at h
    have hk : killOf tb o e bx = [] := by unfold killOf; rw [ho]
    exact mset t m x y hk (by simp [ho, Op.operands]) (by simp [ho, Op.operands]) (by simp [ho, Op.operands]) h
  | makeSlice t n c =>
    rw [ho] at h
    have hk : killOf tb o e bx = [] := by unfold killOf; rw [ho]
    simp only [hv n (by simp [ho, Op.operands]), hv c (by simp [ho, Op.operands]), hk, takeE, if_true] at h ⊢
    exact h
  | convert sx d x =>
    rw [ho] at h
    have hk : killOf tb o e bx = [] := by unfold killOf; rw [ho]
    have hq := quiet hk
    simp only [hv x (by simp [ho, Op.operands])] at h ⊢
    split at h
    · split at h
      · simp only [hk, takeE, if_true]; exact h
      · exact hq h
    · exact hq h
  | store t x y =>
    rw [ho] at h
    have hk : killOf tb o e bx = [] := by unfold killOf; rw [ho]
    have hx : killX tb o e bx = [] := by unfold killX; rw [ho]
    have hold := old [] (by rw [hk]; unfold killOf0; rw [ho]) hx
    simp only [hv x (by simp [ho, Op.operands]), hv y (by simp [ho, Op.operands])] at h ⊢
    split at h
    · simp only [hk, takeE, if_true] at h ⊢; exact h
    · exact hold h
  | buildSlice t n ps =>
    rw [ho] at h
    have hk : killOf tb o e bx = [] := by unfold killOf; rw [ho]
    have hx : killX tb o e bx = [] := by unfold killX; rw [ho]
    have hold := old [] (by rw [hk]; unfold killOf0; rw [ho]) hx
    have hp : partsOf e2 ps.toList = partsOf e ps.toList := partsOf_congr fun x hx => hW x.2 (by rw [ho]; simp only [Op.operands, Array.mem_toList_iff]; simpa using ⟨x.1, by simpa using hx⟩)
    cases hlin : linDst tb o with
    | false => simp only [hlin, cond_false] at h ⊢; exact hold h
    | true => simp only [hlin, cond_true, hp, hk, takeE, if_true] at h ⊢; exact h
  | slice t x lo hi mx =>
    rw [ho] at h
    have hx0 : killX tb o e bx = [] := by unfold killX; rw [ho]
    cases mx with
    | some m => exact old [] (by unfold killOf killOf0; rw [ho]) hx0 h
    | none =>
      have hvx := hv x (by simp [ho, Op.operands])
      have hlo : (match lo with | some a => ev e2 a | none => some (PV.int .i64 0)) = (match lo with | some a => ev e a | none => some (PV.int .i64 0)) := by
        cases lo with
        | none => rfl
        | some y => exact hv y (by cases hi <;> simp [ho, Op.operands])
      have hhi : ∀ d : PV S, (match hi with | some a => ev e2 a | none => some d) = (match hi with | some a => ev e a | none => some d) := by
        intro d
        cases hi with
        | none => rfl
        | some y => exact hv y (by cases lo <;> simp [ho, Op.operands])
      simp only [hvx, hlo, hhi] at h ⊢
      cases hxx : ev e x with
      | none =>
        rw [hxx] at h
        exact old [] (by unfold killOf killOf0; rw [ho]; simp only [hxx]) hx0 h
      | some p =>
        rw [hxx] at h
        cases p with
        | row b =>
          simp only at h ⊢
          split at h
          · rename_i u T l row hg hrow
            have hk : killOf tb o e bx = [(b, .junk)] := by unfold killOf; rw [ho]; simp only [hxx, hg]
            simp only [hk, takeE, if_true] at h ⊢
            have hlo' : ∀ y, lo = some y → ev e2 y = ev e y := fun y hy => hv y (by subst hy; cases hi <;> simp [ho, Op.operands])
            have hhi' : ∀ y, hi = some y → ev e2 y = ev e y := fun y hy => hv y (by subst hy; cases lo <;> simp [ho, Op.operands])
            cases lo with
            | none => cases hi with
              | none => exact h
              | some z => simp only [hhi' z rfl]; exact h
            | some y => cases hi with
              | none => simp only [hlo' y rfl]; exact h
              | some z => simp only [hlo' y rfl, hhi' z rfl]; exact h
          · rename_i hno
            by_cases hw : ∃ u T l, getB bx b = some (.wr u T l)
            · obtain ⟨u, T, l, hg⟩ := hw
              exfalso
              cases hrow : tb.ty.get t with
              | some row => exact hno u T l row hg hrow
              | none =>
                unfold popK0 at h
                rw [ho] at h
                simp only at h
                unfold popQ at h
                rw [ho] at h
                simp only at h
                unfold popQ0 at h
                rw [ho] at h
                simp only [hxx, hrow] at h
                cases h
            · exact old [] (by
                unfold killOf killOf0; rw [ho]; simp only [hxx]
                cases hgg : getB bx b with
                | none => rfl
                | some z => cases z <;> first | rfl | exact absurd ⟨_, _, _, hgg⟩ hw) hx0 h
        | _ => exact old [] (by unfold killOf killOf0; rw [ho]; simp only [hxx]) hx0 h
  | call c =>
    rw [ho] at h
    simp only [hvs c ho, hen c ho] at h ⊢
    cases hc : c.callee with
    | builtin bn =>
      simp only [hc] at h ⊢
      have hx0 : killX tb o e bx = [] := by unfold killX; rw [ho]; simp only [hc]
      cases bn with
      | append =>
        simp only at h ⊢
        split at h
        · rename_i sx x t hargs htw
          split at h
          · cases h
          · rename_i T u hel
            split at h
            · have hk : killOf tb o e bx = [] := by unfold killOf; rw [ho]; simp only [hc, hargs]
              have hk0 : ∀ l, killOf tb o e bx = killOf0 o e (freezeB l bx) := fun l => by rw [hk]; unfold killOf0; rw [ho]; simp only [hc, hargs]
              cases hlin : linDst tb o with
              | false => simp only [hlin, cond_false] at h ⊢; exact old _ (hk0 _) hx0 h
              | true => simp only [hlin, cond_true, hk, takeE, if_true] at h ⊢; exact h
            · rename_i b
              split at h
              · rename_i v T' oldl hg
                have hk : killOf tb o e bx = [(b, .junk)] := by unfold killOf; rw [ho]; simp only [hc, hargs, hg]
                simp only [hk, takeE, if_true] at h ⊢
                exact h
              · rename_i hno
                refine old _ ?_ hx0 h
                unfold killOf killOf0; rw [ho]; simp only [hc, hargs]
                cases hgg : getB (freezeB (rowsP x) bx) b with
                | none => rfl
                | some z => cases z <;> first | rfl | exact absurd hgg (hno _ _ _)
            · rename_i hn1 hn2
              have hk : killOf tb o e bx = [] := by
                unfold killOf; rw [ho]; simp only [hc, hargs]
                cases sx <;> first | rfl | exact absurd rfl (hn2 _)
              refine old [] ?_ hx0 h
              rw [hk]; unfold killOf0; rw [ho]; simp only [hc, hargs]
              cases sx <;> first | rfl | exact absurd rfl (hn2 _)
        · cases h
      | _ => exact old [] (by unfold killOf killOf0; rw [ho]; simp only [hc]) hx0 h
    | value y =>
      simp only [hc] at h ⊢
      split at h
      · rename_i f l hf
        split at h
        · rename_i g hsig
          have hkk : killX tb o e bx = killOf tb o e bx := by unfold killX; rw [ho]; simp only [hc]
          rw [hkk]
          unfold linCall at h ⊢
          dsimp only at h ⊢
          split at h
          · rename_i ps qs hps hqs
            have hk : killOf tb o e bx = takenL (freezeB (frs g.ins (qs ++ ps)) bx) g.ins (qs ++ ps) := by unfold killOf; rw [ho]; simp only [hc, hf, hsig, hps, hqs]
            rw [hk]
            simp only [if_true]
            exact h
          · cases h
        · rename_i hno
          have hk : killOf tb o e bx = [] := by
            unfold killOf; rw [ho]; simp only [hc, hf]
          refine old _ ?_ ?_ h
          · rw [hk]; unfold killOf0; rw [ho]; simp only [hc]
          · unfold killX; rw [ho]; simp only [hc]; exact hk
      · cases h
    | _ =>
      simp only [hc] at h ⊢
      exact old [] (by unfold killOf killOf0; rw [ho]; simp only [hc]) (by unfold killX; rw [ho]; simp only [hc]) h
  | _ =>
    rw [ho] at h
    exact old [] (by unfold killOf killOf0; rw [ho]) (by unfold killX; rw [ho]) h
end
end Pe
end
section
/- A region whose operations write, in any order; silent operations go ahead. -/
namespace Pe
open Go Go.RowKit
variable {S : Nat → Type}
section
variable {P : Program} {un : Uni S} {tb : Tb S} {orc : Orc S} {inl : Inl S} {E : Wl.Ctx} {D0 : Dat} {N : Wl.Fr} {R : Type} {r : R} {Q : Exit → Act → World → Prop} {ops : Array Oper}

theorem silent_bx0 {o : Oper} (h : silent o = true) {e : Env S} (bx bx' : Bxs S) {R : Type} (K : PV S → Option R) : popQ0 un tb orc inl o e bx K = (popQ0 un tb orc inl o e bx' some).bind K := by
  unfold silent at h
  simp only [Bool.and_eq_true] at h
  have h2 := h.2
  unfold popQ0
  cases ho : o.op <;> rw [ho] at h2 <;> simp at h2 <;> simp only []
  case move x => split <;> rfl
  case assign x => split <;> rfl
  case nilCheck x => split <;> rfl
  case fieldAddr s x f =>
    split
    · rename_i p row hx hrow
      cases hk : Nat.beq row.kd 3 with
      | false => rfl
      | true => simp only [cond_true]; split <;> rfl
    · rfl
theorem silent_bx {o : Oper} (h : silent o = true) {e : Env S} (bx bx' : Bxs S) {R : Type} (K : PV S → Option R) : popQ un tb orc inl o e bx K = (popQ un tb orc inl o e bx' some).bind K := by
  have h0 := silent_bx0 (un := un) (tb := tb) (orc := orc) (inl := inl) h (e := e) bx bx' K
  unfold silent at h
  simp only [Bool.and_eq_true] at h
  have h2 := h.2
  unfold popQ
  cases ho : o.op <;> rw [ho] at h2 <;> simp at h2 <;> simp only []
  case move x => exact h0
  case assign x => exact h0
  case nilCheck x =>
    split
    · rfl
    · exact h0
  case fieldAddr s x f =>
    split
    · split
      · rename_i row hrow
        cases hk : Nat.beq row.kd 3 with
        | false => rfl
        | true => simp only [cond_true]; split <;> rfl
      · rfl
    · exact h0
theorem silent_guard {o : Oper} (h : silent o = true) : o.guard = none := by
  unfold silent at h
  simp only [Bool.and_eq_true] at h
  cases hg : o.guard with
  | none => rfl
  | some x => rw [hg] at h; simp at h
theorem rowlessAt_spec {e : Env S} : ∀ {l : List Nat}, rowlessAt e l = true → ∀ t ∈ l, ∃ q, look e t = some q ∧ q.rowless = true
  | [], _, t, ht => by cases ht
  | u :: l, h, t, ht => by
    unfold rowlessAt at h
    simp only [Bool.and_eq_true] at h
    rcases List.mem_cons.1 ht with rfl | ht
    · cases hl : look e t with
      | none => rw [hl] at h; simp at h
      | some q => rw [hl] at h; exact ⟨q, rfl, h.1⟩
    · exact rowlessAt_spec h.2 t ht
theorem mem_slotsIn {l : List Operand} {t : Nat} : t ∈ slotsIn l ↔ Operand.tmp t ∈ l := by
  simp only [slotsIn, List.mem_filterMap]
  constructor
  · rintro ⟨x, h1, h2⟩
    cases x <;> simp at h2
    subst h2; exact h1
  · intro h; exact ⟨_, h, rfl⟩
theorem slotsIn_looks {o : Oper} {t : Nat} (h : t ∈ slotsIn o.op.operands.toList) : t ∈ o.looksAt ops := by
  unfold Oper.looksAt
  exact List.mem_append_left _ h

theorem edge_spec {i j : Nat} (h : edge ops i j = true) : ∃ o, ops[j]? = some o ∧ ∃ e ∈ o.after.toList, Region.binds .any e = true ∧ e.on = i := by
  unfold edge at h
  split at h
  · rename_i o ho
    refine ⟨o, ho, ?_⟩
    rw [← Array.any_toList, List.any_eq_true] at h
    obtain ⟨e, h1, h2⟩ := h
    simp only [Bool.and_eq_true] at h2
    exact ⟨e, h1, h2.1, Nat.eq_of_beq_eq_true h2.2⟩
  · cases h

/-- What is checked of the silent operations. -/
structure SilOk (ops : Array Oper) (sn : List Nat) (i : Nat) (o : Oper) (d : Nat) : Prop where
  get : ops[i]? = some o
  dst : o.dst = some d
  new : i ∉ sn
  uniq : ∀ j oj, ops[j]? = some oj → i ≠ j → oj.dst ≠ some d
  look : ∀ j oj, ops[j]? = some oj → d ∈ oj.looksAt ops → edge ops i j = true
  from_ : ∀ j oj dj, ops[j]? = some oj → oj.dst = some dj → dj ∈ slotsIn o.op.operands.toList → j ∈ sn
theorem okSil_cons {sn : List Nat} {i : Nat} {l : List Nat} (h : okSil ops sn (i :: l) = true) : (∃ o d, SilOk ops sn i o d) ∧ okSil ops (i :: sn) l = true := by
  unfold okSil at h
  rw [Bool.and_eq_true] at h
  refine ⟨?_, h.2⟩
  have h1 := h.1
  split at h1
  · rename_i o ho
    split at h1
    · rename_i d hd
      simp only [Bool.and_eq_true, List.all_eq_true, List.mem_range] at h1
      have hj : ∀ j oj, ops[j]? = some oj → _ := fun j oj hj => by
        have := h1.2 j (Array.getElem?_eq_some_iff.1 hj).1
        rw [hj] at this
        exact this
      refine ⟨o, d, ho, hd, by simpa using h1.1, fun j oj hj' hne => ?_, fun j oj hj' hl => ?_, fun j oj dj hj' hdj hm => ?_⟩
      · have := hj j oj hj'
        simp only [Bool.and_eq_true, Bool.or_eq_true] at this
        rcases this.1.1 with h3 | h3
        · exact absurd (Nat.eq_of_beq_eq_true h3) hne
        · simpa using h3
      · have := hj j oj hj'
        simp only [Bool.and_eq_true, Bool.or_eq_true] at this
        rcases this.1.2 with h3 | h3
        · simp [hl] at h3
        · exact h3
      · have := hj j oj hj'
        simp only [Bool.and_eq_true, Bool.or_eq_true] at this
        rcases this.2 with h3 | h3
        · simpa using h3
        · rw [hdj] at h3; simp [hm] at h3
    · cases h1
  · cases h1
theorem okSil_mem : ∀ {sil sn : List Nat}, okSil ops sn sil = true → ∀ s ∈ sil, s ∉ sn ∧ ∃ sn' o d, SilOk ops sn' s o d ∧ ∀ j ∈ sn', j ∈ sn ∨ j ∈ sil
  | [], _, _, s, hs => by cases hs
  | i :: l, sn, h, s, hs => by
    obtain ⟨⟨o, d, h1⟩, h2⟩ := okSil_cons h
    rcases List.mem_cons.1 hs with rfl | hs
    · exact ⟨h1.new, sn, o, d, h1, fun j hj => .inl hj⟩
    · obtain ⟨h3, sn', o', d', h4, h5⟩ := okSil_mem h2 s hs
      refine ⟨fun h => h3 (by simp [h]), sn', o', d', h4, fun j hj => ?_⟩
      rcases h5 j hj with h6 | h6
      · rcases List.mem_cons.1 h6 with rfl | h6
        · exact .inr (by simp)
        · exact .inl h6
      · exact .inr (by simp [h6])

/-- What is known of a silent operation. -/
structure SilAt (un : Uni S) (tb : Tb S) (orc : Orc S) (inl : Inl S) (e : Env S) (o : Oper) (d : Nat) (p : PV S) : Prop where
  silent : Pe.silent o = true
  dst : o.dst = some d
  val : look e d = some p
  rowless : p.rowless = true
  args : ∀ t ∈ slotsIn o.op.operands.toList, ∃ q, look e t = some q ∧ q.rowless = true
  run : popQ un tb orc inl o e [] some = some p

theorem execS_spec {bx : Bxs S} : ∀ {sil sn : List Nat} {e : Env S} {K : Env S → Option R}, execS un tb orc inl ops bx sil e K = some r → okSil ops sn sil = true →
    ∃ e1, K e1 = some r ∧ (∀ t, (∀ s ∈ sil, ∀ o, ops[s]? = some o → o.dst ≠ some t) → look e1 t = look e t) ∧ ∀ s ∈ sil, ∃ o d p, ops[s]? = some o ∧ SilAt un tb orc inl e1 o d p
  | [], sn, e, K, h, _ => ⟨e, h, fun _ _ => rfl, fun s hs => by cases hs⟩
  | i :: l, sn, e, K, h, hok => by
    obtain ⟨⟨o, d, h1⟩, h2⟩ := okSil_cons hok
    unfold execS at h
    rw [h1.get] at h
    simp only at h
    obtain ⟨h3, h4⟩ := bif_some h
    simp only [Bool.and_eq_true] at h3
    rw [silent_bx h3.1 bx []] at h4
    rw [Option.bind_eq_some_iff] at h4
    obtain ⟨p, h5, h6⟩ := h4
    obtain ⟨h7, h8⟩ := bif_some h6
    obtain ⟨e1, k1, k2, k3⟩ := execS_spec h8 h2
    have other : ∀ s ∈ l, s ≠ i ∧ s ∉ sn := fun s hs => by
      have := (okSil_mem h2 s hs).1
      exact ⟨fun he => this (by simp [he]), fun hx => this (by simp [hx])⟩
    have hd : look e1 d = some p := by
      rw [k2 d fun s hs o' ho' => h1.uniq s o' ho' (other s hs).1.symm]
      rw [h1.dst]; simp [push, look]
    have hargs : ∀ t ∈ slotsIn o.op.operands.toList, look e1 t = look e t := fun t ht => by
      rw [k2 t fun s hs o' ho' hc => (other s hs).2 (h1.from_ s o' t ho' hc ht)]
      rw [h1.dst]
      refine look_push_ne fun hc => ?_
      simp at hc; subst hc
      exact h1.new (h1.from_ i o d h1.get h1.dst ht)
    refine ⟨e1, k1, fun t ht => ?_, fun s hs => ?_⟩
    · rw [k2 t fun s hs => ht s (by simp [hs])]
      exact look_push_ne (ht i (by simp) o h1.get)
    · rcases List.mem_cons.1 hs with rfl | hs
      · refine ⟨o, d, p, h1.get, h3.1, h1.dst, hd, h7, fun t ht => ?_, ?_⟩
        · rw [hargs t ht]; exact rowlessAt_spec h3.2 t ht
        · rw [popQ_congr fun x hx t hxt => hargs t (mem_slotsIn.2 (hxt ▸ hx))]; exact h5
      · exact k3 s hs

theorem mark_size : ∀ (sil : List Nat) (listed : Array Bool), (mark listed sil).size = listed.size
  | [], _ => rfl
  | i :: l, listed => by simp [mark, mark_size l]
theorem mark_get : ∀ (sil : List Nat) (listed : Array Bool) (j : Nat), (mark listed sil)[j]? = if j < listed.size then (if j ∈ sil then some true else listed[j]?) else none
  | [], listed, j => by
    simp only [mark, List.not_mem_nil, if_false]
    split
    · rfl
    · simp; omega
  | i :: l, listed, j => by
    simp only [mark, mark_get l, Array.size_setIfInBounds, List.mem_cons]
    split
    · rename_i hlt
      by_cases hjl : j ∈ l
      · simp [hjl]
      · rw [if_neg hjl, Array.getElem?_setIfInBounds]
        by_cases hij : i = j
        · subst hij; simp [hlt]
        · simp [hij, hjl, Ne.symm hij]
    · rfl
theorem mark_in {sil : List Nat} {i : Nat} (hi : i ∈ sil) (listed : Array Bool) : mark (listed.setIfInBounds i true) sil = mark listed sil := by
  apply Array.ext_getElem?
  intro j
  rw [mark_get, mark_get, Array.size_setIfInBounds, Array.getElem?_setIfInBounds]
  by_cases hij : i = j
  · subst hij; simp [hi]
  · simp [hij]
theorem mark_out {sil : List Nat} {i : Nat} (hi : i ∉ sil) (listed : Array Bool) : mark (listed.setIfInBounds i true) sil = (mark listed sil).setIfInBounds i true := by
  apply Array.ext_getElem?
  intro j
  rw [mark_get, Array.size_setIfInBounds, Array.getElem?_setIfInBounds, Array.getElem?_setIfInBounds, mark_get, mark_size]
  by_cases hij : i = j
  · subst hij; simp [hi]
  · simp [hij]
theorem mark_true {sil : List Nat} {listed : Array Bool} {j : Nat} {b : Bool} (h : listed.getD j false = true) : (mark listed sil).getD j b = true := by
  rw [Array.getD_eq_getD_getElem?] at h ⊢
  rw [mark_get]
  cases hj : listed[j]? with
  | none => rw [hj] at h; simp at h
  | some x =>
    rw [hj] at h
    have hlt := (Array.getElem?_eq_some_iff.1 hj).1
    rw [if_pos hlt]
    split
    · rfl
    · simpa using h
theorem mark_same {sil : List Nat} {listed : Array Bool} {j : Nat} {b : Bool} (h : j ∉ sil) : (mark listed sil).getD j b = listed.getD j b := by
  rw [Array.getD_eq_getD_getElem?, Array.getD_eq_getD_getElem?, mark_get, if_neg h]
  split
  · rfl
  · rename_i hlt
    have : listed[j]? = none := by simp; omega
    rw [this]

theorem look_killO : ∀ {k : List (Nat × PV S)}, ∃ f : PV S → PV S, (∀ (e : Env S) t, look (takeE k e) t = (look e t).map f) ∧ ∀ p, p.rowless = true → f p = p
  | [] => ⟨id, fun e t => by simp [takeE], fun _ _ => rfl⟩
  | (b, y) :: k => by
    obtain ⟨f, h1, h2⟩ := look_killO (k := k)
    refine ⟨fun p => f (PV.kill b y p), fun e t => ?_, fun p hp => ?_⟩
    · simp only [takeE]
      rw [h1, look_killE, Option.map_map]; rfl
    · show f (PV.kill b y p) = p
      rw [kill_rowless b y p hp]; exact h2 p hp

theorem any2_wp (hmix : P.follows .mixedOrders = true) (hun : UniOk un) (ht : TbOk P un tb) (hor : SoundO P un orc) (hin : SoundI P un inl) {id : Nat} {sil : List Nat} {KX : Exit → Env S → Bxs S → Option R} {K : Env S → Bxs S → Option R} {e : Env S} {bx : Bxs S} {a : Act} {w : World}
    (hord : okOrder ops.toList = true) (hsok : okSil ops [] sil = true) (h : execS un tb orc inl ops bx sil e (fun e => execAny un tb orc inl ops (fun x e bx => KX x (without (dsts ops.toList) e) bx) ops.size (mark (Array.replicate ops.size false) sil) e bx K) = some r)
    (hd : ∀ o ∈ ops.toList, ∀ d, o.dst = some d → d < N.n) (hs : Holds un E D0 N e bx a { w with drawn := w.drawn + 1 })
    (hk : ∀ e' bx', K e' bx' = some r → Pres (dsts ops.toList) e e' → PresB bx bx' → ∀ a' w', Holds un E D0 N e' bx' a' w' → Q .normal a' w')
    (hkx : ∀ x e' bx', KX x e' bx' = some r → PresB bx bx' → ∀ a' w', Pres (dsts ops.toList) e e' → Holds un E D0 N e' bx' a' w' → Q x a' w') : (Code.region id ops true).wp P Q a w := by
  obtain ⟨hback, hpair⟩ := okOrder_spec hord
  obtain ⟨e1, h1, h2, h3⟩ := execS_spec h hsok
  have hsil := okSil_mem hsok
  have hlist : ∀ {i : Nat} {o : Oper}, ops[i]? = some o → ops.toList[i]? = some o := fun h => by simpa using h
  have hget : ∀ {i : Nat} {o : Oper}, ops[i]? = some o → i < ops.size := fun h => (Array.getElem?_eq_some_iff.1 h).1
  have hmem : ∀ {i : Nat} {o : Oper}, ops[i]? = some o → o ∈ ops.toList := fun h => List.mem_of_getElem? (hlist h)
  refine wp_region_any hmix ?_
  have hinb : ∀ {listed : Array Bool} {i : Nat}, listed.size = ops.size → i < ops.size → listed.getD i true = listed.getD i false := fun {listed i} hsz hi => by
    simp [Array.getD_eq_getD_getElem?, hsz, hi]
  have noready : ∀ (listed : Array Bool), listed.size = ops.size → Region.ready .any ops listed = [] → ∀ i, i < ops.size → listed.getD i false = true := by
    intro listed hsz hr i hi
    cases hb : listed.getD i false with
    | true => rfl
    | false =>
      obtain ⟨k, h1, h2, h3⟩ := least (p := fun i => listed.getD i false = false) ops.size ⟨i, hi, hb⟩
      have : k ∈ Region.ready .any ops listed := ready_spec.2 ⟨h1, by rw [hinb hsz h1]; exact h2, ops[k], by simp [h1], fun x hx hbx => by
        have hlt := hback k ops[k] (by simp [h1]) x hx hbx
        simpa using h3 _ hlt⟩
      rw [hr] at this; cases this
  have key : ∀ (fuel : Nat) (listed : Array Bool) (n : Nat) (em ea : Env S) (bx' : Bxs S) (a : Act) (w : World), listed.size = ops.size → unl ops.size listed ≤ fuel →
      execAny un tb orc inl ops (fun x e bx => KX x (without (dsts ops.toList) e) bx) n (mark listed sil) em bx' K = some r →
      (∀ s ∈ sil, ∃ o d p, ops[s]? = some o ∧ SilAt un tb orc inl em o d p) →
      (∀ t, (∀ s ∈ sil, listed.getD s false = false → ∀ o, ops[s]? = some o → o.dst ≠ some t) → look ea t = look em t) →
      Pres (dsts ops.toList) e em → PresB bx bx' → Holds un E D0 N ea bx' a w → wpAny P .any ops Q fuel listed a w := by
    intro fuel
    have fin : ∀ {listed : Array Bool} {n : Nat} {em ea : Env S} {bx' : Bxs S} {a : Act} {w : World}, listed.size = ops.size → Region.ready .any ops listed = [] →
        execAny un tb orc inl ops (fun x e bx => KX x (without (dsts ops.toList) e) bx) n (mark listed sil) em bx' K = some r →
        (∀ s ∈ sil, ∃ o d p, ops[s]? = some o ∧ SilAt un tb orc inl em o d p) →
        (∀ t, (∀ s ∈ sil, listed.getD s false = false → ∀ o, ops[s]? = some o → o.dst ≠ some t) → look ea t = look em t) →
        Pres (dsts ops.toList) e em → PresB bx bx' → Holds un E D0 N ea bx' a w → Q .normal a w := by
      intro listed n em ea bx' a w hsz hr hm hs hag hp hb hH
      have hall := noready listed hsz hr
      have hr2 : Region.ready .any ops (mark listed sil) = [] := by
        apply List.eq_nil_iff_forall_not_mem.2
        intro i hi
        obtain ⟨g1, g2, _⟩ := ready_spec.1 hi
        rw [mark_true (hall i g1)] at g2; cases g2
      have hK : K em bx' = some r := by
        cases n with
        | zero => unfold execAny at hm; rw [hr2] at hm; exact hm
        | succ n => unfold execAny at hm; rw [hr2] at hm; exact hm
      refine hk em bx' hK hp hb a w (hH.sub fun t p htp => ?_)
      rw [hag t fun s hs hl o ho => by
        obtain ⟨o', _, _, ho', _⟩ := h3 s hs
        have := hall s (hget ho'); rw [hl] at this; cases this]
      exact htp
    induction fuel with
    | zero =>
      intro listed n em ea bx' a w hsz hf hm hs hag hp hb hH
      have hr : Region.ready .any ops listed = [] := by
        apply List.eq_nil_iff_forall_not_mem.2
        intro i hi
        obtain ⟨g1, g2, _⟩ := ready_spec.1 hi
        have : i ∈ (List.range ops.size).filter fun i => !listed.getD i true := by simp only [List.mem_filter, List.mem_range]; exact ⟨g1, by rw [g2]; rfl⟩
        have h0 : ((List.range ops.size).filter fun i => !listed.getD i true) = [] := List.length_eq_zero_iff.1 (Nat.le_zero.1 hf)
        rw [h0] at this; cases this
      exact ⟨hr, fin hsz hr hm hs hag hp hb hH⟩
    | succ fuel ih =>
      intro listed n em ea bx' a w hsz hf hm hs hag hp hb hH
      refine ⟨fun hr => fin hsz hr hm hs hag hp hb hH, fun i hi => ?_⟩
      obtain ⟨g1, g2, o, g3, g4⟩ := ready_spec.1 hi
      have g2' : listed.getD i false = false := by rw [← hinb hsz g1]; exact g2
      have hset : ∀ j, (listed.setIfInBounds i true).getD j false = if j = i then true else listed.getD j false := fun j => by
        simp only [Array.getD_eq_getD_getElem?, Array.getElem?_setIfInBounds]
        by_cases hji : i = j
        · subst hji; simp [hsz, g1]
        · rw [if_neg hji, if_neg (Ne.symm hji)]
      have hunl : unl ops.size (listed.setIfInBounds i true) ≤ fuel := by
        have : unl ops.size (listed.setIfInBounds i true) < unl ops.size listed := by
          unfold unl
          refine filter_lt (fun j hj => ?_) (List.mem_range.2 g1) (by rw [g2]; rfl) ?_
          · simp only [Array.getD_eq_getD_getElem?, Array.getElem?_setIfInBounds] at hj ⊢
            split at hj
            · split at hj <;> simp at hj
            · exact hj
          · simp [Array.getD_eq_getD_getElem?, hsz, g1]
        omega
      have hops : ∀ x ∈ o.op.operands.toList, ∀ t, x = .tmp t → look ea t = look em t := fun x hx t hxt => by
        refine hag t fun s hs' hl o' ho' hc => ?_
        obtain ⟨_, sn', o2, d2, hok, _⟩ := hsil s hs'
        have e1 := hok.get; rw [ho'] at e1; cases e1
        have e2 := hok.dst; rw [hc] at e2; cases e2
        obtain ⟨o3, k1, x', k2, k3, k4⟩ := edge_spec (hok.look i o g3 (slotsIn_looks (mem_slotsIn.2 (hxt ▸ hx))))
        rw [g3] at k1; cases k1
        have := g4 x' k2 k3
        rw [k4, hl] at this; cases this
      unfold wpOp
      rw [g3]
      simp only
      by_cases hisil : i ∈ sil
      · obtain ⟨o', d, p, ho', hst⟩ := hs i hisil
        rw [g3] at ho'; cases ho'
        rw [if_pos (by simp [Region.wanted, silent_guard hst.silent])]
        left
        have hrun : popQ un tb orc inl o ea bx' some = some p := by
          rw [silent_bx hst.silent bx' [], popQ_congr hops, hst.run]; rfl
        obtain ⟨p', hp', hg⟩ := popQ_gives hun ht hor hin hrun
        cases hp'
        refine gives_step hg (hd o (hmem g3)) hH fun a' w' hH' => ?_
        refine ih _ n em _ bx' a' w' (by simpa using hsz) hunl (by rw [mark_in hisil]; exact hm) hs (fun t htt => ?_) hp hb hH'
        by_cases htd : t = d
        · subst htd
          rw [hst.dst, hst.val]; simp [push, look]
        · rw [look_push_ne (by rw [hst.dst]; simpa using Ne.symm htd)]
          refine hag t fun s hs' hl o' ho' => ?_
          by_cases hsi : s = i
          · subst hsi
            rw [g3] at ho'; cases ho'
            rw [hst.dst]; simpa using Ne.symm htd
          · exact htt s hs' (by rw [hset, if_neg hsi]; exact hl) o' ho'
      · have hir : i ∈ Region.ready .any ops (mark listed sil) := ready_spec.2 ⟨g1, by rw [mark_same hisil]; exact g2, o, g3, fun x hx hbx => mark_true (g4 x hx hbx)⟩
        cases n with
        | zero =>
          unfold execAny at hm
          split at hm
          · rename_i hr; rw [hr] at hir; cases hir
          · cases hm
        | succ n =>
          unfold execAny at hm
          split at hm
          · rename_i hr; rw [hr] at hir; cases hir
          · rename_i i0 l0 hr
            rw [hr] at hir
            have hm1 := sameL_some hm _ (List.mem_map.2 ⟨i, hir, rfl⟩)
            simp only [g3] at hm1
            split at hm1
            · rename_i hg
              rw [if_pos (by simp [Region.wanted, hg])]
              left
              have hm2 := popK_congr hops hm1
              have hpush : ∀ {e' : Env S} {p : PV S} {e0 : Env S}, Pres [] e0 e' → Pres (dsts ops.toList) e e0 → Pres (dsts ops.toList) e (push o.dst p e') := fun {e' p e0} q1 q2 => by
                refine ((q2.trans q1).trans (Pres.push [] e' o.dst p)).mono fun t htt => ?_
                simp only [List.append_nil, List.mem_append] at htt
                rcases htt with htt | htt
                · exact htt
                · simp only [dsts, List.mem_filterMap]
                  exact ⟨o, hmem g3, by simpa using htt⟩
              refine popK_wp hun ht hor hin hm2 (hd o (hmem g3)) hH (fun p e' bx2 hK2 hp2 hb2 a' w' hH2 => ?_) fun x e' bx2 hK2 hp2 hb2 a' w' hH2 => ?_
              · split at hK2
                · rename_i he'
                  subst he'
                  obtain ⟨f, hf1, hf2⟩ := look_killO (k := killOf tb o em bx')
                  have hemk : Pres [] em (takeE (killOf tb o em bx') em) := fun t q _ hq hr => by rw [hf1, hq]; simp [hf2 q hr]
                  refine ih _ n _ _ bx2 a' w' (by simpa using hsz) hunl (by rw [mark_out hisil]; exact hK2) (fun s hs' => ?_) (fun t htt => ?_) (hpush hemk hp) (hb.trans hb2) hH2
                  · obtain ⟨os, d, ps, ho', hst⟩ := hs s hs'
                    obtain ⟨_, sn', o2, d2, hok, hsn⟩ := hsil s hs'
                    have q1 := hok.get; rw [ho'] at q1; cases q1
                    have q2 := hok.dst; rw [hst.dst] at q2; cases q2
                    have hne : s ≠ i := fun h => hisil (h ▸ hs')
                    have hval : ∀ t, o.dst ≠ some t → ∀ q, look em t = some q → q.rowless = true → look (push o.dst p (takeE (killOf tb o em bx') em)) t = some q := fun t hn q hq hr => by
                      rw [look_push_ne hn, hf1, hq]; simp [hf2 q hr]
                    have hnw : ∀ t ∈ slotsIn os.op.operands.toList, o.dst ≠ some t := fun t htm hc => by
                      rcases hsn _ (hok.from_ i o t g3 hc htm) with h4 | h4
                      · cases h4
                      · exact hisil h4
                    refine ⟨os, d, ps, ho', hst.silent, hst.dst, hval d (hok.uniq i o g3 hne) ps hst.val hst.rowless, hst.rowless, fun t htm => ?_, ?_⟩
                    · obtain ⟨q, hq1, hq2⟩ := hst.args t htm
                      exact ⟨q, hval t (hnw t htm) q hq1 hq2, hq2⟩
                    · rw [popQ_congr (e := em) fun x hx t hxt => ?_]
                      · exact hst.run
                      · have htm := mem_slotsIn.2 (hxt ▸ hx)
                        obtain ⟨q, hq1, hq2⟩ := hst.args t htm
                        rw [hval t (hnw t htm) q hq1 hq2, hq1]
                  · by_cases htd : o.dst = some t
                    · rw [htd]; simp [push, look]
                    · rw [look_push_ne htd, look_push_ne htd, hf1, hf1]
                      rw [hag t fun s hs' hl o' ho' => ?_]
                      have hne : s ≠ i := fun h => hisil (h ▸ hs')
                      exact htt s hs' (by rw [hset, if_neg hne]; exact hl) o' ho'
                · cases hK2
              · split at hK2
                · rename_i he'
                  subst he'
                  obtain ⟨f, hf1, hf2⟩ := look_killO (k := killX tb o em bx')
                  refine hkx x _ bx2 hK2 (hb.trans hb2) a' w' (fun t q hn hq hr => ?_) (hH2.sub fun t q hq => ?_)
                  · rw [look_without, if_neg hn, hf1, hp t q hn hq hr]; simp [hf2 q hr]
                  · rw [look_without] at hq
                    split at hq
                    · cases hq
                    · rename_i hn
                      rw [hf1] at hq ⊢
                      rw [hag t fun s hs' hl o' ho' hc => hn (mem_dsts.2 ⟨s, o', hlist ho', hc⟩)]
                      exact hq
                · cases hK2
            · cases hm1
  refine key ops.size _ ops.size e1 e bx a _ (by simp) ?_ h1 h3 (fun t htt => ?_) (fun t q hn hq _ => ?_) (PresB.refl _) hs
  · exact Nat.le_trans (List.length_filter_le _ _) (by simp)
  · refine (h2 t fun s hs' o ho => htt s hs' ?_ o ho).symm
    simp only [Array.getD_eq_getD_getElem?, Array.getElem?_replicate]
    split <;> rfl
  · rw [h2 t fun s hs' o ho hc => hn (mem_dsts.2 ⟨s, o, hlist ho, hc⟩)]; exact hq
end
end Pe
end
section
/- Code, and functions. -/
namespace Pe
open Go Go.RowKit
variable {S : Nat → Type}
section
variable {P : Program} {un : Uni S} {tb : Tb S} {orc : Orc S} {inl : Inl S} {an : Ann} {E : Wl.Ctx} {D0 : Dat} {N : Wl.Fr}

theorem Holds.draw {e : Env S} {bx : Bxs S} {a : Act} {w : World} (h : Holds un E D0 N e bx a w) (n : Nat) : Holds un E D0 N e bx a { w with drawn := n } := by
  obtain ⟨D, H, hs, hD⟩ := h
  have g : Ge D w D { w with drawn := n } := ⟨fun _ _ h => h, fun _ _ _ => rfl⟩
  refine ⟨D, H, ⟨⟨⟨hs.inn.out.os, hs.inn.out.tape, hs.inn.out.output, hs.inn.out.size, hs.inn.out.block⟩, hs.inn.lt, fun r hr => Wl.Res.holds_of (hs.inn.res r hr) fun _ _ => rfl, hs.inn.apart, hs.inn.disj, hs.inn.lent⟩, hs.size, hs.defers, BxRep.mono g (fun _ _ _ => rfl) (fun _ _ h => h) hs.boxes, fun i p hi => (hs.slots i p hi).ge g fun _ _ h => h⟩, hD.1, hD.2.trans g⟩

theorem Pres.of_keep {l : List Oper} {e _ e'' : Env S} {bx : Bxs S} {ops : List Oper} (h : QPath P un bx ops l e e'') : Pres (dsts l) e e'' := fun i p hi hp _ => by rw [h.keep i hi]; exact hp

theorem touch_writes : ∀ (c : Code) (i : Nat), i ∈ writes c → i ∈ touch an c
  | .region _ ops _, i, h => by simpa [writes, touch, dsts] using h
  | .seq a b, i, h => by
    simp only [writes, touch, List.mem_append] at h ⊢
    exact .inl (h.imp (touch_writes a i) (touch_writes b i))
  | .cond _ a b, i, h => by simp only [writes, touch, List.mem_append] at h ⊢; exact h.imp (touch_writes a i) (touch_writes b i)
  | .block _ a, i, h => by simp only [writes, touch] at h ⊢; exact touch_writes a i h
  | .loop a, i, h => by simp only [writes, touch, List.mem_append] at h ⊢; exact .inl (touch_writes a i h)
  | .scope a, i, h => by simp only [writes, touch] at h ⊢; exact touch_writes a i h
  | .skip, _, h => by simp [writes] at h
  | .rangeFunc _ _ _ _, _, h => by simp [writes] at h
  | .exit _, _, h => by simp [writes] at h
  | .label _, _, h => by simp [writes] at h
  | .goto _, _, h => by simp [writes] at h
  | .ret, _, h => by simp [writes] at h
  | .refuse _, _, h => by simp [writes] at h

theorem exec_wp (hmix : P.follows .mixedOrders = true) (hun : UniOk un) (ht : TbOk P un tb) (hor : SoundO P un orc) (hin : SoundI P un inl) : ∀ (c : Code) (R : Type) (e : Env S) (bx : Bxs S) (K : Exit → Env S → Bxs S → Option R) (r : R), exec un tb orc inl an c R e bx K = some r → (∀ d ∈ writes c, d < N.n) →
    ∀ {a : Act} {w : World} {Q : Exit → Act → World → Prop}, Holds un E D0 N e bx a w → (∀ x e' bx', K x e' bx' = some r → Pres (touch an c) e e' → PresB bx bx' → ∀ a' w', Holds un E D0 N e' bx' a' w' → Q x a' w') → c.wp P Q a w := by
  intro c
  induction c with
  | skip => intro R e bx K r h _ a w Q hs hk; exact wp_skip (hk _ _ _ h (Pres.refl _ _) (PresB.refl _) a w hs)
  | ret => intro R e bx K r h _ a w Q hs hk; exact wp_ret (hk _ _ _ h (Pres.refl _ _) (PresB.refl _) a w hs)
  | exit i => intro R e bx K r h _ a w Q hs hk; exact wp_exit (hk _ _ _ h (Pres.refl _ _) (PresB.refl _) a w hs)
  | region id ops draw =>
    intro R e bx K r h hd a w Q hs hk
    have hd' : ∀ o ∈ ops.toList, ∀ d, o.dst = some d → d < N.n := fun o ho d hdd => hd d (by simp only [writes, List.mem_filterMap]; exact ⟨o, ho, hdd⟩)
    cases draw with
    | false =>
      simp only [exec] at h
      cases hdup : an.dup.any (Nat.beq id) with
      | true =>
        rw [hdup] at h
        simp only [cond_true] at h
        have := execG_wp (Q := Q) hun ht hor hin _ _ _ _ _ _ h (fun d v hv => by simp [lookK] at hv) hd' hs (fun e' bx' h1 h2 h3 a' w' h4 => hk .normal e' bx' h1 (by simpa only [touch] using h2) h3 a' w' h4) fun x e' bx' h1 h2 h3 a' w' h4 => hk x e' bx' h1 (by simpa only [touch] using h2) h3 a' w' h4
        have h5 := wp_region_lit (id := id) (by simpa using this)
        simpa using h5
      | false =>
      rw [hdup] at h
      simp only [cond_false] at h
      have := execR_wp (Q := Q) hun ht hor hin _ _ _ _ _ h hd' hs (fun e' bx' h1 h2 h3 a' w' h4 => hk .normal e' bx' h1 (by simpa only [touch] using h2) h3 a' w' h4) fun x e' bx' h1 h2 h3 a' w' h4 => hk x e' bx' h1 (by simpa only [touch] using h2) h3 a' w' h4
      have h5 := wp_region_lit (id := id) (by simpa using this)
      simpa using h5
    | true =>
      simp only [exec] at h
      cases han : lookA an.any id with
      | some sil =>
        rw [han] at h
        simp only at h
        obtain ⟨h1, h2⟩ := bif_some h
        simp only [Bool.and_eq_true] at h1
        exact any2_wp hmix hun ht hor hin h1.1 h1.2 h2 hd' (hs.draw _) (fun e' bx' h1 h2 h3 a' w' h4 => hk .normal e' bx' h1 (by simpa only [touch] using h2) h3 a' w' h4) fun x e' bx' h1 h3 a' w' h2 h4 => hk x e' bx' h1 (by simpa only [touch] using h2) h3 a' w' h4
      | none =>
      rw [han] at h
      simp only at h
      obtain ⟨h1, h2⟩ := bif_some h
      obtain ⟨e', e'', g1, g2, g3, g4⟩ := execQ_path hun ht hor hin _ _ _ _ _ _ _ h2 (fun d v hv => by simp [lookK] at hv)
      refine any_wp hmix h1 g2 hd' (hs.draw _) fun a' w' h4 => hk .normal e' bx g1 (fun i p hi hp _ => ?_) (PresB.refl _) a' w' (h4.sub g3)
      rw [g4 i (by simpa only [touch] using hi)]; exact hp
  | seq x y ihx ihy =>
    intro R e bx K r h hd a w Q hs hk
    have hdx : ∀ d ∈ writes x, d < N.n := fun d hdd => hd d (by simp [writes, hdd])
    have hdy : ∀ d ∈ writes y, d < N.n := fun d hdd => hd d (by simp [writes, hdd])
    unfold exec at h
    cases hcut : (firstR y).bind an.cut.get with
    | none =>
      rw [hcut] at h
      simp only at h
      refine wp_seq (ihx _ _ _ _ _ h hdx hs fun q e1 bx1 h1 hp1 hb1 a1 w1 h2 => ?_)
      have hmono : ∀ i ∈ touch an x, i ∈ touch an (.seq x y) := fun i hi => by simp [touch, hi]
      cases q <;> first
        | exact hk _ _ _ h1 (hp1.mono hmono) hb1 _ _ h2
        | exact ihy _ _ _ _ _ h1 hdy h2 fun q e2 bx2 h3 hp2 hb2 a2 w2 h4 => hk q e2 bx2 h3 ((hp1.trans hp2).mono fun i hi => by simp only [touch, List.mem_append] at hi ⊢; exact .inl hi) (hb1.trans hb2) a2 w2 h4
    | some c =>
      rw [hcut] at h
      simp only at h
      obtain ⟨z, h1, h2⟩ := cutM_some h
      refine wp_seq (ihx _ _ _ _ _ h1 hdx (hs.lock c.boxes) fun q e1 bx1 h3 hp1 hb1 a1 w1 h4 => ?_)
      have abn : ∀ q, (K q e1 (unlock bx.length (lockFrom c.boxes 0 bx) bx1)).map .inr = some z → Q q a1 w1 := by
        intro q h3
        obtain ⟨r', h5, h6⟩ := map_some' h3
        subst h6
        rcases h2 with ⟨t, h2, _⟩ | h2
        · cases h2
        · cases h2
          exact hk q e1 _ h5 (hp1.mono fun i hi => by simp [touch, hi]) hb1.unlock a1 w1 (h4.unlock _ _)
      cases q <;> first
        | exact abn _ h3
        | (obtain ⟨t, h5, h6⟩ := map_some' h3
           subst h6
           rcases h2 with ⟨t', h2, h7⟩ | h2
           · cases h2
             obtain ⟨g1, g2⟩ := cut_holds hun (W := touch an x) hs h4 (fun i p hi hp => by
               obtain ⟨_, m2, m3, m4⟩ := maskG_spec _ _ _ _ _ hp
               exact hp1 i p m2 m3 m4) (fun i b hi => kept_of hb1 hi) (by have := hb1.len; rw [lock_length] at this; exact this) h5
             exact ihy _ _ _ _ _ h7 hdy g1 fun q e2 bx2 h8 hp2 hb2 a2 w2 h9 => hk q e2 bx2 h8 (((Pres.mkEnv c (touch an x) e bx.length t).trans hp2).mono fun i hi => by simp only [touch, hcut, List.mem_append] at hi ⊢; rcases hi with (hi | hi) | hi <;> simp [hi]) (g2.trans hb2) a2 w2 h9
           · cases h2)
  | cond o x y ihx ihy =>
    intro R e bx K r h hd a w Q hs hk
    simp only [exec] at h
    split at h
    · rename_i b hb
      have hev : a.eval o = .bool b := by
        obtain ⟨D, H, hs, _⟩ := hs
        have := hs.ev hb; simpa only [Rep] using this
      refine wp_cond_split hev (fun hb => ?_) (fun hb => ?_)
      · subst hb
        exact ihx _ _ _ _ _ h (fun d hdd => hd d (by simp [writes, hdd])) hs fun q e1 bx1 h1 hp1 hb1 a1 w1 h2 => hk q e1 bx1 h1 (hp1.mono fun i hi => by simp [touch, hi]) hb1 a1 w1 h2
      · subst hb
        exact ihy _ _ _ _ _ h (fun d hdd => hd d (by simp [writes, hdd])) hs fun q e1 bx1 h1 hp1 hb1 a1 w1 h2 => hk q e1 bx1 h1 (hp1.mono fun i hi => by simp [touch, hi]) hb1 a1 w1 h2
    · cases h
  | block i c ih =>
    intro R e bx K r h hd a w Q hs hk
    simp only [exec] at h
    refine wp_block (ih _ _ _ _ _ h (fun d hdd => hd d (by simpa [writes] using hdd)) hs fun q e1 bx1 h1 hp1 hb1 a1 w1 h2 => ?_)
    have hp : Pres (touch an (.block i c)) e e1 := hp1.mono fun i hi => by simpa [touch] using hi
    cases q with
    | exit j =>
      simp only at h1
      cases hij : Nat.beq i j with
      | true =>
        rw [hij] at h1
        have := Nat.eq_of_beq_eq_true hij
        subst this
        simp only [Exit.inBlock, if_true]
        exact hk .normal e1 bx1 h1 hp hb1 a1 w1 h2
      | false =>
        rw [hij] at h1
        have hne : ¬ j = i := fun he => by subst he; simp at hij
        simp only [Exit.inBlock, hne, if_false]
        exact hk (.exit j) e1 bx1 h1 hp hb1 a1 w1 h2
    | normal => exact hk .normal e1 bx1 h1 hp hb1 a1 w1 h2
    | goto l => exact hk (.goto l) e1 bx1 h1 hp hb1 a1 w1 h2
    | ret => exact hk .ret e1 bx1 h1 hp hb1 a1 w1 h2
    | panic ch => exact hk (.panic ch) e1 bx1 h1 hp hb1 a1 w1 h2
    | outgrown => exact hk .outgrown e1 bx1 h1 hp hb1 a1 w1 h2
  | loop c ih =>
    intro R e bx K r h hd a w Q hs hk
    unfold exec at h
    cases hcut : (firstR c).bind an.loop.get with
    | none => rw [hcut] at h; cases h
    | some ct =>
      rw [hcut] at h
      simp only at h
      split at h
      · cases h
      · rename_i t0 ht0
        obtain ⟨n, hn⟩ := loopM_some h
        have hdc : ∀ d ∈ writes c, d < N.n := fun d hdd => hd d (by simpa [writes] using hdd)
        have htch : ∀ i ∈ touch an c ++ ct.slots.map (·.1), i ∈ touch an (.loop c) := fun i hi => by simpa [touch, hcut] using hi
        have h00 : Holds un E D0 N (mkEnv ct (touch an c) e bx.length t0) (mkBx ct bx t0) a w ∧ PresB bx (mkBx ct bx t0) := by
          exact cut_holds hun (W := touch an c) hs (hs.lock ct.boxes) (fun i p hi hp => (maskG_spec _ _ _ _ _ hp).2.2.1) (fun i b hi => kept_of (PresB.refl _) hi) (by rw [lock_length]; exact Nat.le_refl _) ht0
        refine wp_loop_ghost (fun (x : Nat × ElL S ct.codes) a w => iter (fun t => exec un tb orc inl an c (ElL S ct.codes ⊕ R) (mkEnv ct (touch an c) e bx.length t) (lockFrom ct.boxes 0 (mkBx ct bx t)) fun x e' bx' => match x with
          | .normal => (castCut un ct e' bx').map .inl
          | x => (K x e' (unlock (mkBx ct bx t).length (lockFrom ct.boxes 0 (mkBx ct bx t)) bx')).map .inr) x.1 x.2 = some r ∧ Holds un E D0 N (mkEnv ct (touch an c) e bx.length x.2) (mkBx ct bx x.2) a w ∧ PresB bx (mkBx ct bx x.2)) (fun x => x.1) (fun x a1 w1 hI => ?_) (n, t0) a w ⟨hn, h00⟩
        obtain ⟨k, t⟩ := x
        obtain ⟨hit, hH, hB⟩ := hI
        cases k with
        | zero => simp [iter] at hit
        | succ k =>
          simp only [iter] at hit
          split at hit
          · rename_i y hy
            refine ih _ _ _ _ _ hy hdc (hH.lock ct.boxes) fun q e1 bx1 h3 hp1 hb1 a2 w2 h4 => ?_
            have abn : ∀ q, (K q e1 (unlock (mkBx ct bx t).length (lockFrom ct.boxes 0 (mkBx ct bx t)) bx1)).map Sum.inr = some (Sum.inl y) → False := fun q h => by
              obtain ⟨_, _, h6⟩ := map_some' h; cases h6
            cases q <;> first
              | exact (abn _ h3).elim
              | (obtain ⟨t', h5, h6⟩ := map_some' h3
                 cases h6
                 have := cut_holds hun (W := touch an c) hs h4 (fun i p hi hp => by
                   obtain ⟨_, m2, m3, m4⟩ := maskG_spec _ _ _ _ _ hp
                   refine hp1 i p m2 ?_ m4
                   unfold mkEnv; rw [zip_out _ _ _ _ hi]; exact hp) (fun i b hi => kept_loop hB hb1 hi) (by have h8 := hb1.len; rw [lock_length] at h8; exact Nat.le_trans hB.len h8) h5
                 exact ⟨(k, _), ⟨hit, this⟩, Nat.lt_succ_self _⟩)
          · rename_i r' hy
            cases hit
            refine ih _ _ _ _ _ hy hdc (hH.lock ct.boxes) fun q e1 bx1 h3 hp1 hb1 a2 w2 h4 => ?_
            have abn : ∀ q, (K q e1 (unlock (mkBx ct bx t).length (lockFrom ct.boxes 0 (mkBx ct bx t)) bx1)).map (Sum.inr : R → ElL S ct.codes ⊕ R) = some (Sum.inr r) → Q q a2 w2 := fun q h => by
              obtain ⟨r2, h5, h6⟩ := map_some' (r := Sum.inr r) h; cases h6
              exact hk q e1 _ h5 (((Pres.mkEnv ct (touch an c) e bx.length t).trans hp1).mono fun i hi => htch i (by simp only [List.mem_append] at hi ⊢; rcases hi with (hi | hi) | hi <;> simp [hi])) (hB.trans hb1.unlock) a2 w2 (h4.unlock _ _)
            cases q <;> first
              | exact abn _ h3
              | (exfalso; obtain ⟨_, _, h6⟩ := map_some' (r := Sum.inr _) h3; cases h6)
          · cases hit
  | _ => intro R e bx K r h; simp [exec] at h
end
end Pe
end
section
/- Functions. -/
namespace Pe
open Go Go.RowKit
variable {S : Nat → Type}
section
variable {P : Program} {un : Uni S} {tb : Tb S} {orc : Orc S} {inl : Inl S} {an : Ann} {E : Wl.Ctx} {D : Dat} {H : List Wl.Res} {N : Wl.Fr} {e : Env S} {bx : Bxs S} {a : Act} {w : World}

theorem castL_cons {u : U} {us : List U} {p : PV S} {ps : List (PV S)} {t : ElL S (u :: us)} (h : castL un bx (u :: us) (p :: ps) = some t) : ∃ x t', Pe.cast un u (Pe.fz bx p) = some x ∧ castL un bx us ps = some t' ∧ t = (x, t') := by
  unfold castL at h
  split at h
  · rename_i x t' h1 h2; cases h; exact ⟨x, t', h1, h2, rfl⟩
  · cases h

theorem castL_rep (hun : UniOk un) (hs : St un E N D H e bx a w) {nu' : Nu} : ∀ {us : List U} {ps : List (PV S)} {t : ElL S us} {vs : List Value}, castL un bx us ps = some t → RepL un (ids H) D w ps vs → RepL un nu' D w (injL us t) vs
  | [], [], t, [], _, _ => by simp [injL, RepL]
  | u :: us, p :: ps, t, v :: vs, hc, hr => by
    obtain ⟨x, t', h1, h2, rfl⟩ := castL_cons hc
    simp only [RepL, injL] at hr ⊢
    exact ⟨Rep_inj (cast_dr hun h1 (hs.fz hun hr.1)).2, castL_rep hun hs h2 hr.2⟩
  | [], _ :: _, _, _, hc, _ => by simp [castL] at hc
  | _ :: _, [], _, _, hc, _ => by simp [castL] at hc
  | [], [], _, _ :: _, _, hr => by simp [RepL] at hr
  | _ :: _, _ :: _, _, [], _, hr => by simp [RepL] at hr

def resM (tmps : Array Value) : ResultVar → Sem Value
  | .tmp t => pure (tmps.getD t undef)
  | .cell b T => do loadVar T (← asAddr (tmps.getD b undef))
theorem results_eq (fn : Func) (tmps : Array Value) : results fn tmps = (do let vs ← fn.results.toList.mapM (resM tmps); pure (if hh : vs.toArray.size = 1 then vs.toArray[0] else .tuple vs.toArray)) := by
  have : (fun x : ResultVar => match x with
    | .tmp t => pure (tmps.getD t undef)
    | .cell a t => do loadVar t (← asAddr (tmps.getD a undef))) = resM tmps := by funext x; cases x <;> rfl
  unfold results
  rw [Array.mapM_eq_mapM_toList]
  simp only [map_eq_pure_bind, bind_assoc, pure_bind]
  exact congrArg (fun f => fn.results.toList.mapM f >>= fun vs => pure (if hh : vs.toArray.size = 1 then vs.toArray[0] else .tuple vs.toArray)) this

theorem resPs_run (hun : UniOk un) (ht : TbOk P un tb) (hs : St un E N D H e bx a w) : ∀ {rvs : List ResultVar} {ps : List (PV S)}, resPs un tb e bx rvs = some ps →
    ∃ vs : List Value, (rvs.mapM (resM a.tmps)).run P w = .ok vs w ∧ RepL un (ids H) D w ps vs
  | [], ps, h => by simp [resPs] at h; subst h; exact ⟨[], by simp, by simp [RepL]⟩
  | .tmp t :: r, ps, h => by
    unfold resPs at h
    split at h
    · rename_i p l h1 h2
      cases h
      obtain ⟨vs, g1, g2⟩ := resPs_run hun ht hs h2
      exact ⟨a.tmps.getD t undef :: vs, by simp only [List.mapM_cons, resM, pure_bind, Sem.run_bind, g1, Result.andThen]; rfl, by simp only [RepL]; exact ⟨hs.slots t p h1, g2⟩⟩
    · cases h
  | .cell b T :: r, ps, h => by
    unfold resPs at h
    split at h
    · rename_i q l h1 h2
      split at h
      · rename_i p h3
        cases h
        obtain ⟨vs, g1, g2⟩ := resPs_run hun ht hs h2
        obtain ⟨u, g3, g4⟩ := load_rep hun ht hs h3 (hs.slots b q h1)
        refine ⟨u :: vs, ?_, by simp only [RepL]; exact ⟨g4, g2⟩⟩
        have g5 : (resM a.tmps (.cell b T)).run P w = .ok u w := by
          simp only [resM]
          unfold Instr.loadAt at g3
          generalize a.tmps.getD b undef = vv at g3 ⊢
          cases vv with
          | pointer ad =>
            cases ad with
            | some ad => simpa [asAddr, Instr.sureAddr] using g3
            | none => simp [Instr.sureAddr, stuck, Sem.run_bind] at g3
          | _ => simp [Instr.sureAddr, stuck, Sem.run_bind] at g3
        simp only [List.mapM_cons, Sem.run_bind, g5, Result.andThen, g1]; rfl
      · cases h
    · cases h

theorem rep_one {nu : Nu} {ps : List (PV S)} {vs : List Value} (h : RepL un nu D w ps vs) : Rep un nu D w (one? ps) (if hh : vs.toArray.size = 1 then vs.toArray[0] else .tuple vs.toArray) := by
  match ps, vs, h with
  | [], [], _ => simp [one?, Rep, RepL]
  | [p], [v], h => simpa [one?, RepL] using h
  | p :: q :: ps, v :: x :: vs, h => simp only [one?, Rep]; exact ⟨_, by simp, h⟩
  | [], _ :: _, h => simp [RepL] at h
  | _ :: _, [], h => simp [RepL] at h
  | [_], _ :: _ :: _, h => simp [RepL] at h
  | _ :: _ :: _, [_], h => simp [RepL] at h

theorem results_frozen (hun : UniOk un) (ht : TbOk P un tb) (hs : St un E N D H e bx a w) {fn : Func} {ps : List (PV S)} (h : resPs un tb e bx fn.results.toList = some ps) :
    ∃ v D' H' vs, (results fn a.tmps).run P w = .ok v w ∧ v = (if hh : vs.toArray.size = 1 then vs.toArray[0] else .tuple vs.toArray) ∧ St un E N D' H' e (freezeB (rowsL ps) bx) a w ∧ ids H' = ids H ∧ Ge D w D' w ∧ (∀ k o, D' k o → D k o ∨ E.may k) ∧ RepL un (ids H') D' w ps vs := by
  obtain ⟨vs, h1, h2⟩ := resPs_run hun ht hs h
  obtain ⟨D', H', k1, k2, k3, k4⟩ := hs.freeze (rowsL ps)
  refine ⟨_, D', H', vs, ?_, rfl, k1, k2, k3, k4, ?_⟩
  · rw [results_eq]; simp only [Sem.run_bind, h1, Result.andThen]; rfl
  · rw [k2]; exact h2.ge k3 fun _ _ h => h
theorem results_run (hun : UniOk un) (ht : TbOk P un tb) (hs : St un E N D H e bx a w) {fn : Func} {ps : List (PV S)} (h : resPs un tb e bx fn.results.toList = some ps) {rs : List U} {t : ElL S rs} (hc : castL un (freezeB (rowsL ps) bx) rs ps = some t) :
    ∃ v D' H', (results fn a.tmps).run P w = .ok v w ∧ Rep un [] D' w (one? (injL rs t)) v ∧ St un E N D' H' e (freezeB (rowsL ps) bx) a w ∧ ids H' = ids H ∧ Ge D w D' w ∧ (∀ k o, D' k o → D k o ∨ E.may k) := by
  obtain ⟨v, D', H', vs, h1, h2, h3, h4, h5, h6, h7⟩ := results_frozen hun ht hs h
  refine ⟨v, D', H', h1, ?_, h3, h4, h5, h6⟩
  rw [h2]; exact rep_one (castL_rep hun h3 (nu' := []) hc h7)

theorem look_argEnv : ∀ (l : List (PV S)) (k i : Nat) (v : PV S), look (argEnv k l) i = some v → k ≤ i ∧ l[i - k]? = some v
  | [], _, _, _, h => by cases h
  | u :: r, k, i, v, h => by
    simp only [argEnv, look] at h
    cases hb : Nat.beq k i with
    | true => rw [hb] at h; have : k = i := Nat.eq_of_beq_eq_true hb; subst this; simp at h; subst h; simp
    | false =>
      rw [hb] at h
      obtain ⟨h1, h2⟩ := look_argEnv r (k + 1) i v h
      refine ⟨by omega, ?_⟩
      rw [show i - k = (i - (k + 1)) + 1 by omega]; simpa using h2

theorem RepL.len {nu : Nu} : ∀ {ps : List (PV S)} {vs : List Value}, RepL un nu D w ps vs → ps.length = vs.length
  | [], [], _ => rfl
  | p :: ps, v :: vs, hr => by simp only [RepL] at hr; simp [RepL.len hr.2]
  | _ :: _, [], hr => by simp [RepL] at hr
  | [], _ :: _, hr => by simp [RepL] at hr

/-- A function that is read by its text comes back with what the reading says. -/
theorem fnI_back (hmix : P.follows .mixedOrders = true) (hun : UniOk un) (ht : TbOk P un tb) (hor : SoundO P un orc) (hin : SoundI P un inl) {fn : Func} {args : List (PV S)} {rs : List U} {r : ElL S rs} {f : FuncId}
    (h : fnI un tb orc inl an fn args bx rs = some r) (hf : P.funcs[f]? = some fn) {vs : List Value} (hD : ∀ k o, D k o → k < w.heap.size) (hH : ∀ r ∈ H, ∃ id, r = .ref id) (hbx : BxRep un (ids H) D w ⟨w, [], []⟩ bx H) (ha : RepL un (ids H) D w args vs) :
    Back P un D f vs.toArray w (one? (injL rs r)) := by
  unfold fnI at h
  split at h
  · cases h
  · rename_i c hb
    obtain ⟨h0, h⟩ := bif_some h
    simp only [Bool.and_eq_true, List.all_eq_true, Nat.blt_eq, Nat.ble_eq] at h0
    refine calls_of_wp hf hb ?_
    have hlen := ha.len
    have hst : St un ⟨w, [], []⟩ ⟨fn.ntmps, []⟩ D H (argEnv 0 args) bx { tmps := vs.toArray ++ Array.replicate (fn.ntmps - vs.toArray.size) undef, defers := [] } w := by
      refine ⟨⟨Wl.Grow.refl _ _, hD, fun r hr => ?_, fun r hr g hg => ?_, ?_, fun i g hi => by simp at hi⟩, ?_, rfl, hbx, fun i p hi => ?_⟩
      · obtain ⟨id, rfl⟩ := hH r hr; trivial
      · obtain ⟨id, rfl⟩ := hH r hr; cases hg
      · refine List.Pairwise.imp_of_mem (R := fun _ _ => True) (fun {r r'} hr hr' _ => ?_) (List.pairwise_of_forall fun _ _ => trivial)
        obtain ⟨id, rfl⟩ := hH r hr
        intro g hg; cases hg
      · simp; omega
      · obtain ⟨_, h1⟩ := look_argEnv args 0 i p hi
        obtain ⟨v, h2, h3⟩ := ha.get i p (by simpa using h1)
        have hlt : i < vs.length := (List.getElem?_eq_some_iff.1 h2).1
        simp only [Array.getD_eq_getD_getElem?]
        rw [Array.getElem?_append_left (by simpa using hlt)]
        simpa [h2] using h3
    refine exec_wp (E := ⟨w, [], []⟩) (D0 := D) (N := ⟨fn.ntmps, []⟩) hmix hun (ht.at an) hor hin _ _ _ _ _ _ h h0.1 ⟨D, H, hst, fun k o hk => .inl hk, Ge.refl _ _⟩ fun x e' bx' hk _ _ a' w' hH' => ?_
    have fin : (match resPs un tb e' bx' fn.results.toList with
      | some l => castL un (freezeB (rowsL l) bx') rs l
      | none => none) = some r → a'.defers = [] ∧ ∃ v, (results fn a'.tmps).run P w' = .ok v w' ∧ ∃ v', Ending.returned v = .returned v' ∧ Below w.heap.size w w' ∧ Rep un [] (newD D w w') w' (one? (injL rs r)) v' := by
      intro hk
      split at hk
      · rename_i l hl
        obtain ⟨D1, H1, hs1, hD1, hG1⟩ := hH'
        obtain ⟨v, D', H', g1, g2, hs', _, k3, k4⟩ := results_run (P := P) hun ht hs1 hl hk
        have hD' : ∀ k o, D' k o → D k o ∨ (⟨w, [], []⟩ : Wl.Ctx).may k := fun k o hk => (k4 k o hk).elim (hD1 k o) .inr
        have hg := hs'.inn.out
        refine ⟨hs'.defers, v, g1, v, rfl, ⟨hg.os, hg.tape, hg.output, hg.size, fun k hk => hg.block k hk (by simp)⟩, ?_⟩
        refine g2.ge ⟨fun k o hk => ?_, fun _ _ _ => rfl⟩ fun _ _ h => h
        rcases hD' k o hk with h1 | h1
        · exact .inl h1
        · rcases h1 with h1 | h1
          · exact .inr ⟨h1, hs'.inn.lt k o hk⟩
          · cases h1
      · cases hk
    cases x with
    | normal => exact fin hk
    | ret => exact fin hk
    | exit i => cases hk
    | goto l => cases hk
    | panic ch => cases hk
    | outgrown => cases hk

/-- What the lent boxes hold at the end. -/
theorem lend_end (hun : UniOk un) (hs : St un E N D H e bx a w) {D' : Dat} (hge : Ge D w D' w) : ∀ {ts : List TypeId} {lc : List U} {gs ls : List Nat} {c : ElL S lc}, lend un bx ts lc ls = some c → BlocksOf H ls gs → LentRep un D' w ts lc c gs
  | [], [], [], [], c, _, _ => by simp [LentRep]
  | T :: ts, u :: us, g :: gs, b :: bs, c, h, hb => by
    unfold lend at h
    split at h
    · rename_i T' cs hg
      split at h
      · rename_i x t h1 h2
        obtain ⟨h3, h4⟩ := bif_some h
        cases h4
        simp only [Bool.and_eq_true] at h3
        have hT := Nat.eq_of_beq_eq_true h3.1.1
        subst hT
        simp only [BlocksOf] at hb
        obtain ⟨⟨T0, cs0, hH⟩, hb2⟩ := hb
        obtain ⟨r, hr1, hr2⟩ := hs.boxes.get hg
        rw [hH] at hr1; cases hr1
        simp only [BoxRep] at hr2
        obtain ⟨rfl, hl⟩ := hr2
        simp only [LentRep]
        exact ⟨⟨cs0, (hs.inn.res _ (List.mem_of_getElem? hH)).2, (lend_one hun hs h1 hl).mono hge⟩, lend_end hun hs hge h2 hb2⟩
      · cases h
    · cases h
  | [], [], [], _ :: _, _, h, _ => by simp [lend] at h
  | [], [], _ :: _, [], _, _, hb => by simp [BlocksOf] at hb
  | [], [], _ :: _, _ :: _, _, h, _ => by simp [lend] at h
  | [], _ :: _, _, _, _, h, _ => by simp [lend] at h
  | _ :: _, [], _, _, _, h, _ => by simp [lend] at h
  | _ :: _, _ :: _, _, [], _, h, _ => by simp [lend] at h
  | _ :: _, _ :: _, [], _ :: _, _, _, hb => by simp [BlocksOf] at hb

/-- The blocks as the callee's own boxes. -/
def lentRes (w : World) : List TypeId → List Nat → List Wl.Res
  | T :: ts, g :: gs => .box g T (match w.heap[g]? with | some (.cells cs _ _) => cs.toList | _ => []) :: lentRes w ts gs
  | _, _ => []
theorem lentRes_spec (hf : Flat un) {c : List U} : ∀ {ts : List TypeId} {lc : List U} {t : ElL S lc} {gs : List Nat}, LentRep un D w ts lc t gs → ∀ {nu : Nu} {E : Wl.Ctx},
    BxRep un nu D w E (mkLent un ts lc t) (lentRes w ts gs) ∧ ids (lentRes w ts gs) = ptrIds gs ∧ (lentRes w ts gs).length = gs.length ∧ ts.length = gs.length ∧
    ∀ r ∈ lentRes w ts gs, ∃ g ∈ gs, ∃ T cs, r = .box g T cs ∧ w.heap[g]? = some (.cells cs.toArray T (0, 0))
  | [], [], _, [], _, _, _ => by simp [mkLent, lentRes, BxRep, ids]
  | T :: ts, u :: us, t, g :: gs, h, nu, E => by
    simp only [LentRep] at h
    obtain ⟨⟨cs, h1, h2⟩, h3⟩ := h
    obtain ⟨k1, k2, k3, k4, k5⟩ := lentRes_spec hf (c := c) h3 (nu := nu) (E := E)
    simp only [mkLent, lentRes, h1, BxRep, BoxRep]
    refine ⟨⟨⟨trivial, openEl_rep hf h2⟩, k1⟩, by simpa [ids, resId] using k2, by simp [k3], by simp [k4], fun r hr => ?_⟩
    rcases List.mem_cons.1 hr with rfl | hr
    · exact ⟨g, by simp, T, _, rfl, by simpa using h1⟩
    · obtain ⟨g', m1, m2⟩ := k5 r hr; exact ⟨g', by simp [m1], m2⟩
  | [], [], _, _ :: _, h, _, _ => by simp [LentRep] at h
  | [], _ :: _, _, _, h, _, _ => by simp [LentRep] at h
  | _ :: _, [], _, _, h, _, _ => by simp [LentRep] at h
  | _ :: _, _ :: _, _, [], h, _, _ => by simp [LentRep] at h
theorem lentRes_blocks : ∀ {ts : List TypeId} {gs : List Nat}, ts.length = gs.length → (lentRes w ts gs).map Wl.Res.block = gs.map some
  | [], [], _ => rfl
  | T :: ts, g :: gs, h => by simp only [lentRes, List.map_cons, Wl.Res.block]; rw [lentRes_blocks (by simpa using h)]
  | [], _ :: _, h => by simp at h
  | _ :: _, [], h => by simp at h

theorem unval_val : ∀ {ps : List U} {vs : List Value} {p : ElL S ps}, unval ps vs = some p → valI ps p = vs
  | [], [], _, _ => rfl
  | .int k :: us, v :: vs, p, h => by
    cases v with
    | int k' n =>
      simp only [unval] at h
      split at h
      · rename_i hk t' h1 h2
        have := hk.down; subst this
        cases h
        simp only [valI]; rw [unval_val h2]
      · cases h
    | _ => simp [unval] at h
  | [], _ :: _, _, h => by simp [unval] at h
  | .int _ :: _, [], _, h => by simp [unval] at h
  | .bool :: _, _, _, h => by simp [unval] at h
  | .str :: _, _, _, h => by simp [unval] at h
  | .sl _ :: _, _, _, h => by simp [unval] at h
  | .st _ :: _, _, _, h => by simp [unval] at h
  | .mp _ _ :: _, _, _, h => by simp [unval] at h
  | .rw _ :: _, _, _, h => by simp [unval] at h
theorem unpan_eq {pan : TypeId} {ps : List U} {ch : List PanicEntry} {p : ElL S ps} (h : unpan pan ps ch = some p) : ch = [panE pan ps p] := by
  unfold unpan at h
  split at h
  · rename_i T a
    obtain ⟨h1, h2⟩ := bif_some h
    have := Nat.eq_of_beq_eq_true h1
    subst this
    simp only [panE, unval_val h2]
  · cases h

theorem mkLent_var : ∀ {ts : List TypeId} {lc : List U} {c : ElL S lc} {i : Nat} {b : Box S}, getB (mkLent un ts lc c) i = some b → ∃ T cs, b = .var T cs
  | [], _, _, _, _, h => by simp [mkLent, getB] at h
  | _ :: _, [], _, _, _, h => by simp [mkLent, getB] at h
  | T :: ts, u :: us, t, 0, b, h => by simp [mkLent, getB] at h; exact ⟨_, _, h.symm⟩
  | T :: ts, u :: us, t, i + 1, b, h => mkLent_var (ts := ts) (lc := us) (c := t.2) (i := i) (by simpa [mkLent, getB] using h)
theorem blocks_range : ∀ {gs : List Nat} {k : Nat}, (∀ (i g : Nat), gs[i]? = some g → ∃ T cs, H[k + i]? = some (.box g T cs)) → BlocksOf H (List.range' k gs.length) gs
  | [], _, _ => by simp [BlocksOf]
  | g :: gs, k, h => by
    simp only [List.length_cons, List.range'_succ, BlocksOf]
    exact ⟨h 0 g rfl, blocks_range fun i g' hi => by have := h (i + 1) g' (by simpa using hi); rwa [show k + 1 + i = k + (i + 1) by omega]⟩

/-- A function to which boxes are lent does what the reading says. -/
theorem fnE_sat (hmix : P.follows .mixedOrders = true) (hun : UniOk un) (ht : TbOk P un tb) (hor : SoundO P un orc) (hin : SoundI P un inl) {fn : Func} {args : List (PV S)} {ts : List TypeId} {lc : List U} {c : ElL S lc} {rs ps : List U} {pan : TypeId} {r : Out S lc rs ps} {f : FuncId}
    (h : fnE un tb orc inl an fn args ts lc c rs ps pan = some r) (hf : P.funcs[f]? = some fn) : SatE P un f args ts lc c rs ps pan r := by
  intro D w vs gs hD hgn hgD hl ha
  unfold fnE at h
  split at h
  · cases h
  · rename_i b hb
    obtain ⟨h0, h⟩ := bif_some h
    simp only [Bool.and_eq_true, List.all_eq_true, Nat.blt_eq, Nat.ble_eq] at h0
    obtain ⟨⟨h0, h00⟩, h01⟩ := h0
    refine calls_of_wp hf hb ?_
    have hlen := ha.len
    obtain ⟨k1, k2, k3, k4, k5⟩ := lentRes_spec hun.flat (c := []) hl (nu := ids (lentRes w ts gs)) (E := ⟨w, gs, gs.map fun g => .pointer (some ⟨g, 0, none⟩)⟩)
    have hblk := lentRes_blocks (w := w) k4
    have hst : St un ⟨w, gs, gs.map fun g => .pointer (some ⟨g, 0, none⟩)⟩ ⟨fn.ntmps, []⟩ D (lentRes w ts gs) (argEnv 0 args) (mkLent un ts lc c) { tmps := vs.toArray ++ Array.replicate (fn.ntmps - vs.toArray.size) undef, defers := [] } w := by
      refine ⟨⟨Wl.Grow.refl _ _, hD, fun r hr => ?_, fun r hr g hg o _ => ?_, ?_, fun i g hi => ?_⟩, ?_, rfl, k1, fun i p hi => ?_⟩
      · obtain ⟨g, hgm, T, cs, rfl, hw⟩ := k5 r hr; exact ⟨.inr hgm, hw⟩
      · obtain ⟨g', hgm, T, cs, rfl, hw⟩ := k5 r hr
        simp [Wl.Res.block] at hg; subst hg
        exact hgD _ hgm o
      · have h1 : (gs.map some).Pairwise (fun (x y : Option Nat) => ∀ g, x = some g → y ≠ some g) := by
          rw [List.pairwise_map]
          exact List.Pairwise.imp (fun {a b} hab g hg hg' => by simp at hg hg'; exact hab (hg.trans hg'.symm)) hgn
        rw [← hblk, List.pairwise_map] at h1
        exact h1
      · have hid : (ids (lentRes w ts gs))[i]? = (ptrIds gs)[i]? := by rw [k2]
        simp only [List.getElem?_map, Option.map_eq_some_iff] at hi
        obtain ⟨g0, hi', rfl⟩ := hi
        simp only [ids, List.getElem?_map, hi', Option.map_some] at hid
        cases hr : (lentRes w ts gs)[i]? with
        | none => rw [hr] at hid; cases hid
        | some r0 =>
          rw [hr] at hid
          obtain ⟨g1, _, T0, cs0, rfl, _⟩ := k5 r0 (List.mem_of_getElem? hr)
          simp [resId] at hid
          subst hid
          exact ⟨_, rfl, rfl, rfl⟩
      · simp; omega
      · obtain ⟨_, h1⟩ := look_argEnv args 0 i p hi
        obtain ⟨v, h2, h3⟩ := ha.get i p (by simpa using h1)
        have hlt : i < vs.length := (List.getElem?_eq_some_iff.1 h2).1
        rw [k2]
        simp only [Array.getD_eq_getD_getElem?]
        rw [Array.getElem?_append_left (by simpa using hlt)]
        simpa [h2] using h3
    refine exec_wp (E := ⟨w, gs, gs.map fun g => .pointer (some ⟨g, 0, none⟩)⟩) (D0 := D) (N := ⟨fn.ntmps, []⟩) hmix hun (ht.at an) hor hin _ _ _ _ _ _ h h0 ⟨D, _, hst, fun k o hk => .inl hk, Ge.refl _ _⟩ fun x e' bx' hk _ hpb a' w' hH' => ?_
    obtain ⟨D', H', hs', hD', _⟩ := hH'
    have hg := hs'.inn.out
    have hboxat : ∀ {H' : List Wl.Res} {D' : Dat}, In ⟨w, gs, gs.map fun g => .pointer (some ⟨g, 0, none⟩)⟩ D' H' w' → ∀ (i g : Nat), gs[i]? = some g → ∃ T cs, H'[i]? = some (.box g T cs) := by
      intro H' D' hin i g hi
      obtain ⟨r0, h1, h2, h3⟩ := hin.lent i (.pointer (some ⟨g, 0, none⟩)) (by simp [hi])
      cases r0 with
      | box g' T cs => simp [resId] at h3; subst h3; exact ⟨T, cs, h1⟩
      | fix v g' size ob =>
        simp [resId] at h3
        subst h3
        exact absurd (hin.res _ (List.mem_of_getElem? h1)).1 (fixOk_ptr _)
      | _ => simp [isCell] at h2
    have hnogs : ∀ {H' : List Wl.Res} {D' : Dat}, In ⟨w, gs, gs.map fun g => .pointer (some ⟨g, 0, none⟩)⟩ D' H' w' → ∀ g ∈ gs, ∀ o, ¬ D' g o := by
      intro H' D' hin g hgm o
      obtain ⟨i, hi⟩ := List.getElem?_of_mem hgm
      obtain ⟨T, cs, h1⟩ := hboxat hin i g hi
      exact hin.apart _ (List.mem_of_getElem? h1) g rfl o trivial
    have hup : ∀ {H' : List Wl.Res} {D' : Dat}, In ⟨w, gs, gs.map fun g => .pointer (some ⟨g, 0, none⟩)⟩ D' H' w' → (∀ k o, D' k o → D k o ∨ (⟨w, gs, gs.map fun g => .pointer (some ⟨g, 0, none⟩)⟩ : Wl.Ctx).may k) → Ge D' w' (newD D w w') w' := by
      intro H' D' hin hD'
      refine ⟨fun k o hk => ?_, fun _ _ _ => rfl⟩
      rcases hD' k o hk with h1 | h1
      · exact .inl h1
      · rcases h1 with h1 | h1
        · exact .inr ⟨h1, hin.lt k o hk⟩
        · exact absurd hk (hnogs hin k h1 o)
    have hbl : ∀ {H' : List Wl.Res} {D' : Dat}, In ⟨w, gs, gs.map fun g => .pointer (some ⟨g, 0, none⟩)⟩ D' H' w' → BlocksOf H' (List.range ts.length) gs := by
      intro H' D' hin
      rw [List.range_eq_range', k4]
      exact blocks_range fun i g hi => by simpa using hboxat hin i g hi
    have hsame : sameLen w w' gs := by
      intro g hgm T cs hw
      obtain ⟨i, hi⟩ := List.getElem?_of_mem hgm
      have hil : i < gs.length := (List.getElem?_eq_some_iff.1 hi).1
      obtain ⟨b0, hb0⟩ := getB_some (bx := mkLent un ts lc c) (i := i) (by rw [k1.length, k3]; exact hil)
      obtain ⟨T1, csP, rfl⟩ := mkLent_var hb0
      obtain ⟨r0, hr1, hr2⟩ := k1.get hb0
      obtain ⟨g0, _, T0, cs0, rfl, hw0⟩ := k5 r0 (List.mem_of_getElem? hr1)
      have hid : (ids (lentRes w ts gs))[i]? = (ptrIds gs)[i]? := by rw [k2]
      simp only [ids, List.getElem?_map, hr1, hi, Option.map_some, resId] at hid
      simp at hid
      subst hid
      simp only [BoxRep] at hr2
      obtain ⟨rfl, hl2⟩ := hr2
      rw [hw] at hw0
      simp at hw0
      obtain ⟨hcs, rfl⟩ := hw0
      obtain ⟨csP', hb1, hlenP⟩ := hpb.var i _ _ hb0
      obtain ⟨r1, hr3, hr4⟩ := hs'.boxes.get hb1
      obtain ⟨T2, cs2, hr5⟩ := hboxat hs'.inn i _ hi
      rw [hr3] at hr5; cases hr5
      simp only [BoxRep] at hr4
      obtain ⟨rfl, hl3⟩ := hr4
      refine ⟨cs2.toArray, ?_, (hs'.inn.res _ (List.mem_of_getElem? hr3)).2⟩
      have e1 := hl2.length
      have e2 := hl3.length
      rw [hcs]; simp; omega
    have fin : finE un tb fn e' bx' ts lc rs ps = some r → a'.defers = [] ∧ ∃ v, (results fn a'.tmps).run P w' = .ok v w' ∧ EndE un D w ts lc rs ps pan gs r (.returned v) w' := by
      intro hk
      unfold finE at hk
      split at hk
      · rename_i l hl'
        split at hk
        · rename_i t c' hc1 hc2
          cases hk
          obtain ⟨v, D2, H2, g1, g2, hs2, _, _, m4⟩ := results_run (P := P) hun ht hs' hl' hc1
          have hge := hup hs2.inn fun k o hk => (m4 k o hk).elim (hD' k o) .inr
          refine ⟨hs'.defers, v, g1, ⟨hg.os, hg.tape, hg.output, hg.size, hg.block⟩, ⟨v, rfl, g2.ge hge fun _ _ h => h⟩, lend_end hun hs2 hge hc2 (hbl hs2.inn)⟩
        · cases hk
      · cases hk
    cases x with
    | normal => exact fin hk
    | ret => exact fin hk
    | panic ch =>
      simp only at hk
      split at hk
      · rename_i p hp
        cases hk
        refine ⟨hs'.defers, ⟨hg.os, hg.tape, hg.output, hg.size, hg.block⟩, ?_, hsame⟩
        rw [unpan_eq hp]
      · cases hk
    | exit i => cases hk
    | goto l => cases hk
    | outgrown => cases hk

theorem inlN_sound (hmix : P.follows .mixedOrders = true) (hun : UniOk un) (ht : TbOk P un tb) (hor : SoundO P un orc) : ∀ n, SoundI P un (inlN un tb orc n)
  | 0 => ⟨fun _ _ _ _ _ _ _ _ _ _ _ h => by simp [inlN] at h, fun _ _ _ _ _ _ _ h => by simp [inlN] at h⟩
  | n + 1 => ⟨fun fn an args ts lc c rs ps pan r f h hf => fnE_sat hmix hun ht hor (inlN_sound hmix hun ht hor n) h hf, fun fn an args bx rs r f h hf D H w vs hD hH hbx ha => fnI_back hmix hun ht hor (inlN_sound hmix hun ht hor n) h hf hD hH hbx ha⟩

theorem fnF_sat (hmix : P.follows .mixedOrders = true) (hun : UniOk un) (ht : TbOk P un tb) (hor : SoundO P un orc) {fn : Func} {args : List (PV S)} {ts : List TypeId} {lc : List U} {c : ElL S lc} {rs ps : List U} {pan : TypeId} {r : Out S lc rs ps} {f : FuncId}
    (h : fnF un tb orc an fn args ts lc c rs ps pan = some r) (hf : P.funcs[f]? = some fn) : SatE P un f args ts lc c rs ps pan r :=
  fnE_sat hmix hun ht hor (inlN_sound hmix hun ht hor 6) h hf
/-- What the reading of a function says, the function does. -/
theorem fnM_sat (hmix : P.follows .mixedOrders = true) (hun : UniOk un) (ht : TbOk P un tb) (hor : SoundO P un orc) {fn : Func} {args : List (PV S)} {rs : List U} {r : ElL S rs} {f : FuncId}
    (h : fnM un tb orc an fn args rs = some r) (hf : P.funcs[f]? = some fn) : Sat P un f args rs r :=
  fun D w vs hD ha => fnI_back (H := []) hmix hun ht hor (inlN_sound hmix hun ht hor 6) h hf hD (by simp) (by simp only [BxRep]) ha
end
end Pe
end
section
/- Functions to which rows and maps are handed over. -/
namespace Pe
open Go Go.RowKit
variable {S : Nat → Type}
section
variable {P : Program} {un : Uni S} {tb : Tb S} {orc : Orc S} {inl : Inl S} {an : Ann} {E E' : Wl.Ctx} {D D' : Dat} {H : List Wl.Res} {N : Wl.Fr} {e : Env S} {bx : Bxs S} {a : Act} {w w' : World}

theorem shape_len : ∀ (as : List Arg) (ps : List (PV S)), (shape as ps).length ≤ as.length
  | [], _ => by simp [shape]
  | .one _ :: as, p :: ps => by simp only [shape, List.length_cons]; have := shape_len as ps; omega
  | .one _ :: as, [] => by simp only [shape, List.length_cons]; have := shape_len as ([] : List (PV S)); omega
  | .agg cs :: as, ps => by simp only [shape, List.length_cons]; have := shape_len as (ps.drop cs.length); omega
  | .ref k :: as, ps => by simp only [shape, List.length_cons]; have := shape_len as ps; omega
  | .ptr k off :: as, ps => by simp only [shape, List.length_cons]; have := shape_len as ps; omega

theorem resCells_arg : ∀ {rs : List Arg} {l ps : List (PV S)}, resCells rs l = some ps → argCells [] rs l = some ps
  | [], [], ps, h => by simpa [resCells, argCells] using h
  | .one c :: rs, p :: l, ps, h => by
    unfold resCells at h
    unfold argCells
    split at h
    · rename_i l' h1; rw [resCells_arg h1]; exact h
    · cases h
  | .agg cs :: rs, p :: l, ps, h => by
    cases p with
    | agg q =>
      unfold resCells at h
      unfold argCells
      split at h
      · rename_i l' h1; rw [resCells_arg h1]; exact h
      · cases h
    | _ => simp [resCells] at h
  | .ref _ :: _, l, _, h => by simp [resCells] at h
  | .ptr _ _ :: _, l, _, h => by simp [resCells] at h
  | [], _ :: _, _, h => by simp [resCells] at h
  | .one _ :: _, [], _, h => by simp [resCells] at h
  | .agg _ :: _, [], _, h => by simp [resCells] at h

theorem mkLin_rep2 {nu nu' : Nu} : ∀ {bs : List (Bool × TypeId × List CTy)} {ls : List Nat} {ps : List (PV S)} {rest : List Value}, ls.length = bs.length → (∀ (k b : Nat) (fl : Bool) (T : TypeId) (l : List CTy), ls[k]? = some b → bs[k]? = some (fl, T, l) → ∃ cs, getB bx b = some (.var T cs) ∧ cs.length = l.length) → BxRep un nu D w E bx H → RepL un nu' D' w' ps (valsOf H (ls.zip (bs.map (·.2.2))) ++ rest) →
    BxRep un nu' D' w' E' (mkLin bs ps) (ls.map fun b => (H[b]?).getD (.ref (false, undef)))
  | [], [], _, _, _, _, _, _ => by simp [mkLin, BxRep]
  | (fl, T, l) :: bs, b :: ls, ps, rest, hl, hb, hx, hr => by
    obtain ⟨cs, hg, hcl⟩ := hb 0 b fl T l rfl rfl
    obtain ⟨r, g1, g2, g3, g4, g5⟩ := var_cells hx hg
    have h0 : (cellsAt H b).length = l.length := by rw [g3, ← g4.length]; exact hcl
    simp only [List.map_cons, List.zip_cons_cons, valsOf, List.append_assoc] at hr
    have h1 := hr.take l.length
    have h2 := hr.drop l.length
    rw [← h0, List.take_left] at h1
    rw [← h0, List.drop_left] at h2
    rw [h0] at h1 h2
    simp only [mkLin, List.map_cons, BxRep, g1, Option.getD_some]
    exact ⟨recell g5 (by rw [← g3]; exact h1), mkLin_rep2 (by simpa using hl) (fun k b' fl' T' l' k1 k2 => hb (k + 1) b' fl' T' l' (by simpa using k1) (by simpa using k2)) hx h2⟩
  | [], _ :: _, _, _, hl, _, _, _ => by simp at hl
  | _ :: _, [], _, _, hl, _, _, _ => by simp at hl

theorem mkLin_at : ∀ {bs : List (Bool × TypeId × List CTy)} {ps : List (PV S)} {k : Nat} {fl : Bool} {T : TypeId} {l : List CTy}, bs[k]? = some (fl, T, l) → ((bs.map (·.2.2)).flatten).length ≤ ps.length → ∃ cs, getB (mkLin bs ps) k = some (.var T cs) ∧ cs.length = l.length
  | (fl0, T0, l0) :: bs, ps, 0, fl, T, l, h, hp => by
    simp at h
    obtain ⟨rfl, rfl, rfl⟩ := h
    simp at hp
    exact ⟨_, rfl, by simp; omega⟩
  | (fl0, T0, l0) :: bs, ps, k + 1, fl, T, l, h, hp => by
    simp only [List.map_cons, List.flatten_cons, List.length_append] at hp
    simpa [mkLin, getB] using mkLin_at (bs := bs) (ps := ps.drop l0.length) (k := k) (by simpa using h) (by rw [List.length_drop]; omega)
  | [], _, _, _, _, _, h, _ => by simp at h

theorem nrs_zip : ∀ (bs : List (Bool × TypeId × List CTy)) (n : Nat), nrs n bs = (List.range' n bs.length).zip (bs.map (·.2.2))
  | [], _ => by simp [nrs]
  | (_, _, l) :: bs, n => by simp only [nrs, List.length_cons, List.range'_succ, List.map_cons, List.zip_cons_cons]; rw [nrs_zip bs (n + 1)]

theorem vals_len : ∀ {bs : List (List CTy)} {ls : List Nat}, ls.length = bs.length → (∀ (k b : Nat) l, ls[k]? = some b → bs[k]? = some l → (cellsAt H b).length = l.length) → (valsOf H (ls.zip bs)).length = bs.flatten.length
  | [], [], _, _ => rfl
  | l :: bs, b :: ls, hl, h => by
    simp only [List.zip_cons_cons, valsOf, List.length_append, List.flatten_cons]
    rw [h 0 b l rfl rfl, vals_len (by simpa using hl) fun k b' l' k1 k2 => h (k + 1) b' l' (by simpa using k1) (by simpa using k2)]
  | [], _ :: _, hl, _ => by simp at hl
  | _ :: _, [], hl, _ => by simp at hl

/-- A function to which rows and maps are handed over does what the reading says. -/
theorem fnL_sat (hmix : P.follows .mixedOrders = true) (hun : UniOk un) (ht : TbOk P un tb) (hor : SoundO P un orc) (hin : SoundI P un inl) {fn : Func} {g : Sg} {t : g.In S} {r : g.Out S} {f : FuncId}
    (h : fnL un tb orc inl an fn g t = some r) (hf : P.funcs[f]? = some fn) : SatL P un f g t r := by
  intro D w vs H fx hfx hI hbx hargs
  unfold fnL at h
  split at h
  · cases h
  · rename_i b hb
    obtain ⟨h0, h⟩ := bif_some h
    simp only [Bool.and_eq_true, List.all_eq_true, Nat.blt_eq, Nat.ble_eq] at h0
    obtain ⟨h0, h00⟩ := h0
    refine calls_of_wp hf hb ?_
    have hlen := hargs.len
    have hle := shape_len g.as ((mkPs g.ins t g.bs.length).drop g.nb)
    have hst : St un ⟨w, blocksOf H, fx⟩ ⟨fn.ntmps, []⟩ D H (argEnv 0 (shape g.as ((mkPs g.ins t g.bs.length).drop g.nb))) (mkLin g.bs (mkPs g.ins t g.bs.length) ++ mkOwn g.ins t) { tmps := vs.toArray ++ Array.replicate (fn.ntmps - vs.toArray.size) undef, defers := [] } w := by
      refine ⟨hI, ?_, rfl, hbx, fun i p hi => ?_⟩
      · simp; omega
      · obtain ⟨_, h1⟩ := look_argEnv _ 0 i p hi
        obtain ⟨v, h2, h3⟩ := hargs.get i p (by simpa using h1)
        have hlt : i < vs.length := (List.getElem?_eq_some_iff.1 h2).1
        simp only [Array.getD_eq_getD_getElem?]
        rw [Array.getElem?_append_left (by simpa using hlt)]
        simpa [h2] using h3
    have hin0 : ((g.bs.map (·.2.2)).flatten).length ≤ (mkPs g.ins t g.bs.length).length := by rw [mkPs_length]; simp [Sg.ins]
    refine exec_wp (E := ⟨w, blocksOf H, fx⟩) (D0 := D) (N := ⟨fn.ntmps, []⟩) hmix hun (ht.at an) hor hin _ _ _ _ _ _ h h0 ⟨D, H, hst, fun k o hk => .inl hk, Ge.refl _ _⟩ fun x e' bx' hk _ hpb a' w' hH' => ?_
    obtain ⟨D1, H1, hs1, hD1, hG1⟩ := hH'
    have hvar : ∀ (k : Nat) (fl : Bool) (T : TypeId) (l : List CTy), g.bs[k]? = some (fl, T, l) → ∃ cs, getB bx' k = some (.var T cs) ∧ cs.length = l.length := by
      intro k fl T l hkk
      obtain ⟨cs, k1, k2⟩ := mkLin_at hkk hin0
      obtain ⟨cs', k3, k4⟩ := hpb.var k T cs (getB_append k1)
      exact ⟨cs', k3, k4.trans k2⟩
    have hvar2 : ∀ {bx2 : Bxs S}, (∀ {i : Nat} {T : TypeId} {cs : List (PV S)}, getB bx' i = some (.var T cs) → getB bx2 i = some (.var T cs)) → ∀ (k b : Nat) (fl : Bool) (T : TypeId) (l : List CTy), (List.range' 0 g.bs.length)[k]? = some b → g.bs[k]? = some (fl, T, l) → ∃ cs, getB bx2 b = some (.var T cs) ∧ cs.length = l.length := by
      intro bx2 h2 k b fl T l k1 k2
      have hkb : b = k := by
        have hkl : k < g.bs.length := (List.getElem?_eq_some_iff.1 k2).1
        rw [List.getElem?_range' hkl] at k1; simp at k1; exact k1.symm
      subst hkb
      obtain ⟨cs, k3, k4⟩ := hvar b fl T l k2
      exact ⟨cs, h2 k3, k4⟩
    have fin : finL un tb fn g e' bx' = some r → a'.defers = [] ∧ ∃ v, (results fn a'.tmps).run P w' = .ok v w' ∧ EndL un D w H fx g r (.returned v) w' := by
      intro hk
      unfold finL at hk
      split at hk
      · rename_i l hl
        split at hk
        · rename_i ps qs hps hqs
          split at hk
          · rename_i t' htell
            cases hk
            obtain ⟨vs', h1, h2⟩ := resPs_run (P := P) hun ht hs1 hl
            unfold tellT at htell
            obtain ⟨hro, hct⟩ := bif_some htell
            obtain ⟨D2, H2, hs2, hids, hG2, hup2⟩ := hs1.freeze (frs g.outs (qs ++ ps))
            have hqs2 := varsOf_freeze (ks := frs g.outs (qs ++ ps)) hqs
            have hv2 := hvar2 (bx2 := freezeB (frs g.outs (qs ++ ps)) bx') fun hg => getB_freeze _ hg (by intros; simp)
            generalize freezeB (frs g.outs (qs ++ ps)) bx' = bx2 at hro hct hs2 hqs2 hv2
            obtain ⟨hq1, hq2⟩ := varsOf_rep hs2.boxes hqs2
            have h2' : RepL un (ids H2) D2 w' l vs' := by rw [hids]; exact h2.ge hG2 fun _ _ h => h
            obtain ⟨pv, hpv, hisr⟩ := argCells_is (resCells_arg hps) h2'
            obtain ⟨bs, rs, g1, g2, g3, g4, g5, _⟩ := cut_rows hun hs2 g.outs (qs ++ ps) _ [] t' g.bs.length hro hct (hq1.append hpv)
            rw [nrs_zip] at hq1 hq2
            simp only [nrs_zip] at g5
            generalize hHl : ((List.range' 0 g.bs.length).map fun b => (H2[b]?).getD (.ref (false, undef))) = Hl
            have hHll : Hl.length = g.bs.length := by rw [← hHl]; simp
            have hHlget : ∀ (k : Nat), k < g.bs.length → ∃ r, H2[k]? = some r ∧ isCell r = true ∧ Hl[k]? = some r ∧ (∃ T cs, getB bx2 k = some (.var T cs)) := by
              intro k hkl
              obtain ⟨cs, k1, _⟩ := hv2 k k _ _ _ (by rw [List.getElem?_range' hkl]; simp) (List.getElem?_eq_getElem hkl)
              obtain ⟨r, k2, k3, _⟩ := var_cells hs2.boxes k1
              exact ⟨r, k2, k3, by rw [← hHl]; simp [List.getElem?_range' hkl, k2], _, _, k1⟩
            have hnu : ∀ (i : Nat) r, rs[i]? = some r → (ids (Hl ++ rs))[g.bs.length + i]? = some (resId r) := by
              intro i r hr
              simp only [ids, List.getElem?_map]
              rw [List.getElem?_append_right (by omega), hHll, Nat.add_sub_cancel_left, hr]; rfl
            have hP := g5 _ hnu
            have hvl : (valsOf H2 ((List.range' 0 g.bs.length).zip (g.bs.map (·.2.2)))).length = g.nb := vals_len (by simp) fun k b l k1 k2 => (hq2 b l (zip_get k1 k2)).2
            have hdrop := hP.drop g.nb
            rw [← hvl, List.drop_left] at hdrop
            rw [hvl] at hdrop
            have hres := shape_rep (nu' := ids (Hl ++ rs)) (fun k b x hk _ => by simp at hk) hisr hdrop
            have hone := rep_one hres
            have hpick : In ⟨w, blocksOf H, fx⟩ D2 (Hl ++ rs) w' := by
              refine hs2.inn.pick (fun k => if k < g.bs.length then some k else (bs[k - g.bs.length]?).join) (fun k r hk => ?_) (fun k k' i hk hk' => ?_) (fun i v hv => ?_)
              · rcases Nat.lt_or_ge k g.bs.length with hlt | hge
                · rw [List.getElem?_append_left (by omega)] at hk
                  obtain ⟨r', k1, _, k3, _⟩ := hHlget k hlt
                  rw [hk] at k3; cases k3
                  exact .inr ⟨k, by simp only [if_pos hlt], k1⟩
                · rw [List.getElem?_append_right (by omega), hHll] at hk
                  rcases comes_get g1 _ r hk with ⟨b, m1, m2, _⟩ | ⟨m1, T, size, m2⟩
                  · exact .inr ⟨b, by simp only [if_neg (show ¬ k < g.bs.length by omega), m1]; rfl, m2⟩
                  · left
                    rcases m2 with rfl | rfl
                    · exact ⟨rfl, World.ownsRow_nil _ _ _ _, fun g hg => by simp [Value.ownBlock] at hg⟩
                    · exact ⟨rfl, World.ownsRow_nil _ _ _ _, fun g hg => by simp [Value.ownBlock] at hg⟩
              · have second : ∀ k i, (bs[k - g.bs.length]?).join = some i → bs[k - g.bs.length]? = some (some i) := by
                  intro k i h
                  cases hx : bs[k - g.bs.length]? with
                  | none => rw [hx] at h; cases h
                  | some y => rw [hx] at h; cases y with
                    | none => cases h
                    | some z => cases h; rfl
                have clash : ∀ k k', k < g.bs.length → (bs[k' - g.bs.length]?).join = some k → False := by
                  intro k k' hlt hk'
                  obtain ⟨_, _, _, _, T, cs, m1⟩ := hHlget k hlt
                  obtain ⟨_, x, m2, m3⟩ := g2 k (List.mem_of_getElem? (second k' k hk'))
                  rw [m1] at m2; cases m2; simp [isRow] at m3
                split at hk
                · rename_i hlt
                  cases hk
                  split at hk'
                  · cases hk'; rfl
                  · exact (clash k k' hlt hk').elim
                · rename_i hge
                  split at hk'
                  · rename_i hlt'
                    cases hk'
                    exact (clash k' k hlt' hk).elim
                  · have := nodup_inj g3 _ _ i (second k i hk) (second k' i hk')
                    omega
              · obtain ⟨r, m1, m2, m3⟩ := hs2.inn.lent i v hv
                have hil : i < g.bs.length := by rw [← hfx]; exact (List.getElem?_eq_some_iff.1 hv).1
                obtain ⟨r', k1, _, k3, _⟩ := hHlget i hil
                rw [m1] at k1; cases k1
                exact ⟨r, by rw [List.getElem?_append_left (by omega)]; exact k3, m2, m3⟩
            refine ⟨hs1.defers, _, by rw [results_eq]; simp only [Sem.run_bind, h1, Result.andThen]; rfl, D2, Hl ++ rs, hpick, hG1.trans hG2, fun k o hk => (hup2 k o hk).elim (hD1 k o) .inr, ?_, _, rfl, hone⟩
            refine BxRep.append' ?_ (g4 _ _)
            have := mkLin_rep2 (E' := ⟨w, blocksOf H, fx⟩) (ls := List.range' 0 g.bs.length) (by simp) hv2 hs2.boxes hP
            rw [hHl] at this
            exact this
          · cases hk
        · cases hk
      · cases hk
    cases x with
    | normal => exact fin hk
    | ret => exact fin hk
    | panic ch =>
      simp only at hk
      split at hk
      · rename_i p hp
        cases hk
        have hv1 := hvar2 (bx2 := bx') fun h => h
        generalize hHl : ((List.range' 0 g.bs.length).map fun b => (H1[b]?).getD (.ref (false, undef))) = Hl
        have hHll : Hl.length = g.bs.length := by rw [← hHl]; simp
        have hHlget : ∀ (k : Nat), k < g.bs.length → ∃ r, H1[k]? = some r ∧ isCell r = true ∧ Hl[k]? = some r := by
          intro k hkl
          obtain ⟨cs, k1, _⟩ := hv1 k k _ _ _ (by rw [List.getElem?_range' hkl]; simp) (List.getElem?_eq_getElem hkl)
          obtain ⟨r, k2, k3, _⟩ := var_cells hs1.boxes k1
          exact ⟨r, k2, k3, by rw [← hHl]; simp [List.getElem?_range' hkl, k2]⟩
        have hpick : In ⟨w, blocksOf H, fx⟩ D1 Hl w' := by
          refine hs1.inn.pick (fun k => if k < g.bs.length then some k else none) (fun k r hk => ?_) (fun k k' i hk hk' => ?_) (fun i v hv => ?_)
          · have hkl : k < g.bs.length := by rw [← hHll]; exact (List.getElem?_eq_some_iff.1 hk).1
            obtain ⟨r', k1, _, k3⟩ := hHlget k hkl
            rw [hk] at k3; cases k3
            exact .inr ⟨k, by simp only [if_pos hkl], k1⟩
          · split at hk <;> split at hk' <;> first | (cases hk; done) | (cases hk'; done) | (cases hk; cases hk'; rfl)
          · obtain ⟨r, m1, m2, m3⟩ := hs1.inn.lent i v hv
            have hil : i < g.bs.length := by rw [← hfx]; exact (List.getElem?_eq_some_iff.1 hv).1
            obtain ⟨r', k1, _, k3⟩ := hHlget i hil
            rw [m1] at k1; cases k1
            exact ⟨r, k3, m2, m3⟩
        have hvl : (valsOf H1 ((List.range' 0 g.bs.length).zip (g.bs.map (·.2.2)))).length = g.nb := vals_len (by simp) fun k b l k1 k2 => by
          obtain ⟨⟨fl, T, l'⟩, k3, k4⟩ : ∃ x, g.bs[k]? = some x ∧ x.2.2 = l := by
            simp only [List.getElem?_map, Option.map_eq_some_iff] at k2; exact k2
          simp at k4; subst k4
          obtain ⟨cs, k5, k6⟩ := hv1 k b fl T l' k1 k3
          obtain ⟨r, m1, _, m3, m4, _⟩ := var_cells hs1.boxes k5
          rw [m3, ← m4.length]; exact k6
        refine ⟨hs1.defers, D1, Hl, hpick, hG1, hD1, ?_, ?_⟩
        · have := mkLin_rep2 (E' := ⟨w, blocksOf H, fx⟩) (nu' := ids Hl) (D' := D1) (w' := w') (ls := List.range' 0 g.bs.length) (rest := []) (ps := List.replicate g.nb .junk) (by simp) hv1 hs1.boxes (by rw [List.append_nil]; exact repl_junk hvl)
          rw [hHl] at this
          exact this
        · rw [unpan_eq hp]
      · cases hk
    | exit i => cases hk
    | goto l => cases hk
    | outgrown => cases hk
theorem fnG_sat (hmix : P.follows .mixedOrders = true) (hun : UniOk un) (ht : TbOk P un tb) (hor : SoundO P un orc) {fn : Func} {g : Sg} {t : g.In S} {r : g.Out S} {f : FuncId}
    (h : fnG un tb orc an fn g t = some r) (hf : P.funcs[f]? = some fn) : SatL P un f g t r :=
  fnL_sat hmix hun ht hor (inlN_sound hmix hun ht hor 6) h hf
end
end Pe
end
section
/- The tables of a program: rows that are read off it tell the truth. -/
namespace Pe
open Go Go.RowKit
variable {S : Nat → Type}

theorem mapM_get {α β : Type} {g : α → Option β} : ∀ {l : List α} {m : List β}, l.mapM g = some m → ∀ (i : Nat) (y : β), m[i]? = some y → ∃ x, l[i]? = some x ∧ g x = some y
  | [], m, h, i, y, hy => by simp at h; subst h; simp at hy
  | x :: l, m, h, i, y, hy => by
    rw [List.mapM_cons] at h
    cases hg : g x with
    | none => simp [hg] at h
    | some b =>
      cases hl : l.mapM g with
      | none => simp [hg, hl] at h
      | some bs =>
        simp [hg, hl] at h
        subst h
        cases i with
        | zero => simp at hy; subst hy; exact ⟨x, rfl, hg⟩
        | succ i => simpa using mapM_get hl i y (by simpa using hy)

theorem foldl_splice : ∀ (vs cs : List Value) (off k : Nat), (vs.zipIdx k).foldl (fun (cs : Array Value) (p : Value × Nat) => cs.setIfInBounds (off + p.2) p.1) cs.toArray = (fillL.spliceV cs (off + k) vs).toArray
  | [], _, _, _ => rfl
  | v :: r, cs, off, k => by
    simp only [List.zipIdx_cons, List.foldl_cons, fillL.spliceV, List.setIfInBounds_toArray]
    exact foldl_splice r (cs.set (off + k) v) off (k + 1)
theorem fill_of (place : Nat → Option (Nat × Nat)) : ∀ (ps : List (Nat × Value)) (cs cs' : List Value), fillL place cs ps = some cs' → Instr.fill place cs.toArray ps = some cs'.toArray
  | [], cs, cs', h => by simp only [fillL, Option.some.injEq] at h; subst h; rfl
  | (i, v) :: r, cs, cs', h => by
    simp only [fillL] at h
    unfold Instr.fill
    cases hp : place i with
    | none => rw [hp] at h; cases h
    | some os =>
      obtain ⟨off, size⟩ := os
      rw [hp] at h
      simp only at h ⊢
      obtain ⟨hb, h⟩ := bif_some h
      simp only [Bool.and_eq_true, Nat.ble_eq] at hb
      have hb1 : v.cells.size = size := Nat.eq_of_beq_eq_true hb.1
      have hb2 := hb.2
      rw [if_neg (by simp [hb1]; omega)]
      have := fill_of place r _ _ h
      rw [← this]
      congr 1
      have hf := foldl_splice v.cells.toList cs off 0
      rw [Nat.add_zero] at hf
      rw [← hf, ← Array.foldl_toList]
      simp

def elB (P : Program) (un : Uni S) (T : TypeId) (u : U) : Bool :=
  match P.info? T with
  | some i => (match i.zero with
    | some z => Nat.beq i.size (U.size un u) && Nat.beq z.cells.size (U.size un u) && Nat.blt 0 (U.size un u) && Nat.ble i.bytes 32768
    | none => false)
  | none => false
theorem elB_ok {P : Program} {un : Uni S} {T : TypeId} {u : U} (h : elB P un T u = true) : ElOk P un T u := by
  unfold elB at h
  split at h
  · rename_i i hi
    split at h
    · rename_i z hz
      simp only [Bool.and_eq_true] at h
      obtain ⟨⟨⟨h1, h2⟩, h3⟩, h4⟩ := h
      exact ⟨⟨i, z, hi, hz, Nat.eq_of_beq_eq_true h1, Nat.eq_of_beq_eq_true h2, by simpa [Nat.blt_eq] using h3, by simpa [Nat.ble_eq] using h4⟩⟩
    · cases h
  · cases h

def natPairsB : List (Nat × Nat) → List (Nat × Nat) → Bool
  | [], [] => true
  | (a, b) :: l, (c, d) :: m => Nat.beq a c && Nat.beq b d && natPairsB l m
  | _, _ => false
theorem natPairsB_ok : ∀ {l m : List (Nat × Nat)}, natPairsB l m = true → l = m
  | [], [], _ => rfl
  | (a, b) :: l, (c, d) :: m, h => by
    simp only [natPairsB, Bool.and_eq_true] at h
    obtain ⟨⟨h1, h2⟩, h3⟩ := h
    rw [Nat.eq_of_beq_eq_true h1, Nat.eq_of_beq_eq_true h2, natPairsB_ok h3]
  | [], _ :: _, h => by cases h
  | _ :: _, [], h => by cases h

def fieldsB (P : Program) (fs : List Field) (l : List (Nat × Nat)) : Bool :=
  (match fs.mapM (fun f => (P.info? f.type).map fun i => (f.offset, i.size)) with
  | some m => natPairsB m l
  | none => false) && l.all fun p => Nat.blt 0 p.2

def kdB (P : Program) (un : Uni S) (d : TypeDesc) (r : TyRow S) : Bool :=
  match r.kd, d, r.elem with
  | 0, _, none => true
  | 1, .string, none => true
  | 5, .bool, none => true
  | 2, .slice T, some (T', u) => Nat.beq T T' && elB P un T u
  | 3, .struct fs, none => fieldsB P fs.toList r.fields
  | 4, .array n el, none => (match P.info? el with
    | some i => Nat.blt 0 i.size && natPairsB ((List.range n).map fun j => (j * i.size, i.size)) r.fields
    | none => false)
  | _, _, _ => false
def codeB (r : TyRow S) (d : TypeDesc) : Bool := match r.code, d with
  | some (.int k), .int k' => (kindEq k k').isSome
  | some (.int _), _ => false
  | _, _ => true
def zB (z : Value) (agg : Bool) : Bool := match z with
  | .agg _ => agg
  | .tuple _ => false
  | _ => !agg
def rowB (P : Program) (un : Uni S) (d : TypeDesc) (r : TyRow S) : Bool :=
  codeB r d && (bif r.agg then aggD d else !aggD d && Nat.beq r.n 1) && kdB P un d r && (match r.code with
    | some (.st n) => r.agg && Nat.beq r.n (un.codes n).length
    | _ => true)

theorem row_of {P : Program} {un : Uni S} {t : TypeId} {r : TyRow S} {d : TypeDesc} {z : Value} (hd : P.underlying t = some d) (hz : (P.info? t).bind (·.zero) = some z) (hn : (P.info? t).map (·.size) = some r.n) (hzc : Nat.beq z.cells.size r.n = true)
    (hzz : r.zero = z.cells.toList.map constPV) (hc : rowB P un d r = true) (hzb : zB z r.agg = true) (hmp : ∀ kt k vt v, r.mp = some (kt, k, vt, v) → d = .map kt vt ∧ KeyOk P un kt k)
    (heq : ∀ n, r.code = some (.st n) → ((un.codes n).all U.scalar && Nat.beq r.fields.length (un.codes n).length) = true → ∀ D w t1 t2 c1 c2 op x y, DR un D w (un.codes n) t1 c1 → DR un D w (un.codes n) t2 c2 → ∀ b, (op = .eql ∧ b = eqC (un.codes n) t1 t2 ∨ op = .neq ∧ b = !eqC (un.codes n) t1 t2) →
      (eqGuard op t x y (.agg c1.toArray) (.agg c2.toArray)).run P w = .ok () w ∧ (binOp op t (.agg c1.toArray) (.agg c2.toArray)).run P w = .ok (.bool b) w) : RowOk P un t r := by
  unfold rowB at hc
  simp only [Bool.and_eq_true] at hc
  obtain ⟨⟨⟨h0, h1⟩, h2⟩, h3⟩ := hc
  refine ⟨hn, fun ha => ⟨d, hd, by rw [ha] at h1; exact h1⟩, fun ha => ?_, ⟨z, hz, Nat.eq_of_beq_eq_true hzc, hzz⟩, fun hk => ?_, fun hk => ?_, fun hk => ?_, fun T u he => ?_, fun hk f dd s hf a w => ?_, fun hk f dd s hf a k w => ?_, fun hk z' hz' ps cs w hfl => ?_, fun n hcd => ?_, fun k hcd => ?_, ⟨d, hd⟩, fun z' hz' => ?_, fun kt k vt v hm => by obtain ⟨rfl, h⟩ := hmp kt k vt v hm; exact ⟨hd, h⟩, heq⟩
  · rw [ha] at h1
    simp only [cond_false, Bool.and_eq_true, Bool.not_eq_true'] at h1
    refine ⟨Nat.eq_of_beq_eq_true h1.2, fun w => ?_⟩
    unfold isAgg
    rw [Sem.run_bind, run_underlying hd w]
    cases d <;> simp_all [aggD]
  · unfold kdB at h2; rw [hk] at h2; split at h2 <;> first | (rename_i hx _; cases hx; done) | simp_all
  · unfold kdB at h2; rw [hk] at h2; split at h2 <;> first | (rename_i hx _; cases hx; done) | simp_all
  · unfold kdB at h2
    rw [hk] at h2
    split at h2 <;> first | (simp_all; done) | skip
    rename_i T T' u _ he
    simp only [Bool.and_eq_true] at h2
    have := Nat.eq_of_beq_eq_true h2.1
    subst this
    exact ⟨T, u, he, hd, elB_ok h2.2⟩
  · unfold kdB at h2; rw [he] at h2; split at h2 <;> first | assumption | (simp_all; done)
  · have hfs : ∃ fs, d = .struct fs ∧ fieldsB P fs.toList r.fields = true := by
      unfold kdB at h2
      rw [hk] at h2
      split at h2 <;> first | (simp_all; done) | exact ⟨_, rfl, h2⟩
    clear h2
    obtain ⟨fs, rfl, h2⟩ := hfs
    unfold fieldsB at h2
    simp only [Bool.and_eq_true, List.all_eq_true, Nat.blt_eq] at h2
    obtain ⟨h2, hpos⟩ := h2
    split at h2
    · rename_i m hm
      have := natPairsB_ok h2
      subst this
      obtain ⟨fd, g1, g2⟩ := mapM_get hm f _ hf
      have hs := hpos _ (List.mem_of_getElem? hf)
      simp only [Option.map_eq_some_iff, Prod.mk.injEq] at g2
      obtain ⟨i, g3, g4, g5⟩ := g2
      subst g4 g5
      obtain ⟨k, hk'⟩ : ∃ k, i.size = k + 1 := ⟨i.size - 1, by simp only at hs; omega⟩
      simp [Instr.fieldAt, run_underlying hd, show fs[f]? = some fd by simpa using g1, fieldPlace, Go.sizeOf, typeInfo, g3, hk', Instr.sureAddr]
    · cases h2
  · have hfs : ∃ n el i, d = .array n el ∧ P.info? el = some i ∧ 0 < i.size ∧ ((List.range n).map fun j => (j * i.size, i.size)) = r.fields := by
      unfold kdB at h2
      rw [hk] at h2
      split at h2 <;> first | (simp_all; done) | skip
      rename_i n el _ _
      split at h2
      · rename_i i hi
        simp only [Bool.and_eq_true, Nat.blt_eq] at h2
        exact ⟨n, el, i, rfl, hi, h2.1, natPairsB_ok h2.2⟩
      · cases h2
    obtain ⟨n, el, i, rfl, hi, hpos, hfl⟩ := hfs
    rw [← hfl] at hf
    simp only [List.getElem?_map, Option.map_eq_some_iff, Prod.mk.injEq] at hf
    obtain ⟨j, g1, g2, g3⟩ := hf
    obtain ⟨hlt, hj⟩ := List.getElem?_eq_some_iff.1 g1
    simp only [List.getElem_range] at hj
    simp only [List.length_range] at hlt
    subst hj g2 g3
    simp [Instr.indexAt, asIntOf, run_underlying hd, Instr.sureAddr, Go.sizeOf, typeInfo, hi, hlt]
  · have hfs : ∃ fs, d = .struct fs ∧ fieldsB P fs.toList r.fields = true := by
      unfold kdB at h2
      rw [hk] at h2
      split at h2 <;> first | (simp_all; done) | exact ⟨_, rfl, h2⟩
    clear h2
    obtain ⟨fs, rfl, h2⟩ := hfs
    unfold fieldsB at h2
    simp only [Bool.and_eq_true] at h2
    obtain ⟨h2, _⟩ := h2
    split at h2
    · rename_i m hm
      have := natPairsB_ok h2
      subst this
      refine run_build w t ps.toArray cs.toArray ?_
      unfold Program.built
      cases hi : P.info? t with
      | none => simp [hi] at hz'
      | some it =>
        simp only [hi, Option.bind_some] at hz'
        simp only [hd, hz', hm]
        have := fill_of _ ps _ cs hfl
        simpa using this
    · cases h2
  · rw [hcd] at h3
    simp only [Bool.and_eq_true] at h3
    exact ⟨h3.1, Nat.eq_of_beq_eq_true h3.2⟩
  · unfold codeB at h0
    rw [hcd] at h0
    cases d with
    | int k' =>
      simp only at h0
      cases hk : kindEq k k' with
      | none => rw [hk] at h0; cases h0
      | some x => rw [x.down]; exact hd
    | _ => cases h0
  · rw [hz] at hz'
    cases hz'
    unfold zB at hzb
    refine ⟨fun ha => ?_, fun ha => ?_⟩
    · rw [ha] at hzb
      cases z <;> first | exact ⟨_, rfl⟩ | cases hzb
    · rw [ha] at hzb
      cases z <;> first | (cases hzb; done) | rfl
end Pe
end
section
/- Structs and arrays of scalars are alike when their parts are. -/
namespace Pe
open Go Go.RowKit
variable {S : Nat → Type} {P : Program} {un : Uni S} {D : Dat} {w : World}

def uOk (P : Program) (u : U) (T : TypeId) : Bool := match u, P.underlying T with
  | .int _, some (.int _) => true
  | .bool, some .bool => true
  | .str, some .string => true
  | _, _ => false

theorem part_plain {T : TypeId} {u : U} (h : uOk P u T = true) {xs : Array Value} {off : Nat} {v : Value} (hx : xs[off]? = some v) : (part T xs off).run P w = .ok v w := by
  unfold uOk at h
  cases hu : P.underlying T with
  | none => rw [hu] at h; cases u <;> cases h
  | some d => rw [hu] at h; cases u <;> cases d <;> first | (cases h; done) | simp [part, isAgg, run_underlying hu, hx]

theorem dr_step {T : TypeId} {u : U} {us : List U} {t1 t2 : ElL S (u :: us)} {c1 c2 : List Value} (hs : uOk P u T = true) (h1 : DR un D w (u :: us) t1 c1) (h2 : DR un D w (u :: us) t2 c2) :
    ∃ v1 r1 v2 r2, c1 = v1 :: r1 ∧ c2 = v2 :: r2 ∧ DR un D w us t1.2 r1 ∧ DR un D w us t2.2 r2 ∧ ∀ d, (Op.equalIn (d + 1) T v1 v2).run P w = .ok (eq1 u t1.1 t2.1) w := by
  unfold uOk at hs
  cases hu : P.underlying T with
  | none => rw [hu] at hs; cases u <;> cases hs
  | some ds =>
    rw [hu] at hs
    cases h1 with
    | int h1 =>
      cases h2 with
      | int h2 =>
        cases ds <;> first | (cases hs; done) | skip
        exact ⟨_, _, _, _, rfl, rfl, h1, h2, fun d => run_equalIn_int w d T _ _ _ _ hu⟩
    | bool h1 =>
      cases h2 with
      | bool h2 =>
        cases ds <;> first | (cases hs; done) | skip
        exact ⟨_, _, _, _, rfl, rfl, h1, h2, fun d => run_equalIn_bool w d T _ _ hu⟩
    | str h1 =>
      cases h2 with
      | str h2 =>
        cases ds <;> first | (cases hs; done) | skip
        refine ⟨_, _, _, _, rfl, rfl, h1, h2, fun d => ?_⟩
        rw [run_equalIn_string w d T _ _ hu, toList_str, toList_str]
        rfl
    | sl0 => cases hs
    | sl => cases hs
    | mp => cases hs
    | rw => cases hs
    | st => cases hs

def fldEq (P : Program) : Nat → List Field → List U → Bool
  | _, [], [] => true
  | k, f :: fs, u :: us => f.name != "_" && Nat.beq f.offset k && uOk P u f.type && fldEq P (k + 1) fs us
  | _, _, _ => false

theorem drop_get {xs : List Value} {k : Nat} {v : Value} {r : List Value} (h : xs.drop k = v :: r) : xs.toArray[k]? = some v ∧ xs.drop (k + 1) = r := by
  constructor
  · have : (xs.drop k)[0]? = some v := by rw [h]; rfl
    simpa using this
  · rw [← List.drop_drop, h]; rfl

theorem eqFields_ok {d : Nat} {xs ys : List Value} : ∀ {fs : List Field} {us : List U} {k : Nat} {t1 t2 : ElL S us} {c1 c2 : List Value}, fldEq P k fs us = true → DR un D w us t1 c1 → DR un D w us t2 c2 → xs.drop k = c1 → ys.drop k = c2 →
    (Op.eqFields (d + 1) xs.toArray ys.toArray fs).run P w = .ok (eqC us t1 t2) w
  | [], [], _, _, _, _, _, _, _, _, _, _ => by simp [Op.eqFields, eqC]
  | f :: fs, u :: us, k, t1, t2, c1, c2, hf, h1, h2, hx, hy => by
    simp only [fldEq, Bool.and_eq_true] at hf
    obtain ⟨⟨⟨g1, g2⟩, g3⟩, g4⟩ := hf
    have hk := Nat.eq_of_beq_eq_true g2
    obtain ⟨v1, r1, v2, r2, rfl, rfl, e1, e2, e3⟩ := dr_step g3 h1 h2
    obtain ⟨a1, a2⟩ := drop_get hx
    obtain ⟨b1, b2⟩ := drop_get hy
    have ih := eqFields_ok (d := d) g4 e1 e2 a2 b2
    have hn : f.name ≠ "_" := by simpa using g1
    simp only [Op.eqFields, hn, ne_eq, not_false_eq_true, if_true, Sem.run_bind, hk, part_plain g3 a1, part_plain g3 b1, e3 d, Result.andThen_ok, eqC]
    cases eq1 u t1.1 t2.1 with
    | true => simpa using ih
    | false => simp
  | [], _ :: _, _, _, _, _, _, hf, _, _, _, _ => by simp [fldEq] at hf
  | _ :: _, [], _, _, _, _, _, hf, _, _, _, _ => by simp [fldEq] at hf

theorem eqItems_ok {d : Nat} {xs ys : List Value} {e : TypeId} (he : P.cellsOf e = 1) : ∀ {us : List U} {k : Nat} {t1 t2 : ElL S us} {c1 c2 : List Value}, (us.all fun u => uOk P u e) = true → DR un D w us t1 c1 → DR un D w us t2 c2 → xs.drop k = c1 → ys.drop k = c2 →
    (Op.eqItems (d + 1) e (P.cellsOf e) xs.toArray ys.toArray (List.range' k us.length)).run P w = .ok (eqC us t1 t2) w
  | [], _, _, _, _, _, _, _, _, _, _ => by simp [Op.eqItems, eqC]
  | u :: us, k, t1, t2, c1, c2, hf, h1, h2, hx, hy => by
    simp only [List.all_cons, Bool.and_eq_true] at hf
    obtain ⟨g3, g4⟩ := hf
    obtain ⟨v1, r1, v2, r2, rfl, rfl, e1, e2, e3⟩ := dr_step g3 h1 h2
    obtain ⟨a1, a2⟩ := drop_get hx
    obtain ⟨b1, b2⟩ := drop_get hy
    have ih := eqItems_ok (d := d) he g4 e1 e2 a2 b2
    simp only [he] at ih
    simp only [List.length_cons, List.range'_succ, Op.eqItems, Sem.run_bind, he, Nat.mul_one, part_plain g3 a1, part_plain g3 b1, e3 d, Result.andThen_ok, eqC]
    cases eq1 u t1.1 t2.1 with
    | true => simpa using ih
    | false => simp

def eqB' (P : Program) (t : TypeId) (d : TypeDesc) (us : List U) : Bool := match d with
  | .struct fs => !P.stoodInHeld t && fldEq P 0 fs.toList us
  | .array n e => Nat.beq n us.length && Nat.beq (P.cellsOf e) 1 && us.all fun u => uOk P u e
  | _ => false
def eqB (P : Program) (t : TypeId) (d : TypeDesc) (us : List U) : Bool := !P.eqGuardType P.depth t && eqB' P t d us
theorem eqIn_ok {t : TypeId} {d : TypeDesc} {us : List U} (hd : P.underlying t = some d) (h : eqB' P t d us = true) (D : Dat) (w : World) (t1 t2 : ElL S us) (c1 c2 : List Value) (h1 : DR un D w us t1 c1) (h2 : DR un D w us t2 c2) : (Op.equalIn 10000 t (.agg c1.toArray) (.agg c2.toArray)).run P w = .ok (eqC us t1 t2) w := by
  unfold eqB' at h
  cases d with
  | struct fs =>
    simp only [Bool.and_eq_true, Bool.not_eq_true'] at h
    have hf : P.fieldsOf t = fs := by unfold Program.fieldsOf; rw [hd]
    rw [show (10000 : Nat) = 9999 + 1 from rfl, run_equalIn_agg w 9999 t _ _ (by rw [hf]; exact hd) h.1, hf]
    exact eqFields_ok (d := 9998) h.2 h1 h2 rfl rfl
  | array n e =>
    simp only [Bool.and_eq_true] at h
    obtain ⟨⟨g1, g2⟩, g3⟩ := h
    have hn := Nat.eq_of_beq_eq_true g1
    have he := Nat.eq_of_beq_eq_true g2
    cases hi : P.info? e with
    | none => simp [Program.cellsOf, hi] at he
    | some i =>
      rw [show (10000 : Nat) = 9999 + 1 from rfl, run_equalIn_array w 9999 _ _ hd hi, List.range_eq_range', hn]
      exact eqItems_ok (d := 9998) he g3 h1 h2 rfl rfl
  | _ => cases h


theorem eq_ok {t : TypeId} {d : TypeDesc} {us : List U} (hd : P.underlying t = some d) (h : eqB P t d us = true) (D : Dat) (w : World) (t1 t2 : ElL S us) (c1 c2 : List Value) (op : BinOp) (x y : Operand) (h1 : DR un D w us t1 c1) (h2 : DR un D w us t2 c2) (b : Bool)
    (hb : op = .eql ∧ b = eqC us t1 t2 ∨ op = .neq ∧ b = !eqC us t1 t2) :
    (eqGuard op t x y (.agg c1.toArray) (.agg c2.toArray)).run P w = .ok () w ∧ (binOp op t (.agg c1.toArray) (.agg c2.toArray)).run P w = .ok (.bool b) w := by
  unfold eqB at h
  simp only [Bool.and_eq_true, Bool.not_eq_true'] at h
  obtain ⟨hg, h⟩ := h
  refine ⟨run_eqGuard_agg w op t x y _ _ hg, ?_⟩
  have key := eqIn_ok hd (show eqB' P t d us = true from h) D w t1 t2 c1 c2 h1 h2
  rcases hb with ⟨rfl, rfl⟩ | ⟨rfl, rfl⟩
  · rw [run_eql_struct, key]; rfl
  · rw [run_neq_struct, key]; rfl


/-! ### keys -/
/-- Scalars that are alike are one value. -/
theorem dr_same : ∀ {us : List U} {t1 t2 : ElL S us} {c1 c2 : List Value}, us.all U.scalar = true → DR un D w us t1 c1 → DR un D w us t2 c2 → eqC us t1 t2 = true → c1 = c2
  | [], _, _, _, _, _, h1, h2, _ => by cases h1; cases h2; rfl
  | u :: us, t1, t2, c1, c2, hs, h1, h2, he => by
    simp only [List.all_cons, Bool.and_eq_true] at hs
    simp only [eqC, Bool.and_eq_true] at he
    cases h1 with
    | int h1 =>
      cases h2 with
      | int h2 =>
        have h3 : eI (hd t1) = eI (hd t2) := of_decide_eq_true he.1
        rw [h3, dr_same hs.2 h1 h2 he.2]
    | bool h1 =>
      cases h2 with
      | bool h2 =>
        have h3 : eB (hd t1) = eB (hd t2) := by have := he.1; exact eq_of_beq this
        rw [h3, dr_same hs.2 h1 h2 he.2]
    | str h1 =>
      cases h2 with
      | str h2 =>
        have h3 : eS (hd t1) = eS (hd t2) := by have := he.1; exact eq_of_beq this
        rw [h3, dr_same hs.2 h1 h2 he.2]
    | sl0 => exact absurd hs.1 (by simp [U.scalar])
    | sl => exact absurd hs.1 (by simp [U.scalar])
    | mp => exact absurd hs.1 (by simp [U.scalar])
    | rw => exact absurd hs.1 (by simp [U.scalar])
    | st => exact absurd hs.1 (by simp [U.scalar])
theorem dr_bits : ∀ {us : List U} {t : ElL S us} {c : List Value} (n : Nat), us.all U.scalar = true → DR un D w us t c → ∀ v ∈ c, Instr.sameBits n v v = true
  | [], _, _, _, _, h, v, hv => by cases h; cases hv
  | u :: us, t, c, n, hs, h, v, hv => by
    simp only [List.all_cons, Bool.and_eq_true] at hs
    cases h with
    | int h =>
      rcases List.mem_cons.1 hv with rfl | hv
      · cases n <;> simp [Instr.sameBits]
      · exact dr_bits n hs.2 h v hv
    | bool h =>
      rcases List.mem_cons.1 hv with rfl | hv
      · cases n <;> simp [Instr.sameBits]
      · exact dr_bits n hs.2 h v hv
    | str h =>
      rcases List.mem_cons.1 hv with rfl | hv
      · cases n <;> simp [Instr.sameBits, MapKept.bytes_beq]
      · exact dr_bits n hs.2 h v hv
    | sl0 => exact absurd hs.1 (by simp [U.scalar])
    | sl => exact absurd hs.1 (by simp [U.scalar])
    | mp => exact absurd hs.1 (by simp [U.scalar])
    | rw => exact absurd hs.1 (by simp [U.scalar])
    | st => exact absurd hs.1 (by simp [U.scalar])
theorem zip_self {p : Value → Value → Bool} : ∀ {l : List Value}, (∀ v ∈ l, p v v = true) → ((l.zip l).all fun (x, y) => p x y) = true
  | [], _ => rfl
  | v :: l, h => by simp only [List.zip_cons_cons, List.all_cons, Bool.and_eq_true]; exact ⟨h v (by simp), zip_self fun x hx => h x (by simp [hx])⟩
theorem key_same {k : U} (hk : U.key un k = true) {x y : El S k} {a b : Value} (ha : Rep un [] D w (inj k x) a) (hb : Rep un [] D w (inj k y) b) (he : keq un k x y = true) : a = b := by
  cases k with
  | st n =>
    simp only [inj, Rep] at ha hb
    obtain ⟨c1, rfl, h1⟩ := ha
    obtain ⟨c2, rfl, h2⟩ := hb
    rw [dr_same (by simpa [U.key] using hk) (sg_st h1) (sg_st h2) he]
  | int q => simp only [inj, Rep] at ha hb; subst ha; subst hb; have h9 : @BEq.beq Int _ x y = true := he; have : @Eq Int x y := eq_of_beq h9; exact congrArg (Value.int q) this
  | bool => simp only [inj, Rep] at ha hb; subst ha; subst hb; have h9 : @BEq.beq Bool _ x y = true := he; have : @Eq Bool x y := eq_of_beq h9; exact congrArg Value.bool this
  | str => simp only [inj, Rep] at ha hb; subst ha; subst hb; have h9 : @BEq.beq (List UInt8) _ x y = true := he; have : @Eq (List UInt8) x y := eq_of_beq h9; exact congrArg (fun l : List UInt8 => Value.string ⟨l.toArray⟩) this
  | sl u => simp [U.key, U.scalar] at hk
  | mp u v => simp [U.key, U.scalar] at hk
  | rw u => simp [U.key, U.scalar] at hk
theorem bits_int (n : Nat) (q : IntKind) (x : Int) : Instr.sameBits n (.int q x) (.int q x) = true := by cases n <;> simp [Instr.sameBits]
theorem bits_bool (n : Nat) (x : Bool) : Instr.sameBits n (.bool x) (.bool x) = true := by cases n <;> simp [Instr.sameBits]
theorem bits_str (n : Nat) (x : ByteArray) : Instr.sameBits n (.string x) (.string x) = true := by cases n <;> simp [Instr.sameBits, MapKept.bytes_beq]
theorem same_str (l m : List UInt8) : ((ByteArray.mk l.toArray) == (ByteArray.mk m.toArray)) = (l == m) := by
  rw [Bool.eq_iff_iff, MapKept.bytes_beq]; simp
theorem key_stays {k : U} (hk : U.key un k = true) {x : El S k} {a : Value} (ha : Rep un [] D w (inj k x) a) : (Instr.keyThatStays a a).run P w = .ok a w := by
  have : Instr.sameBits 10000 a a = true := by
    cases k with
    | st n =>
      simp only [inj, Rep] at ha
      obtain ⟨c1, rfl, h1⟩ := ha
      have h2 := dr_bits 9999 (by simpa [U.key] using hk) (sg_st h1)
      rw [show (10000 : Nat) = 9999 + 1 from rfl]
      simp only [Instr.sameBits, beq_self_eq_true, Bool.true_and]
      exact zip_self (p := Instr.sameBits 9999) h2
    | int q => simp only [inj, Rep] at ha; subst ha; exact bits_int _ _ _
    | bool => simp only [inj, Rep] at ha; subst ha; exact bits_bool _ _
    | str => simp only [inj, Rep] at ha; subst ha; exact bits_str _ _
    | sl u => simp [U.key, U.scalar] at hk
    | mp u v => simp [U.key, U.scalar] at hk
    | rw u => simp [U.key, U.scalar] at hk
  simp [Instr.keyThatStays, this]

theorem find_now {d : TypeDesc} {k : U} {a : Value} {x : El S k} (h : ∀ (y : El S k) (b : Value), Rep un [] D w (inj k y) b → Instr.sameNow d a b = some (keq un k x y)) : ∀ {l : List (El S k)} {es : List MapEntry} (i : Nat), KeysRep un D w k l es → Instr.findNow d a es i = some (findL (l.map (keq un k x)) es i)
  | [], [], _, _ => rfl
  | y :: l, e :: es, i, hr => by
    have h1 := h y e.key hr.1
    unfold Instr.findNow
    rw [h1]
    simp only [List.map_cons]
    cases keq un k x y with
    | true => rfl
    | false => simp only [findL]; exact find_now h (i + 1) hr.2
  | [], _ :: _, _, hr => hr.elim
  | _ :: _, [], _, hr => hr.elim
theorem find_ask {kt : TypeId} {k : U} {a : Value} {x : El S k} (h : ∀ (y : El S k) (b : Value), Rep un [] D w (inj k y) b → (Op.equal kt a b).run P w = .ok (keq un k x y) w) : ∀ {l : List (El S k)} {es : List MapEntry} (i : Nat), KeysRep un D w k l es → (Instr.findAsking kt a es i).run P w = .ok (findL (l.map (keq un k x)) es i) w
  | [], [], _, _ => by simp [Instr.findAsking, findL]
  | y :: l, e :: es, i, hr => by
    have h1 := h y e.key hr.1
    unfold Instr.findAsking
    simp only [Sem.run_bind, h1, Result.andThen, List.map_cons]
    cases keq un k x y with
    | true => simp [findL]
    | false => simp only [findL]; exact find_ask h (i + 1) hr.2
  | [], _ :: _, _, hr => hr.elim
  | _ :: _, [], _, hr => hr.elim

theorem check_plain {T : TypeId} {u : U} (h : uOk P u T = true) (n : Nat) (em : Bool) {v : Value} (hv : ∃ (x : El S u), Rep un [] D w (inj u x) v) : (Instr.checkKey em (n + 1) T v).run P w = .ok () w := by
  obtain ⟨x, hx⟩ := hv
  unfold uOk at h
  cases hu : P.underlying T with
  | none => rw [hu] at h; cases u <;> cases h
  | some d =>
    rw [hu] at h
    cases u with
    | int k => simp only [inj, Rep] at hx; subst hx; cases d <;> first | (cases h; done) | simp [Instr.checkKey, run_underlying hu]
    | bool => simp only [inj, Rep] at hx; subst hx; cases d <;> first | (cases h; done) | simp [Instr.checkKey, run_underlying hu]
    | str => simp only [inj, Rep] at hx; subst hx; cases d <;> first | (cases h; done) | simp [Instr.checkKey, run_underlying hu]
    | _ => cases d <;> cases h

theorem dr_val {u : U} {us : List U} {t : ElL S (u :: us)} {c : List Value} (hs : U.scalar u = true) (h : DR un D w (u :: us) t c) : ∃ v r, c = v :: r ∧ DR un D w us t.2 r ∧ ∃ x : El S u, Rep un [] D w (inj u x) v := by
  cases h with
  | int h => exact ⟨_, _, rfl, h, _, by simp only [inj, Rep]; rfl⟩
  | bool h => exact ⟨_, _, rfl, h, _, by simp only [inj, Rep]; rfl⟩
  | str h => exact ⟨_, _, rfl, h, _, by simp only [inj, Rep]; rfl⟩
  | sl0 => simp [U.scalar] at hs
  | sl => simp [U.scalar] at hs
  | mp => simp [U.scalar] at hs
  | rw => simp [U.scalar] at hs
  | st => simp [U.scalar] at hs

theorem check_fields {n : Nat} {em : Bool} {xs : List Value} : ∀ {fs : List Field} {us : List U} {k : Nat} {t : ElL S us} {c : List Value}, fldEq P k fs us = true → us.all U.scalar = true → DR un D w us t c → xs.drop k = c →
    (forIn (m := Sem) fs PUnit.unit fun f _ => do
      if f.name ≠ "_" then Instr.checkKey em (n + 1) f.type (← part f.type xs.toArray f.offset)
      pure (ForInStep.yield PUnit.unit)).run P w = .ok PUnit.unit w
  | [], [], _, _, _, _, _, _, _ => by simp
  | f :: fs, u :: us, k, t, c, hf, hs, h, hx => by
    simp only [fldEq, Bool.and_eq_true] at hf
    obtain ⟨⟨⟨g1, g2⟩, g3⟩, g4⟩ := hf
    simp only [List.all_cons, Bool.and_eq_true] at hs
    have hk := Nat.eq_of_beq_eq_true g2
    obtain ⟨v, r, rfl, h1, hv⟩ := dr_val hs.1 h
    obtain ⟨a1, a2⟩ := drop_get hx
    have ih := check_fields (n := n) (em := em) g4 hs.2 h1 a2
    have hn : f.name ≠ "_" := by simpa using g1
    have hc := check_plain (P := P) g3 n em hv
    simp only [List.forIn_cons, Sem.run_bind, hn, ne_eq, not_false_eq_true, if_true, hk, part_plain g3 a1, hc, Result.andThen_ok, Sem.run_pure]
    exact ih
  | [], _ :: _, _, _, _, hf, _, _, _ => by simp [fldEq] at hf
  | _ :: _, [], _, _, _, hf, _, _, _ => by simp [fldEq] at hf

def keyB (P : Program) (un : Uni S) (kt : TypeId) (k : U) : Bool := match k with
  | .st n => (un.codes n).all U.scalar && (match P.underlying kt with
    | some (.struct fs) => eqB' P kt (.struct fs) (un.codes n)
    | _ => false)
  | u => u.scalar && uOk P u kt
theorem keyB_ok {kt : TypeId} {k : U} (h : keyB P un kt k = true) : KeyOk P un kt k := by
  unfold keyB at h
  split at h
  · rename_i n
    simp only [Bool.and_eq_true] at h
    obtain ⟨hs, h⟩ := h
    have hkey : U.key un (.st n) = true := hs
    split at h
    · rename_i fs hd
      have heq : ∀ (D : Dat) (w : World) (x y : El S (.st n)) (a b : Value), Rep un [] D w (inj (.st n) x) a → Rep un [] D w (inj (.st n) y) b → (Op.equal kt a b).run P w = .ok (keq un (.st n) x y) w := by
        intro D w x y a b ha hb
        simp only [inj, Rep] at ha hb
        obtain ⟨c1, rfl, h1⟩ := ha
        obtain ⟨c2, rfl, h2⟩ := hb
        exact eqIn_ok hd h D w _ _ c1 c2 (sg_st h1) (sg_st h2)
      refine ⟨fun D w x a l es ha hr => ?_, fun D w x a em ha => ?_, fun D w x y a b ha hb he => ?_⟩
      · have hask := find_ask (P := P) (kt := kt) (fun y b hb => heq D w x y a b ha hb) 0 hr
        unfold Instr.findKey
        simp only [Sem.run_bind, run_underlying hd, Result.andThen_ok]
        cases es with
        | nil => cases l with
          | nil => simp [Instr.findNow, findL]
          | cons y l => exact hr.elim
        | cons e es =>
          have hnone : Instr.findNow (.struct fs) a (e :: es) 0 = none := by
            simp only [inj, Rep] at ha
            obtain ⟨c1, rfl, _⟩ := ha
            rfl
          rw [hnone]; exact hask
      · simp only [inj, Rep] at ha
        obtain ⟨c1, rfl, h1⟩ := ha
        simp only [eqB', Bool.and_eq_true] at h
        have := check_fields (P := P) (n := 9998) (em := em) h.2 hs (sg_st h1) (xs := c1) rfl
        rw [show (10000 : Nat) = 9999 + 1 from rfl, Instr.checkKey]
        simp only [Sem.run_bind, run_underlying hd, Result.andThen_ok]
        rw [← Array.forIn_toList]
        first
          | exact this
          | (simp only [Sem.run_bind, this, Result.andThen_ok, Sem.run_pure]; done)
      · have := key_same hkey ha hb he
        subst this
        exact key_stays hkey ha
    · cases h
  · rename_i u hu
    simp only [Bool.and_eq_true] at h
    obtain ⟨hs, h⟩ := h
    have hkey : U.key un k = true := by cases k <;> first | exact hs | exact absurd rfl (hu _)
    refine ⟨fun D w x a l es ha hr => ?_, fun D w x a em ha => ?_, fun D w x y a b ha hb he => ?_⟩
    · obtain ⟨d, hd⟩ : ∃ d, P.underlying kt = some d := by
        unfold uOk at h
        cases hd : P.underlying kt with
        | none => rw [hd] at h; cases k <;> cases h
        | some d => exact ⟨d, rfl⟩
      have hnow := find_now (d := d) (a := a) (x := x) (fun y b hb => by
        unfold uOk at h
        rw [hd] at h
        cases k with
        | int q => simp only [inj, Rep] at ha hb; subst ha; subst hb; cases d <;> first | (cases h; done) | simp [Instr.sameNow, keq, eq1]
        | bool => simp only [inj, Rep] at ha hb; subst ha; subst hb; cases d <;> first | (cases h; done) | simp [Instr.sameNow, keq, eq1]
        | str =>
          simp only [inj, Rep] at ha hb; subst ha; subst hb
          cases d <;> first | (cases h; done) | skip
          exact congrArg some (same_str x y)
        | _ => cases d <;> cases h) 0 hr
      unfold Instr.findKey
      simp only [Sem.run_bind, run_underlying hd, Result.andThen_ok, hnow]
      rfl
    · exact check_plain h 9999 em ⟨x, ha⟩
    · have := key_same hkey ha hb he
      subst this
      exact key_stays hkey ha

/-- A row's truth, by one check. -/
def eqRow (P : Program) (un : Uni S) (t : TypeId) (d : TypeDesc) (r : TyRow S) : Bool := match r.code with
  | some (.st n) => !((un.codes n).all U.scalar && Nat.beq r.fields.length (un.codes n).length) || eqB P t d (un.codes n)
  | _ => true
def mpB (P : Program) (un : Uni S) (d : TypeDesc) (r : TyRow S) : Bool := match r.mp with
  | some (kt, k, vt, _) => (match d with
    | .map a b => Nat.beq a kt && Nat.beq b vt && keyB P un kt k
    | _ => false)
  | none => true
theorem rowOk_of {t : TypeId} {r : TyRow S} (d : TypeDesc) (z : Value) (hd : P.underlying t = some d) (hz : (P.info? t).bind (·.zero) = some z) (hn : (P.info? t).map (·.size) = some r.n) (hzz : r.zero = z.cells.toList.map constPV)
    (hc : (Nat.beq z.cells.size r.n && rowB P un d r && eqRow P un t d r && zB z r.agg && mpB P un d r) = true) : RowOk P un t r := by
  simp only [Bool.and_eq_true] at hc
  obtain ⟨⟨⟨⟨h1, h2⟩, h3⟩, h4⟩, h5⟩ := hc
  refine row_of hd hz hn h1 hzz h2 h4 (fun kt k vt v hm => ?_) fun n hcd hs => ?_
  · unfold mpB at h5
    rw [hm] at h5
    cases d with
    | map a b =>
      simp only [Bool.and_eq_true] at h5
      rw [Nat.eq_of_beq_eq_true h5.1.1, Nat.eq_of_beq_eq_true h5.1.2]
      exact ⟨rfl, keyB_ok h5.2⟩
    | _ => cases h5
  unfold eqRow at h3
  rw [hcd] at h3
  simp only [hs, Bool.not_true, Bool.false_or] at h3
  exact eq_ok hd h3
end Pe
end
section
/- A seat's tables, row by row. -/
namespace Pe
open Go Go.RowKit
variable {S : Nat → Type} {P : Program} {un : Uni S}

def Tr.All {α : Type} (p : Nat → α → Prop) : Tr α → Prop
  | .leaf => True
  | .node l k v r => l.All p ∧ p k v ∧ r.All p
theorem Tr.all_get {α : Type} {p : Nat → α → Prop} : ∀ {T : Tr α}, T.All p → ∀ i v, T.get i = some v → p i v
  | .leaf, _, _, _, h => by cases h
  | .node l k u r, ha, i, v, h => by
    obtain ⟨h1, h2, h3⟩ := ha
    unfold Tr.get at h
    cases hb : Nat.beq i k with
    | true => rw [hb] at h; cases h; rw [Nat.eq_of_beq_eq_true hb]; exact h2
    | false =>
      rw [hb] at h
      cases hc : Nat.blt i k with
      | true => rw [hc] at h; exact Tr.all_get h1 i v h
      | false => rw [hc] at h; exact Tr.all_get h3 i v h

def nst : U → Bool
  | .st _ => false
  | _ => true
theorem flat_of (h : ∀ n, (un.codes n).all nst = true) : Flat un := fun n u hu => by
  have := List.all_eq_true.1 (h n) u hu
  cases u <;> first | (cases this; done) | exact ⟨rfl, fun m hm => by cases hm⟩

def Enters (P : Program) (f : FuncId) : Prop := ∀ args w, (callFunc f args).run P w = .ok (.enter f args) w
theorem enters_of {f : FuncId} {fn : Func} (h : P.funcs[f]? = some fn) (hn : (fn.name == "runtime.NumGoroutine") = false) (hb : fn.body.isNone = false) : Enters P f := fun args w => by
  have hn' : ¬ fn.name = "runtime.NumGoroutine" := by simpa using hn
  have hb' : ¬ fn.body = none := by intro hc; rw [hc] at hb; simp at hb
  simp [callFunc, program, Sem.run, h, hn', hb']

def SigOk (P : Program) (f : FuncId) : Sig → Prop
  | .data _ _ => Enters P f
  | .inl fn _ _ => P.funcs[f]? = some fn ∧ Enters P f
  | .eff _ _ _ _ _ _ => Enters P f
  | .effI fn _ _ _ _ _ _ => P.funcs[f]? = some fn ∧ Enters P f
  | .lin g => Enters P f ∧ g.ok = true
theorem tbOk_of {tb : Tb S} (h1 : tb.ty.All (RowOk P un)) (h2 : tb.sig.All (SigOk P)) : TbOk P un tb :=
  ⟨fun t r h => Tr.all_get h1 t r h, fun f _ _ h => Tr.all_get h2 f _ h, fun f _ _ _ _ _ _ h => Tr.all_get h2 f _ h, fun f _ _ _ _ _ _ _ h => Tr.all_get h2 f _ h, fun f _ _ _ h => Tr.all_get h2 f _ h, fun f _ h => Tr.all_get h2 f _ h⟩
end Pe
end
section
/- What is known of callees, as a table. -/
namespace Pe
open Go Go.RowKit
variable {S : Nat → Type} {P : Program} {un : Uni S}

def usEq : (a b : List U) → Option (PLift (a = b))
  | [], [] => some ⟨rfl⟩
  | u :: us, v :: vs => match U.eq? u v, usEq us vs with | some ⟨h⟩, some ⟨k⟩ => some ⟨by rw [h, k]⟩ | _, _ => none
  | _, _ => none
def proj1 : (u : U) → PV S → Option (El S u)
  | .int k, .int k' n => if k = k' then some n else none
  | .bool, .bool b => some b
  | .str, .str s => some s
  | .sl u, .sl v l => match U.eq? v u with | some ⟨h⟩ => some (h ▸ l) | none => none
  | .st n, .st m x => match natEq m n with | some ⟨h⟩ => some (h ▸ x) | none => none
  | _, _ => none
theorem proj1_inj {u : U} {p : PV S} {x : El S u} (h : proj1 u p = some x) : p = inj u x := by
  unfold proj1 at h
  split at h
  · split at h
    · rename_i hk; cases h; subst hk; rfl
    · cases h
  · cases h; rfl
  · cases h; rfl
  · split at h
    · rename_i hk _; subst hk; cases h; rfl
    · cases h
  · split at h
    · rename_i hk _; subst hk; cases h; rfl
    · cases h
  · cases h
def projL : (us : List U) → List (PV S) → Option (ElL S us)
  | [], [] => some ()
  | u :: us, p :: ps => match proj1 u p, projL us ps with
    | some x, some t => some (x, t)
    | _, _ => none
  | _, _ => none
theorem projL_inj : ∀ {us : List U} {ps : List (PV S)} {t : ElL S us}, projL us ps = some t → ps = injL us t
  | [], [], _, _ => rfl
  | u :: us, p :: ps, t, h => by
    unfold projL at h
    split at h
    · rename_i x t' h1 h2
      cases h
      rw [proj1_inj h1, projL_inj h2]; rfl
    · cases h
  | [], _ :: _, _, h => by cases h
  | _ :: _, [], _, h => by cases h

structure Entry (S : Nat → Type) where
  us : List U
  rs : List U
  spec : ElL S us → Option (ElL S rs)
def Entry.run (e : Entry S) (args : List (PV S)) (rs : List U) : Option (ElL S rs) :=
  match usEq e.rs rs with | some ⟨h⟩ => (projL e.us args).bind fun t => h ▸ e.spec t | none => none
/-- What is known of a callee to which boxes are lent: k of them lead the arguments. -/
structure EntryE (S : Nat → Type) where
  k : Nat
  us : List U
  ts : List TypeId
  lc : List U
  rs : List U
  ps : List U
  pan : TypeId
  spec : ElL S lc → ElL S us → Option (Out S lc rs ps)
def leads : Nat → Nat → List (PV S) → Option (List (PV S))
  | 0, _, l => some l
  | n + 1, j, .ptr b 0 :: r => bif Nat.beq b j then leads n (j + 1) r else none
  | _ + 1, _, _ => none
theorem leads_spec : ∀ {n j : Nat} {args l : List (PV S)}, leads n j args = some l → args = (List.range' j n).map (fun i => .ptr i 0) ++ l
  | 0, _, _, _, h => by simp only [leads] at h; cases h; simp
  | n + 1, j, args, l, h => by
    unfold leads at h
    split at h
    · cases ‹n + 1 = 0›
    · rename_i b r heq
      cases heq
      obtain ⟨h1, h2⟩ := bif_some h
      have := Nat.eq_of_beq_eq_true h1
      subst this
      rw [leads_spec h2]; simp [List.range'_succ]
    · cases h
def natsEq : (a b : List Nat) → Bool
  | [], [] => true
  | a :: r, b :: s => Nat.beq a b && natsEq r s
  | _, _ => false
theorem natsEq_eq : ∀ {a b : List Nat}, natsEq a b = true → a = b
  | [], [], _ => rfl
  | a :: r, b :: s, h => by simp only [natsEq, Bool.and_eq_true] at h; rw [Nat.eq_of_beq_eq_true h.1, natsEq_eq h.2]
  | [], _ :: _, h => by cases h
  | _ :: _, [], h => by cases h
def castOut {lc lc' rs rs' ps ps' : List U} (h1 : lc = lc') (h2 : rs = rs') (h3 : ps = ps') (x : Option (Out S lc rs ps)) : Option (Out S lc' rs' ps') := by
  subst h1; subst h2; subst h3; exact x
def EntryE.run (e : EntryE S) (args : List (PV S)) (ts : List TypeId) (lc : List U) (c : ElL S lc) (rs ps : List U) (pan : TypeId) : Option (Out S lc rs ps) :=
  bif natsEq e.ts ts && Nat.beq e.pan pan then
    match usEq e.lc lc, usEq e.rs rs, usEq e.ps ps with
    | some ⟨h1⟩, some ⟨h2⟩, some ⟨h3⟩ => (leads e.k 0 args).bind fun l => (projL e.us l).bind fun t => castOut h1 h2 h3 (e.spec (h1.symm ▸ c) t)
    | _, _, _ => none
  else none
def ptrArgs (k : Nat) : List (PV S) := (List.range' 0 k).map fun i => .ptr i 0
def EntryE.Ok (P : Program) (un : Uni S) (f : Nat) (e : EntryE S) : Prop := ∀ c t r, e.spec c t = some r → SatE P un f (ptrArgs e.k ++ injL e.us t) e.ts e.lc c e.rs e.ps e.pan r

/-! calls to which rows and maps are handed over -/
def lEq {α : Type} (f : (a b : α) → Option (PLift (a = b))) : (l m : List α) → Option (PLift (l = m))
  | [], [] => some ⟨rfl⟩
  | a :: l, b :: m => match f a b with
    | some ⟨h⟩ => (match lEq f l m with | some ⟨k⟩ => some ⟨by rw [h, k]⟩ | none => none)
    | none => none
  | _, _ => none
def ctyEq : (a b : CTy) → Option (PLift (a = b))
  | .fr u, .fr v => match U.eq? u v with | some ⟨h⟩ => some ⟨by rw [h]⟩ | none => none
  | .own u T, .own v T' => match U.eq? u v with | some ⟨h⟩ => (match natEq T T' with | some ⟨k⟩ => some ⟨by rw [h, k]⟩ | none => none) | none => none
  | .wr u T, .wr v T' => match U.eq? u v with | some ⟨h⟩ => (match natEq T T' with | some ⟨k⟩ => some ⟨by rw [h, k]⟩ | none => none) | none => none
  | _, _ => none
def argEq : (a b : Arg) → Option (PLift (a = b))
  | .one c, .one d => match ctyEq c d with | some ⟨h⟩ => some ⟨by rw [h]⟩ | none => none
  | .agg c, .agg d => match lEq ctyEq c d with | some ⟨h⟩ => some ⟨by rw [h]⟩ | none => none
  | .ref k, .ref j => match natEq k j with | some ⟨h⟩ => some ⟨by rw [h]⟩ | none => none
  | .ptr k o, .ptr j p => match natEq k j with | some ⟨h⟩ => (match natEq o p with | some ⟨q⟩ => some ⟨by rw [h, q]⟩ | none => none) | none => none
  | _, _ => none
def boolEq : (a b : Bool) → Option (PLift (a = b))
  | true, true => some ⟨rfl⟩
  | false, false => some ⟨rfl⟩
  | _, _ => none
def bsEq (a b : Bool × TypeId × List CTy) : Option (PLift (a = b)) := match a, b with
  | (f, T, l), (g, T', m) => match boolEq f g with
    | some ⟨h⟩ => (match natEq T T' with
      | some ⟨k⟩ => (match lEq ctyEq l m with | some ⟨q⟩ => some ⟨by rw [h, k, q]⟩ | none => none)
      | none => none)
    | none => none
def sgEq (a b : Sg) : Option (PLift (a = b)) := match a, b with
  | ⟨as, bs, rs, ps, pan⟩, ⟨as', bs', rs', ps', pan'⟩ => match lEq argEq as as' with
    | some ⟨h1⟩ => (match lEq bsEq bs bs' with
      | some ⟨h2⟩ => (match lEq argEq rs rs' with
        | some ⟨h3⟩ => (match usEq ps ps' with
          | some ⟨h4⟩ => (match natEq pan pan' with
            | some ⟨h5⟩ => some ⟨by rw [h1, h2, h3, h4, h5]⟩
            | none => none)
          | none => none)
        | none => none)
      | none => none)
    | none => none
structure EntryL (S : Nat → Type) where
  g : Sg
  spec : g.In S → Option (g.Out S)
def EntryL.run (e : EntryL S) (g : Sg) (t : g.In S) : Option (g.Out S) :=
  match sgEq e.g g with
  | some ⟨h⟩ => h ▸ e.spec (h.symm ▸ t)
  | none => none
def EntryL.Ok (P : Program) (un : Uni S) (f : Nat) (e : EntryL S) : Prop := ∀ t r, e.spec t = some r → SatL P un f e.g t r

def orcT (T : Tr (Entry S)) (TE : Tr (EntryE S)) (TL : Tr (EntryL S)) : Orc S where
  d f args rs := match T.get f with
    | some e => e.run args rs
    | none => none
  e f args ts lc c rs ps pan := match TE.get f with
    | some e => e.run args ts lc c rs ps pan
    | none => none
  l f g t := match TL.get f with
    | some e => e.run g t
    | none => none
def Entry.Ok (P : Program) (un : Uni S) (f : Nat) (e : Entry S) : Prop := ∀ t r, e.spec t = some r → Sat P un f (injL e.us t) e.rs r
theorem orcT_sound {T : Tr (Entry S)} {TE : Tr (EntryE S)} {TL : Tr (EntryL S)} (h : T.All (Entry.Ok P un)) (hE : TE.All (EntryE.Ok P un)) (hL : TL.All (EntryL.Ok P un)) : SoundO P un (orcT T TE TL) := by
  refine ⟨fun f args rs r hr => ?_, fun f args ts lc c rs ps pan r hr => ?_, fun f g t r hr => ?_⟩
  · unfold orcT at hr
    simp only at hr
    split at hr
    · rename_i e he
      have hok := Tr.all_get h f e he
      unfold Entry.run at hr
      split at hr
      · rename_i hrs _
        subst hrs
        simp only [Option.bind_eq_some_iff] at hr
        obtain ⟨t, h1, h2⟩ := hr
        rw [projL_inj h1]
        exact hok t r h2
      · cases hr
    · cases hr
  · unfold orcT at hr
    simp only at hr
    split at hr
    · rename_i e he
      have hok := Tr.all_get hE f e he
      unfold EntryE.run at hr
      obtain ⟨h1, h2⟩ := bif_some hr
      simp only [Bool.and_eq_true] at h1
      have e1 := natsEq_eq h1.1
      have e2 := Nat.eq_of_beq_eq_true h1.2
      split at h2
      · rename_i k1 k2 k3 _ _ _
        subst e1; subst e2; subst k1; subst k2; subst k3
        simp only [Option.bind_eq_some_iff] at h2
        obtain ⟨l, h3, t, h4, h5⟩ := h2
        rw [leads_spec h3, projL_inj h4]
        exact hok c t r h5
      · cases h2
    · cases hr
  · unfold orcT at hr
    simp only at hr
    split at hr
    · rename_i e he
      have hok := Tr.all_get hL f e he
      unfold EntryL.run at hr
      split at hr
      · rename_i k _
        subst k
        exact hok t r hr
      · cases hr
    · cases hr
end Pe
end
section
/- Loops of the models, round by round. -/
namespace Pe
theorem iter_le {σ R : Type} {f : σ → Option (σ ⊕ R)} {r : R} : ∀ {n m : Nat} {x : σ}, iter f n x = some r → n ≤ m → iter f m x = some r
  | 0, _, _, h, _ => by cases h
  | n + 1, 0, _, _, hm => absurd hm (by omega)
  | n + 1, m + 1, x, h, hm => by
    unfold iter at h ⊢
    split at h
    · exact iter_le h (by omega)
    · exact h
    · cases h
theorem loopM_of {σ R : Type} {f : σ → Option (σ ⊕ R)} {r : R} {n : Nat} {x : σ} (h : iter f n x = some r) : loopM f x = some r := by
  have hx : ∃ n, (iter f n x).isSome := ⟨n, by rw [h]; rfl⟩
  unfold loopM
  rw [dif_pos hx]
  have h2 := Classical.choose_spec hx
  cases h3 : iter f (Classical.choose hx) x with
  | none => rw [h3] at h2; cases h2
  | some r' =>
    have a := iter_le h (Nat.le_max_left n (Classical.choose hx))
    have b := iter_le h3 (Nat.le_max_right n (Classical.choose hx))
    rw [a] at b; exact b.symm
theorem loopM_end {σ R : Type} {f : σ → Option (σ ⊕ R)} {r : R} {x : σ} (h : f x = some (.inr r)) : loopM f x = some r := loopM_of (n := 1) (by simp [iter, h])
theorem loopM_next {σ R : Type} {f : σ → Option (σ ⊕ R)} {x y : σ} (h : f x = some (.inl y)) : loopM f x = loopM f y := by
  cases hy : loopM f y with
  | some r =>
    obtain ⟨n, hn⟩ := loopM_some hy
    exact loopM_of (n := n + 1) (by simp [iter, h, hn])
  | none =>
    cases hx : loopM f x with
    | none => rfl
    | some r =>
      obtain ⟨n, hn⟩ := loopM_some hx
      cases n with
      | zero => cases hn
      | succ n => simp only [iter, h] at hn; rw [loopM_of hn] at hy; cases hy
/-- A loop over the places of a list: at each place a round goes on, or ends. -/
theorem loopM_fuel {σ R : Type} {f : σ → Option (σ ⊕ R)} (m : σ → Nat) (g : σ → R) (I : σ → Prop) (h : ∀ x, I x → (∃ y, f x = some (.inl y) ∧ I y ∧ m y < m x ∧ g y = g x) ∨ f x = some (.inr (g x))) : ∀ x, I x → loopM f x = some (g x) := by
  have key : ∀ n x, m x ≤ n → I x → loopM f x = some (g x) := by
    intro n
    induction n with
    | zero =>
      intro x hm hI
      rcases h x hI with ⟨y, _, _, h3, _⟩ | h1
      · omega
      · exact loopM_end h1
    | succ n ih =>
      intro x hm hI
      rcases h x hI with ⟨y, h1, h2, h3, h4⟩ | h1
      · rw [loopM_next h1, ih y (by omega) h2, h4]
      · exact loopM_end h1
  exact fun x hI => key _ x (Nat.le_refl _) hI
end Pe
end
section
/- What is handed in: a reading of plain data by a row gives a value of the pure reading. -/
namespace Pe
open Go Go.RowKit
variable {S : Nat → Type} {P : Program} {un : Uni S}

/-- A type and the code of what is read there, one step down. -/
def Flds (M : U → TypeId → Prop) (P : Program) : Nat → List Field → List U → Prop
  | _, [], [] => True
  | k, f :: fs, u :: us => f.offset = k ∧ P.cellsOf f.type = 1 ∧ M u f.type ∧ Flds M P (k + 1) fs us
  | _, _, _ => False
def Step (P : Program) (un : Uni S) (M : U → TypeId → Prop) : U → TypeId → Prop
  | .int k, t => P.underlying t = some (.int k)
  | .bool, t => P.underlying t = some .bool
  | .str, t => P.underlying t = some .string
  | .sl u, t => ∃ e, P.underlying t = some (.slice e) ∧ P.cellsOf e = U.size un u ∧ 0 < U.size un u ∧ M u e
  | .st n, t => P.cellsOf t = (un.codes n).length ∧ ((∃ fs, P.underlying t = some (.struct fs) ∧ Flds M P 0 fs.toList (un.codes n)) ∨
      ∃ k e u, P.underlying t = some (.array k e) ∧ P.cellsOf e = 1 ∧ un.codes n = List.replicate k u ∧ M u e)
  | .mp _ _, _ => False
  | .rw _, _ => False

/-- What a value of the pure reading is as a row's data. -/
inductive Rd {H : Type} (un : Uni S) : (us : List U) → ElL S us → List (DataW H) → Prop
  | nil {t} : Rd un [] t []
  | int {k us} {t : ElL S (.int k :: us)} {ds} (hw : (Lit.int k (eI (hd t))).wf = true) (h : Rd un us (tl t) ds) : Rd un (.int k :: us) t (.lit (.int k (eI (hd t))) :: ds)
  | bool {us} {t : ElL S (.bool :: us)} {ds} (h : Rd un us (tl t) ds) : Rd un (.bool :: us) t (.lit (.bool (eB (hd t))) :: ds)
  | str {us} {t : ElL S (.str :: us)} {ds} (hs : (eS (hd t)).length ≤ maxLen) (h : Rd un us (tl t) ds) : Rd un (.str :: us) t (.lit (.string (eS (hd t))) :: ds)
  | sl0 {u us} {t : ElL S (.sl u :: us)} {ds} (h0 : eL (hd t) = []) (h : Rd un us (tl t) ds) : Rd un (.sl u :: us) t (.nil :: ds)
  | sl {u us} {t : ElL S (.sl u :: us)} {ds} (es sp : List (DataW H)) (hl : es.length = (eL (hd t)).length)
      (h1 : ∀ (i : Nat) (x : El S u) (d : DataW H), (eL (hd t))[i]? = some x → es[i]? = some d → Rd un [u] (sg x) [d]) (h : Rd un us (tl t) ds) : Rd un (.sl u :: us) t (.slice es sp :: ds)
  | st {n us} {t : ElL S (.st n :: us)} {ps ds} (h1 : Rd un (un.codes n) (un.get n (eT (hd t))) ps) (h : Rd un us (tl t) ds) : Rd un (.st n :: us) t (.agg ps :: ds)

theorem DR.one_cons {D : Dat} {w : World} {u : U} {us : List U} {x : El S u} {t : ElL S us} {c cs : List Value} (h1 : DR un D w [u] (sg x) c) (h2 : DR un D w us t cs) : DR un D w (u :: us) (two x t) (c ++ cs) := by
  cases h1 with
  | int h => cases h; exact .int h2
  | bool h => cases h; exact .bool h2
  | str h => cases h; exact .str h2
  | sl0 A c h0 h => cases h; exact .sl0 A c h0 h2
  | sl b off c cs hc a1 a2 h => cases h; exact .sl b off c cs hc a1 a2 h2
  | mp kc vc a1 a2 h => cases h; exact .mp kc vc a1 a2 h2
  | rw cs a1 h => cases h; exact .rw cs a1 h2
  | st a1 h => cases h; rw [List.append_nil]; exact .st a1 h2
theorem Rd.one_cons {H : Type} {u : U} {us : List U} {x : El S u} {t : ElL S us} {c : DataW H} {cs : List (DataW H)} (h1 : Rd un [u] (sg x) [c]) (h2 : Rd un us t cs) : Rd un (u :: us) (two x t) (c :: cs) := by
  cases h1 with
  | int hw h => exact .int hw h2
  | bool h => exact .bool h2
  | str hs h => exact .str hs h2
  | sl0 h0 h => exact .sl0 h0 h2
  | sl es sp hl a1 h => exact .sl es sp hl a1 h2
  | st a1 h => exact .st a1 h2

section
variable {H : Type}
theorem Rd.inv_nil {t : ElL S []} {ds : List (DataW H)} (h : Rd un [] t ds) : ds = [] := by cases h; rfl
theorem Rd.inv_int {k : IntKind} {us : List U} {t : ElL S (.int k :: us)} {ds : List (DataW H)} (h : Rd un (.int k :: us) t ds) : ∃ r, ds = .lit (.int k (eI (hd t))) :: r ∧ (Lit.int k (eI (hd t))).wf = true ∧ Rd un us (tl t) r := by
  cases h with | int hw h => exact ⟨_, rfl, hw, h⟩
theorem Rd.inv_bool {us : List U} {t : ElL S (.bool :: us)} {ds : List (DataW H)} (h : Rd un (.bool :: us) t ds) : ∃ r, ds = .lit (.bool (eB (hd t))) :: r ∧ Rd un us (tl t) r := by
  cases h with | bool h => exact ⟨_, rfl, h⟩
theorem Rd.inv_str {us : List U} {t : ElL S (.str :: us)} {ds : List (DataW H)} (h : Rd un (.str :: us) t ds) : ∃ r, ds = .lit (.string (eS (hd t))) :: r ∧ (eS (hd t)).length ≤ maxLen ∧ Rd un us (tl t) r := by
  cases h with | str hs h => exact ⟨_, rfl, hs, h⟩
theorem Rd.inv_sl {u : U} {us : List U} {t : ElL S (.sl u :: us)} {ds : List (DataW H)} (h : Rd un (.sl u :: us) t ds) :
    ∃ d r, ds = d :: r ∧ ((d = .nil ∧ eL (hd t) = []) ∨ ∃ es sp, d = .slice es sp ∧ es.length = (eL (hd t)).length ∧ ∀ (i : Nat) (x : El S u) (d : DataW H), (eL (hd t))[i]? = some x → es[i]? = some d → Rd un [u] (sg x) [d]) ∧ Rd un us (tl t) r := by
  cases h with
  | sl0 h0 h => exact ⟨_, _, rfl, .inl ⟨rfl, h0⟩, h⟩
  | sl es sp hl h1 h => exact ⟨_, _, rfl, .inr ⟨es, sp, rfl, hl, h1⟩, h⟩
theorem Rd.inv_st {n : Nat} {us : List U} {t : ElL S (.st n :: us)} {ds : List (DataW H)} (h : Rd un (.st n :: us) t ds) : ∃ ps r, ds = .agg ps :: r ∧ Rd un (un.codes n) (un.get n (eT (hd t))) ps ∧ Rd un us (tl t) r := by
  cases h with | st h1 h => exact ⟨_, _, rfl, h1, h⟩
end

/-- All that is there is data. -/
def allD (w : World) : Dat := fun k _ => k < w.heap.size

theorem cell_lt {w : World} {a : Addr} {v : Value} (h : w.cell? a = some v) : a.block < w.heap.size ∧ a.spot = none := by
  unfold World.cell? at h
  split at h
  · rename_i c _ _ hb
    refine ⟨(Array.getElem?_eq_some_iff.1 hb).1, ?_⟩
    split at h
    · cases h
    · rename_i hs; simpa using hs
  · cases h
theorem add_at (a : Addr) (h : a.spot = none) (n : Nat) : a.add n = ⟨a.block, a.off + n, none⟩ := by
  unfold Addr.add
  obtain ⟨b, o, s⟩ := a
  simp only at h
  subst h
  split
  · rename_i h0; subst h0; rfl
  · rfl
theorem list_of {α : Type} {Q : Nat → α → Prop} : ∀ (n : Nat), (∀ i, i < n → ∃ p, Q i p) → ∃ l : List α, l.length = n ∧ ∀ (i : Nat) (p : α), l[i]? = some p → Q i p
  | 0, _ => ⟨[], rfl, fun i p h => by simp at h⟩
  | n + 1, h => by
    obtain ⟨l, h1, h2⟩ := list_of n fun i hi => h i (by omega)
    obtain ⟨p, hp⟩ := h n (by omega)
    refine ⟨l ++ [p], by simp [h1], fun i q hq => ?_⟩
    rcases Nat.lt_or_ge i n with hlt | hge
    · rw [List.getElem?_append_left (by omega)] at hq; exact h2 i q hq
    · rw [List.getElem?_append_right (by omega), h1] at hq
      cases hk : i - n with
      | zero => rw [hk] at hq; simp at hq; subst hq; obtain rfl : i = n := by omega
                exact hp
      | succ k => rw [hk] at hq; simp at hq

section
variable {H : Type} {enc : TypeId × Value → H} {w : World} {base : Nat} {spare : Nat → Bool} {held : Bool} {M : U → TypeId → Prop}

/-- A row of one-cell parts. -/
theorem in_list {n : Nat} (ih : ∀ u t cs x, DataW.trod enc P w base spare held n t cs = some x → M u t → ∃ y : El S u, DR un (allD w) w [u] (sg y) cs ∧ Rd un [u] (sg y) [x.1]) :
    ∀ (us : List U) (ts : List TypeId) (cs : List Value) (xs : List (DataW H × List MemPlace)), ts.length = us.length → cs.length = us.length → xs.length = us.length →
      (∀ (i : Nat) (u : U) (t : TypeId), us[i]? = some u → ts[i]? = some t → M u t) → (∀ (i : Nat) (t : TypeId), ts[i]? = some t → DataW.trod enc P w base spare held n t ((cs.drop i).take 1) = xs[i]?) →
      ∃ y : ElL S us, DR un (allD w) w us y cs ∧ Rd un us y (xs.map (·.1))
  | [], _, cs, xs, _, h2, h3, _, _ => by
    obtain rfl := List.length_eq_zero_iff.1 h2
    obtain rfl := List.length_eq_zero_iff.1 h3
    exact ⟨(), .nil, .nil⟩
  | u :: us, ts, cs, xs, h1, h2, h3, h4, h5 => by
    match ts, cs, xs, h1, h2, h3 with
    | t :: ts, c :: cs, x :: xs, h1, h2, h3 =>
      have a := h5 0 t rfl
      obtain ⟨y, y1, y2⟩ := ih u t [c] x (by simpa using a) (h4 0 u t rfl rfl)
      obtain ⟨z, z1, z2⟩ := in_list ih us ts cs xs (by simpa using h1) (by simpa using h2) (by simpa using h3) (fun i u t hu ht => h4 (i + 1) u t (by simpa using hu) (by simpa using ht)) (fun i t ht => by simpa using h5 (i + 1) t (by simpa using ht))
      exact ⟨two y z, DR.one_cons y1 z1, Rd.one_cons y2 z2⟩

theorem Flds.get : ∀ {k : Nat} {fs : List Field} {us : List U}, Flds M P k fs us → fs.length = us.length ∧ ∀ (i : Nat) (f : Field) (u : U), fs[i]? = some f → us[i]? = some u → f.offset = k + i ∧ P.cellsOf f.type = 1 ∧ M u f.type
  | _, [], [], _ => ⟨rfl, fun i f u h => by simp at h⟩
  | k, f :: fs, u :: us, h => by
    obtain ⟨a, b, c, d⟩ := h
    obtain ⟨h1, h2⟩ := Flds.get d
    refine ⟨by simp [h1], fun i g v hg hv => ?_⟩
    cases i with
    | zero => simp at hg hv; subst hg; subst hv; exact ⟨a, b, c⟩
    | succ i => simp at hg hv; have := h2 i g v hg hv; exact ⟨by omega, this.2⟩
  | _, [], _ :: _, h => by simp [Flds] at h
  | _, _ :: _, [], h => by simp [Flds] at h

/-- THE BRIDGE. -/
theorem in_data (hun : ∀ n t, un.get n (un.put n t) = t) (hM : ∀ u t, M u t → Step P un M u t) : ∀ (n : Nat) (u : U) (t : TypeId) (cs : List Value) (x : DataW H × List MemPlace),
    DataW.trod enc P w base spare held n t cs = some x → M u t → ∃ y : El S u, DR un (allD w) w [u] (sg y) cs ∧ Rd un [u] (sg y) [x.1] := by
  intro n
  induction n with
  | zero => intro u t cs x h; simp [DataW.trod] at h
  | succ n ih =>
    intro u t cs x h hm
    have hs := hM u t hm
    cases u with
    | mp k v => exact hs.elim
    | rw u => exact hs.elim
    | int k =>
      obtain ⟨z, rfl, rfl, hw⟩ := DataW.trod_int hs h
      exact ⟨z, .int .nil, .int hw .nil⟩
    | bool =>
      obtain ⟨b, rfl, rfl⟩ := DataW.trod_bool hs h
      exact ⟨b, .bool .nil, .bool .nil⟩
    | str =>
      obtain ⟨s, rfl, rfl, hl⟩ := DataW.trod_string hs h
      refine ⟨s.data.toList, ?_, .str (by show s.data.toList.length ≤ maxLen; simpa using hl) .nil⟩
      have := DR.str (un := un) (D := allD w) (w := w) (us := []) (t := sg (u := .str) s.data.toList) (vs := []) .nil
      exact this
    | sl u =>
      obtain ⟨e, he, hc, hpos, hme⟩ := hs
      rcases DataW.trod_slice he h with ⟨rfl, rfl⟩ | ⟨a, len, cap, elems, rest, m, hmn, rfl, rfl, hb, hl, hcap, hel, hget, _, _⟩
      · exact ⟨([] : List (El S u)), .sl0 none 0 rfl .nil, .sl0 rfl .nil⟩
      · obtain rfl : n = m := by omega
        have one : ∀ i, i < len → ∃ (ci : List Value) (y : El S u), w.cells? base (a.add (i * P.cellsOf e)) (P.cellsOf e) = some ci ∧ DR un (allD w) w [u] (sg y) ci ∧ ∃ d, elems[i]? = some d ∧ Rd un [u] (sg y) [d.1] := by
          intro i hi
          have h1 := hget i hi
          rw [List.getElem?_eq_getElem (by omega)] at h1
          cases hci : w.cells? base (a.add (i * P.cellsOf e)) (P.cellsOf e) with
          | none => simp [hci] at h1
          | some ci =>
            rw [hci] at h1
            obtain ⟨y, y1, y2⟩ := ih u e ci _ h1 hme
            exact ⟨ci, y, rfl, y1, _, List.getElem?_eq_getElem (by omega), y2⟩
        by_cases h0 : len = 0
        · subst h0
          obtain rfl := List.length_eq_zero_iff.1 hel
          exact ⟨([] : List (El S u)), .sl0 _ _ rfl .nil, .sl [] _ rfl (fun i x d hx => by
            have hx' : ([] : List (El S u))[i]? = some x := hx
            simp at hx') .nil⟩
        obtain ⟨l, l1, l2⟩ := list_of (Q := fun i (p : List Value × El S u) => w.cells? base (a.add (i * P.cellsOf e)) (P.cellsOf e) = some p.1 ∧ DR un (allD w) w [u] (sg p.2) p.1 ∧ ∃ d, elems[i]? = some d ∧ Rd un [u] (sg p.2) [d.1]) len (fun i hi => by
          obtain ⟨ci, y, h1, h2, h3⟩ := one i hi
          exact ⟨(ci, y), h1, h2, h3⟩)
        have cellsAt : ∀ (i : Nat) (p : List Value × El S u), l[i]? = some p → p.1.length = P.cellsOf e ∧ ∀ (j : Nat) v, p.1[j]? = some v → w.cell? ((a.add (i * P.cellsOf e)).add j) = some v := by
          intro i p hp
          obtain ⟨h1, _, _⟩ := l2 i p hp
          unfold World.cells? at h1
          split at h1
          · have hlen := mapM_some_length h1
            refine ⟨by simpa using hlen, fun j v hj => ?_⟩
            have hlt : j < P.cellsOf e := by have := (List.getElem?_eq_some_iff.1 hj).1; simp at hlen; omega
            have := mapM_some_get h1 j j (by simp [hlt])
            rw [this, hj]
          · cases h1
        have hspot : a.spot = none := by
          obtain ⟨p, hp⟩ : ∃ p, l[0]? = some p := ⟨_, List.getElem?_eq_getElem (by omega)⟩
          obtain ⟨c1, c2⟩ := cellsAt 0 p hp
          obtain ⟨v, hv⟩ : ∃ v, p.1[0]? = some v := ⟨_, List.getElem?_eq_getElem (by omega)⟩
          have := (cell_lt (c2 0 v hv)).2
          simpa [Addr.add] using this
        have hsize : P.cellsOf e = U.size un u := hc
        have hlmap : (l.map (·.2)).length = len := by simp [l1]
        refine ⟨l.map (·.2), ?_, ?_⟩
        · obtain ⟨b, o, sp⟩ := a
          simp only at hspot
          subst hspot
          have := DR.sl (un := un) (D := allD w) (w := w) (u := u) (us := []) (t := sg (u := .sl u) (l.map (·.2))) (vs := []) b o cap (fun i => ((l[i]?).map (·.1)).getD []) (by
              show (l.map (·.2)).length ≤ cap
              omega) (fun i x hx => by
            have hx' : (l.map (·.2))[i]? = some x := hx
            rw [List.getElem?_map] at hx'
            cases hp : l[i]? with
            | none => simp [hp] at hx'
            | some p =>
              obtain ⟨_, c2⟩ := cellsAt i p hp
              simp only [Option.map_some, Option.getD_some]
              intro j v hj
              have := c2 j v hj
              rw [add_at ⟨b, o, none⟩ rfl, add_at _ rfl, hsize] at this
              exact ⟨(cell_lt this).1, this⟩) (fun i x hx => by
            have hx' : (l.map (·.2))[i]? = some x := hx
            rw [List.getElem?_map] at hx'
            cases hp : l[i]? with
            | none => simp [hp] at hx'
            | some p =>
              simp only [hp, Option.map_some, Option.some.injEq] at hx'
              subst hx'
              exact (l2 i p hp).2.1) .nil
          have e2 : (eL (hd (sg (u := .sl u) (l.map (·.2))))).length = len := hlmap
          rw [e2] at this
          exact this
        · exact .sl _ _ (by rw [List.length_map, hel]; exact hlmap.symm) (fun i x d hx hd' => by
            have hx' : (l.map (·.2))[i]? = some x := hx
            rw [List.getElem?_map] at hx' hd'
            cases hp : l[i]? with
            | none => simp [hp] at hx'
            | some p =>
              simp only [hp, Option.map_some, Option.some.injEq] at hx'
              subst hx'
              obtain ⟨_, _, d', q1, q2⟩ := l2 i p hp
              rw [q1] at hd'
              simp only [Option.map_some, Option.some.injEq] at hd'
              subst hd'
              exact q2) .nil
    | st k =>
      obtain ⟨hsz, hs⟩ := hs
      rcases hs with ⟨fs, hu, hf⟩ | ⟨m, e, u, hu, hc, hcodes, hme⟩
      · obtain ⟨xs, m, hmn, rfl, hcl, hxl, hget⟩ := DataW.trod_struct hu h
        obtain rfl : n = m := by omega
        obtain ⟨f1, f2⟩ := hf.get
        have f1' : fs.size = (un.codes k).length := by simpa using f1
        obtain ⟨y, y1, y2⟩ := in_list ih (un.codes k) (fs.toList.map (·.type)) cs xs (by simpa using f1) (by omega) (by omega) (fun i u t hu ht => by
          rw [List.getElem?_map] at ht
          cases hfi : fs.toList[i]? with
          | none => simp [hfi] at ht
          | some f => simp [hfi] at ht; subst ht; exact (f2 i f u hfi hu).2.2) (fun i t ht => by
          rw [List.getElem?_map] at ht
          cases hfi : fs.toList[i]? with
          | none => simp [hfi] at ht
          | some f =>
            simp only [hfi, Option.map_some, Option.some.injEq] at ht
            subst ht
            have hlt : i < (un.codes k).length := by have := (List.getElem?_eq_some_iff.1 hfi).1; omega
            obtain ⟨o1, o2, _⟩ := f2 i f _ hfi (List.getElem?_eq_getElem hlt)
            have := hget i f (by simpa using hfi)
            rw [o1, o2, Nat.zero_add] at this
            exact this)
        refine ⟨un.put k y, ?_, ?_⟩
        · have := DR.st (un := un) (D := allD w) (w := w) (n := k) (us := []) (t := sg (u := .st k) (un.put k y)) (cs := cs) (vs := []) (by
            show DR un (allD w) w (un.codes k) (un.get k (un.put k y)) cs
            rw [hun]; exact y1) .nil
          rwa [List.append_nil] at this
        · exact .st (by
            show Rd un (un.codes k) (un.get k (un.put k y)) _
            rw [hun]; exact y2) .nil
      · obtain ⟨xs, m', hmn, rfl, hcl, hxl, hget⟩ := DataW.trod_array hu h
        obtain rfl : n = m' := by omega
        have hlen : (un.codes k).length = m := by rw [hcodes]; simp
        obtain ⟨y, y1, y2⟩ := in_list ih (un.codes k) (List.replicate m e) cs xs (by simp [hlen]) (by omega) (by omega) (fun i u' t' hu' ht' => by
          rw [hcodes] at hu'
          rw [List.getElem?_replicate] at hu' ht'
          split at hu'
          · rename_i hlt; rw [if_pos hlt] at ht'; cases hu'; cases ht'; exact hme
          · cases hu') (fun i t' ht' => by
          rw [List.getElem?_replicate] at ht'
          split at ht'
          · rename_i hlt
            cases ht'
            have := hget i hlt
            rw [hc, Nat.mul_one] at this
            exact this
          · cases ht')
        refine ⟨un.put k y, ?_, ?_⟩
        · have := DR.st (un := un) (D := allD w) (w := w) (n := k) (us := []) (t := sg (u := .st k) (un.put k y)) (cs := cs) (vs := []) (by
            show DR un (allD w) w (un.codes k) (un.get k (un.put k y)) cs
            rw [hun]; exact y1) .nil
          rwa [List.append_nil] at this
        · exact .st (by
            show Rd un (un.codes k) (un.get k (un.put k y)) _
            rw [hun]; exact y2) .nil
end
end Pe
end
section
/- From a pure model's answer to a row's contract: a law of plain data that answers true. -/
namespace Pe
open Go Go.RowKit Go.WideShapes Go.ChangeShapes
variable {S : Nat → Type} {P : Program} {un : Uni S}

section
variable {H : Type} {enc : TypeId × Value → H}
theorem post_below {f : Func} {s : ChangeSpec} {apart fresh handsOn again : Bool} {W W' : World} {args : Array Value} {v : Value} {ds gs : List (DataW H)} {before pa pv : List MemPlace}
    (hW : DataW.Whole enc P f.params.toList s.vars apart W args.toList ds gs before)
    (hres : ∀ (b : Nat) (sp : Nat → Bool) (hd : Bool), DataW.TrodAll enc P W' b sp hd f.resultTypes.toList (v.resultList f.resultTypes.size) (s.fn H (ds ++ gs)).results [])
    (hargs : ∀ sp : Nat → Bool, (∀ p ∈ before, sp p.block = true) → DataW.TrodAll enc P W' 0 sp true f.params.toList args.toList (s.fn H (ds ++ gs)).args pa)
    (hvars : ∀ sp : Nat → Bool, (∀ p ∈ before, sp p.block = true) → DataW.TrodVars enc P W' sp s.vars (s.fn H (ds ++ gs)).vars pv)
    (hps : before = pa ++ pv) (hb : Below W.heap.size W W')
    (hok : ∀ (j : Nat) (t : TypeId) (r : Value), f.resultTypes[j]? = some t → (v.resultList f.resultTypes.size)[j]? = some r → Value.okWide P W' .any 0 t r) :
    s.post enc P f apart fresh handsOn again W args v W' := by
  have hlt : ∀ p ∈ before, p.block < W.heap.size := fun p hp => hW.lt p hp
  have hold : ∀ p ∈ before, (fun b => decide (b < W.heap.size)) p.block = true := fun p hp => by simpa using hlt p hp
  refine ⟨ds, gs, before, [], pa, pv, hW, hres _ _ _, hargs _ hold, hvars _ hold, World.keptBut_mono (fun p hp => ⟨hp, ?_⟩) (hb.frame (· ∈ before)), fun _ => ?_⟩
  · rw [hps, List.mem_append] at hp
    exact Or.inr hp
  · obtain ⟨_, _, _, _, _, hz, hn⟩ := hW
    refine ⟨hok, _, _, ([] ++ pa) ++ pv, ⟨[] ++ pa, pv, trodAll_append (hargs _ (fun _ _ => rfl)) (hres _ _ _), hvars _ (fun _ _ => rfl), rfl, ?_, ?_⟩, ?_⟩
    · intro b off hp
      have hin : MemPlace.cell b off ∈ before := by rw [hps]; simpa using hp
      rw [hb.frozen (hlt _ hin)]
      exact hz b off hin
    · intro ha
      have := hn ha
      rw [hps] at this
      simpa using this
    · intro p hp _
      rw [hps]
      simpa using hp

/-- The parameters' types and codes. -/
def ParOk (P : Program) (M : U → TypeId → Prop) : List U → List TypeId → Prop
  | [], [] => True
  | u :: us, t :: ts => M u t ∧ (∀ n, u = .st n → ∃ fs, P.underlying t = some (.struct fs)) ∧ P.readableRec t = true ∧ t < P.types.size ∧ ParOk P M us ts
  | _, _ => False

theorem rep_of {M : U → TypeId → Prop} (hM : ∀ u t, M u t → Step P un M u t) {u : U} {t : TypeId} (hm : M u t) (hst : ∀ n, u = .st n → ∃ fs, P.underlying t = some (.struct fs)) {w : World} {r : Reach} {b : Nat} {v : Value} (hv : Value.okWide P w r b t v)
    {D : Dat} {y : El S u} (h : DR un D w [u] (sg y) v.cells.toList) : Rep un [] D w (inj u y) v := by
  have hs := hM u t hm
  cases u with
  | mp k v => exact hs.elim
  | rw u => exact hs.elim
  | int k =>
    obtain ⟨n, rfl⟩ := okWide_int hs hv
    have h' : DR un D w [.int k] (sg y) [.int k n] := h
    cases h' with
    | int h2 => rfl
  | bool =>
    obtain ⟨n, rfl⟩ := okWide_bool hs hv
    have h' : DR un D w [.bool] (sg y) [.bool n] := h
    cases h' with
    | bool h2 => rfl
  | str =>
    obtain ⟨n, rfl⟩ := okWide_string hs hv
    have h' : DR un D w [.str] (sg y) [.string n] := h
    generalize hx : Value.string n = x at h' ⊢
    cases h' with
    | str h2 => rfl
  | sl u =>
    obtain ⟨e, he, _⟩ := hs
    obtain ⟨a, l, c, rfl⟩ := okWide_slice he hv
    exact h
  | st n =>
    obtain ⟨fs, hfs⟩ := hst n rfl
    obtain ⟨cs, rfl, _⟩ := okWide_struct hfs hv
    exact ⟨cs.toList, rfl, h⟩

theorem rep_all {M : U → TypeId → Prop} (hun : ∀ n t, un.get n (un.put n t) = t) (hM : ∀ u t, M u t → Step P un M u t) {w : World} {r : Reach} {base b : Nat} {spare : Nat → Bool} {held : Bool} :
    ∀ {us : List U} {ts : List TypeId} {vs : List Value} {ds : List (DataW H)} {ps : List MemPlace}, ParOk P M us ts → (∀ (j : Nat) t v, ts[j]? = some t → vs[j]? = some v → Value.okWide P w r b t v) →
      DataW.TrodAll enc P w base spare held ts vs ds ps → ∃ y : ElL S us, RepL un [] (allD w) w (injL us y) vs ∧ Rd un us y ds
  | [], [], [], [], _, _, _, _ => ⟨(), trivial, .nil⟩
  | u :: us, t :: ts, v :: vs, d :: ds, ps, hp, hv, ⟨p, q, h1, h2, _⟩ => by
    obtain ⟨m1, m2, _, _, m3⟩ := hp
    obtain ⟨fuel, h1⟩ := h1
    obtain ⟨y, y1, y2⟩ := in_data hun hM fuel u t _ _ h1 m1
    obtain ⟨z, z1, z2⟩ := rep_all hun hM (us := us) m3 (fun j t v ht hvj => hv (j + 1) t v (by simpa using ht) (by simpa using hvj)) h2
    exact ⟨two y z, ⟨rep_of hM m1 m2 (hv 0 t v rfl rfl) y1, z1⟩, Rd.one_cons y2 z2⟩

theorem trod_again (hl : laidOutB P = true) {M : U → TypeId → Prop} {W W' : World} (hb : Below W.heap.size W W') {sp : Nat → Bool} :
    ∀ {us : List U} {ts : List TypeId} {vs : List Value} {ds : List (DataW H)} {ps : List MemPlace}, ParOk P M us ts → DataW.TrodAll enc P W 0 (fun _ => true) true ts vs ds ps → (∀ p ∈ ps, p.block < W.heap.size ∧ sp p.block = true) →
      DataW.TrodAll enc P W' 0 sp true ts vs ds ps
  | [], [], [], [], _, _, h, _ => h
  | u :: us, t :: ts, v :: vs, d :: ds, ps, hp, ⟨p, q, h1, h2, e⟩, hs => by
    obtain ⟨_, _, m1, m2, m3⟩ := hp
    subst e
    exact ⟨p, q, WideElems.Trod_stays hl m1 m2 h1 (fun x hx => hb.same (hs x (List.mem_append_left _ hx)).1) (fun x hx => (hs x (List.mem_append_left _ hx)).2),
      trod_again hl hb m3 h2 (fun x hx => hs x (List.mem_append_right _ hx)), rfl⟩

/-- THE CONTRACT of a law: where the pure model answers true, the row holds. -/
theorem law_contract {M : U → TypeId → Prop} (hun : ∀ n t, un.get n (un.put n t) = t) (hM : ∀ u t, M u t → Step P un M u t) (hlo : laidOutB P = true) {f : FuncId} {fn : Func} {tb : TypeId} (hb : P.underlying tb = some .bool)
    (hrt : fn.resultTypes = #[tb]) {us : List U} (hps : ParOk P M us fn.params.toList) {s : ChangeSpec} (hv : s.vars = [])
    (hsp : ∀ ds : List (DataW H), ds.length = us.length → s.fn H ds = { results := [.lit (.bool true)], args := ds })
    (W : World) (base : Nat) (args : Array Value) (ds gs : List (DataW H)) (before : List MemPlace)
    (hval : ∀ (j : Nat) t v, fn.params[j]? = some t → args[j]? = some v → Value.okWide P W .any base t v)
    (hW : DataW.Whole enc P fn.params.toList s.vars false W args.toList ds gs before)
    (hlaw : ∀ y : ElL S us, Rd un us y ds → Sat P un f (injL us y) [.bool] (true, ())) :
    Calls P f args W fun e W' => ∃ v, e = .returned v ∧ s.post enc P fn false true false false W args v W' := by
  have hW' := hW
  obtain ⟨p, q, hA0, hV, rfl, hfz, hnd⟩ := hW
  have hA : DataW.TrodAll enc P W 0 (fun _ => true) true fn.params.toList args.toList ds p := hA0
  obtain ⟨y, y1, y2⟩ := rep_all hun hM hps (fun j t v ht hvj => hval j t v (by simpa using ht) (by simpa using hvj)) hA
  have hlen : ds.length = us.length := by
    clear hA0 hW' hV hlaw hval hfz hnd
    have : ∀ {us : List U} {y : ElL S us} {ds : List (DataW H)}, Rd un us y ds → ds.length = us.length := by
      intro us y ds h
      induction h <;> simp_all
    exact this y2
  rw [hv] at hV
  have hgs : gs = [] ∧ q = [] := by
    match gs, hV with
    | [], h => exact ⟨rfl, h⟩
  obtain ⟨rfl, rfl⟩ := hgs
  have hlt : ∀ x ∈ p ++ [], x.block < W.heap.size := fun x hx => hW'.lt x hx
  refine (hlaw y y2 (allD W) W args.toList (fun k o h => h) y1).mono fun e W' ⟨v, h1, h2, h3⟩ => ?_
  have h3' : v = .bool true := h3
  subst h1
  subst h3'
  have hfn : s.fn H (ds ++ []) = { results := [.lit (.bool true)], args := ds } := by rw [List.append_nil]; exact hsp ds hlen
  refine ⟨_, rfl, post_below (pa := p) (pv := []) hW' (fun b sp hd => ?_) (fun sp hs => ?_) (fun sp _ => ?_) rfl h2 (ok_one hrt rfl (okWide_bool_mk hb _))⟩
  · rw [hfn, hrt]
    exact trodAll_cons_mk (shut_bool hb _) trodAll_mk0
  · rw [hfn]
    exact trod_again hlo h2 hps hA (fun x hx => ⟨hlt x (by simpa using hx), hs x (by simpa using hx)⟩)
  · rw [hfn, hv]; rfl
end
end Pe
end
