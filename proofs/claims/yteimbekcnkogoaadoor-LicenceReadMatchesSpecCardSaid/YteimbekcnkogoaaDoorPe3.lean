/- States: what is the call's own, and what is data; casts, openings, boxes. -/
import Derived.Test.YteimbekcnkogoaaDoorPe2
namespace Pe
open Go Go.RowKit
variable {S : Nat → Type}

def free : Wl.Res → Nat → Prop
  | .own _ _ size n _, o => n * size ≤ o
  | _, _ => True

/-- E: where the call began; D: the cells that are data; H: what is the call's own. -/
structure In (E : Wl.Ctx) (D : Dat) (H : List Wl.Res) (w : World) : Prop where
  out : Wl.Grow E.lent E.w w
  lt : ∀ k o, D k o → k < w.heap.size
  res : ∀ r ∈ H, Wl.Res.holds E w r
  apart : ∀ r ∈ H, ∀ g, r.block = some g → ∀ o, free r o → ¬ D g o
  disj : H.Pairwise Wl.apartR
  /-- The blocks that are lent are the first boxes. -/
  lent : ∀ (i g : Nat), E.lent[i]? = some g → ∃ T cs, H[i]? = some (.box g T cs)

def BxRep (un : Uni S) (nu : Nu) (D : Dat) (w : World) (E : Wl.Ctx) : Bxs S → List Wl.Res → Prop
  | [], [] => True
  | b :: bs, r :: rs => BoxRep un nu D w E false b r ∧ BxRep un nu D w E bs rs
  | _, _ => False

abbrev ids (H : List Wl.Res) : Nu := H.map resId

structure St (un : Uni S) (E : Wl.Ctx) (N : Wl.Fr) (D : Dat) (H : List Wl.Res) (e : Env S) (bx : Bxs S) (a : Act) (w : World) : Prop where
  inn : In E D H w
  size : a.tmps.size = N.n
  defers : a.defers = N.ds
  boxes : BxRep un (ids H) D w E bx H
  slots : ∀ i p, look e i = some p → Rep un (ids H) D w p (a.tmps.getD i undef)

theorem rep_const {un : Uni S} {nu D w} (v : Value) : Rep un nu D w (constPV v : PV S) v := by
  cases v with
  | int k n => simp [constPV, Rep]
  | bool b => simp [constPV, Rep]
  | string s => simp [constPV, Rep]
  | slice a l c => unfold constPV; split <;> simp_all [Rep]
  | pointer a => cases a <;> simp [constPV, Rep]
  | tuple vs =>
    obtain ⟨l⟩ := vs
    cases l with
    | nil => simp only [constPV, Rep]; exact ⟨[], rfl, by simp [RepL]⟩
    | cons x r => simp [constPV, Rep]
  | _ => simp [constPV, Rep]

theorem St.ev {un : Uni S} {E N D H e bx a w} (h : St un E N D H e bx a w) {x : Operand} {p : PV S} (hx : ev e x = some p) : Rep un (ids H) D w p (a.eval x) := by
  cases x with
  | tmp t => exact h.slots t p hx
  | const v => simp [Pe.ev] at hx; subst hx; exact rep_const v
  | func f => simp [Pe.ev] at hx; subst hx; simp only [Rep]; exact ⟨[], [], rfl, by simp [RepL], by simp [RepL]⟩
  | global g => simp [Pe.ev] at hx
theorem St.evs {un : Uni S} {E N D H e bx a w} (h : St un E N D H e bx a w) : ∀ {xs : List Operand} {ps : List (PV S)}, evs e xs = some ps → RepL un (ids H) D w ps (xs.map a.eval)
  | [], ps, hx => by simp [Pe.evs] at hx; subst hx; simp [RepL]
  | x :: r, ps, hx => by
    unfold Pe.evs at hx
    cases h1 : Pe.ev e x <;> cases h2 : Pe.evs e r <;> simp [h1, h2] at hx
    subst hx
    simp only [List.map_cons, RepL]
    exact ⟨h.ev h1, h.evs h2⟩

/-! ### casts -/
section
variable {un : Uni S} {nu : Nu} {D : Dat} {w : World}

theorem cast0_dr : ∀ {u : U} {p : PV S} {x : El S u} {v : Value}, cast0 u p = some x → Rep un nu D w p v → DR un D w [u] (sg x) [v] ∧ v.cells = #[v] ∧ Rep un nu D w (inj u x) v := by
  intro u p x v hc hr
  unfold cast0 at hc
  split at hc
  · rename_i k k' n
    split at hc
    · rename_i hk
      obtain ⟨rfl⟩ := ‹PLift (k' = k)›
      cases hc
      simp only [Rep] at hr; subst hr
      exact ⟨.int .nil, rfl, by simp only [inj, Rep]⟩
    · cases hc
  · cases hc; simp only [Rep] at hr; subst hr; exact ⟨.bool .nil, rfl, by simp only [inj, Rep]⟩
  · cases hc; simp only [Rep] at hr; subst hr; exact ⟨.str .nil, rfl, by simp only [inj, Rep]⟩
  · rename_i u' v' l
    split at hc
    · rename_i h heq
      subst h
      cases hc
      simp only [Rep] at hr
      refine ⟨hr, ?_, by simp only [inj, Rep]; exact hr⟩
      cases hr <;> rfl
    · cases hc
  · cases hc; simp only [Rep] at hr; subst hr; exact ⟨.sl0 none 0 rfl .nil, rfl, by simp only [inj, Rep]; exact .sl0 none 0 rfl .nil⟩
  · cases hc

theorem DR.cons1 {u : U} {us : List U} {x : El S u} {t : ElL S us} {a b : List Value} (h : DR un D w [u] (sg x) a) (k : DR un D w us t b) : DR un D w (u :: us) (two x t) (a ++ b) := by
  cases h with
  | int h => cases h; exact .int k
  | bool h => cases h; exact .bool k
  | str h => cases h; exact .str k
  | sl0 A c h0 h => cases h; exact .sl0 A c h0 k
  | sl b off c cs hc h1 h2 h => cases h; exact .sl b off c cs hc h1 h2 k
  | st h1 h => cases h; rw [List.append_nil]; exact .st h1 k

theorem castL0_dr : ∀ {us : List U} {ps : List (PV S)} {t : ElL S us} {vs : List Value}, castL0 us ps = some t → RepL un nu D w ps vs → DR un D w us t vs
  | [], [], t, [], _, _ => .nil
  | u :: us, p :: ps, t, v :: vs, hc, hr => by
    simp only [RepL] at hr
    unfold castL0 at hc
    split at hc
    · rename_i x t' h1 h2
      cases hc
      exact (cast0_dr h1 hr.1).1.cons1 (castL0_dr h2 hr.2)
    · cases hc
  | [], _ :: _, _, _, hc, _ => by simp [castL0] at hc
  | _ :: _, [], _, _, hc, _ => by simp [castL0] at hc
  | [], [], _, _ :: _, _, hr => by simp [RepL] at hr
  | _ :: _, _ :: _, _, [], _, hr => by simp [RepL] at hr

/-- The struct that is put together. -/
structure UniOk (un : Uni S) : Prop where
  flat : Flat un
  get_put : ∀ n t, un.get n (un.put n t) = t

theorem cast_dr (hun : UniOk un) {u : U} {p : PV S} {x : El S u} {v : Value} (hc : cast un u p = some x) (hr : Rep un nu D w p v) : DR un D w [u] (sg x) v.cells.toList ∧ Rep un nu D w (inj u x) v := by
  have key : ∀ {u : U} {x : El S u}, cast0 u p = some x → DR un D w [u] (sg x) v.cells.toList ∧ Rep un nu D w (inj u x) v := by
    intro u x hc
    obtain ⟨h1, h2, h3⟩ := cast0_dr (un := un) (nu := nu) (D := D) (w := w) hc hr
    rw [h2]
    exact ⟨h1, h3⟩
  cases u with
  | st n =>
    cases p with
    | st m y =>
      simp only [cast] at hc
      split at hc
      · rename_i h _
        subst h
        cases hc
        simp only [Rep] at hr
        obtain ⟨cs, rfl, hd⟩ := hr
        exact ⟨by simpa [Value.cells] using hd, by simp only [inj, Rep]; exact ⟨cs, rfl, hd⟩⟩
      · cases hc
    | agg l =>
      simp only [cast] at hc
      split at hc
      · rename_i t ht
        cases hc
        simp only [Rep] at hr
        obtain ⟨cs, rfl, hl⟩ := hr
        have hd := castL0_dr (un := un) ht hl
        have hd2 : DR un D w [.st n] (sg (u := .st n) (un.put n t)) cs := by
          rw [← List.append_nil cs]
          refine .st ?_ .nil
          show DR un D w (un.codes n) (un.get n (un.put n t)) cs
          rw [hun.get_put]; exact hd
        exact ⟨by simpa [Value.cells] using hd2, by simp only [inj, Rep]; exact ⟨cs, rfl, hd2⟩⟩
      · cases hc
    | _ => simp [cast] at hc
  | int k => exact key (by simpa [cast] using hc)
  | bool => exact key (by simpa [cast] using hc)
  | str => exact key (by simpa [cast] using hc)
  | sl u => exact key (by simpa [cast] using hc)

/-- Data of one cell each, one by one. -/
theorem injL_rep : ∀ {us : List U} {t : ElL S us} {vs : List Value}, (∀ u ∈ us, ∀ m, u ≠ .st m) → DR un D w us t vs → RepL un nu D w (injL us t) vs
  | [], _, _, _, h => by cases h; simp [injL, RepL]
  | u :: us, t, vs, hf, h => by
    have ih := fun {t vs} => @injL_rep us t vs (fun v hv => hf v (by simp [hv]))
    cases h with
    | int h => simp only [injL, RepL]; exact ⟨by simp only [inj, Rep]; rfl, ih h⟩
    | bool h => simp only [injL, RepL]; exact ⟨by simp only [inj, Rep]; rfl, ih h⟩
    | str h => simp only [injL, RepL]; exact ⟨by simp only [inj, Rep]; rfl, ih h⟩
    | sl0 A c h0 h => simp only [injL, RepL]; exact ⟨by simp only [inj, Rep]; exact .sl0 A c h0 .nil, ih h⟩
    | sl b off c cs hc h1 h2 h => simp only [injL, RepL]; exact ⟨by simp only [inj, Rep]; exact .sl b off c cs hc h1 h2 .nil, ih h⟩
    | @st n _ _ _ _ h1 h => exact absurd rfl (hf (.st n) (by simp) n)

theorem openEl_rep (hf : Flat un) {u : U} {x : El S u} {cs : List Value} (h : DR un D w [u] (sg x) cs) : RepL un nu D w (openEl un u x) cs := by
  cases u with
  | st n =>
    cases h with
    | st h1 h => cases h; rw [List.append_nil]; exact injL_rep (fun u hu => (hf n u hu).2) h1
  | int k => exact injL_rep (us := [.int k]) (by simp) h
  | bool => exact injL_rep (us := [.bool]) (by simp) h
  | str => exact injL_rep (us := [.str]) (by simp) h
  | sl u => exact injL_rep (us := [.sl u]) (by simp) h

theorem Rep.one {p : PV S} {v : Value} (h1 : p.one = true) (h : Rep un nu D w p v) : v.oneCell' = true ∧ v.cells = #[v] := by
  cases p <;> simp [PV.one] at h1 <;> simp only [Rep] at h
  case row b => exact h.2
  case sl u l => cases h <;> exact ⟨rfl, rfl⟩
  all_goals (first | (subst h; exact ⟨rfl, rfl⟩) | (obtain ⟨_, _, _, rfl, _⟩ := h; exact ⟨rfl, rfl⟩) | (obtain ⟨_, _, rfl⟩ := h; exact ⟨rfl, rfl⟩) | (obtain ⟨_, _, rfl, _⟩ := h; exact ⟨rfl, rfl⟩) | (obtain ⟨_, rfl, _⟩ := h; exact ⟨rfl, rfl⟩))

/-- A value's cells, each of one cell. -/
theorem cells_rep (hf : Flat un) {p : PV S} {v : Value} (h1 : (p.cells un).all PV.one = true) (h : Rep un nu D w p v) : RepL un nu D w (p.cells un) v.cells.toList ∧ ∀ u ∈ v.cells.toList, u.oneCell' = true := by
  have key : ∀ {ps : List (PV S)} {vs : List Value}, ps.all PV.one = true → RepL un nu D w ps vs → ∀ u ∈ vs, u.oneCell' = true := by
    intro ps
    induction ps with
    | nil => intro vs _ h u hu; cases vs <;> simp_all [RepL]
    | cons q ps ih =>
      intro vs ha h u hu
      cases vs with
      | nil => simp at hu
      | cons v vs =>
        simp only [RepL] at h
        simp only [List.all_cons, Bool.and_eq_true] at ha
        rcases List.mem_cons.1 hu with rfl | hu
        · exact (Rep.one ha.1 h.1).1
        · exact ih ha.2 h.2 u hu
  have single : p.cells un = [p] → RepL un nu D w (p.cells un) v.cells.toList ∧ ∀ u ∈ v.cells.toList, u.oneCell' = true := by
    intro hp
    rw [hp] at h1 ⊢
    simp at h1
    obtain ⟨h2, h3⟩ := Rep.one h1 h
    rw [h3]
    exact ⟨by simp only [RepL]; exact ⟨h, trivial⟩, by simpa using h2⟩
  cases p with
  | agg l =>
    simp only [Rep] at h
    obtain ⟨cs, rfl, h⟩ := h
    simp only [PV.cells] at h1 ⊢
    exact ⟨by simpa [Value.cells] using h, by simpa [Value.cells] using key h1 h⟩
  | st n x =>
    simp only [Rep] at h
    obtain ⟨cs, rfl, h⟩ := h
    have hl := openEl_rep (nu := nu) hf h
    exact ⟨by simpa [Value.cells, PV.cells] using hl, by simpa [Value.cells] using key h1 hl⟩
  | _ => exact single rfl

/-! ### boxes -/
theorem BoxRep.base {E : Wl.Ctx} : ∀ {ro : Bool} {b : Box S} {r : Wl.Res}, BoxRep un nu D w E ro b r → ∃ ro', BoxRep un nu D w E ro' b.base r
  | ro, .var _ _, r, h => ⟨ro, h⟩
  | ro, .own _ _ _, r, h => ⟨ro, h⟩
  | ro, .gone, r, h => ⟨ro, h⟩
  | ro, .lk b, r, h => by simp only [BoxRep] at h; simpa only [Box.base] using BoxRep.base h
  | ro, .ro b, r, h => by simp only [BoxRep] at h; simpa only [Box.base] using BoxRep.base h
theorem BxRep.get {E : Wl.Ctx} : ∀ {bx : Bxs S} {H : List Wl.Res} {i : Nat} {b : Box S}, BxRep un nu D w E bx H → getB bx i = some b → ∃ r, H[i]? = some r ∧ BoxRep un nu D w E false b r
  | [], _, _, _, _, h => by simp [getB] at h
  | b :: bs, r :: rs, 0, c, h, hg => by simp only [BxRep] at h; simp [getB] at hg; subst hg; exact ⟨r, rfl, h.1⟩
  | b :: bs, r :: rs, i + 1, c, h, hg => by simp only [BxRep] at h; simp only [getB] at hg; simpa using BxRep.get h.2 hg
  | _ :: _, [], _, _, h, _ => by simp [BxRep] at h
theorem BxRep.length {E : Wl.Ctx} : ∀ {bx : Bxs S} {H : List Wl.Res}, BxRep un nu D w E bx H → bx.length = H.length
  | [], [], _ => rfl
  | b :: bs, r :: rs, h => by simp only [BxRep] at h; simp [BxRep.length h.2]
  | [], _ :: _, h => by simp [BxRep] at h
  | _ :: _, [], h => by simp [BxRep] at h

theorem rangeAt_dat {b off : Nat} {cs : List Value} (h : dat D w b off cs) : w.rangeAt b off cs := fun j v hj => (h j v hj).2

/-- The row of the call's own, read as data. -/
theorem own_rep (_ : Flat un) {E : Wl.Ctx} {u : U} {T : TypeId} {l : List (El S u)} {v : Value} {T' : TypeId} {size n : Nat} {xs : List Value} (hh : Wl.Res.holds E w (.own v T' size n xs)) (h : BoxRep un nu D w E false (.own u T l) (.own v T' size n xs)) : Rep un nu D w (.sl u l) v := by
  simp only [BoxRep] at h
  obtain ⟨rfl, rfl, rfl, hD, hx⟩ := h
  obtain ⟨hlen, hh⟩ := hh
  simp only [Rep]
  rcases hh with ⟨rfl, hn⟩ | ⟨g, cap, cur, rfl, hb, hg, hnc, hcm, hcs, htk⟩
  · have : l = [] := List.length_eq_zero_iff.1 hn
    subst this
    exact .sl0 none 0 rfl .nil
  · refine .sl g 0 cap (fun i => (xs.drop (i * U.size un u)).take (U.size un u)) hnc (fun i x hi j v hj => ?_) (fun i x hi => hx i x hi) .nil
    have hil : i < l.length := (List.getElem?_eq_some_iff.1 hi).1
    have hj' := hj
    rw [List.getElem?_take] at hj
    split at hj
    · rename_i hjs
      rw [List.getElem?_drop] at hj
      have h1 : i * U.size un u + j < l.length * U.size un u := by
        have h2 : (i + 1) * U.size un u ≤ l.length * U.size un u := Nat.mul_le_mul_right _ hil
        have h3 : (i + 1) * U.size un u = i * U.size un u + U.size un u := by rw [Nat.add_mul, Nat.one_mul]
        omega
      refine ⟨by simpa using hD g rfl _ h1, ?_⟩
      rw [cell_of_row w g _ _ _ _ hg]
      subst htk
      rw [List.getElem?_take_of_lt h1] at hj
      simpa using hj
    · cases hj
end
end Pe
