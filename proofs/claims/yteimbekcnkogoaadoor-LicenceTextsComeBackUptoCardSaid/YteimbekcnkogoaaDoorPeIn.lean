/- What is handed in: a reading of plain data by a row gives a value of the pure reading. -/
import Derived.Test.YteimbekcnkogoaaDoorPe4
import Derived.ChangeArms
import Derived.OpenShut
import Derived.ChangeReads
import Derived.Below
namespace Pe
open Go Go.RowKit
variable {S : Nat → Type} {P : Program} {un : Uni S}

/-- A type and the code of what is read there, one step down. -/
def Flds (M : U → TypeId → Prop) (P : Program) : Nat → List Field → List U → Prop
  | _, [], [] => True
  | k, f :: fs, u :: us => f.offset = k ∧ P.cellsOf f.type = 1 ∧ M u f.type ∧ Flds M P (k + 1) fs us
  | _, _, _ => False
def Step (P : Program) (un : Uni S) (M : U → TypeId → Prop) : U → TypeId → Prop
  | .int k, t => P.underlying t = some (.int k)
  | .bool, t => P.underlying t = some .bool
  | .str, t => P.underlying t = some .string
  | .sl u, t => ∃ e, P.underlying t = some (.slice e) ∧ P.cellsOf e = U.size un u ∧ 0 < U.size un u ∧ M u e
  | .st n, t => P.cellsOf t = (un.codes n).length ∧ ((∃ fs, P.underlying t = some (.struct fs) ∧ Flds M P 0 fs.toList (un.codes n)) ∨
      ∃ k e u, P.underlying t = some (.array k e) ∧ P.cellsOf e = 1 ∧ un.codes n = List.replicate k u ∧ M u e)

/-- What a value of the pure reading is as a row's data. -/
inductive Rd {H : Type} (un : Uni S) : (us : List U) → ElL S us → List (DataW H) → Prop
  | nil {t} : Rd un [] t []
  | int {k us} {t : ElL S (.int k :: us)} {ds} (hw : (Lit.int k (eI (hd t))).wf = true) (h : Rd un us (tl t) ds) : Rd un (.int k :: us) t (.lit (.int k (eI (hd t))) :: ds)
  | bool {us} {t : ElL S (.bool :: us)} {ds} (h : Rd un us (tl t) ds) : Rd un (.bool :: us) t (.lit (.bool (eB (hd t))) :: ds)
  | str {us} {t : ElL S (.str :: us)} {ds} (hs : (eS (hd t)).length ≤ maxLen) (h : Rd un us (tl t) ds) : Rd un (.str :: us) t (.lit (.string (eS (hd t))) :: ds)
  | sl0 {u us} {t : ElL S (.sl u :: us)} {ds} (h0 : eL (hd t) = []) (h : Rd un us (tl t) ds) : Rd un (.sl u :: us) t (.nil :: ds)
  | sl {u us} {t : ElL S (.sl u :: us)} {ds} (es sp : List (DataW H)) (hl : es.length = (eL (hd t)).length)
      (h1 : ∀ (i : Nat) (x : El S u) (d : DataW H), (eL (hd t))[i]? = some x → es[i]? = some d → Rd un [u] (sg x) [d]) (h : Rd un us (tl t) ds) : Rd un (.sl u :: us) t (.slice es sp :: ds)
  | st {n us} {t : ElL S (.st n :: us)} {ps ds} (h1 : Rd un (un.codes n) (un.get n (eT (hd t))) ps) (h : Rd un us (tl t) ds) : Rd un (.st n :: us) t (.agg ps :: ds)

theorem DR.one_cons {D : Dat} {w : World} {u : U} {us : List U} {x : El S u} {t : ElL S us} {c cs : List Value} (h1 : DR un D w [u] (sg x) c) (h2 : DR un D w us t cs) : DR un D w (u :: us) (two x t) (c ++ cs) := by
  cases h1 with
  | int h => cases h; exact .int h2
  | bool h => cases h; exact .bool h2
  | str h => cases h; exact .str h2
  | sl0 A c h0 h => cases h; exact .sl0 A c h0 h2
  | sl b off c cs hc a1 a2 h => cases h; exact .sl b off c cs hc a1 a2 h2
  | st a1 h => cases h; rw [List.append_nil]; exact .st a1 h2
theorem Rd.one_cons {H : Type} {u : U} {us : List U} {x : El S u} {t : ElL S us} {c : DataW H} {cs : List (DataW H)} (h1 : Rd un [u] (sg x) [c]) (h2 : Rd un us t cs) : Rd un (u :: us) (two x t) (c :: cs) := by
  cases h1 with
  | int hw h => exact .int hw h2
  | bool h => exact .bool h2
  | str hs h => exact .str hs h2
  | sl0 h0 h => exact .sl0 h0 h2
  | sl es sp hl a1 h => exact .sl es sp hl a1 h2
  | st a1 h => exact .st a1 h2

section
variable {H : Type}
theorem Rd.inv_nil {t : ElL S []} {ds : List (DataW H)} (h : Rd un [] t ds) : ds = [] := by cases h; rfl
theorem Rd.inv_int {k : IntKind} {us : List U} {t : ElL S (.int k :: us)} {ds : List (DataW H)} (h : Rd un (.int k :: us) t ds) : ∃ r, ds = .lit (.int k (eI (hd t))) :: r ∧ (Lit.int k (eI (hd t))).wf = true ∧ Rd un us (tl t) r := by
  cases h with | int hw h => exact ⟨_, rfl, hw, h⟩
theorem Rd.inv_bool {us : List U} {t : ElL S (.bool :: us)} {ds : List (DataW H)} (h : Rd un (.bool :: us) t ds) : ∃ r, ds = .lit (.bool (eB (hd t))) :: r ∧ Rd un us (tl t) r := by
  cases h with | bool h => exact ⟨_, rfl, h⟩
theorem Rd.inv_str {us : List U} {t : ElL S (.str :: us)} {ds : List (DataW H)} (h : Rd un (.str :: us) t ds) : ∃ r, ds = .lit (.string (eS (hd t))) :: r ∧ (eS (hd t)).length ≤ maxLen ∧ Rd un us (tl t) r := by
  cases h with | str hs h => exact ⟨_, rfl, hs, h⟩
theorem Rd.inv_sl {u : U} {us : List U} {t : ElL S (.sl u :: us)} {ds : List (DataW H)} (h : Rd un (.sl u :: us) t ds) :
    ∃ d r, ds = d :: r ∧ ((d = .nil ∧ eL (hd t) = []) ∨ ∃ es sp, d = .slice es sp ∧ es.length = (eL (hd t)).length ∧ ∀ (i : Nat) (x : El S u) (d : DataW H), (eL (hd t))[i]? = some x → es[i]? = some d → Rd un [u] (sg x) [d]) ∧ Rd un us (tl t) r := by
  cases h with
  | sl0 h0 h => exact ⟨_, _, rfl, .inl ⟨rfl, h0⟩, h⟩
  | sl es sp hl h1 h => exact ⟨_, _, rfl, .inr ⟨es, sp, rfl, hl, h1⟩, h⟩
theorem Rd.inv_st {n : Nat} {us : List U} {t : ElL S (.st n :: us)} {ds : List (DataW H)} (h : Rd un (.st n :: us) t ds) : ∃ ps r, ds = .agg ps :: r ∧ Rd un (un.codes n) (un.get n (eT (hd t))) ps ∧ Rd un us (tl t) r := by
  cases h with | st h1 h => exact ⟨_, _, rfl, h1, h⟩
end

/-- All that is there is data. -/
def allD (w : World) : Dat := fun k _ => k < w.heap.size

theorem cell_lt {w : World} {a : Addr} {v : Value} (h : w.cell? a = some v) : a.block < w.heap.size ∧ a.spot = none := by
  unfold World.cell? at h
  split at h
  · rename_i c _ _ hb
    refine ⟨(Array.getElem?_eq_some_iff.1 hb).1, ?_⟩
    split at h
    · cases h
    · rename_i hs; simpa using hs
  · cases h
theorem add_at (a : Addr) (h : a.spot = none) (n : Nat) : a.add n = ⟨a.block, a.off + n, none⟩ := by
  unfold Addr.add
  obtain ⟨b, o, s⟩ := a
  simp only at h
  subst h
  split
  · rename_i h0; subst h0; rfl
  · rfl
theorem list_of {α : Type} {Q : Nat → α → Prop} : ∀ (n : Nat), (∀ i, i < n → ∃ p, Q i p) → ∃ l : List α, l.length = n ∧ ∀ (i : Nat) (p : α), l[i]? = some p → Q i p
  | 0, _ => ⟨[], rfl, fun i p h => by simp at h⟩
  | n + 1, h => by
    obtain ⟨l, h1, h2⟩ := list_of n fun i hi => h i (by omega)
    obtain ⟨p, hp⟩ := h n (by omega)
    refine ⟨l ++ [p], by simp [h1], fun i q hq => ?_⟩
    rcases Nat.lt_or_ge i n with hlt | hge
    · rw [List.getElem?_append_left (by omega)] at hq; exact h2 i q hq
    · rw [List.getElem?_append_right (by omega), h1] at hq
      cases hk : i - n with
      | zero => rw [hk] at hq; simp at hq; subst hq; obtain rfl : i = n := by omega
                exact hp
      | succ k => rw [hk] at hq; simp at hq

section
variable {H : Type} {enc : TypeId × Value → H} {w : World} {base : Nat} {spare : Nat → Bool} {held : Bool} {M : U → TypeId → Prop}

/-- A row of one-cell parts. -/
theorem in_list {n : Nat} (ih : ∀ u t cs x, DataW.trod enc P w base spare held n t cs = some x → M u t → ∃ y : El S u, DR un (allD w) w [u] (sg y) cs ∧ Rd un [u] (sg y) [x.1]) :
    ∀ (us : List U) (ts : List TypeId) (cs : List Value) (xs : List (DataW H × List MemPlace)), ts.length = us.length → cs.length = us.length → xs.length = us.length →
      (∀ (i : Nat) (u : U) (t : TypeId), us[i]? = some u → ts[i]? = some t → M u t) → (∀ (i : Nat) (t : TypeId), ts[i]? = some t → DataW.trod enc P w base spare held n t ((cs.drop i).take 1) = xs[i]?) →
      ∃ y : ElL S us, DR un (allD w) w us y cs ∧ Rd un us y (xs.map (·.1))
  | [], _, cs, xs, _, h2, h3, _, _ => by
    obtain rfl := List.length_eq_zero_iff.1 h2
    obtain rfl := List.length_eq_zero_iff.1 h3
    exact ⟨(), .nil, .nil⟩
  | u :: us, ts, cs, xs, h1, h2, h3, h4, h5 => by
    match ts, cs, xs, h1, h2, h3 with
    | t :: ts, c :: cs, x :: xs, h1, h2, h3 =>
      have a := h5 0 t rfl
      obtain ⟨y, y1, y2⟩ := ih u t [c] x (by simpa using a) (h4 0 u t rfl rfl)
      obtain ⟨z, z1, z2⟩ := in_list ih us ts cs xs (by simpa using h1) (by simpa using h2) (by simpa using h3) (fun i u t hu ht => h4 (i + 1) u t (by simpa using hu) (by simpa using ht)) (fun i t ht => by simpa using h5 (i + 1) t (by simpa using ht))
      exact ⟨two y z, DR.one_cons y1 z1, Rd.one_cons y2 z2⟩

theorem Flds.get : ∀ {k : Nat} {fs : List Field} {us : List U}, Flds M P k fs us → fs.length = us.length ∧ ∀ (i : Nat) (f : Field) (u : U), fs[i]? = some f → us[i]? = some u → f.offset = k + i ∧ P.cellsOf f.type = 1 ∧ M u f.type
  | _, [], [], _ => ⟨rfl, fun i f u h => by simp at h⟩
  | k, f :: fs, u :: us, h => by
    obtain ⟨a, b, c, d⟩ := h
    obtain ⟨h1, h2⟩ := Flds.get d
    refine ⟨by simp [h1], fun i g v hg hv => ?_⟩
    cases i with
    | zero => simp at hg hv; subst hg; subst hv; exact ⟨a, b, c⟩
    | succ i => simp at hg hv; have := h2 i g v hg hv; exact ⟨by omega, this.2⟩
  | _, [], _ :: _, h => by simp [Flds] at h
  | _, _ :: _, [], h => by simp [Flds] at h

/-- THE BRIDGE. -/
theorem in_data (hun : ∀ n t, un.get n (un.put n t) = t) (hM : ∀ u t, M u t → Step P un M u t) : ∀ (n : Nat) (u : U) (t : TypeId) (cs : List Value) (x : DataW H × List MemPlace),
    DataW.trod enc P w base spare held n t cs = some x → M u t → ∃ y : El S u, DR un (allD w) w [u] (sg y) cs ∧ Rd un [u] (sg y) [x.1] := by
  intro n
  induction n with
  | zero => intro u t cs x h; simp [DataW.trod] at h
  | succ n ih =>
    intro u t cs x h hm
    have hs := hM u t hm
    cases u with
    | int k =>
      obtain ⟨z, rfl, rfl, hw⟩ := DataW.trod_int hs h
      exact ⟨z, .int .nil, .int hw .nil⟩
    | bool =>
      obtain ⟨b, rfl, rfl⟩ := DataW.trod_bool hs h
      exact ⟨b, .bool .nil, .bool .nil⟩
    | str =>
      obtain ⟨s, rfl, rfl, hl⟩ := DataW.trod_string hs h
      refine ⟨s.data.toList, ?_, .str (by show s.data.toList.length ≤ maxLen; simpa using hl) .nil⟩
      have := DR.str (un := un) (D := allD w) (w := w) (us := []) (t := sg (u := .str) s.data.toList) (vs := []) .nil
      exact this
    | sl u =>
      obtain ⟨e, he, hc, hpos, hme⟩ := hs
      rcases DataW.trod_slice he h with ⟨rfl, rfl⟩ | ⟨a, len, cap, elems, rest, m, hmn, rfl, rfl, hb, hl, hcap, hel, hget, _, _⟩
      · exact ⟨([] : List (El S u)), .sl0 none 0 rfl .nil, .sl0 rfl .nil⟩
      · obtain rfl : n = m := by omega
        have one : ∀ i, i < len → ∃ (ci : List Value) (y : El S u), w.cells? base (a.add (i * P.cellsOf e)) (P.cellsOf e) = some ci ∧ DR un (allD w) w [u] (sg y) ci ∧ ∃ d, elems[i]? = some d ∧ Rd un [u] (sg y) [d.1] := by
          intro i hi
          have h1 := hget i hi
          rw [List.getElem?_eq_getElem (by omega)] at h1
          cases hci : w.cells? base (a.add (i * P.cellsOf e)) (P.cellsOf e) with
          | none => simp [hci] at h1
          | some ci =>
            rw [hci] at h1
            obtain ⟨y, y1, y2⟩ := ih u e ci _ h1 hme
            exact ⟨ci, y, rfl, y1, _, List.getElem?_eq_getElem (by omega), y2⟩
        by_cases h0 : len = 0
        · subst h0
          obtain rfl := List.length_eq_zero_iff.1 hel
          exact ⟨([] : List (El S u)), .sl0 _ _ rfl .nil, .sl [] _ rfl (fun i x d hx => by
            have hx' : ([] : List (El S u))[i]? = some x := hx
            simp at hx') .nil⟩
        obtain ⟨l, l1, l2⟩ := list_of (Q := fun i (p : List Value × El S u) => w.cells? base (a.add (i * P.cellsOf e)) (P.cellsOf e) = some p.1 ∧ DR un (allD w) w [u] (sg p.2) p.1 ∧ ∃ d, elems[i]? = some d ∧ Rd un [u] (sg p.2) [d.1]) len (fun i hi => by
          obtain ⟨ci, y, h1, h2, h3⟩ := one i hi
          exact ⟨(ci, y), h1, h2, h3⟩)
        have cellsAt : ∀ (i : Nat) (p : List Value × El S u), l[i]? = some p → p.1.length = P.cellsOf e ∧ ∀ (j : Nat) v, p.1[j]? = some v → w.cell? ((a.add (i * P.cellsOf e)).add j) = some v := by
          intro i p hp
          obtain ⟨h1, _, _⟩ := l2 i p hp
          unfold World.cells? at h1
          split at h1
          · have hlen := mapM_some_length h1
            refine ⟨by simpa using hlen, fun j v hj => ?_⟩
            have hlt : j < P.cellsOf e := by have := (List.getElem?_eq_some_iff.1 hj).1; simp at hlen; omega
            have := mapM_some_get h1 j j (by simp [hlt])
            rw [this, hj]
          · cases h1
        have hspot : a.spot = none := by
          obtain ⟨p, hp⟩ : ∃ p, l[0]? = some p := ⟨_, List.getElem?_eq_getElem (by omega)⟩
          obtain ⟨c1, c2⟩ := cellsAt 0 p hp
          obtain ⟨v, hv⟩ : ∃ v, p.1[0]? = some v := ⟨_, List.getElem?_eq_getElem (by omega)⟩
          have := (cell_lt (c2 0 v hv)).2
          simpa [Addr.add] using this
        have hsize : P.cellsOf e = U.size un u := hc
        have hlmap : (l.map (·.2)).length = len := by simp [l1]
        refine ⟨l.map (·.2), ?_, ?_⟩
        · obtain ⟨b, o, sp⟩ := a
          simp only at hspot
          subst hspot
          have := DR.sl (un := un) (D := allD w) (w := w) (u := u) (us := []) (t := sg (u := .sl u) (l.map (·.2))) (vs := []) b o cap (fun i => ((l[i]?).map (·.1)).getD []) (by
              show (l.map (·.2)).length ≤ cap
              omega) (fun i x hx => by
            have hx' : (l.map (·.2))[i]? = some x := hx
            rw [List.getElem?_map] at hx'
            cases hp : l[i]? with
            | none => simp [hp] at hx'
            | some p =>
              obtain ⟨_, c2⟩ := cellsAt i p hp
              simp only [Option.map_some, Option.getD_some]
              intro j v hj
              have := c2 j v hj
              rw [add_at ⟨b, o, none⟩ rfl, add_at _ rfl, hsize] at this
              exact ⟨(cell_lt this).1, this⟩) (fun i x hx => by
            have hx' : (l.map (·.2))[i]? = some x := hx
            rw [List.getElem?_map] at hx'
            cases hp : l[i]? with
            | none => simp [hp] at hx'
            | some p =>
              simp only [hp, Option.map_some, Option.some.injEq] at hx'
              subst hx'
              exact (l2 i p hp).2.1) .nil
          have e2 : (eL (hd (sg (u := .sl u) (l.map (·.2))))).length = len := hlmap
          rw [e2] at this
          exact this
        · exact .sl _ _ (by rw [List.length_map, hel]; exact hlmap.symm) (fun i x d hx hd' => by
            have hx' : (l.map (·.2))[i]? = some x := hx
            rw [List.getElem?_map] at hx' hd'
            cases hp : l[i]? with
            | none => simp [hp] at hx'
            | some p =>
              simp only [hp, Option.map_some, Option.some.injEq] at hx'
              subst hx'
              obtain ⟨_, _, d', q1, q2⟩ := l2 i p hp
              rw [q1] at hd'
              simp only [Option.map_some, Option.some.injEq] at hd'
              subst hd'
              exact q2) .nil
    | st k =>
      obtain ⟨hsz, hs⟩ := hs
      rcases hs with ⟨fs, hu, hf⟩ | ⟨m, e, u, hu, hc, hcodes, hme⟩
      · obtain ⟨xs, m, hmn, rfl, hcl, hxl, hget⟩ := DataW.trod_struct hu h
        obtain rfl : n = m := by omega
        obtain ⟨f1, f2⟩ := hf.get
        have f1' : fs.size = (un.codes k).length := by simpa using f1
        obtain ⟨y, y1, y2⟩ := in_list ih (un.codes k) (fs.toList.map (·.type)) cs xs (by simpa using f1) (by omega) (by omega) (fun i u t hu ht => by
          rw [List.getElem?_map] at ht
          cases hfi : fs.toList[i]? with
          | none => simp [hfi] at ht
          | some f => simp [hfi] at ht; subst ht; exact (f2 i f u hfi hu).2.2) (fun i t ht => by
          rw [List.getElem?_map] at ht
          cases hfi : fs.toList[i]? with
          | none => simp [hfi] at ht
          | some f =>
            simp only [hfi, Option.map_some, Option.some.injEq] at ht
            subst ht
            have hlt : i < (un.codes k).length := by have := (List.getElem?_eq_some_iff.1 hfi).1; omega
            obtain ⟨o1, o2, _⟩ := f2 i f _ hfi (List.getElem?_eq_getElem hlt)
            have := hget i f (by simpa using hfi)
            rw [o1, o2, Nat.zero_add] at this
            exact this)
        refine ⟨un.put k y, ?_, ?_⟩
        · have := DR.st (un := un) (D := allD w) (w := w) (n := k) (us := []) (t := sg (u := .st k) (un.put k y)) (cs := cs) (vs := []) (by
            show DR un (allD w) w (un.codes k) (un.get k (un.put k y)) cs
            rw [hun]; exact y1) .nil
          rwa [List.append_nil] at this
        · exact .st (by
            show Rd un (un.codes k) (un.get k (un.put k y)) _
            rw [hun]; exact y2) .nil
      · obtain ⟨xs, m', hmn, rfl, hcl, hxl, hget⟩ := DataW.trod_array hu h
        obtain rfl : n = m' := by omega
        have hlen : (un.codes k).length = m := by rw [hcodes]; simp
        obtain ⟨y, y1, y2⟩ := in_list ih (un.codes k) (List.replicate m e) cs xs (by simp [hlen]) (by omega) (by omega) (fun i u' t' hu' ht' => by
          rw [hcodes] at hu'
          rw [List.getElem?_replicate] at hu' ht'
          split at hu'
          · rename_i hlt; rw [if_pos hlt] at ht'; cases hu'; cases ht'; exact hme
          · cases hu') (fun i t' ht' => by
          rw [List.getElem?_replicate] at ht'
          split at ht'
          · rename_i hlt
            cases ht'
            have := hget i hlt
            rw [hc, Nat.mul_one] at this
            exact this
          · cases ht')
        refine ⟨un.put k y, ?_, ?_⟩
        · have := DR.st (un := un) (D := allD w) (w := w) (n := k) (us := []) (t := sg (u := .st k) (un.put k y)) (cs := cs) (vs := []) (by
            show DR un (allD w) w (un.codes k) (un.get k (un.put k y)) cs
            rw [hun]; exact y1) .nil
          rwa [List.append_nil] at this
        · exact .st (by
            show Rd un (un.codes k) (un.get k (un.put k y)) _
            rw [hun]; exact y2) .nil
end
end Pe
