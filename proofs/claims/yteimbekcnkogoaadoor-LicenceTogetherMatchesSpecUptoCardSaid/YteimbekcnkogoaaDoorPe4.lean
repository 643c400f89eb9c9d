/- The single operations that leave the call's own memory as it is: what the pure reading says of them holds. -/
import Derived.Test.YteimbekcnkogoaaDoorPe3
import Derived.WalkKit
namespace Pe
open Go Go.RowKit
variable {S : Nat → Type}

def aggD : TypeDesc → Bool
  | .struct _ | .array _ _ => true
  | _ => false

/-- A slice's element type. -/
structure ElOk (P : Program) (un : Uni S) (T : TypeId) (u : U) : Prop where
  info : ∃ i z, P.info? T = some i ∧ i.zero = some z ∧ i.size = U.size un u ∧ z.cells.size = U.size un u ∧ 0 < U.size un u ∧ i.bytes ≤ 32768

def fillL (place : Nat → Option (Nat × Nat)) : List Value → List (Nat × Value) → Option (List Value)
  | cs, [] => some cs
  | cs, (i, v) :: r =>
    match place i with
    | none => none
    | some (off, size) => bif Nat.beq v.cells.size size && Nat.ble (off + size) cs.length then fillL place (spliceV cs off v.cells.toList) r else none  where
  spliceV : List Value → Nat → List Value → List Value
  | cs, _, [] => cs
  | cs, off, v :: r => spliceV (cs.set off v) (off + 1) r

structure RowOk (P : Program) (un : Uni S) (t : TypeId) (r : TyRow S) : Prop where
  size : (P.info? t).map (·.size) = some r.n
  agg : r.agg = true → ∃ d, P.underlying t = some d ∧ aggD d = true
  one : r.agg = false → r.n = 1 ∧ ∀ w, (isAgg t).run P w = .ok false w
  zero : ∃ z, (P.info? t).bind (·.zero) = some z ∧ z.cells.size = r.n ∧ r.zero = z.cells.toList.map constPV
  str : r.kd = 1 → P.underlying t = some .string
  bool : r.kd = 5 → P.underlying t = some .bool
  slice : r.kd = 2 → ∃ T u, r.elem = some (T, u) ∧ P.underlying t = some (.slice T) ∧ ElOk P un T u
  elem : ∀ T u, r.elem = some (T, u) → r.kd = 2
  field : r.kd = 3 → ∀ f d s, r.fields[f]? = some (d, s) → ∀ a w, (Instr.fieldAt t (.pointer (some a)) f).run P w = .ok (.pointer (some (a.add d))) w
  array : r.kd = 4 → ∀ (f : Nat) d s, r.fields[f]? = some (d, s) → ∀ a k w, (Instr.indexAt t (.pointer (some a)) (.int k (f : Int))).run P w = .ok (.pointer (some (a.add d))) w
  build : r.kd = 3 → ∀ z, (P.info? t).bind (·.zero) = some z → ∀ (ps : List (Nat × Value)) (cs : List Value) (w : World), fillL (fun i => r.fields[i]?) z.cells.toList ps = some cs → (Instr.build t ps.toArray).run P w = .ok (.agg cs.toArray) w
  code : ∀ n, r.code = some (.st n) → r.agg = true ∧ r.n = (un.codes n).length
  eq : ∀ n, r.code = some (.st n) → ((un.codes n).all U.scalar && Nat.beq r.fields.length (un.codes n).length) = true → ∀ D w t1 t2 c1 c2 op x y, DR un D w (un.codes n) t1 c1 → DR un D w (un.codes n) t2 c2 → ∀ b, (op = .eql ∧ b = eqC (un.codes n) t1 t2 ∨ op = .neq ∧ b = !eqC (un.codes n) t1 t2) →
    (eqGuard op t x y (.agg c1.toArray) (.agg c2.toArray)).run P w = .ok () w ∧ (binOp op t (.agg c1.toArray) (.agg c2.toArray)).run P w = .ok (.bool b) w

/-- The tables tell the truth. -/
structure TbOk (P : Program) (un : Uni S) (tb : Tb S) : Prop where
  ty : ∀ t r, tb.ty.get t = some r → RowOk P un t r
  data : ∀ f us rs, tb.sig.get f = some (.data us rs) → ∀ args w, (callFunc f args).run P w = .ok (.enter f args) w
  eff : ∀ f us ts lc rs ps pan, tb.sig.get f = some (.eff us ts lc rs ps pan) → ∀ args w, (callFunc f args).run P w = .ok (.enter f args) w
  effI : ∀ f fn an ts lc rs ps pan, tb.sig.get f = some (.effI fn an ts lc rs ps pan) → P.funcs[f]? = some fn ∧ ∀ args w, (callFunc f args).run P w = .ok (.enter f args) w
  inl : ∀ f fn an rs, tb.sig.get f = some (.inl fn an rs) → P.funcs[f]? = some fn ∧ ∀ args w, (callFunc f args).run P w = .ok (.enter f args) w

def newD (D : Dat) (w w' : World) : Dat := fun k o => D k o ∨ (w.heap.size ≤ k ∧ k < w'.heap.size)

/-- What is known of a call: it comes back with this, and nothing that was there has turned. -/
def Back (P : Program) (un : Uni S) (D : Dat) (f : FuncId) (vs : Array Value) (w : World) (p : PV S) : Prop :=
  Calls P f vs w fun x w' => ∃ v, x = .returned v ∧ Below w.heap.size w w' ∧ Rep un [] (newD D w w') w' p v

/-- The function f, with these arguments, gives this. -/
def Sat (P : Program) (un : Uni S) (f : FuncId) (args : List (PV S)) (rs : List U) (r : ElL S rs) : Prop :=
  ∀ (D : Dat) (w : World) (vs : List Value), (∀ k o, D k o → k < w.heap.size) → RepL un [] D w args vs → Back P un D f vs.toArray w (one? (injL rs r))
/-- The blocks gs hold this. -/
def LentRep (un : Uni S) (D : Dat) (w : World) : List TypeId → (lc : List U) → ElL S lc → List Nat → Prop
  | [], [], _, [] => True
  | T :: ts, u :: us, t, g :: gs => (∃ cs : List Value, w.heap[g]? = some (.cells cs.toArray T (0, 0)) ∧ DR un D w [u] (sg (hd t)) cs) ∧ LentRep un D w ts us (tl t) gs
  | _, _, _, _ => False
def sameLen (w w' : World) (gs : List Nat) : Prop := ∀ g ∈ gs, ∀ T cs, w.heap[g]? = some (.cells cs T (0, 0)) → ∃ cs', cs'.size = cs.size ∧ w'.heap[g]? = some (.cells cs' T (0, 0))
abbrev ptrIds (gs : List Nat) : Nu := gs.map fun g => (true, .pointer (some ⟨g, 0, none⟩))
/-- How a call ends to which boxes are lent. -/
def EndE (un : Uni S) (D : Dat) (w : World) (ts : List TypeId) (lc rs ps : List U) (pan : TypeId) (gs : List Nat) (r : Out S lc rs ps) (x : Ending) (w' : World) : Prop :=
  Wl.Grow gs w w' ∧ match r with
    | .inl r => (∃ v, x = .returned v ∧ Rep un [] (newD D w w') w' (one? (injL rs r.2)) v) ∧ LentRep un (newD D w w') w' ts lc r.1 gs
    | .inr p => x = .panicked [panE pan ps p] ∧ sameLen w w' gs
def SatE (P : Program) (un : Uni S) (f : FuncId) (args : List (PV S)) (ts : List TypeId) (lc : List U) (c : ElL S lc) (rs ps : List U) (pan : TypeId) (r : Out S lc rs ps) : Prop :=
  ∀ (D : Dat) (w : World) (vs : List Value) (gs : List Nat), (∀ k o, D k o → k < w.heap.size) → gs.Nodup → (∀ g ∈ gs, ∀ o, ¬ D g o) → LentRep un D w ts lc c gs → RepL un (ptrIds gs) D w args vs →
    Calls P f vs.toArray w (EndE un D w ts lc rs ps pan gs r)
structure SoundO (P : Program) (un : Uni S) (orc : Orc S) : Prop where
  d : ∀ f args rs r, orc.d f args rs = some r → Sat P un f args rs r
  e : ∀ f args ts lc c rs ps pan r, orc.e f args ts lc c rs ps pan = some r → SatE P un f args ts lc c rs ps pan r
structure SoundI (P : Program) (un : Uni S) (inl : Inl S) : Prop where
  e : ∀ fn an args ts lc c rs ps pan r f, inl.e fn an args ts lc c rs ps pan = some r → P.funcs[f]? = some fn → SatE P un f args ts lc c rs ps pan r
  d : ∀ fn an args bx rs r f, inl.d fn an args bx rs = some r → P.funcs[f]? = some fn →
    ∀ (D : Dat) (H : List Wl.Res) (w : World) (vs : List Value), (∀ k o, D k o → k < w.heap.size) → (∀ r ∈ H, ∃ id, r = .ref id) → BxRep un (ids H) D w ⟨w, []⟩ bx H → RepL un (ids H) D w args vs → Back P un D f vs.toArray w (one? (injL rs r))

/-- An operation gives this value, by itself or by a call. -/
def Gives (P : Program) (un : Uni S) (o : Oper) (e : Env S) (bx : Bxs S) (p : PV S) : Prop :=
  ∀ E N D H a w, St un E N D H e bx a w →
    (∃ v, (execOp a.eval o).run P w = .ok (.value v) w ∧ Rep un (ids H) D w p v) ∨
    (∃ f vs, (execOp a.eval o).run P w = .ok (.enter f vs) w ∧ Back P un D f vs w p)

theorem ob_some {α β : Type} {x : Option α} {f : α → Option β} {r : β} (h : ob x f = some r) : ∃ a, x = some a ∧ f a = some r := by
  cases x with
  | none => cases h
  | some a => exact ⟨a, rfl, h⟩
theorem at?_some {α : Type} {l : List α} {n : Int} {x : α} (h : at? l n = some x) : ∃ k : Nat, n = k ∧ l[k]? = some x := by
  cases n with
  | ofNat k => exact ⟨k, rfl, h⟩
  | negSucc k => cases h
theorem part?_some {α : Type} {l : List α} {lo hi : Int} {s : List α} (h : part? l lo hi = some s) : ∃ i j : Nat, lo = i ∧ hi = j ∧ i ≤ j ∧ j ≤ l.length ∧ s = (l.drop i).take (j - i) := by
  unfold part? at h
  split at h
  · rename_i i j
    cases hb : (Nat.ble i j && Nat.ble j l.length) with
    | false => rw [hb] at h; cases h
    | true =>
      rw [hb] at h
      simp only [Bool.and_eq_true, Nat.ble_eq] at hb
      cases h
      exact ⟨i, j, rfl, rfl, hb.1, hb.2, rfl⟩
  · cases h
theorem cat?_some {α : Type} {l r s : List α} (h : cat? l r = some s) : l.length + r.length ≤ lim ∧ s = l ++ r := by
  unfold cat? at h
  cases hb : Nat.ble (l.length + r.length) lim with
  | false => rw [hb] at h; cases h
  | true => rw [hb] at h; cases h; exact ⟨by simpa using hb, rfl⟩
theorem bif_some {β : Type} {b : Bool} {x : Option β} {r : β} (h : (bif b then x else none) = some r) : b = true ∧ x = some r := by
  cases b with
  | true => exact ⟨rfl, h⟩
  | false => cases h

section
variable {P : Program} {un : Uni S} {tb : Tb S} {orc : Orc S} {inl : Inl S} {E : Wl.Ctx} {N : Wl.Fr} {D : Dat} {H : List Wl.Res} {e : Env S} {bx : Bxs S} {a : Act} {w : World}

theorem St.fz1 (hun : UniOk un) (h : St un E N D H e bx a w) {p : PV S} {v : Value} (hr : Rep un (ids H) D w p v) : Rep un (ids H) D w (fz1 bx p) v := by
  cases p with
  | row b =>
    simp only [Pe.fz1]
    cases hg : getB bx b with
    | none => simp [Rep]
    | some x =>
      obtain ⟨r, hr1, hr2⟩ := h.boxes.get hg
      obtain ⟨ro, hb⟩ := hr2.base
      simp only [Option.map_some]
      cases hx : x.base with
      | own u T l =>
        rw [hx] at hb
        simp only [Rep, ids, List.getElem?_map, hr1, Option.map_some, Option.some.injEq] at hr
        cases r with
        | own v' T' size n xs =>
          cases ro with
          | true => simp [BoxRep] at hb
          | false =>
            have : v' = v := by have := hr.1; simp [resId] at this; exact this
            subst this
            exact own_rep hun.flat (h.inn.res _ (List.mem_of_getElem? hr1)) hb
        | ref id =>
          cases ro with
          | true => simp only [BoxRep] at hb; have := hr.1; simp [resId] at this; subst this; exact hb.2
          | false => simp [BoxRep] at hb
        | box g T' vs => cases ro <;> simp [BoxRep] at hb
      | _ => simp [Rep]
  | _ => exact hr

theorem St.fz1L (hun : UniOk un) (h : St un E N D H e bx a w) : ∀ {ps : List (PV S)} {vs : List Value}, RepL un (ids H) D w ps vs → RepL un (ids H) D w (ps.map (Pe.fz1 bx)) vs
  | [], [], _ => by simp [RepL]
  | p :: ps, v :: vs, hr => by simp only [RepL, List.map_cons] at hr ⊢; exact ⟨h.fz1 hun hr.1, h.fz1L hun hr.2⟩
  | [], _ :: _, hr => by simp [RepL] at hr
  | _ :: _, [], hr => by simp [RepL] at hr
theorem St.fz (hun : UniOk un) (h : St un E N D H e bx a w) {p : PV S} {v : Value} (hr : Rep un (ids H) D w p v) : Rep un (ids H) D w (fz bx p) v := by
  cases p with
  | agg l => simp only [Pe.fz, Rep] at hr ⊢; obtain ⟨cs, h1, h2⟩ := hr; exact ⟨cs, h1, h.fz1L hun h2⟩
  | _ => exact h.fz1 hun hr

/-! ### loads -/
theorem cells_load {t : TypeId} {r : TyRow S} (hrow : RowOk P un t r) {nu : Nu} {b p off : Nat} {vs : List Value} {cs : List (PV S)} {q : PV S} (hc : w.rangeAt b p vs) (hl : RepL un nu D w cs vs)
    (hq : (bif r.agg then (bif Nat.ble (off + r.n) cs.length then some (.agg ((cs.drop off).take r.n)) else none) else cs[off]?) = some q) :
    ∃ v, (Instr.loadAt t (.pointer (some ⟨b, p + off, none⟩))).run P w = .ok v w ∧ Rep un nu D w q v := by
  cases ha : r.agg with
  | true =>
    rw [ha] at hq
    obtain ⟨h1, h2⟩ := bif_some hq
    simp only [Nat.ble_eq] at h1
    cases h2
    obtain ⟨d, hd, hd2⟩ := hrow.agg ha
    have hlen : cs.length = vs.length := hl.length
    have hl2 := (hl.drop off).take r.n
    refine ⟨_, run_loadAt_mid (P := P) w b (p + off) t ((vs.drop off).take r.n) d (fun j v hj => ?_) hd (by cases d <;> simp_all [aggD]) ?_, ?_⟩
    · rw [List.getElem?_take] at hj
      split at hj
      · rw [List.getElem?_drop] at hj
        rw [Nat.add_assoc]; exact hc _ v hj
      · cases hj
    · rw [hrow.size]; simp; omega
    · simp only [Rep]; exact ⟨_, rfl, hl2⟩
  | false =>
    rw [ha] at hq
    simp only [cond_false] at hq
    obtain ⟨v, hv, hrep⟩ := hl.get off q hq
    refine ⟨v, ?_, hrep⟩
    have := (hrow.one ha).2 w
    simp [Instr.loadAt, Instr.sureAddr, loadVar, this, hc off v hv]

theorem load_rep (hun : UniOk un) (ht : TbOk P un tb) (h : St un E N D H e bx a w) {t : TypeId} {p q : PV S} {v : Value} (hl : load un tb t p bx = some q) (hr : Rep un (ids H) D w p v) :
    ∃ u, (Instr.loadAt t v).run P w = .ok u w ∧ Rep un (ids H) D w q u := by
  unfold load at hl
  split at hl
  · cases hl
  · rename_i r hrow
    have hrow := ht.ty t r hrow
    dsimp only at hl
    split at hl
    · rename_i b off
      split at hl
      · rename_i T cs hg
        cases hgb : getB bx b with
        | none => rw [hgb] at hg; cases hg
        | some x =>
          rw [hgb] at hg
          simp only [Option.map_some, Option.some.injEq] at hg
          obtain ⟨r', hr1, hr2⟩ := h.boxes.get hgb
          obtain ⟨ro, hb⟩ := hr2.base
          rw [hg] at hb
          simp only [Rep, ids, List.getElem?_map, hr1, Option.map_some, Option.some.injEq] at hr
          obtain ⟨g, hr3, rfl⟩ := hr
          have key : ∀ vs : List Value, w.heap[g]? = some (.cells vs.toArray T (0, 0)) → RepL un (ids H) D w cs vs → ∃ u, (Instr.loadAt t (.pointer (some ⟨g, off, none⟩))).run P w = .ok u w ∧ Rep un (ids H) D w q u := by
            intro vs hh hl2
            have := cells_load (P := P) (b := g) (p := 0) (off := off) hrow (vs := vs) (fun j v hj => by rw [cell_of_row w g _ _ _ _ hh]; simpa using hj) hl2 hl
            simpa using this
          cases r' with
          | box g' T' vs =>
            cases ro with
            | false =>
              simp only [BoxRep] at hb
              simp [resId] at hr3
              subst hr3
              have hh := (h.inn.res _ (List.mem_of_getElem? hr1)).2
              rw [hb.1] at hh
              exact key vs hh hb.2
            | true => simp [BoxRep] at hb
          | ref id =>
            cases ro with
            | true =>
              simp only [BoxRep] at hb
              obtain ⟨g', vs, hid, _, _, hh, hl2⟩ := hb
              simp only [resId] at hr3
              rw [hid] at hr3
              simp at hr3
              subst hr3
              exact key vs hh hl2
            | false => simp [BoxRep] at hb
          | own => cases ro <;> simp [BoxRep] at hb
      · cases hl
    · rename_i u x off
      simp only [Rep] at hr
      obtain ⟨b, p, cs, rfl, hd, hx⟩ := hr
      have hor := openEl_rep (nu := ids H) hun.flat hx
      split at hl
      · rename_i m y m' hcode
        cases hbb : (Nat.beq m m' && r.agg && Nat.beq r.n (un.codes m).length) with
        | false => rw [hbb] at hl; exact cells_load (off := 0) hrow (rangeAt_dat hd) hor hl
        | true =>
          rw [hbb] at hl
          cases hl
          simp only [Bool.and_eq_true] at hbb
          obtain ⟨d, hd1, hd2⟩ := hrow.agg hbb.1.2
          refine ⟨_, run_loadAt_mid (P := P) w b p t cs d (rangeAt_dat hd) hd1 (by cases d <;> simp_all [aggD]) ?_, ?_⟩
          · rw [hrow.size, Nat.eq_of_beq_eq_true hbb.2, hx.length hun.flat]; simp [sizes, U.size]
          · simp only [Rep]; exact ⟨cs, rfl, hx⟩
      · exact cells_load hrow (rangeAt_dat hd) hor hl
    · cases hl
end
end Pe
