/- Structs and arrays of scalars are alike when their parts are. -/
import Derived.Test.YteimbekcnkogoaaDoorPe18
import Derived.Laws.StructEq
import Derived.ChangeKeysEq
namespace Pe
open Go Go.RowKit
variable {S : Nat → Type} {P : Program} {un : Uni S} {D : Dat} {w : World}

def uOk (P : Program) (u : U) (T : TypeId) : Bool := match u, P.underlying T with
  | .int _, some (.int _) => true
  | .bool, some .bool => true
  | .str, some .string => true
  | _, _ => false

theorem part_plain {T : TypeId} {u : U} (h : uOk P u T = true) {xs : Array Value} {off : Nat} {v : Value} (hx : xs[off]? = some v) : (part T xs off).run P w = .ok v w := by
  unfold uOk at h
  cases hu : P.underlying T with
  | none => rw [hu] at h; cases u <;> cases h
  | some d => rw [hu] at h; cases u <;> cases d <;> first | (cases h; done) | simp [part, isAgg, run_underlying hu, hx]

theorem dr_step {T : TypeId} {u : U} {us : List U} {t1 t2 : ElL S (u :: us)} {c1 c2 : List Value} (hs : uOk P u T = true) (h1 : DR un D w (u :: us) t1 c1) (h2 : DR un D w (u :: us) t2 c2) :
    ∃ v1 r1 v2 r2, c1 = v1 :: r1 ∧ c2 = v2 :: r2 ∧ DR un D w us t1.2 r1 ∧ DR un D w us t2.2 r2 ∧ ∀ d, (Op.equalIn (d + 1) T v1 v2).run P w = .ok (eq1 u t1.1 t2.1) w := by
  unfold uOk at hs
  cases hu : P.underlying T with
  | none => rw [hu] at hs; cases u <;> cases hs
  | some ds =>
    rw [hu] at hs
    cases h1 with
    | int h1 =>
      cases h2 with
      | int h2 =>
        cases ds <;> first | (cases hs; done) | skip
        exact ⟨_, _, _, _, rfl, rfl, h1, h2, fun d => run_equalIn_int w d T _ _ _ _ hu⟩
    | bool h1 =>
      cases h2 with
      | bool h2 =>
        cases ds <;> first | (cases hs; done) | skip
        exact ⟨_, _, _, _, rfl, rfl, h1, h2, fun d => run_equalIn_bool w d T _ _ hu⟩
    | str h1 =>
      cases h2 with
      | str h2 =>
        cases ds <;> first | (cases hs; done) | skip
        refine ⟨_, _, _, _, rfl, rfl, h1, h2, fun d => ?_⟩
        rw [run_equalIn_string w d T _ _ hu, toList_str, toList_str]
        rfl
    | sl0 => cases hs
    | sl => cases hs
    | st => cases hs

def fldEq (P : Program) : Nat → List Field → List U → Bool
  | _, [], [] => true
  | k, f :: fs, u :: us => f.name != "_" && Nat.beq f.offset k && uOk P u f.type && fldEq P (k + 1) fs us
  | _, _, _ => false

theorem drop_get {xs : List Value} {k : Nat} {v : Value} {r : List Value} (h : xs.drop k = v :: r) : xs.toArray[k]? = some v ∧ xs.drop (k + 1) = r := by
  constructor
  · have : (xs.drop k)[0]? = some v := by rw [h]; rfl
    simpa using this
  · rw [← List.drop_drop, h]; rfl

theorem eqFields_ok {d : Nat} {xs ys : List Value} : ∀ {fs : List Field} {us : List U} {k : Nat} {t1 t2 : ElL S us} {c1 c2 : List Value}, fldEq P k fs us = true → DR un D w us t1 c1 → DR un D w us t2 c2 → xs.drop k = c1 → ys.drop k = c2 →
    (Op.eqFields (d + 1) xs.toArray ys.toArray fs).run P w = .ok (eqC us t1 t2) w
  | [], [], _, _, _, _, _, _, _, _, _, _ => by simp [Op.eqFields, eqC]
  | f :: fs, u :: us, k, t1, t2, c1, c2, hf, h1, h2, hx, hy => by
    simp only [fldEq, Bool.and_eq_true] at hf
    obtain ⟨⟨⟨g1, g2⟩, g3⟩, g4⟩ := hf
    have hk := Nat.eq_of_beq_eq_true g2
    obtain ⟨v1, r1, v2, r2, rfl, rfl, e1, e2, e3⟩ := dr_step g3 h1 h2
    obtain ⟨a1, a2⟩ := drop_get hx
    obtain ⟨b1, b2⟩ := drop_get hy
    have ih := eqFields_ok (d := d) g4 e1 e2 a2 b2
    have hn : f.name ≠ "_" := by simpa using g1
    simp only [Op.eqFields, hn, ne_eq, not_false_eq_true, if_true, Sem.run_bind, hk, part_plain g3 a1, part_plain g3 b1, e3 d, Result.andThen_ok, eqC]
    cases eq1 u t1.1 t2.1 with
    | true => simpa using ih
    | false => simp
  | [], _ :: _, _, _, _, _, _, hf, _, _, _, _ => by simp [fldEq] at hf
  | _ :: _, [], _, _, _, _, _, hf, _, _, _, _ => by simp [fldEq] at hf

theorem eqItems_ok {d : Nat} {xs ys : List Value} {e : TypeId} (he : P.cellsOf e = 1) : ∀ {us : List U} {k : Nat} {t1 t2 : ElL S us} {c1 c2 : List Value}, (us.all fun u => uOk P u e) = true → DR un D w us t1 c1 → DR un D w us t2 c2 → xs.drop k = c1 → ys.drop k = c2 →
    (Op.eqItems (d + 1) e (P.cellsOf e) xs.toArray ys.toArray (List.range' k us.length)).run P w = .ok (eqC us t1 t2) w
  | [], _, _, _, _, _, _, _, _, _, _ => by simp [Op.eqItems, eqC]
  | u :: us, k, t1, t2, c1, c2, hf, h1, h2, hx, hy => by
    simp only [List.all_cons, Bool.and_eq_true] at hf
    obtain ⟨g3, g4⟩ := hf
    obtain ⟨v1, r1, v2, r2, rfl, rfl, e1, e2, e3⟩ := dr_step g3 h1 h2
    obtain ⟨a1, a2⟩ := drop_get hx
    obtain ⟨b1, b2⟩ := drop_get hy
    have ih := eqItems_ok (d := d) he g4 e1 e2 a2 b2
    simp only [he] at ih
    simp only [List.length_cons, List.range'_succ, Op.eqItems, Sem.run_bind, he, Nat.mul_one, part_plain g3 a1, part_plain g3 b1, e3 d, Result.andThen_ok, eqC]
    cases eq1 u t1.1 t2.1 with
    | true => simpa using ih
    | false => simp

def eqB (P : Program) (t : TypeId) (d : TypeDesc) (us : List U) : Bool := !P.eqGuardType P.depth t && (match d with
  | .struct fs => !P.stoodInHeld t && fldEq P 0 fs.toList us
  | .array n e => Nat.beq n us.length && Nat.beq (P.cellsOf e) 1 && us.all fun u => uOk P u e
  | _ => false)

theorem eq_ok {t : TypeId} {d : TypeDesc} {us : List U} (hd : P.underlying t = some d) (h : eqB P t d us = true) (D : Dat) (w : World) (t1 t2 : ElL S us) (c1 c2 : List Value) (op : BinOp) (x y : Operand) (h1 : DR un D w us t1 c1) (h2 : DR un D w us t2 c2) (b : Bool)
    (hb : op = .eql ∧ b = eqC us t1 t2 ∨ op = .neq ∧ b = !eqC us t1 t2) :
    (eqGuard op t x y (.agg c1.toArray) (.agg c2.toArray)).run P w = .ok () w ∧ (binOp op t (.agg c1.toArray) (.agg c2.toArray)).run P w = .ok (.bool b) w := by
  unfold eqB at h
  simp only [Bool.and_eq_true, Bool.not_eq_true'] at h
  obtain ⟨hg, h⟩ := h
  refine ⟨run_eqGuard_agg w op t x y _ _ hg, ?_⟩
  have key : (Op.equalIn 10000 t (.agg c1.toArray) (.agg c2.toArray)).run P w = .ok (eqC us t1 t2) w := by
    cases d with
    | struct fs =>
      simp only [Bool.and_eq_true, Bool.not_eq_true'] at h
      have hf : P.fieldsOf t = fs := by unfold Program.fieldsOf; rw [hd]
      rw [show (10000 : Nat) = 9999 + 1 from rfl, run_equalIn_agg w 9999 t _ _ (by rw [hf]; exact hd) h.1, hf]
      exact eqFields_ok (d := 9998) h.2 h1 h2 rfl rfl
    | array n e =>
      simp only [Bool.and_eq_true] at h
      obtain ⟨⟨g1, g2⟩, g3⟩ := h
      have hn := Nat.eq_of_beq_eq_true g1
      have he := Nat.eq_of_beq_eq_true g2
      cases hi : P.info? e with
      | none => simp [Program.cellsOf, hi] at he
      | some i =>
        rw [show (10000 : Nat) = 9999 + 1 from rfl, run_equalIn_array w 9999 _ _ hd hi, List.range_eq_range', hn]
        exact eqItems_ok (d := 9998) he g3 h1 h2 rfl rfl
    | _ => cases h
  rcases hb with ⟨rfl, rfl⟩ | ⟨rfl, rfl⟩
  · rw [run_eql_struct, key]; rfl
  · rw [run_neq_struct, key]; rfl

/-- A row's truth, by one check. -/
def eqRow (P : Program) (un : Uni S) (t : TypeId) (d : TypeDesc) (r : TyRow S) : Bool := match r.code with
  | some (.st n) => !((un.codes n).all U.scalar && Nat.beq r.fields.length (un.codes n).length) || eqB P t d (un.codes n)
  | _ => true
theorem rowOk_of {t : TypeId} {r : TyRow S} (d : TypeDesc) (z : Value) (hd : P.underlying t = some d) (hz : (P.info? t).bind (·.zero) = some z) (hn : (P.info? t).map (·.size) = some r.n) (hzz : r.zero = z.cells.toList.map constPV)
    (hc : (Nat.beq z.cells.size r.n && rowB P un d r && eqRow P un t d r) = true) : RowOk P un t r := by
  simp only [Bool.and_eq_true] at hc
  obtain ⟨⟨h1, h2⟩, h3⟩ := hc
  refine row_of hd hz hn h1 hzz h2 fun n hcd hs => ?_
  unfold eqRow at h3
  rw [hcd] at h3
  simp only [hs, Bool.not_true, Bool.false_or] at h3
  exact eq_ok hd h3
end Pe
