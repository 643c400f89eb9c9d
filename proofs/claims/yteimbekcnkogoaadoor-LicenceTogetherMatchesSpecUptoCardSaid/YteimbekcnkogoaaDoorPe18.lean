/- The tables of a program: rows that are read off it tell the truth. -/
import Derived.Test.YteimbekcnkogoaaDoorPe17
import Derived.Laws.Tables
namespace Pe
open Go Go.RowKit
variable {S : Nat → Type}

theorem mapM_get {α β : Type} {g : α → Option β} : ∀ {l : List α} {m : List β}, l.mapM g = some m → ∀ (i : Nat) (y : β), m[i]? = some y → ∃ x, l[i]? = some x ∧ g x = some y
  | [], m, h, i, y, hy => by simp at h; subst h; simp at hy
  | x :: l, m, h, i, y, hy => by
    rw [List.mapM_cons] at h
    cases hg : g x with
    | none => simp [hg] at h
    | some b =>
      cases hl : l.mapM g with
      | none => simp [hg, hl] at h
      | some bs =>
        simp [hg, hl] at h
        subst h
        cases i with
        | zero => simp at hy; subst hy; exact ⟨x, rfl, hg⟩
        | succ i => simpa using mapM_get hl i y (by simpa using hy)

theorem foldl_splice : ∀ (vs cs : List Value) (off k : Nat), (vs.zipIdx k).foldl (fun (cs : Array Value) (p : Value × Nat) => cs.setIfInBounds (off + p.2) p.1) cs.toArray = (fillL.spliceV cs (off + k) vs).toArray
  | [], _, _, _ => rfl
  | v :: r, cs, off, k => by
    simp only [List.zipIdx_cons, List.foldl_cons, fillL.spliceV, List.setIfInBounds_toArray]
    exact foldl_splice r (cs.set (off + k) v) off (k + 1)
theorem fill_of (place : Nat → Option (Nat × Nat)) : ∀ (ps : List (Nat × Value)) (cs cs' : List Value), fillL place cs ps = some cs' → Instr.fill place cs.toArray ps = some cs'.toArray
  | [], cs, cs', h => by simp only [fillL, Option.some.injEq] at h; subst h; rfl
  | (i, v) :: r, cs, cs', h => by
    simp only [fillL] at h
    unfold Instr.fill
    cases hp : place i with
    | none => rw [hp] at h; cases h
    | some os =>
      obtain ⟨off, size⟩ := os
      rw [hp] at h
      simp only at h ⊢
      obtain ⟨hb, h⟩ := bif_some h
      simp only [Bool.and_eq_true, Nat.ble_eq] at hb
      have hb1 : v.cells.size = size := Nat.eq_of_beq_eq_true hb.1
      have hb2 := hb.2
      rw [if_neg (by simp [hb1]; omega)]
      have := fill_of place r _ _ h
      rw [← this]
      congr 1
      have hf := foldl_splice v.cells.toList cs off 0
      rw [Nat.add_zero] at hf
      rw [← hf, ← Array.foldl_toList]
      simp

def elB (P : Program) (un : Uni S) (T : TypeId) (u : U) : Bool :=
  match P.info? T with
  | some i => (match i.zero with
    | some z => Nat.beq i.size (U.size un u) && Nat.beq z.cells.size (U.size un u) && Nat.blt 0 (U.size un u) && Nat.ble i.bytes 32768
    | none => false)
  | none => false
theorem elB_ok {P : Program} {un : Uni S} {T : TypeId} {u : U} (h : elB P un T u = true) : ElOk P un T u := by
  unfold elB at h
  split at h
  · rename_i i hi
    split at h
    · rename_i z hz
      simp only [Bool.and_eq_true] at h
      obtain ⟨⟨⟨h1, h2⟩, h3⟩, h4⟩ := h
      exact ⟨⟨i, z, hi, hz, Nat.eq_of_beq_eq_true h1, Nat.eq_of_beq_eq_true h2, by simpa [Nat.blt_eq] using h3, by simpa [Nat.ble_eq] using h4⟩⟩
    · cases h
  · cases h

def natPairsB : List (Nat × Nat) → List (Nat × Nat) → Bool
  | [], [] => true
  | (a, b) :: l, (c, d) :: m => Nat.beq a c && Nat.beq b d && natPairsB l m
  | _, _ => false
theorem natPairsB_ok : ∀ {l m : List (Nat × Nat)}, natPairsB l m = true → l = m
  | [], [], _ => rfl
  | (a, b) :: l, (c, d) :: m, h => by
    simp only [natPairsB, Bool.and_eq_true] at h
    obtain ⟨⟨h1, h2⟩, h3⟩ := h
    rw [Nat.eq_of_beq_eq_true h1, Nat.eq_of_beq_eq_true h2, natPairsB_ok h3]
  | [], _ :: _, h => by cases h
  | _ :: _, [], h => by cases h

def fieldsB (P : Program) (fs : List Field) (l : List (Nat × Nat)) : Bool :=
  (match fs.mapM (fun f => (P.info? f.type).map fun i => (f.offset, i.size)) with
  | some m => natPairsB m l
  | none => false) && l.all fun p => Nat.blt 0 p.2

def kdB (P : Program) (un : Uni S) (d : TypeDesc) (r : TyRow S) : Bool :=
  match r.kd, d, r.elem with
  | 0, _, none => true
  | 1, .string, none => true
  | 5, .bool, none => true
  | 2, .slice T, some (T', u) => Nat.beq T T' && elB P un T u
  | 3, .struct fs, none => fieldsB P fs.toList r.fields
  | 4, .array n el, none => (match P.info? el with
    | some i => Nat.blt 0 i.size && natPairsB ((List.range n).map fun j => (j * i.size, i.size)) r.fields
    | none => false)
  | _, _, _ => false
def rowB (P : Program) (un : Uni S) (d : TypeDesc) (r : TyRow S) : Bool :=
  (bif r.agg then aggD d else !aggD d && Nat.beq r.n 1) && kdB P un d r && (match r.code with
    | some (.st n) => r.agg && Nat.beq r.n (un.codes n).length
    | _ => true)

theorem row_of {P : Program} {un : Uni S} {t : TypeId} {r : TyRow S} {d : TypeDesc} {z : Value} (hd : P.underlying t = some d) (hz : (P.info? t).bind (·.zero) = some z) (hn : (P.info? t).map (·.size) = some r.n) (hzc : Nat.beq z.cells.size r.n = true)
    (hzz : r.zero = z.cells.toList.map constPV) (hc : rowB P un d r = true)
    (heq : ∀ n, r.code = some (.st n) → ((un.codes n).all U.scalar && Nat.beq r.fields.length (un.codes n).length) = true → ∀ D w t1 t2 c1 c2 op x y, DR un D w (un.codes n) t1 c1 → DR un D w (un.codes n) t2 c2 → ∀ b, (op = .eql ∧ b = eqC (un.codes n) t1 t2 ∨ op = .neq ∧ b = !eqC (un.codes n) t1 t2) →
      (eqGuard op t x y (.agg c1.toArray) (.agg c2.toArray)).run P w = .ok () w ∧ (binOp op t (.agg c1.toArray) (.agg c2.toArray)).run P w = .ok (.bool b) w) : RowOk P un t r := by
  unfold rowB at hc
  simp only [Bool.and_eq_true] at hc
  obtain ⟨⟨h1, h2⟩, h3⟩ := hc
  refine ⟨hn, fun ha => ⟨d, hd, by rw [ha] at h1; exact h1⟩, fun ha => ?_, ⟨z, hz, Nat.eq_of_beq_eq_true hzc, hzz⟩, fun hk => ?_, fun hk => ?_, fun hk => ?_, fun T u he => ?_, fun hk f dd s hf a w => ?_, fun hk f dd s hf a k w => ?_, fun hk z' hz' ps cs w hfl => ?_, fun n hcd => ?_, heq⟩
  · rw [ha] at h1
    simp only [cond_false, Bool.and_eq_true, Bool.not_eq_true'] at h1
    refine ⟨Nat.eq_of_beq_eq_true h1.2, fun w => ?_⟩
    unfold isAgg
    rw [Sem.run_bind, run_underlying hd w]
    cases d <;> simp_all [aggD]
  · unfold kdB at h2; rw [hk] at h2; split at h2 <;> first | (rename_i hx _; cases hx; done) | simp_all
  · unfold kdB at h2; rw [hk] at h2; split at h2 <;> first | (rename_i hx _; cases hx; done) | simp_all
  · unfold kdB at h2
    rw [hk] at h2
    split at h2 <;> first | (simp_all; done) | skip
    rename_i T T' u _ he
    simp only [Bool.and_eq_true] at h2
    have := Nat.eq_of_beq_eq_true h2.1
    subst this
    exact ⟨T, u, he, hd, elB_ok h2.2⟩
  · unfold kdB at h2; rw [he] at h2; split at h2 <;> first | assumption | (simp_all; done)
  · have hfs : ∃ fs, d = .struct fs ∧ fieldsB P fs.toList r.fields = true := by
      unfold kdB at h2
      rw [hk] at h2
      split at h2 <;> first | (simp_all; done) | exact ⟨_, rfl, h2⟩
    clear h2
    obtain ⟨fs, rfl, h2⟩ := hfs
    unfold fieldsB at h2
    simp only [Bool.and_eq_true, List.all_eq_true, Nat.blt_eq] at h2
    obtain ⟨h2, hpos⟩ := h2
    split at h2
    · rename_i m hm
      have := natPairsB_ok h2
      subst this
      obtain ⟨fd, g1, g2⟩ := mapM_get hm f _ hf
      have hs := hpos _ (List.mem_of_getElem? hf)
      simp only [Option.map_eq_some_iff, Prod.mk.injEq] at g2
      obtain ⟨i, g3, g4, g5⟩ := g2
      subst g4 g5
      obtain ⟨k, hk'⟩ : ∃ k, i.size = k + 1 := ⟨i.size - 1, by simp only at hs; omega⟩
      simp [Instr.fieldAt, run_underlying hd, show fs[f]? = some fd by simpa using g1, fieldPlace, Go.sizeOf, typeInfo, g3, hk', Instr.sureAddr]
    · cases h2
  · have hfs : ∃ n el i, d = .array n el ∧ P.info? el = some i ∧ 0 < i.size ∧ ((List.range n).map fun j => (j * i.size, i.size)) = r.fields := by
      unfold kdB at h2
      rw [hk] at h2
      split at h2 <;> first | (simp_all; done) | skip
      rename_i n el _ _
      split at h2
      · rename_i i hi
        simp only [Bool.and_eq_true, Nat.blt_eq] at h2
        exact ⟨n, el, i, rfl, hi, h2.1, natPairsB_ok h2.2⟩
      · cases h2
    obtain ⟨n, el, i, rfl, hi, hpos, hfl⟩ := hfs
    rw [← hfl] at hf
    simp only [List.getElem?_map, Option.map_eq_some_iff, Prod.mk.injEq] at hf
    obtain ⟨j, g1, g2, g3⟩ := hf
    obtain ⟨hlt, hj⟩ := List.getElem?_eq_some_iff.1 g1
    simp only [List.getElem_range] at hj
    simp only [List.length_range] at hlt
    subst hj g2 g3
    simp [Instr.indexAt, asIntOf, run_underlying hd, Instr.sureAddr, Go.sizeOf, typeInfo, hi, hlt]
  · have hfs : ∃ fs, d = .struct fs ∧ fieldsB P fs.toList r.fields = true := by
      unfold kdB at h2
      rw [hk] at h2
      split at h2 <;> first | (simp_all; done) | exact ⟨_, rfl, h2⟩
    clear h2
    obtain ⟨fs, rfl, h2⟩ := hfs
    unfold fieldsB at h2
    simp only [Bool.and_eq_true] at h2
    obtain ⟨h2, _⟩ := h2
    split at h2
    · rename_i m hm
      have := natPairsB_ok h2
      subst this
      refine run_build w t ps.toArray cs.toArray ?_
      unfold Program.built
      cases hi : P.info? t with
      | none => simp [hi] at hz'
      | some it =>
        simp only [hi, Option.bind_some] at hz'
        simp only [hd, hz', hm]
        have := fill_of _ ps _ cs hfl
        simpa using this
    · cases h2
  · rw [hcd] at h3
    simp only [Bool.and_eq_true] at h3
    exact ⟨h3.1, Nat.eq_of_beq_eq_true h3.2⟩
end Pe
