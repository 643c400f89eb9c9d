/- PROVED HERE: a part of the seat's proofs; see the text that holds the claim's theorem. -/
import Derived.Sort.Walk0
import Derived.Test.YteimbekcnkogoaaGreatDoorPeE
import Derived.Test.YteimbekcnkogoaaGreatDoorPeSf
import Derived.Test.YteimbekcnkogoaaGreatDoorLizE
section
/- Sorted rows without repeats: slices.Compact as it is read, over no program. -/
set_option linter.unusedVariables false
namespace Pe
open Go

/-- One round of Compact's inner loop. -/
def inB {α R : Type} (e : α → α → Option Bool) (t7 : List α × Int × Int × Int × Unit) : Option ((List α × Int × Int × Int × Unit) ⊕ ((List α × Int × Unit) ⊕ R)) :=
 (br (decide (t7.2.2.1 < (len (List.drop (Int.toNat t7.2.2.2.1) t7.1)))) (ob (idx? (List.drop (Int.toNat t7.2.2.2.1) t7.1) t7.2.2.1) fun k8 => (ob (get? t7.1 ((Int.toNat t7.2.2.2.1) + k8)) fun y9 => (ob (idx? (List.drop (Int.toNat t7.2.2.2.1) t7.1) (IntKind.i64.wrap (t7.2.2.1 - 1))) fun k10 => (ob (get? t7.1 ((Int.toNat t7.2.2.2.1) + k10)) fun y11 => (ob (e y9 y11) fun b => (br (!b) (ob (idx? (List.drop (Int.toNat t7.2.2.2.1) t7.1) t7.2.2.1) fun k12 => (ob (get? t7.1 ((Int.toNat t7.2.2.2.1) + k12)) fun y13 => (ob (idx? t7.1 t7.2.1) fun j14 => (ob (get? t7.1 j14) fun y15 => (some (.inl ((t7.1.set j14 y13), (IntKind.i64.wrap (t7.2.1 + 1)), (IntKind.i64.wrap (t7.2.2.1 + 1)), (((Int.toNat t7.2.2.2.1) : Nat) : Int), ()))))))) (some (.inl (t7.1, t7.2.1, (IntKind.i64.wrap (t7.2.2.1 + 1)), (((Int.toNat t7.2.2.2.1) : Nat) : Int), ()))))))))) (some (.inr (.inl (t7.1, t7.2.1, ())))))
/-- One round of its outer loop. -/
noncomputable def outB {α R : Type} (z : α) (e : α → α → Option Bool) (t1 : List α × Int × Unit) : Option ((List α × Int × Unit) ⊕ ((List α × Unit) ⊕ ((List α × Unit) ⊕ R))) :=
 (br (decide (t1.2.1 < (len t1.1))) (cutM (σ := List α × Int × Unit) (R := (List α × Int × Unit) ⊕ ((List α × Unit) ⊕ ((List α × Unit) ⊕ R))) (ob (idx? t1.1 t1.2.1) fun j2 => (ob (get? t1.1 j2) fun y3 => (ob (idx? t1.1 (IntKind.i64.wrap (t1.2.1 - 1))) fun j4 => (ob (get? t1.1 j4) fun y5 => (ob (e y3 y5) fun b => (br b (ob (tail? t1.1 t1.2.1) fun i6 => (cutM (σ := List α × Int × Unit) (R := (List α × Int × Unit) ⊕ ((List α × Int × Unit) ⊕ ((List α × Unit) ⊕ ((List α × Unit) ⊕ R)))) (loopM (σ := List α × Int × Int × Int × Unit) (inB e) (t1.1, t1.2.1, 1, ((i6 : Nat) : Int), ())) fun (t16 : List α × Int × Unit) => (ob (tail? t16.1 t16.2.1) fun i17 => (bif (Nat.ble i17 (List.length t16.1)) then (ob (part? ((List.take i17 t16.1) ++ (List.replicate ((List.length t16.1) - i17) z)) 0 t16.2.1) fun s18 => (some (.inr (.inr (.inr (.inl (s18, ()))))))) else none)))) (some (.inl (t1.1, t1.2.1, ()))))))))) fun (t19 : List α × Int × Unit) => (some (.inl (t19.1, (IntKind.i64.wrap (t19.2.1 + 1)), ())))) (some (.inr (.inl (t1.1, ())))))
/-- slices.Compact as it is read: z is the elements' zero, e the test. -/
noncomputable def compactM {α R : Type} (z : α) (e : α → α → Option Bool) (s : List α) : Option ((List α × Unit) ⊕ R) :=
 (br (decide ((len s) < 2)) (some (.inl (s, ()))) (cutM (σ := List α × Unit) (loopM (σ := List α × Int × Unit) (outB z e) (s, 1, ())) fun (t20 : List α × Unit) => (some (.inl (t20.1, ())))))

/-- The first m without what is equal to the one before it. -/
def cmp? {α : Type} (t : α → α → Bool) (s : List α) : Nat → List α
 | 0 => []
 | m + 1 => match s[m]? with
   | none => cmp? t s m
   | some x => bif (Nat.blt 0 m) && (match s[m - 1]? with | some y => t x y | none => false) then cmp? t s m else cmp? t s m ++ [x]
theorem cmp?_one {α : Type} (t : α → α → Bool) {s : List α} (h : 0 < s.length) : cmp? t s 1 = s.take 1 := by
 cases s with
 | nil => simp at h
 | cons x r => rfl
theorem cmp?_succ {α : Type} (t : α → α → Bool) {s : List α} {m : Nat} (h0 : 0 < m) (h : m < s.length) : cmp? t s (m + 1) = if t s[m] (s[m - 1]'(by omega)) then cmp? t s m else cmp? t s m ++ [s[m]] := by
 simp only [cmp?, List.getElem?_eq_getElem h, List.getElem?_eq_getElem (show m - 1 < s.length by omega)]
 have : Nat.blt 0 m = true := by simpa [Nat.blt_eq] using h0
 rw [this]
 cases t s[m] (s[m - 1]'(by omega)) <;> simp
theorem idx?_ok {α : Type} {l : List α} {k : Nat} (h : k < l.length) : idx? l (k : Int) = some k := by
 show (bif Nat.blt k l.length then some k else none) = _
 have : Nat.blt k l.length = true := by simpa [Nat.blt_eq] using h
 rw [this]; rfl
theorem tail?_ok {α : Type} {l : List α} {k : Nat} (h : k ≤ l.length) (h0 : 0 < l.length) : tail? l (k : Int) = some k := by
 show (bif Nat.ble k l.length && Nat.blt 0 l.length then some k else none) = _
 have h1 : Nat.ble k l.length = true := by simpa [Nat.ble_eq] using h
 have h2 : Nat.blt 0 l.length = true := by simpa [Nat.blt_eq] using h0
 rw [h1, h2]; rfl
theorem get?_ok {α : Type} {l : List α} {k : Nat} (h : k < l.length) : get? l k = some l[k] := List.getElem?_eq_getElem h
theorem drop_at {α : Type} {r s : List α} {j m : Nat} (h : r.drop j = s.drop j) (hm : j ≤ m) : r[m]? = s[m]? := by
 have h1 : (r.drop j)[m - j]? = (s.drop j)[m - j]? := by rw [h]
 rw [List.getElem?_drop, List.getElem?_drop, show j + (m - j) = m by omega] at h1
 exact h1

theorem inner {α R : Type} {e : α → α → Option Bool} {t : α → α → Bool} {s : List α} (he : ∀ x ∈ s, ∀ y ∈ s, e x y = some (t x y)) (hn : s.length ≤ 4294967296) {k0 : Nat} :
  ∀ (d k2 k : Nat) (row : List α), s.length = k0 + k2 + d → 1 ≤ k2 → row.length = s.length → 1 ≤ k → k ≤ k0 + k2 - 1 → row.take k = cmp? t s (k0 + k2) → row.drop (k0 + k2 - 1) = s.drop (k0 + k2 - 1) →
    ∃ row' k' : _, loopM (inB (R := R) e) (row, (k : Int), (k2 : Int), (k0 : Int), ()) = some (.inl (row', ((k' : Nat) : Int), ())) ∧ row'.length = s.length ∧ 1 ≤ k' ∧ k' ≤ s.length ∧ row'.take k' = cmp? t s s.length
 | 0, k2, k, row, h1, h2, h3, h4, h5, h6, h7 => by
   refine ⟨row, k, loopM_end ?_, h3, h4, by omega, by rw [h6]; congr 1; omega⟩
   have : ¬ ((k2 : Int) < len (List.drop (Int.toNat (k0 : Int)) row)) := by
    rw [len_lt]; simp only [List.length_drop, h3, Int.toNat_natCast]; omega
   simp only [inB, this, decide_false, br_false]
 | d + 1, k2, k, row, h1, h2, h3, h4, h5, h6, h7 => by
   have hd : k2 < (List.drop k0 row).length := by rw [List.length_drop, h3]; omega
   have hd1 : k2 - 1 < (List.drop k0 row).length := by omega
   have a1 : k0 + k2 < row.length := by omega
   have a2 : k0 + (k2 - 1) < row.length := by omega
   have b1 : k0 + k2 < s.length := by omega
   have b2 : k0 + (k2 - 1) < s.length := by omega
   have g1 : row[k0 + k2] = s[k0 + k2] := by
    have := drop_at h7 (m := k0 + k2) (by omega)
    rw [List.getElem?_eq_getElem a1, List.getElem?_eq_getElem b1] at this
    exact Option.some.inj this
   have g2 : row[k0 + (k2 - 1)] = s[k0 + (k2 - 1)] := by
    have := drop_at h7 (m := k0 + (k2 - 1)) (by omega)
    rw [List.getElem?_eq_getElem a2, List.getElem?_eq_getElem b2] at this
    exact Option.some.inj this
   have hw1 : IntKind.i64.wrap ((k2 : Int) - 1) = ((k2 - 1 : Nat) : Int) := by rw [wrap_id (by omega) (by omega)]; omega
   have hw2 : IntKind.i64.wrap ((k2 : Int) + 1) = ((k2 + 1 : Nat) : Int) := wrap_succ (n := s.length) (by omega) (by omega)
   have hw3 : IntKind.i64.wrap ((k : Int) + 1) = ((k + 1 : Nat) : Int) := wrap_succ (n := s.length) (by omega) (by omega)
   have hlt : ((k2 : Int) < len (List.drop k0 row)) := by rw [len_lt]; exact hd
   have hc := cmp?_succ t (s := s) (m := k0 + k2) (by omega) b1
   have he1 := he s[k0 + k2] (List.getElem_mem _) (s[k0 + (k2 - 1)]) (List.getElem_mem _)
   have hkr : k < row.length := by omega
   have step : inB (R := R) e (row, (k : Int), (k2 : Int), (k0 : Int), ()) = some (.inl (if t s[k0 + k2] s[k0 + (k2 - 1)] then (row, (k : Int), ((k2 + 1 : Nat) : Int), (k0 : Int), ()) else (row.set k s[k0 + k2], ((k + 1 : Nat) : Int), ((k2 + 1 : Nat) : Int), (k0 : Int), ()))) := by
    simp only [inB, Int.toNat_natCast, hlt, decide_true, br_true, idx?_ok hd, ob_some_eq, get?_ok a1, hw1, idx?_ok hd1, get?_ok a2, g1, g2, he1, hw2, hw3, idx?_ok hkr, get?_ok hkr]
    cases t s[k0 + k2] s[k0 + (k2 - 1)] <;> rfl
   rw [loopM_next step]
   have hidx : k0 + k2 - 1 = k0 + (k2 - 1) := by omega
   have hdrop : ∀ r : List α, r.drop (k0 + k2 - 1) = s.drop (k0 + k2 - 1) → r.drop (k0 + (k2 + 1) - 1) = s.drop (k0 + (k2 + 1) - 1) := fun r hr => by
    have := congrArg (List.drop 1) hr
    rw [List.drop_drop, List.drop_drop, show k0 + k2 - 1 + 1 = k0 + (k2 + 1) - 1 by omega] at this
    exact this
   by_cases ht : t s[k0 + k2] s[k0 + (k2 - 1)] = true
   ·rw [if_pos ht]
    refine inner he hn d (k2 + 1) k row (by omega) (by omega) h3 h4 (by omega) ?_ (hdrop row h7)
    rw [h6, show k0 + (k2 + 1) = k0 + k2 + 1 by omega, hc]
    simp only [hidx, ht, if_true]
   ·rw [if_neg ht]
    refine inner he hn d (k2 + 1) (k + 1) _ (by omega) (by omega) (by simpa using h3) (by omega) (by omega) ?_ ?_
    ·rw [show k0 + (k2 + 1) = k0 + k2 + 1 by omega, hc]
     simp only [hidx, ht]
     rw [← h6, List.take_add_one, List.getElem?_set_self hkr, List.take_set_of_le (Nat.le_refl _)]
     simp
    ·refine Eq.trans ?_ (hdrop row h7)
     rw [List.drop_set_of_lt (by omega)]

theorem outer {α R : Type} {z : α} {e : α → α → Option Bool} {t : α → α → Bool} {s : List α} (he : ∀ x ∈ s, ∀ y ∈ s, e x y = some (t x y)) (hn : s.length ≤ 4294967296) :
  ∀ (d k : Nat), s.length = k + d → 1 ≤ k → cmp? t s k = s.take k → ∃ x, loopM (outB (R := R) z e) (s, (k : Int), ()) = some x ∧ (x = .inl (cmp? t s s.length, ()) ∨ x = .inr (.inl (cmp? t s s.length, ())))
 | 0, k, h1, h2, h3 => by
   refine ⟨_, loopM_end (r := .inl (s, ())) ?_, .inl ?_⟩
   ·have : ¬ ((k : Int) < len s) := by rw [len_lt]; omega
    simp only [outB, this, decide_false, br_false]
   ·rw [show s.length = k by omega, h3, List.take_of_length_le (by omega)]
 | d + 1, k, h1, h2, h3 => by
   have b1 : k < s.length := by omega
   have b2 : k - 1 < s.length := by omega
   have hw1 : IntKind.i64.wrap ((k : Int) - 1) = ((k - 1 : Nat) : Int) := by rw [wrap_id (by omega) (by omega)]; omega
   have hw2 : IntKind.i64.wrap ((k : Int) + 1) = ((k + 1 : Nat) : Int) := wrap_succ (n := s.length) (by omega) (by omega)
   have hlt : ((k : Int) < len s) := by rw [len_lt]; exact b1
   have hc := cmp?_succ t (s := s) (m := k) (by omega) b1
   have he1 := he s[k] (List.getElem_mem _) (s[k - 1]) (List.getElem_mem _)
   by_cases ht : t s[k] s[k - 1] = true
   ·obtain ⟨row', k', q1, q2, q3, q4, q5⟩ := inner (R := (List α × Int × Unit) ⊕ ((List α × Int × Unit) ⊕ ((List α × Unit) ⊕ ((List α × Unit) ⊕ R)))) he hn (k0 := k) d 1 k s (by omega) (by omega) rfl h2 (by omega) (by rw [hc, if_pos ht, h3]) rfl
    refine ⟨.inr (.inl (cmp? t s s.length, ())), loopM_end ?_, .inr rfl⟩
    have hp : part? ((List.take k' row') ++ (List.replicate ((List.length row') - k') z)) 0 (k' : Int) = some (cmp? t s s.length) := by
     rw [show (0 : Int) = ((0 : Nat) : Int) from rfl, part?_nat (Nat.zero_le _) (by simp; omega)]
     rw [List.drop_zero, Nat.sub_zero, List.take_append_of_le_length (by simp; omega), List.take_take, Nat.min_self, q5]
    have hbl : Nat.ble k' row'.length = true := by rw [Nat.ble_eq, q2]; exact q4
    have q1' : loopM (inB (R := (List α × Int × Unit) ⊕ ((List α × Int × Unit) ⊕ ((List α × Unit) ⊕ ((List α × Unit) ⊕ R)))) e) (s, (k : Int), (1 : Int), (k : Int), ()) = some (.inl (row', ((k' : Nat) : Int), ())) := q1
    simp only [outB, hlt, decide_true, br_true, idx?_ok b1, ob_some_eq, get?_ok b1, hw1, idx?_ok b2, get?_ok b2, he1, ht, tail?_ok (Nat.le_of_lt b1) (by omega : 0 < s.length), q1', cutM_inl, tail?_ok (l := row') (k := k') (by omega) (by omega), hbl, cond_true, hp, cutM_inr]
   ·have step : outB (R := R) z e (s, (k : Int), ()) = some (.inl (s, ((k + 1 : Nat) : Int), ())) := by
     simp only [outB, hlt, decide_true, br_true, idx?_ok b1, ob_some_eq, get?_ok b1, hw1, idx?_ok b2, get?_ok b2, he1, ht, br_false, cutM_inl, hw2]
    rw [loopM_next step]
    refine outer he hn d (k + 1) (by omega) (by omega) ?_
    rw [hc, if_neg ht, h3, List.take_add_one, List.getElem?_eq_getElem b1]
    rfl
/-- slices.Compact. -/
theorem compactM_eq {α R : Type} {z : α} {e : α → α → Option Bool} {t : α → α → Bool} {s : List α} (he : ∀ x ∈ s, ∀ y ∈ s, e x y = some (t x y)) (hn : s.length ≤ 4294967296) : compactM (R := R) z e s = some (.inl (cmp? t s s.length, ())) := by
 unfold compactM
 by_cases h2 : s.length < 2
 ·have : (len s < 2) := by unfold len; omega
  rw [decide_eq_true this, br_true]
  match s, h2 with
  | [], _ => rfl
  | [x], _ => simp [cmp?_one t (s := [x]) (by simp)]
  | _ :: _ :: r, h2 => exact absurd h2 (by simp only [List.length_cons]; omega)
 ·have : ¬ (len s < 2) := by unfold len; omega
  rw [decide_eq_false this, br_false]
  obtain ⟨x, h3, h4⟩ := outer (R := R) (z := z) he hn (s.length - 1) 1 (by omega) (Nat.le_refl _) (cmp?_one t (by omega))
  have h3' : loopM (outB (R := R) z e) (s, (1 : Int), ()) = some x := h3
  rw [h3']
  rcases h4 with rfl | rfl
  ·rw [cutM_inl]
  ·rw [cutM_inr]
end Pe
end
section
/- slices.Concat of two as it is read; what is sorted and without repeats; the order of texts: over no program. -/
set_option linter.unusedVariables false
namespace Pe
open Go

noncomputable def growM {α : Type} (z : α) (n : Int) : Option ((List α × Unit) ⊕ (Unit)) := (cutM (σ := Unit) (R := _) (br (decide (n < 0)) none (some (.inl (())))) fun (t1 : Unit) => (br (decide (0 < (IntKind.i64.wrap (n - (IntKind.i64.wrap (0 - 0)))))) (ob (rep? (IntKind.i64.wrap (n - (IntKind.i64.wrap (0 - 0)))) z) fun l2 => (bif (Nat.blt 0 (List.length l2)) then (ob (part? l2 0 0) fun s3 => (some (.inl (s3, ())))) else none)) (some (.inl ([], ())))))
noncomputable def concatM {α : Type} (g : Int → Option ((List α × Unit) ⊕ Unit)) (slices : List (List α)) : Option ((List α × Unit) ⊕ (Unit)) := (cutM (σ := Int × Unit) (R := _) (loopM (σ := Int × Int × Unit) (R := _) (fun (t1 : Int × Int × Unit) => (br (decide (t1.2.1 < (len slices))) (ob (at? slices t1.2.1) fun y2 => (br (decide ((IntKind.i64.wrap (t1.1 + (len y2))) < 0)) none (some (.inl ((IntKind.i64.wrap (t1.1 + (len y2))), (IntKind.i64.wrap (t1.2.1 + 1)), ()))))) (some (.inr (.inl (t1.1, ())))))) (0, 0, ())) fun (t3 : Int × Unit) => (oc (α := List α × Unit) (β := Unit) (g t3.1) (fun (r4 : List α × Unit) => (cutM (σ := List α × Unit) (R := _) (loopM (σ := List α × Int × Unit) (R := _) (fun (t6 : List α × Int × Unit) => (br (decide (t6.2.1 < (len slices))) (ob (at? slices t6.2.1) fun y7 => (ob (cat? t6.1 y7) fun l8 => (some (.inl (l8, (IntKind.i64.wrap (t6.2.1 + 1)), ()))))) (some (.inr (.inl (t6.1, ())))))) (r4.1, 0, ())) fun (t9 : List α × Unit) => (some (.inl (t9.1, ()))))) fun (p5 : Unit) => (some (.inr (())))))
theorem growM_eq {α : Type} (z : α) {n : Nat} (h : n ≤ 1073741824) : growM z (n : Int) = some (.inl ([], ())) := by
 have h0 : IntKind.i64.wrap (0 - 0) = 0 := by rfl
 have h1 : ¬ ((n : Int) < 0) := by omega
 have h2 : IntKind.i64.wrap ((n : Int) - 0) = (n : Int) := by rw [wrap_id (by omega) (by omega)]; omega
 unfold growM
 simp only [h1, decide_false, br_false, cutM_inl, h0, h2]
 by_cases hn : 0 < n
 ·have e1 : ((0 : Int) < (n : Int)) := by omega
  have e2 : rep? (n : Int) z = some (List.replicate n z) := by
   show (bif Nat.ble n 1073741824 then _ else _) = _
   have : Nat.ble n 1073741824 = true := by simpa [Nat.ble_eq] using h
   rw [this]; rfl
  have e3 : Nat.blt 0 (List.replicate n z).length = true := by simpa [Nat.blt_eq] using hn
  have e4 : part? (List.replicate n z) 0 0 = some [] := by
   rw [show (0 : Int) = ((0 : Nat) : Int) from rfl, part?_nat (Nat.le_refl _) (Nat.zero_le _)]; simp
  simp only [e1, decide_true, br_true, e2, ob_some_eq, e3, cond_true, e4]
 ·have e1 : ¬ ((0 : Int) < (n : Int)) := by omega
  simp only [e1, decide_false, br_false]
theorem concatM_two {α : Type} {g : Int → Option ((List α × Unit) ⊕ Unit)} {a b : List α} (hg : ∀ n : Nat, n ≤ 1073741824 → g (n : Int) = some (.inl ([], ()))) (h : a.length + b.length ≤ 1073741824) : concatM g [a, b] = some (.inl (a ++ b, ())) := by
 have w1 : IntKind.i64.wrap ((0 : Int) + len a) = (a.length : Int) := by unfold len; rw [wrap_id (by omega) (by omega)]; omega
 have w2 : IntKind.i64.wrap ((a.length : Int) + len b) = ((a.length + b.length : Nat) : Int) := by unfold len; rw [wrap_id (by omega) (by omega)]; omega
 have n1 : ¬ ((a.length : Int) < 0) := by omega
 have n2 : ¬ (((a.length + b.length : Nat) : Int) < 0) := by omega
 have l0 : ((0 : Int) < len [a, b]) := by simp [len]
 have l1 : ((1 : Int) < len [a, b]) := by simp [len]
 have l2 : ¬ ((2 : Int) < len [a, b]) := by simp [len]
 have a0 : at? [a, b] 0 = some a := rfl
 have a1 : at? [a, b] 1 = some b := rfl
 have s0 : IntKind.i64.wrap ((0 : Int) + 1) = 1 := by rfl
 have s1 : IntKind.i64.wrap ((1 : Int) + 1) = 2 := by rfl
 have c1 : cat? ([] : List α) a = some a := by rw [cat?_ok (by unfold lim; simp; omega)]; rfl
 have c2 : cat? a b = some (a ++ b) := cat?_ok (by unfold lim; omega)
 unfold concatM
 rw [loopM_next (y := ((a.length : Int), 1, ())) (by simp only [l0, decide_true, br_true, a0, ob_some_eq, w1, n1, decide_false, br_false, s0]),
  loopM_next (y := (((a.length + b.length : Nat) : Int), 2, ())) (by simp only [l1, decide_true, br_true, a1, ob_some_eq, w2, n2, decide_false, br_false, s1]),
  loopM_end (r := .inl (((a.length + b.length : Nat) : Int), ())) (by simp only [l2, decide_false, br_false])]
 simp only [cutM_inl, hg _ h, oc_inl]
 rw [loopM_next (y := (a, 1, ())) (by simp only [l0, decide_true, br_true, a0, ob_some_eq, c1, s0]),
  loopM_next (y := (a ++ b, 2, ())) (by simp only [l1, decide_true, br_true, a1, ob_some_eq, c2, s1]),
  loopM_end (r := .inl (a ++ b, ())) (by simp only [l2, decide_false, br_false])]
 rfl

/-! ### strictly ascending -/
def StrC {α : Type} (c : α → α → Int) (l : List α) : Prop := l.Pairwise fun x y => c x y < 0
/-- An order of all. -/
structure OrdAll {α : Type} (c : α → α → Int) : Prop where
 irr : ∀ x, ¬ c x x < 0
 trans : ∀ x y z, c x y < 0 → c y z < 0 → c x z < 0
 eq : ∀ x y, ¬ c x y < 0 → ¬ c y x < 0 → x = y
theorem OrdAll.on {α : Type} {c : α → α → Int} (h : OrdAll c) (l : List α) : OrdOn l c := ⟨fun x _ => h.irr x, fun x _ y _ z _ => h.trans x y z, fun x _ y _ => h.eq x y⟩
theorem str_unique {α : Type} {c : α → α → Int} (h : OrdAll c) {a b : List α} (ha : StrC c a) (hb : StrC c b) (hm : ∀ x, x ∈ a ↔ x ∈ b) : a = b := by
 have nd : ∀ {l : List α}, StrC c l → l.Nodup := fun {l} hl => List.Pairwise.imp (fun {x y} hxy he => by subst he; exact h.irr _ hxy) hl
 have asn : ∀ {l : List α}, StrC c l → AscC c l := fun {l} hl => List.Pairwise.imp (fun {x y} hxy hyx => h.irr x (h.trans x y x hxy hyx)) hl
 refine asc_unique (h.on a) (asn ha) (asn hb) ((List.perm_ext_iff_of_nodup (nd ha) (nd hb)).2 hm)
theorem cmp?_str {α : Type} {c : α → α → Int} (h : OrdAll c) {t : α → α → Bool} (ht : ∀ x y, t x y = true ↔ x = y) {l : List α} (hl : AscC c l) : ∀ m, m ≤ l.length → StrC c (cmp? t l m) ∧ ∀ x, x ∈ cmp? t l m ↔ x ∈ l.take m
 | 0, _ => ⟨List.Pairwise.nil, fun x => by simp [cmp?]⟩
 | 1, hm => by rw [cmp?_one t (by omega)]; refine ⟨?_, fun x => Iff.rfl⟩; match l, hm with | x :: r, _ => exact List.pairwise_singleton _ _
 | m + 2, hm => by
   obtain ⟨h1, h2⟩ := cmp?_str h ht hl (m + 1) (by omega)
   have hb : m + 1 < l.length := by omega
   have hb' : m < l.length := by omega
   rw [cmp?_succ t (by omega : 0 < m + 1) hb]
   have hs : m + 1 - 1 = m := by omega
   simp only [hs]
   by_cases hx : l[m + 1] = l[m]
   ·rw [if_pos ((ht _ _).2 hx)]
    refine ⟨h1, fun x => ?_⟩
    rw [h2, List.take_add_one (i := m + 1), List.getElem?_eq_getElem hb, List.mem_append, hx]
    simp only [Option.toList_some, List.mem_singleton]
    refine ⟨.inl, fun hx2 => hx2.elim id fun hx2 => ?_⟩
    subst hx2
    exact List.mem_take_iff_getElem.2 ⟨m, by omega, rfl⟩
   ·have hx' : ¬ t l[m + 1] l[m] = true := fun hc => hx ((ht _ _).1 hc)
    rw [if_neg hx']
    refine ⟨List.pairwise_append.2 ⟨h1, List.pairwise_singleton _ _, fun y hy z hz => ?_⟩, fun x => ?_⟩
    ·rw [List.mem_singleton] at hz
     subst hz
     obtain ⟨i, hi, rfl⟩ := List.mem_take_iff_getElem.1 ((h2 y).1 hy)
     have hi' : i < m + 1 := by omega
     have asc := List.pairwise_iff_getElem.1 hl
     have g1 := asc i (m + 1) (by omega) hb hi'
     by_cases g2 : c l[i] l[m + 1] < 0
     ·exact g2
     ·exfalso
      have e1 := h.eq _ _ g2 g1
      have g3 := asc m (m + 1) hb' hb (by omega)
      apply hx
      by_cases him : i = m
      ·subst him; exact e1.symm
      ·have g4 := asc i m (by omega) hb' (by omega)
       rw [e1] at g4
       exact h.eq _ _ g3 g4
    ·rw [List.mem_append, h2, List.take_add_one (i := m + 1), List.getElem?_eq_getElem hb, List.mem_append]
     simp
/-- Two rows as one, sorted and without repeats. -/
theorem merged_eq {α : Type} {c : α → α → Int} (h : OrdAll c) {t : α → α → Bool} (ht : ∀ x y, t x y = true ↔ x = y) {l r : List α} (hr : StrC c r) (hm : ∀ x, x ∈ r ↔ x ∈ l) : cmp? t (sortC c l) (sortC c l).length = r := by
 obtain ⟨h1, h2⟩ := cmp?_str h ht (sortC_asc (h.on l)) (sortC c l).length (Nat.le_refl _)
 refine str_unique h h1 hr fun x => ?_
 rw [h2, List.take_length, (sortC_perm c l).mem_iff, hm]

/-! ### texts -/
theorem bytesLess_lt (a b : List UInt8) : Op.bytesLess a b = decide (a < b) := Go.Proofs.bytesLess_eq a b
/-- cmp.Compare of texts. -/
def cS (x y : List UInt8) : Int := if x < y then -1 else if y < x then 1 else 0
theorem cS_neg (x y : List UInt8) : cS x y < 0 ↔ x < y := by
 unfold cS
 by_cases h1 : x < y
 ·simp [h1]
 ·by_cases h2 : y < x <;> simp [h1, h2]
theorem cS_ord : OrdAll cS := ⟨fun x => by rw [cS_neg]; exact List.lt_irrefl x, fun x y z => by simp only [cS_neg]; exact List.lt_trans, fun x y h1 h2 => by
 rw [cS_neg] at h1 h2
 exact List.le_antisymm (List.not_lt.1 h2) (List.not_lt.1 h1)⟩
/-- A text is put into a row. -/
def putS (s : List UInt8) : List (List UInt8) → List (List UInt8)
 | [] => [s]
 | y :: r => if y = s then y :: r else if s < y then s :: y :: r else y :: putS s r
theorem mem_putS (s : List UInt8) : ∀ (l : List (List UInt8)) (x : List UInt8), x ∈ putS s l ↔ x = s ∨ x ∈ l
 | [], x => by simp [putS]
 | y :: r, x => by
   unfold putS
   split
   ·rename_i h; subst h; simp
   ·split
    ·simp
    ·simp only [List.mem_cons, mem_putS s r x]
     exact ⟨fun h => h.elim (fun h => .inr (.inl h)) fun h => h.elim .inl fun h => .inr (.inr h), fun h => h.elim (fun h => .inr (.inl h)) fun h => h.elim .inl fun h => .inr (.inr h)⟩
theorem str_putS (s : List UInt8) : ∀ (l : List (List UInt8)), StrC cS l → StrC cS (putS s l)
 | [], _ => List.pairwise_singleton _ _
 | y :: r, h => by
   obtain ⟨h1, h2⟩ := List.pairwise_cons.1 h
   unfold putS
   split
   ·exact h
   ·rename_i hne
    split
    ·rename_i hlt
     refine List.pairwise_cons.2 ⟨fun z hz => ?_, h⟩
     rcases List.mem_cons.1 hz with rfl | hz
     ·exact (cS_neg _ _).2 hlt
     ·exact cS_ord.trans _ _ _ ((cS_neg _ _).2 hlt) (h1 z hz)
    ·rename_i hge
     refine List.pairwise_cons.2 ⟨fun z hz => ?_, str_putS s r h2⟩
     rcases (mem_putS s r z).1 hz with rfl | hz
     ·rw [cS_neg]
      rcases (List.le_iff_lt_or_eq (l₁ := y) (l₂ := z)).1 (List.not_lt.1 hge) with h3 | h3
      ·exact h3
      ·exact absurd h3 hne
     ·exact h1 z hz
def putAll (acc d : List (List UInt8)) : List (List UInt8) := d.foldl (fun a s => putS s a) acc
theorem mem_putAll : ∀ (d acc : List (List UInt8)) (x : List UInt8), x ∈ putAll acc d ↔ x ∈ acc ∨ x ∈ d
 | [], acc, x => by simp [putAll]
 | s :: d, acc, x => by
   show x ∈ putAll (putS s acc) d ↔ _
   rw [mem_putAll d, mem_putS]
   simp only [List.mem_cons]
   exact ⟨fun h => h.elim (fun h => h.elim (fun h => .inr (.inl h)) .inl) fun h => .inr (.inr h), fun h => h.elim (fun h => .inl (.inr h)) fun h => h.elim (fun h => .inl (.inl h)) .inr⟩
theorem str_putAll : ∀ (d acc : List (List UInt8)), StrC cS acc → StrC cS (putAll acc d)
 | [], _, h => h
 | s :: d, acc, h => str_putAll d _ (str_putS s acc h)
theorem merged_put {a d : List (List UInt8)} (ha : StrC cS a) : cmp? (fun x y => x == y) (sortC cS (a ++ d)) (sortC cS (a ++ d)).length = putAll a d :=
 merged_eq cS_ord (fun x y => by simp) (str_putAll d a ha) fun x => by rw [mem_putAll, List.mem_append]
end Pe
end
section
/- The law of obligations in plain, first part: rows that are merged; duties; what is owed. -/
set_option maxRecDepth 100000
namespace Pe.Tryz
open Go Go.Proofs Pe LicSpec

theorem L93 (n : Nat) (x y : List UInt8) : m93 (orcN (n + 1)) x y = some (cS x y, ()) := by
 unfold m93
 rw [q128, q128]
 unfold m128
 simp only [bne_self_eq_false, ob_some_eq, br_false, bytesLess_lt]
 unfold cS
 by_cases h1 : x < y
 ·simp [h1, br_true]
 ·by_cases h2 : y < x
  ·have h3 : ¬ x = y := fun he => by subst he; exact h1 h2
   have h3' : (x == y) = false := by simpa using h3
   simp [h1, h2, h3', br_true, br_false]
  ·have h3 : x = y := List.le_antisymm (List.not_lt.1 h2) (List.not_lt.1 h1)
   subst h3
   simp [h1, br_false]
theorem q131 (n : Nat) (l : List (List UInt8)) : @Eq (Option (List (List UInt8))) ((orcN (n + 1)).p 131 .str 9 [.func (.func 93) [] []] l) (sortO (S := Sx) (orcN n) 93 .str l) :=
 (show _ = opt1 (sortO (S := Sx) (orcN n) 93 .str l) by kernel_rfl).trans (opt1_eq _)
theorem m168_gen (o : Orc Sx) (n : Int) : m168 o n = growM [] n := rfl
theorem m130_gen (o : Orc Sx) (s : List (List (List UInt8))) : m130 o s = concatM (fun n => o.l 168 sg168 ((n, ()) : Int × Unit)) s := rfl
theorem m132_gen (o : Orc Sx) (s : List (List UInt8)) : m132 o s = compactM (R := Unit) [] (fun a b => some (a == b)) s := rfl
/-- merged, as it is read where it is called. -/
noncomputable def mergedE (orc : Orc Sx) (a d : List (List UInt8)) : Option (List (List UInt8) × Unit) :=
 oc (α := List (List UInt8) × Unit) (β := Unit) (orc.l 130 sg130 (([a, d], ()) : List (List (List UInt8)) × Unit)) (fun (r5 : List (List UInt8) × Unit) => (ob (α := List (List UInt8)) (orc.p 131 .str 9 [.func (.func 93) [] []] r5.1) fun (l7 : List (List UInt8)) => (oc (α := List (List UInt8) × Unit) (β := Unit) (orc.l 132 sg132 ((l7, ()) : List (List UInt8) × Unit)) (fun (r8 : List (List UInt8) × Unit) => (some (r8.1, ()))) fun (_ : Unit) => none))) fun (_ : Unit) => none
theorem sort_str {n : Nat} (hn : 2 ≤ n) {l : List (List UInt8)} (hl : l.length ≤ lim) : @Eq (Option (List (List UInt8))) (sortO (S := Sx) (orcN n) 93 .str l) (some (sortC cS l)) := by
 obtain ⟨n, rfl⟩ : ∃ k, n = k + 2 := ⟨n - 2, by omega⟩
 refine sortO_of (S := Sx) (u := .str) (c := cS) (fun x _ y _ => ?_) (cS_ord.on l) hl rfl
 exact (q93 (n + 1) x y).trans (L93 n x y)
theorem mergedE_eq {n : Nat} (hn : 3 ≤ n) {a d : List (List UInt8)} (ha : StrC cS a) (hl : a.length + d.length ≤ 1073741824) : mergedE (orcN n) a d = some (putAll a d, ()) := by
 obtain ⟨n, rfl⟩ : ∃ k, n = k + 2 := ⟨n - 2, by omega⟩
 unfold mergedE
 have h1 : @Eq (Option ((List (List UInt8) × Unit) ⊕ Unit)) ((orcN (n + 2)).l 130 sg130 (([a, d], ()) : List (List (List UInt8)) × Unit)) (some (.inl (a ++ d, ()))) := by
  rw [q130, m130_gen]
  exact concatM_two (fun m hm => by rw [q168, m168_gen, growM_eq _ hm]; rfl) hl
 have h2 : @Eq (Option (List (List UInt8))) ((orcN (n + 2)).p 131 .str 9 [.func (.func 93) [] []] (a ++ d)) (some (sortC cS (a ++ d))) := by
  rw [q131]; exact sort_str (by omega) (by unfold lim; simp; omega)
 have h3 : @Eq (Option ((List (List UInt8) × Unit) ⊕ Unit)) ((orcN (n + 2)).l 132 sg132 ((sortC cS (a ++ d), ()) : List (List UInt8) × Unit)) (some (.inl (putAll a d, ()))) := by
  rw [q132, m132_gen, compactM_eq (t := fun x y => x == y) (fun _ _ _ _ => rfl) (by rw [(sortC_perm cS _).length_eq]; simp; omega), merged_put ha]
 rw [h1, oc_inl]
 show ob ((orcN (n + 2)).p 131 .str 9 [.func (.func 93) [] []] (a ++ d)) _ = _
 refine (congrArg (fun z => ob z _) h2).trans ?_
 exact congrArg (fun z => oc z (fun (r8 : List (List UInt8) × Unit) => some (r8.1, ())) (fun (_ : Unit) => none)) h3

theorem L97 (o : Orc Sx) {l : List (List UInt8)} (hl : l.length ≤ 1000000000) (s : List UInt8) : m97 o l s = some (putS s l, ()) := by
 have hlim : lim = 4294967296 := rfl
 unfold m97
 generalize hf : (fun (t1 : List (List UInt8) × Int × Unit) => (br (decide (t1.2.1 < (len l))) _ _ : Option ((List (List UInt8) × Int × Unit) ⊕ ((List (List UInt8) × Unit) ⊕ (List (List UInt8) × Unit))))) = f
 have key : ∀ d k : Nat, l.length = k + d → cutM (loopM f (l.take k, (k : Int), ())) (fun (t29 : List (List UInt8) × Unit) => (ob (cat? t29.1 [s]) fun l30 => (some (l30, ())))) = some (l.take k ++ putS s (l.drop k), ()) := by
  intro d
  induction d with
  | zero =>
    intro k hk
    have h1 : ¬ ((k : Int) < len l) := by rw [len_lt]; omega
    rw [loopM_end (r := .inl (l.take k, ())) (by subst hf; simp only [h1, decide_false, br_false]), cutM_inl, cat?_ok (by simp; omega), List.drop_of_length_le (by omega)]
    rfl
  | succ d ih =>
    intro k hk
    have hk2 : k < l.length := by omega
    have h1 : ((k : Int) < len l) := by rw [len_lt]; exact hk2
    have hp : part? l (k : Int) (len l) = some (l.drop k) := by
     rw [show len l = ((l.length : Nat) : Int) from rfl, part?_nat (Nat.le_of_lt hk2) (Nat.le_refl _), List.take_of_length_le (by simp)]
    have hc1 : cat? (l.take k) [s] = some (l.take k ++ [s]) := cat?_ok (by simp; omega)
    have hc2 : cat? (l.take k ++ [s]) (l.drop k) = some (l.take k ++ [s] ++ l.drop k) := cat?_ok (by simp; omega)
    have hc3 : cat? (l.take k) [l[k]] = some (l.take k ++ [l[k]]) := cat?_ok (by simp; omega)
    have hd : l.drop k = l[k] :: l.drop (k + 1) := List.drop_eq_getElem_cons hk2
    by_cases e1 : l[k] = s
    ·rw [loopM_end (r := .inr (l, ())) (by subst hf; simp only [h1, decide_true, br_true, at?_get hk2, ob_some_eq, e1, beq_self_eq_true]), cutM_inr, hd, putS, if_pos e1, ← hd, List.take_append_drop]
    ·have e1' : (l[k] == s) = false := by simpa using e1
     by_cases e2 : s < l[k]
     ·have e3 : ¬ l[k] < s := fun h => List.lt_irrefl _ (List.lt_trans h e2)
      rw [loopM_end (r := .inr (l.take k ++ [s] ++ l.drop k, ())) (by subst hf; simp only [h1, decide_true, br_true, br_false, at?_get hk2, ob_some_eq, e1', bytesLess_lt, e3, decide_false, Bool.or_self, Bool.not_false, hp, hc1, hc2, same_self]), cutM_inr, hd, putS, if_neg e1, if_pos e2]
      simp
     ·have e3 : l[k] < s := by
       rcases (List.le_iff_lt_or_eq (l₁ := l[k]) (l₂ := s)).1 (List.not_lt.1 e2) with h | h
       ·exact h
       ·exact absurd h e1
      rw [loopM_next (y := (l.take k ++ [l[k]], ((k + 1 : Nat) : Int), ())) (by subst hf; simp only [h1, decide_true, br_true, br_false, at?_get hk2, ob_some_eq, e1', bytesLess_lt, e3, Bool.true_or, Bool.not_true, hc3, wrap_succ hk2 (by omega : l.length ≤ 9223372036854775807)])]
      have h4 : l.take k ++ [l[k]] = l.take (k + 1) := by rw [List.take_add_one, List.getElem?_eq_getElem hk2]; rfl
      rw [h4, ih (k + 1) (by omega), hd, putS, if_neg e1, if_neg e2, ← h4, List.append_assoc]
      rfl
 have := key l.length 0 (by omega)
 simpa using this
end Pe.Tryz
end
section
/- The law of obligations in plain, second part: uses; duties; what is owed; clashes. -/
set_option maxRecDepth 100000
namespace Pe.Tryz
open Go Go.Proofs Pe LicSpec

def use0 : Gt.Use := ⟨[], []⟩
def uAt (l : List Gt.Use) (k : Nat) : Gt.Use := l[k]?.getD use0
theorem uAt_get {l : List Gt.Use} {k : Nat} (h : k < l.length) : l[k] = uAt l k := by simp [uAt, h]
theorem at_u {l : List Gt.Use} {k : Nat} (h : k < l.length) : at? l (k : Int) = some (uAt l k) := by rw [at?_get h, uAt_get h]
/-- What of a use is wrong. -/
def uF (c : Cat) (u : Gt.Use) : Int :=
 bif (lIx c u.name).isNone then 4 else bif u.with_ == [] then 0 else bif (xIx c u.with_).isNone || !hasT (xGet c u.with_).for_ u.name then 4 else 0
def usesF (c : Cat) (l : List Gt.Use) : Int := bif decide (40 < len l) then 3 else ff (fun k => uF c (uAt l k)) l.length
def listF (c : Cat) (l : List Gt.Use) : Int := bif catF c != 0 then catF c else usesF c l
theorem isNone_not {α : Type} (o : Option α) : (!o.isSome) = o.isNone := by cases o <;> rfl

theorem L75 {n : Nat} (hn : 2 ≤ n) {c : Cat} (hc : SmallC c) (l : List Gt.Use) : m75 (orcN n) c l = some (usesF c l, ()) := by
 obtain ⟨n, rfl⟩ : ∃ k, n = k + 1 := ⟨n - 1, by omega⟩
 unfold m75 usesF
 refine br_ret 3 fun hb => ?_
 have hll : l.length ≤ 40 := by have := of_decide_eq_false hb; unfold len at this; omega
 rw [loop_ff1 l.length (fun k => uF c (uAt l k)) (fun c => .inr (c, ())) (.inl ()) ?h1 ?h2]
 case h1 =>
  intro k hk _
  have hx := xGet_small hc (uAt l k).with_
  simp only [len_lt, hk, decide_true, br_true, at_u hk, ob_some_eq, q108, L108 (orcN n) hc.lics, q109, L109 (orcN n) hc.excs, q86, L86 (by omega : 1 ≤ n) (by have := hx.1; omega : (xGet c (uAt l k).with_).for_.length ≤ 1000000000), isNone_not, ob_or, wrap_succ hk (by omega : l.length ≤ 9223372036854775807)]
  refine br_ff (out := fun c => Sum.inr (c, ())) 4 (by decide) fun _ => ?_
  cases ((uAt l k).with_ == []) with
  | true => rfl
  | false => exact br_ff (out := fun c => Sum.inr (c, ())) 4 (by decide) fun _ => rfl
 case h2 => simp [len, br_false]
 by_cases h0 : ff (fun k => uF c (uAt l k)) l.length = 0
 ·simp [h0, cutM_inl]
 ·simp [h0, cutM_inr]
theorem L61 {n : Nat} (hn : 6 ≤ n) {c : Cat} (hc : SmallC c) (l : List Gt.Use) : m61 (orcN n) c l = some (listF c l, ()) := by
 obtain ⟨n, rfl⟩ : ∃ k, n = k + 1 := ⟨n - 1, by omega⟩
 unfold m61 listF
 rw [q103, L103 (by omega) hc]
 simp only [ob_some_eq, q75, L75 (by omega : 2 ≤ n) hc l]
 cases catF c != 0 <;> rfl
theorem at_x {c : Cat} {s : List UInt8} (h : (xIx c s).isNone = false) : at? c.exceptions (ixI (xIx c s)) = some (xGet c s) := by
 unfold xGet
 cases hx : xIx c s with
 | none => rw [hx] at h; cases h
 | some k => exact at_e (xIx_lt hx)
theorem at_l {c : Cat} {s : List UInt8} (h : (lIx c s).isNone = false) : at? c.licences (ixI (lIx c s)) = some (lGet c s) := by
 unfold lGet
 cases hx : lIx c s with
 | none => rw [hx] at h; cases h
 | some k => exact at_r (lIx_lt hx)
theorem L63 {n : Nat} (hn : 6 ≤ n) {c : Cat} (hc : SmallC c) (l : List Gt.Use) : m63 (orcN n) c l = some (listF c l, ()) := by
 obtain ⟨n, rfl⟩ : ∃ k, n = k + 1 := ⟨n - 1, by omega⟩
 unfold m63 listF
 rw [q104, L104 (by omega) hc]
 simp only [ob_some_eq]
 cases hcat : catF c != 0 with
 | true => rfl
 | false =>
 rw [br_false, cond_false]
 unfold usesF
 refine br_ret 3 fun hb => ?_
 have hll : l.length ≤ 40 := by have := of_decide_eq_false hb; unfold len at this; omega
 rw [loop_ff1 l.length (fun k => uF c (uAt l k)) (fun c => .inr (c, ())) (.inl ()) ?h1 ?h2]
 case h1 =>
  intro k hk _
  have hx := xGet_small hc (uAt l k).with_
  simp only [len_lt, hk, decide_true, br_true, at_u hk, ob_some_eq, q105, L105 (orcN n) hc.lics, q106, L106 (orcN n) hc.excs, ix_neg, q88, wrap_succ hk (by omega : l.length ≤ 9223372036854775807)]
  refine br_ff (out := fun c => Sum.inr (c, ())) 4 (by decide) fun _ => ?_
  cases hw : ((uAt l k).with_ == []) with
  | true => have : ((uAt l k).with_ != []) = false := by rw [bne, hw]; rfl
            rw [this]; rfl
  | false =>
    have : ((uAt l k).with_ != []) = true := by rw [bne, hw]; rfl
    rw [this, br_true, cond_false]
    cases hn2 : (xIx c (uAt l k).with_).isNone with
    | true => rfl
    | false =>
      simp only [br_false, at_x hn2, ob_some_eq, Bool.false_or, L88 (orcN n) (by have := hx.1; omega : (xGet c (uAt l k).with_).for_.length ≤ 1000000000)]
      exact br_ff (out := fun c => Sum.inr (c, ())) 4 (by decide) fun _ => rfl
 case h2 => simp [len, br_false]
 by_cases h0 : ff (fun k => uF c (uAt l k)) l.length = 0
 ·simp [h0, cutM_inl]
 ·simp [h0, cutM_inr]

/-! ### duties -/
def dP (c : Cat) (u : Gt.Use) (s : List UInt8) : Option (List UInt8) := bif u.with_ == [] || !hasT (xGet c u.with_).lifts s then some s else none
def dutS (c : Cat) (u : Gt.Use) : List (List UInt8) := (lGet c u.name).obligations.filterMap (dP c u)
theorem lGet_small {c : Cat} (hc : SmallC c) (s : List UInt8) : Txs (lGet c s).obligations := by
 unfold lGet
 cases h : lIx c s with
 | none => exact ⟨by simp [rule0], by simp [rule0]⟩
 | some k => exact (hc.lic _ (rAt_mem (lIx_lt h))).2.2
theorem xGet_small2 {c : Cat} (hc : SmallC c) (s : List UInt8) : Txs (xGet c s).lifts := by
 unfold xGet
 cases h : xIx c s with
 | none => exact ⟨by simp [exc0], by simp [exc0]⟩
 | some k => exact (hc.exc _ (eAt_mem (xIx_lt h))).2.2
theorem dutS_len {c : Cat} (hc : SmallC c) (u : Gt.Use) : (dutS c u).length ≤ 2000000 := Nat.le_trans (List.length_filterMap_le _ _) (lGet_small hc u.name).1
theorem L68 {n : Nat} (hn : 2 ≤ n) {c : Cat} (hc : SmallC c) (u : Gt.Use) : m68 (orcN n) c u = some (dutS c u, ()) := by
 obtain ⟨n, rfl⟩ : ∃ k, n = k + 1 := ⟨n - 1, by omega⟩
 have hl := lGet_small hc u.name
 have hx := xGet_small2 hc u.with_
 unfold m68 dutS
 rw [q108, L108 (orcN n) hc.lics]
 simp only [ob_some_eq, q109, L109 (orcN n) hc.excs]
 rw [loop_col (lGet c u.name).obligations (dP c u) (fun l => .inl (l, ())) ?h1 ?h2]
 case h1 =>
  intro k hk a ha
  have hl1 := hl.1
  simp only [len_lt, hk, decide_true, br_true, at?_get hk, ob_some_eq, q86, L86 (by omega : 1 ≤ n) (by have := hx.1; omega : (xGet c u.with_).lifts.length ≤ 1000000000), ob_or, wrap_succ hk (by omega : (lGet c u.name).obligations.length ≤ 9223372036854775807)]
  rw [cat?_ok (by have : lim = 4294967296 := rfl; simp; omega)]
  simp only [ob_some_eq]
  unfold dP
  cases (u.with_ == [] || !hasT (xGet c u.with_).lifts (lGet c u.name).obligations[k]) <;> rfl
 case h2 => intro a; simp [len, br_false]
 rfl

/-! ### what is owed -/
def oblS (c : Cat) (l : List Gt.Use) : List (List UInt8) := l.foldl (fun a u => putAll a (dutS c u)) []
theorem putAll_len : ∀ (d acc : List (List UInt8)), (putAll acc d).length ≤ acc.length + d.length
 | [], acc => by simp [putAll]
 | s :: d, acc => by
   show (putAll (putS s acc) d).length ≤ _
   have h1 := putAll_len d (putS s acc)
   have h2 : ∀ l : List (List UInt8), (putS s l).length ≤ l.length + 1 := by
    intro l
    induction l with
    | nil => simp [putS]
    | cons y r ih =>
      unfold putS
      split
      ·simp
      ·split
       ·simp
       ·simpa using ih
   have := h2 acc
   simp only [List.length_cons]; omega
theorem L62 {n : Nat} (hn : 4 ≤ n) {c : Cat} (hc : SmallC c) {l : List Gt.Use} (hl : l.length ≤ 40) : m62 (orcN n) c l = some (oblS c l, ()) := by
 obtain ⟨n, rfl⟩ : ∃ k, n = k + 1 := ⟨n - 1, by omega⟩
 unfold m62 oblS
 rw [show (([] : List (List UInt8)), (0 : Int), ()) = ((fun (k : Nat) (a : List (List UInt8)) => (a, (k : Int), ())) 0 []) from rfl]
 rw [loop_fold (fun (k : Nat) (a : List (List UInt8)) => (a, (k : Int), ())) l (fun a u => putAll a (dutS c u)) (fun a => .inl (a, ())) (fun k a => StrC cS a ∧ a.length ≤ k * 2000000) ?h1 ?h2 [] ⟨List.Pairwise.nil, by simp⟩]
 case h1 =>
  intro k hk a ha
  have hd := dutS_len hc l[k]
  have hm := mergedE_eq (n := n + 1) (by omega) ha.1 (d := dutS c l[k]) (by have := ha.2; omega)
  unfold mergedE at hm
  simp only [len_lt, hk, decide_true, br_true, at?_get hk, ob_some_eq, q68, L68 (by omega : 2 ≤ n) hc, wrap_succ hk (by omega : l.length ≤ 9223372036854775807), hm]
  exact ⟨trivial, str_putAll _ _ ha.1, by have := putAll_len (dutS c l[k]) a; have := ha.2; omega⟩
 case h2 => intro a _; simp [len, br_false]
 rfl
/-- All uses are known. -/
def Known' (c : Cat) (l : List Gt.Use) : Prop := ∀ u ∈ l, (lIx c u.name).isNone = false ∧ (u.with_ ≠ [] → (xIx c u.with_).isNone = false)
theorem L64 {n : Nat} (hn : 2 ≤ n) {c : Cat} (hc : SmallC c) {l : List Gt.Use} (hl : l.length ≤ 40) (hk : Known' c l) : m64 (orcN n) c l = some (oblS c l, ()) := by
 obtain ⟨n, rfl⟩ : ∃ k, n = k + 1 := ⟨n - 1, by omega⟩
 unfold m64 oblS
 rw [show (([] : List (List UInt8)), (0 : Int), ()) = ((fun (k : Nat) (a : List (List UInt8)) => (a, (k : Int), ())) 0 []) from rfl]
 rw [loop_fold (fun (k : Nat) (a : List (List UInt8)) => (a, (k : Int), ())) l (fun a u => putAll a (dutS c u)) (fun a => .inl (a, ())) (fun k a => a.length ≤ k * 2000000) ?h1 ?h2 [] (by simp)]
 case h1 =>
  intro k hk1 a ha
  obtain ⟨k1, k2⟩ := hk l[k] (List.getElem_mem _)
  have hd := dutS_len hc l[k]
  refine ⟨?_, by have := putAll_len (dutS c l[k]) a; omega⟩
  have hob := lGet_small hc l[k].name
  have hx := xGet_small2 hc l[k].with_
  simp only [len_lt, hk1, decide_true, br_true, at?_get hk1, ob_some_eq, q105, L105 (orcN n) hc.lics, at_l k1]
  have hfold : putAll a (dutS c l[k]) = (lGet c l[k].name).obligations.foldl (fun a s => match dP c l[k] s with | some y => putS y a | none => a) a := by
   unfold putAll dutS
   rw [List.foldl_filterMap]
   exact congrArg (fun f => List.foldl f a _) (funext fun x => funext fun y => by cases dP c l[k] y <;> rfl)
  rw [show (a, (0 : Int), ()) = ((fun (j : Nat) (b : List (List UInt8)) => (b, (j : Int), ())) 0 a) from rfl]
  rw [loop_fold (fun (j : Nat) (b : List (List UInt8)) => (b, (j : Int), ())) (lGet c l[k].name).obligations (fun a s => match dP c l[k] s with | some y => putS y a | none => a) (fun a => .inl (a, ())) (fun j b => b.length ≤ a.length + j) ?g1 ?g2 a (Nat.le_refl _)]
  case g1 =>
   intro j hj b hb
   have hl1 := hob.1
   have hwr := wrap_succ hj (by omega : (lGet c l[k].name).obligations.length ≤ 9223372036854775807)
   have hput : (putS (lGet c l[k].name).obligations[j] b).length ≤ b.length + 1 := by simpa [putAll] using putAll_len [(lGet c l[k].name).obligations[j]] b
   cases hw : (l[k].with_ == []) with
   | true =>
     have hw' : (l[k].with_ != []) = false := by rw [bne, hw]; rfl
     have hdp : dP c l[k] (lGet c l[k].name).obligations[j] = some (lGet c l[k].name).obligations[j] := by unfold dP; rw [hw]; rfl
     simp only [len_lt, hj, decide_true, br_true, hw', br_false, ob_some_eq, Bool.not_false, at?_get hj, q97, L97 (orcN n) (by omega : b.length ≤ 1000000000), hwr, hdp]
     exact ⟨trivial, by omega⟩
   | false =>
     have hw' : (l[k].with_ != []) = true := by rw [bne, hw]; rfl
     have hne := k2 (by simpa using hw)
     have hdp : dP c l[k] (lGet c l[k].name).obligations[j] = bif !hasT (xGet c l[k].with_).lifts (lGet c l[k].name).obligations[j] then some (lGet c l[k].name).obligations[j] else none := by unfold dP; rw [hw]; rfl
     simp only [len_lt, hj, decide_true, br_true, hw', ob_some_eq, q106, L106 (orcN n) hc.excs, at_x hne, at?_get hj, q88, L88 (orcN n) (by have := hx.1; omega : (xGet c l[k].with_).lifts.length ≤ 1000000000), q97, L97 (orcN n) (by omega : b.length ≤ 1000000000), hwr, hdp]
     cases hasT (xGet c l[k].with_).lifts (lGet c l[k].name).obligations[j]
     ·exact ⟨rfl, by show (putS _ b).length ≤ _; omega⟩
     ·exact ⟨rfl, by show b.length ≤ _; omega⟩
  case g2 => intro b _; simp [len, br_false]
  rw [cutM_inl, ← hfold, wrap_succ hk1 (by omega : l.length ≤ 9223372036854775807)]
 case h2 => intro a _; simp [len, br_false]
 rfl

/-! ### clashes -/
def clP (o : List (List UInt8)) (p : Gt.A2_string) : Option Gt.A2_string := bif hasT o p.e0 && hasT o p.e1 then some p else none
def clS (c : Cat) (o : List (List UInt8)) : List Gt.A2_string := c.clashes.filterMap (clP o)
theorem L65 {n : Nat} (hn : 2 ≤ n) {c : Cat} (hc : SmallC c) {o : List (List UInt8)} (ho : o.length ≤ 1000000000) : m65 (orcN n) c o = some (clS c o, ()) := by
 obtain ⟨n, rfl⟩ : ∃ k, n = k + 1 := ⟨n - 1, by omega⟩
 have hl := hc.cls
 unfold m65 clS
 rw [loop_col c.clashes (clP o) (fun l => .inl (l, ())) ?h1 ?h2]
 case h1 =>
  intro k hk a ha
  simp only [len_lt, hk, decide_true, br_true, at?_get hk, ob_some_eq, q86, L86 (by omega : 1 ≤ n) ho, ob_and, wrap_succ hk (by omega : c.clashes.length ≤ 9223372036854775807)]
  rw [cat?_ok (by have : lim = 4294967296 := rfl; simp; omega)]
  simp only [ob_some_eq]
  unfold clP
  cases (hasT o c.clashes[k].e0 && hasT o c.clashes[k].e1) <;> rfl
 case h2 => intro a; simp [len, br_false]
 rfl
theorem oblS_len {c : Cat} (hc : SmallC c) {l : List Gt.Use} (hl : l.length ≤ 40) : (oblS c l).length ≤ 80000000 := by
 have key : ∀ (l : List Gt.Use) (a : List (List UInt8)), (l.foldl (fun a u => putAll a (dutS c u)) a).length ≤ a.length + l.length * 2000000 := by
  intro l
  induction l with
  | nil => intro a; simp
  | cons u r ih =>
    intro a
    have h1 := ih (putAll a (dutS c u))
    have h2 := putAll_len (dutS c u) a
    have h3 := dutS_len hc u
    simp only [List.foldl_cons, List.length_cons, Nat.add_mul, Nat.one_mul]
    omega
 have := key l []
 have h4 : l.length * 2000000 ≤ 40 * 2000000 := Nat.mul_le_mul_right _ hl
 unfold oblS
 simp only [List.length_nil] at this
 omega
theorem L66 {n : Nat} (hn : 3 ≤ n) {c : Cat} (hc : SmallC c) {l : List Gt.Use} (hl : l.length ≤ 40) (hk : Known' c l) : m66 (orcN n) c l = some (clS c (oblS c l), ()) := by
 obtain ⟨n, rfl⟩ : ∃ k, n = k + 1 := ⟨n - 1, by omega⟩
 have hcl := hc.cls
 have ho := oblS_len hc hl
 unfold m66 clS
 rw [q64, L64 (by omega) hc hl hk]
 simp only [ob_some_eq]
 rw [loop_col c.clashes (clP (oblS c l)) (fun l => .inl (l, ())) ?h1 ?h2]
 case h1 =>
  intro k hk a ha
  simp only [len_lt, hk, decide_true, br_true, at?_get hk, ob_some_eq, q88, L88 (orcN n) (by omega : (oblS c l).length ≤ 1000000000), ob_and, wrap_succ hk (by omega : c.clashes.length ≤ 9223372036854775807)]
  rw [cat?_ok (by have : lim = 4294967296 := rfl; simp; omega)]
  simp only [ob_some_eq]
  unfold clP
  cases (hasT (oblS c l) c.clashes[k].e0 && hasT (oblS c l) c.clashes[k].e1) <;> rfl
 case h2 => intro a; simp [len, br_false]
 rfl

/-! ### uses that are right -/
theorem listF_zero {c : Cat} {l : List Gt.Use} (h : listF c l = 0) : catF c = 0 ∧ l.length ≤ 40 ∧ ∀ u ∈ l, uF c u = 0 := by
 unfold listF at h
 cases h1 : catF c != 0 with
 | true => rw [h1] at h; exact absurd h (by simpa using h1)
 | false =>
 rw [h1] at h
 simp only [cond_false] at h
 unfold usesF at h
 cases h2 : decide (40 < len l) with
 | true => rw [h2] at h; cases h
 | false =>
 rw [h2] at h
 simp only [cond_false] at h
 refine ⟨by simpa using h1, by have := of_decide_eq_false h2; unfold len at this; omega, fun u hu => ?_⟩
 obtain ⟨k, hk, rfl⟩ := List.getElem_of_mem hu
 have := ff_at h hk
 rwa [← uAt_get hk] at this
theorem uF_zero {c : Cat} {u : Gt.Use} (h : uF c u = 0) : (lIx c u.name).isNone = false ∧ (u.with_ ≠ [] → (xIx c u.with_).isNone = false) := by
 unfold uF at h
 cases h1 : (lIx c u.name).isNone with
 | true => rw [h1] at h; cases h
 | false =>
 rw [h1] at h
 simp only [cond_false] at h
 refine ⟨rfl, fun h2 => ?_⟩
 have h3 : (u.with_ == []) = false := by simpa using h2
 rw [h3] at h
 simp only [cond_false] at h
 cases h4 : (xIx c u.with_).isNone with
 | true => rw [h4] at h; cases h
 | false => rfl
theorem known_of {c : Cat} {l : List Gt.Use} (h : listF c l = 0) : Known' c l := fun u hu => uF_zero ((listF_zero h).2.2 u hu)

theorem L23 {n : Nat} (hn : 7 ≤ n) {c : Cat} (hc : SmallC c) (l : List Gt.Use) : m23 (orcN n) c l = some (bif listF c l != 0 then ([], listF c l, ()) else (oblS c l, 0, ())) := by
 obtain ⟨n, rfl⟩ : ∃ k, n = k + 1 := ⟨n - 1, by omega⟩
 unfold m23
 rw [q61, L61 (by omega) hc]
 simp only [ob_some_eq]
 cases h : listF c l != 0 with
 | true => rfl
 | false =>
 have h0 : listF c l = 0 := by simpa using h
 simp only [br_false, q62, L62 (by omega : 4 ≤ n) hc (listF_zero h0).2.1, ob_some_eq, cond_false]
theorem L24 {n : Nat} (hn : 7 ≤ n) {c : Cat} (hc : SmallC c) (l : List Gt.Use) : m24 (orcN n) c l = some (bif listF c l != 0 then ([], listF c l, ()) else (oblS c l, 0, ())) := by
 obtain ⟨n, rfl⟩ : ∃ k, n = k + 1 := ⟨n - 1, by omega⟩
 unfold m24
 rw [q63, L63 (by omega) hc]
 simp only [ob_some_eq]
 cases h : listF c l != 0 with
 | true => rfl
 | false =>
 have h0 : listF c l = 0 := by simpa using h
 simp only [br_false, q64, L64 (by omega : 2 ≤ n) hc (listF_zero h0).2.1 (known_of h0), ob_some_eq, cond_false]
theorem L25 {n : Nat} (hn : 7 ≤ n) {c : Cat} (hc : SmallC c) (l : List Gt.Use) : m25 (orcN n) c l = some (bif listF c l != 0 then ([], listF c l, ()) else (clS c (oblS c l), 0, ())) := by
 obtain ⟨n, rfl⟩ : ∃ k, n = k + 1 := ⟨n - 1, by omega⟩
 unfold m25
 rw [q61, L61 (by omega) hc]
 simp only [ob_some_eq]
 cases h : listF c l != 0 with
 | true => rfl
 | false =>
 have h0 : listF c l = 0 := by simpa using h
 have ho := oblS_len hc (listF_zero h0).2.1
 simp only [br_false, q62, L62 (by omega : 4 ≤ n) hc (listF_zero h0).2.1, ob_some_eq, cond_false, q65, L65 (by omega : 2 ≤ n) hc (by omega : (oblS c l).length ≤ 1000000000)]
theorem L26 {n : Nat} (hn : 7 ≤ n) {c : Cat} (hc : SmallC c) (l : List Gt.Use) : m26 (orcN n) c l = some (bif listF c l != 0 then ([], listF c l, ()) else (clS c (oblS c l), 0, ())) := by
 obtain ⟨n, rfl⟩ : ∃ k, n = k + 1 := ⟨n - 1, by omega⟩
 unfold m26
 rw [q63, L63 (by omega) hc]
 simp only [ob_some_eq]
 cases h : listF c l != 0 with
 | true => rfl
 | false =>
 have h0 : listF c l = 0 := by simpa using h
 simp only [br_false, q66, L66 (by omega : 3 ≤ n) hc (listF_zero h0).2.1 (known_of h0), ob_some_eq, cond_false]
end Pe.Tryz
end
section
/- The law of obligations in plain, third part: what is right is small; the notice. -/
set_option maxRecDepth 100000
namespace Pe.Tryz
open Go Go.Proofs Pe LicSpec

theorem bif_zero {b : Bool} {c X : Int} (hc : c ≠ 0) (h : (bif b then c else X) = 0) : b = false ∧ X = 0 := by
 cases b with
 | true => exact absurd h hc
 | false => exact ⟨rfl, h⟩
theorem isName_len {s : List UInt8} (h : isName s = true) : s.length ≤ 60 := by
 unfold isName at h
 simp only [Bool.and_eq_true, Bool.not_eq_true', Bool.or_eq_false_iff, decide_eq_false_iff_not] at h
 have := h.1.1.1.1.2
 omega
theorem lF_zero2 {l : List Gt.LicenceRule} {k : Nat} (h : lF l k = 0) : isName (rAt l k).name = true ∧ (rAt l k).obligations.length ≤ 50 ∧ nFs (rAt l k).obligations = 0 := by
 unfold lF at h
 obtain ⟨h1, h⟩ := bif_zero (by decide) h
 obtain ⟨_, h⟩ := bif_zero (by decide) h
 obtain ⟨_, h⟩ := bif_zero (by decide) h
 obtain ⟨_, h⟩ := bif_zero (by decide) h
 obtain ⟨_, h⟩ := bif_zero (by decide) h
 obtain ⟨_, h⟩ := bif_zero (by decide) h
 obtain ⟨h2, h⟩ := bif_zero (by decide) h
 exact ⟨by simpa using h1, by have := of_decide_eq_false h2; unfold len at this; omega, h⟩
theorem xF_zero2 {c : Cat} {k : Nat} (h : xF c k = 0) : isName (eAt c.exceptions k).name = true := by
 unfold xF at h
 obtain ⟨h1, _⟩ := bif_zero (by decide) h
 simpa using h1
theorem nFs_zero {l : List (List UInt8)} (h : nFs l = 0) : (∀ s ∈ l, isName s = true) ∧ StrC cS l := by
 have hk : ∀ k, k < l.length → isName (sAt l k) = true ∧ (0 < k → sAt l (k - 1) < sAt l k) := by
  intro k hk
  have h1 := ff_at h hk
  unfold nF at h1
  obtain ⟨h2, h1⟩ := bif_zero (by decide) h1
  refine ⟨by simpa using h2, fun h0 => ?_⟩
  have h3 : (decide (0 < k) && leN (sAt l k) (sAt l (k - 1))) = false := by
   cases hb : (decide (0 < k) && leN (sAt l k) (sAt l (k - 1))) with
   | false => rfl
   | true => rw [hb] at h1; cases h1
  rw [decide_eq_true h0, Bool.true_and] at h3
  exact leN_false h3
 refine ⟨fun s hs => ?_, List.pairwise_iff_getElem.2 fun i j hi hj hij => ?_⟩
 ·obtain ⟨k, hk2, rfl⟩ := List.getElem_of_mem hs
  rw [sAt_get hk2]; exact (hk k hk2).1
 ·rw [cS_neg, sAt_get hi, sAt_get hj]
  have key : ∀ d, i + d + 1 < l.length → sAt l i < sAt l (i + d + 1) := by
   intro d
   induction d with
   | zero => intro hd; exact (hk (i + 0 + 1) hd).2 (by omega)
   | succ d ih => intro hd; exact List.lt_trans (ih (by omega)) ((hk (i + (d + 1) + 1) hd).2 (by omega))
  have := key (j - i - 1) (by omega)
  rwa [show i + (j - i - 1) + 1 = j by omega] at this
/-- A use that is right is small. -/
structure FineU (c : Cat) (u : Gt.Use) : Prop where
 name : u.name.length ≤ 60
 wth : u.with_.length ≤ 60
 num : (dutS c u).length ≤ 50
 duty : ∀ s ∈ dutS c u, s.length ≤ 60
 str : StrC cS (dutS c u)
theorem fine_of {c : Cat} {l : List Gt.Use} (h : listF c l = 0) {u : Gt.Use} (hu : u ∈ l) : FineU c u := by
 obtain ⟨h1, _, h2⟩ := listF_zero h
 obtain ⟨k1, k2⟩ := uF_zero (h2 u hu)
 obtain ⟨c1, c2, _⟩ := catF_zero h1
 cases hi : lIx c u.name with
 | none => rw [hi] at k1; cases k1
 | some k =>
   have hk := lIx_lt hi
   obtain ⟨g1, g2, g3⟩ := lF_zero2 (c1 k hk)
   obtain ⟨g4, g5⟩ := nFs_zero g3
   have hn : (rAt c.licences k).name = u.name := by
    have := (List.findIdx?_eq_some_iff_getElem.1 hi).2.1
    rw [rAt_get hk] at this
    simpa using this
   have hg : lGet c u.name = rAt c.licences k := by unfold lGet; rw [hi]
   have hsub : ∀ s ∈ dutS c u, s ∈ (rAt c.licences k).obligations := by
    intro s hs
    unfold dutS at hs
    rw [hg] at hs
    obtain ⟨y, hy, hy2⟩ := List.mem_filterMap.1 hs
    unfold dP at hy2
    cases hb : (u.with_ == [] || !hasT (xGet c u.with_).lifts y) with
    | true => rw [hb] at hy2; cases hy2; exact hy
    | false => rw [hb] at hy2; cases hy2
   refine ⟨by rw [← hn]; exact isName_len g1, ?_, ?_, fun s hs => isName_len (g4 s (hsub s hs)), ?_⟩
   ·by_cases hw : u.with_ = []
    ·rw [hw]; exact Nat.zero_le _
    ·have := k2 hw
     cases hx : xIx c u.with_ with
     | none => rw [hx] at this; cases this
     | some j =>
       have hj := xIx_lt hx
       have hnx : (eAt c.exceptions j).name = u.with_ := by
        have := (List.findIdx?_eq_some_iff_getElem.1 hx).2.1
        rw [eAt_get hj] at this
        simpa using this
       rw [← hnx]; exact isName_len (xF_zero2 (c2 j hj))
   ·unfold dutS; rw [hg]; exact Nat.le_trans (List.length_filterMap_le _ _) g2
   ·unfold dutS
    rw [hg]
    refine List.Pairwise.filterMap _ (fun a a' haa b hb b' hb' => ?_) g5
    unfold dP at hb hb'
    cases hq : (u.with_ == [] || !hasT (xGet c u.with_).lifts a) with
    | false => rw [hq] at hb; cases hb
    | true =>
      cases hq' : (u.with_ == [] || !hasT (xGet c u.with_).lifts a') with
      | false => rw [hq'] at hb'; cases hb'
      | true => rw [hq] at hb; rw [hq'] at hb'; cases hb; cases hb'; exact haa
theorem obl_one {c : Cat} {u : Gt.Use} (h : FineU c u) : oblS c [u] = dutS c u := by
 show putAll [] (dutS c u) = _
 exact str_unique cS_ord (str_putAll _ _ List.Pairwise.nil) h.str fun x => by rw [mem_putAll]; simp

/-! ### the notice -/
def sWith : List UInt8 := [32, 87, 73, 84, 72, 32]
def headS (u : Gt.Use) : List UInt8 := u.name ++ (bif u.with_ != [] then sWith ++ u.with_ else [])
def dutyS (s : List UInt8) : List UInt8 := [32, 32] ++ s ++ [10]
def lineS (c : Cat) (a : List UInt8) (u : Gt.Use) : List UInt8 := (dutS c u).foldl (fun a s => a ++ dutyS s) (a ++ headS u ++ [10])
def noticeS (c : Cat) (l : List Gt.Use) : List UInt8 := l.foldl (lineS c) []
theorem headS_len {c : Cat} {u : Gt.Use} (h : FineU c u) : (headS u).length ≤ 126 := by
 have h1 := h.name; have h2 := h.wth
 unfold headS sWith
 cases u.with_ != [] <;> simp <;> omega
theorem fold_len {d : List (List UInt8)} (hd : ∀ s ∈ d, s.length ≤ 60) : ∀ a : List UInt8, (d.foldl (fun a s => a ++ dutyS s) a).length ≤ a.length + d.length * 63 := by
 induction d with
 | nil => intro a; simp
 | cons s r ih =>
   intro a
   have h1 := ih (fun x hx => hd x (by simp [hx])) (a ++ dutyS s)
   have h2 := hd s (by simp)
   simp only [List.foldl_cons, List.length_cons, dutyS, List.length_append, List.length_nil] at h1 ⊢
   omega
theorem lineS_len {c : Cat} {u : Gt.Use} (h : FineU c u) (a : List UInt8) : (lineS c a u).length ≤ a.length + 4000 := by
 have h1 := fold_len h.duty (a ++ headS u ++ [10])
 have h2 := headS_len h
 have h3 := h.num
 unfold lineS
 simp only [List.length_append, List.length_cons, List.length_nil] at h1
 have : (dutS c u).length * 63 ≤ 50 * 63 := Nat.mul_le_mul_right _ h3
 omega
theorem L48_name (o : Orc Sx) {c : Cat} {u : Gt.Use} (h : FineU c u) : m48 o (Ex.mk 1 u.name false u.with_ []) = some (headS u, ()) := by
 have h1 := h.name; have h2 := h.wth
 have hlim : lim = 4294967296 := rfl
 unfold m48 headS sWith
 simp only [beq_self_eq_true, br_true, br_false, cutM_inl]
 cases hw : (u.with_ != []) with
 | false => simp [br_false]
 | true => simp only [br_true, cond_true]; rw [cat?_ok (by simp; omega), ob_some_eq, cat?_ok (by simp; omega), ob_some_eq]
theorem L28 {n : Nat} (hn : 7 ≤ n) {c : Cat} (hc : SmallC c) (l : List Gt.Use) : m28 (orcN n) c l = some (bif listF c l != 0 then ([], listF c l, ()) else (noticeS c l, 0, ())) := by
 obtain ⟨n, rfl⟩ : ∃ k, n = k + 1 := ⟨n - 1, by omega⟩
 have hlim : lim = 4294967296 := rfl
 unfold m28 noticeS
 rw [q63, L63 (by omega) hc]
 simp only [ob_some_eq]
 cases h : listF c l != 0 with
 | true => rfl
 | false =>
 have h0 : listF c l = 0 := by simpa using h
 have hll := (listF_zero h0).2.1
 simp only [br_false, cond_false]
 rw [show (([] : List UInt8), (0 : Int), ()) = ((fun (k : Nat) (a : List UInt8) => (a, (k : Int), ())) 0 []) from rfl]
 rw [loop_fold (fun (k : Nat) (a : List UInt8) => (a, (k : Int), ())) l (lineS c) (fun a => .inl (a, ())) (fun k a => a.length ≤ k * 4000) ?h1 ?h2 [] (by simp)]
 case h1 =>
  intro k hk a ha
  have hf := fine_of h0 (List.getElem_mem hk)
  have hp : part? l (k : Int) (((k + 1 : Nat)) : Int) = some [l[k]] := by
   rw [part?_nat (by omega) (by omega), show k + 1 - k = 1 by omega, List.drop_eq_getElem_cons hk]; rfl
  have hkn : Known' c [l[k]] := fun u hu => by
   rw [List.mem_singleton] at hu; subst hu
   exact known_of h0 _ (List.getElem_mem hk)
  have hh := headS_len hf
  have ha' : a.length ≤ 160000 := Nat.le_trans ha (by have : k * 4000 ≤ 40 * 4000 := Nat.mul_le_mul_right _ (by omega); omega)
  refine ⟨?_, by have := lineS_len hf a; omega⟩
  have hcat1 : cat? (headS l[k]) [10] = some (headS l[k] ++ [10]) := cat?_ok (by simp; omega)
  have hcat2 : cat? a (headS l[k] ++ [10]) = some (a ++ headS l[k] ++ [10]) := by rw [cat?_ok (by simp; omega)]; simp
  simp only [len_lt, hk, decide_true, br_true, at?_get hk, ob_some_eq, q48, L48_name (orcN n) hf, hcat1, hcat2, wrap_succ hk (by omega : l.length ≤ 9223372036854775807), hp, q64, L64 (by omega : 2 ≤ n) hc (by simp : [l[k]].length ≤ 40) hkn, obl_one hf]
  rw [show (a ++ headS l[k] ++ [10], (0 : Int), ()) = ((fun (j : Nat) (b : List UInt8) => (b, (j : Int), ())) 0 (a ++ headS l[k] ++ [10])) from rfl]
  rw [loop_fold (fun (j : Nat) (b : List UInt8) => (b, (j : Int), ())) (dutS c l[k]) (fun a s => a ++ dutyS s) (fun a => .inl (a, ())) (fun j b => b.length ≤ 170000 + j * 63) ?g1 ?g2 _ (by simp; omega)]
  case g1 =>
   intro j hj b hb
   have hd := hf.duty _ (List.getElem_mem hj)
   have hnum := hf.num
   have c1 : cat? ([32, 32] : List UInt8) (dutS c l[k])[j] = some ([32, 32] ++ (dutS c l[k])[j]) := cat?_ok (by simp; omega)
   have c2 : cat? (([32, 32] : List UInt8) ++ (dutS c l[k])[j]) [10] = some (dutyS (dutS c l[k])[j]) := cat?_ok (by simp; omega)
   have c3 : cat? b (dutyS (dutS c l[k])[j]) = some (b ++ dutyS (dutS c l[k])[j]) := cat?_ok (by simp [dutyS]; omega)
   simp only [len_lt, hj, decide_true, br_true, at?_get hj, ob_some_eq, c1, c2, c3, wrap_succ hj (by omega : (dutS c l[k]).length ≤ 9223372036854775807)]
   exact ⟨trivial, by simp [dutyS]; omega⟩
  case g2 => intro b _; simp [len, br_false]
  rw [cutM_inl]
  rfl
 case h2 => intro a _; simp [len, br_false]
 rfl
end Pe.Tryz
end
section
/- The law of obligations in plain, last part. -/
set_option maxRecDepth 100000
namespace Pe.Tryz
open Go Go.Proofs Pe LicSpec

theorem strOf_bytes (s : List UInt8) : strOf (bytesOf s) = s := by simp [strOf, bytesOf, Function.comp_def]
theorem str?_bytes (s : List UInt8) : str? (bytesOf s) = some s := by
 unfold str?
 have : ((bytesOf s).all fun n => decide (0 ≤ n) && decide (n < 256)) = true := by
  rw [List.all_eq_true]
  intro x hx
  simp only [bytesOf, List.mem_map] at hx
  obtain ⟨c, _, rfl⟩ := hx
  have := c.toNat_lt
  simp; omega
 rw [this, strOf_bytes]; rfl
theorem bytes_cat {a b : List UInt8} (h : a.length + b.length ≤ lim) : cat? (bytesOf a) (bytesOf b) = some (bytesOf (a ++ b)) := by
 rw [cat?_ok (by simpa [bytesOf] using h)]
 simp [bytesOf]
theorem L27 {n : Nat} (hn : 7 ≤ n) {c : Cat} (hc : SmallC c) (l : List Gt.Use) : m27 (orcN n) c l = some (bif listF c l != 0 then ([], listF c l, ()) else (noticeS c l, 0, ())) := by
 obtain ⟨n, rfl⟩ : ∃ k, n = k + 1 := ⟨n - 1, by omega⟩
 have hlim : lim = 4294967296 := rfl
 unfold m27 noticeS
 rw [q61, L61 (by omega) hc]
 simp only [ob_some_eq]
 cases h : listF c l != 0 with
 | true => rfl
 | false =>
 have h0 : listF c l = 0 := by simpa using h
 have hll := (listF_zero h0).2.1
 simp only [br_false, cond_false]
 rw [show ((0 : Int), ([] : List Int), ()) = ((fun (k : Nat) (a : List UInt8) => ((k : Int), bytesOf a, ())) 0 []) from rfl]
 rw [loop_fold (fun (k : Nat) (a : List UInt8) => ((k : Int), bytesOf a, ())) l (lineS c) (fun a => .inl (bytesOf a, ())) (fun k a => a.length ≤ k * 4000) ?h1 ?h2 [] (by simp)]
 case h1 =>
  intro k hk a ha
  have hf := fine_of h0 (List.getElem_mem hk)
  have hn1 := hf.name
  have hn2 := hf.wth
  have hh := headS_len hf
  have ha' : a.length ≤ 160000 := Nat.le_trans ha (by have : k * 4000 ≤ 40 * 4000 := Nat.mul_le_mul_right _ (by omega); omega)
  refine ⟨?_, by have := lineS_len hf a; omega⟩
  have c1 : cat? (bytesOf a) (bytesOf l[k].name) = some (bytesOf (a ++ l[k].name)) := bytes_cat (by omega)
  have c2 : cat? ([32, 87, 73, 84, 72, 32] : List UInt8) l[k].with_ = some (sWith ++ l[k].with_) := cat?_ok (by simp; omega)
  have c3 : cat? (bytesOf (a ++ l[k].name)) (bytesOf (sWith ++ l[k].with_)) = some (bytesOf (a ++ l[k].name ++ (sWith ++ l[k].with_))) := bytes_cat (by simp [sWith]; omega)
  have c4 : cat? (bytesOf (a ++ headS l[k])) (bytesOf [10]) = some (bytesOf (a ++ headS l[k] ++ [10])) := bytes_cat (by simp; omega)
  simp only [len_lt, hk, decide_true, br_true, at?_get hk, ob_some_eq, c1, c2, c3, wrap_succ hk (by omega : l.length ≤ 9223372036854775807), q68, L68 (by omega : 2 ≤ n) hc]
  have hif : br (l[k].with_ != []) (some (Sum.inl (bytesOf (a ++ l[k].name ++ (sWith ++ l[k].with_)), ()))) (some (Sum.inl (bytesOf (a ++ l[k].name), ()))) = (some (Sum.inl (bytesOf (a ++ headS l[k]), ())) : Option ((List Int × Unit) ⊕ ((List Int × Unit) ⊕ ((Int × List Int × Unit) ⊕ ((List Int × Unit) ⊕ (List UInt8 × Int × Unit)))))) := by
   unfold headS
   cases l[k].with_ != [] <;> simp [br_true, br_false]
  rw [hif, cutM_inl, c4, ob_some_eq]
  rw [show ((0 : Int), bytesOf (a ++ headS l[k] ++ [10]), ()) = ((fun (j : Nat) (b : List UInt8) => ((j : Int), bytesOf b, ())) 0 (a ++ headS l[k] ++ [10])) from rfl]
  rw [loop_fold (fun (j : Nat) (b : List UInt8) => ((j : Int), bytesOf b, ())) (dutS c l[k]) (fun a s => a ++ dutyS s) (fun a => .inl (bytesOf a, ())) (fun j b => b.length ≤ 170000 + j * 63) ?g1 ?g2 _ (by simp; omega)]
  case g1 =>
   intro j hj b hb
   have hd := hf.duty _ (List.getElem_mem hj)
   have hnum := hf.num
   have c1 : cat? ([32, 32] : List UInt8) (dutS c l[k])[j] = some ([32, 32] ++ (dutS c l[k])[j]) := cat?_ok (by simp; omega)
   have c2 : cat? (([32, 32] : List UInt8) ++ (dutS c l[k])[j]) [10] = some (dutyS (dutS c l[k])[j]) := cat?_ok (by simp; omega)
   have c3 : cat? (bytesOf b) (bytesOf (dutyS (dutS c l[k])[j])) = some (bytesOf (b ++ dutyS (dutS c l[k])[j])) := bytes_cat (by simp [dutyS]; omega)
   simp only [len_lt, hj, decide_true, br_true, at?_get hj, ob_some_eq, c1, c2, c3, wrap_succ hj (by omega : (dutS c l[k]).length ≤ 9223372036854775807)]
   exact ⟨trivial, by simp [dutyS]; omega⟩
  case g2 => intro b _; simp [len, br_false]
  rw [cutM_inl]
  rfl
 case h2 => intro a _; simp [len, br_false]
 rw [cutM_inl, str?_bytes]
 rfl

theorem L29 (o : Orc Sx) {l : List Gt.A2_string} (hl : l.length ≤ 2000000) : m29 o l l = some (true, ()) := by
 unfold m29
 rw [show ((len l) != (len l)) = false by simp, br_false]
 rw [loop_ff1 l.length (fun _ => 0) (fun _ => .inr (false, ())) (.inl ()) ?h1 ?h2]
 case h1 =>
  intro k hk _
  simp only [len_lt, hk, decide_true, br_true, at?_get hk, ob_some_eq, beq_self_eq_true, Bool.and_self, Bool.not_true, br_false, wrap_succ hk (by omega : l.length ≤ 9223372036854775807)]
  rfl
 case h2 => simp [len, br_false]
 have : ff (fun _ => (0 : Int)) l.length = 0 := by
  induction l.length with
  | zero => rfl
  | succ n ih => simp [ff, ih]
 simp [this, cutM_inl]
theorem oblS_num {c : Cat} {l : List Gt.Use} (h : listF c l = 0) : (oblS c l).length ≤ 2000 := by
 have key : ∀ (l : List Gt.Use), (∀ u ∈ l, FineU c u) → ∀ (a : List (List UInt8)), (l.foldl (fun a u => putAll a (dutS c u)) a).length ≤ a.length + l.length * 50 := by
  intro l
  induction l with
  | nil => intro _ a; simp
  | cons u r ih =>
    intro hf a
    have h1 := ih (fun x hx => hf x (by simp [hx])) (putAll a (dutS c u))
    have h2 := putAll_len (dutS c u) a
    have h3 := (hf u (by simp)).num
    simp only [List.foldl_cons, List.length_cons, Nat.add_mul, Nat.one_mul]
    omega
 have := key l (fun u hu => fine_of h hu) []
 have h4 : l.length * 50 ≤ 40 * 50 := Nat.mul_le_mul_right _ (listF_zero h).2.1
 unfold oblS
 simp only [List.length_nil] at this
 omega
/-- THE LAW of obligations. -/
theorem L4 {n : Nat} {c : Cat} (hc : SmallC c) (l : List Gt.Use) (hn : 300 ≤ n) : m4 (orcN n) c l = some (true, ()) := by
 obtain ⟨n, rfl⟩ : ∃ k, n = k + 1 := ⟨n - 1, by omega⟩
 unfold m4
 rw [q23, L23 (by omega) hc, q24, L24 (by omega) hc, q25, L25 (by omega) hc, q26, L26 (by omega) hc, q27, L27 (by omega) hc, q28, L28 (by omega) hc]
 have hcls := hc.cls
 cases h : listF c l != 0 with
 | true =>
   simp only [ob_some_eq, cond_true, beq_self_eq_true, br_true, q21, L21 (orcN n) (by simp : ([] : List (List UInt8)).length ≤ 1000000), q29, L29 (orcN n) (by simp : ([] : List Gt.A2_string).length ≤ 2000000), G22 (by omega : 231 ≤ n + 1)]
 | false =>
   have h0 : listF c l = 0 := by simpa using h
   have h1 := oblS_num h0
   have h2 : (clS c (oblS c l)).length ≤ 2000000 := Nat.le_trans (List.length_filterMap_le _ _) hcls
   simp only [ob_some_eq, cond_false, beq_self_eq_true, br_true, q21, L21 (orcN n) (by omega : (oblS c l).length ≤ 1000000), q29, L29 (orcN n) h2, G22 (by omega : 231 ≤ n + 1)]
end Pe.Tryz
end
