/- PROVED HERE: a part of the seat's proofs; see the text that holds the claim's theorem. -/
import Derived.Test.YtjhmblhgicjlfaaDoorPuG
section
/- One qualifier read by the reference's Read, and put into its place; Read of the reference. -/
set_option maxRecDepth 100000
namespace Pe.Tryd
open Go Go.Proofs Pe Pe.Told
abbrev T15 := Int × B × B × B × B × List Q × B × Unit
abbrev T12 := Bool × Bool × B × Int × Bool × B × B × B × B × List Q × B × Unit
abbrev T11 := Bool × B × Int × Bool × B × B × B × B × List Q × B × Unit
abbrev TR := Gt.Purl × Int × Int × Unit
noncomputable def rndF {R2 : Type} (r14 : (RR × Unit) × (Gt.Pair × Unit)) : T15 → Option (T15 ⊕ (T15 ⊕ R2)) := (fun t15 => (ob (br (decide (0 < t15.1)) (ob (idx? t15.2.2.2.2.2.1 (IntKind.i64.wrap (t15.1 - 1))) fun j16 => (ob (get? t15.2.2.2.2.2.1 j16) fun y17 => (some (!((Op.bytesLess (Gt.Pair.name y17) (Gt.Pair.name r14.2.1)) || ((Gt.Pair.name y17) == (Gt.Pair.name r14.2.1))))))) (some false)) fun b18 => (br b18 (some (.inl ((IntKind.i64.wrap (t15.1 - 1)), t15.2.1, t15.2.2.1, t15.2.2.2.1, t15.2.2.2.2.1, t15.2.2.2.2.2.1, t15.2.2.2.2.2.2.1, ()))) (some (.inr (.inl (t15.1, t15.2.1, t15.2.2.1, t15.2.2.2.1, t15.2.2.2.2.1, t15.2.2.2.2.2.1, t15.2.2.2.2.2.2.1, ())))))))
noncomputable def rnd (orc : Orc Sx) (t12 : T12) (r13 : (RR × Unit) × (Bool × Unit)) : Option (T12 ⊕ (T11 ⊕ TR)) := (cutM (σ := Bool × List UInt8 × Int × Bool × List UInt8 × List UInt8 × List UInt8 × List UInt8 × List (Gt.Pair) × List UInt8 × Unit) (R := _) (oc (α := ((Gt.R2r × Unit) × (Gt.Pair × Unit))) (β := Unit) (orc.e 48 [.ptr 0 0] [69] [(.st 5)] ((r13.1.1, ()) : Gt.R2r × Unit) [(.st 3)] [] 0) (fun r14 => (cutM (σ := Int × List UInt8 × List UInt8 × List UInt8 × List UInt8 × List (Gt.Pair) × List UInt8 × Unit) (R := _) (loopM (σ := Int × List UInt8 × List UInt8 × List UInt8 × List UInt8 × List (Gt.Pair) × List UInt8 × Unit) (R := _) (fun t15 => (ob (br (decide (0 < t15.1)) (ob (idx? t15.2.2.2.2.2.1 (IntKind.i64.wrap (t15.1 - 1))) fun j16 => (ob (get? t15.2.2.2.2.2.1 j16) fun y17 => (some (!((Op.bytesLess (Gt.Pair.name y17) (Gt.Pair.name r14.2.1)) || ((Gt.Pair.name y17) == (Gt.Pair.name r14.2.1))))))) (some false)) fun b18 => (br b18 (some (.inl ((IntKind.i64.wrap (t15.1 - 1)), t15.2.1, t15.2.2.1, t15.2.2.2.1, t15.2.2.2.2.1, t15.2.2.2.2.2.1, t15.2.2.2.2.2.2.1, ()))) (some (.inr (.inl (t15.1, t15.2.1, t15.2.2.1, t15.2.2.2.1, t15.2.2.2.2.1, t15.2.2.2.2.2.1, t15.2.2.2.2.2.2.1, ()))))))) ((len t12.2.2.2.2.2.2.2.2.2.1), t12.2.2.2.2.2.1, t12.2.2.2.2.2.2.1, t12.2.2.2.2.2.2.2.1, t12.2.2.2.2.2.2.2.2.1, t12.2.2.2.2.2.2.2.2.2.1, t12.2.2.2.2.2.2.2.2.2.2.1, ())) fun t19 => (ob (br t12.1 (some true) (ob (br (decide (0 < t19.1)) (ob (idx? t19.2.2.2.2.2.1 (IntKind.i64.wrap (t19.1 - 1))) fun j20 => (ob (get? t19.2.2.2.2.2.1 j20) fun y21 => (some ((Gt.Pair.name y21) == (Gt.Pair.name r14.2.1))))) (some false)) fun b22 => (some b22))) fun b23 => (ob (cat? t19.2.2.2.2.2.1 [r14.2.1]) fun l24 => (cutM (σ := List UInt8 × List UInt8 × List UInt8 × List UInt8 × List (Gt.Pair) × List UInt8 × Unit) (R := _) (same (same (same (ob (tail? l24 (IntKind.i64.wrap (t19.1 + 1))) fun i25 => (ob (tail? l24 t19.1) fun i26 => (bif (Nat.ble i25 (List.length l24) && Nat.ble i26 (List.length l24)) then (some (.inl (t19.2.1, t19.2.2.1, t19.2.2.2.1, t19.2.2.2.2.1, (mov l24 i25 i26), t19.2.2.2.2.2.2.1, ()))) else none))) (same (ob (tail? l24 (IntKind.i64.wrap (t19.1 + 1))) fun i27 => (ob (tail? l24 t19.1) fun i28 => (bif (Nat.ble i27 (List.length l24) && Nat.ble i28 (List.length l24)) then (some (.inl (t19.2.1, t19.2.2.1, t19.2.2.2.1, t19.2.2.2.2.1, (mov l24 i27 i28), t19.2.2.2.2.2.2.1, ()))) else none))) (ob (tail? l24 t19.1) fun i29 => (ob (tail? l24 (IntKind.i64.wrap (t19.1 + 1))) fun i30 => (bif (Nat.ble i30 (List.length l24) && Nat.ble i29 (List.length l24)) then (some (.inl (t19.2.1, t19.2.2.1, t19.2.2.2.1, t19.2.2.2.2.1, (mov l24 i30 i29), t19.2.2.2.2.2.2.1, ()))) else none))))) (same (same (ob (tail? l24 (IntKind.i64.wrap (t19.1 + 1))) fun i31 => (ob (tail? l24 t19.1) fun i32 => (bif (Nat.ble i31 (List.length l24) && Nat.ble i32 (List.length l24)) then (some (.inl (t19.2.1, t19.2.2.1, t19.2.2.2.1, t19.2.2.2.2.1, (mov l24 i31 i32), t19.2.2.2.2.2.2.1, ()))) else none))) (ob (tail? l24 t19.1) fun i33 => (ob (tail? l24 (IntKind.i64.wrap (t19.1 + 1))) fun i34 => (bif (Nat.ble i34 (List.length l24) && Nat.ble i33 (List.length l24)) then (some (.inl (t19.2.1, t19.2.2.1, t19.2.2.2.1, t19.2.2.2.2.1, (mov l24 i34 i33), t19.2.2.2.2.2.2.1, ()))) else none)))) (ob (tail? l24 t19.1) fun i35 => (ob (tail? l24 (IntKind.i64.wrap (t19.1 + 1))) fun i36 => (bif (Nat.ble i36 (List.length l24) && Nat.ble i35 (List.length l24)) then (some (.inl (t19.2.1, t19.2.2.1, t19.2.2.2.1, t19.2.2.2.2.1, (mov l24 i36 i35), t19.2.2.2.2.2.2.1, ()))) else none))))) (same (same (same (ob (tail? l24 (IntKind.i64.wrap (t19.1 + 1))) fun i37 => (ob (tail? l24 t19.1) fun i38 => (bif (Nat.ble i37 (List.length l24) && Nat.ble i38 (List.length l24)) then (some (.inl (t19.2.1, t19.2.2.1, t19.2.2.2.1, t19.2.2.2.2.1, (mov l24 i37 i38), t19.2.2.2.2.2.2.1, ()))) else none))) (same (ob (tail? l24 (IntKind.i64.wrap (t19.1 + 1))) fun i39 => (ob (tail? l24 t19.1) fun i40 => (bif (Nat.ble i39 (List.length l24) && Nat.ble i40 (List.length l24)) then (some (.inl (t19.2.1, t19.2.2.1, t19.2.2.2.1, t19.2.2.2.2.1, (mov l24 i39 i40), t19.2.2.2.2.2.2.1, ()))) else none))) (ob (tail? l24 t19.1) fun i41 => (ob (tail? l24 (IntKind.i64.wrap (t19.1 + 1))) fun i42 => (bif (Nat.ble i42 (List.length l24) && Nat.ble i41 (List.length l24)) then (some (.inl (t19.2.1, t19.2.2.1, t19.2.2.2.1, t19.2.2.2.2.1, (mov l24 i42 i41), t19.2.2.2.2.2.2.1, ()))) else none))))) (same (same (ob (tail? l24 (IntKind.i64.wrap (t19.1 + 1))) fun i43 => (ob (tail? l24 t19.1) fun i44 => (bif (Nat.ble i43 (List.length l24) && Nat.ble i44 (List.length l24)) then (some (.inl (t19.2.1, t19.2.2.1, t19.2.2.2.1, t19.2.2.2.2.1, (mov l24 i43 i44), t19.2.2.2.2.2.2.1, ()))) else none))) (ob (tail? l24 t19.1) fun i45 => (ob (tail? l24 (IntKind.i64.wrap (t19.1 + 1))) fun i46 => (bif (Nat.ble i46 (List.length l24) && Nat.ble i45 (List.length l24)) then (some (.inl (t19.2.1, t19.2.2.1, t19.2.2.2.1, t19.2.2.2.2.1, (mov l24 i46 i45), t19.2.2.2.2.2.2.1, ()))) else none)))) (ob (tail? l24 t19.1) fun i47 => (ob (tail? l24 (IntKind.i64.wrap (t19.1 + 1))) fun i48 => (bif (Nat.ble i48 (List.length l24) && Nat.ble i47 (List.length l24)) then (some (.inl (t19.2.1, t19.2.2.1, t19.2.2.2.1, t19.2.2.2.2.1, (mov l24 i48 i47), t19.2.2.2.2.2.2.1, ()))) else none))))) (same (same (same (ob (tail? l24 (IntKind.i64.wrap (t19.1 + 1))) fun i49 => (ob (tail? l24 t19.1) fun i50 => (bif (Nat.ble i49 (List.length l24) && Nat.ble i50 (List.length l24)) then (some (.inl (t19.2.1, t19.2.2.1, t19.2.2.2.1, t19.2.2.2.2.1, (mov l24 i49 i50), t19.2.2.2.2.2.2.1, ()))) else none))) (ob (tail? l24 t19.1) fun i51 => (ob (tail? l24 (IntKind.i64.wrap (t19.1 + 1))) fun i52 => (bif (Nat.ble i52 (List.length l24) && Nat.ble i51 (List.length l24)) then (some (.inl (t19.2.1, t19.2.2.1, t19.2.2.2.1, t19.2.2.2.2.1, (mov l24 i52 i51), t19.2.2.2.2.2.2.1, ()))) else none)))) (ob (tail? l24 t19.1) fun i53 => (ob (tail? l24 (IntKind.i64.wrap (t19.1 + 1))) fun i54 => (bif (Nat.ble i54 (List.length l24) && Nat.ble i53 (List.length l24)) then (some (.inl (t19.2.1, t19.2.2.1, t19.2.2.2.1, t19.2.2.2.2.1, (mov l24 i54 i53), t19.2.2.2.2.2.2.1, ()))) else none)))) (same (same (same (ob (tail? l24 (IntKind.i64.wrap (t19.1 + 1))) fun i55 => (ob (tail? l24 t19.1) fun i56 => (bif (Nat.ble i55 (List.length l24) && Nat.ble i56 (List.length l24)) then (some (.inl (t19.2.1, t19.2.2.1, t19.2.2.2.1, t19.2.2.2.2.1, (mov l24 i55 i56), t19.2.2.2.2.2.2.1, ()))) else none))) (ob (tail? l24 t19.1) fun i57 => (ob (tail? l24 (IntKind.i64.wrap (t19.1 + 1))) fun i58 => (bif (Nat.ble i58 (List.length l24) && Nat.ble i57 (List.length l24)) then (some (.inl (t19.2.1, t19.2.2.1, t19.2.2.2.1, t19.2.2.2.2.1, (mov l24 i58 i57), t19.2.2.2.2.2.2.1, ()))) else none)))) (ob (tail? l24 t19.1) fun i59 => (ob (tail? l24 (IntKind.i64.wrap (t19.1 + 1))) fun i60 => (bif (Nat.ble i60 (List.length l24) && Nat.ble i59 (List.length l24)) then (some (.inl (t19.2.1, t19.2.2.1, t19.2.2.2.1, t19.2.2.2.2.1, (mov l24 i60 i59), t19.2.2.2.2.2.2.1, ()))) else none)))) (ob (tail? l24 t19.1) fun i61 => (same (ob (tail? l24 (IntKind.i64.wrap (t19.1 + 1))) fun i62 => (bif (Nat.ble i62 (List.length l24) && Nat.ble i61 (List.length l24)) then (some (.inl (t19.2.1, t19.2.2.1, t19.2.2.2.1, t19.2.2.2.2.1, (mov l24 i62 i61), t19.2.2.2.2.2.2.1, ()))) else none)) (ob (tail? l24 (IntKind.i64.wrap (t19.1 + 1))) fun i63 => (bif (Nat.ble i63 (List.length l24) && Nat.ble i61 (List.length l24)) then (some (.inl (t19.2.1, t19.2.2.1, t19.2.2.2.1, t19.2.2.2.2.1, (mov l24 i63 i61), t19.2.2.2.2.2.2.1, ()))) else none)))))))) fun t64 => (ob (idx? t64.2.2.2.2.1 t19.1) fun j65 => (ob (get? t64.2.2.2.2.1 j65) fun _ => (some (.inl (b23, (Gt.R2r.s r14.1.1), (Gt.R2r.at_ r14.1.1), (Gt.R2r.bad r14.1.1), t64.1, t64.2.1, t64.2.2.1, t64.2.2.2.1, (t64.2.2.2.2.1.set j65 r14.2.1), t64.2.2.2.2.2.1, ())))))))))) fun _ => none) fun t68 => (some (.inl (t68.1, false, t68.2.1, t68.2.2.1, t68.2.2.2.1, t68.2.2.2.2.1, t68.2.2.2.2.2.1, t68.2.2.2.2.2.2.1, t68.2.2.2.2.2.2.2.1, t68.2.2.2.2.2.2.2.2.1, t68.2.2.2.2.2.2.2.2.2.1, ()))))
noncomputable def rlF (orc : Orc Sx) : T12 → Option (T12 ⊕ (T11 ⊕ TR)) := (fun t12 => (br t12.2.1 (oc (α := ((Gt.R2r × Unit) × (Bool × Unit))) (β := Unit) (orc.e 46 [.ptr 0 0, .int .u8 63] [69] [(.st 5)] (((Gt.R2r.mk t12.2.2.1 t12.2.2.2.1 t12.2.2.2.2.1), ()) : Gt.R2r × Unit) [.bool] [] 0) (fun r13 => (br r13.2.1 (rnd orc t12 r13) (br (!t12.2.1) (oc (α := ((Gt.R2r × Unit) × (Bool × Unit))) (β := Unit) (orc.e 46 [.ptr 0 0, .int .u8 38] [69] [(.st 5)] ((r13.1.1, ()) : Gt.R2r × Unit) [.bool] [] 0) (fun r69 => (br r69.2.1 (rnd orc t12 r69) (some (.inr (.inl (t12.1, (Gt.R2r.s r69.1.1), (Gt.R2r.at_ r69.1.1), (Gt.R2r.bad r69.1.1), t12.2.2.2.2.2.1, t12.2.2.2.2.2.2.1, t12.2.2.2.2.2.2.2.1, t12.2.2.2.2.2.2.2.2.1, t12.2.2.2.2.2.2.2.2.2.1, t12.2.2.2.2.2.2.2.2.2.2.1, ())))))) fun _ => none) (some (.inr (.inl (t12.1, (Gt.R2r.s r13.1.1), (Gt.R2r.at_ r13.1.1), (Gt.R2r.bad r13.1.1), t12.2.2.2.2.2.1, t12.2.2.2.2.2.2.1, t12.2.2.2.2.2.2.2.1, t12.2.2.2.2.2.2.2.2.1, t12.2.2.2.2.2.2.2.2.2.1, t12.2.2.2.2.2.2.2.2.2.2.1, ()))))))) fun _ => none) (br (!t12.2.1) (oc (α := ((Gt.R2r × Unit) × (Bool × Unit))) (β := Unit) (orc.e 46 [.ptr 0 0, .int .u8 38] [69] [(.st 5)] (((Gt.R2r.mk t12.2.2.1 t12.2.2.2.1 t12.2.2.2.2.1), ()) : Gt.R2r × Unit) [.bool] [] 0) (fun r127 => (br r127.2.1 (rnd orc t12 r127) (some (.inr (.inl (t12.1, (Gt.R2r.s r127.1.1), (Gt.R2r.at_ r127.1.1), (Gt.R2r.bad r127.1.1), t12.2.2.2.2.2.1, t12.2.2.2.2.2.2.1, t12.2.2.2.2.2.2.2.1, t12.2.2.2.2.2.2.2.2.1, t12.2.2.2.2.2.2.2.2.2.1, t12.2.2.2.2.2.2.2.2.2.2.1, ())))))) fun _ => none) (some (.inr (.inl (t12.1, t12.2.2.1, t12.2.2.2.1, t12.2.2.2.2.1, t12.2.2.2.2.2.1, t12.2.2.2.2.2.2.1, t12.2.2.2.2.2.2.2.1, t12.2.2.2.2.2.2.2.2.1, t12.2.2.2.2.2.2.2.2.2.1, t12.2.2.2.2.2.2.2.2.2.2.1, ())))))))
theorem set_mid {α : Type} (x z : α) (S : List α) : ∀ A : List α, (A ++ x :: S).set A.length z = A ++ z :: S
 | [] => rfl
 | a :: A => by simp
theorem last_eq {acc A S : List Q} {z : Q} {tw : Bool} (hA : acc = A ++ S) (hn : acc.length ≤ 4000) : br tw (some true) (ob (br (decide (0 < ((A.length : Nat) : Int))) (ob (idx? acc (IntKind.i64.wrap (((A.length : Nat) : Int) - 1))) fun j => (ob (get? acc j) fun y => (some ((Gt.Pair.name y) == (Gt.Pair.name z))))) (some false)) fun b => (some b)) = some (tw || lastEq A z) := by
 cases tw with
 | true => rfl
 | false =>
   rcases List.eq_nil_or_concat A with rfl | ⟨A', p, rfl⟩
   ·rfl
   ·rw [List.concat_eq_append] at *
    have hl : (A' ++ [p]).length = A'.length + 1 := by simp
    have hk : A'.length < acc.length := by rw [hA]; simp
    have hg : acc[A'.length]? = some p := by rw [hA]; simp
    have w : IntKind.i64.wrap (((A'.length + 1 : Nat) : Int) - 1) = ((A'.length : Nat) : Int) := by rw [wrap_id (by omega) (by omega)]; omega
    rw [hl, decide_eq_true (show (0 : Int) < ((A'.length + 1 : Nat) : Int) by omega), w, br_false, br_true]
    simp only [idxN hk, ob_some_eq, get?, hg]
    simp [lastEq]
theorem rnd_ok (n : Nat) {s r : B} (hr : r <:+ s) (hs : s.length ≤ 3000) (tw fst : Bool) (s0 : B) (a0 : Int) (b0 bb : Bool) (k sp nm v sb : B) (acc : List Q) (hn : acc.length ≤ 4000) :
  ∃ z A S, acc = A ++ S ∧ (∀ x ∈ S, ltQ z x = true) ∧ (∀ p ∈ A.getLast?, ltQ z p = false) ∧
    rnd (orcN (n + 3)) (tw, fst, s0, a0, b0, k, sp, nm, v, acc, sb, ()) ((Gt.R2r.mk s ((P s r : Nat) : Int) false, ()), (bb, ())) = some (.inl (tw || lastEq A z, false, s, ((P s (fin (qualL r)) : Nat) : Int), failed (qualL r), k, sp, nm, v, A ++ z :: S, sb, ())) ∧ ((qualL r).2.2 = none → z = (qualL r).1) := by
 obtain ⟨z, hz, hz2, hf⟩ := G48 n hr hs
 have hL : ∃ A S, acc = A ++ S ∧ (∀ x ∈ S, ltQ z x = true) ∧ (∀ p ∈ A.getLast?, ltQ z p = false) ∧ loopM (rndF (R2 := T11 ⊕ (T12 ⊕ (T11 ⊕ TR))) ((Gt.R2r.mk s ((P s (fin (qualL r)) : Nat) : Int) (failed (qualL r)), ()), (z, ()))) (((acc.length : Nat) : Int), k, sp, nm, v, acc, sb, ()) = some (.inl (((A.length : Nat) : Int), k, sp, nm, v, acc, sb, ())) := by
  refine at_loop (σ := T15) (R := T15 ⊕ (T11 ⊕ (T12 ⊕ (T11 ⊕ TR)))) (fun j => (((j : Nat) : Int), k, sp, nm, v, acc, sb, ())) (fun j => .inl (((j : Nat) : Int), k, sp, nm, v, acc, sb, ())) acc z ?_ rfl acc.length acc [] rfl (by simp) (by simp)
  intro Pr p S hS
  unfold rndF
  dsimp only
  have hk : Pr.length < acc.length := by rw [hS]; simp
  have hg : acc[Pr.length]? = some p := by rw [hS]; simp
  have w : IntKind.i64.wrap (((Pr.length + 1 : Nat) : Int) - 1) = ((Pr.length : Nat) : Int) := by rw [wrap_id (by omega) (by omega)]; omega
  rw [decide_eq_true (show (0 : Int) < ((Pr.length + 1 : Nat) : Int) by omega), br_true, w]
  simp only [idxN hk, ob_some_eq, get?, hg, gt_lt]
  cases ltQ z p <;> rfl
 obtain ⟨A, S, hA, hS, hP, hl⟩ := hL
 refine ⟨z, A, S, hA, hS, hP, ?_, hz2⟩
 unfold rnd
 refine cut_of (r := .inl (tw || lastEq A z, s, ((P s (fin (qualL r)) : Nat) : Int), failed (qualL r), k, sp, nm, v, A ++ z :: S, sb, ())) ?_ rfl
 rw [hz, oc_inl]
 refine cut_of hl ?_
 simp only [cutM_inl]
 refine (congrArg (fun x => ob x _) (last_eq hA hn)).trans ?_
 have hAl : A.length ≤ acc.length := by rw [hA]; simp
 have hal : (acc ++ [z]).length = acc.length + 1 := by simp
 have t1 : tail? (acc ++ [z]) (IntKind.i64.wrap (((A.length : Nat) : Int) + 1)) = some (A.length + 1) := by
  rw [wrap_id (by omega) (by omega)]
  show tail? _ ((A.length + 1 : Nat) : Int) = _
  exact tail_ok (by omega) (by omega)
 have t2 : tail? (acc ++ [z]) ((A.length : Nat) : Int) = some A.length := tail_ok (by omega) (by omega)
 obtain ⟨x, hx⟩ := mov_ins A S z
 rw [← hA] at hx
 have b1 : Nat.ble (A.length + 1) (List.length (acc ++ [z])) = true := ble_ok (by omega)
 have b2 : Nat.ble A.length (List.length (acc ++ [z])) = true := ble_ok (by omega)
 rw [ob_some_eq, cat?_ok (by simp [lim] <;> omega), ob_some_eq]
 refine cut_of (r := .inl (k, sp, nm, v, A ++ x :: S, sb, ())) ?_ ?_
 ·simp only [t1, t2, ob_some_eq, hx, b1, b2, Bool.and_self, cond_true, same_one]
 ·simp only [cutM_inl]
  have hk : A.length < (A ++ x :: S).length := by simp
  have hg : (A ++ x :: S)[A.length]? = some x := by simp
  simp only [idxN hk, ob_some_eq, get?, hg, set_mid]
theorem rl_ok (n : Nat) {s : B} (hs : s.length ≤ 3000) (k sp nm v sb : B) {r2 r3 : B} {e2 e3 : Option B} {qs : List Q} (hr2 : r2 <:+ s) (hQ : qualsE r2 e2 = (qs, r3, e3)) :
  ∃ tw acc, loopM (rlF (orcN (n + 3))) (false, true, s, ((P s (eP r2 e2) : Nat) : Int), e2.isSome, k, sp, nm, v, [], sb, ()) = some (.inl (tw, s, ((P s (eP r3 e3) : Nat) : Int), e3.isSome, k, sp, nm, v, acc, sb, ())) ∧ (e3 = none → Srt ltQ acc ∧ acc.Perm qs ∧ tw = dupQ qs) := by
 have hb : ∀ tw fst acc l, rlF (orcN (n + 3)) (tw, fst, s, ((P s l : Nat) : Int), true, k, sp, nm, v, acc, sb, ()) = some (.inr (.inl (tw, s, ((P s l : Nat) : Int), true, k, sp, nm, v, acc, sb, ()))) := by
  intro tw fst acc l
  unfold rlF
  dsimp only
  cases fst with
  | true => rw [br_true, G46b, oc_inl]; rfl
  | false =>
    rw [br_false]
    simp only [Bool.not_false, br_true]
    rw [G46b, oc_inl]; rfl
 cases e2 with
 | some x =>
   cases hQ
   exact ⟨false, [], loopM_end (hb _ _ _ _), fun h => by cases h⟩
 | none =>
   have hQ' : qualsGo (r2.length + 1) 63 r2 = (qs, r3, e3) := hQ
   have hno : ∀ tw fst acc l, l <:+ s → (isE (bif fst then 63 else 38) l false).1 = false → rlF (orcN (n + 3)) (tw, fst, s, ((P s l : Nat) : Int), false, k, sp, nm, v, acc, sb, ()) = some (.inr (.inl (tw, s, ((P s l : Nat) : Int), false, k, sp, nm, v, acc, sb, ()))) := by
    intro tw fst acc l hl h
    have h2 : (isE (bif fst then 63 else 38) l false).2 = l := by
     revert h
     cases fst <;> cases l with
     | nil => intro; rfl
     | cons c r => simp only [isE, rIs, cond_false, cond_true]; cases h : (c == _) <;> simp
    unfold rlF
    dsimp only
    cases fst with
    | true =>
      simp only [cond_true] at h h2
      rw [br_true, G46 (ci := 63) (n + 2) 63 rfl hl hs, oc_inl, h, h2]; rfl
    | false =>
      simp only [cond_false] at h h2
      rw [br_false]
      simp only [Bool.not_false, br_true]
      rw [G46 (ci := 38) (n + 2) 38 rfl hl hs, oc_inl, h, h2]; rfl
   obtain ⟨tw, acc, i1, i2⟩ := rquals_loop (f := rlF (orcN (n + 3))) (fun tw fst acc l b => (tw, fst, s, ((P s l : Nat) : Int), b, k, sp, nm, v, acc, sb, ())) (fun tw acc l b => .inl (tw, s, ((P s l : Nat) : Int), b, k, sp, nm, v, acc, sb, ())) s hb
    (fun tw fst acc => hno tw fst acc [] List.nil_suffix (by cases fst <;> rfl))
    (fun tw fst acc c r hl hc => hno tw fst acc (c :: r) hl (by simp only [isE, rIs, cond_false]; rw [hc]; rfl))
    (fun tw fst acc c r hl hn hc => by
     have hr := sfx_tail hl
     obtain ⟨z, A, S, g1, g2, g3, g4, g5⟩ := rnd_ok n hr hs tw fst s ((P s (c :: r) : Nat) : Int) false true k sp nm v sb acc (by omega)
     refine ⟨z, A, S, g1, g2, g3, ?_, g5⟩
     refine Eq.trans ?_ g4
     unfold rlF
     dsimp only
     cases fst with
     | true =>
       simp only [cond_true] at hc
       rw [br_true, G46 (ci := 63) (n + 2) 63 rfl hl hs, oc_inl]
       simp only [isE, rIs, cond_false, hc, cond_true, br_true]
     | false =>
       simp only [cond_false] at hc
       rw [br_false]
       simp only [Bool.not_false, br_true]
       rw [G46 (ci := 38) (n + 2) 38 rfl hl hs, oc_inl]
       simp only [isE, rIs, cond_false, hc, cond_true, br_true])
    (r2.length + 1) true [] r2 false [] (by omega) hr2 (by have := hr2.length_le; simp <;> omega) (by simp [Srt]) (List.Perm.refl _) rfl
   simp only [cond_true, hQ'] at i1 i2
   exact ⟨tw, acc, i1, fun h => by simpa using i2 h⟩
theorem takeV (n : Nat) {s r1 v r2 : B} {e1 e2 : Option B} (h : r1 <:+ s) (hs : s.length ≤ 3000) (hV : verE r1 e1 = (v, r2, e2)) :
  (@Eq (ERR (Bool × Unit)) ((orcN (n + 2)).e 46 [.ptr 0 0, .int .u8 64] [69] [(.st 5)] ((Gt.R2r.mk s ((P s (eP r1 e1) : Nat) : Int) e1.isSome, ()) : RR × Unit) [.bool] [] 0) (some (.inl ((Gt.R2r.mk s ((P s (eP r2 e2) : Nat) : Int) e2.isSome, ()), (false, ())))) ∧ (e2 = none → v = [])) ∨
  ∃ r v', @Eq (ERR (Bool × Unit)) ((orcN (n + 2)).e 46 [.ptr 0 0, .int .u8 64] [69] [(.st 5)] ((Gt.R2r.mk s ((P s (eP r1 e1) : Nat) : Int) e1.isSome, ()) : RR × Unit) [.bool] [] 0) (some (.inl ((Gt.R2r.mk s ((P s r : Nat) : Int) false, ()), (true, ())))) ∧
    @Eq (ERR (B × Unit)) ((orcN (n + 2)).e 47 [.ptr 0 0] [69] [(.st 5)] ((Gt.R2r.mk s ((P s r : Nat) : Int) false, ()) : RR × Unit) [.str] [] 0) (some (.inl ((Gt.R2r.mk s ((P s (eP r2 e2) : Nat) : Int) e2.isSome, ()), (v', ())))) ∧ (e2 = none → v' = v) := by
 cases e1 with
 | some x => cases hV; left; exact ⟨G46b (n + 1) 64, fun h => by cases h⟩
 | none =>
   have g := G46 (ci := 64) (b := false) (n + 1) 64 rfl h hs
   cases r1 with
   | nil => cases hV; left; exact ⟨g, fun _ => rfl⟩
   | cons c r =>
     have hV' : (bif c == 64 then partL r else ([], c :: r, none)) = (v, r2, e2) := hV
     simp only [isE, rIs, cond_false] at g
     cases hc : (c == 64) with
     | false => rw [hc] at hV' g; cases hV'; left; exact ⟨g, fun _ => rfl⟩
     | true =>
       rw [hc] at hV' g
       simp only [cond_true] at hV' g
       have g2 := G47 n (sfx_tail h) hs
       right
       refine ⟨r, rv r, g, ?_, ?_⟩
       ·refine g2.trans ?_
        rw [hV']
        cases e2 <;> rfl
       ·intro he
        subst he
        unfold rv
        rw [hV']; rfl
theorem takeS (n : Nat) {s r3 sb r4 : B} {e3 e4 : Option B} (h : r3 <:+ s) (hs : s.length ≤ 3000) (hS : subE r3 e3 = (sb, r4, e4)) :
  (@Eq (ERR (Bool × Unit)) ((orcN (n + 3)).e 46 [.ptr 0 0, .int .u8 35] [69] [(.st 5)] ((Gt.R2r.mk s ((P s (eP r3 e3) : Nat) : Int) e3.isSome, ()) : RR × Unit) [.bool] [] 0) (some (.inl ((Gt.R2r.mk s ((P s (eP r4 e4) : Nat) : Int) e4.isSome, ()), (false, ())))) ∧ (e4 = none → sb = [])) ∨
  ∃ r L, @Eq (ERR (Bool × Unit)) ((orcN (n + 3)).e 46 [.ptr 0 0, .int .u8 35] [69] [(.st 5)] ((Gt.R2r.mk s ((P s (eP r3 e3) : Nat) : Int) e3.isSome, ()) : RR × Unit) [.bool] [] 0) (some (.inl ((Gt.R2r.mk s ((P s r : Nat) : Int) false, ()), (true, ())))) ∧
    @Eq (ERR (List B × Unit)) ((orcN (n + 3)).e 44 [.ptr 0 0] [69] [(.st 5)] ((Gt.R2r.mk s ((P s r : Nat) : Int) false, ()) : RR × Unit) [(.sl .str)] [] 0) (some (.inl ((Gt.R2r.mk s ((P s (eP r4 e4) : Nat) : Int) e4.isSome, ()), (L, ())))) ∧ L.length ≤ 3001 ∧ (∀ x ∈ L, x.length ≤ 3000) ∧ (e4 = none → Lib.join L [47] = sb) := by
 cases e3 with
 | some x => cases hS; left; exact ⟨G46b (n + 2) 35, fun h => by cases h⟩
 | none =>
   have g := G46 (ci := 35) (b := false) (n + 2) 35 rfl h hs
   cases r3 with
   | nil => cases hS; left; exact ⟨g, fun _ => rfl⟩
   | cons c r =>
     have hS' : (bif c == 35 then (Lib.join (partsL r).1 [47], (partsL r).2) else ([], c :: r, none)) = (sb, r4, e4) := hS
     simp only [isE, rIs, cond_false] at g
     cases hc : (c == 35) with
     | false => rw [hc] at hS' g; cases hS'; left; exact ⟨g, fun _ => rfl⟩
     | true =>
       rw [hc] at hS' g
       simp only [cond_true] at hS' g
       rcases hP : partsL r with ⟨ps, y, z⟩
       obtain ⟨p1, p2, p3, p4, p5, p6, p7⟩ := pathE_ok hs (sfx_tail h) hP
       have g2 := G44E n (b := false) (sfx_tail h) hs
       rw [p1, p2] at g2
       rw [hP] at hS'
       cases hS'
       right
       exact ⟨r, _, g, g2, p5, p6, fun he => by rw [p3 he]⟩
/-- READ of the reference. -/
theorem L11 (n : Nat) (s : B) : @Eq (Option (Gt.Purl × Int × Int × Unit)) ((orcN (n + 27)).d 11 [.str s] [(.st 4), (.int .i64), (.int .i64)]) (some (readS s)) := by
 rw [q11]
 unfold m11 readS
 cases hd : decide (3000 < len s) with
 | true => rfl
 | false =>
   have hs : s.length ≤ 3000 := by have := of_decide_eq_false hd; unfold len at this; omega
   obtain ⟨k, g43, gk, gs⟩ := G43 (n + 24) hs
   simp only [br_false, cond_false]
   rw [g43, oc_inl]
   rcases hH : headL s with ⟨k0, r0, e0⟩
   rw [hH] at gk gs
   dsimp only
   cases e0 with
   | some e =>
     have hN : readN s = .inl e := by unfold readN; rw [hH]; rfl
     rw [hN]
     rw [show fin (k0, r0, some e) = e from rfl, show failed (k0, r0, some e) = true from rfl, G44b (n + 23), oc_inl]
     have j1 := L45 (n + 25) (l := []) (s := [47]) (by simp) (by simp [Lib.join])
     refine cut_of (r := .inl (k, [], [], [], [], [], ())) ?_ ?_
     ·dsimp only
      rw [show IntKind.i64.wrap (len ([[]] : List B) - 1) = ((0 : Nat) : Int) from rfl]
      rw [show at? ([[]] : List B) ((0 : Nat) : Int) = some [] from rfl, show part? ([[]] : List B) 0 ((0 : Nat) : Int) = some [] from rfl]
      simp only [ob_some_eq]
      rw [j1]; rfl
     simp only [cutM_inl]
     refine cut_of (r := .inl (s, ((P s e : Nat) : Int), true, k, [], [], [], [], [], ())) ?_ ?_
     ·rw [G46b, oc_inl]; rfl
     simp only [cutM_inl]
     refine cut_of (loopM_end (r := .inl (false, s, ((P s e : Nat) : Int), true, k, [], [], [], [], [], ())) ?_) ?_
     ·dsimp only
      rw [br_true, G46b, oc_inl]; rfl
     simp only [cutM_inl]
     refine cut_of (r := .inl (s, ((P s e : Nat) : Int), true, k, [], [], [], [], [], ())) ?_ ?_
     ·rw [G46b, oc_inl]; rfl
     simp only [cutM_inl, br_true, ob_some_eq, same_one]
   | none =>
     obtain rfl := gk rfl
     rw [show fin (k, r0, (none : Option B)) = r0 from rfl, show failed (k, r0, (none : Option B)) = false from rfl]
     have hr0 : r0 <:+ s := gs
     rcases hP : partsL r0 with ⟨ps, r1, e1⟩
     obtain ⟨p1, p2, p3, p4, p5, p6, hr1⟩ := pathE_ok hs hr0 hP
     have hr1' : r1 <:+ s := (parts_ok hs hr0 hP).2.2.2
     have g44 := G44E (n + 23) (b := false) hr0 hs
     rw [p1, p2] at g44
     rw [g44, oc_inl]
     dsimp only
     generalize (pathE r0 false).1 = L at p3 p4 p5 p6
     obtain ⟨w1, w2, w3⟩ := last_at p4 p5
     have hj : (Lib.join L.dropLast [47]).length ≤ 100000000 := join_ok (by rw [List.length_dropLast]; omega) (fun x hx => p6 x (List.dropLast_subset _ hx))
     have j1 := L45 (n + 25) (l := L.dropLast) (s := [47]) (by rw [List.length_dropLast]; omega) hj
     rcases hV : verE r1 e1 with ⟨v, r2, e2⟩
     rcases hQ : qualsE r2 e2 with ⟨qs, r3, e3⟩
     rcases hS : subE r3 e3 with ⟨sb, r4, e4⟩
     have hN := readN_E hH hP hV hQ hS
     have hr2 := verE_sfx hr1' hV
     obtain ⟨hr3, hql⟩ := qualsE_sfx hr2 hQ
     have hr4 := subE_sfx hr3 hS
     generalize hsp : Lib.join L.dropLast [47] = sp at j1 hj
     generalize hnm : L.getLastD [] = nm at w2
     refine cut_of (r := .inl (k, sp, nm, [], [], [], ())) (by simp only [w1, w2, w3, j1, ob_some_eq]) ?_
     simp only [cutM_inl]
     obtain ⟨v', hv, hcv⟩ : ∃ v', (e2 = none → v' = v) ∧ ∀ {R : Type} (K : B → Int → Bool → B → Option R),
       oc (α := ((RR × Unit) × (Bool × Unit))) (β := Unit) ((orcN (n + 26)).e 46 [.ptr 0 0, .int .u8 64] [69] [(.st 5)] ((Gt.R2r.mk s ((P s (eP r1 e1) : Nat) : Int) e1.isSome, ()) : RR × Unit) [.bool] [] 0) (fun r7 => br r7.2.1 (oc (α := ((RR × Unit) × (B × Unit))) (β := Unit) ((orcN (n + 26)).e 47 [.ptr 0 0] [69] [(.st 5)] ((r7.1.1, ()) : RR × Unit) [.str] [] 0) (fun r8 => K r8.1.1.s r8.1.1.at_ r8.1.1.bad r8.2.1) fun _ => none) (K r7.1.1.s r7.1.1.at_ r7.1.1.bad [])) (fun _ => none) = K s ((P s (eP r2 e2) : Nat) : Int) e2.isSome v' := by
      rcases takeV (n + 24) hr1' hs hV with ⟨a1, a2⟩ | ⟨r, v', a1, a2, a3⟩
      ·exact ⟨[], fun h => (a2 h).symm, fun K => by rw [a1, oc_inl]; rfl⟩
      ·exact ⟨v', a3, fun K => by rw [a1, oc_inl]; simp only [br_true]; rw [a2, oc_inl]⟩
     refine cut_of (hcv (R := (B × Int × Bool × B × B × B × B × List Q × B × Unit) ⊕ TR) (fun a b c d => some (.inl (a, b, c, k, sp, nm, d, [], [], ())))) ?_
     simp only [cutM_inl]
     obtain ⟨tw, acc, hl, hacc⟩ := rl_ok (n + 23) hs k sp nm v' [] hr2 hQ
     refine cut_of hl ?_
     simp only [cutM_inl]
     obtain ⟨sb', hsb, hcs⟩ : ∃ sb', (e4 = none → sb' = sb) ∧ ∀ {R : Type} (K : B → Int → Bool → B → Option R),
       oc (α := ((RR × Unit) × (Bool × Unit))) (β := Unit) ((orcN (n + 26)).e 46 [.ptr 0 0, .int .u8 35] [69] [(.st 5)] ((Gt.R2r.mk s ((P s (eP r3 e3) : Nat) : Int) e3.isSome, ()) : RR × Unit) [.bool] [] 0) (fun r7 => br r7.2.1 (oc (α := ((RR × Unit) × (List B × Unit))) (β := Unit) ((orcN (n + 26)).e 44 [.ptr 0 0] [69] [(.st 5)] ((r7.1.1, ()) : RR × Unit) [(.sl .str)] [] 0) (fun r8 => ob (α := B × Unit) ((orcN (n + 26)).d 45 [.sl .str r8.2.1, .str [47]] [.str]) fun r9 => K r8.1.1.s r8.1.1.at_ r8.1.1.bad r9.1) fun _ => none) (K r7.1.1.s r7.1.1.at_ r7.1.1.bad [])) (fun _ => none) = K s ((P s (eP r4 e4) : Nat) : Int) e4.isSome sb' := by
      rcases takeS (n + 23) hr3 hs hS with ⟨a1, a2⟩ | ⟨r, L2, a1, a2, a3, a4, a5⟩
      ·exact ⟨[], fun h => (a2 h).symm, fun K => by rw [a1, oc_inl]; rfl⟩
      ·exact ⟨_, a5, fun K => by rw [a1, oc_inl]; simp only [br_true]; rw [a2, oc_inl]; dsimp only; rw [L45 (n + 25) (by omega) (join_ok a3 a4)]; rfl⟩
     refine cut_of (hcs (R := (B × Int × Bool × B × B × B × B × List Q × B × Unit) ⊕ TR) (fun a b c d => some (.inl (a, b, c, k, sp, nm, v', acc, d, ())))) ?_
     simp only [cutM_inl]
     have hend : (br e4.isSome (some true) (ob (α := Bool × Unit) (some ((((P s (eP r4 e4) : Nat) : Int) == len s), ())) fun (r192 : Bool × Unit) => (some (!r192.1)))) = some (endE r4 e4).isSome := by
      cases e4 with
      | some x => rfl
      | none =>
        simp only [Option.isSome_none, br_false, ob_some_eq]
        rw [show eP r4 none = r4 from rfl, sfx_end hr4]
        cases r4 <;> rfl
     refine (congrArg (fun x => ob x _) hend).trans ?_
     rw [ob_some_eq, hN]
     cases he : endE r4 e4 with
     | some e =>
       have hep : eP r4 e4 = e := by
        unfold endE at he
        cases e4 with
        | some x => cases he; rfl
        | none => cases r4 with
          | nil => cases he
          | cons c t => cases he; rfl
       rw [hep]
       simp only [Option.isSome_some, br_true, same_one]
     | none =>
       obtain rfl : e4 = none := by
        cases e4 with
        | none => rfl
        | some x => cases he
       obtain rfl : e3 = none := by
        cases e3 with
        | none => rfl
        | some x => cases hS
       obtain rfl : e2 = none := by
        cases e2 with
        | none => rfl
        | some x => cases hQ
       obtain rfl : e1 = none := by
        cases e1 with
        | none => rfl
        | some x => cases hV
       obtain rfl := hv rfl
       obtain rfl := hsb rfl
       obtain rfl := p3 rfl
       obtain ⟨c1, c2, rfl⟩ := hacc rfl
       subst hsp hnm
       simp only [Option.isSome_none, br_false]
       unfold topS
       dsimp only
       have hal : acc.length ≤ 3000 := by rw [c2.length_eq]; omega
       cases hq : dupQ qs with
       | true => rfl
       | false =>
         have hn : (qs.map (·.name)).Nodup := by
          unfold dupQ at hq
          by_cases h : (qs.map (·.name)).Nodup
          ·exact h
          ·rw [decide_eq_false h] at hq; cases hq
         obtain rfl : acc = sortQ qs := sort_of c1 c2 hn
         simp only [br_false, cond_false]
         generalize hpp : srtP ⟨k, Lib.join L.dropLast [47], L.getLastD [], v', qs, sb'⟩ = pp
         have hpq : pp.qualifiers.length ≤ 1000000000 := by rw [← hpp]; show (sortQ qs).length ≤ _; omega
         have e26 : @Eq (Option (Int × Unit)) ((orcN (n + 26)).d 26 [.st 4 pp] [(.int .i64)]) (some (checkS pp, ())) := L26 (n + 22) hpq
         have hpp2 : Gt.Purl.mk k (Lib.join L.dropLast [47]) (L.getLastD []) v' (sortQ qs) sb' = pp := hpp
         rw [hpp2]
         refine (congrArg (fun z => ob z _) e26).trans ?_
         show br (checkS pp != 0) _ _ = _
         cases hc : (checkS pp != 0) with
         | true => rfl
         | false =>
           simp only [br_false, cond_false]
           have e50 : @Eq (Option (Gt.Purl × Unit)) ((orcN (n + 26)).d 50 [.st 4 pp] [(.st 4)]) (some (canonS pp, ())) := L50 (n + 22) (check_tiny (by simpa using hc))
           exact congrArg (fun z => ob z _) e50
end Pe.Tryd
end
section
/- THE LAWS of reading: Read of both sides, and texts that come back. -/
set_option maxRecDepth 100000
namespace Pe.Tryd
open Go Go.Proofs Pe Pe.Told
theorem check_quals {c : Gt.Purl} (h : checkS c = 0) : c.qualifiers.length ≤ 1000000000 := by have := (check_tiny h).quals; omega
theorem topS_len (p : Gt.Purl) : (topS p).1.qualifiers.length ≤ 1000000000 := by
 unfold topS
 cases dupQ p.qualifiers with
 | true => simp
 | false =>
   simp only [cond_false]
   cases hc : (checkS (srtP p) != 0) with
   | true => simp
   | false =>
     simp only [cond_false]
     have hz : checkS (srtP p) = 0 := by simpa using hc
     exact check_quals (check_canon hz)
theorem readS_len (s : B) : (readS s).1.qualifiers.length ≤ 1000000000 := by
 unfold readS
 cases decide (3000 < len s) with
 | true => simp
 | false =>
   simp only [cond_false]
   cases readN s with
   | inl e => simp
   | inr p => exact topS_len p
def toldT : B := [80, 75, 71, 58, 83, 116, 97, 103, 101, 100, 47, 77, 121, 95, 95, 84, 111, 111, 108, 46, 88, 64, 49, 46, 48]
def toldC : Gt.Purl := ⟨[115, 116, 97, 103, 101, 100], [], [109, 121, 45, 116, 111, 111, 108, 45, 120], [49, 46, 48], [], []⟩
theorem toldR : readS toldT = (toldC, 0, 0, ()) := by kernel_rfl
theorem toldP : printS toldC = ([112, 107, 103, 58, 115, 116, 97, 103, 101, 100, 47, 109, 121, 45, 116, 111, 111, 108, 45, 120, 64, 49, 46, 48], 0, ()) := by kernel_rfl
/-- The small name, out of what Read and Print answer. -/
theorem toldN (n : Nat) : @Eq (Option (Bool × Unit)) ((orcN (n + 28)).d 13 [] [.bool]) (some (true, ())) := by
 rw [q13]
 unfold m13
 have e10 := L10 n toldT
 rw [toldR] at e10
 have e14 := L14 (n + 22) (p := toldC) (by decide)
 rw [toldP] at e14
 have key : ∀ (X : Option (Gt.Purl × Int × Int × Unit)) (Y : Gt.Purl → Option (B × Int × Unit)) (a : Gt.Purl × Int × Int × Unit) (b : B × Int × Unit) (K : Gt.Purl × Int × Int × Unit → B × Int × Unit → Option (Bool × Unit)), X = some a → Y a.1 = some b → (ob X fun r1 => ob (Y r1.1) fun r2 => K r1 r2) = K a b := by
  intro X Y a b K h1 h2
  rw [h1, ob_some_eq, h2, ob_some_eq]
 exact (key _ (fun p => (orcN (n + 27)).d 14 [.st 4 p] [.str, (.int .i64)]) _ _ _ e10 e14).trans rfl
/-- THE LAW OF READING. -/
theorem L3 (n : Nat) (s : B) : m3 (orcN (n + 28)) s = some (true, ()) := by
 unfold m3
 rw [L10 (n + 1) s, ob_some_eq, L11 (n + 1) s, ob_some_eq, L12 (n + 26) (readS_len s), ob_some_eq, toldN n]
 simp [ob_some_eq, br_true]
end Pe.Tryd
end
