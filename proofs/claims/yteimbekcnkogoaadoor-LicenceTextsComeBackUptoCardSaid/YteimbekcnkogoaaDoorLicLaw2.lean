/- The plain laws of the token reader. -/
import Derived.Test.YteimbekcnkogoaaDoorLicLaw1
set_option maxRecDepth 100000
namespace Pe.Tryd
open Go Go.Proofs Pe LicSpec

theorem q68 (n : Nat) (s : List UInt8) : @Eq (Option (List UInt8 × Unit)) ((orcN (n + 1)).d 68 [.str s] [.str]) (bif Nat.ble s.length 1000000 && s.all (fun b => Nat.blt b.toNat 128) then some (Lib.toUpperA s, ()) else none) := by kernel_rfl
theorem q19 (n : Nat) (s : List UInt8) : @Eq (Option (Ex × Gt.Licence_fault × Unit)) ((orcN (n + 1)).d 19 [.str s] [.st 4, .st 7]) (match mread (orcN n) s with
  | some (.inl c) => some c
  | some (.inr p) => some (LicSpec.Ex.zero, ⟨p.1, p.2.1⟩, ())
  | none => none) := by kernel_rfl
theorem q51 (n : Nat) (l : List (List UInt8)) (s : List UInt8) : @Eq (Option (List UInt8 × Unit)) ((orcN (n + 1)).d 51 [.sl .str l, .str s] [.str]) (bif Nat.ble l.length 1000000 && Nat.ble (Lib.join l s).length 100000000 then some (Lib.join l s, ()) else none) := by kernel_rfl

theorem upper_word {s : List UInt8} (h : LicSpec.isWord s = true) : s.length ≤ 4 ∧ s.all (fun b => Nat.blt b.toNat 128) = true ∧ Lib.toUpperA s = LicSpec.wordR s := by
  unfold LicSpec.isWord at h
  simp only [Bool.or_eq_true, beq_iff_eq] at h
  rcases h with ((((rfl | rfl) | rfl) | rfl) | rfl) | rfl <;> exact ⟨by decide, by decide, by decide⟩
theorem L68 (n : Nat) {s : List UInt8} (h : LicSpec.isWord s = true) : @Eq (Option (List UInt8 × Unit)) ((orcN (n + 1)).d 68 [.str s] [.str]) (some (LicSpec.wordR s, ())) := by
  obtain ⟨h1, h2, h3⟩ := upper_word h
  rw [q68, h2, h3]
  have : Nat.ble s.length 1000000 = true := by rw [Nat.ble_eq]; omega
  rw [this]; rfl

theorem byte_eq (c d : UInt8) : (((c.toNat : Int)) == (d.toNat : Int)) = (c == d) := by
  by_cases h : c = d
  · subst h; simp
  · have h1 : ¬ (c.toNat : Int) = (d.toNat : Int) := fun h' => h (UInt8.toNat.inj (by omega))
    rw [beq_eq_false_iff_ne.2 h1, beq_eq_false_iff_ne.2 h]
theorem blank_int (c : UInt8) : LicSpec.isBlank c = ((((c.toNat : Int)) == 32 || ((c.toNat : Int)) == 9) || ((c.toNat : Int)) == 10) := by
  have h1 := byte_eq c 32
  have h2 := byte_eq c 9
  have h3 := byte_eq c 10
  unfold LicSpec.isBlank
  rw [← h1, ← h2, ← h3]; rfl

theorem skipB_at {S : List UInt8} {k : Nat} (h : k < S.length) : LicSpec.skipB (S.drop k) = if LicSpec.isBlank S[k] then LicSpec.skipB (S.drop (k + 1)) + 1 else 0 := by
  rw [List.drop_eq_getElem_cons h]; rfl
theorem runL_at {S : List UInt8} {k : Nat} (h : k < S.length) : LicSpec.runL (S.drop k) = if LicSpec.isRun S[k] then LicSpec.runL (S.drop (k + 1)) + 1 else 0 := by
  rw [List.drop_eq_getElem_cons h]; rfl
theorem skipB_le (r : List UInt8) : LicSpec.skipB r ≤ r.length := by
  induction r with
  | nil => simp [LicSpec.skipB]
  | cons c r ih => unfold LicSpec.skipB; split <;> simp <;> omega

/-- The token reader's state as the program has it. -/
def toR (S : List UInt8) (s : PS) : Gt.Licence_reader := ⟨S, s.fin, ⟨s.kind, s.text, s.at_, s.tight⟩, s.opn⟩
def outR {α β : Type} (S : List UInt8) (inj : α → β) : Res α → ((Gt.Licence_reader × Unit) × β) ⊕ (Int × Int × Unit)
  | .ok a s => .inl ((toR S s, ()), inj a)
  | .err a c => .inr ((a : Int), c, ())

theorem at_end (S : List UInt8) (k : Nat) : ((k : Int) == len S) = decide (k = S.length) := by
  unfold len
  by_cases h : k = S.length
  · subst h; simp
  · have : ¬ (k : Int) = (S.length : Int) := by omega
    rw [beq_eq_false_iff_ne.2 this]; simp [h]

theorem L43 (n : Nat) (a c : Int) : @Eq (Option ((Unit × Unit) ⊕ (Int × Int × Unit))) ((orcN (n + 1)).e 43 [.int .i64 a, .int .i64 c] [] [] () [] [.int .i64, .int .i64] 49) (some (.inr (a, c, ()))) := by
  rw [q43]; rfl

set_option maxHeartbeats 1000000 in
theorem L41 (n : Nat) (S : List UInt8) (s : PS) (hS : S.length ≤ 1000000) (hf : s.fin ≤ S.length) :
    m41 (orcN (n + 2)) (toR S s, ()) = some (outR S (fun _ => ()) (pNext S s)) := by
  unfold m41
  simp only [toR]
  rw [loop_ix (R := (Int × Unit) ⊕ (((Gt.Licence_reader × Unit) × Unit) ⊕ (Int × Int × Unit))) S.length (fun k => .inl (((k + LicSpec.skipB (S.drop k) : Nat) : Int), ())) ?h1 s.fin hf]
  case h1 =>
    intro k hk
    by_cases hlt : k < S.length
    · simp only [len_lt, hlt, decide_true, at?_get hlt, ob_some_eq, br_some_eq, cond_or, ← blank_int]
      rw [skipB_at hlt]
      cases hb : LicSpec.isBlank S[k] with
      | true => left; exact ⟨trivial, by rw [wrap_succ hlt (by omega)]; rfl, by simp; omega⟩
      | false => right; simp
    · right
      simp only [len_lt, hlt, decide_false, br_false, ob_some_eq]
      rw [List.drop_of_length_le (by omega)]; rfl
  simp only [cutM_inl]
  have hsk := skipB_le (S.drop s.fin)
  rw [List.length_drop] at hsk
  unfold pNext
  generalize ha : s.fin + LicSpec.skipB (S.drop s.fin) = a
  have hale : a ≤ S.length := by omega
  have htight : (bif ((a : Int) == (s.fin : Int)) then decide (0 < (a : Int)) else false) = (decide (a = s.fin) && decide (0 < a)) := by
    rw [cond_and]
    congr 1
    · by_cases h : a = s.fin
      · rw [h]; simp
      · have : ¬ (a : Int) = (s.fin : Int) := by omega
        rw [beq_eq_false_iff_ne.2 this]; simp [h]
    · exact decide_eq_decide.2 (by omega)
  simp only [br_some_eq, htight, ob_some_eq, at_end]
  by_cases hend : a = S.length
  · have hd : S.drop a = [] := List.drop_of_length_le (by omega)
    simp only [hend, decide_true, br_true]
    rw [← hend, hd]
    simp [tokAt, outR, toR]
  · have hlt : a < S.length := by omega
    simp only [hend, decide_false, br_false]
    rw [show ((0 : Int), ()) = (((0 : Nat) : Int), ()) from rfl]
    rw [loop_ix (R := (Int × Unit) ⊕ (((Gt.Licence_reader × Unit) × Unit) ⊕ (Int × Int × Unit))) (S.length - a) (fun k => .inl (((k + LicSpec.runL (S.drop (a + k)) : Nat) : Int), ())) ?h2 0 (by omega)]
    case h2 =>
      intro k hk
      have hw : IntKind.i64.wrap ((a : Int) + (k : Int)) = ((a + k : Nat) : Int) := by rw [wrap_id (by omega) (by omega)]; rfl
      simp only [hw]
      by_cases hlt2 : a + k < S.length
      · simp only [len_lt, hlt2, decide_true, br_true, at?_get hlt2, ob_some_eq, q62, L62]
        rw [runL_at hlt2]
        cases hb : LicSpec.isRun S[a + k] with
        | true => left; exact ⟨by omega, by rw [wrap_succ (n := S.length) (by omega) (by omega)]; rfl, by simp [Nat.add_assoc]; omega⟩
        | false => right; simp
      · right
        simp only [len_lt, hlt2, decide_false, br_false, ob_some_eq]
        rw [List.drop_of_length_le (by omega)]; rfl
    simp only [Nat.add_zero, Nat.zero_add]
    simp only [cutM_inl]
    have hrl := runL_le (S.drop a)
    rw [List.length_drop] at hrl
    obtain ⟨c, r, hcr⟩ : ∃ c r, S.drop a = c :: r := ⟨_, _, List.drop_eq_getElem_cons hlt⟩
    have hc : S[a] = c := by
      have h := List.drop_eq_getElem_cons hlt
      rw [hcr] at h
      injection h with h1 _
      exact h1.symm
    generalize hrn : LicSpec.runL (S.drop a) = m at hrl ⊢
    unfold tokAt
    rw [hcr]
    simp only
    rw [← hcr, hrn]
    by_cases hm : m = 0
    · subst hm
      simp only [at?_get hlt, ob_some_eq, hc, show (((0 : Nat) : Int) == 0) = true from rfl, br_true, if_true, L43, oc_inr, same_self]
      have hw1 : IntKind.i64.wrap ((a : Int) + 1) = ((a + 1 : Nat) : Int) := by rw [wrap_id (by omega) (by omega)]; rfl
      have b43 : ((c.toNat : Int) == 43) = (c == 43) := byte_eq c 43
      have b40 : ((c.toNat : Int) == 40) = (c == 40) := byte_eq c 40
      have b41 : ((c.toNat : Int) == 41) = (c == 41) := byte_eq c 41
      rw [b43, b40, b41]
      by_cases h43 : c = 43
      · subst h43
        simp [br_true, cutM_inl, hw1, outR, toR]
      · by_cases h40 : c = 40
        · subst h40
          simp [br_true, br_false, cutM_inl, hw1, outR, toR]
        · by_cases h41 : c = 41
          · subst h41
            simp [br_true, br_false, cutM_inl, hw1, outR, toR]
          · simp [beq_eq_false_iff_ne.2 h43, beq_eq_false_iff_ne.2 h40, beq_eq_false_iff_ne.2 h41, br_false, cutM_inr, outR, h43, h40, h41]
    · have hm0 : (((m : Nat) : Int) == 0) = false := by rw [beq_eq_false_iff_ne]; omega
      have hw : IntKind.i64.wrap ((a : Int) + (m : Int)) = ((a + m : Nat) : Int) := by rw [wrap_id (by omega) (by omega)]; rfl
      simp only [hm0, br_false, same_self, hw, part?_nat (show a ≤ a + m by omega) (show a + m ≤ S.length by omega), Nat.add_sub_cancel_left, ob_some_eq, cutM_inl, q61, L61, hm, if_false]
      have hlen : ((S.drop a).take m).length ≤ 1000000000 := by rw [List.length_take, List.length_drop]; omega
      cases hw1 : LicSpec.isWord ((S.drop a).take m) with
      | true =>
        simp only [br_true, L68 (n + 1) hw1, ob_some_eq, cutM_inl, if_true, hw]
        simp [outR, toR]
      | false =>
        simp only [br_false, q34, L34 n _ hlen, ob_some_eq]
        cases hn1 : LicSpec.isName ((S.drop a).take m) with
        | true => simp [br_false, cutM_inl, hw, outR, toR]
        | false => simp [br_true, L43, oc_inr, cutM_inr, outR]
end Pe.Tryd
