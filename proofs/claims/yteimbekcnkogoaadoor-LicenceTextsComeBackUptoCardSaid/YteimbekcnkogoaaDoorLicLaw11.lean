/- The second law in plain: texts come back. -/
import Derived.Test.YteimbekcnkogoaaDoorLicLaw10
set_option maxRecDepth 100000
namespace LicSpec
/-- What Print answers. -/
def prt (e : Ex) : Str × Int × Unit := if chk e ≠ 0 then ([], chk e, ()) else if 4000 < (txt e).length then ([], 3, ()) else (txt e, 0, ())
theorem licR_ok {S : Str} (h : (licR S).2.2.1 = 0) : chk (licR S).1 = 0 := by
  unfold licR at h ⊢
  by_cases h4 : 4000 < S.length
  · rw [if_pos h4] at h; exact absurd h (by decide)
  · rw [if_neg h4] at h ⊢
    have hpe := parse_eq S
    cases hp : pParse S with
    | err a c => rw [hp] at hpe h; exact absurd h hpe.1
    | ok e s =>
      rw [hp] at h
      simp only at h ⊢
      by_cases hc : chk e = 0
      · rw [if_neg (by simp [hc])]; exact hc
      · rw [if_pos hc] at h; exact absurd h hc
end LicSpec
namespace Pe.Tryd
open Go Go.Proofs Pe LicSpec

theorem G11 {n : Nat} {e : Ex} (hs : Small e) (hn : 222 ≤ n) (hl : e.lev + 10 ≤ n) : @Eq (Option (List UInt8 × Int × Unit)) ((orcN n).d 11 [.st 4 e] [.str, (.int .i64)]) (some (prt e)) := by
  obtain ⟨m, rfl⟩ : ∃ m, n = m + 1 := ⟨n - 1, by omega⟩
  rw [q11]
  unfold prt
  by_cases hc : chk e = 0
  · rw [if_neg (by simp [hc])]; exact L11 (by omega) hc
  · rw [if_pos hc]
    obtain ⟨m, rfl⟩ : ∃ k, m = k + 1 := ⟨m - 1, by omega⟩
    have h20 := L20 m e (by omega) hs
    unfold m11
    have : (chk e != 0) = true := by simpa using hc
    simp only [Ex.eta, q20, h20, ob_some_eq, this, br_true]

/-- THE SECOND LAW. -/
theorem L4 {n : Nat} {x : Ex} (hs : Small x) (hn : 300 ≤ n) (hl : x.lev + 20 ≤ n) (S : List UInt8) : m4 (orcN n) x S = some (true, ()) := by
  unfold m4
  simp only [Ex.eta]
  rw [G11 hs (by omega) (by omega)]
  have rest : (ob (α := LicSpec.Ex × Int × Int × Unit) ((orcN n).d 7 [.str S] [(.st 4), (.int .i64), (.int .i64)]) fun (r7 : LicSpec.Ex × Int × Int × Unit) => (br (r7.2.2.1 != 0) (ob (α := Bool × Unit) ((orcN n).d 10 [] [.bool]) fun (r8 : Bool × Unit) => (some (r8.1, ()))) (ob (α := List UInt8 × Int × Unit) ((orcN n).d 11 [.st 4 r7.1] [.str, (.int .i64)]) fun (r9 : List UInt8 × Int × Unit) => (ob (α := LicSpec.Ex × Int × Int × Unit) ((orcN n).d 7 [.str r9.1] [(.st 4), (.int .i64), (.int .i64)]) fun (r10 : LicSpec.Ex × Int × Int × Unit) => (ob (br (r9.2.1 == 3) (some true) (ob (br (r9.2.1 == 0) (some (r10.2.2.1 == 0)) (some false)) fun b11 => (ob (br b11 (some (r10.2.1 == 0)) (some false)) fun b12 => (ob (br b12 (ob (α := Bool × Unit) ((orcN n).d 9 [.st 4 r7.1, .st 4 r10.1] [.bool]) fun (r13 : Bool × Unit) => (some r13.1)) (some false)) fun b14 => (ob (br b14 (ob (α := Bool × Unit) ((orcN n).d 10 [] [.bool]) fun (r15 : Bool × Unit) => (some r15.1)) (some false)) fun b16 => (some b16)))))) fun b17 => (some (b17, ()))))))) = some (true, ()) := by
    rw [G7 (by omega) S]
    simp only [ob_some_eq]
    have hf := licR_fit S
    by_cases h0 : (licR S).2.2.1 = 0
    · have hc := licR_ok h0
      rw [show ((licR S).2.2.1 != 0) = false by simp [h0]]
      simp only [br_false]
      rw [G11 hf.1 (by omega) (by have := hf.2; omega)]
      unfold prt
      rw [if_neg (by simp [hc])]
      by_cases h4 : 4000 < (txt (licR S).1).length
      · rw [if_pos h4]
        simp only [ob_some_eq]
        rw [G7 (by omega)]
        rfl
      · rw [if_neg h4]
        simp only [ob_some_eq]
        rw [G7 (by omega), read_back hc (by omega)]
        simp only [ob_some_eq, show ((0 : Int) == 3) = false from rfl, br_false, show ((0 : Int) == 0) = true from rfl, br_true]
        rw [G9 (by have := hf.2; omega) hf.1]
        simp only [ob_some_eq, br_true]
        rw [G10 (by omega)]
        rfl
    · rw [show ((licR S).2.2.1 != 0) = true by simpa using h0]
      simp only [br_true]
      rw [G10 (by omega)]
      rfl
  have key : ∀ (p : List UInt8 × Int × Unit), prt x = p → (br (p.2.1 == 0) (ob (α := LicSpec.Ex × Int × Int × Unit) ((orcN n).d 7 [.str p.1] [(.st 4), (.int .i64), (.int .i64)]) fun (r2 : LicSpec.Ex × Int × Int × Unit) => (ob (α := Bool × Unit) ((orcN n).d 9 [.st 4 x, .st 4 r2.1] [.bool]) fun (r3 : Bool × Unit) => (ob (br (!r3.1) (some true) (some (r2.2.1 != 0))) fun b4 => (ob (br b4 (some true) (some (r2.2.2.1 != 0))) fun b5 => (br b5 (some (Sum.inr (false, ()))) (some (Sum.inl (()))))))) ) (some (Sum.inl (())))) = (some (Sum.inl ()) : Option (Unit ⊕ (Bool × Unit))) := by
    intro p hp
    unfold prt at hp
    by_cases hc : chk x = 0
    · rw [if_neg (by simp [hc])] at hp
      by_cases h4 : 4000 < (txt x).length
      · rw [if_pos h4] at hp; subst hp; rfl
      · rw [if_neg h4] at hp; subst hp
        simp only [show ((0 : Int) == 0) = true from rfl, br_true]
        rw [G7 (by omega), read_back hc (by omega)]
        simp only [ob_some_eq]
        rw [G9 (by omega) hs]
        rfl
    · rw [if_pos hc] at hp; subst hp
      simp only
      rw [show (chk x == 0) = false by simpa using hc]
      rfl
  simp only [ob_some_eq]
  rw [key _ rfl]
  simp only [cutM_inl]
  exact rest
end Pe.Tryd
