/- PROVED HERE: a part of the seat's proofs; see the text that holds the claim's theorem. -/
import Derived.Test.YtjhmblhgicjlfaaDoorPuG
section
/- One qualifier read by the reference's Read, and put into its place; Read of the reference. -/
set_option maxRecDepth 100000
namespace Pe.Tryd
open Go Go.Proofs Pe Pe.Told
theorem set_mid {α : Type} (x z : α) (S : List α) : ∀ A : List α, (A ++ x :: S).set A.length z = A ++ z :: S
 | [] => rfl
 | a :: A => by simp
end Pe.Tryd
end
section
/- THE LAWS of reading: Read of both sides, and texts that come back. -/
set_option maxRecDepth 100000
namespace Pe.Tryd
open Go Go.Proofs Pe Pe.Told
theorem check_quals {c : Gt.Purl} (h : checkS c = 0) : c.qualifiers.length ≤ 1000000000 := by have := (check_tiny h).quals; omega
def toldT : B := [80, 75, 71, 58, 83, 116, 97, 103, 101, 100, 47, 77, 121, 95, 95, 84, 111, 111, 108, 46, 88, 64, 49, 46, 48]
def toldC : Gt.Purl := ⟨[115, 116, 97, 103, 101, 100], [], [109, 121, 45, 116, 111, 111, 108, 45, 120], [49, 46, 48], [], []⟩
theorem toldR : readS toldT = (toldC, 0, 0, ()) := by kernel_rfl
theorem toldP : printS toldC = ([112, 107, 103, 58, 115, 116, 97, 103, 101, 100, 47, 109, 121, 45, 116, 111, 111, 108, 45, 120, 64, 49, 46, 48], 0, ()) := by kernel_rfl
/-- The small name, out of what Read and Print answer. -/
theorem toldN (n : Nat) : @Eq (Option (Bool × Unit)) ((orcN (n + 28)).d 13 [] [.bool]) (some (true, ())) := by
 rw [q13]
 unfold m13
 have e10 := L10 n toldT
 rw [toldR] at e10
 have e14 := L14 (n + 22) (p := toldC) (by decide)
 rw [toldP] at e14
 have key : ∀ (X : Option (Gt.Purl × Int × Int × Unit)) (Y : Gt.Purl → Option (B × Int × Unit)) (a : Gt.Purl × Int × Int × Unit) (b : B × Int × Unit) (K : Gt.Purl × Int × Int × Unit → B × Int × Unit → Option (Bool × Unit)), X = some a → Y a.1 = some b → (ob X fun r1 => ob (Y r1.1) fun r2 => K r1 r2) = K a b := by
  intro X Y a b K h1 h2
  rw [h1, ob_some_eq, h2, ob_some_eq]
 exact (key _ (fun p => (orcN (n + 27)).d 14 [.st 4 p] [.str, (.int .i64)]) _ _ _ e10 e14).trans rfl
theorem printS_zero {p : Gt.Purl} (h : (printS p).2.1 = 0) : checkS p = 0 ∧ printS p = (textS (canonS p), 0, ()) ∧ (textS (canonS p)).length ≤ 3000 := by
 unfold printS at h ⊢
 cases hc : (checkS p != 0) with
 | true =>
   rw [hc] at h
   have : checkS p ≠ 0 := by simpa using hc
   exact absurd h this
 | false =>
   rw [hc] at h
   simp only [cond_false] at h ⊢
   cases hd : decide (3000 < len (textS (canonS p))) with
   | true => rw [hd] at h; cases h
   | false => exact ⟨by simpa using hc, rfl, by have := of_decide_eq_false hd; unfold len at this; omega⟩
theorem printS_right {c : Gt.Purl} (h : checkS c = 0) (hc : canonS c = c) : printS c = bif decide (3000 < len (textS c)) then ([], 3, ()) else (textS c, 0, ()) := by
 unfold printS
 rw [h, hc]; rfl
/-- THE LAW OF TEXTS THAT COME BACK. -/
theorem L4 (n : Nat) {p : Gt.Purl} (h : p.qualifiers.length ≤ 1000000000) (s : B) : m4 (orcN (n + 28)) p s = some (true, ()) := by
 unfold m4
 refine cut_of (r := .inl ()) ?_ ?_
 ·rw [L14 (n + 23) h, ob_some_eq]
  cases he : ((printS p).2.1 == 0) with
  | false => rfl
  | true =>
    obtain ⟨h1, h2, h3⟩ := printS_zero (beq_iff_eq.1 he)
    have e15 : canonR p = (canonS p, 0, ()) := by unfold canonR; rw [h1]; rfl
    rw [br_true, L15 (n + 23) h, ob_some_eq, L10 (n + 1), ob_some_eq, h2]
    dsimp only
    rw [readS_text (check_canon h1) (canon_canon p) h3, e15]
    dsimp only
    rw [L12 (n + 26) (check_quals (check_canon h1))]; rfl
 ·simp only [cutM_inl]
  rw [L10 (n + 1), ob_some_eq]
  cases he : ((readS s).2.2.1 != 0) with
  | true => rw [br_true, toldN n]; rfl
  | false =>
    obtain ⟨c, h1, h2, h3⟩ := readS_ok (s := s) (by simpa using he)
    rw [h1]
    dsimp only
    rw [br_false, L14 (n + 23) (check_quals h2), ob_some_eq, printS_right h2 h3]
    cases hd : decide (3000 < len (textS c)) with
    | true =>
      simp only [cond_true]
      rw [show ((3 : Int) != 0) = true from rfl, br_true, show ((3 : Int) == 3) = true from rfl, br_true, toldN n]; rfl
    | false =>
      have hl : (textS c).length ≤ 3000 := by have := of_decide_eq_false hd; unfold len at this; omega
      simp only [cond_false]
      rw [show ((0 : Int) != 0) = false from rfl, br_false, L10 (n + 1), ob_some_eq, readS_text h2 h3 hl]
      dsimp only
      rw [show ((0 : Int) == 0) = true from rfl, br_true, L12 (n + 26) (check_quals h2), ob_some_eq, ob_some_eq, br_true, toldN n]; rfl
end Pe.Tryd
end
