/- The plain laws of the token reader: expressions. -/
import Derived.Test.YteimbekcnkogoaaDoorLicLaw2
set_option maxRecDepth 100000
namespace Pe.Tryd
open Go Go.Proofs Pe LicSpec

theorem L41e (n : Nat) (S : List UInt8) (s : PS) (hS : S.length ≤ 1000000) (hf : s.fin ≤ S.length) :
    @Eq (Option (((Gt.Licence_reader × Unit) × Unit) ⊕ (Int × Int × Unit))) ((orcN (n + 3)).e 41 [.ptr 0 0] [78] [.st 9] ((toR S s, ()) : Gt.Licence_reader × Unit) [] [.int .i64, .int .i64] 49) (some (outR S (fun _ => ()) (pNext S s))) := by
  rw [q41, L41 n S s hS hf]

theorem tok_n {r : List UInt8} {k : Int} {t : List UInt8} {n : Nat} (h : tokAt r = some (k, t, n)) : n ≤ r.length ∧ (k = 0 ∨ 0 < n) := by
  unfold tokAt at h
  split at h
  · cases h; exact ⟨by simp, .inl rfl⟩
  · rename_i c r'
    simp only at h
    split at h
    · split at h
      · cases h; exact ⟨by simp, .inr (by decide)⟩
      · split at h
        · cases h; exact ⟨by simp, .inr (by decide)⟩
        · split at h
          · cases h; exact ⟨by simp, .inr (by decide)⟩
          · cases h
    · rename_i h0
      have hle := runL_le (c :: r')
      split at h
      · cases h; exact ⟨hle, .inr (by omega)⟩
      · split at h
        · cases h; exact ⟨hle, .inr (by omega)⟩
        · cases h

theorem pNext_ok {S : List UInt8} {s s' : PS} {u : Unit} (h : pNext S s = .ok u s') (hf : s.fin ≤ S.length) : s'.fin ≤ S.length ∧ s.fin ≤ s'.fin ∧ (s'.kind ≠ 0 → s.fin < s'.fin) ∧ s'.opn = s.opn := by
  unfold pNext at h
  simp only at h
  have hsk := skipB_le (S.drop s.fin)
  rw [List.length_drop] at hsk
  split at h
  · cases h
  · rename_i k t n htok
    obtain ⟨h1, h2⟩ := tok_n htok
    rw [List.length_drop] at h1
    cases h
    simp only
    by_cases hk : k = 0
    · subst hk; simp; omega
    · rw [if_neg hk]
      rcases h2 with h2 | h2
      · exact absurd h2 hk
      · exact ⟨by omega, by omega, fun _ => by omega, trivial⟩

theorem L87 (n : Nat) (S : List UInt8) (s : PS) (w : List UInt8) (hS : S.length ≤ 1000000) (hf : s.fin ≤ S.length) :
    @Eq (Option (((Gt.Licence_reader × Unit) × (Bool × Unit)) ⊕ (Int × Int × Unit))) ((orcN (n + 4)).e 87 [.ptr 0 0, .str w] [78] [.st 9] ((toR S s, ()) : Gt.Licence_reader × Unit) [.bool] [.int .i64, .int .i64] 49) (some (outR S (fun b => (b, ())) (pIs S w s))) := by
  rw [q87]
  unfold m87 pIs
  simp only [L41e n S s hS hf]
  by_cases hk : s.kind = 2
  · by_cases ht : s.text = w
    · simp only [hk, ht, and_self, if_true]
      have e1 : (toR S s).now.kind = 2 := hk
      have e2 : (toR S s).now.text = w := ht
      simp only [e1, e2, show ((2 : Int) != 2) = false from rfl, bne_self_eq_false, br_false, ob_some_eq]
      cases hp : pNext S s with
      | ok u s' => simp [outR, oc_inl]
      | err a c => simp [outR, oc_inr]
    · have e1 : (toR S s).now.kind = 2 := hk
      have e2 : ((toR S s).now.text != w) = true := by simpa [toR] using ht
      simp only [e1, e2, show ((2 : Int) != 2) = false from rfl, br_false, br_true, ob_some_eq, hk, ht, and_false, if_false]
      simp [outR]
  · have e1 : ((toR S s).now.kind != 2) = true := by simpa [toR] using hk
    simp only [e1, br_true, ob_some_eq, hk, false_and, if_false]
    simp [outR]

theorem L96 (n : Nat) (S : List UInt8) (s : PS) (hS : S.length ≤ 1000000) (hf : s.fin ≤ S.length) :
    @Eq (Option (((Gt.Licence_reader × Unit) × (List UInt8 × Unit)) ⊕ (Int × Int × Unit))) ((orcN (n + 4)).e 96 [.ptr 0 0] [78] [.st 9] ((toR S s, ()) : Gt.Licence_reader × Unit) [.str] [.int .i64, .int .i64] 49) (some (outR S (fun b => (b, ())) (pName S s))) := by
  rw [q96]
  unfold m96 pName
  simp only [L41e n S s hS hf]
  by_cases hk : s.kind = 1
  · have e1 : (toR S s).now.kind = 1 := hk
    simp only [e1, show ((1 : Int) != 1) = false from rfl, br_false, cutM_inl, hk, ne_eq, not_true_eq_false, if_false]
    cases hp : pNext S s with
    | ok u s' => simp [outR, oc_inl, toR]
    | err a c => simp [outR, oc_inr]
  · have e1 : ((toR S s).now.kind != 1) = true := by simpa [toR] using hk
    simp only [e1, br_true, L43, oc_inr, cutM_inr, hk, ne_eq, not_false_eq_true, if_true]
    simp [outR, toR]
end Pe.Tryd
