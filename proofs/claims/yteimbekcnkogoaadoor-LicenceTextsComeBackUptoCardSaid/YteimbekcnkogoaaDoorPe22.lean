/- Loops of the models, round by round. -/
import Derived.Test.YteimbekcnkogoaaDoorPe15
namespace Pe
theorem iter_le {σ R : Type} {f : σ → Option (σ ⊕ R)} {r : R} : ∀ {n m : Nat} {x : σ}, iter f n x = some r → n ≤ m → iter f m x = some r
  | 0, _, _, h, _ => by cases h
  | n + 1, 0, _, _, hm => absurd hm (by omega)
  | n + 1, m + 1, x, h, hm => by
    unfold iter at h ⊢
    split at h
    · exact iter_le h (by omega)
    · exact h
    · cases h
theorem loopM_of {σ R : Type} {f : σ → Option (σ ⊕ R)} {r : R} {n : Nat} {x : σ} (h : iter f n x = some r) : loopM f x = some r := by
  have hx : ∃ n, (iter f n x).isSome := ⟨n, by rw [h]; rfl⟩
  unfold loopM
  rw [dif_pos hx]
  have h2 := Classical.choose_spec hx
  cases h3 : iter f (Classical.choose hx) x with
  | none => rw [h3] at h2; cases h2
  | some r' =>
    have a := iter_le h (Nat.le_max_left n (Classical.choose hx))
    have b := iter_le h3 (Nat.le_max_right n (Classical.choose hx))
    rw [a] at b; exact b.symm
theorem loopM_end {σ R : Type} {f : σ → Option (σ ⊕ R)} {r : R} {x : σ} (h : f x = some (.inr r)) : loopM f x = some r := loopM_of (n := 1) (by simp [iter, h])
theorem loopM_next {σ R : Type} {f : σ → Option (σ ⊕ R)} {x y : σ} (h : f x = some (.inl y)) : loopM f x = loopM f y := by
  cases hy : loopM f y with
  | some r =>
    obtain ⟨n, hn⟩ := loopM_some hy
    exact loopM_of (n := n + 1) (by simp [iter, h, hn])
  | none =>
    cases hx : loopM f x with
    | none => rfl
    | some r =>
      obtain ⟨n, hn⟩ := loopM_some hx
      cases n with
      | zero => cases hn
      | succ n => simp only [iter, h] at hn; rw [loopM_of hn] at hy; cases hy
/-- A loop over the places of a list: at each place a round goes on, or ends. -/
theorem loopM_fuel {σ R : Type} {f : σ → Option (σ ⊕ R)} (m : σ → Nat) (g : σ → R) (I : σ → Prop) (h : ∀ x, I x → (∃ y, f x = some (.inl y) ∧ I y ∧ m y < m x ∧ g y = g x) ∨ f x = some (.inr (g x))) : ∀ x, I x → loopM f x = some (g x) := by
  have key : ∀ n x, m x ≤ n → I x → loopM f x = some (g x) := by
    intro n
    induction n with
    | zero =>
      intro x hm hI
      rcases h x hI with ⟨y, _, _, h3, _⟩ | h1
      · omega
      · exact loopM_end h1
    | succ n ih =>
      intro x hm hI
      rcases h x hI with ⟨y, h1, h2, h3, h4⟩ | h1
      · rw [loopM_next h1, ih y (by omega) h2, h4]
      · exact loopM_end h1
  exact fun x hI => key _ x (Nat.le_refl _) hI
end Pe
