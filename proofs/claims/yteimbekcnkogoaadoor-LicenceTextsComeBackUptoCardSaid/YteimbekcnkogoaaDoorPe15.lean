/- Code: what the pure reading says of it holds. -/
import Derived.Test.YteimbekcnkogoaaDoorPe14
namespace Pe
open Go Go.RowKit
variable {S : Nat → Type}

theorem wp_loop_ghost {P : Program} {c : Code} {Q : Exit → Act → World → Prop} {σ : Type} (I : σ → Act → World → Prop) (m : σ → Nat)
    (round : ∀ x a w, I x a w → c.wp P (Exit.then (fun a' w' => ∃ y, I y a' w' ∧ m y < m x) Q) a w) : ∀ x a w, I x a w → (Code.loop c).wp P Q a w := by
  intro x a w hI b k cs
  have key : ∀ n x a w, m x = n → I x a w →
      ∃ e a' w', Q e a' w' ∧ Arrives P (lone (b.at a (.code c :: .inLoop c :: k)) cs w) b k cs e a' w' := by
    intro n
    induction n using Nat.strongRecOn with
    | _ n ih =>
      intro x a w hn hI
      obtain ⟨e, a₁, w₁, hq, harr⟩ := round x a w hI b (.inLoop c :: k) cs
      cases e with
      | normal =>
        obtain ⟨y, hI₁, hlt⟩ := hq
        obtain ⟨e₂, a₂, w₂, hq₂, harr₂⟩ := ih (m y) (hn ▸ hlt) y a₁ w₁ rfl hI₁
        exact ⟨e₂, a₂, w₂, hq₂, .of_steps (Steps.trans harr (.one step_inLoop)) harr₂⟩
      | exit id => exact ⟨_, a₁, w₁, hq, .pass (x := .inLoop c) rfl (fun _ _ => .inl (by simp)) harr⟩
      | goto l => exact ⟨_, a₁, w₁, hq, .pass (x := .inLoop c) rfl (fun _ _ => .inl (by simp)) harr⟩
      | ret => exact ⟨_, a₁, w₁, hq, .pass (x := .inLoop c) rfl (fun _ _ => .inl (by simp)) harr⟩
      | panic ch => exact ⟨_, a₁, w₁, hq, .pass (x := .inLoop c) rfl (fun _ _ => .inl (by simp)) harr⟩
      | outgrown => exact ⟨_, a₁, w₁, hq, .pass (x := .inLoop c) rfl (fun _ _ => .inl (by simp)) harr⟩
  obtain ⟨e, a', w', hq, harr⟩ := key _ x a w rfl hI
  exact ⟨e, a', w', hq, .of_steps (.one step_loop) harr⟩

theorem loopM_some {σ R : Type} {f : σ → Option (σ ⊕ R)} {x : σ} {r : R} (h : loopM f x = some r) : ∃ n, iter f n x = some r := by
  unfold loopM at h
  split at h
  · exact ⟨_, h⟩
  · cases h
theorem cutM_some {σ R : Type} {x : Option (σ ⊕ R)} {f : σ → Option R} {r : R} (h : cutM x f = some r) : ∃ z, x = some z ∧ ((∃ t, z = .inl t ∧ f t = some r) ∨ z = .inr r) := by
  unfold cutM at h
  split at h
  · exact ⟨_, rfl, .inl ⟨_, rfl, h⟩⟩
  · cases h; exact ⟨_, rfl, .inr rfl⟩
  · cases h
theorem map_some' {α β : Type} {x : Option α} {f : α → β} {r : β} (h : x.map f = some r) : ∃ a, x = some a ∧ f a = r := by
  cases x with
  | none => cases h
  | some a => simp at h; exact ⟨a, rfl, h⟩

theorem CPres.calm_left : ∀ {b b' : Box S}, CPres b b' → CPres b.calm b'
  | .var T cs, .var T' cs', h => by
    simp only [CPres, Box.calm] at h ⊢
    refine ⟨h.1, by simpa using h.2.1, fun j p hp hr hj => ?_⟩
    rw [List.getElem?_map] at hp
    cases hc : cs[j]? with
    | none => rw [hc] at hp; cases hp
    | some q =>
      rw [hc] at hp
      simp only [Option.map_some, Option.some.injEq] at hp
      unfold calmP at hp
      cases hq : q.rowless with
      | true => rw [hq] at hp; simp at hp; subst hp; exact h.2.2 j q hc hr hj
      | false => rw [hq] at hp; simp at hp; subst hp; simp [isJunk] at hj
  | .lk b, .lk b', h => CPres.calm_left (b := b) (b' := b') h
  | .ro b, .ro b', h => CPres.calm_left (b := b) (b' := b') h
  | .own _ _ _, .own _ _ _, h => h
  | .gone, .gone, h => h
  | .var _ _, .lk _, h => h.elim
  | .var _ _, .ro _, h => h.elim
  | .var _ _, .own _ _ _, h => h.elim
  | .var _ _, .gone, h => h.elim
  | .lk _, .var _ _, h => h.elim
  | .lk _, .ro _, h => h.elim
  | .lk _, .own _ _ _, h => h.elim
  | .lk _, .gone, h => h.elim
  | .ro _, .var _ _, h => h.elim
  | .ro _, .lk _, h => h.elim
  | .ro _, .own _ _ _, h => h.elim
  | .ro _, .gone, h => h.elim
  | .own _ _ _, .var _ _, h => h.elim
  | .own _ _ _, .lk _, h => h.elim
  | .own _ _ _, .ro _, h => h.elim
  | .own _ _ _, .gone, h => h.elim
  | .gone, .var _ _, h => h.elim
  | .gone, .lk _, h => h.elim
  | .gone, .ro _, h => h.elim
  | .gone, .own _ _ _, h => h.elim
theorem CPres.of_lk {b b' : Box S} (h : CPres (.lk b) b') : ∃ x, b' = .lk x ∧ CPres b x := by
  cases b' <;> simp only [CPres] at h; exact ⟨_, rfl, h⟩
theorem CPres.of_ro {b b' : Box S} (h : CPres (.ro b) b') : ∃ x, b' = .ro x ∧ CPres b x := by
  cases b' <;> simp only [CPres] at h; exact ⟨_, rfl, h⟩
theorem CPres.of_var {T : TypeId} {cs : List (PV S)} {b' : Box S} (h : CPres (.var T cs) b') : ∃ cs', b' = .var T cs' ∧ CellsP cs cs' := by
  cases b' <;> simp only [CPres] at h; obtain ⟨rfl, h⟩ := h; exact ⟨_, rfl, h⟩

/-- A piece that began with locked boxes. -/
theorem kept_of {c : Cut} {M bx' : Bxs S} (h : PresB (lockFrom c.boxes 0 M) bx') {i : Nat} {b : Box S} (hi : getB M i = some b) : Kept c i bx' b := by
  have hl : getB (lockFrom c.boxes 0 M) i = some (lk1 c.boxes i b) := by rw [getB_lock, hi]; simp
  cases b with
  | var T cs =>
    simp only [Kept]
    cases hc : (c.boxes.map (·.1)).contains i with
    | true =>
      simp only [lk1, hc, cond_true] at hl
      obtain ⟨cs', h1, h2⟩ := h.var i T cs hl
      exact .inl ⟨List.contains_iff_mem.1 hc, cs', h1, h2⟩
    | false =>
      simp only [lk1, hc, cond_false] at hl
      obtain ⟨b', h1, h2⟩ := h.box i _ hl rfl
      obtain ⟨x, rfl, h3⟩ := h2.of_lk
      refine .inr ⟨fun hm => ?_, x, h1, ?_⟩
      · rw [List.contains_iff_mem.2 hm] at hc; cases hc
      · exact CPres.calm_left h3
  | lk b =>
    obtain ⟨b', h1, h2⟩ := h.box i _ hl rfl
    obtain ⟨x, rfl, h3⟩ := h2.of_lk
    obtain ⟨y, rfl, h4⟩ := CPres.of_lk h3
    exact ⟨y, h1, h4.calm_left⟩
  | ro b =>
    obtain ⟨b', h1, h2⟩ := h.box i _ hl rfl
    obtain ⟨x, rfl, h3⟩ := h2.of_ro
    exact ⟨x, h1, h3.calm_left⟩
  | own => trivial
  | gone =>
    obtain ⟨b', h1, h2⟩ := h.box i _ hl rfl
    exact ⟨b', h1, h2.fixed rfl⟩

theorem mkBoxes_out : ∀ (l : List (Nat × List CTy)) (ps : List (PV S)) (B : Bxs S) (i : Nat), i ∉ l.map (·.1) → getB (mkBoxes l ps B) i = getB B i
  | [], _, _, _, _ => rfl
  | (j, ts) :: l, ps, B, i, h => by
    simp only [List.map_cons, List.mem_cons, not_or] at h
    simp only [mkBoxes]
    rw [mkBoxes_out l _ _ i h.2]
    split
    · exact getB_set_ne h.1
    · rfl
theorem getB_append_left {bs : Bxs S} : ∀ {bx : Bxs S} {i : Nat}, i < bx.length → getB (bx ++ bs) i = getB bx i
  | [], _, h => by simp at h
  | _ :: _, 0, _ => rfl
  | _ :: r, i + 1, h => by simpa [getB] using getB_append_left (bx := r) (by simpa using h)

/-- A round: it began with the told state. -/
theorem kept_loop {c : Cut} {bx0 bx' : Bxs S} {t : ElL S c.codes} (hp : PresB bx0 (mkBx c bx0 t)) (h : PresB (lockFrom c.boxes 0 (mkBx c bx0 t)) bx') {i : Nat} {b : Box S} (hi : getB bx0 i = some b) : Kept c i bx' b := by
  have hil := getB_lt hi
  cases b with
  | var T cs =>
    by_cases hm : i ∈ c.boxes.map (·.1)
    · obtain ⟨cs1, h1, h2⟩ := hp.var i T cs hi
      have := kept_of h h1
      simp only [Kept] at this ⊢
      rcases this with ⟨g1, cs', g2, g3⟩ | ⟨g1, _⟩
      · exact .inl ⟨g1, cs', g2, g3.trans h2⟩
      · exact absurd hm g1
    · have hcon : (c.boxes.map (·.1)).contains i = false := by
        cases hx : (c.boxes.map (·.1)).contains i with
        | true => exact absurd (List.contains_iff_mem.1 hx) hm
        | false => rfl
      have h1 : getB (mkBx c bx0 t) i = some (.var T (cs.map calmP)) := by
        unfold mkBx
        rw [getB_append_left (by rw [mkBoxes_length, blank_length, noRows_length]; exact hil), mkBoxes_out _ _ _ _ hm, getB_blank, getB_noRows, hi]
        simp only [Option.map_some, nr1, Box.calm, bl1, Nat.zero_add, hcon, cond_false]
      have hl : getB (lockFrom c.boxes 0 (mkBx c bx0 t)) i = some (.lk (.var T (cs.map calmP))) := by
        rw [getB_lock, h1]; simp only [Option.map_some, lk1, Nat.zero_add, hcon, cond_false]
      obtain ⟨b', g1, g2⟩ := h.box i _ hl rfl
      obtain ⟨x, rfl, g3⟩ := g2.of_lk
      exact .inr ⟨hm, x, g1, g3⟩
  | lk b =>
    obtain ⟨b1, h1, h2⟩ := hp.box i _ hi rfl
    obtain ⟨x, rfl, h3⟩ := h2.of_lk
    obtain ⟨b', g1, g2⟩ := h.box i (.lk (.lk x)) (by rw [getB_lock, h1]; rfl) rfl
    obtain ⟨y, rfl, g3⟩ := g2.of_lk
    obtain ⟨z, rfl, g4⟩ := CPres.of_lk g3
    exact ⟨z, g1, (h3.trans g4).calm_left⟩
  | ro b =>
    obtain ⟨b1, h1, h2⟩ := hp.box i _ hi rfl
    obtain ⟨x, rfl, h3⟩ := h2.of_ro
    obtain ⟨b', g1, g2⟩ := h.box i (.ro x) (by rw [getB_lock, h1]; rfl) rfl
    obtain ⟨y, rfl, g3⟩ := g2.of_ro
    exact ⟨y, g1, (h3.trans g3).calm_left⟩
  | own => trivial
  | gone =>
    obtain ⟨b1, h1, h2⟩ := hp.box i _ hi rfl
    cases b1 <;> simp only [CPres] at h2
    obtain ⟨b', g1, g2⟩ := h.box i .gone (by rw [getB_lock, h1]; rfl) rfl
    exact ⟨b', g1, g2.fixed rfl⟩

theorem unlock_length : ∀ (n : Nat) (L bx : Bxs S), (unlock n L bx).length = bx.length
  | 0, _, _ => by simp [unlock]
  | n + 1, [], bx => by cases bx <;> simp [unlock]
  | n + 1, l :: L, [] => by cases l <;> simp [unlock]
  | n + 1, l :: L, b :: bs => by cases l <;> cases b <;> simp [unlock, unlock_length n L bs]
theorem getB_unlock_lk : ∀ {n : Nat} {L bx : Bxs S} {i : Nat} {x b : Box S}, i < n → getB L i = some (.lk x) → getB bx i = some (.lk b) → getB (unlock n L bx) i = some b
  | n + 1, l :: L, c :: bs, 0, x, b, _, h, k => by simp [getB] at h k; subst h; subst k; rfl
  | n + 1, l :: L, c :: bs, i + 1, x, b, hn, h, k => by
    have := getB_unlock_lk (n := n) (L := L) (bx := bs) (i := i) (by omega) (by simpa [getB] using h) (by simpa [getB] using k)
    cases l <;> cases c <;> simpa [unlock, getB] using this
  | 0, _, _, _, _, _, h, _, _ => by omega
  | _ + 1, [], _, _, _, _, _, h, _ => by simp [getB] at h
  | _ + 1, _ :: _, [], _, _, _, _, _, k => by simp [getB] at k
theorem getB_unlock_ne : ∀ {n : Nat} {L bx : Bxs S} {i : Nat} {l b : Box S}, getB L i = some l → (∀ x, l ≠ .lk x) → getB bx i = some b → getB (unlock n L bx) i = some b
  | 0, _, _, _, _, _, _, _, k => by simpa [unlock] using k
  | n + 1, l0 :: L, c :: bs, 0, l, b, h, hl, k => by
    simp [getB] at h k; subst h; subst k
    cases l0 <;> first | exact absurd rfl (hl _) | (cases c <;> rfl)
  | n + 1, l0 :: L, c :: bs, i + 1, l, b, h, hl, k => by
    have := getB_unlock_ne (n := n) (L := L) (bx := bs) (i := i) (by simpa [getB] using h) hl (by simpa [getB] using k)
    cases l0 <;> cases c <;> simpa [unlock, getB] using this
  | _ + 1, [], _, _, _, _, h, _, _ => by simp [getB] at h
  | _ + 1, _ :: _, [], _, _, _, _, _, k => by simp [getB] at k

theorem PresB.unlock {c : List (Nat × List CTy)} {M bx' : Bxs S} (h : PresB (lockFrom c 0 M) bx') : PresB M (unlock M.length (lockFrom c 0 M) bx') := by
  refine ⟨by rw [unlock_length]; have := h.len; rw [lock_length] at this; exact this, fun i b hi hf => ?_, fun i T cs hi => ?_⟩
  · have hl : getB (lockFrom c 0 M) i = some (lk1 c i b) := by rw [getB_lock, hi]; simp
    cases b with
    | lk b =>
      obtain ⟨b', h1, h2⟩ := h.box i _ hl rfl
      obtain ⟨x, rfl, h3⟩ := h2.of_lk
      exact ⟨x, getB_unlock_lk (getB_lt hi) hl h1, h3⟩
    | ro b =>
      obtain ⟨b', h1, h2⟩ := h.box i _ hl rfl
      exact ⟨b', getB_unlock_ne hl (fun x hx => by cases hx) h1, h2⟩
    | gone =>
      obtain ⟨b', h1, h2⟩ := h.box i _ hl rfl
      exact ⟨b', getB_unlock_ne hl (fun x hx => by cases hx) h1, h2⟩
    | _ => simp [fixed] at hf
  · have hl : getB (lockFrom c 0 M) i = some (lk1 c i (.var T cs)) := by rw [getB_lock, hi]; simp
    cases hc : (c.map (·.1)).contains i with
    | true =>
      simp only [lk1, hc, cond_true] at hl
      obtain ⟨cs', h1, h2⟩ := h.var i T cs hl
      exact ⟨cs', getB_unlock_ne hl (fun x hx => by cases hx) h1, h2⟩
    | false =>
      simp only [lk1, hc, cond_false] at hl
      obtain ⟨b', h1, h2⟩ := h.box i _ hl rfl
      obtain ⟨x, rfl, h3⟩ := h2.of_lk
      obtain ⟨cs', rfl, h4⟩ := CPres.of_var h3
      exact ⟨cs', getB_unlock_lk (getB_lt hi) hl h1, h4.1.symm⟩

theorem zip_out : ∀ (l : List (Nat × CTy)) (ps : List (PV S)) (e : Env S) (i : Nat), i ∉ l.map (·.1) → look (zipSlots l ps ++ e) i = look e i
  | [], ps, e, i, _ => by cases ps <;> rfl
  | (j, t) :: l, [], e, i, _ => rfl
  | (j, t) :: l, p :: ps, e, i, h => by
    simp only [List.map_cons, List.mem_cons, not_or] at h
    simp only [zipSlots, List.cons_append, look]
    have : Nat.beq j i = false := by
      cases hb : Nat.beq j i with
      | true => exact absurd (Nat.eq_of_beq_eq_true hb).symm h.1
      | false => rfl
    rw [this]
    exact zip_out l ps e i h.2
theorem Pres.mkEnv (c : Cut) (W : List Nat) (e : Env S) (n : Nat) (t : ElL S c.codes) : Pres (W ++ c.slots.map (·.1)) e (mkEnv c W e n t) := by
  intro i p hi hp hr
  simp only [List.mem_append, not_or] at hi
  unfold Pe.mkEnv
  rw [zip_out _ _ _ _ hi.2]
  exact mask_of e [] i p (by simp) hi.1 hp hr
end Pe
