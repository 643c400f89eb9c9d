/- Regions in the text's order. -/
import Derived.Test.YteimbekcnkogoaaDoorPe10
namespace Pe
open Go Go.RowKit
variable {S : Nat → Type}

/-- Less is said. -/
def Sub (e' e : Env S) : Prop := ∀ i p, look e' i = some p → look e i = some p
theorem Sub.refl (e : Env S) : Sub e e := fun _ _ h => h
theorem Sub.trans {a b c : Env S} (h : Sub a b) (k : Sub b c) : Sub a c := fun i p hp => k i p (h i p hp)
theorem Sub.push {e e' : Env S} (h : Sub e' e) (d : Option Nat) (v : PV S) : Sub (push d v e') (push d v e) := by
  intro i p hp
  cases d with
  | none => exact h i p hp
  | some k =>
    simp only [Pe.push, look] at hp ⊢
    cases hb : Nat.beq k i with
    | true => rw [hb] at hp; exact hp
    | false => rw [hb] at hp; exact h i p hp
theorem look_push_ne {e : Env S} {d : Option Nat} {v : PV S} {i : Nat} (h : d ≠ some i) : look (push d v e) i = look e i := by
  cases d with
  | none => rfl
  | some k =>
    simp only [Pe.push, look]
    have : Nat.beq k i = false := by
      cases hb : Nat.beq k i with
      | true => exact absurd (by rw [Nat.eq_of_beq_eq_true hb]) h
      | false => rfl
    rw [this]; rfl

/-- A frame's slots among W. -/
def restr (W : List Nat) : Env S → Env S
  | [] => []
  | (i, p) :: r => bif W.contains i then (i, p) :: restr W r else restr W r
theorem look_restr (W : List Nat) : ∀ (e : Env S) (i : Nat), look (restr W e) i = if i ∈ W then look e i else none
  | [], i => by simp [restr, look]
  | (j, p) :: r, i => by
    simp only [restr]
    by_cases hj : j ∈ W
    · have : W.contains j = true := by simpa using hj
      rw [this]
      simp only [cond_true, look]
      cases hb : Nat.beq j i with
      | true => have := Nat.eq_of_beq_eq_true hb; subst this; simp [hj]
      | false => simpa using look_restr W r i
    · have : W.contains j = false := by simpa using hj
      rw [this]
      simp only [cond_false, look]
      cases hb : Nat.beq j i with
      | true => have := Nat.eq_of_beq_eq_true hb; subst this; rw [look_restr W r j]; simp [hj]
      | false => simpa using look_restr W r i
theorem restr_sub (W : List Nat) (e : Env S) : Sub (restr W e) e := by
  intro i p h
  rw [look_restr] at h
  split at h
  · exact h
  · cases h

theorem ev_restr {W : List Nat} (e : Env S) {x : Operand} (h : ∀ t, x = .tmp t → t ∈ W) : ev (restr W e) x = ev e x := by
  cases x with
  | tmp t => simp only [ev, look_restr, if_pos (h t rfl)]
  | _ => rfl
theorem evs_restr {W : List Nat} (e : Env S) : ∀ {l : List Operand}, (∀ x ∈ l, ∀ t, x = .tmp t → t ∈ W) → evs (restr W e) l = evs e l
  | [], _ => rfl
  | x :: r, h => by
    simp only [evs]
    rw [ev_restr e (h x (by simp)), evs_restr e fun y hy => h y (by simp [hy])]
theorem partsOf_restr {W : List Nat} (e : Env S) : ∀ {l : List (Nat × Operand)}, (∀ x ∈ l, ∀ t, x.2 = .tmp t → t ∈ W) → partsOf (restr W e) l = partsOf e l
  | [], _ => rfl
  | (i, x) :: r, h => by
    simp only [partsOf]
    rw [ev_restr e (h (i, x) (by simp)), partsOf_restr e fun y hy => h y (by simp [hy])]

section
variable {P : Program} {un : Uni S} {tb : Tb S} {orc : Orc S} {inl : Inl S} {E : Wl.Ctx} {D0 : Dat} {N : Wl.Fr} {e : Env S} {bx : Bxs S} {a : Act} {w : World} {o : Oper} {R : Type} {r : R} {Q : Exit → Act → World → Prop}

theorem enters_restr {W : List Nat} (e : Env S) {c : Call} (h : ∀ x ∈ c.operands.toList, ∀ t, x = .tmp t → t ∈ W) : enters (restr W e) c = enters e c := by
  unfold enters
  cases hc : c.callee with
  | value f =>
    simp only
    rw [ev_restr e (h f (by simp [Call.operands, hc])), evs_restr e fun x hx => h x (by simp [Call.operands, hc]; exact .inr (by simpa using hx))]
  | _ => rfl

theorem popQ_restr {K : PV S → Option R} : popQ un tb orc inl o (restr (slotsIn o.op.operands.toList) e) bx K = popQ un tb orc inl o e bx K := by
  have hW : ∀ x ∈ o.op.operands.toList, ∀ t, x = .tmp t → t ∈ slotsIn o.op.operands.toList := by
    intro x hx t ht
    subst ht
    simp only [slotsIn, List.mem_filterMap]
    exact ⟨_, hx, rfl⟩
  generalize slotsIn o.op.operands.toList = W at hW ⊢
  unfold popQ
  cases ho : o.op <;> rw [ho] at hW <;> simp only [Op.operands] at hW <;> try rfl
  case move x => simp only [ev_restr e (hW x (by simp))]
  case assign x => simp only [ev_restr e (hW x (by simp))]
  case pick c x y => simp only [ev_restr e (hW c (by simp)), ev_restr e (hW x (by simp)), ev_restr e (hW y (by simp))]
  case build t ps => simp only [partsOf_restr e (l := ps.toList) fun x hx => hW x.2 (by simp only [Array.mem_toList_iff, List.mem_map]; simpa using ⟨x.1, by simpa using hx⟩)]
  case load t x => simp only [ev_restr e (hW x (by simp))]
  case nilCheck x => simp only [ev_restr e (hW x (by simp))]
  case binOp op t x y t' => simp only [ev_restr e (hW x (by simp)), ev_restr e (hW y (by simp))]
  case unOp op t x => cases op <;> simp only [ev_restr e (hW x (by simp))]
  case makeInterface t x => simp only [ev_restr e (hW x (by simp))]
  case makeFunc fn first cap => simp only [evs_restr e (l := first.toList) fun x hx => hW x (by simp; exact .inl (by simpa using hx)), evs_restr e (l := cap.toList) fun x hx => hW x (by simp; exact .inr (by simpa using hx))]
  case slice t x lo hi mx =>
    cases mx with
    | some _ => rfl
    | none =>
      simp only [ev_restr e (hW x (by simp))]
      cases lo <;> cases hi <;> simp only []
      · rename_i y; rw [ev_restr e (hW y (by simp))]
      · rename_i y; rw [ev_restr e (hW y (by simp))]
      · rename_i y z; rw [ev_restr e (hW y (by simp)), ev_restr e (hW z (by simp))]
  case fieldAddr s x f => simp only [ev_restr e (hW x (by simp))]
  case indexAddr t x i => simp only [ev_restr e (hW x (by simp)), ev_restr e (hW i (by simp))]
  case index t x i => simp only [ev_restr e (hW x (by simp)), ev_restr e (hW i (by simp))]
  case extract x i => simp only [ev_restr e (hW x (by simp))]
  case call c =>
    have h1 : evs (restr W e) c.args.toList = evs e c.args.toList := evs_restr e fun x hx => hW x (by simp [Call.operands]; exact .inr (by simpa using hx))
    have h2 : enters (restr W e) c = enters e c := enters_restr e hW
    simp only [h1, h2]

theorem Holds.sub {e e' : Env S} (h : Holds un E D0 N e bx a w) (hs : Sub e' e) : Holds un E D0 N e' bx a w := by
  obtain ⟨D, H, h1, h2⟩ := h
  exact ⟨D, H, ⟨h1.inn, h1.size, h1.defers, h1.boxes, fun i p hi => h1.slots i p (hs i p hi)⟩, h2⟩
theorem Gives.sub {e e' : Env S} {p : PV S} (h : Gives P un o e' bx p) (hs : Sub e' e) : Gives P un o e bx p :=
  fun E N D H a w h1 => h E N D H a w ⟨h1.inn, h1.size, h1.defers, h1.boxes, fun i p hi => h1.slots i p (hs i p hi)⟩

/-- The way through quiet operations. -/
inductive QPath (P : Program) (un : Uni S) (bx : Bxs S) (ops : List Oper) : List Oper → Env S → Env S → Prop
  | nil {e : Env S} : QPath P un bx ops [] e e
  | run {o : Oper} {l : List Oper} {e e' : Env S} {p : PV S} (hg : o.guard = none ∨ ∃ d want, gslot ops o = some (d, want) ∧ look e d = some (.bool want)) (h : Gives P un o (restr (slotsIn o.op.operands.toList) e) bx p) (k : QPath P un bx ops l (push o.dst p e) e') : QPath P un bx ops (o :: l) e e'
  | shut {o : Oper} {l : List Oper} {e e' : Env S} {d : Nat} {want : Bool} (hg : gslot ops o = some (d, want)) (h : look e d = some (.bool (!want)) ∨ look e d = some undefV) (k : QPath P un bx ops l (push o.dst undefV e) e') : QPath P un bx ops (o :: l) e e'

theorem restr_mono {W : List Nat} {e e' : Env S} (h : Sub e' e) : Sub (restr W e') (restr W e) := by
  intro i p hp
  rw [look_restr] at hp ⊢
  split at hp
  · rename_i hi; rw [if_pos hi]; exact h i p hp
  · cases hp
theorem QPath.mono {ops l : List Oper} {e e' : Env S} (h : QPath P un bx ops l e e') : ∀ {e2 : Env S}, Sub e e2 → ∃ e2', QPath P un bx ops l e2 e2' ∧ Sub e' e2' := by
  induction h with
  | nil => intro e2 hs; exact ⟨e2, .nil, hs⟩
  | run hg h k ih =>
    intro e2 hs
    obtain ⟨e2', h1, h2⟩ := ih (hs.push _ _)
    exact ⟨e2', .run (hg.imp id fun ⟨d, want, g1, g2⟩ => ⟨d, want, g1, hs _ _ g2⟩) (h.sub (restr_mono hs)) h1, h2⟩
  | shut hg h k ih =>
    intro e2 hs
    obtain ⟨e2', h1, h2⟩ := ih (hs.push _ _)
    exact ⟨e2', .shut hg (h.imp (hs _ _) (hs _ _)) h1, h2⟩
theorem QPath.append {ops l l' : List Oper} {e e' e'' : Env S} (h : QPath P un bx ops l e e') (k : QPath P un bx ops l' e' e'') : QPath P un bx ops (l ++ l') e e'' := by
  induction h with
  | nil => exact k
  | run hg h _ ih => exact .run hg h (ih k)
  | shut hg h _ ih => exact .shut hg h (ih k)
theorem QPath.keep {ops l : List Oper} {e e' : Env S} (h : QPath P un bx ops l e e') : ∀ i, i ∉ dsts l → look e' i = look e i := by
  induction h with
  | nil => intro i _; rfl
  | @run o l e e' p hg h k ih =>
    intro i hi
    simp only [dsts, List.filterMap_cons] at hi
    cases hd : o.dst with
    | none => rw [hd] at hi; rw [ih i hi, hd]; rfl
    | some d => rw [hd] at hi; simp at hi; rw [ih i (by simpa [dsts] using hi.2), look_push_ne (by rw [hd]; simpa using fun h => hi.1 h.symm)]
  | @shut o l e e' d want hg h k ih =>
    intro i hi
    simp only [dsts, List.filterMap_cons] at hi
    cases hd : o.dst with
    | none => rw [hd] at hi; rw [ih i hi, hd]; rfl
    | some d => rw [hd] at hi; simp at hi; rw [ih i (by simpa [dsts] using hi.2), look_push_ne (by rw [hd]; simpa using fun h => hi.1 h.symm)]

theorem segOf_spec {d : Nat} : ∀ {l sg r : List Oper} {dd : Nat}, segOf d l = some (sg, dd, r) → l = sg ++ r ∧ dd ∈ dsts sg
  | [], _, _, _, h => by simp [segOf] at h
  | o :: l, sg, r, dd, h => by
    unfold segOf at h
    have rest : ∀ {s x y}, segOf d l = some (s, x, y) → o :: s = sg ∧ x = dd ∧ y = r → o :: l = sg ++ r ∧ dd ∈ dsts sg := by
      rintro s x y hs ⟨rfl, rfl, rfl⟩
      obtain ⟨h1, h2⟩ := segOf_spec hs
      refine ⟨by rw [h1]; rfl, ?_⟩
      simp only [dsts, List.filterMap_cons]
      cases o.dst <;> simp [dsts] at h2 ⊢
      · exact h2
      · exact .inr h2
    split at h
    · rename_i t _ _ dd' ho hdst
      cases hb : Nat.beq t d with
      | true =>
        rw [hb] at h
        cases h
        exact ⟨rfl, by simp [dsts, hdst]⟩
      | false =>
        rw [hb] at h
        simp only [cond_false] at h
        split at h
        · rename_i s x y hs; cases h; exact rest hs ⟨rfl, rfl, rfl⟩
        · cases h
    · split at h
      · rename_i s x y hs; cases h; exact rest hs ⟨rfl, rfl, rfl⟩
      · cases h

theorem look_without (W : List Nat) : ∀ (e : Env S) (i : Nat), look (without W e) i = if i ∈ W then none else look e i
  | [], i => by simp [without, look]
  | (j, p) :: r, i => by
    simp only [without]
    by_cases hj : j ∈ W
    · have : W.contains j = true := by simpa using hj
      rw [this]
      simp only [cond_true, look]
      cases hb : Nat.beq j i with
      | true => have := Nat.eq_of_beq_eq_true hb; subst this; rw [look_without W r j]; simp [hj]
      | false => simpa using look_without W r i
    · have : W.contains j = false := by simpa using hj
      rw [this]
      simp only [cond_false, look]
      cases hb : Nat.beq j i with
      | true => have := Nat.eq_of_beq_eq_true hb; subst this; simp [hj]
      | false => simpa using look_without W r i

def Known (kn : List (Nat × Bool)) (e : Env S) : Prop := ∀ d v, lookK kn d = some v → look e d = some (.bool v)
theorem lookK_dropK {d : Option Nat} : ∀ {kn : List (Nat × Bool)} {i : Nat} {v : Bool}, lookK (dropK d kn) i = some v → d ≠ some i ∧ lookK kn i = some v
  | [], _, _, h => by simp [dropK, lookK] at h
  | (j, b) :: r, i, v, h => by
    unfold dropK at h
    cases d with
    | none =>
      simp only [cond_false, lookK] at h ⊢
      cases hb : Nat.beq j i with
      | true => rw [hb] at h; exact ⟨by simp, h⟩
      | false => rw [hb] at h; exact lookK_dropK h
    | some k =>
      simp only at h
      cases hjk : Nat.beq j k with
      | true =>
        rw [hjk] at h
        simp only [cond_true] at h
        obtain ⟨h1, h2⟩ := lookK_dropK h
        refine ⟨h1, ?_⟩
        simp only [lookK]
        cases hb : Nat.beq j i with
        | true => exact absurd (by rw [← Nat.eq_of_beq_eq_true hjk, Nat.eq_of_beq_eq_true hb]) h1
        | false => exact h2
      | false =>
        rw [hjk] at h
        simp only [cond_false, lookK] at h ⊢
        cases hb : Nat.beq j i with
        | true =>
          rw [hb] at h
          refine ⟨fun hk => ?_, h⟩
          cases hk
          rw [hb] at hjk; cases hjk
        | false => rw [hb] at h; exact lookK_dropK h
theorem lookK_dropL {W : List Nat} : ∀ {kn : List (Nat × Bool)} {i : Nat} {v : Bool}, lookK (dropL W kn) i = some v → i ∉ W ∧ lookK kn i = some v
  | [], _, _, h => by simp [dropL, lookK] at h
  | (j, b) :: r, i, v, h => by
    unfold dropL at h
    by_cases hj : j ∈ W
    · have : W.contains j = true := by simpa using hj
      rw [this] at h
      obtain ⟨h1, h2⟩ := lookK_dropL h
      refine ⟨h1, ?_⟩
      simp only [lookK]
      cases hb : Nat.beq j i with
      | true => exact absurd (Nat.eq_of_beq_eq_true hb ▸ hj) h1
      | false => exact h2
    · have : W.contains j = false := by simpa using hj
      rw [this] at h
      simp only [cond_false, lookK] at h ⊢
      cases hb : Nat.beq j i with
      | true => rw [hb] at h; exact ⟨Nat.eq_of_beq_eq_true hb ▸ hj, h⟩
      | false => rw [hb] at h; exact lookK_dropL h
theorem Known.push {kn : List (Nat × Bool)} {e : Env S} (h : Known kn e) (d : Option Nat) (p : PV S) : Known (dropK d kn) (push d p e) := by
  intro i v hv
  obtain ⟨h1, h2⟩ := lookK_dropK hv
  rw [look_push_ne h1]
  exact h i v h2

theorem asB_some {d : Nat} {e : Env S} {v : Bool} (h : asB d e = some v) : look e d = some (.bool v) := by
  unfold asB at h
  split at h
  · rename_i b hb; cases h; exact hb
  · cases h

set_option maxHeartbeats 4000000 in
theorem execQ_path (hun : UniOk un) (ht : TbOk P un tb) (hor : SoundO P un orc) (hin : SoundI P un inl) {ops : List Oper} : ∀ (n : Nat) (kn : List (Nat × Bool)) (l : List Oper) (e : Env S) (R : Type) (K : Env S → Option R) (r : R), execQ un tb orc inl ops bx n kn l e R K = some r → Known kn e →
    ∃ e' e'', K e' = some r ∧ QPath P un bx ops l e e'' ∧ Sub e' e'' ∧ ∀ i, i ∉ dsts l → look e' i = look e i := by
  intro n
  induction n with
  | zero =>
    intro kn l e R K r h hkn
    cases l with
    | nil => simp only [execQ] at h; exact ⟨e, e, h, .nil, Sub.refl e, fun _ _ => rfl⟩
    | cons o l => simp [execQ] at h
  | succ n ih =>
    intro kn l e R K r h hkn
    cases l with
    | nil => simp only [execQ] at h; exact ⟨e, e, h, .nil, Sub.refl e, fun _ _ => rfl⟩
    | cons o l =>
      unfold execQ at h
      have keepc : ∀ {p : PV S} {e' : Env S}, (∀ i, i ∉ dsts l → look e' i = look (push o.dst p e) i) → ∀ i, i ∉ dsts (o :: l) → look e' i = look e i := by
        intro p e' hh i hi
        simp only [dsts, List.filterMap_cons] at hi
        cases hd : o.dst with
        | none => rw [hd] at hi hh; rw [hh i hi]; rfl
        | some d => rw [hd] at hi hh; simp at hi; rw [hh i (by simpa [dsts] using hi.2), look_push_ne (by simpa using fun h => hi.1 h.symm)]
      have step : popQ un tb orc inl o e bx (fun p => execQ un tb orc inl ops bx n (dropK o.dst kn) l (push o.dst p e) R K) = some r → (o.guard = none ∨ ∃ d want, gslot ops o = some (d, want) ∧ look e d = some (.bool want)) → ∃ e' e'', K e' = some r ∧ QPath P un bx ops (o :: l) e e'' ∧ Sub e' e'' ∧ ∀ i, i ∉ dsts (o :: l) → look e' i = look e i := by
        intro h hg
        rw [← popQ_restr] at h
        obtain ⟨p, h1, h2⟩ := popQ_gives hun ht hor hin h
        obtain ⟨e', e'', g1, g2, g3, g4⟩ := ih _ _ _ _ _ _ h1 (hkn.push o.dst p)
        exact ⟨e', e'', g1, .run hg h2 g2, g3, keepc g4⟩
      have shut : ∀ {d want}, gslot ops o = some (d, want) → (look e d = some (.bool (!want)) ∨ look e d = some undefV) → execQ un tb orc inl ops bx n (dropK o.dst kn) l (push o.dst undefV e) R K = some r → ∃ e' e'', K e' = some r ∧ QPath P un bx ops (o :: l) e e'' ∧ Sub e' e'' ∧ ∀ i, i ∉ dsts (o :: l) → look e' i = look e i := by
        intro d want hg hl h
        obtain ⟨e', e'', g1, g2, g3, g4⟩ := ih _ _ _ _ _ _ h (hkn.push o.dst undefV)
        exact ⟨e', e'', g1, .shut hg hl g2, g3, keepc g4⟩
      split at h
      · rename_i hg; exact step h (.inl hg)
      · split at h
        · cases h
        · rename_i d want hgs
          split at h
          · rename_i v hv
            have hlk := hkn d v hv
            cases hb : bbeq v want with
            | true =>
              rw [hb] at h
              have : v = want := by cases v <;> cases want <;> simp_all [bbeq]
              subst this
              exact step h (.inr ⟨d, v, hgs, hlk⟩)
            | false =>
              rw [hb] at h
              have : v = !want := by cases v <;> cases want <;> simp_all [bbeq]
              subst this
              exact shut hgs (.inl hlk) h
          · split at h
            · rename_i hlk; exact shut hgs (.inr hlk) h
            · rename_i b hlk
              split at h
              · rename_i sg dd rr hseg
                obtain ⟨hl, hdd⟩ := segOf_spec hseg
                obtain ⟨v, h1, h2⟩ := ob_some h
                have hsegp : ∃ e1 e1'', look e1 dd = some (.bool v) ∧ QPath P un bx ops sg e e1'' ∧ Sub e1 e1'' := by
                  have one : ∀ b', b = b' → execQ un tb orc inl ops bx n ((d, b') :: kn) sg ((d, .bool b') :: e) Bool (asB dd) = some v → ∃ e1 e1'', look e1 dd = some (.bool v) ∧ QPath P un bx ops sg e e1'' ∧ Sub e1 e1'' := by
                    rintro b' rfl hx
                    obtain ⟨e', e'', g1, g2, g3, _⟩ := ih _ _ _ _ _ _ hx (fun i u hu => by
                      simp only [lookK, look] at hu ⊢
                      cases hb : Nat.beq d i with
                      | true => rw [hb] at hu; simp at hu; subst hu; rfl
                      | false => rw [hb] at hu; exact hkn i u hu)
                    have hsub : Sub ((d, .bool b) :: e) e := by
                      intro i p hp
                      simp only [look] at hp
                      cases hb : Nat.beq d i with
                      | true => rw [hb] at hp; simp at hp; subst hp; rw [← Nat.eq_of_beq_eq_true hb]; exact hlk
                      | false => rw [hb] at hp; exact hp
                    obtain ⟨e2, k1, k2⟩ := g2.mono hsub
                    exact ⟨e', e2, asB_some g1, k1, g3.trans k2⟩
                  rcases br_some h1 with ⟨hb, h1⟩ | ⟨hb, h1⟩
                  · exact one true hb h1
                  · exact one false hb h1
                obtain ⟨e1, e1'', g1, g2, g3⟩ := hsegp
                have hsub : Sub ((dd, .bool v) :: without (dsts sg) e) e1'' := by
                  intro i p hp
                  simp only [look] at hp
                  cases hb : Nat.beq dd i with
                  | true => rw [hb] at hp; simp at hp; subst hp; rw [← Nat.eq_of_beq_eq_true hb]; exact g3 _ _ g1
                  | false =>
                    rw [hb] at hp
                    simp only [cond_false, look_without] at hp
                    split at hp
                    · cases hp
                    · rename_i hi; rw [g2.keep i hi]; exact hp
                obtain ⟨e', e'', k1, k2, k3, k4⟩ := ih _ _ _ _ _ _ h2 (fun i u hu => by
                  obtain ⟨q1, q2⟩ := lookK_dropL hu
                  simp only [look]
                  cases hb : Nat.beq dd i with
                  | true => exact absurd (Nat.eq_of_beq_eq_true hb ▸ hdd) q1
                  | false => simp only [cond_false, look_without, if_neg q1]; exact hkn i u q2)
                obtain ⟨e2, m1, m2⟩ := k2.mono hsub
                refine ⟨e', e2, k1, hl ▸ g2.append m1, k3.trans m2, fun i hi => ?_⟩
                rw [hl] at hi
                simp only [dsts, List.filterMap_append, List.mem_append, not_or] at hi
                rw [k4 i hi.2]
                simp only [look]
                cases hb : Nat.beq dd i with
                | true => exact absurd (Nat.eq_of_beq_eq_true hb ▸ hdd) hi.1
                | false => simp only [cond_false, look_without]; rw [if_neg (show i ∉ dsts sg from hi.1)]
              · cases h
            · cases h

/-! in the text's order -/
def isB (want : Bool) : Value → Bool
  | .bool b => b == want
  | _ => false
theorem yielded_of {ops : Array Oper} {j d : Nat} (hj : (ops[j]?).bind (·.dst) = some d) {v : Value} (h : a.tmps.getD d undef = v) (want : Bool) :
    (yielded ops a.tmps j == some want) = isB want v := by
  unfold yielded
  rw [hj]
  simp only [Option.bind_some]
  rw [Array.getD_eq_getD_getElem?] at h
  cases hx : a.tmps[d]? with
  | none => rw [hx] at h; simp at h; subst h; simp [undef, isB]
  | some u => rw [hx] at h; simp at h; subst h; cases u <;> simp [isB]
theorem gslot_spec {ops : List Oper} {d : Nat} {want : Bool} (h : gslot ops o = some (d, want)) : ∃ j, o.guard = some (j, want) ∧ (ops.toArray[j]?).bind (·.dst) = some d := by
  unfold gslot at h
  split at h
  · rename_i j w' hg
    split at h
    · rename_i oj hj
      split at h
      · rename_i d' hd; cases h; exact ⟨j, hg, by simp [hj, hd]⟩
      · cases h
    · cases h
  · cases h
theorem wanted_yes {ops : List Oper} {d : Nat} {want : Bool} (h : gslot ops o = some (d, want)) (hs : Holds un E D0 N e bx a w) (hl : look e d = some (.bool want)) : Region.wanted o (yielded ops.toArray a.tmps) = true := by
  obtain ⟨j, h1, h2⟩ := gslot_spec h
  obtain ⟨D, H, hs, _⟩ := hs
  have := hs.slots d _ hl
  simp only [Rep] at this
  unfold Region.wanted
  rw [h1]
  simp only
  rw [yielded_of h2 this]; simp [isB]
theorem wanted_no {ops : List Oper} {d : Nat} {want : Bool} (h : gslot ops o = some (d, want)) (hs : Holds un E D0 N e bx a w) (hl : look e d = some (.bool (!want)) ∨ look e d = some undefV) : Region.wanted o (yielded ops.toArray a.tmps) = false := by
  obtain ⟨j, h1, h2⟩ := gslot_spec h
  obtain ⟨D, H, hs, _⟩ := hs
  unfold Region.wanted
  rw [h1]
  simp only
  rcases hl with hl | hl
  · have := hs.slots d _ hl
    simp only [Rep] at this
    rw [yielded_of h2 this]; cases want <;> simp [isB]
  · have := hs.slots d _ hl
    simp only [undefV, Rep] at this
    obtain ⟨cs, h3, _⟩ := this
    rw [yielded_of h2 h3]; rfl
theorem Holds.undef {d : Option Nat} (hd : ∀ k, d = some k → k < N.n) (hs : Holds un E D0 N e bx a w) : Holds un E D0 N (push d undefV e) bx (a.put d undef) w := by
  obtain ⟨D, H, hs, hD⟩ := hs
  exact ⟨D, H, hs.step hs.inn hs.boxes hs.slots hd (by simp only [undefV, Rep]; exact ⟨[], rfl, by simp [RepL]⟩), hD⟩

theorem path_wp {ops l : List Oper} {e e' : Env S} (h : QPath P un bx ops l e e') : ∀ {a : Act} {w : World} {rest : List Oper}, (∀ o ∈ l, ∀ d, o.dst = some d → d < N.n) → Holds un E D0 N e bx a w → (∀ a' w', Holds un E D0 N e' bx a' w' → wpList P ops.toArray Q rest a' w') → wpList P ops.toArray Q (l ++ rest) a w := by
  induction h with
  | nil => intro a w rest _ hs hk; exact hk a w hs
  | @run o l e e' p hg h k ih =>
    intro a w rest hd hs hk
    refine wpList_step fun K hK => ?_
    have hw : Region.wanted o (yielded ops.toArray a.tmps) = true := by
      rcases hg with hg | ⟨d, want, g1, g2⟩
      · simp [Region.wanted, hg]
      · exact wanted_yes g1 hs g2
    rw [if_pos hw]
    exact gives_step (h.sub (restr_sub _ _)) (hd o (by simp)) hs fun a' w' h1 => hK a' w' (ih (fun o ho => hd o (by simp [ho])) h1 hk)
  | @shut o l e e' d want hg h k ih =>
    intro a w rest hd hs hk
    refine wpList_step fun K hK => ?_
    rw [wanted_no hg hs h, if_neg (by simp)]
    exact hK _ _ (ih (fun o ho => hd o (by simp [ho])) (hs.undef (hd o (by simp))) hk)

theorem execR_wp (hun : UniOk un) (ht : TbOk P un tb) (hor : SoundO P un orc) (hin : SoundI P un inl) {ops : List Oper} {KX : Exit → Env S → Bxs S → Option R} : ∀ (n : Nat) (l : List Oper) (e : Env S) (bx : Bxs S) (K : Env S → Bxs S → Option R) {a : Act} {w : World}, execR un tb orc inl ops KX n l e bx K = some r → (∀ o ∈ l, ∀ d, o.dst = some d → d < N.n) → Holds un E D0 N e bx a w →
    (∀ e' bx', K e' bx' = some r → Pres (dsts l) e e' → PresB bx bx' → ∀ a' w', Holds un E D0 N e' bx' a' w' → Q .normal a' w') →
    (∀ x e' bx', KX x e' bx' = some r → Pres (dsts l) e e' → PresB bx bx' → ∀ a' w', Holds un E D0 N e' bx' a' w' → Q x a' w') → wpList P ops.toArray Q l a w := by
  intro n
  induction n with
  | zero =>
    intro l e bx K a w h hd hs hk hkx
    cases l with
    | nil => simp only [execR] at h; exact wpList_nil (hk e bx h (Pres.refl _ _) (PresB.refl _) a w hs)
    | cons o l => simp [execR] at h
  | succ n ih =>
    intro l e bx K a w h hd hs hk hkx
    cases l with
    | nil => simp only [execR] at h; exact wpList_nil (hk e bx h (Pres.refl _ _) (PresB.refl _) a w hs)
    | cons o l =>
      have hmem : ∀ i, i ∈ dsts l → i ∈ dsts (o :: l) := fun i hi => by
        simp only [dsts, List.filterMap_cons]
        cases o.dst <;> simp [dsts] at hi ⊢
        · exact hi
        · exact .inr hi
      unfold execR at h
      split at h
      · rename_i hg
        refine wpList_plain hg fun K' hK' => ?_
        refine popK_wp hun ht hor hin h (hd o (by simp)) hs (fun p e1 bx1 h1 hp hb a' w' h2 => hK' a' w' ?_) fun x e' bx' h1 hp hb => hkx x e' bx' h1 (hp.mono fun i hi => by cases hi) hb
        have pr : ∀ e2, Pres (dsts l) (push o.dst p e1) e2 → Pres (dsts (o :: l)) e e2 := fun e2 hp2 => by
          refine ((hp.trans (Pres.push [] e1 o.dst p)).trans hp2).mono fun i hi => ?_
          simp only [List.nil_append, List.mem_append] at hi
          rcases hi with hi | hi
          · simp only [dsts, List.filterMap_cons]
            cases ho : o.dst <;> rw [ho] at hi <;> simp at hi ⊢
            exact .inl hi
          · exact hmem i hi
        exact ih l _ _ K h1 (fun o ho => hd o (by simp [ho])) h2 (fun e2 bx2 h3 hp2 hb2 a2 w2 h4 => hk e2 bx2 h3 (pr e2 hp2) (hb.trans hb2) a2 w2 h4) fun x e2 bx2 h3 hp2 hb2 a2 w2 h4 => hkx x e2 bx2 h3 (pr e2 hp2) (hb.trans hb2) a2 w2 h4
      · split at h
        · cases h
        · rename_i d want hgs
          split at h
          · rename_i b sg dd rr hlk hseg
            obtain ⟨hl, hdd⟩ := segOf_spec hseg
            obtain ⟨v, h1, h2⟩ := ob_some h
            have hsegp : ∃ e1 e1'', look e1 dd = some (.bool v) ∧ QPath P un bx ops sg e e1'' ∧ Sub e1 e1'' := by
              have one : ∀ b', b = b' → execQ un tb orc inl ops bx (2 * sg.length) [(d, b')] sg ((d, .bool b') :: e) Bool (asB dd) = some v → ∃ e1 e1'', look e1 dd = some (.bool v) ∧ QPath P un bx ops sg e e1'' ∧ Sub e1 e1'' := by
                rintro b' rfl hx
                obtain ⟨e', e'', g1, g2, g3, _⟩ := execQ_path hun ht hor hin _ _ _ _ _ _ _ hx (fun i u hu => by
                  simp only [lookK, look] at hu ⊢
                  cases hb : Nat.beq d i with
                  | true => rw [hb] at hu; simp at hu; subst hu; rfl
                  | false => rw [hb] at hu; simp at hu)
                have hsub : Sub ((d, .bool b) :: e) e := by
                  intro i p hp
                  simp only [look] at hp
                  cases hb : Nat.beq d i with
                  | true => rw [hb] at hp; simp at hp; subst hp; rw [← Nat.eq_of_beq_eq_true hb]; exact hlk
                  | false => rw [hb] at hp; exact hp
                obtain ⟨e2, k1, k2⟩ := g2.mono hsub
                exact ⟨e', e2, asB_some g1, k1, g3.trans k2⟩
              rcases br_some h1 with ⟨hb, h1⟩ | ⟨hb, h1⟩
              · exact one true hb h1
              · exact one false hb h1
            obtain ⟨e1, e1'', g1, g2, g3⟩ := hsegp
            have hsub : Sub ((dd, .bool v) :: without (dsts sg) e) e1'' := by
              intro i p hp
              simp only [look] at hp
              cases hb : Nat.beq dd i with
              | true => rw [hb] at hp; simp at hp; subst hp; rw [← Nat.eq_of_beq_eq_true hb]; exact g3 _ _ g1
              | false =>
                rw [hb] at hp
                simp only [cond_false, look_without] at hp
                split at hp
                · cases hp
                · rename_i hi; rw [g2.keep i hi]; exact hp
            rw [hl] at hd ⊢
            refine path_wp g2 (fun o ho => hd o (by simp [ho])) hs fun a' w' h3 => ?_
            have pr : ∀ e2, Pres (dsts rr) ((dd, .bool v) :: without (dsts sg) e) e2 → Pres (dsts (o :: l)) e e2 := fun e2 hp2 => by
              intro i p hi hp hrow
              rw [hl] at hi
              simp only [dsts, List.filterMap_append, List.mem_append, not_or] at hi
              refine hp2 i p hi.2 ?_ hrow
              simp only [look]
              cases hb : Nat.beq dd i with
              | true => exact absurd (Nat.eq_of_beq_eq_true hb ▸ hdd) hi.1
              | false => simp only [cond_false, look_without]; rw [if_neg (show i ∉ dsts sg from hi.1)]; exact hp
            exact ih rr _ _ K h2 (fun o ho => hd o (by simp [ho])) (h3.sub hsub) (fun e2 bx2 h4 hp2 hb2 a2 w2 h5 => hk e2 bx2 h4 (pr e2 hp2) hb2 a2 w2 h5) fun x e2 bx2 h4 hp2 hb2 a2 w2 h5 => hkx x e2 bx2 h4 (pr e2 hp2) hb2 a2 w2 h5
          · cases h
end
end Pe
