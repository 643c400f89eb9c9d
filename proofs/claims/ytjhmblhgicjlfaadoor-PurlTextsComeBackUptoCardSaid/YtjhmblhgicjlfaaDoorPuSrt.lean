/- The stable sort of the qualifiers puts them in order by their names. -/
import Derived.Sort.Walk0
import Derived.Test.YtjhmblhgicjlfaaDoorPuB
import Derived.Test.YtjhmblhgicjlfaaDoorPeE
set_option maxRecDepth 100000
namespace Pe
/-- What y gives is so. -/
def Giv {α : Type} (y : Option α) (Φ : α → Prop) : Prop := ∃ r, y = some r ∧ Φ r
section
variable {α β σ R : Type} {Φ : α → Prop} {Ψ : R → Prop}
theorem Giv.mk {a : α} (h : Φ a) : Giv (some a) Φ := ⟨a, rfl, h⟩
theorem Giv.of_eq {y : Option α} {a : α} (h : y = some a) (hp : Φ a) : Giv y Φ := ⟨a, h, hp⟩
theorem Giv.ob {y : Option α} {f : α → Option R} (h : Giv y Φ) (k : ∀ a, Φ a → Giv (f a) Ψ) : Giv (Pe.ob y f) Ψ := by
 obtain ⟨a, rfl, h⟩ := h; exact k a h
theorem Giv.cut {y : Option (σ ⊕ R)} {Φ : σ ⊕ R → Prop} {g : σ → Option R} (h : Giv y Φ) (k : ∀ a, Φ a → Giv (cutM (some a) g) Ψ) : Giv (cutM y g) Ψ := by
 obtain ⟨a, rfl, h⟩ := h; exact k a h
theorem Giv.oc {y : Option (α ⊕ β)} {Φ : α ⊕ β → Prop} {f : α → Option R} {g : β → Option R} (h : Giv y Φ) (k : ∀ a, Φ a → Giv (Pe.oc (some a) f g) Ψ) : Giv (Pe.oc y f g) Ψ := by
 obtain ⟨a, rfl, h⟩ := h; exact k a h
theorem Giv.imp {y : Option R} {Φ : R → Prop} (h : Giv y Φ) (k : ∀ a, Φ a → Ψ a) : Giv y Ψ := by
 obtain ⟨a, e, h⟩ := h; exact ⟨a, e, k a h⟩
theorem same_one {α : Type} (x : Option α) : same x x = x := if_pos rfl
theorem idxN {α : Type} {l : List α} {k : Nat} (h : k < l.length) : idx? l (k : Int) = some k := by
 show (bif Nat.blt k l.length then some k else none) = some k
 rw [show Nat.blt k l.length = true by rw [Nat.blt_eq]; exact h]; rfl
theorem swap_ev {L : List α} {i j : Int} {a b : Nat} {p q : α} (hi : i = (a : Int)) (hj : j = (b : Int)) (ha : L[a]? = some p) (hb : L[b]? = some q) (K : List α → Option R) :
  (Pe.ob (idx? L j) fun j2 => Pe.ob (get? L j2) fun y3 => Pe.ob (idx? L i) fun j4 => Pe.ob (get? L j4) fun y5 => Pe.ob (idx? L i) fun j6 => same (Pe.ob (get? L j6) fun _ => Pe.ob (idx? (L.set j6 y3) j) fun j8 => Pe.ob (get? (L.set j6 y3) j8) fun _ => K ((L.set j6 y3).set j8 y5)) (Pe.ob (get? L j6) fun _ => Pe.ob (idx? (L.set j6 y3) j) fun j8 => Pe.ob (get? (L.set j6 y3) j8) fun _ => K ((L.set j6 y3).set j8 y5))) = K ((L.set a q).set b p) := by
 subst hi; subst hj
 have hal : a < L.length := (List.getElem?_eq_some_iff.1 ha).1
 have hbl : b < L.length := (List.getElem?_eq_some_iff.1 hb).1
 have hbl2 : b < (L.set a q).length := by simpa using hbl
 simp only [idxN hbl, idxN hal, idxN hbl2, ob_some_eq, get?, ha, hb, List.getElem?_eq_getElem hbl2, same_one]
theorem swap_two' (X M Y : List α) (p q : α) : ((X ++ p :: (M ++ q :: Y)).set (X.length + 1 + M.length) p).set X.length q = X ++ q :: (M ++ p :: Y) := by
 rw [List.set_comm _ _ (by omega)]; exact swap_two X M Y p q
theorem get_two' (X Y : List α) (p q : α) : (X ++ p :: q :: Y)[X.length + 1]? = some q := get_two X [] Y p q
theorem swap_next (X Y : List α) (p q : α) : ((X ++ p :: q :: Y).set X.length q).set (X.length + 1) p = X ++ q :: p :: Y := swap_two X [] Y p q
theorem swap_next' (X Y : List α) (p q : α) : ((X ++ p :: q :: Y).set (X.length + 1) p).set X.length q = X ++ q :: p :: Y := swap_two' X [] Y p q
end
theorem wrapZ {x : Int} {n : Nat} (h : x = (n : Int)) (hn : n ≤ 4000000000) : Go.IntKind.i64.wrap x = (n : Int) := by
 subst h; exact wrap_id (by omega) (by omega)
/-- The middle of two places. -/
theorem midI {i j : Nat} (h : i + j ≤ 4000000000) : Go.IntKind.i64.wrap (shrI .u64 (Go.IntKind.u64.wrap (Go.IntKind.i64.wrap ((i : Int) + (j : Int)))) 1) = (((i + j) / 2 : Nat) : Int) := by
 rw [show Go.IntKind.i64.wrap ((i : Int) + (j : Int)) = ((i + j : Nat) : Int) from wrapZ (by omega) h]
 have e1 : Go.IntKind.u64.wrap (((i + j : Nat) : Int)) = ((i + j : Nat) : Int) := by
  unfold Go.IntKind.wrap; simp [Go.IntKind.bits, Go.IntKind.signed]; omega
 rw [e1]
 unfold shrI
 have e2 : (2 : Int) ^ (min (1 : Int).toNat Go.IntKind.u64.bits) = 2 := by decide
 rw [e2]
 exact wrapZ (by rw [Int.fdiv_eq_ediv_of_nonneg _ (by decide)]; omega) (by omega)
end Pe
namespace Pe.Tryd
open Go Go.Proofs Pe
abbrev Q := Gt.Pair
/-! how names compare -/
def cmpS (x y : List UInt8) : Int := bif Op.bytesLess x y then -1 else bif !((Op.bytesLess x y) || (x == y)) then 1 else 0
def ltQ (a b : Q) : Bool := Op.bytesLess a.name b.name
theorem s41 (n : Nat) (x y : List UInt8) : m41 (orcN (n + 1)) x y = some (cmpS x y, ()) := by
 have h : ∀ x, @Eq (Option (Bool × Unit)) ((orcN (n + 1)).d 92 [.str x] [.bool]) (some (false, ())) := fun x => (q92 n x).trans (by unfold m92; simp)
 unfold m41 cmpS
 simp only [h, ob_some_eq, br_false]
 cases Op.bytesLess x y <;> cases (x == y) <;> rfl
theorem L40 (n : Nat) (a b : Q) : @Eq (Option (Int × Unit)) ((orcN (n + 3)).d 40 [.st 3 a, .st 3 b] [(.int .i64)]) (some (cmpS a.name b.name, ())) := by
 refine (q40 (n + 2) a b).trans ?_
 have h : @Eq (Option (Int × Unit)) ((orcN (n + 2)).d 41 [.str a.name, .str b.name] [(.int .i64)]) (some (cmpS a.name b.name, ())) := (q41 (n + 1) _ _).trans (s41 n _ _)
 unfold m40
 rw [h]; rfl
theorem cmp_lt (a b : Q) : decide (cmpS a.name b.name < 0) = ltQ a b := by
 unfold cmpS ltQ
 cases Op.bytesLess a.name b.name <;> cases (a.name == b.name) <;> rfl
theorem woQ : WO ltQ where
 asym a b h := by
  unfold ltQ at *
  rw [bytesLess_eq] at *
  have := of_decide_eq_true h
  exact decide_eq_false (List.lt_asymm this)
 trans a b c h1 h2 := by
  unfold ltQ at *
  rw [bytesLess_eq] at *
  have h1 := of_decide_eq_false h1
  have h2 := of_decide_eq_false h2
  exact decide_eq_false (fun h => (List.le_trans (l₁ := a.name) (l₂ := b.name) (l₃ := c.name) h1 h2) h)
/-! ranges change places -/
theorem s156 (o : Orc Sx) {X A M C Y : List Q} (h : A.length = C.length) (hl : X.length + A.length + M.length + C.length + Y.length ≤ 1000000000) :
  m156 o (X ++ (A ++ (M ++ (C ++ Y)))) ((X.length : Nat) : Int) ((X.length + A.length + M.length : Nat) : Int) ((A.length : Nat) : Int) = some (.inl (X ++ (C ++ (M ++ (A ++ Y))), ())) := by
 unfold m156
 rw [show X ++ (A ++ (M ++ (C ++ Y))) = (X ++ []) ++ ((A ++ M ++ []) ++ (C ++ Y)) by simp]
 refine (swap_range (fun l => (Sum.inl (l, ()) : (List Q × Unit) ⊕ Unit)) X M Y A.length ?_ ?_ A [] [] C rfl h (by simp)).trans (by simp)
 ·intro A1 A2 B1 B2 p q e1 e2 e3
  dsimp only
  rw [decide_eq_true (show ((A1.length : Nat) : Int) < ((A.length : Nat) : Int) by omega), br_true]
  refine (swap_ev (a := (X ++ B1).length) (b := (X ++ B1).length + 1 + (A2 ++ M ++ A1).length) (p := p) (q := q) (wrapZ ?_ ?_) (wrapZ ?_ ?_) (get_mid _ _ _) (get_two _ _ _ _ _) (fun l => (some (.inl (IntKind.i64.wrap (((A1.length : Nat) : Int) + 1), l, ())) : Option ((Int × List Q × Unit) ⊕ ((List Q × Unit) ⊕ Unit))))).trans ?_
  all_goals try (simp only [List.length_append]; omega)
  rw [swap_two, wrapZ (n := A1.length + 1) (by omega) (by omega)]
 ·intro l
  dsimp only
  rw [decide_eq_false (by omega), br_false]
theorem L156 (n : Nat) {X A M C Y : List Q} {L : List Q} {a b k : Int} (h : A.length = C.length) (hl : X.length + A.length + M.length + C.length + Y.length ≤ 1000000000) (hL : L = X ++ (A ++ (M ++ (C ++ Y)))) (ha : a = ((X.length : Nat) : Int)) (hb : b = ((X.length + A.length + M.length : Nat) : Int)) (hk : k = ((A.length : Nat) : Int)) :
  @Eq (Option ((List Q × Unit) ⊕ Unit)) ((orcN (n + 1)).l 156 sg156 ((L, a, b, k, ()) : List Q × Int × Int × Int × Unit)) (some (.inl (X ++ (C ++ (M ++ (A ++ Y))), ()))) := by
 subst hL; subst ha; subst hb; subst hk
 exact (q156 n _ _ _ _).trans (s156 _ h hl)
theorem rot_gives {α R : Type} {f : Int × Int × List α × Unit → Option ((Int × Int × List α × Unit) ⊕ R)} (out : Nat → List α → R) (m t : Nat) (X U V Y : List α)
  (hgt : ∀ X U1 U2 V Y : List α, X.length + (U1.length + U2.length) = m → X.length + (U1.length + U2.length) + V.length + Y.length = t → U1.length = V.length → U2 ≠ [] →
   f (((U1.length + U2.length : Nat) : Int), (V.length : Int), X ++ ((U1 ++ U2) ++ (V ++ Y)), ()) = some (.inl ((U2.length : Int), (V.length : Int), X ++ (V ++ (U2 ++ (U1 ++ Y))), ())))
  (hlt : ∀ X U V1 V2 Y : List α, X.length + U.length = m → X.length + U.length + (V1.length + V2.length) + Y.length = t → V2.length = U.length → V1 ≠ [] →
   f ((U.length : Int), ((V1.length + V2.length : Nat) : Int), X ++ (U ++ ((V1 ++ V2) ++ Y)), ()) = some (.inl ((U.length : Int), (V1.length : Int), X ++ (V2 ++ (V1 ++ (U ++ Y))), ())))
  (heq : ∀ (i : Nat) l, f ((i : Int), (i : Int), l, ()) = some (.inr (out i l))) (hm : X.length + U.length = m) (ht : X.length + U.length + V.length + Y.length = t) (hU : U ≠ []) (hV : V ≠ []) :
  Giv (loopM f ((U.length : Int), (V.length : Int), X ++ (U ++ (V ++ Y)), ())) fun r => ∃ X' A B Y' : List α, A.length = B.length ∧ X'.length + A.length = m ∧ X' ++ (B ++ (A ++ Y')) = X ++ (V ++ (U ++ Y)) ∧ r = out A.length (X' ++ (A ++ (B ++ Y'))) := by
 obtain ⟨X', A, B, Y', g1, g2, g3, g4⟩ := rot_loop out m t hgt hlt heq _ X U V Y (Nat.le_refl _) hm ht hU hV
 exact ⟨_, g4, X', A, B, Y', g1, g2, g3, rfl⟩
/-! rotation -/
theorem nat_beq {a b : Nat} : (((a : Nat) : Int) == ((b : Nat) : Int)) = (a == b) := by rw [Bool.eq_iff_iff, beq_iff_eq, beq_iff_eq]; omega
theorem nat_bne {a b : Nat} : (((a : Nat) : Int) != ((b : Nat) : Int)) = (a != b) := congrArg (!·) nat_beq
theorem pos_of {α : Type} {l : List α} (h : l ≠ []) : 0 < l.length := List.length_pos_iff.2 h
theorem s142 (n : Nat) {X U V Y : List Q} (hU : U ≠ []) (hV : V ≠ []) (hl : X.length + U.length + V.length + Y.length ≤ 1000000000) :
  m142 (orcN (n + 1)) (X ++ (U ++ (V ++ Y))) ((X.length : Nat) : Int) ((X.length + U.length : Nat) : Int) ((X.length + U.length + V.length : Nat) : Int) = some (.inl (X ++ (V ++ (U ++ Y)), ())) := by
 have key : Giv (m142 (orcN (n + 1)) (X ++ (U ++ (V ++ Y))) ((X.length : Nat) : Int) ((X.length + U.length : Nat) : Int) ((X.length + U.length + V.length : Nat) : Int)) fun r => r = .inl (X ++ (V ++ (U ++ Y)), ()) := by
  have hT : (X ++ (V ++ (U ++ Y))).length ≤ 1000000000 := by simp only [List.length_append]; omega
  unfold m142
  rw [wrapZ (x := ((X.length + U.length : Nat) : Int) - ((X.length : Nat) : Int)) (n := U.length) (by omega) (by omega), wrapZ (x := ((X.length + U.length + V.length : Nat) : Int) - ((X.length + U.length : Nat) : Int)) (n := V.length) (by omega) (by omega)]
  refine Giv.cut (rot_gives (fun i l => (Sum.inl ((i : Int), l, ()) : (Int × List Q × Unit) ⊕ ((List Q × Unit) ⊕ Unit))) (X.length + U.length) (X.length + U.length + V.length + Y.length) X U V Y ?_ ?_ ?_ rfl rfl hU hV) ?_
  ·intro X U1 U2 V Y hm ht e1 e2
   dsimp only
   have h2 := pos_of e2
   rw [nat_bne, show (U1.length + U2.length != V.length) = true by simp; omega, br_true, decide_eq_true (by omega), br_true]
   rw [L156 n (X := X) (A := U1) (M := U2) (C := V) (Y := Y) e1 (by omega) (by simp) (wrapZ (by omega) (by omega)) (by omega) (by rw [e1])]
   rw [oc_inl]
   dsimp only
   rw [wrapZ (n := U2.length) (by omega) (by omega)]
  ·intro X U V1 V2 Y hm ht e1 e2
   dsimp only
   have h2 := pos_of e2
   rw [nat_bne, show (U.length != V1.length + V2.length) = true by simp; omega, br_true, decide_eq_false (by omega), br_false]
   rw [L156 n (X := X) (A := U) (M := V1) (C := V2) (Y := Y) e1.symm (by omega) (by simp) (wrapZ (by omega) (by omega)) (by rw [wrapZ (x := ((_ : Nat) : Int) + _) (n := X.length + U.length + (V1.length + V2.length)) (by omega) (by omega)]; exact wrapZ (by omega) (by omega)) rfl]
   rw [oc_inl]
   dsimp only
   rw [wrapZ (n := V1.length) (by omega) (by omega)]
  ·intro i l
   dsimp only
   rw [nat_bne, show (i != i) = false by simp, br_false]
  ·rintro r ⟨X', A, C, Y', g1, g2, g3, rfl⟩
   rw [cutM_inl]
   dsimp only
   have ht : X'.length + A.length + C.length + Y'.length = X.length + U.length + V.length + Y.length := by
    have := congrArg List.length g3
    simp only [List.length_append] at this
    omega
   rw [L156 n (X := X') (A := A) (M := []) (C := C) (Y := Y') g1 (by simp; omega) (by simp) (wrapZ (by omega) (by omega)) (by simp; omega) rfl, oc_inl]
   refine Giv.mk ?_
   rw [← g3]; simp
 obtain ⟨r, h, rfl⟩ := key
 exact h
theorem L142 (n : Nat) {X U V Y : List Q} {L : List Q} {a m b : Int} (hU : U ≠ []) (hV : V ≠ []) (hl : X.length + U.length + V.length + Y.length ≤ 1000000000) (hL : L = X ++ (U ++ (V ++ Y))) (ha : a = ((X.length : Nat) : Int)) (hm : m = ((X.length + U.length : Nat) : Int)) (hb : b = ((X.length + U.length + V.length : Nat) : Int)) :
  @Eq (Option ((List Q × Unit) ⊕ Unit)) ((orcN (n + 2)).l 142 sg142 ((L, a, m, b, ()) : List Q × Int × Int × Int × Unit)) (some (.inl (X ++ (V ++ (U ++ Y)), ()))) := by
 subst hL; subst ha; subst hb; subst hm
 exact (q142 (n + 1) _ _ _ _).trans (s142 n hU hV hl)
/-! insertion -/
theorem ins_giv {α R : Type} {lt : α → α → Bool} {f : Int × List α × Unit → Option ((Int × List α × Unit) ⊕ R)} (out : List α → R) (X Y P : List α) (x : α)
  (hstep : ∀ (P2 Q : List α) (p : α), P2.length + 1 + Q.length = P.length → f (((X.length + (P2.length + 1) : Nat) : Int), X ++ (P2 ++ [p] ++ x :: Q) ++ Y, ()) = if lt x p = true then some (.inl (((X.length + P2.length : Nat) : Int), X ++ (P2 ++ x :: (p :: Q)) ++ Y, ())) else some (.inr (out (X ++ (P2 ++ [p] ++ x :: Q) ++ Y))))
  (hend : ∀ Q : List α, f ((X.length : Int), X ++ (x :: Q) ++ Y, ()) = some (.inr (out (X ++ (x :: Q) ++ Y)))) :
  Giv (loopM f (((X.length + P.length : Nat) : Int), X ++ (P ++ [x]) ++ Y, ())) fun r => ∃ P' Q', P' ++ Q' = P ∧ (∀ q ∈ Q', lt x q = true) ∧ (∀ p ∈ P'.getLast?, lt x p = false) ∧ r = out (X ++ (P' ++ x :: Q') ++ Y) := by
 obtain ⟨P', Q', h1, h2, h3, h4⟩ := ins_inner (lt := lt) out X Y x P.length hstep hend P.length P [] rfl (by simp) (by simp)
 exact ⟨_, h4, P', Q', by simpa using h1, h2, h3, rfl⟩
theorem giv_out {α R : Type} {y : Option R} {A C : α → Prop} {out : α → R} (h : Giv y fun r => ∃ a, A a ∧ C a ∧ r = out a) : ∃ a, A a ∧ C a ∧ y = some (out a) := by
 obtain ⟨r, e, a, h1, h2, rfl⟩ := h
 exact ⟨a, h1, h2, e⟩
theorem s123 (n : Nat) {X S Y : List Q} (hl : X.length + S.length + Y.length ≤ 1000000000) :
  ∃ S', Srt ltQ S' ∧ S'.Perm S ∧ m123 (orcN (n + 3)) (X ++ (S ++ Y)) ((X.length : Nat) : Int) ((X.length + S.length : Nat) : Int) = some (.inl (X ++ (S' ++ Y), ())) := by
 cases S with
 | nil =>
   refine ⟨[], by simp [Srt], .nil, ?_⟩
   unfold m123
   rw [wrapZ (n := X.length + 1) (by omega) (by simp at hl; omega)]
   refine loopM_end ?_
   dsimp only
   rw [decide_eq_false (by simp; omega), br_false]
 | cons x T =>
   have hl' : X.length + (T.length + 1) + Y.length ≤ 1000000000 := by simpa using hl
   have key : ∃ S', Srt ltQ S' ∧ S'.Perm ([x] ++ T) ∧ m123 (orcN (n + 3)) (X ++ ([x] ++ T) ++ Y) ((X.length : Nat) : Int) ((X.length + (x :: T).length : Nat) : Int) = some (.inl (X ++ S' ++ Y, ())) := by
    unfold m123
    rw [wrapZ (n := X.length + [x].length) (by simp) (by simp; omega)]
    refine ins_outer (lt := ltQ) (fun l => (Sum.inl (l, ()) : (List Q × Unit) ⊕ Unit)) X Y (X.length + (x :: T).length) ?_ ?_ T [x] (by simp [Srt]) (by simp) (by simp; omega)
    ·intro S T2 y hS hne hb
     have hlen : X.length + S.length + (T2.length + 1) = X.length + (T.length + 1) := by simpa using hb
     dsimp only
     rw [decide_eq_true (by simp; omega), br_true]
     rw [show X ++ (S ++ y :: T2) ++ Y = X ++ (S ++ [y]) ++ (T2 ++ Y) by simp]
     refine giv_out ?_
     refine Giv.cut (ins_giv (lt := ltQ) (fun l => (Sum.inl (l, ()) : (List Q × Unit) ⊕ ((Int × List Q × Unit) ⊕ ((List Q × Unit) ⊕ Unit)))) X (T2 ++ Y) S y ?_ ?_) ?_
     ·intro P2 R p e1
      dsimp only
      rw [decide_eq_true (by omega), br_true]
      have hj : IntKind.i64.wrap ((((X ++ P2).length + 1 : Nat) : Int) - 1) = (((X ++ P2).length : Nat) : Int) := wrapZ (by simp) (by simp; omega)
      have hL : X ++ (P2 ++ [p] ++ y :: R) ++ (T2 ++ Y) = (X ++ P2) ++ p :: y :: (R ++ (T2 ++ Y)) := by simp
      have hi : ((X.length + (P2.length + 1) : Nat) : Int) = (((X ++ P2).length + 1 : Nat) : Int) := by simp; omega
      rw [hL, hi]
      have g1 := get_mid (X ++ P2) (y :: (R ++ (T2 ++ Y))) p
      have g2 := get_two' (X ++ P2) (R ++ (T2 ++ Y)) p y
      have l1 := (List.getElem?_eq_some_iff.1 g1).1
      have l2 := (List.getElem?_eq_some_iff.1 g2).1
      rw [hj]
      simp only [idxN l1, idxN l2, ob_some_eq, get?, g1, g2]
      rw [L40]
      simp only [ob_some_eq, cmp_lt]
      cases hp : ltQ y p with
      | false =>
        rw [br_false, if_neg (by simp)]
      | true =>
        have l3 : (X ++ P2).length < (((X ++ P2) ++ p :: y :: (R ++ (T2 ++ Y))).set ((X ++ P2).length + 1) p).length := by simp
        simp only [br_true, if_pos, idxN l3, ob_some_eq, List.getElem?_eq_getElem l3, same_one, swap_next']
        simp
     ·intro R
      dsimp only
      rw [decide_eq_false (by omega), br_false, ob_some_eq, br_false]
     ·rintro r ⟨P', Q', h1, h2, h3, rfl⟩
      rw [cutM_inl]
      subst h1
      refine Giv.mk ⟨P' ++ y :: Q', hS.put woQ h2 h3, ?_, ?_⟩
      ·exact List.perm_middle.trans (List.perm_append_singleton _ _).symm
      ·rw [wrapZ (n := X.length + (P' ++ y :: Q').length) (by simp; omega) (by simp at hlen ⊢; omega)]
       simp
    ·intro l
     dsimp only
     rw [decide_eq_false (by omega), br_false]
   obtain ⟨S', g1, g2, g3⟩ := key
   exact ⟨S', g1, g2, by simpa using g3⟩
theorem L123 (n : Nat) {X S Y : List Q} {L : List Q} {a b : Int} (hl : X.length + S.length + Y.length ≤ 1000000000) (hL : L = X ++ (S ++ Y)) (ha : a = ((X.length : Nat) : Int)) (hb : b = ((X.length + S.length : Nat) : Int)) :
  ∃ S', Srt ltQ S' ∧ S'.Perm S ∧ @Eq (Option ((List Q × Unit) ⊕ Unit)) ((orcN (n + 4)).l 123 sg123 ((L, a, b, ()) : List Q × Int × Int × Unit)) (some (.inl (X ++ (S' ++ Y), ()))) := by
 subst hL; subst ha; subst hb
 obtain ⟨S', h1, h2, h3⟩ := s123 n hl
 exact ⟨S', h1, h2, (q123 (n + 3) _ _ _).trans h3⟩
/-! merging -/
theorem bs_giv {R : Type} {f : Int × Int × Unit → Option ((Int × Int × Unit) ⊕ R)} (out : Nat → R) (p : Nat → Bool) (lo hi : Nat) (hle : lo ≤ hi)
  (hstep : ∀ i j : Nat, lo ≤ i → i < j → j ≤ hi → f ((i : Int), (j : Int), ()) = if p ((i + j) / 2) = true then some (.inl ((((i + j) / 2 + 1 : Nat) : Int), (j : Int), ())) else some (.inl ((i : Int), (((i + j) / 2 : Nat) : Int), ())))
  (hend : ∀ i : Nat, lo ≤ i → i ≤ hi → f ((i : Int), (i : Int), ()) = some (.inr (out i))) :
  Giv (loopM f ((lo : Int), (hi : Int), ())) fun r => ∃ s, lo ≤ s ∧ s ≤ hi ∧ (s = lo ∨ p (s - 1) = true) ∧ (s = hi ∨ p s = false) ∧ r = out s := by
 obtain ⟨s, h1, h2, h3, h4, h5⟩ := bsearch out p lo hi hstep hend (hi - lo) lo hi (Nat.le_refl _) (Nat.le_refl _) hle (Nat.le_refl _) (.inl rfl) (.inl rfl)
 exact ⟨_, h5, s, h1, h2, h3, h4, rfl⟩
/-- What a merge does. -/
def Mrg (o : Orc Sx) (N : Nat) : Prop := ∀ (X U V Y L : List Q) (a m b : Int), U ≠ [] → V ≠ [] → Srt ltQ U → Srt ltQ V → U.length + V.length ≤ N → X.length + U.length + V.length + Y.length ≤ 1000000000 → L = X ++ (U ++ (V ++ Y)) → a = ((X.length : Nat) : Int) → m = ((X.length + U.length : Nat) : Int) → b = ((X.length + U.length + V.length : Nat) : Int) →
 ∃ S', Srt ltQ S' ∧ S'.Perm (U ++ V) ∧ @Eq (Option ((List Q × Unit) ⊕ Unit)) (o.l 124 sg124 ((L, a, m, b, ()) : List Q × Int × Int × Int × Unit)) (some (.inl (X ++ (S' ++ Y), ())))
theorem one_beq {α : Type} (l : List α) : (((l.length : Nat) : Int) == 1) = (l.length == 1) := nat_beq (b := 1)
theorem at_mid {α : Type} {X U V Y : List α} {h : Nat} (h1 : X.length + U.length ≤ h) (h2 : h < X.length + U.length + V.length) : ∃ y, (X ++ (U ++ (V ++ Y)))[h]? = some y ∧ V[h - (X.length + U.length)]? = some y := by
 have hl : h - (X.length + U.length) < V.length := by omega
 refine ⟨V[h - (X.length + U.length)], ?_, List.getElem?_eq_getElem hl⟩
 rw [List.getElem?_append_right (by omega), List.getElem?_append_right (by omega), List.getElem?_append_left (by omega), show h - X.length - U.length = h - (X.length + U.length) by omega, List.getElem?_eq_getElem hl]
def atP (L : List Q) (h : Nat) (f : Q → Bool) : Bool := match L[h]? with
 | some y => f y
 | none => false
theorem atP_eq {L : List Q} {h : Nat} {f : Q → Bool} {y : Q} (e : L[h]? = some y) : atP L h f = f y := by unfold atP; rw [e]
/-- One element, and a run. -/
theorem s124_one (n : Nat) {X V Y : List Q} {x : Q} (hV : V ≠ []) (sV : Srt ltQ V) (hl : X.length + 1 + V.length + Y.length ≤ 1000000000) :
  Giv (m124 (orcN (n + 3)) (X ++ ([x] ++ (V ++ Y))) ((X.length : Nat) : Int) ((X.length + 1 : Nat) : Int) ((X.length + 1 + V.length : Nat) : Int)) fun r => ∃ S', Srt ltQ S' ∧ S'.Perm ([x] ++ V) ∧ r = .inl (X ++ (S' ++ Y), ()) := by
 have hV0 := pos_of hV
 unfold m124
 rw [wrapZ (x := ((X.length + 1 : Nat) : Int) - ((X.length : Nat) : Int)) (n := [x].length) (by simp; omega) (by simp), one_beq]
 rw [show ([x].length == 1) = true from rfl, br_true]
 refine Giv.cut (Φ := fun r => ∃ S', Srt ltQ S' ∧ S'.Perm ([x] ++ V) ∧ r = .inr (.inl (X ++ (S' ++ Y), ()))) (Giv.cut (bs_giv (fun s => (Sum.inl ((s : Int), ()) : (Int × Unit) ⊕ ((List Q × Unit) ⊕ ((List Q × Unit) ⊕ Unit)))) (fun h => atP (X ++ ([x] ++ (V ++ Y))) h fun y => ltQ y x) (X.length + 1) (X.length + 1 + V.length) (by omega) ?_ ?_) ?_) ?_
 ·intro i j h1 h2 h3
  dsimp only
  obtain ⟨y, e1, e2⟩ := at_mid (X := X) (U := [x]) (V := V) (Y := Y) (h := (i + j) / 2) (by simp; omega) (by simp; omega)
  have e3 : (X ++ ([x] ++ (V ++ Y)))[X.length]? = some x := get_mid _ _ _
  rw [decide_eq_true (by omega), br_true, midI (by omega)]
  have l1 := (List.getElem?_eq_some_iff.1 e1).1
  have l2 := (List.getElem?_eq_some_iff.1 e3).1
  simp only [idxN l1, idxN l2, ob_some_eq, get?, e1, e3]
  rw [L40]
  simp only [ob_some_eq, cmp_lt]
  rw [atP_eq e1, wrapZ (n := (i + j) / 2 + 1) (by omega) (by omega)]
  cases ltQ y x <;> rfl
 ·intro i h1 h2
  dsimp only
  rw [decide_eq_false (by omega), br_false]
 ·rintro r ⟨s, h1, h2, h3, h4, rfl⟩
  rw [cutM_inl]
  dsimp only
  rw [wrapZ (x := ((s : Nat) : Int) - 1) (n := s - 1) (by omega) (by omega)]
  have hcut : V = V.take (s - (X.length + 1)) ++ V.drop (s - (X.length + 1)) := (List.take_append_drop _ _).symm
  have hlen : (V.take (s - (X.length + 1))).length = s - (X.length + 1) := by simp; omega
  have hlast : ∀ q ∈ (V.take (s - (X.length + 1))).getLast?, ltQ q x = true := by
   intro q hq
   rw [Option.mem_def, List.getLast?_eq_getElem?, hlen] at hq
   have hs : s - (X.length + 1) ≠ 0 := fun h0 => by rw [h0] at hq; simp at hq
   rw [List.getElem?_take_of_lt (by omega)] at hq
   rcases h3 with h3 | h3
   ·omega
   ·obtain ⟨y, e1, e2⟩ := at_mid (X := X) (U := [x]) (V := V) (Y := Y) (h := s - 1) (by simp; omega) (by simp; omega)
    rw [atP_eq e1] at h3
    rw [show s - 1 - (X.length + [x].length) = s - (X.length + 1) - 1 by simp; omega, hq] at e2
    cases e2; exact h3
  have hhead : ∀ q ∈ (V.drop (s - (X.length + 1))).head?, ltQ q x = false := by
   intro q hq
   rw [Option.mem_def, List.head?_drop] at hq
   have hs : s - (X.length + 1) < V.length := (List.getElem?_eq_some_iff.1 hq).1
   rcases h4 with h4 | h4
   ·omega
   ·obtain ⟨y, e1, e2⟩ := at_mid (X := X) (U := [x]) (V := V) (Y := Y) (h := s) (by simp; omega) (by simp; omega)
    rw [atP_eq e1] at h4
    rw [show s - (X.length + [x].length) = s - (X.length + 1) by simp, hq] at e2
    cases e2; exact h4
  have hS : Srt ltQ (V.take (s - (X.length + 1)) ++ x :: V.drop (s - (X.length + 1))) := Srt.mid woQ (by rw [← hcut]; exact sV) (fun q hq => woQ.asym _ _ (hlast q hq)) hhead
  have hP : (V.take (s - (X.length + 1)) ++ x :: V.drop (s - (X.length + 1))).Perm ([x] ++ V) := by
   refine List.perm_middle.trans ?_
   rw [← hcut]; exact List.Perm.refl _
  generalize V.take (s - (X.length + 1)) = V1 at *
  generalize V.drop (s - (X.length + 1)) = V2 at *
  rw [show X ++ ([x] ++ (V ++ Y)) = X ++ x :: (V1 ++ (V2 ++ Y)) by rw [hcut]; simp]
  refine Giv.of_eq (bubble_right (fun l => (Sum.inr (Sum.inl (l, ())) : (List Q × Unit) ⊕ ((List Q × Unit) ⊕ Unit))) (s - 1) x ?_ ?_ V1 X (V2 ++ Y) (by omega)) ⟨_, hS, hP, by simp⟩
  ·intro X' Y' y hlt
   dsimp only
   rw [decide_eq_true (by omega), br_true]
   refine (swap_ev (a := X'.length) (b := X'.length + 1) rfl (wrapZ (by omega) (by omega)) (get_mid _ _ _) (get_two' _ _ _ _) (fun l => (some (.inl (IntKind.i64.wrap (((X'.length : Nat) : Int) + 1), l, ())) : Option ((Int × List Q × Unit) ⊕ ((List Q × Unit) ⊕ ((List Q × Unit) ⊕ Unit)))))).trans ?_
   rw [swap_next, wrapZ (n := X'.length + 1) (by omega) (by omega)]
  ·intro l
   dsimp only
   rw [decide_eq_false (by omega), br_false]
 ·rintro r ⟨S', h1, h2, rfl⟩
  rw [cutM_inr]
  exact Giv.mk ⟨S', h1, h2, rfl⟩
/-- A run, and one element. -/
theorem s124_last (n : Nat) {X U Y : List Q} {y : Q} (hU : 1 < U.length) (sU : Srt ltQ U) (hl : X.length + U.length + 1 + Y.length ≤ 1000000000) :
  Giv (m124 (orcN (n + 3)) (X ++ (U ++ ([y] ++ Y))) ((X.length : Nat) : Int) ((X.length + U.length : Nat) : Int) ((X.length + U.length + 1 : Nat) : Int)) fun r => ∃ S', Srt ltQ S' ∧ S'.Perm (U ++ [y]) ∧ r = .inl (X ++ (S' ++ Y), ()) := by
 unfold m124
 rw [wrapZ (x := ((X.length + U.length : Nat) : Int) - ((X.length : Nat) : Int)) (n := U.length) (by omega) (by omega), one_beq, show (U.length == 1) = false by simp; omega, br_false, cutM_inl]
 dsimp only
 rw [wrapZ (x := ((X.length + U.length + 1 : Nat) : Int) - ((X.length + U.length : Nat) : Int)) (n := [y].length) (by simp; omega) (by simp), one_beq, show ([y].length == 1) = true from rfl, br_true]
 have hy : (X ++ (U ++ ([y] ++ Y)))[X.length + U.length]? = some y := by
  rw [← List.append_assoc, List.getElem?_append_right (by simp)]; simp
 have hat : ∀ h, X.length ≤ h → h < X.length + U.length → ∃ x, (X ++ (U ++ ([y] ++ Y)))[h]? = some x ∧ U[h - X.length]? = some x := fun h h1 h2 => by
  have hl : h - X.length < U.length := by omega
  refine ⟨U[h - X.length], ?_, List.getElem?_eq_getElem hl⟩
  rw [List.getElem?_append_right (by omega), List.getElem?_append_left (by omega), List.getElem?_eq_getElem hl]
 refine Giv.cut (Φ := fun r => ∃ S', Srt ltQ S' ∧ S'.Perm (U ++ [y]) ∧ r = .inr (.inl (X ++ (S' ++ Y), ()))) (Giv.cut (bs_giv (fun s => (Sum.inl ((s : Int), ()) : (Int × Unit) ⊕ ((List Q × Unit) ⊕ ((List Q × Unit) ⊕ Unit)))) (fun h => atP (X ++ (U ++ ([y] ++ Y))) h fun x => !ltQ y x) X.length (X.length + U.length) (by omega) ?_ ?_) ?_) ?_
 ·intro i j h1 h2 h3
  dsimp only
  obtain ⟨x, e1, e2⟩ := hat ((i + j) / 2) (by omega) (by omega)
  rw [decide_eq_true (by omega), br_true, midI (by omega)]
  have l1 := (List.getElem?_eq_some_iff.1 e1).1
  have l2 := (List.getElem?_eq_some_iff.1 hy).1
  simp only [idxN l1, idxN l2, ob_some_eq, get?, e1, hy]
  rw [L40]
  simp only [ob_some_eq, cmp_lt]
  rw [atP_eq e1, wrapZ (n := (i + j) / 2 + 1) (by omega) (by omega)]
  cases ltQ y x <;> rfl
 ·intro i h1 h2
  dsimp only
  rw [decide_eq_false (by omega), br_false]
 ·rintro r ⟨s, h1, h2, h3, h4, rfl⟩
  rw [cutM_inl]
  dsimp only
  have hcut : U = U.take (s - X.length) ++ U.drop (s - X.length) := (List.take_append_drop _ _).symm
  have hlen : (U.take (s - X.length)).length = s - X.length := by simp; omega
  have hlen2 : (U.drop (s - X.length)).length = U.length - (s - X.length) := by simp
  have hlast : ∀ q ∈ (U.take (s - X.length)).getLast?, ltQ y q = false := by
   intro q hq
   rw [Option.mem_def, List.getLast?_eq_getElem?, hlen] at hq
   have hs : s - X.length ≠ 0 := fun h0 => by rw [h0] at hq; simp at hq
   rw [List.getElem?_take_of_lt (by omega)] at hq
   rcases h3 with h3 | h3
   ·omega
   ·obtain ⟨x, e1, e2⟩ := hat (s - 1) (by omega) (by omega)
    rw [atP_eq e1] at h3
    rw [show s - 1 - X.length = s - X.length - 1 by omega, hq] at e2
    cases e2; simpa using h3
  have hhead : ∀ q ∈ (U.drop (s - X.length)).head?, ltQ y q = true := by
   intro q hq
   rw [Option.mem_def, List.head?_drop] at hq
   have hs : s - X.length < U.length := (List.getElem?_eq_some_iff.1 hq).1
   rcases h4 with h4 | h4
   ·omega
   ·obtain ⟨x, e1, e2⟩ := hat s (by omega) (by omega)
    rw [atP_eq e1] at h4
    rw [hq] at e2
    cases e2; simpa using h4
  have hS : Srt ltQ (U.take (s - X.length) ++ y :: U.drop (s - X.length)) := Srt.mid woQ (by rw [← hcut]; exact sU) hlast (fun q hq => woQ.asym _ _ (hhead q hq))
  have hP : (U.take (s - X.length) ++ y :: U.drop (s - X.length)).Perm (U ++ [y]) := by
   refine List.perm_middle.trans ?_
   rw [← hcut]; exact (List.perm_append_singleton _ _).symm
  generalize U.take (s - X.length) = U1 at *
  generalize U.drop (s - X.length) = U2 at *
  rw [show X ++ (U ++ ([y] ++ Y)) = (X ++ U1) ++ (U2 ++ y :: Y) by rw [hcut]; simp, show ((X.length + U.length : Nat) : Int) = (((X ++ U1).length + U2.length : Nat) : Int) by simp; omega]
  refine Giv.of_eq (bubble_left (fun l => (Sum.inr (Sum.inl (l, ())) : (List Q × Unit) ⊕ ((List Q × Unit) ⊕ Unit))) s (X.length + U.length) y ?_ ?_ U2.length U2 (X ++ U1) Y rfl (by simp; omega) (by simp; omega)) ⟨_, hS, hP, by simp⟩
  ·intro X' Y' z hlt hT
   dsimp only
   rw [decide_eq_true (by omega), br_true]
   refine (swap_ev (a := X'.length + 1) (b := X'.length) rfl (wrapZ (by omega) (by omega)) (get_two' _ _ _ _) (get_mid _ _ _) (fun l => (some (.inl (IntKind.i64.wrap (((X'.length + 1 : Nat) : Int) - 1), l, ())) : Option ((Int × List Q × Unit) ⊕ ((List Q × Unit) ⊕ ((List Q × Unit) ⊕ Unit)))))).trans ?_
   rw [swap_next', wrapZ (n := X'.length) (by omega) (by omega)]
  ·intro l
   dsimp only
   rw [decide_eq_false (by omega), br_false]
 ·rintro r ⟨S', h1, h2, rfl⟩
  rw [cutM_inr]
  exact Giv.mk ⟨S', h1, h2, rfl⟩
theorem s124 (n N : Nat) (hM : Mrg (orcN (n + 3)) N) {X U V Y : List Q} (hU : 1 < U.length) (hV : 1 < V.length) (sU : Srt ltQ U) (sV : Srt ltQ V) (hN : U.length + V.length ≤ N + N) (hl : X.length + U.length + V.length + Y.length ≤ 1000000000) :
  Giv (m124 (orcN (n + 3)) (X ++ (U ++ (V ++ Y))) ((X.length : Nat) : Int) ((X.length + U.length : Nat) : Int) ((X.length + U.length + V.length : Nat) : Int)) fun r => ∃ S', Srt ltQ S' ∧ S'.Perm (U ++ V) ∧ r = .inl (X ++ (S' ++ Y), ()) := by
 unfold m124
 rw [wrapZ (x := ((X.length + U.length : Nat) : Int) - ((X.length : Nat) : Int)) (n := U.length) (by omega) (by omega), one_beq, show (U.length == 1) = false by simp; omega, br_false, cutM_inl]
 dsimp only
 rw [wrapZ (x := ((X.length + U.length + V.length : Nat) : Int) - ((X.length + U.length : Nat) : Int)) (n := V.length) (by omega) (by omega), one_beq, show (V.length == 1) = false by simp; omega, br_false, cutM_inl]
 dsimp only
 rw [midI (i := X.length) (j := X.length + U.length + V.length) (by omega)]
 generalize hmid : (X.length + (X.length + U.length + V.length)) / 2 = mid
 have hmm : IntKind.i64.wrap (((mid : Nat) : Int) + ((X.length + U.length : Nat) : Int)) = ((mid + (X.length + U.length) : Nat) : Int) := wrapZ (by omega) (by omega)
 rw [hmm]
 refine Giv.cut (Φ := fun r => r = .inl (((if mid < X.length + U.length then mid + (X.length + U.length) - (X.length + U.length + V.length) else X.length : Nat) : Int), ((if mid < X.length + U.length then mid else X.length + U.length : Nat) : Int), ())) ?_ ?_
 ·by_cases hc : mid < X.length + U.length
  ·rw [decide_eq_true (by omega), br_true, if_pos hc, if_pos hc]
   exact Giv.mk (by rw [wrapZ (n := mid + (X.length + U.length) - (X.length + U.length + V.length)) (by omega) (by omega)])
  ·rw [decide_eq_false (by omega), br_false, if_neg hc, if_neg hc]
   exact Giv.mk rfl
 rintro _ rfl
 rw [cutM_inl]
 dsimp only
 generalize hlo : (if mid < X.length + U.length then mid + (X.length + U.length) - (X.length + U.length + V.length) else X.length) = lo
 generalize hhi : (if mid < X.length + U.length then mid else X.length + U.length) = hi
 have blo : X.length ≤ lo ∧ mid + (X.length + U.length) ≤ (X.length + U.length + V.length) + lo := by rw [← hlo]; split <;> omega
 have bhi : hi ≤ X.length + U.length ∧ hi ≤ mid := by rw [← hhi]; split <;> omega
 have hle : lo ≤ hi := by rw [← hlo, ← hhi]; split <;> omega
 have hat : ∀ h, h < (X ++ (U ++ (V ++ Y))).length → ∃ x, (X ++ (U ++ (V ++ Y)))[h]? = some x := fun h h1 => ⟨_, List.getElem?_eq_getElem h1⟩
 have htot : (X ++ (U ++ (V ++ Y))).length = X.length + U.length + V.length + Y.length := by simp; omega
 refine Giv.cut (bs_giv (fun s => (Sum.inl ((s : Int), ()) : (Int × Unit) ⊕ ((List Q × Unit) ⊕ Unit))) (fun c => atP (X ++ (U ++ (V ++ Y))) c fun x => atP (X ++ (U ++ (V ++ Y))) (mid + (X.length + U.length) - 1 - c) fun y => !ltQ y x) lo hi hle ?_ ?_) ?_
 ·intro i j h1 h2 h3
  dsimp only
  rw [decide_eq_true (by omega), br_true, midI (by omega)]
  generalize hc : (i + j) / 2 = c
  obtain ⟨x, e1⟩ := hat c (by omega)
  obtain ⟨y, e2⟩ := hat (mid + (X.length + U.length) - 1 - c) (by omega)
  rw [wrapZ (x := ((mid + (X.length + U.length) : Nat) : Int) - 1) (n := mid + (X.length + U.length) - 1) (by omega) (by omega), wrapZ (x := ((mid + (X.length + U.length) - 1 : Nat) : Int) - ((c : Nat) : Int)) (n := mid + (X.length + U.length) - 1 - c) (by omega) (by omega)]
  have l1 := (List.getElem?_eq_some_iff.1 e1).1
  have l2 := (List.getElem?_eq_some_iff.1 e2).1
  simp only [idxN l1, idxN l2, ob_some_eq, get?, e1, e2]
  rw [L40]
  simp only [ob_some_eq, cmp_lt]
  rw [atP_eq e1, atP_eq e2, wrapZ (n := c + 1) (by omega) (by omega)]
  cases ltQ y x <;> rfl
 ·intro i h1 h2
  dsimp only
  rw [decide_eq_false (by omega), br_false]
 rintro _ ⟨s, h1, h2, h3, h4, rfl⟩
 rw [cutM_inl]
 dsimp only
 obtain ⟨U1, U2, V1, V2, rfl, rfl, k1, k2, k3, k4⟩ := sym_cut (lt := ltQ) woQ (X := X) (U := U) (V := V) (Y := Y) (a := X.length) (m := X.length + U.length) (b := X.length + U.length + V.length) (mid := mid) (lo := lo) (hi := hi) (s := s) rfl rfl rfl hmid.symm hlo.symm hhi.symm h1 h2
  (fun hne x y ex ey => by
   rcases h3 with h3 | h3
   ·exact absurd h3 hne
   ·rw [atP_eq ex, show mid + (X.length + U.length) - 1 - (s - 1) = mid + (X.length + U.length) - s by omega, atP_eq ey] at h3
    simpa using h3)
  (fun hne x y ex ey => by
   rcases h4 with h4 | h4
   ·exact absurd h4 hne
   ·rw [atP_eq ex, atP_eq ey] at h4
    simpa using h4)
 have sU1 := sU.left
 have sU2 := sU.right
 have sV1 := sV.left
 have sV2 := sV.right
 have nil_of : ∀ {l : List Q}, l.length = 0 → l = [] := fun h => List.length_eq_zero_iff.1 h
 generalize hm : X.length + (U1 ++ U2).length = m at *
 generalize hb : m + (V1 ++ V2).length = b at *
 simp only [List.length_append] at hm hb hN hl
 rw [wrapZ (x := ((mid + m : Nat) : Int) - ((s : Nat) : Int)) (n := mid + m - s) (by omega) (by omega)]
 generalize he : mid + m - s = en at *
 have q1 : s = X.length + U1.length := k1.symm
 have q2 : en = m + V1.length := k2.symm
 have q3 : mid = X.length + U1.length + V1.length := by omega
 refine Giv.cut (Φ := fun r => r = .inl (X ++ (U1 ++ (V1 ++ (U2 ++ (V2 ++ Y)))), ())) ?_ ?_
 ·by_cases hc1 : s < m
  ·rw [decide_eq_true (by omega), br_true, ob_some_eq]
   by_cases hc2 : m < en
   ·rw [decide_eq_true (by omega), br_true, L142 (n + 1) (X := X ++ U1) (U := U2) (V := V1) (Y := V2 ++ Y) (by intro h; rw [h] at hm; simp at hm; omega) (by intro h; rw [h] at q2; simp at q2; omega) (by simp; omega) (by simp) (by simp; omega) (by simp; omega) (by simp; omega), oc_inl]
    exact Giv.mk (by simp)
   ·rw [decide_eq_false (by omega), br_false]
    obtain rfl : V1 = [] := nil_of (by omega)
    exact Giv.mk (by simp)
  ·rw [decide_eq_false (by omega), br_false, ob_some_eq, br_false]
   obtain rfl : U2 = [] := nil_of (by omega)
   exact Giv.mk (by simp)
 rintro _ rfl
 rw [cutM_inl]
 dsimp only
 refine Giv.cut (Φ := fun r => ∃ S1, Srt ltQ S1 ∧ S1.Perm (U1 ++ V1) ∧ r = .inl (X ++ (S1 ++ (U2 ++ (V2 ++ Y))), ())) ?_ ?_
 ·by_cases hc1 : X.length < s
  ·rw [decide_eq_true (by omega), br_true, ob_some_eq]
   by_cases hc2 : s < mid
   ·rw [decide_eq_true (by omega), br_true]
    obtain ⟨S1, g1, g2, g3⟩ := hM X U1 V1 (U2 ++ (V2 ++ Y)) (X ++ (U1 ++ (V1 ++ (U2 ++ (V2 ++ Y))))) ((X.length : Nat) : Int) ((s : Nat) : Int) ((mid : Nat) : Int) (by intro h; rw [h] at q1; simp at q1; omega) (by intro h; rw [h] at q3; simp at q3; omega) sU1 sV1 (by omega) (by simp; omega) rfl rfl (by omega) (by omega)
    rw [g3, oc_inl]
    exact Giv.mk ⟨S1, g1, g2, rfl⟩
   ·rw [decide_eq_false (by omega), br_false]
    obtain rfl : V1 = [] := nil_of (by omega)
    exact Giv.mk ⟨U1, sU1, by simp, by simp⟩
  ·rw [decide_eq_false (by omega), br_false, ob_some_eq, br_false]
   obtain rfl : U1 = [] := nil_of (by omega)
   exact Giv.mk ⟨V1, sV1, by simp, by simp⟩
 rintro _ ⟨S1, g1, g2, rfl⟩
 rw [cutM_inl]
 dsimp only
 have hS1 : S1.length = U1.length + V1.length := by rw [g2.length_eq]; simp
 have fin : ∀ S2 : List Q, Srt ltQ S2 → S2.Perm (U2 ++ V2) → Srt ltQ (S1 ++ S2) ∧ (S1 ++ S2).Perm ((U1 ++ U2) ++ (V1 ++ V2)) := fun S2 h1 h2 => merge_parts woQ sU sV k3 k4 g1 g2 h1 h2
 by_cases hc1 : mid < en
 ·rw [decide_eq_true (by omega), br_true, ob_some_eq]
  by_cases hc2 : en < b
  ·rw [decide_eq_true (by omega), br_true]
   obtain ⟨S2, f1, f2, f3⟩ := hM (X ++ S1) U2 V2 Y (X ++ (S1 ++ (U2 ++ (V2 ++ Y)))) ((mid : Nat) : Int) ((en : Nat) : Int) ((b : Nat) : Int) (by intro h; rw [h] at hm; simp at hm; omega) (by intro h; rw [h] at hb; simp at hb; omega) sU2 sV2 (by omega) (by simp; omega) (by simp) (by simp; omega) (by simp; omega) (by simp; omega)
   rw [f3, oc_inl]
   exact Giv.mk ⟨S1 ++ S2, (fin S2 f1 f2).1, (fin S2 f1 f2).2, by simp⟩
  ·rw [decide_eq_false (by omega), br_false]
   obtain rfl : V2 = [] := nil_of (by omega)
   exact Giv.mk ⟨S1 ++ U2, (fin U2 sU2 (by simp)).1, (fin U2 sU2 (by simp)).2, by simp⟩
 ·rw [decide_eq_false (by omega), br_false, ob_some_eq, br_false]
  obtain rfl : U2 = [] := nil_of (by omega)
  exact Giv.mk ⟨S1 ++ V2, (fin V2 sV2 (by simp)).1, (fin V2 sV2 (by simp)).2, by simp⟩
theorem mrg_step {n N : Nat} (hM : Mrg (orcN (n + 3)) N) : Mrg (orcN (n + 4)) (N + N) := by
 intro X U V Y L a m b hU hV sU sV hN hl hL ha hm hb
 subst hL; subst ha; subst hm; subst hb
 have hU0 := pos_of hU
 have hV0 := pos_of hV
 have key : Giv (m124 (orcN (n + 3)) (X ++ (U ++ (V ++ Y))) ((X.length : Nat) : Int) ((X.length + U.length : Nat) : Int) ((X.length + U.length + V.length : Nat) : Int)) fun r => ∃ S', Srt ltQ S' ∧ S'.Perm (U ++ V) ∧ r = .inl (X ++ (S' ++ Y), ()) := by
  by_cases h1 : U.length = 1
  ·obtain ⟨x, rfl⟩ := List.length_eq_one_iff.1 h1
   exact s124_one n hV sV (by simpa using hl)
  ·by_cases h2 : V.length = 1
   ·obtain ⟨y, rfl⟩ := List.length_eq_one_iff.1 h2
    exact s124_last n (by omega) sU (by simpa using hl)
   ·exact s124 n N hM (by omega) (by omega) sU sV hN hl
 obtain ⟨S', h1, h2, h3⟩ := giv_out key
 exact ⟨S', h1, h2, (q124 (n + 3) _ _ _ _).trans h3⟩
theorem mrg_all : ∀ (k n : Nat), Mrg (orcN (n + 3 + k)) (2 ^ k)
 | 0, n => by
   intro X U V Y L a m b hU hV _ _ hN
   have hU0 := pos_of hU
   have hV0 := pos_of hV
   simp at hN
   omega
 | k + 1, n => by
   have := mrg_step (n := n + k) (N := 2 ^ k) (by have := mrg_all k n; rwa [show n + k + 3 = n + 3 + k by omega])
   rw [show n + 3 + (k + 1) = n + k + 4 by omega, Nat.pow_succ, Nat.mul_two]
   exact this
/-! blocks -/
def Blk (k : Nat) (Bs : List (List Q)) : Prop := ∀ C ∈ Bs, C.length = k ∧ Srt ltQ C
theorem Blk.add {k : Nat} {Bs : List (List Q)} {C : List Q} (h : Blk k Bs) (hl : C.length = k) (hs : Srt ltQ C) : Blk k (Bs ++ [C]) := by
 intro D hD
 rcases List.mem_append.1 hD with hD | hD
 ·exact h D hD
 ·simp at hD; subst hD; exact ⟨hl, hs⟩
theorem blk_loop {R : Type} {f : Int × Int × List Q × Unit → Option ((Int × Int × List Q × Unit) ⊕ R)} (out : Nat → List Q → R) (k N : Nat) (hk : 0 < k)
  (hstep : ∀ X S Y : List Q, S.length = k → X.length + S.length + Y.length = N → ∃ S', Srt ltQ S' ∧ S'.Perm S ∧ f ((X.length : Int), ((X.length + k : Nat) : Int), X ++ (S ++ Y), ()) = some (.inl (((X.length + k : Nat) : Int), ((X.length + k + k : Nat) : Int), X ++ (S' ++ Y), ())))
  (hend : ∀ X Y : List Q, X.length + Y.length = N → Y.length < k → f ((X.length : Int), ((X.length + k : Nat) : Int), X ++ Y, ()) = some (.inr (out X.length (X ++ Y)))) :
  ∀ (d : Nat) (Dn : List (List Q)) (T : List Q), T.length ≤ d → Dn.flatten.length + T.length = N → Blk k Dn → Giv (loopM f ((Dn.flatten.length : Int), ((Dn.flatten.length + k : Nat) : Int), Dn.flatten ++ T, ())) fun r => ∃ Dn' T', Blk k Dn' ∧ T'.length < k ∧ (Dn'.flatten ++ T').Perm (Dn.flatten ++ T) ∧ r = out Dn'.flatten.length (Dn'.flatten ++ T')
 | d, Dn, T, hd, hN, hB => by
   by_cases hT : T.length < k
   ·exact Giv.of_eq (loopM_end (hend _ _ hN hT)) ⟨Dn, T, hB, hT, List.Perm.refl _, rfl⟩
   ·cases d with
    | zero => omega
    | succ d =>
      have e : T = T.take k ++ T.drop k := (List.take_append_drop _ _).symm
      have l1 : (T.take k).length = k := by simp; omega
      have l2 : (T.drop k).length = T.length - k := by simp
      generalize T.take k = S at *
      generalize T.drop k = Y at *
      subst e
      obtain ⟨S', g1, g2, g3⟩ := hstep Dn.flatten S Y l1 (by simp only [List.length_append] at hN ⊢; omega)
      have hl : S'.length = k := by rw [g2.length_eq]; exact l1
      have hfl : (Dn ++ [S']).flatten = Dn.flatten ++ S' := by simp
      have ih := blk_loop out k N hk hstep hend d (Dn ++ [S']) Y (by simp at hd; omega) (by rw [hfl]; simp only [List.length_append] at hN ⊢; omega) (hB.add hl g1)
      rw [loopM_next g3]
      rw [hfl, List.append_assoc, show (Dn.flatten ++ S').length = Dn.flatten.length + k by simp [hl]] at ih
      refine ih.imp ?_
      rintro r ⟨Dn', T', h1, h2, h3, rfl⟩
      exact ⟨Dn', T', h1, h2, h3.trans (List.Perm.append_left _ (g2.append_right _)), rfl⟩
theorem mrg_loop {R : Type} {f : Int × Int × List Q × Unit → Option ((Int × Int × List Q × Unit) ⊕ R)} (out : Nat → List Q → R) (k N : Nat)
  (hstep : ∀ X U V Y : List Q, U.length = k → V.length = k → Srt ltQ U → Srt ltQ V → X.length + U.length + V.length + Y.length = N → ∃ S', Srt ltQ S' ∧ S'.Perm (U ++ V) ∧ f ((X.length : Int), ((X.length + (k + k) : Nat) : Int), X ++ (U ++ (V ++ Y)), ()) = some (.inl (((X.length + (k + k) : Nat) : Int), ((X.length + (k + k) + (k + k) : Nat) : Int), X ++ (S' ++ Y), ())))
  (hend : ∀ X Y : List Q, X.length + Y.length = N → Y.length < k + k → f ((X.length : Int), ((X.length + (k + k) : Nat) : Int), X ++ Y, ()) = some (.inr (out X.length (X ++ Y)))) (T : List Q) (hT : T.length < k) :
  ∀ (Bs Dn : List (List Q)), Blk k Bs → Blk (k + k) Dn → Dn.flatten.length + (Bs.flatten.length + T.length) = N → Giv (loopM f ((Dn.flatten.length : Int), ((Dn.flatten.length + (k + k) : Nat) : Int), Dn.flatten ++ (Bs.flatten ++ T), ())) fun r => ∃ Dn' Bs', Blk (k + k) Dn' ∧ (Bs' = [] ∨ ∃ C, Bs' = [C] ∧ C.length = k ∧ Srt ltQ C) ∧ (Dn'.flatten ++ (Bs'.flatten ++ T)).Perm (Dn.flatten ++ (Bs.flatten ++ T)) ∧ r = out Dn'.flatten.length (Dn'.flatten ++ (Bs'.flatten ++ T))
 | [], Dn, _, hD, hN => Giv.of_eq (loopM_end (hend _ _ (by simp at hN ⊢; omega) (by simp; omega))) ⟨Dn, [], hD, .inl rfl, List.Perm.refl _, rfl⟩
 | [C], Dn, hB, hD, hN => by
   obtain ⟨h1, h2⟩ := hB C (by simp)
   exact Giv.of_eq (loopM_end (hend _ _ (by simp at hN ⊢; omega) (by simp; omega))) ⟨Dn, [C], hD, .inr ⟨C, rfl, h1, h2⟩, List.Perm.refl _, rfl⟩
 | C :: C2 :: Bs, Dn, hB, hD, hN => by
   obtain ⟨h1, h2⟩ := hB C (by simp)
   obtain ⟨h3, h4⟩ := hB C2 (by simp)
   obtain ⟨S', g1, g2, g3⟩ := hstep Dn.flatten C C2 (Bs.flatten ++ T) h1 h3 h2 h4 (by simp at hN ⊢; omega)
   have hl : S'.length = k + k := by rw [g2.length_eq]; simp; omega
   have hfl : (Dn ++ [S']).flatten = Dn.flatten ++ S' := by simp
   have ih := mrg_loop out k N hstep hend T hT Bs (Dn ++ [S']) (fun D hD => hB D (by simp [hD])) (hD.add hl g1) (by rw [hfl]; simp at hN ⊢; omega)
   rw [show (C :: C2 :: Bs).flatten ++ T = C ++ (C2 ++ (Bs.flatten ++ T)) by simp, loopM_next g3]
   rw [hfl, List.append_assoc, show (Dn.flatten ++ S').length = Dn.flatten.length + (k + k) by simp [hl]] at ih
   refine ih.imp ?_
   rintro r ⟨Dn', Bs', e1, e2, e3, rfl⟩
   refine ⟨Dn', Bs', e1, e2, e3.trans (List.Perm.append_left _ ?_), rfl⟩
   rw [← List.append_assoc C C2]
   exact g2.append_right _
theorem BSn {k : Nat} {l : List Q} (h : BS ltQ k l) : ∃ Bs T, l = Bs.flatten ++ T ∧ Blk k Bs ∧ T.length < k ∧ Srt ltQ T := h
/-- One round of merges. -/
theorem s91_round (n : Nat) {k : Nat} {l : List Q} (hM : Mrg (orcN n) 1048576) (hk : 0 < k) (hl : l.length ≤ 1048576) (hlt : k < l.length) (hB : BS ltQ k l) {R : Type} {f : Int × Int × List Q × Unit → Option ((Int × Int × List Q × Unit) ⊕ R)} (out : Nat → List Q → R)
  (hstep : ∀ (a b : Nat) (L L' : List Q), b ≤ l.length → b ≤ 3000000 → @Eq (Option ((List Q × Unit) ⊕ Unit)) ((orcN n).l 124 sg124 ((L, (a : Int), ((a + k : Nat) : Int), (b : Int), ()) : List Q × Int × Int × Int × Unit)) (some (.inl (L', ()))) → a ≤ b → f ((a : Int), (b : Int), L, ()) = some (.inl ((b : Int), ((b + (k + k) : Nat) : Int), L', ())))
  (hend : ∀ (a b : Nat) (L : List Q), l.length < b → b ≤ 4000000 → f ((a : Int), (b : Int), L, ()) = some (.inr (out a L))) :
  Giv (loopM f (0, ((k + k : Nat) : Int), l, ())) fun r => ∃ X C T : List Q, (X ++ (C ++ T)).Perm l ∧ (∃ Dn, X = Dn.flatten ∧ Blk (k + k) Dn) ∧ (C = [] ∨ C.length = k) ∧ Srt ltQ C ∧ T.length < k ∧ Srt ltQ T ∧ r = out X.length (X ++ (C ++ T)) := by
 obtain ⟨Bs, T, rfl, hBs, hT, sT⟩ := BSn hB
 have := mrg_loop (f := f) out k (Bs.flatten ++ T).length (fun X U V Y hu hv su sv hN => by
  obtain ⟨S', g1, g2, g3⟩ := hM X U V Y (X ++ (U ++ (V ++ Y))) ((X.length : Nat) : Int) ((X.length + k : Nat) : Int) ((X.length + (k + k) : Nat) : Int) (by intro h; subst h; simp at hu; omega) (by intro h; subst h; simp at hv; omega) su sv (by omega) (by omega) rfl rfl (by omega) (by omega)
  exact ⟨S', g1, g2, hstep _ _ _ _ (by omega) (by omega) g3 (by omega)⟩) (fun X Y hN hY => hend _ _ _ (by omega) (by omega)) T hT Bs [] hBs (by intro C hC; cases hC) (by simp)
 obtain ⟨r, hr, Dn', Bs', e1, e2, e3, rfl⟩ := this
 have e0 : loopM f (0, ((k + k : Nat) : Int), Bs.flatten ++ T, ()) = loopM f ((([] : List (List Q)).flatten.length : Int), ((([] : List (List Q)).flatten.length + (k + k) : Nat) : Int), ([] : List (List Q)).flatten ++ (Bs.flatten ++ T), ()) := by simp
 refine Giv.of_eq (e0.trans hr) ?_
 rcases e2 with rfl | ⟨C, rfl, c1, c2⟩
 ·exact ⟨Dn'.flatten, [], T, by simpa using e3, ⟨Dn', rfl, e1⟩, .inl rfl, by simp [Srt], hT, sT, rfl⟩
 ·exact ⟨Dn'.flatten, C, T, by simpa using e3, ⟨Dn', rfl, e1⟩, .inr c1, c2, hT, sT, by simp⟩
theorem outer_loop {R : Type} {f : Int × List Q × Unit → Option ((Int × List Q × Unit) ⊕ R)} (out : List Q → R) (N : Nat)
  (hround : ∀ (k : Nat) (l : List Q), 0 < k → k < N → l.length = N → BS ltQ k l → Giv (f ((k : Int), l, ())) fun r => ∃ l', BS ltQ (k + k) l' ∧ l'.Perm l ∧ r = .inl (((k + k : Nat) : Int), l', ()))
  (hend : ∀ (k : Nat) (l : List Q), N ≤ k → f ((k : Int), l, ()) = some (.inr (out l))) :
  ∀ (d k : Nat) (l : List Q), 0 < k → N ≤ k * 2 ^ d → l.length = N → BS ltQ k l → Giv (loopM f ((k : Int), l, ())) fun r => ∃ l', Srt ltQ l' ∧ l'.Perm l ∧ r = out l'
 | d, k, l, hk, hd, hl, hB => by
   by_cases hc : N ≤ k
   ·exact Giv.of_eq (loopM_end (hend k l hc)) ⟨l, hB.done (by omega) hk, List.Perm.refl _, rfl⟩
   ·cases d with
    | zero => simp at hd; omega
    | succ d =>
      obtain ⟨r, g1, l', g2, g3, rfl⟩ := hround k l hk (by omega) hl hB
      rw [loopM_next g1]
      refine (outer_loop out N hround hend d (k + k) l' (by omega) (by rw [Nat.pow_succ] at hd; rw [Nat.add_mul]; rw [← Nat.mul_assoc] at hd; omega) (by rw [g3.length_eq]; exact hl) g2).imp ?_
      rintro r ⟨l2, e1, e2, rfl⟩
      exact ⟨l2, e1, e2.trans g3, rfl⟩
theorem bs_add {k : Nat} {Dn : List (List Q)} {S : List Q} (h : Blk k Dn) (hS : S.length < k) (sS : Srt ltQ S) : BS ltQ k (Dn.flatten ++ S) := ⟨Dn, S, rfl, h, hS, sS⟩
theorem s91 (n : Nat) {l : List Q} (hl : l.length ≤ 1048576) : Giv (m91 (orcN (n + 23)) l ((l.length : Nat) : Int)) fun r => ∃ l', Srt ltQ l' ∧ l'.Perm l ∧ r = .inl (l', ()) := by
 have hM : Mrg (orcN (n + 23)) 1048576 := mrg_all 20 n
 unfold m91
 have e0 : ∀ {R : Type} (f : Int × Int × List Q × Unit → Option ((Int × Int × List Q × Unit) ⊕ R)), loopM f (0, 20, l, ()) = loopM f ((([] : List (List Q)).flatten.length : Int), ((([] : List (List Q)).flatten.length + 20 : Nat) : Int), ([] : List (List Q)).flatten ++ l, ()) := fun f => by simp
 rw [e0]
 refine Giv.cut (blk_loop (fun a l => (Sum.inl ((a : Int), l, ()) : (Int × List Q × Unit) ⊕ ((List Q × Unit) ⊕ Unit))) 20 l.length (by decide) ?_ ?_ l.length [] l (Nat.le_refl _) (by simp) (by intro C hC; cases hC)) ?_
 ·intro X S Y hS hN
  dsimp only
  obtain ⟨S', g1, g2, g3⟩ := L123 (n + 19) (X := X) (S := S) (Y := Y) (L := X ++ (S ++ Y)) (a := ((X.length : Nat) : Int)) (b := ((X.length + 20 : Nat) : Int)) (by omega) rfl rfl (by rw [hS])
  refine ⟨S', g1, g2, ?_⟩
  rw [decide_eq_true (by omega), br_true, g3, oc_inl, wrapZ (n := X.length + 20 + 20) (by omega) (by omega)]
 ·intro X Y hN hY
  dsimp only
  rw [decide_eq_false (by omega), br_false]
 ·rintro r ⟨Dn, T, hD, hT, hP, rfl⟩
  have hlen := hP.length_eq
  simp only [List.flatten_nil, List.nil_append, List.length_append] at hlen hP
  rw [cutM_inl]
  dsimp only
  obtain ⟨T', g1, g2, g3⟩ := L123 (n + 19) (X := Dn.flatten) (S := T) (Y := []) (L := Dn.flatten ++ T) (a := ((Dn.flatten.length : Nat) : Int)) (b := ((l.length : Nat) : Int)) (by simp only [List.length_nil]; omega) (by simp) rfl (by omega)
  rw [g3, oc_inl, List.append_nil]
  have hP2 : (Dn.flatten ++ T').Perm l := (List.Perm.append_left _ g2).trans hP
  have hB : BS ltQ 20 (Dn.flatten ++ T') := bs_add hD (by rw [g2.length_eq]; exact hT) g1
  refine (outer_loop (fun l => (Sum.inl (l, ()) : (List Q × Unit) ⊕ Unit)) l.length ?_ ?_ 20 20 (Dn.flatten ++ T') (by decide) (by omega) hP2.length_eq hB).imp ?_
  ·intro k l1 hk hkN hl1 hB1
   dsimp only
   rw [decide_eq_true (by omega), br_true, wrapZ (x := 2 * ((k : Nat) : Int)) (n := k + k) (by omega) (by omega), wrapZ (x := ((k : Nat) : Int) * 2) (n := k + k) (by omega) (by omega)]
   refine Giv.cut (s91_round (n + 23) hM hk (by omega) (by omega) hB1 (fun a l => (Sum.inl ((a : Int), l, ()) : (Int × List Q × Unit) ⊕ ((Int × List Q × Unit) ⊕ ((List Q × Unit) ⊕ Unit)))) ?_ ?_) ?_
   ·intro a b L L' hb hb2 he hab
    dsimp only
    rw [decide_eq_true (by omega), br_true, wrapZ (x := ((a : Nat) : Int) + ((k : Nat) : Int)) (n := a + k) (by omega) (by omega), he, oc_inl, wrapZ (n := b + (k + k)) (by omega) (by omega)]
   ·intro a b L hb hb2
    dsimp only
    rw [decide_eq_false (by omega), br_false]
   ·rintro r ⟨X, C, T2, p1, ⟨Dn2, rfl, hD2⟩, hC, sC, hT2, sT2, rfl⟩
    rw [cutM_inl]
    dsimp only
    have hlen2 := p1.length_eq
    simp only [List.length_append] at hlen2
    rw [wrapZ (x := ((Dn2.flatten.length : Nat) : Int) + ((k : Nat) : Int)) (n := Dn2.flatten.length + k) (by omega) (by omega)]
    by_cases hc : Dn2.flatten.length + k < l.length
    ·rw [decide_eq_true (by omega), br_true]
     have hCk : C.length = k := by
      rcases hC with rfl | hC
      ·simp only [List.length_nil] at hlen2; omega
      ·exact hC
     obtain ⟨S', f1, f2, f3⟩ := hM Dn2.flatten C T2 [] (Dn2.flatten ++ (C ++ T2)) ((Dn2.flatten.length : Nat) : Int) ((Dn2.flatten.length + k : Nat) : Int) ((l.length : Nat) : Int) (by intro h; subst h; simp at hCk; omega) (by intro h; subst h; simp only [List.length_nil] at hlen2; omega) sC sT2 (by omega) (by simp only [List.length_nil]; omega) (by simp) rfl (by omega) (by omega)
     rw [f3, oc_inl]
     refine Giv.mk ⟨Dn2.flatten ++ S', bs_add hD2 (by rw [f2.length_eq]; simp; omega) f1, (List.Perm.append_left _ f2).trans p1, by simp⟩
    ·rw [decide_eq_false (by omega), br_false]
     rcases hC with rfl | hC
     ·exact Giv.mk ⟨Dn2.flatten ++ ([] ++ T2), bs_add hD2 (by simp; omega) (by simpa using sT2), p1, rfl⟩
     ·obtain rfl : T2 = [] := List.length_eq_zero_iff.1 (by omega)
      exact Giv.mk ⟨Dn2.flatten ++ (C ++ []), bs_add hD2 (by simp; omega) (by simpa using sC), p1, rfl⟩
  ·intro k l1 hk
   dsimp only
   rw [decide_eq_false (by omega), br_false]
  ·rintro r ⟨l', e1, e2, rfl⟩
   exact ⟨l', e1, e2.trans hP2, rfl⟩
/-- THE STABLE SORT. -/
theorem L39 (n : Nat) {l : List Q} (hl : l.length ≤ 1048576) : ∃ l', Srt ltQ l' ∧ l'.Perm l ∧ @Eq (Option (List Q)) ((orcN (n + 25)).p 39 (.st 3) 63 [.func (.func 40) [] []] l) (some l') := by
 obtain ⟨r, h, l', h1, h2, rfl⟩ := s91 n hl
 refine ⟨l', h1, h2, (q39 (n + 24) l).trans ?_⟩
 unfold m39
 have e : @Eq (Option ((List Q × Unit) ⊕ Unit)) ((orcN (n + 24)).l 91 sg91 ((l, len l, ()) : List Q × Int × Unit)) (some (.inl (l', ()))) := (q91 (n + 23) l (len l)).trans h
 rw [e]; rfl
end Pe.Tryd
