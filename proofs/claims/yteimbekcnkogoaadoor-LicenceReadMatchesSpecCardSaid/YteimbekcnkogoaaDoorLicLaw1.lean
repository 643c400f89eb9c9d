/- The plain laws of what the licence functions compute: aids, and the functions on bytes and names. -/
import Derived.Test.YteimbekcnkogoaaDoorLicDQ
import Derived.Test.YteimbekcnkogoaaDoorPe22
set_option maxRecDepth 100000
namespace Pe
theorem ob_some_eq {α β : Type} (a : α) (f : α → Option β) : ob (some a) f = f a := rfl
theorem oc_inl {α β R : Type} (a : α) (f : α → Option R) (g : β → Option R) : oc (some (.inl a)) f g = f a := rfl
theorem oc_inr {α β R : Type} (b : β) (f : α → Option R) (g : β → Option R) : oc (some (.inr b)) f g = g b := rfl
theorem cutM_inl {σ R : Type} (t : σ) (f : σ → Option R) : cutM (some (.inl t)) f = f t := rfl
theorem cutM_inr {σ R : Type} (r : R) (f : σ → Option R) : cutM (some (.inr r)) f = some r := rfl
theorem br_true {α : Type} (x y : Option α) : br true x y = x := rfl
theorem br_false {α : Type} (x y : Option α) : br false x y = y := rfl
theorem br_if {α : Type} (b : Bool) (x y : Option α) : br b x y = if b = true then x else y := by cases b <;> rfl
theorem br_some_eq {α : Type} (b : Bool) (x y : α) : br b (some x) (some y) = some (bif b then x else y) := by cases b <;> rfl
theorem cond_or (b x : Bool) : (bif b then true else x) = (b || x) := by cases b <;> rfl
theorem cond_and (b x : Bool) : (bif b then x else false) = (b && x) := by cases b <;> rfl
theorem wrap_id {n : Int} (h1 : -9223372036854775808 ≤ n) (h2 : n ≤ 9223372036854775807) : Go.IntKind.i64.wrap n = n := by
  unfold Go.IntKind.wrap
  simp [Go.IntKind.bits, Go.IntKind.signed]
  omega
theorem at?_nat {α : Type} (l : List α) (k : Nat) : at? l (k : Int) = l[k]? := rfl
theorem at?_get {α : Type} {l : List α} {k : Nat} (h : k < l.length) : at? l (k : Int) = some l[k] := by rw [at?_nat]; simp [h]
theorem part?_nat {α : Type} {l : List α} {i j : Nat} (h1 : i ≤ j) (h2 : j ≤ l.length) : part? l (i : Int) (j : Int) = some ((l.drop i).take (j - i)) := by
  show (bif Nat.ble i j && Nat.ble j l.length then some ((l.drop i).take (j - i)) else none) = _
  have : (Nat.ble i j && Nat.ble j l.length) = true := by simp [Nat.ble_eq, h1, h2]
  rw [this]; rfl
theorem cat?_ok {α : Type} {l r : List α} (h : l.length + r.length ≤ lim) : cat? l r = some (l ++ r) := by
  unfold cat?
  have : Nat.ble (l.length + r.length) lim = true := by rw [Nat.ble_eq]; exact h
  rw [this]; rfl
theorem len_lt {α : Type} {l : List α} {k : Nat} : ((k : Int) < len l) = (k < l.length) := by simp [len]
/-- A loop over places, with a state. -/
theorem loop_st {σ A R : Type} {f : σ → Option (σ ⊕ R)} (mk : Nat → A → σ) (n : Nat) (g : Nat → A → R) (I : Nat → A → Prop)
    (h : ∀ k a, k ≤ n → I k a → (∃ a', k < n ∧ f (mk k a) = some (.inl (mk (k + 1) a')) ∧ I (k + 1) a' ∧ g (k + 1) a' = g k a) ∨ f (mk k a) = some (.inr (g k a))) :
    ∀ k a, k ≤ n → I k a → loopM f (mk k a) = some (g k a) := by
  have key : ∀ d k a, n - k ≤ d → k ≤ n → I k a → loopM f (mk k a) = some (g k a) := by
    intro d
    induction d with
    | zero =>
      intro k a hd hk hI
      rcases h k a hk hI with ⟨a', h1, _⟩ | h1
      · omega
      · exact loopM_end h1
    | succ d ih =>
      intro k a hd hk hI
      rcases h k a hk hI with ⟨a', h1, h2, h3, h4⟩ | h1
      · rw [loopM_next h2, ih (k + 1) a' (by omega) (by omega) h3, h4]
      · exact loopM_end h1
  exact fun k a hk hI => key _ k a (Nat.le_refl _) hk hI
theorem loop_ix {R : Type} {f : Int × Unit → Option ((Int × Unit) ⊕ R)} (n : Nat) (g : Nat → R)
    (h : ∀ k, k ≤ n → (k < n ∧ f ((k : Int), ()) = some (.inl (((k + 1 : Nat) : Int), ())) ∧ g (k + 1) = g k) ∨ f ((k : Int), ()) = some (.inr (g k))) :
    ∀ k, k ≤ n → loopM f ((k : Int), ()) = some (g k) := fun k hk =>
  loop_st (A := Unit) (fun k _ => ((k : Int), ())) n (fun k _ => g k) (fun _ _ => True) (fun k _ hk _ => by
    rcases h k hk with ⟨h1, h2, h3⟩ | h1
    · exact .inl ⟨(), h1, h2, trivial, h3⟩
    · exact .inr h1) k () hk trivial
theorem wrap_succ {k n : Nat} (h : k < n) (hn : n ≤ 9223372036854775807) : Go.IntKind.i64.wrap ((k : Int) + 1) = ((k + 1 : Nat) : Int) := by
  rw [wrap_id (by omega) (by omega)]; rfl
end Pe
namespace LicSpec
theorem Ex.eta (e : Ex) : Ex.mk e.kind e.name e.later e.wth e.kids = e := by cases e; rfl
end LicSpec
namespace Pe.Tryd
open Go Go.Proofs Pe LicSpec

theorem isRun_int (c : UInt8) : LicSpec.isRun c = ((decide (97 ≤ (c.toNat : Int)) && decide ((c.toNat : Int) ≤ 122)) || (decide (65 ≤ (c.toNat : Int)) && decide ((c.toNat : Int) ≤ 90)) || (decide (48 ≤ (c.toNat : Int)) && decide ((c.toNat : Int) ≤ 57)) || (c.toNat : Int) == 46 || (c.toNat : Int) == 45) := by
  have h : ∀ n : Nat, n < 256 → (UInt8.ofNat n).toNat = n := fun n hn => by simp [UInt8.toNat_ofNat']; omega
  have h2 : ∀ n : Nat, n < 256 → LicSpec.isRun (UInt8.ofNat n) = ((decide (97 ≤ (n : Int)) && decide ((n : Int) ≤ 122)) || (decide (65 ≤ (n : Int)) && decide ((n : Int) ≤ 90)) || (decide (48 ≤ (n : Int)) && decide ((n : Int) ≤ 57)) || (n : Int) == 46 || (n : Int) == 45) := by decide +revert
  have h3 := h2 c.toNat c.toNat_lt
  simpa using h3

theorem L62 (o : Orc Sx) (c : UInt8) : m62 o (c.toNat : Int) = some (LicSpec.isRun c, ()) := by
  unfold m62
  simp only [br_some_eq, ob_some_eq, cond_or, cond_and, isRun_int, Bool.or_assoc]
theorem L67 (o : Orc Sx) (c : UInt8) : m67 o (c.toNat : Int) = some (LicSpec.isRun c, ()) := by
  unfold m67
  simp only [br_some_eq, ob_some_eq, cond_or, cond_and, isRun_int, Bool.or_assoc]
theorem L61 (o : Orc Sx) (s : List UInt8) : m61 o s = some (LicSpec.isWord s, ()) := by
  unfold m61 LicSpec.isWord sAND sOR sWITH sand sor swith
  simp only [br_some_eq]
  cases s == [65, 78, 68] <;> cases s == [79, 82] <;> cases s == [87, 73, 84, 72] <;> cases s == [97, 110, 100] <;> cases s == [111, 114] <;> cases s == [119, 105, 116, 104] <;> rfl
theorem L66 (o : Orc Sx) (s : List UInt8) : m66 o s = some (LicSpec.wordR s, ()) := by
  unfold m66 LicSpec.wordR sAND sOR sWITH sand sor swith
  by_cases h1 : s = [65, 78, 68]
  · subst h1; rfl
  by_cases h2 : s = [97, 110, 100]
  · subst h2; rfl
  by_cases h3 : s = [79, 82]
  · subst h3; rfl
  by_cases h4 : s = [111, 114]
  · subst h4; rfl
  by_cases h5 : s = [87, 73, 84, 72]
  · subst h5; rfl
  by_cases h6 : s = [119, 105, 116, 104]
  · subst h6; rfl
  have e : ∀ t : List UInt8, s ≠ t → (s == t) = false := fun t ht => by simpa using ht
  simp only [e _ h1, e _ h2, e _ h3, e _ h4, e _ h5, e _ h6, br_false, cutM_inl, h1, h2, h3, h4, h5, h6, or_self, if_false]

theorem drop_all {s : List UInt8} {k : Nat} (h : k < s.length) : (s.drop k).all LicSpec.isRun = (LicSpec.isRun s[k] && (s.drop (k + 1)).all LicSpec.isRun) := by
  rw [List.drop_eq_getElem_cons h]; rfl

/-- The loop over a name's bytes. -/
theorem L34 (n : Nat) (s : List UInt8) (hs : s.length ≤ 1000000000) : m34 (orcN (n + 1)) s = some (LicSpec.isName s, ()) := by
  unfold m34
  have hloop : loopM (R := Unit ⊕ (Bool × Unit)) (fun (t8 : Int × Unit) => (br (decide (t8.1 < (len s))) (ob (at? s t8.1) fun c9 => (ob (α := Bool × Unit) ((orcN (n + 1)).d 62 [.int .u8 (UInt8.toNat c9 : Int)] [.bool]) fun (r10 : Bool × Unit) => (br (!r10.1) (some (.inr (.inr (false, ())))) (some (.inl ((IntKind.i64.wrap (t8.1 + 1)), ())))))) (some (.inr (.inl (())))))) (((0 : Nat) : Int), ()) = some (if s.all LicSpec.isRun then .inl () else .inr (false, ())) := by
    have := loop_ix (f := fun (t8 : Int × Unit) => (br (decide (t8.1 < (len s))) (ob (at? s t8.1) fun c9 => (ob (α := Bool × Unit) ((orcN (n + 1)).d 62 [.int .u8 (UInt8.toNat c9 : Int)] [.bool]) fun (r10 : Bool × Unit) => (br (!r10.1) (some (.inr (.inr (false, ())))) (some (.inl ((IntKind.i64.wrap (t8.1 + 1)), ())))))) (some (.inr (.inl (())))))) s.length (fun k => if (s.drop k).all LicSpec.isRun then (.inl () : Unit ⊕ (Bool × Unit)) else .inr (false, ())) (fun k hk => ?_) 0 (Nat.zero_le _)
    · simpa using this
    · by_cases hlt : k < s.length
      · simp only [len_lt, hlt, decide_true, br_true, at?_get hlt, ob_some_eq, q62, L62]
        cases hr : LicSpec.isRun s[k] with
        | true =>
          left
          simp only [Bool.not_true, br_false]
          exact ⟨by first | trivial | exact hlt, by rw [wrap_succ hlt (by omega)], by rw [drop_all hlt, hr]; rfl⟩
        | false =>
          right
          simp only [Bool.not_false, br_true]
          rw [drop_all hlt, hr]; rfl
      · right
        simp only [len_lt, hlt, decide_false, br_false]
        rw [List.drop_of_length_le (by omega)]; rfl
  rw [show ((0 : Int), ()) = (((0 : Nat) : Int), ()) from rfl, hloop]
  simp only [br_some_eq, ob_some_eq, cond_or]
  unfold LicSpec.isName
  cases s with
  | nil => rfl
  | cons c r =>
    have h0 : at? (c :: r) 0 = some c := rfl
    have e46 : (((c.toNat : Int)) == 46) = (some c == some 46) := by
      have : ((c.toNat : Int) = 46) ↔ c = 46 := ⟨fun h => UInt8.toNat.inj (by simpa using (by omega : c.toNat = 46)), fun h => by subst h; rfl⟩
      by_cases h : c = 46
      · subst h; rfl
      · have h1 : ¬ (c.toNat : Int) = 46 := fun h' => h (this.1 h')
        rw [beq_eq_false_iff_ne.2 h1, beq_eq_false_iff_ne.2 (by simpa using h)]
    have e45 : (((c.toNat : Int)) == 45) = (some c == some 45) := by
      have : ((c.toNat : Int) = 45) ↔ c = 45 := ⟨fun h => UInt8.toNat.inj (by simpa using (by omega : c.toNat = 45)), fun h => by subst h; rfl⟩
      by_cases h : c = 45
      · subst h; rfl
      · have h1 : ¬ (c.toNat : Int) = 45 := fun h' => h (this.1 h')
        rw [beq_eq_false_iff_ne.2 h1, beq_eq_false_iff_ne.2 (by simpa using h)]
    have e60 : decide (60 < len (c :: r)) = decide (60 < (c :: r).length) := by unfold len; exact decide_eq_decide.2 (by omega)
    simp only [h0, ob_some_eq, q61, L61, e46, e45, e60, List.isEmpty_cons, List.head?_cons, Bool.false_or, show ((c :: r) == ([] : List UInt8)) = false from rfl, br_some_eq, cond_or]
    cases hA : decide (60 < (c :: r).length) with
    | true => simp [br_if, cutM]
    | false =>
      cases hB : (some c == some 46) with
      | true => simp [br_if, cutM]
      | false =>
        cases hC : (some c == some 45) with
        | true => simp [br_if, cutM]
        | false =>
          cases hD : LicSpec.isWord (c :: r) with
          | true => simp [br_if, cutM]
          | false =>
            cases hE : (c :: r).all LicSpec.isRun <;> simp [br_if, cutM]
end Pe.Tryd
