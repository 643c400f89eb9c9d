/- PROVED HERE: a part of the seat's proofs; see the text that holds the claim's theorem. -/
import Derived.Test.YtjhmblhgicjlfaaDoorPuC
section
/- Plain words of names: letters, escapes, small letters, dashes; and the models of the functions that tell them. -/
set_option maxRecDepth 100000
namespace Pe.Tryd
open Go Go.Proofs Pe Pe.Told
theorem all8 {p : UInt8 → Bool} (h : ((List.range 256).all fun n => p (UInt8.ofNat n)) = true) (c : UInt8) : p c = true := by
 have := List.all_eq_true.1 h c.toNat (by simpa using c.toNat_lt)
 simpa using this
theorem eq8 {α : Type} [DecidableEq α] {f g : UInt8 → α} (h : ((List.range 256).all fun n => decide (f (UInt8.ofNat n) = g (UInt8.ofNat n))) = true) (c : UInt8) : f c = g c := by
 have := all8 (p := fun c => decide (f c = g c)) h c
 simpa using this
/-! bytes -/
def isDash (c : UInt8) : Bool := c == 45 || c == 95 || c == 46
def ctl (c : UInt8) : Bool := decide (c < 32) || c == 127
def plainB (c : UInt8) : Bool := decide (97 ≤ c) && decide (c ≤ 122) || decide (65 ≤ c) && decide (c ≤ 90) || decide (48 ≤ c) && decide (c ≤ 57) || c == 46 || c == 45 || c == 95 || c == 126
def low (c : UInt8) : UInt8 := bif decide (65 ≤ c) && decide (c ≤ 90) then c + 32 else c
def nameB (c : UInt8) (first : Bool) : Bool := decide (97 ≤ c) && decide (c ≤ 122) || (!first && (decide (48 ≤ c) && decide (c ≤ 57) || c == 46 || c == 45 || c == 95))
def digs : List UInt8 := [48, 49, 50, 51, 52, 53, 54, 55, 56, 57, 65, 66, 67, 68, 69, 70]
def escB (c : UInt8) : List UInt8 := bif plainB c then [c] else [37, digs.getD (c / 16).toNat 0, digs.getD (c % 16).toNat 0]
def escS (s : List UInt8) : List UInt8 := s.flatMap escB
def smallS (s : List UInt8) : List UInt8 := s.map low
def dashS : Bool → List UInt8 → List UInt8
 | _, [] => []
 | b, c :: r => bif isDash c then (bif b then [] else [45]) ++ dashS true r else c :: dashS false r
theorem s125 (o : Orc Sx) (c : UInt8) : m125 o (c.toNat : Int) = some (isDash c, ()) := by
 simp only [m125, ob_some_eq, br_some_eq]
 exact congrArg some (Prod.ext (eq8 (f := fun c => bif (bif ((c.toNat : Int) == 45) then true else ((c.toNat : Int) == 95)) then true else ((c.toNat : Int) == 46)) (g := isDash) (by decide +kernel) c) rfl)
theorem s122 (o : Orc Sx) (c : UInt8) (f : Bool) : m122 o (c.toNat : Int) f = some (nameB c f, ()) := by
 cases f
 ·exact eq8 (f := fun c => m122 o (c.toNat : Int) false) (g := fun c => some (nameB c false, ())) (by kernel_rfl) c
 ·exact eq8 (f := fun c => m122 o (c.toNat : Int) true) (g := fun c => some (nameB c true, ())) (by kernel_rfl) c
def letB (c : UInt8) : Bool := decide (97 ≤ c) && decide (c ≤ 122) || decide (65 ≤ c) && decide (c ≤ 90)
theorem s102 (o : Orc Sx) (c : UInt8) : m102 o (c.toNat : Int) = some (letB c, ()) :=
 eq8 (f := fun c => m102 o (c.toNat : Int)) (g := fun c => some (letB c, ())) (by kernel_rfl) c
theorem L125 (n : Nat) (c : UInt8) : @Eq (Option (Bool × Unit)) ((orcN (n + 1)).d 125 [.int .u8 (c.toNat : Int)] [.bool]) (some (isDash c, ())) := (q125 n _).trans (s125 _ c)
theorem L122 (n : Nat) (c : UInt8) (f : Bool) : @Eq (Option (Bool × Unit)) ((orcN (n + 1)).d 122 [.int .u8 (c.toNat : Int), .bool f] [.bool]) (some (nameB c f, ())) := (q122 n _ _).trans (s122 _ c f)
theorem L102 (n : Nat) (c : UInt8) : @Eq (Option (Bool × Unit)) ((orcN (n + 1)).d 102 [.int .u8 (c.toNat : Int)] [.bool]) (some (letB c, ())) := (q102 n _).trans (s102 _ c)
theorem L64 (n : Nat) (s : List UInt8) (c : Int) : @Eq (Option (Int × Unit)) ((orcN (n + 1)).d 64 [.str s, .int .u8 c] [.int .i64]) (some (Lib.indexByte s (UInt8.ofNat (Int.toNat c)), ())) := c64_le n s c _ rfl
theorem L69 (n : Nat) (s : List UInt8) (c : UInt8) : @Eq (Option (Bool × Unit)) ((orcN (n + 1)).d 69 [.str s, .str [c]] [.bool]) (some (decide (0 ≤ Lib.indexByte s c), ())) := by kernel_rfl
theorem L106 (n : Nat) {s : List UInt8} (c : UInt8) (h : s.length ≤ 4000000000) : @Eq (Option (List (List UInt8) × Unit)) ((orcN (n + 1)).d 106 [.str s, .str [c]] [.sl .str]) (some (splitS c s, ())) :=
 c106_le n s [c] _ (by show (bif Nat.ble s.length 4000000000 then some (splitS c s, ()) else none) = _; rw [show Nat.ble s.length 4000000000 = true by rw [Nat.ble_eq]; exact h]; rfl)
theorem L45 (n : Nat) {l : List (List UInt8)} {s : List UInt8} (h1 : l.length ≤ 1000000) (h2 : (Lib.join l s).length ≤ 100000000) : @Eq (Option (List UInt8 × Unit)) ((orcN (n + 1)).d 45 [.sl .str l, .str s] [.str]) (some (Lib.join l s, ())) :=
 c45_le n l s _ (by unfold c45; rw [show Nat.ble l.length 1000000 = true by rw [Nat.ble_eq]; exact h1, show Nat.ble (Lib.join l s).length 100000000 = true by rw [Nat.ble_eq]; exact h2]; rfl)
/-! lists of bytes as numbers -/
theorem strOf_bytes (s : List UInt8) : strOf (bytesOf s) = s := by simp [strOf, bytesOf, Function.comp_def]
theorem str?_bytes (s : List UInt8) : str? (bytesOf s) = some s := by
 unfold str?
 have : ((bytesOf s).all fun n => decide (0 ≤ n) && decide (n < 256)) = true := by
  rw [List.all_eq_true]
  intro x hx
  simp only [bytesOf, List.mem_map] at hx
  obtain ⟨c, _, rfl⟩ := hx
  have := c.toNat_lt
  simp; omega
 rw [this, strOf_bytes]; rfl
theorem bytes_app (a b : List UInt8) : bytesOf (a ++ b) = bytesOf a ++ bytesOf b := by simp [bytesOf]
theorem bytes_len (a : List UInt8) : (bytesOf a).length = a.length := by simp [bytesOf]
theorem cat?_bytes {a b : List UInt8} (h : a.length + b.length ≤ lim) : cat? (bytesOf a) (bytesOf b) = some (bytesOf (a ++ b)) := by
 rw [cat?_ok (by simpa [bytes_len] using h), bytes_app]
theorem cat?_nil {α : Type} (s : List α) (h : s.length ≤ lim) : cat? [] s = some s := by rw [cat?_ok (by simpa using h)]; rfl
/-! control -/
theorem ctl_eq (c : UInt8) : (bif decide ((c.toNat : Int) < 32) then true else ((c.toNat : Int) == 127)) = ctl c :=
 eq8 (f := fun c => bif decide ((c.toNat : Int) < 32) then true else ((c.toNat : Int) == 127)) (g := ctl) (by decide +kernel) c
theorem any_range (s : List UInt8) (p : UInt8 → Bool) : ((List.range s.length).any fun k => p (s.getD k 0)) = s.any p := by
 rw [Bool.eq_iff_iff]
 simp only [List.any_eq_true, List.mem_range]
 constructor
 ·rintro ⟨k, hk, h⟩
  refine ⟨s[k], List.getElem_mem hk, ?_⟩
  simpa [List.getD_eq_getElem?_getD, hk] using h
 ·rintro ⟨x, hx, h⟩
  obtain ⟨k, hk, rfl⟩ := List.getElem_of_mem hx
  exact ⟨k, hk, by simpa [List.getD_eq_getElem?_getD, hk] using h⟩
theorem s66 (o : Orc Sx) {s : List UInt8} (h : s.length ≤ 1000000000) : m66 o s = some (s.any ctl, ()) := by
 unfold m66
 rw [loop_any s.length (fun k => ctl (s.getD k 0)) (.inr (true, ())) (.inl ()) (fun k hk => ?_) ?_, any_range]
 ·cases s.any ctl <;> rfl
 ·simp [len_lt, br_false]
 ·simp only [len_lt, hk, decide_true, at?_get hk, ob_some_eq, br_some_eq, ctl_eq, wrap_succ hk (by omega)]
  cases h2 : ctl s[k] <;> simp [List.getD_eq_getElem?_getD, hk, h2]
theorem s71 (o : Orc Sx) {s : List UInt8} (h : s.length ≤ 1000000000) : m71 o s = some (!s.any ctl, ()) := by
 unfold m71
 rw [loop_any s.length (fun k => ctl (s.getD k 0)) (.inr (false, ())) (.inl ()) (fun k hk => ?_) ?_, any_range]
 ·cases s.any ctl <;> rfl
 ·simp [len_lt, br_false]
 ·simp only [len_lt, hk, decide_true, at?_get hk, ob_some_eq, br_some_eq, ctl_eq, wrap_succ hk (by omega)]
  cases h2 : ctl s[k] <;> simp [List.getD_eq_getElem?_getD, hk, h2]
end Pe.Tryd
end
section
/- The models of the functions on texts of names: qualifiers' names, segments, small letters, dashes, escapes, paths. -/
set_option maxRecDepth 100000
namespace Pe.Tryd
open Go Go.Proofs Pe Pe.Told
theorem bif_if {α : Type} {X P : Bool} {a b : α} (h : X = P) : some (bif X then a else b) = if P = true then some a else some b := by subst h; cases X <;> rfl
theorem br_eq {α : Type} {X P : Bool} {a b : Option α} (h : X = P) : br X a b = br P a b := by rw [h]
theorem any_rangeG {α : Type} (s : List α) (d : α) (p : α → Bool) : ((List.range s.length).any fun k => p (s.getD k d)) = s.any p := by
 rw [Bool.eq_iff_iff]
 simp only [List.any_eq_true, List.mem_range]
 constructor
 ·rintro ⟨k, hk, h⟩
  refine ⟨s[k], List.getElem_mem hk, ?_⟩
  simpa [List.getD_eq_getElem?_getD, hk] using h
 ·rintro ⟨x, hx, h⟩
  obtain ⟨k, hk, rfl⟩ := List.getElem_of_mem hx
  exact ⟨k, hk, by simpa [List.getD_eq_getElem?_getD, hk] using h⟩
theorem getD_get {α : Type} {s : List α} {k : Nat} (d : α) (h : k < s.length) : s.getD k d = s[k] := by simp [List.getD_eq_getElem?_getD, h]
theorem cut_of {σ R : Type} {x : Option (σ ⊕ R)} {r : σ ⊕ R} {g : σ → Option R} {y : Option R} (h : x = some r) (h2 : cutM (some r) g = y) : cutM x g = y := by rw [h, h2]
/-! a qualifier's name -/
def nameS (s : List UInt8) : Bool := bif (List.range s.length).any (fun k => !nameB (s.getD k 0) ((k : Int) == 0)) then false else s != []
theorem s108 (n : Nat) {s : List UInt8} (h : s.length ≤ 1000000000) : m108 (orcN (n + 1)) s = some (nameS s, ()) := by
 unfold m108
 rw [loop_any s.length (fun k => !nameB (s.getD k 0) ((k : Int) == 0)) (.inr (false, ())) (.inl ()) (fun k hk => ?_) ?_]
 ·unfold nameS; cases (List.range s.length).any (fun k => !nameB (s.getD k 0) ((k : Int) == 0)) <;> rfl
 ·simp [len_lt, br_false]
 ·simp only [len_lt, hk, decide_true, br_true, at?_get hk, ob_some_eq, L122, wrap_succ hk (by omega), getD_get 0 hk]
  rw [br_if]
theorem s70 (o : Orc Sx) {s : List UInt8} (h : s.length ≤ 1000000000) : m70 o s = some (nameS s, ()) := by
 unfold m70
 rw [loop_any s.length (fun k => !nameB (s.getD k 0) ((k : Int) == 0)) (.inr (false, ())) (.inl ()) (fun k hk => ?_) ?_]
 ·unfold nameS; cases (List.range s.length).any (fun k => !nameB (s.getD k 0) ((k : Int) == 0)) <;> rfl
 ·simp [len_lt, br_false]
 ·simp only [len_lt, hk, decide_true, at?_get hk, ob_some_eq, wrap_succ hk (by omega), getD_get 0 hk, br_some_eq, cond_true]
  refine bif_if ?_
  generalize s[k] = c
  generalize ((k : Int) == 0) = f
  cases f
  ·revert c; exact eq8 (by decide +kernel)
  ·revert c; exact eq8 (by decide +kernel)
/-! segments -/
def segs (s : List UInt8) : List (List UInt8) := bif s == [] then [] else splitS 47 s
theorem s63 (n : Nat) {s : List UInt8} (h : s.length ≤ 1000000000) : m63 (orcN (n + 1)) s = some (segs s, ()) := by
 unfold m63 segs
 rw [L106 n 47 (by omega)]
 cases (s == []) <;> rfl
theorem s109 (n : Nat) {s : List UInt8} (h : s.length ≤ 1000000000) : m109 (orcN (n + 1)) s = some (segs s, ()) := by
 unfold m109 segs
 rw [L106 n 47 (by omega)]
 cases (s == []) <;> rfl
def segBad (dots : Bool) (x : List UInt8) : Bool := bif x == [] then true else bif dots then (bif x == [46] then true else x == [46, 46]) else false
def pathBad (l : List (List UInt8)) (dots : Bool) : Bool := bif l.any (segBad dots) then true else decide (10 < len l)
theorem s62 (o : Orc Sx) {l : List (List UInt8)} (dots : Bool) (h : l.length ≤ 1000000000) : m62 o l dots = some (pathBad l dots, ()) := by
 unfold m62
 rw [loop_any l.length (fun k => segBad dots (l.getD k [])) (.inr (true, ())) (.inl ()) (fun k hk => ?_) ?_, any_rangeG]
 ·unfold pathBad; cases l.any (segBad dots) <;> rfl
 ·simp [len_lt, br_false]
 ·simp only [len_lt, hk, decide_true, at?_get hk, ob_some_eq, wrap_succ hk (by omega), getD_get [] hk, br_some_eq, cond_true]
  exact bif_if rfl
theorem s68 (n : Nat) {s : List UInt8} (dots : Bool) (h : s.length ≤ 1000000000) (h2 : (segs s).length ≤ 1000000000) : m68 (orcN (n + 2)) s dots = some (pathBad (segs s) dots, ()) := by
 unfold m68
 rw [show (orcN (n + 2)).d 109 [.str s] [(.sl .str)] = _ from (q109 (n + 1) s).trans (s109 n h)]
 simp only [ob_some_eq]
 generalize segs s = l at h2
 rw [loop_any l.length (fun k => segBad dots (l.getD k [])) (.inr (true, ())) (.inl ()) (fun k hk => ?_) ?_, any_rangeG]
 ·unfold pathBad; cases l.any (segBad dots) <;> rfl
 ·simp [len_lt, br_false]
 ·simp only [len_lt, hk, decide_true, at?_get hk, ob_some_eq, wrap_succ hk (by omega), getD_get [] hk, br_some_eq, cond_true]
  exact bif_if rfl
/-! escapes -/
theorem dig1 (c : UInt8) : part? ([48, 49, 50, 51, 52, 53, 54, 55, 56, 57, 65, 66, 67, 68, 69, 70] : List UInt8) (IntKind.u8.wrap (Int.tdiv (c.toNat : Int) 16)) (IntKind.u8.wrap ((IntKind.u8.wrap (Int.tdiv (c.toNat : Int) 16)) + 1)) = some [digs.getD (c / 16).toNat 0] :=
 eq8 (f := fun c => part? ([48, 49, 50, 51, 52, 53, 54, 55, 56, 57, 65, 66, 67, 68, 69, 70] : List UInt8) (IntKind.u8.wrap (Int.tdiv (c.toNat : Int) 16)) (IntKind.u8.wrap ((IntKind.u8.wrap (Int.tdiv (c.toNat : Int) 16)) + 1))) (g := fun c => some [digs.getD (c / 16).toNat 0]) (by decide +kernel) c
theorem dig2 (c : UInt8) : part? ([48, 49, 50, 51, 52, 53, 54, 55, 56, 57, 65, 66, 67, 68, 69, 70] : List UInt8) (Int.tmod (c.toNat : Int) 16) (IntKind.u8.wrap ((Int.tmod (c.toNat : Int) 16) + 1)) = some [digs.getD (c % 16).toNat 0] :=
 eq8 (f := fun c => part? ([48, 49, 50, 51, 52, 53, 54, 55, 56, 57, 65, 66, 67, 68, 69, 70] : List UInt8) (Int.tmod (c.toNat : Int) 16) (IntKind.u8.wrap ((Int.tmod (c.toNat : Int) 16) + 1))) (g := fun c => some [digs.getD (c % 16).toNat 0]) (by decide +kernel) c
theorem fold_flat (g : UInt8 → List UInt8) : ∀ (s a : List UInt8), s.foldl (fun b c => b ++ g c) a = a ++ s.flatMap g
 | [], a => by simp
 | c :: r, a => by simp [fold_flat g r, List.append_assoc]
theorem escB_len (c : UInt8) : (escB c).length ≤ 3 := by unfold escB; cases plainB c <;> simp
theorem esc_len : ∀ s : List UInt8, (escS s).length ≤ 3 * s.length
 | [] => by simp [escS]
 | c :: r => by have := esc_len r; have := escB_len c; simp only [escS, List.flatMap_cons, List.length_append, List.length_cons] at *; omega
theorem s53 (n : Nat) {s : List UInt8} (h : s.length ≤ 1000000000) : m53 (orcN (n + 1)) s = some (escS s, ()) := by
 unfold m53
 refine cut_of (loop_fold (fun k (b : List UInt8) => ((k : Int), bytesOf b, ())) s (fun b c => b ++ escB c) (fun b => .inl (bytesOf b, ())) (fun k b => b.length ≤ 3 * k) (fun k hk b hI => ?_) (fun b _ => ?_) [] (by simp)) ?_
 ·have hl := escB_len s[k]
  refine ⟨?_, by simp; omega⟩
  simp only [len_lt, hk, decide_true, br_true, at?_get hk, ob_some_eq, wrap_succ hk (by omega), br_some_eq, L102, L64]
  generalize s[k] = c at hl
  refine (br_eq (P := plainB c) ?_).trans ?_
  ·clear hl; revert c; exact eq8 (by decide +kernel)
  ·cases hc : plainB c
   ·simp only [br_false, dig1, dig2, ob_some_eq]
    rw [show cat? ([37] : List UInt8) [digs.getD (c / 16).toNat 0] = some [37, digs.getD (c / 16).toNat 0] from rfl]
    simp only [ob_some_eq]
    rw [show cat? [37, digs.getD (c / 16).toNat 0] [digs.getD (c % 16).toNat 0] = some [37, digs.getD (c / 16).toNat 0, digs.getD (c % 16).toNat 0] from rfl]
    simp only [ob_some_eq]
    rw [cat?_bytes (by simp [lim]; omega)]
    simp [ob_some_eq, escB, hc]
   ·simp only [br_true]
    rw [show cat? (bytesOf b) [(c.toNat : Int)] = some (bytesOf (b ++ [c])) from cat?_bytes (b := [c]) (by simp [lim]; omega)]
    simp [ob_some_eq, escB, hc]
 ·simp [len_lt, br_false]
 ·rw [fold_flat]
  simp only [List.nil_append, cutM_inl, str?_bytes, ob_some_eq]; rfl
end Pe.Tryd
end
section
/- The models: small letters, dashes, paths. -/
set_option maxRecDepth 100000
namespace Pe.Tryd
open Go Go.Proofs Pe Pe.Told
/-! small letters -/
theorem low1 (c : UInt8) : (bif (bif decide (65 ≤ (c.toNat : Int)) then decide ((c.toNat : Int) ≤ 90) else false) then IntKind.u8.wrap ((IntKind.u8.wrap ((c.toNat : Int) + 97)) - 65) else (c.toNat : Int)) = ((low c).toNat : Int) :=
 eq8 (f := fun c => (bif (bif decide (65 ≤ (c.toNat : Int)) then decide ((c.toNat : Int) ≤ 90) else false) then IntKind.u8.wrap ((IntKind.u8.wrap ((c.toNat : Int) + 97)) - 65) else (c.toNat : Int))) (g := fun c => ((low c).toNat : Int)) (by decide +kernel) c
theorem low2 (c : UInt8) : (bif (bif decide (65 ≤ (c.toNat : Int)) then decide ((c.toNat : Int) ≤ 90) else false) then IntKind.u8.wrap ((c.toNat : Int) + 32) else (c.toNat : Int)) = ((low c).toNat : Int) :=
 eq8 (f := fun c => (bif (bif decide (65 ≤ (c.toNat : Int)) then decide ((c.toNat : Int) ≤ 90) else false) then IntKind.u8.wrap ((c.toNat : Int) + 32) else (c.toNat : Int))) (g := fun c => ((low c).toNat : Int)) (by decide +kernel) c
def half (s : List UInt8) (k : Nat) : List Int := bytesOf ((s.take k).map low ++ s.drop k)
theorem half_len (s : List UInt8) (k : Nat) : (half s k).length = s.length := by simp [half, bytesOf]; omega
theorem half_at {s : List UInt8} {k : Nat} (h : k < s.length) : get? (half s k) k = some ((s[k]).toNat : Int) := by
 unfold get? half
 have hl : ((s.take k).map low).length = k := by simp; omega
 rw [bytesOf, List.getElem?_map, List.getElem?_append_right (by omega), hl]
 simp [h]
theorem half_next {s : List UInt8} {k : Nat} (h : k < s.length) : half s (k + 1) = (half s k).set k ((low s[k]).toNat : Int) := by
 apply List.ext_getElem?
 intro i
 have hl : ((s.take k).map low).length = k := by simp; omega
 have hl2 : ((s.take (k + 1)).map low).length = k + 1 := by simp; omega
 rw [List.getElem?_set]
 by_cases hi : k = i
 ·subst hi
  rw [if_pos rfl, if_pos (by rw [half_len]; exact h)]
  simp only [half, bytesOf, List.getElem?_map]
  rw [List.getElem?_append_left (by omega)]
  simp [h]
 ·rw [if_neg hi]
  simp only [half, bytesOf, List.getElem?_map]
  by_cases hlt : i < k
  ·rw [List.getElem?_append_left (by omega), List.getElem?_append_left (by omega)]
   simp [hlt, show i < k + 1 by omega]
  ·rw [List.getElem?_append_right (by omega), List.getElem?_append_right (by omega), hl, hl2]
   simp [List.getElem?_drop, show k + 1 + (i - (k + 1)) = i by omega, show k + (i - k) = i by omega]
theorem half_same {s : List UInt8} {k : Nat} (h : k < s.length) (hc : (bif decide (65 ≤ ((s[k]).toNat : Int)) then decide (((s[k]).toNat : Int) ≤ 90) else false) = false) : half s (k + 1) = half s k := by
 rw [half_next h, ← low1, hc]
 have := half_at h
 unfold get? at this
 apply List.ext_getElem?
 intro i
 rw [List.getElem?_set]
 by_cases hi : k = i
 ·subst hi; rw [if_pos rfl, if_pos (by rw [half_len]; exact h), this]; rfl
 ·rw [if_neg hi]
theorem half_end (s : List UInt8) : strOf (half s s.length) = smallS s := by simp [half, smallS, strOf_bytes]
theorem idx?_nat {α : Type} {l : List α} {k : Nat} (h : k < l.length) : idx? l (k : Int) = some k := by
 show (bif Nat.blt k l.length then some k else none) = _
 rw [show Nat.blt k l.length = true by simpa [Nat.blt_eq] using h]; rfl
theorem s93 (o : Orc Sx) {s : List UInt8} (h : s.length ≤ 1000000000) : m93 o s = some (smallS s, ()) := by
 unfold m93
 rw [cat?_nil s (by simp [lim]; omega)]
 simp only [ob_some_eq]
 refine cut_of (loop_st (A := Unit) (fun k _ => ((k : Int), half s k, ())) s.length (fun _ _ => .inl (half s s.length, ())) (fun _ _ => True) (fun k _ hk _ => ?_) 0 () (Nat.zero_le _) trivial) ?_
 ·by_cases hlt : k < s.length
  ·left
   refine ⟨(), hlt, ?_, trivial, rfl⟩
   simp only [len, bytes_len, Int.ofNat_lt, hlt, decide_true, idx?_nat (show k < (half s k).length by rw [half_len]; exact hlt), ob_some_eq, half_at hlt, br_some_eq, wrap_succ hlt (by omega)]
   have := half_next hlt
   rw [← low1] at this
   cases hc : (bif decide (65 ≤ ((s[k]).toNat : Int)) then decide (((s[k]).toNat : Int) ≤ 90) else false) with
   | true => rw [hc] at this; rw [this]; rfl
   | false => rw [half_same hlt hc]; rfl
  ·right
   obtain rfl : k = s.length := by omega
   simp [len, bytes_len, br_false]
 ·simp only [cutM_inl, half_end]
theorem s96 (o : Orc Sx) {s : List UInt8} (h : s.length ≤ 1000000000) : m96 o s = some (smallS s, ()) := by
 unfold m96
 rw [cat?_nil s (by simp [lim]; omega)]
 simp only [ob_some_eq]
 refine cut_of (loop_st (A := Unit) (fun k _ => ((k : Int), half s k, ())) s.length (fun _ _ => .inl (half s s.length, ())) (fun _ _ => True) (fun k _ hk _ => ?_) 0 () (Nat.zero_le _) trivial) ?_
 ·by_cases hlt : k < s.length
  ·left
   refine ⟨(), hlt, ?_, trivial, rfl⟩
   simp only [len, bytes_len, Int.ofNat_lt, hlt, decide_true, idx?_nat (show k < (half s k).length by rw [half_len]; exact hlt), ob_some_eq, half_at hlt, br_some_eq, wrap_succ hlt (by omega)]
   have := half_next hlt
   rw [← low2] at this
   cases hc : (bif decide (65 ≤ ((s[k]).toNat : Int)) then decide (((s[k]).toNat : Int) ≤ 90) else false) with
   | true => rw [hc] at this; rw [this]; rfl
   | false => rw [half_same hlt hc]; rfl
  ·right
   obtain rfl : k = s.length := by omega
   simp [len, bytes_len, br_false]
 ·simp only [cutM_inl, half_end]
/-! dashes -/
def prevD (s : List UInt8) (k : Nat) : Bool := k != 0 && isDash (s.getD (k - 1) 0)
theorem prevD_succ {s : List UInt8} {k : Nat} (h : k < s.length) : prevD s (k + 1) = isDash s[k] := by
 simp [prevD, List.getD_eq_getElem?_getD, h]
theorem dash_step {s : List UInt8} {k : Nat} (h : k < s.length) : dashS (prevD s k) (s.drop k) = (bif isDash s[k] then (bif prevD s k then [] else [45]) else [s[k]]) ++ dashS (prevD s (k + 1)) (s.drop (k + 1)) := by
 rw [List.drop_eq_getElem_cons h, prevD_succ h]
 cases hc : isDash s[k] <;> simp [dashS, hc]
theorem cat1 {b : List UInt8} {c : UInt8} (h : b.length + 1 ≤ lim) : cat? (bytesOf b) [(c.toNat : Int)] = some (bytesOf (b ++ [c])) := cat?_bytes (b := [c]) h
theorem cat45 {b : List UInt8} (h : b.length + 1 ≤ lim) : cat? (bytesOf b) [45] = some (bytesOf (b ++ [45])) := cat?_bytes (b := [45]) h
theorem s94 (n : Nat) {s : List UInt8} (h : s.length ≤ 1000000000) : m94 (orcN (n + 1)) s = some (dashS false s, ()) := by
 unfold m94
 refine cut_of (loop_st (A := List UInt8) (fun k b => ((k : Int), bytesOf b, ())) s.length (fun k b => .inl (bytesOf (b ++ dashS (prevD s k) (s.drop k)), ())) (fun k b => b.length ≤ k) (fun k b hk hb => ?_) 0 [] (Nat.zero_le _) (by simp)) ?_
 ·by_cases hlt : k < s.length
  ·left
   have hl : b.length + 1 ≤ lim := by simp [lim]; omega
   simp only [len_lt, hlt, decide_true, br_true, at?_get hlt, ob_some_eq, wrap_succ hlt (by omega), L125]
   have hcond : ∀ {β : Type} (g : Bool → Option β), ob (br ((k : Int) == 0) (some true) (ob (at? s (IntKind.i64.wrap ((k : Int) - 1))) fun c6 => (some (!isDash c6)))) g = g (!prevD s k) := by
    intro β g
    cases k with
    | zero => rfl
    | succ k =>
      have hk' : k < s.length := by omega
      have : (((k + 1 : Nat) : Int) == 0) = false := by simp; omega
      rw [this, wrap_id (by omega) (by omega), show ((k + 1 : Nat) : Int) - 1 = (k : Int) by omega]
      simp only [br_false, at?_get hk', ob_some_eq, prevD_succ hk']
   cases hc : isDash s[k] with
   | false =>
     refine ⟨b ++ [s[k]], trivial, ?_, by simp; omega, ?_⟩
     ·simp only [Bool.not_false, br_true, cat1 hl, ob_some_eq]
     ·rw [dash_step hlt, hc]; simp
   | true =>
     cases hp : prevD s k with
     | false =>
       refine ⟨b ++ [45], trivial, ?_, by simp; omega, ?_⟩
       ·simp only [Bool.not_true, br_false]
        refine (hcond _).trans ?_
        simp only [hp, Bool.not_false, br_true, cat45 hl, ob_some_eq]
       ·rw [← hp, dash_step hlt, hc, hp]; simp
     | true =>
       refine ⟨b, trivial, ?_, by omega, ?_⟩
       ·simp only [Bool.not_true, br_false]
        refine (hcond _).trans ?_
        simp only [hp, Bool.not_true, br_false]
       ·rw [← hp, dash_step hlt, hc, hp]; simp
  ·right
   obtain rfl : k = s.length := by omega
   simp [len_lt, br_false, dashS]
 ·simp [cutM_inl, str?_bytes, ob_some_eq, prevD]
def lastD (b : List UInt8) : Bool := b.getLast? == some 45
theorem lastD_app (b : List UInt8) (c : UInt8) : lastD (b ++ [c]) = (c == 45) := by simp [lastD]
theorem dash45 (c : UInt8) (h : isDash c = false) : (c == 45) = false := by
 cases h2 : (c == 45) with
 | false => rfl
 | true => rw [show isDash c = true by simp [isDash, h2]] at h; cases h
theorem s101 (o : Orc Sx) {s : List UInt8} (h : s.length ≤ 1000000000) : m101 o s = some (dashS false s, ()) := by
 unfold m101
 refine cut_of (loop_st (A := List UInt8) (fun k b => (bytesOf b, (k : Int), ())) s.length (fun k b => .inl (bytesOf (b ++ dashS (prevD s k) (s.drop k)), ())) (fun k b => b.length ≤ k ∧ lastD b = prevD s k) (fun k b hk hb => ?_) 0 [] (Nat.zero_le _) ⟨by simp, rfl⟩) ?_
 ·by_cases hlt : k < s.length
  ·left
   have hl : b.length + 1 ≤ lim := by have := hb.1; simp [lim]; omega
   simp only [len_lt, hlt, decide_true, br_true, at?_get hlt, ob_some_eq, wrap_succ hlt (by omega), br_some_eq]
   have hcond : ∀ {β : Type} (g : Bool → Option β), ob (br ((len (bytesOf b)) == 0) (some true) (ob (at? (bytesOf b) (IntKind.i64.wrap ((len (bytesOf b)) - 1))) fun y5 => (some (y5 != 45)))) g = g (!prevD s k) := by
    intro β g
    rw [← hb.2]
    rcases List.eq_nil_or_concat b with rfl | ⟨b', x, rfl⟩
    ·rfl
    ·rw [List.concat_eq_append] at hb hl ⊢
     have e1 : len (bytesOf (b' ++ [x])) = ((b'.length + 1 : Nat) : Int) := by simp [len, bytes_len]
     have : (((b'.length + 1 : Nat) : Int) == 0) = false := by simp; omega
     have hb1 := hb.1
     rw [List.length_append, List.length_singleton] at hb1
     rw [e1, this, wrap_id (by omega) (by omega), show ((b'.length + 1 : Nat) : Int) - 1 = (b'.length : Int) by omega]
     have e2 : at? (bytesOf (b' ++ [x])) (b'.length : Int) = some (x.toNat : Int) := by
      rw [at?_nat, bytes_app, List.getElem?_append_right (by simp [bytes_len]), bytes_len]; simp [bytesOf]
     simp only [br_false, e2, ob_some_eq, lastD_app]
     rw [show ((x.toNat : Int) != 45) = !(x == 45) from eq8 (f := fun x => ((x.toNat : Int) != 45)) (g := fun x => !(x == 45)) (by decide +kernel) x]
   have hd : (bif (bif ((s[k].toNat : Int) == 45) then true else ((s[k].toNat : Int) == 95)) then true else ((s[k].toNat : Int) == 46)) = isDash s[k] :=
    eq8 (f := fun c => bif (bif ((c.toNat : Int) == 45) then true else ((c.toNat : Int) == 95)) then true else ((c.toNat : Int) == 46)) (g := isDash) (by decide +kernel) _
   rw [hd]
   cases hc : isDash s[k] with
   | false =>
     refine ⟨b ++ [s[k]], trivial, ?_, ⟨by simp; exact hb.1, by rw [lastD_app, prevD_succ hlt, hc, dash45 _ hc]⟩, ?_⟩
     ·simp only [br_false, cat1 hl, ob_some_eq]
     ·rw [dash_step hlt, hc]; simp
   | true =>
     cases hp : prevD s k with
     | false =>
       refine ⟨b ++ [45], trivial, ?_, ⟨by simp; exact hb.1, by rw [lastD_app, prevD_succ hlt, hc]; rfl⟩, ?_⟩
       ·simp only [br_true]
        refine (hcond _).trans ?_
        simp only [hp, Bool.not_false, br_true, cat45 hl, ob_some_eq]
       ·rw [← hp, dash_step hlt, hc, hp]; simp
     | true =>
       refine ⟨b, trivial, ?_, ⟨by have := hb.1; omega, by rw [hb.2, hp, prevD_succ hlt, hc]⟩, ?_⟩
       ·simp only [br_true]
        refine (hcond _).trans ?_
        simp only [hp, Bool.not_true, br_false]
       ·rw [← hp, dash_step hlt, hc, hp]; simp
  ·right
   obtain rfl : k = s.length := by omega
   simp [len_lt, br_false, dashS]
 ·simp [cutM_inl, strOf_bytes, prevD]
end Pe.Tryd
end
section
/- What is right of a name: both checks answer the same. -/
set_option maxRecDepth 100000
namespace Pe.Tryd
open Go Go.Proofs Pe Pe.Told
theorem loop_anyM {σ R : Type} {f : σ → Option (σ ⊕ R)} (mk : Nat → σ) (n : Nat) (p : Nat → Bool) (yes no : R)
  (h : ∀ k, k < n → f (mk k) = if p k = true then some (.inr yes) else some (.inl (mk (k + 1))))
  (he : f (mk n) = some (.inr no)) : loopM f (mk 0) = some (bif (List.range n).any p then yes else no) := by
 refine loop_st (A := Unit) (fun k _ => mk k) n (fun _ _ => bif (List.range n).any p then yes else no) (fun k _ => ∀ j, j < k → p j = false) (fun k _ hk hI => ?_) 0 () (Nat.zero_le _) (fun j hj => by omega)
 by_cases hlt : k < n
 ·cases hp : p k with
  | true =>
    right
    have : (List.range n).any p = true := List.any_eq_true.2 ⟨k, by simpa using hlt, hp⟩
    show f (mk k) = _
    rw [h k hlt, hp, this]; rfl
  | false =>
    left
    refine ⟨(), hlt, by rw [h k hlt, hp]; rfl, fun j hj => ?_, rfl⟩
    by_cases hjk : j = k
    ·subst hjk; exact hp
    ·exact hI j (by omega)
 ·right
  obtain rfl : k = n := by omega
  have : (List.range k).any p = false := by rw [List.any_eq_false]; intro x hx; simpa using hI x (by simpa using hx)
  rw [he, this]; rfl
theorem cut_bif {σ R : Type} {A : Bool} {x : R} {y : σ} {g : σ → Option R} : cutM (some (bif A then .inr x else .inl y)) g = br A (some x) (g y) := by cases A <;> rfl
def big (s : List UInt8) : Bool := decide (200 < len s)
def four (p : Gt.Purl) : List (List UInt8) := [p.space, p.name, p.version, p.sub]
def longQ (q : Gt.Pair) : Bool := bif big q.name then true else big q.value
def longS (p : Gt.Purl) : Bool := bif (four p).any big then true else bif p.qualifiers.any longQ then true else decide (10 < len p.qualifiers)
theorem big_le {s : List UInt8} (h : big s = false) : s.length ≤ 200 := by have := of_decide_eq_false h; unfold len at this; omega
structure Tiny (p : Gt.Purl) : Prop where
 space : p.space.length ≤ 200
 name : p.name.length ≤ 200
 version : p.version.length ≤ 200
 sub : p.sub.length ≤ 200
 quals : p.qualifiers.length ≤ 10
 each : ∀ q ∈ p.qualifiers, q.name.length ≤ 200 ∧ q.value.length ≤ 200
theorem longQ_le {q : Gt.Pair} (h : longQ q = false) : q.name.length ≤ 200 ∧ q.value.length ≤ 200 := by
 unfold longQ at h
 cases h1 : big q.name with
 | true => rw [h1] at h; cases h
 | false => rw [h1] at h; exact ⟨big_le h1, big_le h⟩
theorem tiny {p : Gt.Purl} (h : longS p = false) : Tiny p := by
 unfold longS at h
 cases h1 : (four p).any big with
 | true => rw [h1] at h; cases h
 | false =>
   rw [h1] at h
   cases h2 : p.qualifiers.any longQ with
   | true => rw [h2] at h; cases h
   | false =>
     rw [h2] at h
     simp only [four, List.any_cons, List.any_nil, Bool.or_false, Bool.or_eq_false_iff] at h1
     refine ⟨big_le h1.1, big_le h1.2.1, big_le h1.2.2.1, big_le h1.2.2.2, ?_, fun q hq => longQ_le ?_⟩
     ·have := of_decide_eq_false h; unfold len at this; omega
     ·have := List.any_eq_false.1 h2 q hq; simpa using this
theorem s67 (o : Orc Sx) {l : List (List UInt8)} (h : l.length ≤ 1000000000) : m67 o l = some (l.any big, ()) := by
 unfold m67
 rw [loop_any l.length (fun k => big (l.getD k [])) (.inr (true, ())) (.inl ()) (fun k hk => ?_) ?_, any_rangeG]
 ·cases l.any big <;> rfl
 ·simp [len_lt, br_false]
 ·simp only [len_lt, hk, decide_true, br_true, at?_get hk, ob_some_eq, wrap_succ hk (by omega), getD_get [] hk]
  rw [br_if]; rfl
theorem L67 (n : Nat) {l : List (List UInt8)} (h : l.length ≤ 1000000000) : @Eq (Option (Bool × Unit)) ((orcN (n + 1)).d 67 [.sl .str l] [.bool]) (some (l.any big, ())) := (q67 n _).trans (s67 _ h)
abbrev pair0 : Gt.Pair := ⟨[], []⟩
theorem s61 (o : Orc Sx) {p : Gt.Purl} (h : p.qualifiers.length ≤ 1000000000) : m61 o p = some (longS p, ()) := by
 unfold m61
 refine cut_of (r := bif (four p).any big then .inr (true, ()) else .inl ()) ((loop_anyM (fun k => (four p, (k : Int), ())) 4 (fun k => big ((four p).getD k [])) (.inr (true, ())) (.inl ()) (fun k hk => ?_) ?_).trans ?_) ?_
 ·have hk' : k < (four p).length := hk
  simp only [show len [p.space, p.name, p.version, p.sub] = ((4 : Nat) : Int) from rfl, Int.ofNat_lt, hk, decide_true, br_true, at?_get hk', ob_some_eq, wrap_succ hk (by omega), getD_get [] hk']
  rw [br_if]; rfl
 ·rfl
 ·rw [show (List.range 4) = List.range (four p).length from rfl, any_rangeG]
 ·rw [cut_bif]
  unfold longS
  cases (four p).any big with
  | true => rfl
  | false =>
    simp only [br_false, cond_false]
    rw [loop_any p.qualifiers.length (fun k => longQ (p.qualifiers.getD k pair0)) (.inr (true, ())) (.inl ()) (fun k hk => ?_) ?_, any_rangeG, cut_bif]
    ·cases p.qualifiers.any longQ <;> rfl
    ·simp [len_lt, br_false]
    ·simp only [len_lt, hk, decide_true, at?_get hk, ob_some_eq, wrap_succ hk (by omega), getD_get pair0 hk, br_some_eq, cond_true]
     exact bif_if rfl
theorem L61 (n : Nat) {p : Gt.Purl} (h : p.qualifiers.length ≤ 1000000000) : @Eq (Option (Bool × Unit)) ((orcN (n + 1)).d 61 [.st 4 p] [.bool]) (some (longS p, ())) := (q61 n _).trans (s61 _ h)
/-! qualifiers -/
def qF (l : List Gt.Pair) (k : Nat) : Int :=
 bif !nameS (l.getD k pair0).name then 8 else bif (l.getD k pair0).value == [] then 2 else
 bif decide (0 < (k : Int)) && (Op.bytesLess (l.getD k pair0).name (l.getD (k - 1) pair0).name || ((l.getD k pair0).name == (l.getD (k - 1) pair0).name)) then 10 else 0
def qE (l : List Gt.Pair) : Int := ff (qF l) l.length
theorem before {l : List Gt.Pair} {k : Nat} (hk : k < l.length) (hl : l.length ≤ 1000000000) (G : Gt.Pair → Bool) :
  br (decide (0 < (k : Int))) (ob (at? l (IntKind.i64.wrap ((k : Int) - 1))) fun y => some (G y)) (some false) = some (decide (0 < (k : Int)) && G (l.getD (k - 1) pair0)) := by
 cases k with
 | zero => rfl
 | succ k =>
   have hk' : k < l.length := by omega
   rw [show decide (0 < ((k + 1 : Nat) : Int)) = true from decide_eq_true (by omega), wrap_id (by omega) (by omega), show ((k + 1 : Nat) : Int) - 1 = (k : Int) by omega]
   simp only [br_true, at?_get hk', ob_some_eq, Nat.add_sub_cancel, getD_get pair0 hk', Bool.true_and]
theorem L108 (n : Nat) {s : List UInt8} (h : s.length ≤ 1000000000) : @Eq (Option (Bool × Unit)) ((orcN (n + 2)).d 108 [.str s] [.bool]) (some (nameS s, ())) := (q108 (n + 1) _).trans (s108 n h)
theorem L70 (n : Nat) {s : List UInt8} (h : s.length ≤ 1000000000) : @Eq (Option (Bool × Unit)) ((orcN (n + 1)).d 70 [.str s] [.bool]) (some (nameS s, ())) := (q70 n _).trans (s70 _ h)
theorem s65 (n : Nat) {l : List Gt.Pair} (h : l.length ≤ 1000000000) (h2 : ∀ q ∈ l, q.name.length ≤ 1000000000) : m65 (orcN (n + 2)) l = some (qE l, ()) := by
 unfold m65
 refine cut_of (loop_ff1 l.length (qF l) (fun c => .inr (c, ())) (.inl ()) (fun k hk _ => ?_) ?_) ?_
 ·have hn := h2 l[k] (List.getElem_mem hk)
  simp only [len_lt, hk, decide_true, br_true, at?_get hk, ob_some_eq, L108 n hn, before hk h]
  rw [wrap_succ hk (by omega)]
  unfold qF
  simp only [getD_get pair0 hk]
  refine br_ff (out := fun c => Sum.inr (c, ())) 8 (by decide) fun _ => br_ff (out := fun c => Sum.inr (c, ())) 2 (by decide) fun _ => br_ff (out := fun c => Sum.inr (c, ())) 10 (by decide) fun _ => ?_
  exact ffS_zero.symm
 ·simp [len_lt, br_false]
 ·unfold qE
  by_cases h0 : ff (qF l) l.length = 0
  ·rw [if_neg (by simpa using h0), h0]; rfl
  ·rw [if_pos h0]; rfl
theorem L65 (n : Nat) {l : List Gt.Pair} (h : l.length ≤ 1000000000) (h2 : ∀ q ∈ l, q.name.length ≤ 1000000000) : @Eq (Option (Int × Unit)) ((orcN (n + 3)).d 65 [.sl (.st 3) l] [(.int .i64)]) (some (qE l, ())) := (q65 (n + 2) _).trans (s65 n h h2)
/-! segments are few and short -/
theorem splitB_mem (sep : ByteArray) : ∀ (k : Nat) (s : ByteArray), ∀ x ∈ Lib.splitB sep 0 k s, x.size ≤ s.size
 | 0, s, x, hx => by simp [Lib.splitB] at hx; subst hx; exact Nat.le_refl _
 | k + 1, s, x, hx => by
   unfold Lib.splitB at hx
   split at hx
   ·simp at hx; subst hx; exact Nat.le_refl _
   ·rcases List.mem_cons.1 hx with rfl | hx
    ·rw [ByteArray.size_extract]; omega
    ·have := splitB_mem sep k _ x hx
     rw [ByteArray.size_extract] at this; omega
theorem segs_len (s : List UInt8) : (segs s).length ≤ s.length + 1 := by
 unfold segs
 cases (s == []) with
 | true => simp
 | false =>
   simp only [cond_false]
   unfold splitS
   have h1 := Lib.splitB_length_le ⟨#[47]⟩ 0 (Lib.countB ⟨s.toArray⟩ ⟨#[47]⟩) ⟨s.toArray⟩
   have h2 := Lib.countB_le ⟨#[47]⟩ (Nat.le_refl 1) _ ⟨s.toArray⟩ (Nat.le_refl _)
   have h3 : (ByteArray.mk s.toArray).size = s.length := rfl
   rw [List.length_map]; omega
theorem segs_mem {s x : List UInt8} (h : x ∈ segs s) : x.length ≤ s.length := by
 unfold segs at h
 cases hs : (s == []) with
 | true => rw [hs] at h; cases h
 | false =>
   rw [hs] at h
   simp only [cond_false] at h
   unfold splitS at h
   obtain ⟨y, hy, rfl⟩ := List.mem_map.1 h
   have := splitB_mem _ _ _ y hy
   have h3 : (ByteArray.mk s.toArray).size = s.length := rfl
   have h4 : y.data.toList.length = y.size := rfl
   omega
theorem L63 (n : Nat) {s : List UInt8} (h : s.length ≤ 1000000000) : @Eq (Option (List (List UInt8) × Unit)) ((orcN (n + 2)).d 63 [.str s] [(.sl .str)]) (some (segs s, ())) := (q63 (n + 1) _).trans (s63 n h)
theorem L62 (n : Nat) {l : List (List UInt8)} (dots : Bool) (h : l.length ≤ 1000000000) : @Eq (Option (Bool × Unit)) ((orcN (n + 1)).d 62 [.sl .str l, .bool dots] [.bool]) (some (pathBad l dots, ())) := (q62 n _ _).trans (s62 _ dots h)
theorem L68 (n : Nat) {s : List UInt8} (dots : Bool) (h : s.length ≤ 100000000) : @Eq (Option (Bool × Unit)) ((orcN (n + 3)).d 68 [.str s, .bool dots] [.bool]) (some (pathBad (segs s) dots, ())) := (q68 (n + 2) _ _).trans (s68 n dots (by omega) (by have := segs_len s; omega))
theorem L66 (n : Nat) {s : List UInt8} (h : s.length ≤ 1000000000) : @Eq (Option (Bool × Unit)) ((orcN (n + 1)).d 66 [.str s] [.bool]) (some (s.any ctl, ())) := (q66 n _).trans (s66 _ h)
theorem L71 (n : Nat) {s : List UInt8} (h : s.length ≤ 1000000000) : @Eq (Option (Bool × Unit)) ((orcN (n + 1)).d 71 [.str s] [.bool]) (some (!s.any ctl, ())) := (q71 n _).trans (s71 _ h)
/-! the check -/
def spaceBad (r : Gt.KindRule) (p : Gt.Purl) : Bool := bif (bif p.space != [] then r.space == 1 else false) then true else (bif p.space == [] then r.space == 3 else false)
def nameBad (p : Gt.Purl) : Bool := bif p.name == [] then true else decide (0 ≤ Lib.indexByte p.name 47)
def ctl4 (p : Gt.Purl) : Bool := (four p).any fun s => s.any ctl
def ctlQ (p : Gt.Purl) : Bool := p.qualifiers.any fun q => q.value.any ctl
def checkS (p : Gt.Purl) : Int :=
 bif (ruleR p.kind).2.1 != 0 then (ruleR p.kind).2.1 else bif longS p then 3 else bif spaceBad (ruleR p.kind).1 p then 2 else bif pathBad (segs p.space) false then 2 else
 bif nameBad p then 8 else bif qE p.qualifiers != 0 then qE p.qualifiers else bif pathBad (segs p.sub) true then 2 else bif ctl4 p then 8 else bif ctlQ p then 8 else 0
theorem s25 (n : Nat) {p : Gt.Purl} (h : p.qualifiers.length ≤ 1000000000) : m25 (orcN (n + 3)) p = some (checkS p, ()) := by
 unfold m25
 rw [L16 n, L61 (n + 2) h]
 simp only [ob_some_eq]
 unfold checkS
 cases h1 : ((ruleR p.kind).2.1 != 0) with
 | true => rfl
 | false =>
   cases hl : longS p with
   | true => rfl
   | false =>
     have T := tiny hl
     have t1 := T.space; have t2 := T.name; have t3 := T.sub; have t4 := T.quals
     have tp := segs_len p.space; have ts := segs_len p.sub
     simp only [br_false, cond_false, br_some_eq, ob_some_eq]
     rw [L63 (n + 1) (by omega)]
     simp only [ob_some_eq]
     rw [L62 (n + 2) false (by omega), L64, L65 n (by omega) (fun q hq => by have := (T.each q hq).1; omega), L63 (n + 1) (by omega)]
     simp only [ob_some_eq, br_some_eq]
     rw [L62 (n + 2) true (by omega)]
     simp only [ob_some_eq]
     rw [show loopM _ ([p.space, p.name, p.version, p.sub], (0 : Int), ()) = _ from (loop_anyM (fun k => (four p, (k : Int), ())) 4 (fun k => ((four p).getD k []).any ctl) (.inr (8, ())) (.inl ()) (fun k hk => ?_) ?_).trans (by rw [show (List.range 4) = List.range (four p).length from rfl, any_rangeG (four p) [] (fun s => s.any ctl)]), cut_bif]
     ·rw [loop_any p.qualifiers.length (fun k => (p.qualifiers.getD k pair0).value.any ctl) (.inr (8, ())) (.inl ()) (fun k hk => ?_) ?_, any_rangeG p.qualifiers pair0 (fun q => q.value.any ctl), cut_bif]
      ·simp only [br_some_eq]
       have e1 : (bif (bif p.space != [] then (ruleR p.kind).1.space == 1 else false) then true else (bif p.space == [] then (ruleR p.kind).1.space == 3 else false)) = spaceBad (ruleR p.kind).1 p := rfl
       have e2 : (bif p.name == [] then true else decide (0 ≤ Lib.indexByte p.name (UInt8.ofNat (Int.toNat 47)))) = nameBad p := rfl
       rw [e1, e2]
       unfold ctl4 ctlQ
       cases spaceBad (ruleR p.kind).1 p <;> cases pathBad (segs p.space) false <;> cases nameBad p <;> cases (qE p.qualifiers != 0) <;> cases pathBad (segs p.sub) true <;> cases (four p).any (fun s => s.any ctl) <;> cases p.qualifiers.any (fun q => q.value.any ctl) <;> rfl
      ·simp [len_lt, br_false]
      ·have := (T.each _ (List.getElem_mem hk)).2
       simp only [len_lt, hk, decide_true, br_true, at?_get hk, ob_some_eq, wrap_succ hk (by omega), getD_get pair0 hk, L66 (n + 2) (show (p.qualifiers[k]).value.length ≤ 1000000000 by omega)]
       exact bif_if rfl
     ·rfl
     ·have hk' : k < (four p).length := hk
      have hb : ((four p)[k]).length ≤ 1000000000 := by
       have : (four p)[k] ∈ four p := List.getElem_mem hk'
       have t5 := T.version
       simp only [four, List.mem_cons, List.not_mem_nil, or_false] at this
       rcases this with h | h | h | h <;> · simp only [four] at h ⊢; rw [h]; omega
      simp only [show len [p.space, p.name, p.version, p.sub] = ((4 : Nat) : Int) from rfl, Int.ofNat_lt, hk, decide_true, br_true, at?_get hk', ob_some_eq, wrap_succ hk (by omega), getD_get [] hk', L66 (n + 2) hb]
      exact bif_if rfl
end Pe.Tryd
end
section
/- The reference's check is the same; the canonical form of both sides. -/
set_option maxRecDepth 100000
namespace Pe.Tryd
open Go Go.Proofs Pe Pe.Told
theorem any_or {α : Type} (l : List α) (p : α → Bool) (a : Bool) : l.foldl (fun b x => bif b then !p x else false) a = (bif a then !l.any p else false) := by
 induction l generalizing a with
 | nil => cases a <;> rfl
 | cons x r ih => rw [List.foldl_cons, ih]; cases a <;> cases h : p x <;> simp [h]
theorem bif_ffS {σ R : Type} {out : Int → R} {nxt : σ} {b : Bool} {c : Int} (hc : c ≠ 0) : some (bif b then .inr (out c) else .inl nxt) = ffS out nxt (bif b then c else 0) := by
 cases b
 ·rfl
 ·simp [ffS, hc]
theorem s26 (n : Nat) {p : Gt.Purl} (h : p.qualifiers.length ≤ 1000000000) : m26 (orcN (n + 3)) p = some (checkS p, ()) := by
 unfold m26
 rw [L17 n]
 simp only [ob_some_eq]
 unfold checkS
 cases h1 : ((ruleR p.kind).2.1 != 0) with
 | true => rfl
 | false =>
   have e67 : @Eq (Option (Bool × Unit)) ((orcN (n + 3)).d 67 [.sl .str [p.space, p.name, p.version, p.sub]] [.bool]) (some ((four p).any big, ())) := L67 (n + 2) (l := four p) (by simp [four])
   rw [e67]
   simp only [br_false, cond_false, br_some_eq, ob_some_eq]
   cases hb : (bif (four p).any big then true else decide (10 < len p.qualifiers)) with
   | true =>
     have hl : longS p = true := by
      unfold longS
      cases h3 : (four p).any big with
      | true => rfl
      | false => rw [h3] at hb; simp only [cond_false] at hb ⊢; rw [hb]; cases p.qualifiers.any longQ <;> rfl
     rw [hl]; rfl
   | false =>
     simp only [br_false]
     rw [loop_any p.qualifiers.length (fun k => longQ (p.qualifiers.getD k pair0)) (.inr (3, ())) (.inl ()) (fun k hk => ?_) ?_, any_rangeG p.qualifiers pair0 longQ, cut_bif]
     ·have hq : longS p = p.qualifiers.any longQ := by
       unfold longS
       cases h3 : (four p).any big with
       | true => rw [h3] at hb; cases hb
       | false => rw [h3] at hb; simp only [cond_false] at hb ⊢; rw [hb]; cases p.qualifiers.any longQ <;> rfl
      rw [← hq]
      cases hl : longS p with
      | true => rfl
      | false =>
        have T := tiny hl
        have t1 := T.space; have t2 := T.name; have t3 := T.sub; have t4 := T.quals; have t5 := T.version
        simp only [br_false, cond_false]
        rw [L68 n false (by omega), L69, L68 n true (by omega), L71 (n + 2) (show p.space.length ≤ 1000000000 by omega), L71 (n + 2) (show p.name.length ≤ 1000000000 by omega), L71 (n + 2) (show p.version.length ≤ 1000000000 by omega), L71 (n + 2) (show p.sub.length ≤ 1000000000 by omega)]
        simp only [ob_some_eq, br_some_eq]
        rw [loop_ff1 p.qualifiers.length (qF p.qualifiers) (fun c => .inr (c, ())) (.inl ()) (fun k hk _ => ?_) ?_]
        ·refine Eq.trans (b := br (bif spaceBad (ruleR p.kind).1 p then true else pathBad (segs p.space) false) (some (2, ())) (br (nameBad p) (some (8, ())) (br (qE p.qualifiers != 0) (some (qE p.qualifiers, ())) (br (pathBad (segs p.sub) true) (some (2, ())) (br (bif ctl4 p then true else ctlQ p) (some (8, ())) (some (0, ()))))))) ?_ ?_
         ·congr 1
          congr 1
          have hcut : ∀ (X : Option (Int × Unit)), cutM (some (if ff (qF p.qualifiers) p.qualifiers.length ≠ 0 then Sum.inr (ff (qF p.qualifiers) p.qualifiers.length, ()) else Sum.inl ())) (fun (_ : Unit) => X) = br (qE p.qualifiers != 0) (some (qE p.qualifiers, ())) X := by
           intro X
           unfold qE
           by_cases h0 : ff (qF p.qualifiers) p.qualifiers.length = 0
           ·rw [if_neg (by simpa using h0), h0]; rfl
           ·rw [if_pos h0, show (ff (qF p.qualifiers) p.qualifiers.length != 0) = true by simpa using h0]; rfl
          refine (hcut _).trans ?_
          congr 1
          congr 1
          refine cut_of (loop_fold (fun k (b : Bool) => (b, (k : Int), ())) p.qualifiers (fun b q => bif b then !q.value.any ctl else false) (fun b => .inl (b, ())) (fun _ _ => True) (fun k hk b _ => ⟨?_, trivial⟩) (fun b _ => ?_) _ trivial) ?_
          ·have := (T.each _ (List.getElem_mem hk)).2
           simp only [len_lt, hk, decide_true, at?_get hk, ob_some_eq, wrap_succ hk (by omega), L71 (n + 2) (show (p.qualifiers[k]).value.length ≤ 1000000000 by omega), br_some_eq]
           rfl
          ·simp [len_lt, br_false]
          ·rw [any_or p.qualifiers (fun q => q.value.any ctl)]
           simp only [cutM_inl, ctl4, ctlQ, four, List.any_cons, List.any_nil, Bool.or_false]
           cases p.space.any ctl <;> cases p.name.any ctl <;> cases p.version.any ctl <;> cases p.sub.any ctl <;> cases p.qualifiers.any (fun q => q.value.any ctl) <;> rfl
         ·cases spaceBad (ruleR p.kind).1 p <;> cases pathBad (segs p.space) false <;> cases nameBad p <;> cases (qE p.qualifiers != 0) <;> cases pathBad (segs p.sub) true <;> cases ctl4 p <;> cases ctlQ p <;> rfl
        ·simp [len_lt, br_false]
        ·have hn := (T.each _ (List.getElem_mem hk)).1
         simp only [len_lt, hk, decide_true, br_true, at?_get hk, ob_some_eq, L70 (n + 2) (show (p.qualifiers[k]).name.length ≤ 1000000000 by omega), before hk h]
         rw [wrap_succ hk (by omega)]
         unfold qF
         simp only [getD_get pair0 hk]
         refine br_ff (out := fun c => Sum.inr (c, ())) 8 (by decide) fun _ => br_ff (out := fun c => Sum.inr (c, ())) 2 (by decide) fun _ => bif_ffS (c := 10) (out := fun c => Sum.inr (c, ())) (by decide)
     ·simp [len_lt, br_false]
     ·have : ([p.qualifiers[k].name, p.qualifiers[k].value] : List (List UInt8)).length ≤ 1000000000 := by simp
      have e67 : @Eq (Option (Bool × Unit)) ((orcN (n + 3)).d 67 [.sl .str [p.qualifiers[k].name, p.qualifiers[k].value]] [.bool]) (some ([p.qualifiers[k].name, p.qualifiers[k].value].any big, ())) := L67 (n + 2) (l := [p.qualifiers[k].name, p.qualifiers[k].value]) this
      simp only [len_lt, hk, decide_true, br_true, at?_get hk, ob_some_eq, wrap_succ hk (by omega), getD_get pair0 hk, e67]
      refine bif_if ?_
      simp only [List.any_cons, List.any_nil, Bool.or_false, longQ]
      cases big p.qualifiers[k].name <;> rfl
theorem L25 (n : Nat) {p : Gt.Purl} (h : p.qualifiers.length ≤ 1000000000) : @Eq (Option (Int × Unit)) ((orcN (n + 4)).d 25 [.st 4 p] [(.int .i64)]) (some (checkS p, ())) := (q25 (n + 3) _).trans (s25 n h)
theorem L26 (n : Nat) {p : Gt.Purl} (h : p.qualifiers.length ≤ 1000000000) : @Eq (Option (Int × Unit)) ((orcN (n + 4)).d 26 [.st 4 p] [(.int .i64)]) (some (checkS p, ())) := (q26 (n + 3) _).trans (s26 n h)
/-! the canonical form -/
def canonS (p : Gt.Purl) : Gt.Purl :=
 ⟨p.kind, bif (ruleR p.kind).1.small then smallS p.space else p.space,
  bif (ruleR p.kind).1.dashes then dashS false (bif (ruleR p.kind).1.small then smallS p.name else p.name) else (bif (ruleR p.kind).1.small then smallS p.name else p.name), p.version, p.qualifiers, p.sub⟩
theorem L93 (n : Nat) {s : List UInt8} (h : s.length ≤ 1000000000) : @Eq (Option (List UInt8 × Unit)) ((orcN (n + 1)).d 93 [.str s] [.str]) (some (smallS s, ())) := (q93 n _).trans (s93 _ h)
theorem L96 (n : Nat) {s : List UInt8} (h : s.length ≤ 1000000000) : @Eq (Option (List UInt8 × Unit)) ((orcN (n + 1)).d 96 [.str s] [.str]) (some (smallS s, ())) := (q96 n _).trans (s96 _ h)
theorem L94 (n : Nat) {s : List UInt8} (h : s.length ≤ 1000000000) : @Eq (Option (List UInt8 × Unit)) ((orcN (n + 2)).d 94 [.str s] [.str]) (some (dashS false s, ())) := (q94 (n + 1) _).trans (s94 n h)
theorem L101 (n : Nat) {s : List UInt8} (h : s.length ≤ 1000000000) : @Eq (Option (List UInt8 × Unit)) ((orcN (n + 1)).d 101 [.str s] [.str]) (some (dashS false s, ())) := (q101 n _).trans (s101 _ h)
theorem small_len (s : List UInt8) : (smallS s).length = s.length := by simp [smallS]
theorem dash_len : ∀ (b : Bool) (s : List UInt8), (dashS b s).length ≤ s.length
 | _, [] => by simp [dashS]
 | b, c :: r => by
   have h1 := dash_len true r; have h2 := dash_len false r
   unfold dashS
   cases isDash c <;> cases b <;> simp <;> omega
theorem s42 (n : Nat) {p : Gt.Purl} (T : Tiny p) : m42 (orcN (n + 3)) p = some (canonS p, ()) := by
 have t1 := T.space; have t2 := T.name; have t4 := T.quals
 unfold m42 canonS
 rw [L16 n, L93 (n + 2) (show p.space.length ≤ 1000000000 by omega), L93 (n + 2) (show p.name.length ≤ 1000000000 by omega)]
 simp only [ob_some_eq]
 cases (ruleR p.kind).1.small <;> cases (ruleR p.kind).1.dashes
 ·simp only [br_false, cond_false, cutM_inl]
  rw [cat?_nil _ (by simp [lim]; omega)]; rfl
 ·simp only [br_true, br_false, cond_false, cond_true, cutM_inl]
  rw [L94 (n + 1) (by omega)]
  simp only [ob_some_eq, cutM_inl]
  rw [cat?_nil _ (by simp [lim]; omega)]; rfl
 ·simp only [br_true, br_false, cond_false, cond_true, cutM_inl]
  rw [cat?_nil _ (by simp [lim]; omega)]; rfl
 ·simp only [br_true, cond_true, cutM_inl]
  rw [L94 (n + 1) (by rw [small_len]; omega)]
  simp only [ob_some_eq, cutM_inl]
  rw [cat?_nil _ (by simp [lim]; omega)]; rfl
theorem s50 (n : Nat) {p : Gt.Purl} (T : Tiny p) : m50 (orcN (n + 3)) p = some (canonS p, ()) := by
 have t1 := T.space; have t2 := T.name; have t4 := T.quals
 unfold m50 canonS
 rw [L17 n, L96 (n + 2) (show p.space.length ≤ 1000000000 by omega), L96 (n + 2) (show p.name.length ≤ 1000000000 by omega)]
 simp only [ob_some_eq]
 cases (ruleR p.kind).1.small <;> cases (ruleR p.kind).1.dashes
 ·simp only [br_false, cond_false, cutM_inl]
  rw [cat?_nil _ (by simp [lim]; omega)]; rfl
 ·simp only [br_true, br_false, cond_false, cond_true, cutM_inl]
  rw [L101 (n + 2) (by omega)]
  simp only [ob_some_eq, cutM_inl]
  rw [cat?_nil _ (by simp [lim]; omega)]; rfl
 ·simp only [br_true, br_false, cond_false, cond_true, cutM_inl]
  rw [cat?_nil _ (by simp [lim]; omega)]; rfl
 ·simp only [br_true, cond_true, cutM_inl]
  rw [L101 (n + 2) (by rw [small_len]; omega)]
  simp only [ob_some_eq, cutM_inl]
  rw [cat?_nil _ (by simp [lim]; omega)]; rfl
theorem tiny_canon {p : Gt.Purl} (T : Tiny p) : Tiny (canonS p) := by
 have t1 := T.space; have t2 := T.name
 have h1 := dash_len false p.name; have h2 := dash_len false (smallS p.name); have h3 := small_len p.name; have h4 := small_len p.space
 refine ⟨?_, ?_, T.version, T.sub, T.quals, T.each⟩
 ·unfold canonS; cases (ruleR p.kind).1.small <;> simp <;> omega
 ·unfold canonS; cases (ruleR p.kind).1.small <;> cases (ruleR p.kind).1.dashes <;> simp <;> omega
theorem L42 (n : Nat) {p : Gt.Purl} (T : Tiny p) : @Eq (Option (Gt.Purl × Unit)) ((orcN (n + 4)).d 42 [.st 4 p] [(.st 4)]) (some (canonS p, ())) := (q42 (n + 3) _).trans (s42 n T)
theorem L50 (n : Nat) {p : Gt.Purl} (T : Tiny p) : @Eq (Option (Gt.Purl × Unit)) ((orcN (n + 4)).d 50 [.st 4 p] [(.st 4)]) (some (canonS p, ())) := (q50 (n + 3) _).trans (s50 n T)
theorem check_tiny {p : Gt.Purl} (h : checkS p = 0) : Tiny p := by
 cases hl : longS p with
 | false => exact tiny hl
 | true =>
   unfold checkS at h
   cases h1 : ((ruleR p.kind).2.1 != 0) with
   | true => rw [h1] at h; simp only [cond_true] at h; rw [h] at h1; cases h1
   | false => rw [h1, hl] at h; simp at h
def canonR (p : Gt.Purl) : Gt.Purl × Int × Unit := bif checkS p != 0 then (⟨[], [], [], [], [], []⟩, checkS p, ()) else (canonS p, 0, ())
theorem L15 (n : Nat) {p : Gt.Purl} (h : p.qualifiers.length ≤ 1000000000) : @Eq (Option (Gt.Purl × Int × Unit)) ((orcN (n + 5)).d 15 [.st 4 p] [(.st 4), (.int .i64)]) (some (canonR p)) := by
 rw [q15]
 unfold m15 canonR
 rw [L26 n h]
 simp only [ob_some_eq]
 cases hc : (checkS p != 0) with
 | true => rfl
 | false => rw [L50 n (check_tiny (by simpa using hc))]; rfl
end Pe.Tryd
end
section
/- The texts of names: both sides print the same; THE LAW OF CANONICAL FORMS. -/
set_option maxRecDepth 100000
namespace Pe.Tryd
open Go Go.Proofs Pe Pe.Told
theorem L53 (n : Nat) {s : List UInt8} (h : s.length ≤ 1000000000) : @Eq (Option (List UInt8 × Unit)) ((orcN (n + 2)).d 53 [.str s] [.str]) (some (escS s, ())) := (q53 (n + 1) _).trans (s53 n h)
def pathS (s : List UInt8) : List UInt8 := Lib.join ((segs s).map escS) [47]
theorem tail_len {M : Nat} : ∀ {l : List (List UInt8)}, (∀ x ∈ l, x.length ≤ M) → (Lib.joinTail [47] l).length ≤ l.length * (M + 1)
 | [], _ => by simp [Lib.joinTail]
 | x :: r, h => by
   have h1 := h x (by simp)
   have h2 := tail_len (l := r) fun y hy => h y (by simp [hy])
   simp only [Lib.joinTail, List.map_cons, List.flatten_cons, List.length_append, List.length_cons, List.length_nil] at h2 ⊢
   rw [Nat.succ_mul]; omega
theorem join_len {M : Nat} : ∀ {l : List (List UInt8)}, (∀ x ∈ l, x.length ≤ M) → (Lib.join l [47]).length ≤ l.length * (M + 1)
 | [], _ => by simp [Lib.join_nil]
 | x :: r, h => by
   have h1 := h x (by simp)
   have h2 := tail_len (l := r) fun y hy => h y (by simp [hy])
   rw [Lib.join_cons]
   simp only [List.length_append, List.length_cons]
   rw [Nat.succ_mul]; omega
theorem path_len {s : List UInt8} (h : s.length ≤ 200) : (pathS s).length ≤ 130000 := by
 have h1 := segs_len s
 have h2 := join_len (M := 600) (l := (segs s).map escS) (fun x hx => by
  obtain ⟨y, hy, rfl⟩ := List.mem_map.1 hx
  have := segs_mem hy; have := esc_len y; omega)
 rw [List.length_map] at h2
 have : (segs s).length * (600 + 1) ≤ 201 * 601 := Nat.mul_le_mul (by omega) (by omega)
 unfold pathS; omega
theorem fold_map {α β : Type} (g : α → β) : ∀ (l : List α) (a : List β), l.foldl (fun b x => b ++ [g x]) a = a ++ l.map g
 | [], a => by simp
 | x :: r, a => by simp [fold_map g r, List.append_assoc]
theorem s54 (n : Nat) {s : List UInt8} (h : s.length ≤ 200) : m54 (orcN (n + 2)) s = some (pathS s, ()) := by
 unfold m54
 rw [L63 n (by omega)]
 simp only [ob_some_eq]
 have hs := segs_len s
 refine cut_of (loop_fold (fun k (b : List (List UInt8)) => (b, (k : Int), ())) (segs s) (fun b x => b ++ [escS x]) (fun b => .inl (b, ())) (fun k b => b.length ≤ k) (fun k hk b hI => ?_) (fun b _ => ?_) [] (by simp)) ?_
 ·refine ⟨?_, by simpa using hI⟩
  have := segs_mem (List.getElem_mem hk)
  simp only [len_lt, hk, decide_true, br_true, at?_get hk, ob_some_eq, wrap_succ hk (by omega), L53 n (show ((segs s)[k]).length ≤ 1000000000 by omega)]
  rw [cat?_ok (by simp [lim]; omega)]; rfl
 ·simp [len_lt, br_false]
 ·have hp := path_len h
  unfold pathS at hp
  rw [fold_map]
  simp only [List.nil_append, cutM_inl]
  rw [L45 (n + 1) (by rw [List.length_map]; omega) (by omega)]; rfl
theorem L54 (n : Nat) {s : List UInt8} (h : s.length ≤ 200) : @Eq (Option (List UInt8 × Unit)) ((orcN (n + 3)).d 54 [.str s] [.str]) (some (pathS s, ())) := (q54 (n + 2) _).trans (s54 n h)
def spaceS (s : List UInt8) : List UInt8 := bif s != [] then pathS s ++ [47] else []
def headS (k s : List UInt8) : List UInt8 := (([112, 107, 103, 58] ++ k) ++ [47]) ++ spaceS s
def keyS (p : Gt.Purl) : List UInt8 := headS p.kind p.space ++ escS p.name
theorem space_len {s : List UInt8} (h : s.length ≤ 200) : (spaceS s).length ≤ 130001 := by
 have := path_len h
 unfold spaceS; cases (s != []) <;> simp; omega
theorem key_len {p : Gt.Purl} (T : Tiny p) (hk : p.kind.length ≤ 10) : (keyS p).length ≤ 140000 := by
 have h1 := space_len T.space; have h2 := T.name; have h3 := esc_len p.name
 simp only [keyS, headS, List.length_append, List.length_cons, List.length_nil]; omega
theorem s52 (n : Nat) {p : Gt.Purl} (T : Tiny p) (hk : p.kind.length ≤ 10) : m52 (orcN (n + 3)) p = some (keyS p, ()) := by
 have h1 := path_len T.space; have h2 := T.name; have h3 := esc_len p.name; have h4 := T.space
 unfold m52 keyS headS spaceS
 rw [cat?_ok (by simp [lim]; omega)]
 simp only [ob_some_eq]
 rw [cat?_ok (by simp [lim]; omega)]
 simp only [ob_some_eq]
 cases (p.space != []) with
 | true =>
   simp only [br_true, cond_true]
   rw [L54 n h4]
   simp only [ob_some_eq]
   rw [cat?_ok (by simp [lim]; omega)]
   simp only [ob_some_eq]
   rw [cat?_ok (by simp [lim]; omega)]
   simp only [ob_some_eq, cutM_inl]
   rw [L53 (n + 1) (by omega)]
   simp only [ob_some_eq]
   rw [cat?_ok (by simp [lim]; omega)]; rfl
 | false =>
   simp only [br_false, cond_false, cutM_inl]
   rw [L53 (n + 1) (by omega)]
   simp only [ob_some_eq]
   rw [cat?_ok (by simp [lim]; omega)]; simp [ob_some_eq]
theorem L52 (n : Nat) {p : Gt.Purl} (T : Tiny p) (hk : p.kind.length ≤ 10) : @Eq (Option (List UInt8 × Unit)) ((orcN (n + 4)).d 52 [.st 4 p] [.str]) (some (keyS p, ())) := (q52 (n + 3) _).trans (s52 n T hk)
def verS (s : List UInt8) : List UInt8 := bif s != [] then [64] ++ escS s else []
def subS (s : List UInt8) : List UInt8 := bif s != [] then [35] ++ pathS s else []
def sign (k : Nat) : List UInt8 := bif (k : Int) == 0 then [63] else [38]
def qS (q : Gt.Pair) : List UInt8 := (q.name ++ [61]) ++ escS q.value
def qT : Nat → List Gt.Pair → List UInt8
 | _, [] => []
 | k, q :: r => (sign k ++ qS q) ++ qT (k + 1) r
def textS (p : Gt.Purl) : List UInt8 := ((keyS p ++ verS p.version) ++ qT 0 p.qualifiers) ++ subS p.sub
theorem sign_len (k : Nat) : (sign k).length = 1 := by unfold sign; cases ((k : Int) == 0) <;> rfl
theorem qS_len {q : Gt.Pair} (h : q.name.length ≤ 200 ∧ q.value.length ≤ 200) : (qS q).length ≤ 801 := by
 have := esc_len q.value; simp only [qS, List.length_append, List.length_cons, List.length_nil]; omega
theorem qT_len : ∀ (k : Nat) (l : List Gt.Pair), (∀ q ∈ l, q.name.length ≤ 200 ∧ q.value.length ≤ 200) → (qT k l).length ≤ 802 * l.length
 | _, [], _ => by simp [qT]
 | k, q :: r, h => by
   have h1 := qS_len (h q (by simp)); have h2 := qT_len (k + 1) r fun x hx => h x (by simp [hx]); have h3 := sign_len k
   simp only [qT, List.length_append, List.length_cons]; omega
/-- The qualifiers' loop of Print. -/
theorem loopQ (_ : Orc Sx) (_ : Nat) {l : List Gt.Pair} (hl : l.length ≤ 10) (hE : ∀ q ∈ l, q.name.length ≤ 200 ∧ q.value.length ≤ 200) (a : List UInt8) (ha : a.length ≤ 200000) {R : Type} {F : List UInt8 × Int × Unit → Option ((List UInt8 × Int × Unit) ⊕ ((List UInt8 × Unit) ⊕ R))}
  (h : ∀ (k : Nat) (hk : k < l.length) (b : List UInt8), b.length ≤ 300000 → F (b, (k : Int), ()) = some (.inl (b ++ (sign k ++ qS l[k]), ((k + 1 : Nat) : Int), ())))
  (he : ∀ b, F (b, (l.length : Int), ()) = some (.inr (.inl (b, ())))) : loopM F (a, 0, ()) = some (.inl (a ++ qT 0 l, ())) := by
 have := loop_st (A := List UInt8) (f := F) (fun k b => (b, (k : Int), ())) l.length (fun k b => .inl (b ++ qT k (l.drop k), ())) (fun k b => b.length ≤ 200000 + 802 * k) (fun k b hk hI => ?_) 0 a (Nat.zero_le _) (by simpa using ha)
 ·simpa using this
 ·by_cases hlt : k < l.length
  ·left
   have h1 := qS_len (hE _ (List.getElem_mem hlt)); have h2 := sign_len k
   refine ⟨_, hlt, h k hlt b (by omega), ?_, ?_⟩
   ·simp only [List.length_append]; omega
   ·rw [List.drop_eq_getElem_cons hlt]; simp [qT]
  ·right
   obtain rfl : k = l.length := by omega
   rw [he b]; simp [qT]
end Pe.Tryd
end
section
/- PROVED: THE LAW OF CANONICAL FORMS, plain: check, canonical form, text and key are what is specified. -/
set_option maxRecDepth 100000
namespace Pe.Tryd
open Go Go.Proofs Pe Pe.Told
theorem kind_len {p : Gt.Purl} (h : checkS p = 0) : p.kind.length ≤ 10 := by
 have h0 : (ruleR p.kind).2.1 = 0 := by
  unfold checkS at h
  cases h1 : ((ruleR p.kind).2.1 != 0) with
  | true => rw [h1] at h; simpa using h
  | false => simpa using h1
 unfold ruleR ruleS at h0
 by_cases h1 : dotted = p.kind
 ·rw [← h1]; decide
 by_cases h2 : revised = p.kind
 ·rw [← h2]; decide
 by_cases h3 : staged = p.kind
 ·rw [← h3]; decide
 by_cases h4 : qualified = p.kind
 ·rw [← h4]; decide
 by_cases h5 : plainK = p.kind
 ·rw [← h5]; decide
 simp [h1, h2, h3, h4, h5] at h0
def printS (p : Gt.Purl) : List UInt8 × Int × Unit := bif checkS p != 0 then ([], checkS p, ()) else bif decide (3000 < len (textS (canonS p))) then ([], 3, ()) else (textS (canonS p), 0, ())
theorem L14 (n : Nat) {p : Gt.Purl} (h : p.qualifiers.length ≤ 1000000000) : @Eq (Option (List UInt8 × Int × Unit)) ((orcN (n + 5)).d 14 [.st 4 p] [.str, (.int .i64)]) (some (printS p)) := by
 rw [q14]
 unfold m14 printS
 rw [L25 n h]
 simp only [ob_some_eq]
 cases hc : (checkS p != 0) with
 | true => rfl
 | false =>
   have hz : checkS p = 0 := by simpa using hc
   have T0 := check_tiny hz
   have T := tiny_canon T0
   have hk : (canonS p).kind.length ≤ 10 := kind_len (p := p) hz
   rw [L42 n T0]
   simp only [br_false, cond_false, ob_some_eq]
   generalize canonS p = c at T hk
   have h5 := T.version; have h6 := esc_len c.version; have h7 := path_len T.sub; have h8 := T.quals
   have h9 := qT_len 0 c.qualifiers T.each
   have hkey := key_len T hk
   rw [L52 n T hk]
   simp only [ob_some_eq]
   have e2 : (br (c.version != []) (ob (α := List UInt8 × Unit) ((orcN (n + 4)).d 53 [.str c.version] [.str]) fun (r9 : List UInt8 × Unit) => (ob (cat? ([64] : List UInt8) r9.1) fun s10 => (ob (cat? (keyS c) s10) fun s11 => (some (Sum.inl (β := List UInt8 × Int × Unit) (s11, ())))))) (some (.inl (keyS c, ())))) = some (.inl (keyS c ++ verS c.version, ())) := by
    unfold verS
    cases (c.version != []) with
    | true =>
      simp only [br_true, cond_true]
      rw [L53 (n + 2) (by omega)]
      simp only [ob_some_eq]
      rw [cat?_ok (by simp [lim]; omega)]
      simp only [ob_some_eq]
      rw [cat?_ok (by simp [lim]; omega)]; rfl
    | false => simp [br_false]
   refine cut_of e2 ?_
   simp only [cutM_inl]
   have hver : (verS c.version).length ≤ 601 := by unfold verS; cases (c.version != []) <;> simp; omega
   refine cut_of (loopQ (orcN (n + 4)) 0 T.quals T.each (keyS c ++ verS c.version) (by rw [List.length_append]; omega) (fun k hlt b hb => ?_) (fun b => ?_)) ?_
   ·obtain ⟨a1, a2⟩ := T.each _ (List.getElem_mem hlt)
    have a3 := esc_len c.qualifiers[k].value; have a4 := sign_len k
    simp only [len_lt, hlt, decide_true, br_true, at?_get hlt, ob_some_eq]
    refine cut_of (r := .inl (sign k, ())) ?_ ?_
    ·unfold sign
     cases ((k : Int) == 0) <;> rfl
    ·simp only [cutM_inl]
     rw [cat?_ok (by simp [lim]; omega)]
     simp only [ob_some_eq]
     rw [cat?_ok (by simp [lim]; omega)]
     simp only [ob_some_eq]
     rw [L53 (n + 2) (by omega)]
     simp only [ob_some_eq]
     rw [cat?_ok (by simp [lim]; omega)]
     simp only [ob_some_eq]
     rw [cat?_ok (by simp [lim]; omega)]
     simp only [ob_some_eq, wrap_succ hlt (by omega)]
     simp [qS, List.append_assoc]
   ·simp [len_lt, br_false]
   ·simp only [cutM_inl]
    refine cut_of (r := .inl (textS c, ())) ?_ ?_
    ·unfold textS subS
     cases (c.sub != []) with
     | true =>
       simp only [br_true, cond_true]
       rw [L54 (n + 1) T.sub]
       simp only [ob_some_eq]
       rw [cat?_ok (by simp [lim]; omega)]
       simp only [ob_some_eq]
       rw [cat?_ok (by simp [lim]; omega)]; rfl
     | false => simp [br_false]
    ·simp only [cutM_inl, br_some_eq]
/-! the same -/
theorem s51 (o : Orc Sx) {l : List Gt.Pair} (h : l.length ≤ 1000000000) : m51 o l l = some (true, ()) := by
 unfold m51
 rw [show (len l != len l) = false by simp]
 simp only [br_false]
 refine cut_of (r := Sum.inl ()) (loop_ix (R := Unit ⊕ (Bool × Unit)) l.length (fun _ => Sum.inl ()) (fun k hk => ?_) 0 (Nat.zero_le _)) rfl
 by_cases hlt : k < l.length
 ·left
  refine ⟨hlt, ?_, rfl⟩
  simp only [len_lt, hlt, decide_true, br_true, at?_get hlt, ob_some_eq, wrap_succ hlt (by omega)]
  simp [br_false]
 ·right
  obtain rfl : k = l.length := by omega
  simp [len_lt, br_false]
theorem L51 (n : Nat) {l : List Gt.Pair} (h : l.length ≤ 1000000000) : @Eq (Option (Bool × Unit)) ((orcN (n + 1)).d 51 [.sl (.st 3) l, .sl (.st 3) l] [.bool]) (some (true, ())) := (q51 n _ _).trans (s51 _ h)
theorem L12 (n : Nat) {p : Gt.Purl} (h : p.qualifiers.length ≤ 1000000000) : @Eq (Option (Bool × Unit)) ((orcN (n + 2)).d 12 [.st 4 p, .st 4 p] [.bool]) (some (true, ())) := by
 rw [q12]
 unfold m12
 rw [L51 n h]
 simp [ob_some_eq, br_true]
end Pe.Tryd
end
