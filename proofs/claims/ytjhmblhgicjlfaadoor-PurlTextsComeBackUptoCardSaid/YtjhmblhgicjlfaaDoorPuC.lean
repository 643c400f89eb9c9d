/- PROVED HERE: a part of the seat's proofs; see the text that holds the claim's theorem. -/
import Derived.Test.YtjhmblhgicjlfaaDoorPuB
import Derived.Test.YtjhmblhgicjlfaaDoorPuSrt
import Derived.Test.YtjhmblhgicjlfaaDoorPeE
section
/- What a computable copy of a model answers, the model answers: the laws of the words, and the copies of what is known of functions that are not read. -/
set_option maxRecDepth 100000
namespace Pe.Told
open Go Pe
/-- What x answers, y answers. -/
def Le {α : Type} (x y : Option α) : Prop := ∀ r, x = some r → y = some r
theorem le_refl {α : Type} (x : Option α) : Le x x := fun _ h => h
theorem le_some {α : Type} (x : α) : Le (some x) (some x) := fun _ h => h
theorem le_q {α : Type} {x y z : Option α} (h : y = z) (hx : Le x z) : Le x y := h ▸ hx
theorem ob_inv {α β : Type} {x : Option α} {f : α → Option β} {r : β} (h : ob x f = some r) : ∃ a, x = some a ∧ f a = some r := by
 cases x with
 | none => cases h
 | some a => exact ⟨a, rfl, h⟩
theorem le_ob {α β : Type} {x y : Option α} {f g : α → Option β} (h : Le x y) (hf : ∀ a, Le (f a) (g a)) : Le (ob x f) (ob y g) := by
 intro r hr
 obtain ⟨a, rfl, h2⟩ := ob_inv hr
 rw [h a rfl]; exact hf a r h2
theorem le_br {α : Type} {b : Bool} {x y x' y' : Option α} (h1 : Le x x') (h2 : Le y y') : Le (br b x y) (br b x' y') := by cases b <;> assumption
theorem le_same {α : Type} {x y z : Option α} (h1 : Le x y) (h2 : Le x z) : Le x (same y z) := by
 intro r hr
 have e1 := h1 r hr
 have e2 := h2 r hr
 unfold same
 rw [e1, e2, if_pos rfl]
theorem le_cut {σ R : Type} {x y : Option (σ ⊕ R)} {f g : σ → Option R} (h : Le x y) (hf : ∀ a, Le (f a) (g a)) : Le (cutM x f) (cutM y g) := by
 intro r hr
 cases x with
 | none => cases hr
 | some a =>
   rw [h a rfl]
   cases a with
   | inl t => exact hf t r hr
   | inr t => exact hr
theorem le_oc {α β R : Type} {x y : Option (α ⊕ β)} {f f' : α → Option R} {g g' : β → Option R} (h : Le x y) (hf : ∀ a, Le (f a) (f' a)) (hg : ∀ a, Le (g a) (g' a)) : Le (oc x f g) (oc y f' g') := by
 intro r hr
 cases x with
 | none => cases hr
 | some a =>
   rw [h a rfl]
   cases a with
   | inl t => exact hf t r hr
   | inr t => exact hg t r hr
/-- A loop of at most 100 rounds. -/
def itC {σ R : Type} (f : σ → Option (σ ⊕ R)) (x : σ) : Option R := iter f 100 x
theorem iter_le {σ R : Type} {f g : σ → Option (σ ⊕ R)} (h : ∀ t, Le (f t) (g t)) : ∀ n x r, iter f n x = some r → loopM g x = some r
 | 0, _, _, hr => by cases hr
 | n + 1, x, r, hr => by
   simp only [iter] at hr
   cases hx : f x with
   | none => rw [hx] at hr; cases hr
   | some a =>
     rw [hx] at hr
     cases a with
     | inl y => rw [loopM_next (h x _ hx)]; exact iter_le h n y r hr
     | inr y => cases hr; exact loopM_end (h x _ hx)
theorem le_loop {σ R : Type} {f g : σ → Option (σ ⊕ R)} (h : ∀ t, Le (f t) (g t)) (x : σ) : Le (itC f x) (loopM g x) := fun r hr => iter_le h 100 x r hr
end Pe.Told
namespace Pe.Tryd
open Go Go.Proofs Pe Pe.Told
noncomputable def c45 (l : List (List UInt8)) (s : List UInt8) : Option (List UInt8 × Unit) := bif Nat.ble l.length 1000000 && Nat.ble (Lib.join l s).length 100000000 then some (Lib.join l s, ()) else none
theorem c45_le (n : Nat) (l : List (List UInt8)) (s : List UInt8) : @Le (List UInt8 × Unit) (c45 l s) ((orcN (n + 1)).d 45 [.sl .str l, .str s] [.str]) :=
 le_q (show _ = c45 l s by kernel_rfl) (le_refl _)
noncomputable def c64 (s : List UInt8) (c : Int) : Option (Int × Unit) := some (Lib.indexByte s (UInt8.ofNat (Int.toNat c)), ())
theorem c64_le (n : Nat) (s : List UInt8) (c : Int) : @Le (Int × Unit) (c64 s c) ((orcN (n + 1)).d 64 [.str s, .int .u8 c] [.int .i64]) :=
 le_q (show _ = c64 s c by kernel_rfl) (le_refl _)
noncomputable def c106 (s sub : List UInt8) : Option (List (List UInt8) × Unit) := split1 s sub
theorem c106_le (n : Nat) (s sub : List UInt8) : @Le (List (List UInt8) × Unit) (c106 s sub) ((orcN (n + 1)).d 106 [.str s, .str sub] [.sl .str]) :=
 le_q (show _ = c106 s sub by kernel_rfl) (le_refl _)
end Pe.Tryd
end
section
/- Printed by told.py: computable copies of the models (loops with fuel), each below its model. -/
set_option maxRecDepth 100000
namespace Pe.Tryd
open Go Go.Proofs Pe Pe.Told
noncomputable def c56  : Option (Gt.A5_api_KindRule × Unit) := (some ((Gt.A5_api_KindRule.mk (Gt.KindRule.mk [100, 111, 116, 116, 101, 100] 2 true false 1) (Gt.KindRule.mk [114, 101, 118, 105, 115, 101, 100] 3 true false 2) (Gt.KindRule.mk [115, 116, 97, 103, 101, 100] 1 true true 3) (Gt.KindRule.mk [113, 117, 97, 108, 105, 102, 105, 101, 100] 3 false false 4) (Gt.KindRule.mk [112, 108, 97, 105, 110] 2 false false 5)), ()))
theorem c56_le (n : Nat)  : @Le (Gt.A5_api_KindRule × Unit) (c56 ) ((orcN (n + 1)).d 56 [] [(.st 0)]) := by
 refine le_q (q56 n) ?_
 unfold c56 m56
 repeat' (first | (with_reducible exact le_some _) | (with_reducible refine le_br ?_ ?_)  | (with_reducible refine le_same ?_ ?_) | (with_reducible refine le_cut ?_ fun _ => ?_) | (with_reducible refine le_loop (fun _ => ?_) _) | (refine le_ob ?_ fun _ => ?_) | (refine le_oc ?_ (fun _ => ?_) fun _ => ?_) | exact le_refl _)
noncomputable def c55 (kind : (List UInt8)) : Option (Int × Unit) := (cutM (σ := Unit) (R := _) (ob (α := Gt.A5_api_KindRule × Unit) (c56) fun (r1 : Gt.A5_api_KindRule × Unit) => (itC (σ := Int × Unit) (R := _) (fun (t2 : Int × Unit) => (br (decide (t2.1 < 5)) (ob (at? [(Gt.A5_api_KindRule.e0 r1.1), (Gt.A5_api_KindRule.e1 r1.1), (Gt.A5_api_KindRule.e2 r1.1), (Gt.A5_api_KindRule.e3 r1.1), (Gt.A5_api_KindRule.e4 r1.1)] t2.1) fun y3 => (br ((Gt.KindRule.kind y3) == kind) (some (.inr (.inr (t2.1, ())))) (some (.inl ((IntKind.i64.wrap (t2.1 + 1)), ()))))) (some (.inr (.inl (())))))) (0, ()))) fun (_ : Unit) => (some ((-1), ())))
theorem c55_le (n : Nat) (kind : (List UInt8)) : @Le (Int × Unit) (c55 kind) ((orcN (n + 2)).d 55 [.str kind] [(.int .i64)]) := by
 refine le_q (q55 (n + 1) kind) ?_
 unfold c55 m55
 repeat' (first | (with_reducible exact le_some _) | (with_reducible refine le_br ?_ ?_)  | (with_reducible refine le_same ?_ ?_) | (with_reducible refine le_cut ?_ fun _ => ?_) | (with_reducible refine le_loop (fun _ => ?_) _) | (exact c56_le n) | (refine le_ob ?_ fun _ => ?_) | (refine le_oc ?_ (fun _ => ?_) fun _ => ?_) | exact le_refl _)
noncomputable def c16 (kind : (List UInt8)) : Option (Gt.KindRule × Int × Unit) := (ob (α := Int × Unit) (c55 kind) fun (r1 : Int × Unit) => (br (decide (r1.1 < 0)) (some ((Gt.KindRule.mk [] 0 false false 0), 7, ())) (ob (α := Gt.A5_api_KindRule × Unit) (c56) fun (r2 : Gt.A5_api_KindRule × Unit) => (ob (at? [(Gt.A5_api_KindRule.e0 r2.1), (Gt.A5_api_KindRule.e1 r2.1), (Gt.A5_api_KindRule.e2 r2.1), (Gt.A5_api_KindRule.e3 r2.1), (Gt.A5_api_KindRule.e4 r2.1)] r1.1) fun y3 => (some (y3, 0, ()))))))
theorem c16_le (n : Nat) (kind : (List UInt8)) : @Le (Gt.KindRule × Int × Unit) (c16 kind) ((orcN (n + 3)).d 16 [.str kind] [(.st 2), (.int .i64)]) := by
 refine le_q (q16 (n + 2) kind) ?_
 unfold c16 m16
 repeat' (first | (with_reducible exact le_some _) | (with_reducible refine le_br ?_ ?_)  | (with_reducible refine le_same ?_ ?_) | (with_reducible refine le_cut ?_ fun _ => ?_) | (with_reducible refine le_loop (fun _ => ?_) _) | (exact c55_le n _) | (exact c56_le (n + 1)) | (refine le_ob ?_ fun _ => ?_) | (refine le_oc ?_ (fun _ => ?_) fun _ => ?_) | exact le_refl _)
noncomputable def c20  : Option (List (List UInt8) × Unit) := (some ([[100, 111, 116, 116, 101, 100], [114, 101, 118, 105, 115, 101, 100], [115, 116, 97, 103, 101, 100], [113, 117, 97, 108, 105, 102, 105, 101, 100], [112, 108, 97, 105, 110]], ()))
theorem c20_le (n : Nat)  : @Le (List (List UInt8) × Unit) (c20 ) ((orcN (n + 1)).d 20 [] [(.sl .str)]) := by
 refine le_q (q20 n) ?_
 unfold c20 m20
 repeat' (first | (with_reducible exact le_some _) | (with_reducible refine le_br ?_ ?_)  | (with_reducible refine le_same ?_ ?_) | (with_reducible refine le_cut ?_ fun _ => ?_) | (with_reducible refine le_loop (fun _ => ?_) _) | (refine le_ob ?_ fun _ => ?_) | (refine le_oc ?_ (fun _ => ?_) fun _ => ?_) | exact le_refl _)
noncomputable def c57 (kind : (List UInt8)) : Option (Int × Unit) := (cutM (σ := Unit) (R := _) (ob (α := List (List UInt8) × Unit) (c20) fun (r1 : List (List UInt8) × Unit) => (itC (σ := Int × Unit) (R := _) (fun (t2 : Int × Unit) => (br (decide (t2.1 < (len r1.1))) (ob (at? r1.1 t2.1) fun y3 => (br (y3 == kind) (some (.inr (.inr (t2.1, ())))) (some (.inl ((IntKind.i64.wrap (t2.1 + 1)), ()))))) (some (.inr (.inl (())))))) (0, ()))) fun (_ : Unit) => (some ((-1), ())))
theorem c57_le (n : Nat) (kind : (List UInt8)) : @Le (Int × Unit) (c57 kind) ((orcN (n + 2)).d 57 [.str kind] [(.int .i64)]) := by
 refine le_q (q57 (n + 1) kind) ?_
 unfold c57 m57
 repeat' (first | (with_reducible exact le_some _) | (with_reducible refine le_br ?_ ?_)  | (with_reducible refine le_same ?_ ?_) | (with_reducible refine le_cut ?_ fun _ => ?_) | (with_reducible refine le_loop (fun _ => ?_) _) | (exact c20_le n) | (refine le_ob ?_ fun _ => ?_) | (refine le_oc ?_ (fun _ => ?_) fun _ => ?_) | exact le_refl _)
noncomputable def c58  : Option (List (Gt.KindRule) × Unit) := (some ([(Gt.KindRule.mk [100, 111, 116, 116, 101, 100] 2 true false 1), (Gt.KindRule.mk [114, 101, 118, 105, 115, 101, 100] 3 true false 2), (Gt.KindRule.mk [115, 116, 97, 103, 101, 100] 1 true true 3), (Gt.KindRule.mk [113, 117, 97, 108, 105, 102, 105, 101, 100] 3 false false 4), (Gt.KindRule.mk [112, 108, 97, 105, 110] 2 false false 5)], ()))
theorem c58_le (n : Nat)  : @Le (List (Gt.KindRule) × Unit) (c58 ) ((orcN (n + 1)).d 58 [] [(.sl (.st 2))]) := by
 refine le_q (q58 n) ?_
 unfold c58 m58
 repeat' (first | (with_reducible exact le_some _) | (with_reducible refine le_br ?_ ?_)  | (with_reducible refine le_same ?_ ?_) | (with_reducible refine le_cut ?_ fun _ => ?_) | (with_reducible refine le_loop (fun _ => ?_) _) | (refine le_ob ?_ fun _ => ?_) | (refine le_oc ?_ (fun _ => ?_) fun _ => ?_) | exact le_refl _)
noncomputable def c17 (kind : (List UInt8)) : Option (Gt.KindRule × Int × Unit) := (ob (α := Int × Unit) (c57 kind) fun (r1 : Int × Unit) => (br (decide (0 ≤ r1.1)) (ob (α := List (Gt.KindRule) × Unit) (c58) fun (r2 : List (Gt.KindRule) × Unit) => (ob (at? r2.1 r1.1) fun y3 => (some (y3, 0, ())))) (some ((Gt.KindRule.mk [] 0 false false 0), 7, ()))))
theorem c17_le (n : Nat) (kind : (List UInt8)) : @Le (Gt.KindRule × Int × Unit) (c17 kind) ((orcN (n + 3)).d 17 [.str kind] [(.st 2), (.int .i64)]) := by
 refine le_q (q17 (n + 2) kind) ?_
 unfold c17 m17
 repeat' (first | (with_reducible exact le_some _) | (with_reducible refine le_br ?_ ?_)  | (with_reducible refine le_same ?_ ?_) | (with_reducible refine le_cut ?_ fun _ => ?_) | (with_reducible refine le_loop (fun _ => ?_) _) | (exact c57_le n _) | (exact c58_le (n + 1)) | (refine le_ob ?_ fun _ => ?_) | (refine le_oc ?_ (fun _ => ?_) fun _ => ?_) | exact le_refl _)
end Pe.Tryd
end
section
/- PROVED: the small name reads and prints as it is told, at every depth from 7 on; the rules of all kinds are what is specified, and the kinds are. -/
set_option maxRecDepth 100000
namespace Pe.Tryd
open Go Go.Proofs Pe Pe.Told
def dotted : List UInt8 := [100, 111, 116, 116, 101, 100]
def revised : List UInt8 := [114, 101, 118, 105, 115, 101, 100]
def staged : List UInt8 := [115, 116, 97, 103, 101, 100]
def qualified : List UInt8 := [113, 117, 97, 108, 105, 102, 105, 101, 100]
def plainK : List UInt8 := [112, 108, 97, 105, 110]
/-- The rule of a kind. -/
def ruleS (k : List UInt8) : Option Gt.KindRule :=
 if dotted = k then some ⟨dotted, 2, true, false, 1⟩ else if revised = k then some ⟨revised, 3, true, false, 2⟩ else if staged = k then some ⟨staged, 1, true, true, 3⟩
 else if qualified = k then some ⟨qualified, 3, false, false, 4⟩ else if plainK = k then some ⟨plainK, 2, false, false, 5⟩ else none
def ruleR (k : List UInt8) : Gt.KindRule × Int × Unit := match ruleS k with
 | some r => (r, 0, ())
 | none => (⟨[], 0, false, false, 0⟩, 7, ())
theorem beqF {a b : List UInt8} (h : ¬ a = b) : (a == b) = false := by simpa using h
theorem c16_eq (k : List UInt8) : c16 k = some (ruleR k) := by
 by_cases h1 : dotted = k
 ·subst h1; kernel_rfl
 by_cases h2 : revised = k
 ·subst h2; kernel_rfl
 by_cases h3 : staged = k
 ·subst h3; kernel_rfl
 by_cases h4 : qualified = k
 ·subst h4; kernel_rfl
 by_cases h5 : plainK = k
 ·subst h5; kernel_rfl
 have : c55 k = some (-1, ()) := by
  have e1 := beqF h1; have e2 := beqF h2; have e3 := beqF h3; have e4 := beqF h4; have e5 := beqF h5
  simp only [dotted, revised, staged, qualified, plainK] at e1 e2 e3 e4 e5
  simp [c55, c56, ob, itC, iter, br, at?, IntKind.wrap, IntKind.bits, IntKind.signed, e1, e2, e3, e4, e5, cutM]
 unfold c16
 rw [this]
 simp [ruleR, ruleS, h1, h2, h3, h4, h5, ob, br]
theorem c17_eq (k : List UInt8) : c17 k = some (ruleR k) := by
 by_cases h1 : dotted = k
 ·subst h1; kernel_rfl
 by_cases h2 : revised = k
 ·subst h2; kernel_rfl
 by_cases h3 : staged = k
 ·subst h3; kernel_rfl
 by_cases h4 : qualified = k
 ·subst h4; kernel_rfl
 by_cases h5 : plainK = k
 ·subst h5; kernel_rfl
 have : c57 k = some (-1, ()) := by
  have e1 := beqF h1; have e2 := beqF h2; have e3 := beqF h3; have e4 := beqF h4; have e5 := beqF h5
  simp only [dotted, revised, staged, qualified, plainK] at e1 e2 e3 e4 e5
  simp [c57, c20, ob, itC, iter, br, at?, len, IntKind.wrap, IntKind.bits, IntKind.signed, e1, e2, e3, e4, e5, cutM]
 unfold c17
 rw [this]
 simp [ruleR, ruleS, h1, h2, h3, h4, h5, ob, br]
theorem L16 (n : Nat) (k : List UInt8) : (orcN (n + 3)).d 16 [.str k] [(.st 2), (.int .i64)] = some (ruleR k) := c16_le n k _ (c16_eq k)
theorem L17 (n : Nat) (k : List UInt8) : (orcN (n + 3)).d 17 [.str k] [(.st 2), (.int .i64)] = some (ruleR k) := c17_le n k _ (c17_eq k)
end Pe.Tryd
end
