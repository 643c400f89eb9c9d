/- What is known of three functions that are not read: strings.Join, strings.ToUpper, and licence.read with its deferred call. -/
import Derived.Test.YteimbekcnkogoaaDoorLicD
import Derived.Test.YteimbekcnkogoaaDoorLicShelf
import Derived.Recover
set_option maxRecDepth 100000
namespace Pe.Tryd
open Go Go.Proofs Pe Go.RowKit

/-! ### of Go's library -/
theorem oneStr {nu : Nu} {D : Dat} {w : World} {s : List UInt8} {v : Value} (h : Rep (S := Sx) un nu D w (.str s) v) : v = .string ⟨s.toArray⟩ := by simpa only [Rep] using h

noncomputable def e68 (_ : Orc Sx) : Entry Sx := ⟨[.str], [.str], fun t => bif Nat.ble (List.length (α := UInt8) t.1) 1000000 && List.all (α := UInt8) t.1 (fun b => Nat.blt b.toNat 128) then some (Lib.toUpperA t.1, ()) else none⟩
theorem upper_back {w : World} {s : List UInt8} (h1 : s.length ≤ 1000000) (h2 : s.all (fun b => Nat.blt b.toNat 128) = true) :
    Calls Tryd.prog 68 #[.string ⟨s.toArray⟩] w fun x w' => x = .returned (.string ⟨(Lib.toUpperA s).toArray⟩) ∧ Below w.heap.size w w' := by
  have hsz : (ByteArray.mk s.toArray).size = s.length := by simp [ByteArray.size]
  refine Tryd.strings_ToUpper_ascii ⟨s.toArray⟩ w (by rw [hsz]; omega) (fun j b hb => ?_)
  have := List.all_eq_true.1 h2 b (List.mem_of_getElem? hb)
  simpa [Nat.blt_eq] using this
theorem hok68 (o : Orc Sx) (_ : SoundO Tryd.prog un o) : Entry.Ok Tryd.prog un 68 (e68 o) := by
  intro t r h D w vs hD ha
  obtain ⟨h1, h2⟩ := bif_some h
  cases h2
  simp only [Bool.and_eq_true, Nat.ble_eq] at h1
  match vs, ha with
  | [v], ha =>
    simp only [e68, injL, RepL, inj] at ha
    have := oneStr ha.1
    subst this
    refine (upper_back h1.1 h1.2).mono ?_
    rintro x w' ⟨rfl, hb⟩
    exact ⟨_, rfl, hb, by simp only [e68, injL, one?, inj, Rep]⟩
  | [], ha => simp [e68, injL, RepL] at ha
  | _ :: _ :: _, ha => simp [e68, injL, RepL] at ha

theorem one_str {D : Dat} {w : World} {x : List UInt8} {cc : List Value} (h : DR (S := Sx) un D w [.str] (sg (u := .str) x) cc) : cc = [.string ⟨x.toArray⟩] := by
  cases h with
  | str h' => cases h'; rfl
theorem strs_cells {D : Dat} {w : World} {xs : List (List UInt8)} {v : Value} (hv : DR (S := Sx) un D w [.sl .str] (sg (u := .sl .str) xs) [v]) :
    (xs = [] ∧ ∃ A c, v = .slice A 0 c) ∨ (xs ≠ [] ∧ ∃ b off c, v = .slice (some ⟨b, off, none⟩) xs.length c ∧ xs.length ≤ c ∧ ∀ (j : Nat) (x : List UInt8), xs[j]? = some x → D b (off + j) ∧ w.cell? ⟨b, off + j, none⟩ = some (.string ⟨x.toArray⟩)) := by
  cases hv with
  | sl0 A c h0 h => exact .inl ⟨h0, A, c, rfl⟩
  | sl b off c cs hc k1 k2 h =>
    by_cases hx : xs = []
    · subst hx; exact .inl ⟨rfl, some ⟨b, off, none⟩, c, rfl⟩
    · refine .inr ⟨hx, b, off, c, rfl, hc, fun j x hj => ?_⟩
      have e1 := k1 j x hj
      have e2 := one_str (k2 j x hj)
      rw [e2] at e1
      simpa [U.size] using e1 0 _ rfl

theorem join_back {D : Dat} {w : World} (hD : ∀ k o, D k o → k < w.heap.size) {xs : List (List UInt8)} {sep : List UInt8} {v : Value} (hv : DR (S := Sx) un D w [.sl .str] (sg (u := .sl .str) xs) [v]) (h1 : xs.length ≤ 1000000) (h2 : (Lib.join xs sep).length ≤ 100000000) :
    Calls Tryd.prog 51 #[v, .string ⟨sep.toArray⟩] w fun x w' => x = .returned (.string ⟨(Lib.join xs sep).toArray⟩) ∧ Below w.heap.size w w' := by
  rcases strs_cells hv with ⟨rfl, A, c, rfl⟩ | ⟨hx, b, off, c, rfl, hc, hcell⟩
  · refine (Tryd.strings_Join_none A c ⟨sep.toArray⟩ w).mono ?_
    rintro x w' ⟨rfl, rfl⟩
    exact ⟨rfl, Below.refl _ _⟩
  · have hb : b < w.heap.size := by
      obtain ⟨y, ys, rfl⟩ := List.exists_cons_of_ne_nil hx
      exact hD _ _ (hcell 0 y rfl).1
    have hmap : (xs.map fun x => ByteArray.mk x.toArray).map (·.data.toList) = xs := by rw [List.map_map]; simp [Function.comp_def]
    have hlen : (xs.map fun x => ByteArray.mk x.toArray).length = xs.length := by simp
    have := Tryd.strings_Join b off c (xs.map fun x => ByteArray.mk x.toArray) ⟨sep.toArray⟩ w (fun j x hj => by
      rw [List.getElem?_map] at hj
      cases hxj : xs[j]? with
      | none => rw [hxj] at hj; cases hj
      | some y => rw [hxj] at hj; cases hj; exact (hcell j y hxj).2) hb (by rw [hlen]; omega) (by rw [hlen]; exact hc) (by rw [hmap]; exact Nat.le_trans h2 (by decide))
    rw [hmap, hlen] at this
    exact this

noncomputable def e51 (_ : Orc Sx) : Entry Sx := ⟨[.sl .str, .str], [.str], fun t => bif Nat.ble (List.length (α := List UInt8) t.1) 1000000 && Nat.ble (Lib.join t.1 t.2.1).length 100000000 then some (Lib.join t.1 t.2.1, ()) else none⟩
theorem hok51 (o : Orc Sx) (_ : SoundO Tryd.prog un o) : Entry.Ok Tryd.prog un 51 (e51 o) := by
  intro t r h D w vs hD ha
  obtain ⟨h1, h2⟩ := bif_some h
  cases h2
  simp only [Bool.and_eq_true, Nat.ble_eq] at h1
  match vs, ha with
  | [v, u], ha =>
    simp only [e51, injL, RepL, inj] at ha
    have hu := oneStr ha.2.1
    subst hu
    have hv := ha.1
    simp only [Rep] at hv
    refine (join_back hD hv h1.1 h1.2).mono ?_
    rintro x w' ⟨rfl, hb⟩
    exact ⟨_, rfl, hb, by simp only [e51, injL, one?, inj, Rep]⟩
  | [], ha => simp [e51, injL, RepL] at ha
  | [_], ha => simp [e51, injL, RepL] at ha
  | _ :: _ :: _ :: _, ha => simp [e51, injL, RepL] at ha
end Pe.Tryd
