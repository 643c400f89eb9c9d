/- PROVED HERE: a part of the seat's proofs; see the text that holds the claim's theorem. -/
import Derived.Test.YtjhmblhgicjlfaaDoorPuE
import Derived.Test.YtjhmblhgicjlfaaDoorPuSrt
section
/- What a name's text is read as: plain lists of bytes. -/
set_option maxRecDepth 100000
namespace Pe.Tryd
open Go Go.Proofs Pe Pe.Told
abbrev B := List UInt8
/-! what is left of a text, and where it begins -/
def P (s l : B) : Nat := s.length - l.length
section
variable {s l r : B} {c : UInt8}
theorem P_add (h : l <:+ s) : P s l + l.length = s.length := by have := h.length_le; unfold P; omega
theorem sfx_get (h : l <:+ s) (k : Nat) : s[P s l + k]? = l[k]? := by
 obtain ⟨X, rfl⟩ := h
 have : P (X ++ l) l = X.length := by simp [P]
 rw [this, List.getElem?_append_right (by omega), Nat.add_sub_cancel_left]
theorem sfx_at (h : l <:+ s) (k : Nat) : at? s ((P s l + k : Nat) : Int) = l[k]? := by rw [at?_nat, sfx_get h]
theorem sfx_at0 (h : l <:+ s) : at? s ((P s l : Nat) : Int) = l[0]? := sfx_at h 0
theorem sfx_lt (h : l <:+ s) (k : Nat) : decide (((P s l + k : Nat) : Int) < len s) = decide (k < l.length) := by
 have := P_add h
 unfold len
 congr 1
 apply propext
 omega
theorem sfx_lt0 (h : l <:+ s) : decide (((P s l : Nat) : Int) < len s) = (l != []) := by
 have := sfx_lt h 0
 rw [Nat.add_zero] at this
 rw [this]
 cases l <;> rfl
theorem sfx_ge (h : l <:+ s) : decide (len s ≤ ((P s l : Nat) : Int)) = (l == []) := by
 have h1 := P_add h
 unfold len
 cases l with
 | nil => rw [decide_eq_true (by simp at h1; omega)]; rfl
 | cons c r => rw [decide_eq_false (by simp at h1; omega)]; rfl
theorem sfx_tail (h : c :: r <:+ s) : r <:+ s := (List.suffix_cons c r).trans h
theorem P_tail (h : c :: r <:+ s) : P s r = P s (c :: r) + 1 := by
 have h1 := P_add h
 have h2 := P_add (sfx_tail h)
 simp at h1
 omega
theorem P_le (s l : B) : P s l ≤ s.length := Nat.sub_le _ _
theorem wrapP (hs : s.length ≤ 3000) (l : B) (k : Nat) (hk : k ≤ 10) : IntKind.i64.wrap (((P s l : Nat) : Int) + (k : Int)) = ((P s l + k : Nat) : Int) := by
 have := P_le s l
 rw [wrap_id (by omega) (by omega)]; omega
theorem wrapP1 (hs : s.length ≤ 3000) (l : B) : IntKind.i64.wrap (((P s l : Nat) : Int) + 1) = ((P s l + 1 : Nat) : Int) := wrapP hs l 1 (by decide)
theorem wrapP2 (hs : s.length ≤ 3000) (l : B) : IntKind.i64.wrap (((P s l : Nat) : Int) + 2) = ((P s l + 2 : Nat) : Int) := wrapP hs l 2 (by decide)
theorem wrapP3 (hs : s.length ≤ 3000) (l : B) : IntKind.i64.wrap (((P s l : Nat) : Int) + 3) = ((P s l + 3 : Nat) : Int) := wrapP hs l 3 (by decide)
theorem sfx_part (h : l <:+ s) (h2 : r <:+ l) : part? s ((P s l : Nat) : Int) ((P s r : Nat) : Int) = some (l.take (l.length - r.length)) := by
 have h1 := P_add h
 have h3 := P_add (h2.trans h)
 have h4 := h2.length_le
 rw [part?_nat (by omega) (by omega)]
 obtain ⟨X, rfl⟩ := h
 have : P (X ++ l) l = X.length := by simp [P]
 rw [this, List.drop_left, show P (X ++ l) r - X.length = l.length - r.length by omega]
end
/-! bytes -/
def hexV (c : UInt8) : Int := bif decide (48 ≤ c) && decide (c ≤ 57) then ((c - 48).toNat : Int) else bif decide (97 ≤ c) && decide (c ≤ 102) then ((c - 97).toNat : Int) + 10 else bif decide (65 ≤ c) && decide (c ≤ 70) then ((c - 65).toNat : Int) + 10 else -1
def stopB (c : UInt8) : Bool := decide (c < 33) || decide (126 < c) || c == 47 || c == 64 || c == 63 || c == 35 || c == 38 || c == 61
def hexB (c d : UInt8) : UInt8 := UInt8.ofNat (16 * (hexV c).toNat + (hexV d).toNat)
theorem hexV_ge (c : UInt8) : -1 ≤ hexV c ∧ hexV c ≤ 15 := by
 have := all8 (p := fun c => decide (-1 ≤ hexV c) && decide (hexV c ≤ 15)) (by decide +kernel) c
 simpa using this
theorem hex_sum (c d : UInt8) (h1 : ¬ hexV c < 0) (h2 : ¬ hexV d < 0) : IntKind.u8.wrap (IntKind.i64.wrap (IntKind.i64.wrap (16 * hexV c) + hexV d)) = ((hexB c d).toNat : Int) := by
 have a := hexV_ge c
 have b := hexV_ge d
 obtain ⟨x, hx⟩ : ∃ x : Nat, hexV c = x := ⟨(hexV c).toNat, by omega⟩
 obtain ⟨y, hy⟩ : ∃ y : Nat, hexV d = y := ⟨(hexV d).toNat, by omega⟩
 have hx2 : x < 16 := by omega
 have hy2 : y < 16 := by omega
 unfold hexB
 rw [hx, hy]
 have key : ∀ x : Fin 16, ∀ y : Fin 16, IntKind.u8.wrap (IntKind.i64.wrap (IntKind.i64.wrap (16 * ((x.val : Nat) : Int)) + ((y.val : Nat) : Int))) = ((UInt8.ofNat (16 * ((x.val : Nat) : Int).toNat + ((y.val : Nat) : Int).toNat)).toNat : Int) := by decide +kernel
 exact key ⟨x, hx2⟩ ⟨y, hy2⟩
/-! what the program's reader does: the value, what is left, and where it failed -/
inductive Oct where
 | stop
 | bad (e : B)
 | byte (c : UInt8) (r : B)
def octL : B → Oct
 | [] => .stop
 | c :: r => bif c == 37 then (match r with
     | [] => .bad []
     | d :: r1 => bif decide (hexV d < 0) then .bad (d :: r1) else (match r1 with
       | [] => .bad []
       | e :: r2 => bif decide (hexV e < 0) then .bad (e :: r2) else .byte (hexB d e) r2)) else bif stopB c then .stop else .byte c r
theorem octL_sfx {l : B} : (∀ e, octL l = .bad e → e <:+ l) ∧ ∀ c r, octL l = .byte c r → r <:+ l ∧ r.length < l.length := by
 unfold octL
 split
 ·exact ⟨fun e h => (by cases h), fun c r h => (by cases h)⟩
 ·rename_i c r
  cases h0 : (c == 37) with
  | false =>
    simp only [cond_false]
    cases stopB c with
    | true => exact ⟨fun e h => (by cases h), fun c r h => (by cases h)⟩
    | false => exact ⟨fun e h => (by cases h), fun c r h => by cases h; exact ⟨List.suffix_cons _ _, by simp⟩⟩
  | true =>
    simp only [cond_true]
    split
    ·exact ⟨fun e h => by cases h; exact List.nil_suffix, fun c r h => (by cases h)⟩
    ·rename_i d r1
     cases decide (hexV d < 0) with
     | true => exact ⟨fun e h => by cases h; exact List.suffix_cons _ _, fun c r h => (by cases h)⟩
     | false =>
       simp only [cond_false]
       split
       ·exact ⟨fun e h => by cases h; exact List.nil_suffix, fun c r h => (by cases h)⟩
       ·rename_i e r2
        cases decide (hexV e < 0) with
        | true => exact ⟨fun e h => by cases h; exact (List.suffix_cons _ _).trans (List.suffix_cons _ _), fun c r h => (by cases h)⟩
        | false => exact ⟨fun e h => (by cases h), fun c r h => by cases h; exact ⟨(List.suffix_cons _ _).trans ((List.suffix_cons _ _).trans (List.suffix_cons _ _)), by simp; omega⟩⟩
def partGo : Nat → B → B × B × Option B
 | 0, l => ([], l, none)
 | k + 1, l => match octL l with
   | .stop => ([], l, none)
   | .bad e => ([], l, some e)
   | .byte c r => (c :: (partGo k r).1, (partGo k r).2)
def orE (e : Option B) (r : B) : Option B := match e with
 | none => some r
 | some e => some e
def partL (l : B) : B × B × Option B := ((partGo (l.length + 1) l).1, (partGo (l.length + 1) l).2.1, bif (partGo (l.length + 1) l).1 == [] then orE (partGo (l.length + 1) l).2.2 (partGo (l.length + 1) l).2.1 else (partGo (l.length + 1) l).2.2)
theorem partGo_sfx : ∀ (k : Nat) (l : B), (partGo k l).2.1 <:+ l ∧ (partGo k l).1.length + (partGo k l).2.1.length ≤ l.length ∧ ∀ e, (partGo k l).2.2 = some e → e <:+ l
 | 0, l => ⟨List.suffix_refl _, by simp [partGo], fun e h => (by cases h)⟩
 | k + 1, l => by
   unfold partGo
   have ho := octL_sfx (l := l)
   split
   ·exact ⟨List.suffix_refl _, by simp, fun e h => (by cases h)⟩
   ·rename_i e he
    exact ⟨List.suffix_refl _, by simp, fun e' h => by cases h; exact ho.1 _ he⟩
   ·rename_i c r hr
    obtain ⟨h1, h2⟩ := ho.2 c r hr
    obtain ⟨i1, i2, i3⟩ := partGo_sfx k r
    exact ⟨i1.trans h1, by simp only [List.length_cons]; omega, fun e h => (i3 e h).trans h1⟩
theorem partL_sfx (l : B) : (partL l).2.1 <:+ l ∧ (partL l).1.length + (partL l).2.1.length ≤ l.length ∧ ∀ e, (partL l).2.2 = some e → e <:+ l := by
 obtain ⟨h1, h2, h3⟩ := partGo_sfx (l.length + 1) l
 refine ⟨h1, h2, fun e h => ?_⟩
 unfold partL at h
 simp only at h
 cases hc : ((partGo (l.length + 1) l).1 == []) with
 | false => rw [hc] at h; exact h3 e h
 | true =>
   rw [hc] at h
   simp only [cond_true] at h
   cases he : (partGo (l.length + 1) l).2.2 with
   | none => rw [he] at h; cases h; exact h1
   | some e' => rw [he] at h; cases h; exact h3 _ he
/-- A part that is read has bytes. -/
theorem partL_some {l : B} (h : (partL l).2.2 = none) : (partL l).1 ≠ [] := by
 intro h0
 unfold partL at h h0
 simp only at h h0
 rw [h0] at h
 simp only [beq_self_eq_true, cond_true] at h
 cases he : (partGo (l.length + 1) l).2.2 <;> rw [he] at h <;> cases h
def partsGo : Nat → B → List B × B × Option B
 | 0, l => ([], l, some l)
 | k + 1, l => match (partL l).2.2, (partL l).2.1 with
   | none, c :: r => bif c == 47 then ((partL l).1 :: (partsGo k r).1, (partsGo k r).2) else ([(partL l).1], c :: r, none)
   | e, r => ([(partL l).1], r, e)
def partsL (l : B) : List B × B × Option B := partsGo (l.length + 1) l
def preL : B → B → B ⊕ B
 | [], l => .inl l
 | p :: ps, d :: l => bif low d == p then preL ps l else .inr (d :: l)
 | _ :: _, [] => .inr []
def kindL (l : B) : B × B × Option B :=
 match l.takeWhile letB, l.dropWhile letB with
 | k :: ks, c :: r => bif c == 47 then (smallS (k :: ks), r, none) else ([], c :: r, some (c :: r))
 | _, r => ([], r, some r)
def headL (l : B) : B × B × Option B := match preL [112, 107, 103, 58] l with
 | .inl r => kindL r
 | .inr e => ([], l, some e)
def nameWhile : B → B
 | [] => []
 | c :: r => bif nameB c true then c :: r.takeWhile (nameB · false) else []
def nameRest : B → B
 | [] => []
 | c :: r => bif nameB c true then r.dropWhile (nameB · false) else c :: r
def qualL (l : B) : Gt.Pair × B × Option B := match nameWhile l, nameRest l with
 | k :: ks, c :: r => bif c == 61 then (⟨k :: ks, (partL r).1⟩, (partL r).2) else (⟨[], []⟩, c :: r, some (c :: r))
 | _, r => (⟨[], []⟩, r, some r)
def qualsGo : Nat → UInt8 → B → List Gt.Pair × B × Option B
 | 0, _, l => ([], l, some l)
 | _ + 1, _, [] => ([], [], none)
 | k + 1, sg, c :: l => bif c == sg then (match (qualL l).2.2 with
     | none => ((qualL l).1 :: (qualsGo k 38 (qualL l).2.1).1, (qualsGo k 38 (qualL l).2.1).2)
     | some e => ([(qualL l).1], (qualL l).2.1, some e)) else ([], c :: l, none)
end Pe.Tryd
end
section
/- The canonical form of a right name is right, and its own canonical form. -/
set_option maxRecDepth 100000
namespace Pe.Tryd
open Go Go.Proofs Pe Pe.Told
/-! splitting, plainly -/
def consHd (b : UInt8) : List B → List B
 | [] => [[b]]
 | x :: r => (b :: x) :: r
def splitP (c : UInt8) : B → List B
 | [] => [[]]
 | b :: l => bif b == c then [] :: splitP c l else consHd b (splitP c l)
theorem splitK_P (c : UInt8) : ∀ s : B, Lib.splitK [c] 0 (s.count c) s = splitP c s
 | [] => rfl
 | b :: l => by
   have ih := splitK_P c l
   by_cases h : b = c
   ·subst h
    have hix : Lib.index (b :: l) [b] = 0 := by rw [Lib.index]; simp [List.isPrefixOf]
    rw [List.count_cons_self, Lib.splitK, hix]
    simp [splitP, ih]
   ·have hp : ([c] : List UInt8).isPrefixOf (b :: l) = false := by simp [List.isPrefixOf, Ne.symm h]
    have hix : Lib.index (b :: l) [c] = if Lib.index l [c] == -1 then -1 else Lib.index l [c] + 1 := by rw [Lib.index, hp]; simp
    have hb : (b == c) = false := by simpa using h
    rw [List.count_cons_of_ne h]
    simp only [splitP, hb, cond_false]
    rw [← ih]
    cases hk : l.count c with
    | zero => rfl
    | succ k =>
      rw [Lib.splitK, Lib.splitK, hix]
      by_cases hm : Lib.index l [c] = -1
      ·simp [hm, consHd]
      ·have hge := Lib.index_ge l [c]
       obtain ⟨j, hj⟩ : ∃ j : Nat, Lib.index l [c] = j := ⟨(Lib.index l [c]).toNat, by omega⟩
       rw [if_neg (fun e => hm (beq_iff_eq.1 e)), hj]
       have e1 : ((((j : Nat) : Int) + 1 == -1) = false) := by rw [beq_eq_false_iff_ne]; omega
       have e2 : ((((j : Nat) : Int) == -1) = false) := by rw [beq_eq_false_iff_ne]; omega
       rw [e1, e2]
       rw [show (((j : Nat) : Int) + 1).toNat = j + 1 by omega, show (((j : Nat) : Int)).toNat = j by omega]
       simp [consHd]
theorem splitS_P (c : UInt8) (s : B) : splitS c s = splitP c s := by
 unfold splitS
 rw [Lib.splitB_data]
 have e : Lib.countB ⟨s.toArray⟩ ⟨#[c]⟩ = s.count c := Lib.count_one c s
 rw [e]
 exact splitK_P c s
theorem splitP_ne (c : UInt8) : ∀ s : B, splitP c s ≠ []
 | [] => by simp [splitP]
 | b :: l => by
   unfold splitP
   cases (b == c) with
   | true => simp
   | false => cases h : splitP c l <;> simp [consHd]
theorem join_cons2 (x y : B) (ys : List B) (sep : B) : Lib.join (x :: y :: ys) sep = x ++ (sep ++ Lib.join (y :: ys) sep) := by
 rw [Lib.join_cons, Lib.join_cons]
 simp [Lib.joinTail]
theorem join_splitP (c : UInt8) : ∀ s : B, Lib.join (splitP c s) [c] = s
 | [] => by simp [splitP, Lib.join_one]
 | b :: l => by
   have ih := join_splitP c l
   have hn := splitP_ne c l
   unfold splitP
   obtain ⟨x, r, hx⟩ : ∃ x r, splitP c l = x :: r := by cases h : splitP c l with | nil => exact absurd h hn | cons x r => exact ⟨x, r, rfl⟩
   rw [hx] at ih ⊢
   cases hb : (b == c) with
   | true =>
     obtain rfl : b = c := by simpa using hb
     simp only [cond_true]
     rw [join_cons2, ih]; rfl
   | false =>
     simp only [cond_false, consHd]
     rw [Lib.join_cons] at ih ⊢
     rw [List.cons_append, ih]
theorem segs_join (s : B) : Lib.join (segs s) [47] = s := by
 unfold segs
 cases h : (s == []) with
 | true => obtain rfl : s = [] := by simpa using h
           rfl
 | false => simp only [cond_false]; rw [splitS_P, join_splitP]
theorem segs_ne {s : B} (h : s ≠ []) : segs s ≠ [] := by
 unfold segs
 rw [show (s == []) = false by simpa using h]
 simp only [cond_false]
 rw [splitS_P]
 exact splitP_ne _ _
/-! small letters, dashes -/
theorem low_low (c : UInt8) : low (low c) = low c := eq8 (f := fun c => low (low c)) (g := low) (by decide +kernel) c
theorem low_47 (c : UInt8) : (low c == 47) = (c == 47) := eq8 (f := fun c => (low c == 47)) (g := fun c => (c == 47)) (by decide +kernel) c
theorem low_ctl (c : UInt8) : ctl (low c) = ctl c := eq8 (f := fun c => ctl (low c)) (g := ctl) (by decide +kernel) c
theorem low_dash (c : UInt8) : isDash (low c) = isDash c := eq8 (f := fun c => isDash (low c)) (g := isDash) (by decide +kernel) c
theorem small_small (s : B) : smallS (smallS s) = smallS s := by simp [smallS, low_low]
theorem small_nil (s : B) : (smallS s == []) = (s == []) := by cases s <;> rfl
theorem small_ctl (s : B) : (smallS s).any ctl = s.any ctl := by
 unfold smallS
 rw [List.any_map]
 congr 1
 funext c
 exact low_ctl c
theorem dash_small : ∀ (b : Bool) (s : B), smallS (dashS b s) = dashS b (smallS s)
 | _, [] => rfl
 | b, c :: r => by
   have h1 := dash_small true r; have h2 := dash_small false r
   simp only [smallS, List.map_cons] at h1 h2 ⊢
   unfold dashS
   rw [low_dash]
   cases isDash c with
   | true => cases b <;> simp [h1, show low 45 = 45 from rfl]
   | false => simp [h2]
theorem dash_dash : ∀ (b : Bool) (s : B), dashS b (dashS b s) = dashS b s
 | _, [] => rfl
 | b, c :: r => by
   have h1 := dash_dash true r; have h2 := dash_dash false r
   rw [dashS]
   cases hc : isDash c with
   | true =>
     cases b with
     | true => simp only [cond_true, List.nil_append, h1]
     | false => simp only [cond_true, cond_false, List.cons_append, List.nil_append, dashS, show isDash 45 = true from rfl, h1]
   | false => simp only [cond_false, dashS, hc, h2]
theorem dash_nil (s : B) : (dashS false s == []) = (s == []) := by
 cases s with
 | nil => rfl
 | cons c r => unfold dashS; cases isDash c <;> rfl
theorem dash_mem : ∀ (b : Bool) (s : B) (x : UInt8), x ∈ dashS b s → x = 45 ∨ x ∈ s
 | _, [], x, h => by cases h
 | b, c :: r, x, h => by
   unfold dashS at h
   cases hc : isDash c with
   | true =>
     rw [hc] at h
     simp only [cond_true, List.mem_append] at h
     rcases h with h | h
     ·left
      cases b with
      | true => cases h
      | false => simpa using h
     ·rcases dash_mem true r x h with h | h
      ·exact .inl h
      ·exact .inr (List.mem_cons_of_mem _ h)
   | false =>
     rw [hc] at h
     simp only [cond_false, List.mem_cons] at h
     rcases h with rfl | h
     ·exact .inr (List.mem_cons_self ..)
     ·rcases dash_mem false r x h with h | h
      ·exact .inl h
      ·exact .inr (List.mem_cons_of_mem _ h)
theorem dash_any {p : UInt8 → Bool} (hp : p 45 = false) {b : Bool} {s : B} (h : s.any p = false) : (dashS b s).any p = false := by
 rw [List.any_eq_false] at *
 intro x hx
 rcases dash_mem b s x hx with rfl | h2
 ·simp [hp]
 ·exact h x h2
theorem index_any (c : UInt8) : ∀ s : B, decide (0 ≤ Lib.indexByte s c) = s.any (· == c)
 | [] => rfl
 | b :: l => by
   have ih := index_any c l
   have hge := Lib.indexByte_ge l c
   unfold Lib.indexByte
   rw [List.any_cons, ← ih]
   cases hb : (b == c) with
   | true => simp
   | false =>
     simp only [Bool.false_or, Bool.false_eq_true, if_false]
     by_cases h : Lib.indexByte l c = -1
     ·rw [if_pos (by simpa using h), h]
     ·rw [if_neg (by simpa using h), decide_eq_true (by omega), decide_eq_true (by omega)]
theorem consHd_map (g : UInt8 → UInt8) (b : UInt8) (l : List B) : consHd (g b) (l.map (List.map g)) = (consHd b l).map (List.map g) := by cases l <;> rfl
theorem split_small : ∀ s : B, splitP 47 (smallS s) = (splitP 47 s).map smallS
 | [] => rfl
 | c :: r => by
   have ih := split_small r
   simp only [smallS, List.map_cons] at ih ⊢
   unfold splitP
   rw [low_47, ih]
   cases (c == 47) with
   | true => simp [smallS]
   | false => exact consHd_map low c _
theorem segs_small (s : B) : segs (smallS s) = (segs s).map smallS := by
 unfold segs
 rw [small_nil]
 cases (s == []) with
 | true => rfl
 | false => simp only [cond_false]; rw [splitS_P, splitS_P, split_small]
theorem path_small (s : B) : pathBad (segs (smallS s)) false = pathBad (segs s) false := by
 rw [segs_small]
 unfold pathBad
 have : ((segs s).map smallS).any (segBad false) = (segs s).any (segBad false) := by
  rw [List.any_map]
  congr 1
  funext x
  simp only [Function.comp_def, segBad, small_nil, cond_false]
 have h2 : len ((segs s).map smallS) = len (segs s) := by simp [len]
 rw [this]
 simp only [h2]
/-! the check -/
theorem check_zero {p : Gt.Purl} : checkS p = 0 ↔ (ruleR p.kind).2.1 = 0 ∧ longS p = false ∧ spaceBad (ruleR p.kind).1 p = false ∧ pathBad (segs p.space) false = false ∧ nameBad p = false ∧ qE p.qualifiers = 0 ∧ pathBad (segs p.sub) true = false ∧ ctl4 p = false ∧ ctlQ p = false := by
 unfold checkS
 generalize (ruleR p.kind).2.1 = a
 generalize spaceBad (ruleR p.kind).1 p = b
 generalize pathBad (segs p.space) false = c
 generalize pathBad (segs p.sub) true = d
 generalize qE p.qualifiers = e
 by_cases ha : a = 0
 ·subst ha
  by_cases he : e = 0
  ·subst he
   cases longS p <;> cases b <;> cases c <;> cases nameBad p <;> cases d <;> cases ctl4 p <;> cases ctlQ p <;> simp
  ·have : (e != 0) = true := by simpa using he
   rw [this]
   cases longS p <;> cases b <;> cases c <;> cases nameBad p <;> simp [he]
 ·have : (a != 0) = true := by simpa using ha
  rw [this]
  simp [ha]
theorem big_of {s : B} (h : s.length ≤ 200) : big s = false := decide_eq_false (by unfold len; omega)
theorem long_tiny {p : Gt.Purl} (T : Tiny p) : longS p = false := by
 unfold longS
 rw [show (four p).any big = false by simp [four, big_of T.space, big_of T.name, big_of T.version, big_of T.sub]]
 simp only [cond_false]
 rw [show p.qualifiers.any longQ = false by
  rw [List.any_eq_false]
  intro q hq
  have := T.each q hq
  simp [longQ, big_of this.1, big_of this.2]]
 simp only [cond_false]
 exact decide_eq_false (by have := T.quals; unfold len; omega)
theorem canon_name (p : Gt.Purl) {pr : UInt8 → Bool} (h45 : pr 45 = false) (hl : ∀ c, pr (low c) = pr c) (h : p.name.any pr = false) : (canonS p).name.any pr = false := by
 have hs : (smallS p.name).any pr = false := by
  unfold smallS
  rw [List.any_map, ← h]
  congr 1
  funext c
  exact hl c
 unfold canonS
 cases (ruleR p.kind).1.small <;> cases (ruleR p.kind).1.dashes
 ·exact h
 ·exact dash_any h45 h
 ·exact hs
 ·exact dash_any h45 hs
theorem check_canon {p : Gt.Purl} (h : checkS p = 0) : checkS (canonS p) = 0 := by
 have T := check_tiny h
 rw [check_zero] at h ⊢
 obtain ⟨h1, h2, h3, h4, h5, h6, h7, h8, h9⟩ := h
 have hsp : ((canonS p).space == []) = (p.space == []) := by
  unfold canonS
  cases (ruleR p.kind).1.small
  ·rfl
  ·exact small_nil _
 have hna : ((canonS p).name == []) = (p.name == []) := by
  unfold canonS
  cases (ruleR p.kind).1.small <;> cases (ruleR p.kind).1.dashes
  ·rfl
  ·exact dash_nil _
  ·exact small_nil _
  ·exact (dash_nil _).trans (small_nil _)
 refine ⟨h1, long_tiny (tiny_canon T), ?_, ?_, ?_, h6, h7, ?_, h9⟩
 ·have e : spaceBad (ruleR (canonS p).kind).1 (canonS p) = spaceBad (ruleR p.kind).1 p := by
   unfold spaceBad
   rw [show ((canonS p).space != []) = (p.space != []) from congrArg (!·) hsp, hsp]
   rfl
  rw [e]; exact h3
 ·unfold canonS
  cases (ruleR p.kind).1.small
  ·exact h4
  ·exact (path_small _).trans h4
 ·unfold nameBad at h5 ⊢
  rw [hna, index_any]
  rw [index_any] at h5
  cases hn : (p.name == []) with
  | true => rw [hn] at h5; cases h5
  | false =>
    rw [hn] at h5
    exact canon_name p rfl (fun c => low_47 c) h5
 ·unfold ctl4 four at h8 ⊢
  simp only [List.any_cons, List.any_nil, Bool.or_false, Bool.or_eq_false_iff] at h8 ⊢
  refine ⟨?_, canon_name p rfl low_ctl h8.2.1, h8.2.2⟩
  unfold canonS
  cases (ruleR p.kind).1.small
  ·exact h8.1
  ·exact (small_ctl _).trans h8.1
theorem canon_canon (p : Gt.Purl) : canonS (canonS p) = canonS p := by
 unfold canonS
 cases (ruleR p.kind).1.small <;> cases (ruleR p.kind).1.dashes <;> simp [small_small, dash_small, dash_dash]
end Pe.Tryd
end
section
/- What is printed of a right canonical name is read as that name. -/
set_option maxRecDepth 100000
namespace Pe.Tryd
open Go Go.Proofs Pe Pe.Told
/-! the reader, plainly -/
def verL (l : B) : B × B × Option B := match l with
 | [] => ([], [], none)
 | c :: r => bif c == 64 then partL r else ([], c :: r, none)
def subL (l : B) : B × B × Option B := match l with
 | [] => ([], [], none)
 | c :: r => bif c == 35 then (Lib.join (partsL r).1 [47], (partsL r).2) else ([], c :: r, none)
def qualsL (l : B) : List Gt.Pair × B × Option B := qualsGo (l.length + 1) 63 l
/-- Go on where nothing has failed. -/
def bnd {α β : Type} (x : α × B × Option B) (k : α → B → B ⊕ β) : B ⊕ β := match x.2.2 with
 | some e => .inl e
 | none => k x.1 x.2.1
theorem bnd_none {α β : Type} (a : α) (r : B) (k : α → B → B ⊕ β) : bnd (a, r, none) k = k a r := rfl
def endL (l : B) (p : Gt.Purl) : B ⊕ Gt.Purl := match l with
 | [] => .inr p
 | c :: r => .inl (c :: r)
def readN (l : B) : B ⊕ Gt.Purl :=
 bnd (headL l) fun k r => bnd (partsL r) fun ps r => bnd (verL r) fun v r => bnd (qualsL r) fun qs r => bnd (subL r) fun sb r =>
  endL r ⟨k, Lib.join ps.dropLast [47], ps.getLastD [], v, qs, sb⟩
def insQ (q : Q) : List Q → List Q
 | [] => [q]
 | a :: r => bif ltQ q a then q :: a :: r else a :: insQ q r
def sortQ : List Q → List Q
 | [] => []
 | q :: r => insQ q (sortQ r)
def dupQ (l : List Q) : Bool := !decide (l.map (·.name)).Nodup
def srtP (p : Gt.Purl) : Gt.Purl := ⟨p.kind, p.space, p.name, p.version, sortQ p.qualifiers, p.sub⟩
abbrev purl0 : Gt.Purl := ⟨[], [], [], [], [], []⟩
def topS (p : Gt.Purl) : Gt.Purl × Int × Int × Unit :=
 bif dupQ p.qualifiers then (purl0, 0, 5, ()) else bif checkS (srtP p) != 0 then (purl0, 0, checkS (srtP p), ()) else (canonS (srtP p), 0, 0, ())
def readS (s : B) : Gt.Purl × Int × Int × Unit := bif decide (3000 < len s) then (purl0, 0, 3, ()) else match readN s with
 | .inl e => (purl0, ((P s e : Nat) : Int), 6, ())
 | .inr p => topS p
/-! the order of the qualifiers -/
theorem ins_perm (q : Q) : ∀ l : List Q, (insQ q l).Perm (q :: l)
 | [] => List.Perm.refl _
 | a :: r => by
   unfold insQ
   cases ltQ q a with
   | true => exact List.Perm.refl _
   | false => exact ((ins_perm q r).cons a).trans (List.Perm.swap q a r)
theorem ins_srt (q : Q) : ∀ l : List Q, Srt ltQ l → Srt ltQ (insQ q l)
 | [], _ => by simp [insQ, Srt]
 | a :: r, h => by
   obtain ⟨h1, h2⟩ := List.pairwise_cons.1 h
   unfold insQ
   cases hq : ltQ q a with
   | true =>
     refine List.pairwise_cons.2 ⟨fun x hx => ?_, h⟩
     rcases List.mem_cons.1 hx with rfl | hx
     ·exact woQ.asym _ _ hq
     ·exact woQ.trans _ _ _ (woQ.asym _ _ hq) (h1 x hx)
   | false =>
     refine List.pairwise_cons.2 ⟨fun x hx => ?_, ins_srt q r h2⟩
     rcases List.mem_cons.1 ((ins_perm q r).mem_iff.1 hx) with rfl | hx
     ·exact hq
     ·exact h1 x hx
theorem sort_perm : ∀ l : List Q, (sortQ l).Perm l
 | [] => List.Perm.refl _
 | q :: r => (ins_perm q _).trans ((sort_perm r).cons q)
theorem sort_srt : ∀ l : List Q, Srt ltQ (sortQ l)
 | [] => by simp [sortQ, Srt]
 | q :: r => ins_srt q _ (sort_srt r)
theorem lt_total {a b : Q} (h1 : ltQ a b = false) (h2 : ltQ b a = false) : a.name = b.name := by
 unfold ltQ at h1 h2
 rw [bytesLess_eq] at h1 h2
 exact List.le_antisymm (of_decide_eq_false h2) (of_decide_eq_false h1)
theorem nd_perm {a b : List Q} (h : a.Perm b) : (a.map (·.name)).Nodup ↔ (b.map (·.name)).Nodup := (h.map (·.name)).nodup_iff
theorem nd_inj {l : List Q} (h : (l.map (·.name)).Nodup) {x y : Q} (hx : x ∈ l) (hy : y ∈ l) (e : x.name = y.name) : x = y := by
 induction l with
 | nil => cases hx
 | cons a r ih =>
   obtain ⟨h1, h2⟩ := List.nodup_cons.1 (show (a.name :: r.map (·.name)).Nodup from h)
   rcases List.mem_cons.1 hx with rfl | hx'
   ·rcases List.mem_cons.1 hy with rfl | hy'
    ·rfl
    ·exact absurd (List.mem_map.2 ⟨y, hy', e.symm⟩) h1
   ·rcases List.mem_cons.1 hy with rfl | hy'
    ·exact absurd (List.mem_map.2 ⟨x, hx', e⟩) h1
    ·exact ih h2 hx' hy'
theorem srt_unique : ∀ {a b : List Q}, Srt ltQ a → Srt ltQ b → a.Perm b → (a.map (·.name)).Nodup → a = b
 | [], b, _, _, h, _ => (h.nil_eq)
 | x :: a, [], _, _, h, _ => by have := h.length_eq; simp at this
 | x :: a, y :: b, ha, hb, h, hn => by
   have hx : x ∈ y :: b := h.mem_iff.1 (List.mem_cons_self ..)
   have hy : y ∈ x :: a := h.mem_iff.2 (List.mem_cons_self ..)
   have hxy : x = y := by
    rcases List.mem_cons.1 hx with rfl | hx'
    ·rfl
    ·rcases List.mem_cons.1 hy with rfl | hy'
     ·rfl
     ·exact nd_inj hn (List.mem_cons_self ..) hy (lt_total ((List.pairwise_cons.1 hb).1 x hx') ((List.pairwise_cons.1 ha).1 y hy'))
   subst hxy
   rw [srt_unique (List.pairwise_cons.1 ha).2 (List.pairwise_cons.1 hb).2 ((List.perm_cons x).1 h) (List.nodup_cons.1 (show (x.name :: a.map (·.name)).Nodup from hn)).2]
theorem sort_of {a b : List Q} (h : Srt ltQ a) (hp : a.Perm b) (hn : (b.map (·.name)).Nodup) : a = sortQ b :=
 srt_unique h (sort_srt b) (hp.trans (sort_perm b).symm) ((nd_perm hp).2 hn)
/-! names that ascend -/
theorem asc_of : ∀ {l : List Q}, (∀ k, (h : k + 1 < l.length) → ltQ l[k] l[k + 1] = true) → l.Pairwise fun a b => ltQ a b = true
 | [], _ => List.Pairwise.nil
 | [a], _ => by simp
 | a :: b :: r, h => by
   have h0 := h 0 (by simp)
   simp only [List.getElem_cons_zero, List.getElem_cons_succ] at h0
   have ih := asc_of (l := b :: r) fun k hk => by have := h (k + 1) (by simpa using hk); simpa using this
   refine List.pairwise_cons.2 ⟨fun x hx => ?_, ih⟩
   rcases List.mem_cons.1 hx with rfl | hx
   ·exact h0
   ·have h1 := (List.pairwise_cons.1 ih).1 x hx
    unfold ltQ at *
    rw [bytesLess_eq] at *
    exact decide_eq_true (List.lt_trans (of_decide_eq_true h0) (of_decide_eq_true h1))
theorem asc_srt {l : List Q} (h : l.Pairwise fun a b => ltQ a b = true) : Srt ltQ l ∧ (l.map (·.name)).Nodup := by
 refine ⟨List.Pairwise.imp (fun h => woQ.asym _ _ h) h, ?_⟩
 unfold List.Nodup
 rw [List.pairwise_map]
 refine List.Pairwise.imp (fun {a b} h => ?_) h
 intro e
 unfold ltQ at h
 rw [e, bytesLess_eq] at h
 exact List.lt_irrefl _ (of_decide_eq_true h)
theorem qE_each {l : List Q} (h : qE l = 0) {q : Q} (hq : q ∈ l) : nameS q.name = true ∧ q.value ≠ [] := by
 obtain ⟨k, hk, rfl⟩ := List.getElem_of_mem hq
 have := ff_at (F := qF l) h hk
 unfold qF at this
 rw [getD_get pair0 hk] at this
 cases h1 : nameS l[k].name with
 | false => rw [h1] at this; simp at this
 | true =>
   rw [h1] at this
   refine ⟨rfl, fun h2 => ?_⟩
   rw [h2] at this
   simp at this
theorem qE_asc {l : List Q} (h : qE l = 0) : l.Pairwise fun a b => ltQ a b = true := by
 refine asc_of fun k hk => ?_
 have h1 := qE_each h (List.getElem_mem hk)
 have := ff_at (F := qF l) h hk
 unfold qF at this
 rw [getD_get pair0 hk, Nat.add_sub_cancel, getD_get pair0 (show k < l.length by omega), h1.1, show (l[k + 1].value == []) = false by simpa using h1.2, decide_eq_true (show (0 : Int) < ((k + 1 : Nat) : Int) by omega)] at this
 simp only [Bool.not_true, cond_false, Bool.true_and] at this
 cases h3 : (Op.bytesLess l[k + 1].name l[k].name || (l[k + 1].name == l[k].name)) with
 | true => rw [h3] at this; simp at this
 | false =>
   rw [Bool.or_eq_false_iff] at h3
   cases h4 : ltQ l[k] l[k + 1] with
   | true => rfl
   | false => have := lt_total (a := l[k + 1]) (b := l[k]) h3.1 h4; rw [this] at h3; simp at h3
/-! what stops a part -/
def Hd (cs : List UInt8) (r : B) : Prop := r = [] ∨ ∃ c t, r = c :: t ∧ c ∈ cs
theorem Hd.imp {cs ds : List UInt8} {r : B} (h : Hd cs r) (hs : ∀ c ∈ cs, c ∈ ds) : Hd ds r := by
 rcases h with h | ⟨c, t, h1, h2⟩
 ·exact .inl h
 ·exact .inr ⟨c, t, h1, hs c h2⟩
theorem octL_no37 {c : UInt8} {r : B} (h : (c == 37) = false) : octL (c :: r) = bif stopB c then .stop else .byte c r := by
 unfold octL
 simp only [h, cond_false]
theorem oct_stop {r : B} (h : Hd [47, 64, 63, 35, 38] r) : octL r = .stop := by
 rcases h with rfl | ⟨c, t, rfl, h⟩
 ·rfl
 ·have : (bif ([47, 64, 63, 35, 38] : List UInt8).contains c then (c != 37) && stopB c else true) = true := eq8 (f := fun c => bif ([47, 64, 63, 35, 38] : List UInt8).contains c then (c != 37) && stopB c else true) (g := fun _ => true) (by decide +kernel) c
  rw [show ([47, 64, 63, 35, 38] : List UInt8).contains c = true from List.contains_iff_mem.2 h] at this
  simp only [cond_true, Bool.and_eq_true] at this
  rw [octL_no37 (by simpa using this.1), this.2]; rfl
theorem oct_esc (c : UInt8) (r : B) : octL (escB c ++ r) = .byte c r := by
 unfold escB
 cases hc : plainB c with
 | true =>
   have h1 : (bif plainB c then (c == 37) else false) = false := eq8 (f := fun c => bif plainB c then (c == 37) else false) (g := fun _ => false) (by decide +kernel) c
   have h2 : (bif plainB c then stopB c else false) = false := eq8 (f := fun c => bif plainB c then stopB c else false) (g := fun _ => false) (by decide +kernel) c
   rw [hc] at h1 h2
   simp only [cond_true] at h1 h2
   simp only [cond_true, List.cons_append, List.nil_append]
   rw [octL_no37 h1, h2]; rfl
 | false =>
   have h1 : decide (hexV (digs.getD (c / 16).toNat 0) < 0) = false := eq8 (f := fun c => decide (hexV (digs.getD (c / 16).toNat 0) < 0)) (g := fun _ => false) (by decide +kernel) c
   have h2 : decide (hexV (digs.getD (c % 16).toNat 0) < 0) = false := eq8 (f := fun c => decide (hexV (digs.getD (c % 16).toNat 0) < 0)) (g := fun _ => false) (by decide +kernel) c
   have h3 : hexB (digs.getD (c / 16).toNat 0) (digs.getD (c % 16).toNat 0) = c := eq8 (f := fun c => hexB (digs.getD (c / 16).toNat 0) (digs.getD (c % 16).toNat 0)) (g := fun c => c) (by decide +kernel) c
   generalize digs.getD (c / 16).toNat 0 = d at h1 h3
   generalize digs.getD (c % 16).toNat 0 = e at h2 h3
   simp only [cond_false, List.cons_append, List.nil_append]
   unfold octL
   simp only [h1, h2, h3, show ((37 : UInt8) == 37) = true from rfl, cond_true, cond_false]
theorem esc_ge : ∀ x : B, x.length ≤ (escS x).length
 | [] => by simp
 | c :: x => by
   have := esc_ge x
   have h1 : 1 ≤ (escB c).length := by unfold escB; cases plainB c <;> simp
   simp only [escS, List.flatMap_cons, List.length_append, List.length_cons] at *; omega
theorem partGo_esc {r : B} (hr : octL r = .stop) : ∀ (x : B) (k : Nat), x.length < k → partGo k (escS x ++ r) = (x, r, none)
 | [], k + 1, _ => by
   show partGo (k + 1) r = _
   unfold partGo
   rw [hr]
 | c :: x, k + 1, h => by
   have ih := partGo_esc hr x k (by simpa using h)
   rw [show escS (c :: x) ++ r = escB c ++ (escS x ++ r) by simp [escS]]
   unfold partGo
   rw [oct_esc]
   simp only [ih]
theorem part_esc {r x : B} (hr : octL r = .stop) (hx : x ≠ []) : partL (escS x ++ r) = (x, r, none) := by
 unfold partL
 rw [partGo_esc hr x _ (by have := esc_ge x; rw [List.length_append]; omega)]
 rw [show (x == []) = false by simpa using hx]; rfl
theorem partsGo_esc {r : B} (hr : Hd [64, 63, 35] r) : ∀ (xs : List B) (k : Nat), xs ≠ [] → (∀ x ∈ xs, x ≠ []) → xs.length ≤ k → partsGo k (Lib.join (xs.map escS) [47] ++ r) = (xs, r, none)
 | [], _, h, _, _ => absurd rfl h
 | _ :: _, 0, _, _, h => by simp at h
 | [x], k + 1, _, hx, _ => by
   have hp := part_esc (r := r) (x := x) (oct_stop (hr.imp (by simp <;> omega))) (hx x (by simp))
   unfold partsGo
   rw [show Lib.join ([x].map escS) [47] = escS x from Lib.join_one _ _, hp]
   rcases hr with rfl | ⟨c, t, rfl, h⟩
   ·rfl
   ·have : (c == 47) = false := by simp only [List.mem_cons, List.not_mem_nil, or_false] at h; rcases h with rfl | rfl | rfl <;> rfl
    simp only [this, cond_false]
 | x :: y :: ys, k + 1, _, hx, hk => by
   have ih := partsGo_esc hr (y :: ys) k (by simp) (fun z hz => hx z (List.mem_cons_of_mem _ hz)) (by simpa using hk)
   have e : Lib.join ((x :: y :: ys).map escS) [47] ++ r = escS x ++ (47 :: (Lib.join ((y :: ys).map escS) [47] ++ r)) := by
    simp only [List.map_cons]
    rw [join_cons2]; simp
   have hp := part_esc (r := 47 :: (Lib.join ((y :: ys).map escS) [47] ++ r)) (x := x) (oct_stop (.inr ⟨47, _, rfl, by simp⟩)) (hx x (by simp))
   unfold partsGo
   rw [e, hp]
   simp only [show ((47 : UInt8) == 47) = true from rfl, cond_true, ih]
theorem join_ge : ∀ l : List B, l.length ≤ (Lib.join l [47]).length + 1
 | [] => by simp
 | [x] => by simp
 | x :: y :: ys => by
   have := join_ge (y :: ys)
   rw [join_cons2]
   simp only [List.length_append, List.length_cons, List.length_nil] at *; omega
theorem parts_esc {r : B} (hr : Hd [64, 63, 35] r) {xs : List B} (h1 : xs ≠ []) (h2 : ∀ x ∈ xs, x ≠ []) : partsL (Lib.join (xs.map escS) [47] ++ r) = (xs, r, none) :=
 partsGo_esc hr xs _ h1 h2 (by have := join_ge (xs.map escS); rw [List.length_map] at this; rw [List.length_append]; omega)
/-! beginning -/
theorem while_app {p : UInt8 → Bool} : ∀ {k : B} {d : UInt8} {r : B}, (∀ c ∈ k, p c = true) → p d = false → (k ++ d :: r).takeWhile p = k ∧ (k ++ d :: r).dropWhile p = d :: r
 | [], d, r, _, hd => by simp [hd]
 | c :: k, d, r, h, hd => by
   obtain ⟨h1, h2⟩ := while_app (r := r) (fun x hx => h x (List.mem_cons_of_mem _ hx)) hd
   have hc := h c (List.mem_cons_self ..)
   simp only [List.cons_append, List.takeWhile_cons, List.dropWhile_cons, hc, if_true, h1, h2]
   exact ⟨trivial, trivial⟩
theorem kind_ok {k : B} (h0 : (ruleR k).2.1 = 0) : k ≠ [] ∧ (∀ c ∈ k, letB c = true) ∧ smallS k = k := by
 unfold ruleR ruleS at h0
 by_cases h1 : dotted = k
 ·rw [← h1]; decide
 by_cases h2 : revised = k
 ·rw [← h2]; decide
 by_cases h3 : staged = k
 ·rw [← h3]; decide
 by_cases h4 : qualified = k
 ·rw [← h4]; decide
 by_cases h5 : plainK = k
 ·rw [← h5]; decide
 simp [h1, h2, h3, h4, h5] at h0
theorem pre_ok (t : B) : preL [112, 107, 103, 58] (112 :: 107 :: 103 :: 58 :: t) = .inl t := by kernel_rfl
theorem head_ok {k r : B} (h0 : (ruleR k).2.1 = 0) : headL ([112, 107, 103, 58] ++ (k ++ (47 :: r))) = (k, r, none) := by
 obtain ⟨h1, h2, h3⟩ := kind_ok h0
 obtain ⟨e1, e2⟩ := while_app (p := letB) (r := r) h2 (show letB 47 = false from rfl)
 unfold headL
 rw [show ([112, 107, 103, 58] ++ (k ++ (47 :: r)) : B) = 112 :: 107 :: 103 :: 58 :: (k ++ (47 :: r)) from rfl, pre_ok]
 simp only
 unfold kindL
 rw [e1, e2]
 cases k with
 | nil => exact absurd rfl h1
 | cons c k => simp only [show ((47 : UInt8) == 47) = true from rfl, cond_true, h3]
/-! qualifiers -/
theorem nameS_cons (c : UInt8) (cs : B) : nameS (c :: cs) = (nameB c true && cs.all (nameB · false)) := by
 unfold nameS
 have h : (List.range (c :: cs).length).any (fun k => !nameB ((c :: cs).getD k 0) ((k : Int) == 0)) = (!nameB c true || cs.any fun x => !nameB x false) := by
  rw [List.length_cons, List.range_succ_eq_map, List.any_cons, List.any_map, ← any_rangeG cs 0 (fun x => !nameB x false)]
  rfl
 rw [h, List.all_eq_not_any_not]
 cases nameB c true <;> cases cs.any (fun x => !nameB x false) <;> rfl
theorem name_while {x t : B} (h : nameS x = true) : nameWhile (x ++ 61 :: t) = x ∧ nameRest (x ++ 61 :: t) = 61 :: t ∧ x ≠ [] := by
 cases x with
 | nil => cases h
 | cons c cs =>
   rw [nameS_cons, Bool.and_eq_true, List.all_eq_true] at h
   obtain ⟨e1, e2⟩ := while_app (p := fun x => nameB x false) (r := t) (d := 61) h.2 rfl
   simp only [List.cons_append, nameWhile, nameRest, h.1, cond_true, e1, e2, true_and]
   simp
theorem qual_ok {q : Q} {r : B} (hn : nameS q.name = true) (hv : q.value ≠ []) (hr : octL r = .stop) : qualL (qS q ++ r) = (q, r, none) := by
 rw [show qS q ++ r = q.name ++ 61 :: (escS q.value ++ r) by simp [qS]]
 obtain ⟨h1, h2, h3⟩ := name_while (t := escS q.value ++ r) hn
 unfold qualL
 rw [h1, h2]
 have hp := part_esc hr hv
 obtain ⟨qn, qv⟩ := q
 simp only at *
 cases qn with
 | nil => exact absurd rfl h3
 | cons c cs => simp only [show ((61 : UInt8) == 61) = true from rfl, cond_true, hp]
def sg8 (k : Nat) : UInt8 := bif (k : Int) == 0 then 63 else 38
theorem sign_sg8 (k : Nat) : sign k = [sg8 k] := by unfold sign sg8; cases ((k : Int) == 0) <;> rfl
theorem sg8_35 (k : Nat) : ((35 : UInt8) == sg8 k) = false := by unfold sg8; cases ((k : Int) == 0) <;> rfl
theorem sg8_succ (k : Nat) : sg8 (k + 1) = 38 := by unfold sg8; rw [show ((((k + 1 : Nat) : Int)) == 0) = false by rw [beq_eq_false_iff_ne]; omega]; rfl
theorem qT_hd {r : B} (hr : Hd [35] r) (i : Nat) : ∀ l : List Q, Hd [63, 38, 35] (qT i l ++ r)
 | [] => hr.imp (by simp)
 | q :: l => .inr ⟨sg8 i, _, by rw [qT, sign_sg8]; rfl, by unfold sg8; cases ((i : Int) == 0) <;> simp⟩
theorem quals_ok {r : B} (hr : Hd [35] r) : ∀ (l : List Q) (i k : Nat), (∀ q ∈ l, nameS q.name = true ∧ q.value ≠ []) → l.length < k → qualsGo k (sg8 i) (qT i l ++ r) = (l, r, none)
 | [], i, k + 1, _, _ => by
   show qualsGo (k + 1) (sg8 i) r = _
   rcases hr with rfl | ⟨c, t, rfl, h⟩
   ·rfl
   ·obtain rfl : c = 35 := by simpa using h
    unfold qualsGo
    rw [sg8_35]; rfl
 | q :: l, i, k + 1, h, hk => by
   have ih := quals_ok hr l (i + 1) k (fun x hx => h x (List.mem_cons_of_mem _ hx)) (by simpa using hk)
   obtain ⟨a, b⟩ := h q (List.mem_cons_self ..)
   have hq := qual_ok (r := qT (i + 1) l ++ r) a b (oct_stop ((qT_hd hr (i + 1) l).imp (by simp <;> omega)))
   rw [show qT i (q :: l) ++ r = sg8 i :: (qS q ++ (qT (i + 1) l ++ r)) by rw [qT, sign_sg8]; simp]
   unfold qualsGo
   rw [sg8_succ] at ih
   simp only [beq_self_eq_true, cond_true, hq, ih]
theorem qT_ge (i : Nat) : ∀ l : List Q, l.length ≤ (qT i l).length
 | [] => by simp
 | q :: l => by
   have := qT_ge (i + 1) l
   have h := sign_len i
   simp only [qT, List.length_append, List.length_cons]; omega
/-! version, path -/
theorem path_ne {s : B} {d : Bool} (h : pathBad (segs s) d = false) : ∀ x ∈ segs s, x ≠ [] := by
 unfold pathBad at h
 cases h1 : (segs s).any (segBad d) with
 | true => rw [h1] at h; cases h
 | false =>
   intro x hx e
   subst e
   exact (List.any_eq_false.1 h1 [] hx) rfl
theorem ver_ok {v r : B} (hr : Hd [63, 35] r) : verL (verS v ++ r) = (v, r, none) := by
 unfold verS
 cases v with
 | nil =>
   rcases hr with rfl | ⟨c, t, rfl, h⟩
   ·rfl
   ·have : (c == 64) = false := by simp only [List.mem_cons, List.not_mem_nil, or_false] at h; rcases h with rfl | rfl <;> rfl
    show verL (c :: t) = _
    unfold verL
    simp only [this, cond_false]
 | cons c v =>
   show partL (escS (c :: v) ++ r) = _
   exact part_esc (oct_stop (hr.imp (by simp <;> omega))) (by simp)
theorem sub_ok {s : B} (h : pathBad (segs s) true = false) : subL (subS s) = (s, [], none) := by
 unfold subS
 cases s with
 | nil => rfl
 | cons c s =>
   have hp := parts_esc (r := []) (.inl rfl) (segs_ne (s := c :: s) (by simp)) (path_ne h)
   rw [List.append_nil] at hp
   show (Lib.join (partsL (pathS (c :: s))).1 [47], (partsL (pathS (c :: s))).2) = _
   unfold pathS
   rw [hp, segs_join]
theorem join_snoc (y : B) : ∀ l : List B, l ≠ [] → Lib.join (l ++ [y]) [47] = Lib.join l [47] ++ ([47] ++ y)
 | [], h => absurd rfl h
 | x :: r, _ => by
   rw [List.cons_append, Lib.join_cons, Lib.join_cons]
   simp [Lib.joinTail]
theorem key_parts (sp nm : B) : spaceS sp ++ escS nm = Lib.join ((segs sp ++ [nm]).map escS) [47] := by
 unfold spaceS
 cases sp with
 | nil => rw [show segs [] ++ [nm] = [nm] from rfl]; exact (Lib.join_one _ _).symm
 | cons c sp =>
   rw [List.map_append, List.map_cons, List.map_nil, join_snoc _ _ (by simpa using segs_ne (s := c :: sp) (by simp))]
   show (pathS (c :: sp) ++ [47]) ++ escS nm = _
   unfold pathS
   simp
/-- What is printed is read as it was. -/
theorem readN_text {c : Gt.Purl} (h : checkS c = 0) : readN (textS c) = .inr c := by
 rw [check_zero] at h
 obtain ⟨h1, h2, h3, h4, h5, h6, h7, h8, h9⟩ := h
 have hname : c.name ≠ [] := by intro e; unfold nameBad at h5; rw [e] at h5; cases h5
 have hsub : Hd [35] (subS c.sub) := by
  unfold subS
  cases (c.sub != []) with
  | true => exact .inr ⟨35, _, rfl, by simp⟩
  | false => exact .inl rfl
 have hq := qT_hd hsub 0 c.qualifiers
 have hq2 : Hd [63, 35] (qT 0 c.qualifiers ++ subS c.sub) := by
  cases hc : c.qualifiers with
  | nil => exact hsub.imp (by simp)
  | cons q l => exact .inr ⟨63, _, by rw [qT, sign_sg8]; rfl, by simp⟩
 have hv : Hd [64, 63, 35] (verS c.version ++ (qT 0 c.qualifiers ++ subS c.sub)) := by
  unfold verS
  cases (c.version != []) with
  | true => exact .inr ⟨64, _, rfl, by simp⟩
  | false => exact hq2.imp (by simp <;> omega)
 have e : textS c = [112, 107, 103, 58] ++ (c.kind ++ (47 :: (Lib.join ((segs c.space ++ [c.name]).map escS) [47] ++ (verS c.version ++ (qT 0 c.qualifiers ++ subS c.sub))))) := by
  rw [← key_parts]
  simp [textS, keyS, headS]
 have hps : ∀ x ∈ segs c.space ++ [c.name], x ≠ [] := by
  intro x hx
  rcases List.mem_append.1 hx with hx | hx
  ·exact path_ne h4 x hx
  ·obtain rfl : x = c.name := by simpa using hx
   exact hname
 have hql : qualsL (qT 0 c.qualifiers ++ subS c.sub) = (c.qualifiers, subS c.sub, none) :=
  quals_ok hsub c.qualifiers 0 _ (fun q hq => qE_each h6 hq) (by have := qT_ge 0 c.qualifiers; rw [List.length_append]; omega)
 unfold readN
 rw [e, head_ok h1, bnd_none, parts_esc hv (by simp) hps, bnd_none, ver_ok hq2, bnd_none, hql, bnd_none, sub_ok h7, bnd_none]
 show Sum.inr _ = _
 rw [List.dropLast_concat, List.getLastD_concat, segs_join]
theorem sort_asc {l : List Q} (h : qE l = 0) : sortQ l = l ∧ dupQ l = false := by
 obtain ⟨h1, h2⟩ := asc_srt (qE_asc h)
 refine ⟨(sort_of h1 (List.Perm.refl _) h2).symm, ?_⟩
 unfold dupQ
 rw [decide_eq_true h2]; rfl
theorem top_right {c : Gt.Purl} (h : checkS c = 0) : topS c = (canonS c, 0, 0, ()) := by
 obtain ⟨h1, h2⟩ := sort_asc (check_zero.1 h).2.2.2.2.2.1
 have e : srtP c = c := by unfold srtP; rw [h1]
 unfold topS
 rw [h2, e, h]; rfl
theorem readS_text {c : Gt.Purl} (h : checkS c = 0) (hc : canonS c = c) (hl : (textS c).length ≤ 3000) : readS (textS c) = (c, 0, 0, ()) := by
 unfold readS
 rw [decide_eq_false (by unfold len; omega), readN_text h]
 simp only [cond_false]
 rw [top_right h, hc]
theorem top_ok {p : Gt.Purl} (h : (topS p).2.2.1 = 0) : ∃ c, topS p = (c, 0, 0, ()) ∧ checkS c = 0 ∧ canonS c = c := by
 unfold topS at h ⊢
 cases hd : dupQ p.qualifiers with
 | true => rw [hd] at h; cases h
 | false =>
   rw [hd] at h
   simp only [cond_false] at h ⊢
   by_cases hz : checkS (srtP p) = 0
   ·rw [hz]
    exact ⟨canonS (srtP p), rfl, check_canon hz, canon_canon _⟩
   ·have hb : (checkS (srtP p) != 0) = true := by simpa using hz
    rw [hb] at h
    exact absurd h hz
/-- What is read is right and canonical. -/
theorem readS_ok {s : B} (h : (readS s).2.2.1 = 0) : ∃ c, readS s = (c, 0, 0, ()) ∧ checkS c = 0 ∧ canonS c = c := by
 unfold readS at h ⊢
 cases hd : decide (3000 < len s) with
 | true => rw [hd] at h; cases h
 | false =>
   rw [hd] at h
   simp only [cond_false] at h ⊢
   cases hr : readN s with
   | inl e => rw [hr] at h; cases h
   | inr p => rw [hr] at h; exact top_ok h
end Pe.Tryd
end
section
/- Names that come twice: next to each other in a sorted list; at the place of an insertion. -/
set_option maxRecDepth 100000
namespace Pe.Tryd
open Go Go.Proofs Pe Pe.Told
def adjB (l : List Q) : Bool := (List.range (l.length - 1)).any fun k => (l.getD (k + 1) pair0).name == (l.getD k pair0).name
theorem adj_dup {l : List Q} (h : Srt ltQ l) : adjB l = dupQ l := by
 cases hd : adjB l with
 | false =>
   have ha : l.Pairwise fun a b => ltQ a b = true := asc_of fun k hk => by
    have h1 := List.any_eq_false.1 hd k (by rw [List.mem_range]; omega)
    rw [getD_get pair0 hk, getD_get pair0 (show k < l.length by omega)] at h1
    have h2 : ltQ l[k + 1] l[k] = false := List.pairwise_iff_getElem.1 h k (k + 1) (by omega) hk (by omega)
    cases h3 : ltQ l[k] l[k + 1] with
    | true => rfl
    | false => have := lt_total h2 h3; rw [this] at h1; simp at h1
   unfold dupQ
   rw [decide_eq_true (asc_srt ha).2]; rfl
 | true =>
   obtain ⟨k, hk, h2⟩ := List.any_eq_true.1 hd
   rw [List.mem_range] at hk
   rw [getD_get pair0 (show k + 1 < l.length by omega), getD_get pair0 (show k < l.length by omega), beq_iff_eq] at h2
   unfold dupQ
   rw [decide_eq_false]
   ·rfl
   ·intro hn
    have := List.pairwise_iff_getElem.1 hn k (k + 1) (by simp <;> omega) (by simp <;> omega) (by omega)
    simp only [List.getElem_map] at this
    exact this h2.symm
theorem dup_perm {a b : List Q} (h : a.Perm b) : dupQ a = dupQ b := by
 unfold dupQ
 congr 1
 rw [decide_eq_decide]
 exact nd_perm h
/-! the reference's reader -/
def fin {α : Type} (x : α × B × Option B) : B := match x.2.2 with
 | none => x.2.1
 | some e => e
end Pe.Tryd
end
section
/- The program's reader: what its functions answer. -/
set_option maxRecDepth 100000
namespace Pe.Tryd
open Go Go.Proofs Pe Pe.Told
abbrev RP := Gt.Rdr
abbrev ER (α : Type) := Option (((RP × Unit) × α) ⊕ Unit)
def errI (s : B) (e : Option B) : Int := match e with
 | none => -1
 | some x => ((P s x : Nat) : Int)
theorem errI_lt (s : B) (e : Option B) : decide (errI s e < 0) = e.isNone := by
 cases e with
 | none => rfl
 | some x => exact decide_eq_false (by unfold errI; simp only; omega)
theorem errI_ge (s : B) (e : Option B) : decide (0 ≤ errI s e) = e.isSome := by
 cases e with
 | none => rfl
 | some x => exact decide_eq_true (by unfold errI; simp only; omega)
theorem G90 (n : Nat) (s : B) (a b : Int) : @Eq (ER Unit) ((orcN (n + 1)).e 90 [.ptr 0 0, .int .i64 b] [59] [(.st 8)] ((Gt.Rdr.mk s a (-1), ()) : RP × Unit) [] [] 0) (some (.inl ((Gt.Rdr.mk s a b, ()), ()))) := by
 rw [q90]; rfl
theorem G90e (n : Nat) (s : B) (a b : Int) (e : Option B) : @Eq (ER Unit) ((orcN (n + 1)).e 90 [.ptr 0 0, .int .i64 b] [59] [(.st 8)] ((Gt.Rdr.mk s a (errI s e), ()) : RP × Unit) [] [] 0) (some (.inl ((Gt.Rdr.mk s a (bif e.isNone then b else errI s e), ()), ()))) := by
 rw [q90]
 unfold m90
 dsimp only
 rw [errI_lt]
 cases e <;> rfl
theorem s120 (o : Orc Sx) (c : UInt8) : m120 o (c.toNat : Int) = some (hexV c, ()) :=
 eq8 (f := fun c => m120 o (c.toNat : Int)) (g := fun c => some (hexV c, ())) (by kernel_rfl) c
theorem L120 (n : Nat) (c : UInt8) : @Eq (Option (Int × Unit)) ((orcN (n + 1)).d 120 [.int .u8 (c.toNat : Int)] [(.int .i64)]) (some (hexV c, ())) := (q120 n _).trans (s120 _ c)
theorem eq37 (c : UInt8) : ((c.toNat : Int) == 37) = (c == 37) := eq8 (f := fun c => ((c.toNat : Int) == 37)) (g := fun c => (c == 37)) (by decide +kernel) c
theorem ne37 (c : UInt8) : ((c.toNat : Int) != 37) = !(c == 37) := congrArg (!·) (eq37 c)
theorem stop_eq (c : UInt8) : (bif (bif decide ((c.toNat : Int) < 33) then true else decide (126 < (c.toNat : Int))) then true else decide (0 ≤ Lib.indexByte [47, 64, 63, 35, 38, 61] (UInt8.ofNat (Int.toNat (c.toNat : Int))))) = stopB c :=
 eq8 (f := fun c => bif (bif decide ((c.toNat : Int) < 33) then true else decide (126 < (c.toNat : Int))) then true else decide (0 ≤ Lib.indexByte [47, 64, 63, 35, 38, 61] (UInt8.ofNat (Int.toNat (c.toNat : Int))))) (g := stopB) (by decide +kernel) c
theorem hex_one (c : UInt8) : IntKind.i64.wrap ((IntKind.i64.wrap (16 * 0)) + hexV c) = hexV c := by
 have := hexV_ge c
 rw [show IntKind.i64.wrap (16 * 0) = 0 from rfl, Int.zero_add, wrap_id (by omega) (by omega)]
def octR (s l : B) : (RP × Unit) × (Int × Bool × Unit) := match octL l with
 | .stop => ((Gt.Rdr.mk s ((P s l : Nat) : Int) (-1), ()), (0, false, ()))
 | .bad e => ((Gt.Rdr.mk s ((P s l : Nat) : Int) ((P s e : Nat) : Int), ()), (0, false, ()))
 | .byte c r => ((Gt.Rdr.mk s ((P s r : Nat) : Int) (-1), ()), ((c.toNat : Int), true, ()))
theorem octR_stop {s l : B} (h : octL l = .stop) : octR s l = ((Gt.Rdr.mk s ((P s l : Nat) : Int) (-1), ()), (0, false, ())) := by unfold octR; rw [h]
theorem octR_bad {s l e : B} (h : octL l = .bad e) : octR s l = ((Gt.Rdr.mk s ((P s l : Nat) : Int) ((P s e : Nat) : Int), ()), (0, false, ())) := by unfold octR; rw [h]
theorem octR_byte {s l r : B} {c : UInt8} (h : octL l = .byte c r) : octR s l = ((Gt.Rdr.mk s ((P s r : Nat) : Int) (-1), ()), ((c.toNat : Int), true, ())) := by unfold octR; rw [h]
theorem oct1 {d : UInt8} {r : B} (hd : decide (hexV d < 0) = true) : octL (37 :: d :: r) = .bad (d :: r) := by
 unfold octL
 simp only [show ((37 : UInt8) == 37) = true from rfl, cond_true, hd]
theorem oct2 {d : UInt8} (hd : decide (hexV d < 0) = false) : octL [37, d] = .bad [] := by
 unfold octL
 simp only [show ((37 : UInt8) == 37) = true from rfl, cond_true, cond_false, hd]
theorem oct3 {d e : UInt8} {r : B} (hd : decide (hexV d < 0) = false) (he : decide (hexV e < 0) = true) : octL (37 :: d :: e :: r) = .bad (e :: r) := by
 unfold octL
 simp only [show ((37 : UInt8) == 37) = true from rfl, cond_true, cond_false, hd, he]
theorem oct4 {d e : UInt8} {r : B} (hd : decide (hexV d < 0) = false) (he : decide (hexV e < 0) = false) : octL (37 :: d :: e :: r) = .byte (hexB d e) r := by
 unfold octL
 simp only [show ((37 : UInt8) == 37) = true from rfl, cond_true, cond_false, hd, he]
theorem G121 (n : Nat) {s l : B} (h : l <:+ s) (hs : s.length ≤ 3000) :
  @Eq (ER (Int × Bool × Unit)) ((orcN (n + 2)).e 121 [.ptr 0 0] [59] [(.st 8)] ((Gt.Rdr.mk s ((P s l : Nat) : Int) (-1), ()) : RP × Unit) [(.int .u8), .bool] [] 0) (some (.inl (octR s l))) := by
 rw [q121]
 unfold m121
 dsimp only
 rw [sfx_ge h]
 cases l with
 | nil => rfl
 | cons c r =>
   rw [show ((c :: r) == ([] : B)) = false from rfl, br_false, sfx_at0 h]
   simp only [List.getElem?_cons_zero, ob_some_eq]
   rw [ne37]
   cases h37 : (c == 37) with
   | false =>
     simp only [Bool.not_false, br_true, L64, ob_some_eq, br_some_eq, stop_eq]
     cases hst : stopB c with
     | true => rw [octR_stop (by rw [octL_no37 h37, hst]; rfl)]; rfl
     | false =>
       rw [octR_byte (r := r) (c := c) (by rw [octL_no37 h37, hst]; rfl)]
       simp only [cond_false]
       rw [wrapP1 hs, P_tail h]
   | true =>
     obtain rfl : c = 37 := by simpa using h37
     simp only [Bool.not_true, br_false]
     have e1 := P_tail h
     have h1 := sfx_tail h
     cases r with
     | nil =>
       rw [octR_bad (show octL [37] = .bad [] from rfl)]
       refine cut_of (loopM_end (r := .inr (.inl ((Gt.Rdr.mk s ((P s [37] : Nat) : Int) ((P s [] : Nat) : Int), ()), (0, false, ())))) ?_) rfl
       dsimp only
       rw [show decide ((1 : Int) ≤ 2) = true from rfl, br_true, wrapP1 hs, sfx_lt h 1]
       simp only [List.length_cons, List.length_nil, Nat.lt_irrefl, decide_false, Nat.zero_add, br_false, cutM_inl]
       rw [show decide ((-1 : Int) < 0) = true from rfl, br_true, G90, oc_inl, e1]
     | cons d r1 =>
       have e2 := P_tail h1
       have h2 := sfx_tail h1
       cases hd : decide (hexV d < 0) with
       | true =>
         rw [octR_bad (oct1 hd)]
         refine cut_of (loopM_end (r := .inr (.inl ((Gt.Rdr.mk s ((P s (37 :: d :: r1) : Nat) : Int) ((P s (d :: r1) : Nat) : Int), ()), (0, false, ())))) ?_) rfl
         dsimp only
         rw [show decide ((1 : Int) ≤ 2) = true from rfl, br_true, wrapP1 hs, sfx_lt h 1, sfx_at h 1]
         simp only [List.length_cons, show 1 < r1.length + 1 + 1 from by omega, decide_true, br_true, List.getElem?_cons_succ, List.getElem?_cons_zero, ob_some_eq, L120, cutM_inl, hd]
         rw [G90, oc_inl, e1]
       | false =>
         have st1 : ∀ {R : Type} (X : Option R) (Y : Option R), br (decide (hexV d < 0)) X Y = Y := fun X Y => by rw [hd]; rfl
         cases r1 with
         | nil =>
           rw [octR_bad (oct2 hd)]
           refine cut_of ((loopM_next (y := (hexV d, 2, s, ((P s [37, d] : Nat) : Int), -1, ())) ?_).trans (loopM_end (r := .inr (.inl ((Gt.Rdr.mk s ((P s [37, d] : Nat) : Int) ((P s [] : Nat) : Int), ()), (0, false, ())))) ?_)) rfl
           ·dsimp only
            rw [show decide ((1 : Int) ≤ 2) = true from rfl, br_true, wrapP1 hs, sfx_lt h 1, sfx_at h 1]
            simp only [List.length_cons, List.length_nil, show 1 < 0 + 1 + 1 from by omega, decide_true, br_true, List.getElem?_cons_succ, List.getElem?_cons_zero, ob_some_eq, L120, cutM_inl, hd, br_false, hex_one]
            rfl
           ·dsimp only
            rw [show decide ((2 : Int) ≤ 2) = true from rfl, br_true, wrapP2 hs, sfx_lt h 2]
            simp only [List.length_cons, List.length_nil, show ¬ 2 < 0 + 1 + 1 from by omega, decide_false, br_false, cutM_inl]
            rw [show decide ((-1 : Int) < 0) = true from rfl, br_true, G90, oc_inl, e2, e1]
         | cons e r2 =>
           have e3 := P_tail h2
           cases he : decide (hexV e < 0) with
           | true =>
             rw [octR_bad (oct3 hd he)]
             refine cut_of ((loopM_next (y := (hexV d, 2, s, ((P s (37 :: d :: e :: r2) : Nat) : Int), -1, ())) ?_).trans (loopM_end (r := .inr (.inl ((Gt.Rdr.mk s ((P s (37 :: d :: e :: r2) : Nat) : Int) ((P s (e :: r2) : Nat) : Int), ()), (0, false, ())))) ?_)) rfl
             ·dsimp only
              rw [show decide ((1 : Int) ≤ 2) = true from rfl, br_true, wrapP1 hs, sfx_lt h 1, sfx_at h 1]
              simp only [List.length_cons, show 1 < r2.length + 1 + 1 + 1 from by omega, decide_true, br_true, List.getElem?_cons_succ, List.getElem?_cons_zero, ob_some_eq, L120, cutM_inl, hd, br_false, hex_one]
              rfl
             ·dsimp only
              rw [show decide ((2 : Int) ≤ 2) = true from rfl, br_true, wrapP2 hs, sfx_lt h 2, sfx_at h 2]
              simp only [List.length_cons, show 2 < r2.length + 1 + 1 + 1 from by omega, decide_true, br_true, List.getElem?_cons_succ, List.getElem?_cons_zero, ob_some_eq, L120, cutM_inl, he]
              rw [G90, oc_inl, e2, e1]
           | false =>
             rw [octR_byte (oct4 hd he)]
             refine cut_of ((loopM_next (y := (hexV d, 2, s, ((P s (37 :: d :: e :: r2) : Nat) : Int), -1, ())) ?_).trans ((loopM_next (y := (IntKind.i64.wrap ((IntKind.i64.wrap (16 * hexV d)) + hexV e), 3, s, ((P s (37 :: d :: e :: r2) : Nat) : Int), -1, ())) ?_).trans (loopM_end (r := .inl (IntKind.i64.wrap ((IntKind.i64.wrap (16 * hexV d)) + hexV e), s, ((P s (37 :: d :: e :: r2) : Nat) : Int), -1, ())) ?_))) ?_
             ·dsimp only
              rw [show decide ((1 : Int) ≤ 2) = true from rfl, br_true, wrapP1 hs, sfx_lt h 1, sfx_at h 1]
              simp only [List.length_cons, show 1 < r2.length + 1 + 1 + 1 from by omega, decide_true, br_true, List.getElem?_cons_succ, List.getElem?_cons_zero, ob_some_eq, L120, cutM_inl, hd, br_false, hex_one]
              rfl
             ·dsimp only
              rw [show decide ((2 : Int) ≤ 2) = true from rfl, br_true, wrapP2 hs, sfx_lt h 2, sfx_at h 2]
              simp only [List.length_cons, show 2 < r2.length + 1 + 1 + 1 from by omega, decide_true, br_true, List.getElem?_cons_succ, List.getElem?_cons_zero, ob_some_eq, L120, cutM_inl, he, br_false]
              rfl
             ·rfl
             ·simp only [cutM_inl]
              rw [wrapP3 hs, hex_sum d e (of_decide_eq_false hd) (of_decide_eq_false he), e3, e2, e1]
/-! a part -/
theorem part_loop {R σ : Type} {f : σ → Option (σ ⊕ R)} (mk : B → B → σ) (out : B → B → Option B → R) (s : B)
  (h : ∀ acc l, l <:+ s → acc.length + l.length ≤ 3000 → f (mk acc l) = match octL l with
   | .stop => some (.inr (out acc l none))
   | .bad e => some (.inr (out acc l (some e)))
   | .byte c r => some (.inl (mk (acc ++ [c]) r))) :
  ∀ k acc l, l.length < k → l <:+ s → acc.length + l.length ≤ 3000 → loopM f (mk acc l) = some (out (acc ++ (partGo k l).1) (partGo k l).2.1 (partGo k l).2.2)
 | 0, _, _, hk, _, _ => by omega
 | k + 1, acc, l, hk, hl, hb => by
   have h1 := h acc l hl hb
   have ho := octL_sfx (l := l)
   unfold partGo
   cases hc : octL l with
   | stop => rw [hc] at h1; rw [loopM_end h1]; simp
   | bad e => rw [hc] at h1; rw [loopM_end h1]; simp
   | byte c r =>
     rw [hc] at h1
     obtain ⟨g1, g2⟩ := ho.2 c r hc
     rw [loopM_next h1, part_loop mk out s h k (acc ++ [c]) r (by omega) (g1.trans hl) (by simp <;> omega)]
     simp
theorem len_bytes (v : B) : (len (bytesOf v) == 0) = (v == []) := by cases v <;> simp [len, bytesOf]; omega
theorem G88 (n : Nat) {s l : B} (h : l <:+ s) (hs : s.length ≤ 3000) :
  @Eq (ER (B × Unit)) ((orcN (n + 3)).e 88 [.ptr 0 0] [59] [(.st 8)] ((Gt.Rdr.mk s ((P s l : Nat) : Int) (-1), ()) : RP × Unit) [.str] [] 0) (some (.inl ((Gt.Rdr.mk s ((P s (partL l).2.1 : Nat) : Int) (errI s (partL l).2.2), ()), ((partL l).1, ())))) := by
 rw [q88]
 unfold m88
 dsimp only
 refine cut_of (part_loop (R := (List Int × B × Int × Int × Unit) ⊕ (((RP × Unit) × (B × Unit)) ⊕ Unit)) (fun acc l => (bytesOf acc, s, ((P s l : Nat) : Int), -1, ())) (fun acc l e => .inl (bytesOf acc, s, ((P s l : Nat) : Int), errI s e, ())) s ?_ (l.length + 1) [] l (by omega) h (by have := h.length_le; simp; omega)) ?_
 ·intro acc l hl hb
  dsimp only
  rw [show decide ((-1 : Int) < 0) = true from rfl, br_true, G121 n hl hs, oc_inl]
  unfold octR
  cases octL l with
  | stop => rfl
  | bad e => rfl
  | byte c r =>
    simp only [Bool.not_true, br_false]
    rw [cat1 (by simp [lim]; omega)]; rfl
 ·simp only [cutM_inl, List.nil_append]
  rw [len_bytes, strOf_bytes]
  unfold partL
  dsimp only
  cases hc : ((partGo (l.length + 1) l).1 == []) with
  | false => rfl
  | true =>
    simp only [br_true, cond_true]
    rw [G90e, oc_inl]
    cases (partGo (l.length + 1) l).2.2 <;> rfl
/-! the byte at hand -/
def pk (l : B) : Int := match l with
 | [] => 0
 | c :: _ => (c.toNat : Int)
def hdB (c : UInt8) (l : B) : Bool := match l with
 | [] => false
 | d :: _ => d == c
theorem peek {s l : B} (h : l <:+ s) : br (decide (((P s l : Nat) : Int) < len s)) (ob (at? s ((P s l : Nat) : Int)) fun c => some (((UInt8.toNat c : Nat) : Int), ())) (some (0, ())) = some (pk l, ()) := by
 rw [sfx_lt0 h, sfx_at0 h]
 cases l <;> rfl
theorem pk47 (l : B) : (pk l == 47) = hdB 47 l := by
 cases l with
 | nil => rfl
 | cons c r => exact eq8 (f := fun c => ((c.toNat : Int) == 47)) (g := fun c => (c == 47)) (by decide +kernel) c
theorem pk64 (l : B) : (pk l == 64) = hdB 64 l := by
 cases l with
 | nil => rfl
 | cons c r => exact eq8 (f := fun c => ((c.toNat : Int) == 64)) (g := fun c => (c == 64)) (by decide +kernel) c
theorem pk35 (l : B) : (pk l == 35) = hdB 35 l := by
 cases l with
 | nil => rfl
 | cons c r => exact eq8 (f := fun c => ((c.toNat : Int) == 35)) (g := fun c => (c == 35)) (by decide +kernel) c
theorem pk61 (l : B) : (pk l == 61) = hdB 61 l := by
 cases l with
 | nil => rfl
 | cons c r => exact eq8 (f := fun c => ((c.toNat : Int) == 61)) (g := fun c => (c == 61)) (by decide +kernel) c
theorem pk63 (l : B) : (pk l == 63) = hdB 63 l := by
 cases l with
 | nil => rfl
 | cons c r => exact eq8 (f := fun c => ((c.toNat : Int) == 63)) (g := fun c => (c == 63)) (by decide +kernel) c
theorem pk38 (l : B) : (pk l == 38) = hdB 38 l := by
 cases l with
 | nil => rfl
 | cons c r => exact eq8 (f := fun c => ((c.toNat : Int) == 38)) (g := fun c => (c == 38)) (by decide +kernel) c
/-! parts -/
theorem parts_loop {R σ : Type} {f : σ → Option (σ ⊕ R)} (mk : List B → B → Option B → σ) (out : List B → B → Option B → R) (s : B)
  (hb : ∀ acc l e, f (mk acc l (some e)) = some (.inr (out acc l (some e))))
  (h : ∀ acc l, l <:+ s → acc.length + l.length ≤ 4000 → f (mk acc l none) = match l with
   | [] => some (.inr (out acc [] none))
   | c :: r => bif c == 47 then some (.inl (mk (acc ++ [(partL r).1]) (partL r).2.1 (partL r).2.2)) else some (.inr (out acc (c :: r) none))) :
  ∀ k acc l, l.length < k → l <:+ s → acc.length + l.length + 1 ≤ 4000 → loopM f (mk (acc ++ [(partL l).1]) (partL l).2.1 (partL l).2.2) = some (out (acc ++ (partsGo k l).1) (partsGo k l).2.1 (partsGo k l).2.2)
 | 0, _, _, hk, _, _ => by omega
 | k + 1, acc, l, hk, hl, hn => by
   obtain ⟨p1, p2, p3⟩ := partL_sfx l
   unfold partsGo
   cases he : (partL l).2.2 with
   | some e => rw [loopM_end (hb _ _ _)]
   | none =>
     have hne := pos_of (partL_some he)
     have h1 := h (acc ++ [(partL l).1]) (partL l).2.1 (p1.trans hl) (by simp <;> omega)
     have hs := p1.trans hl
     have hlen := p1.length_le
     cases hr : (partL l).2.1 with
     | nil => rw [hr] at h1; rw [loopM_end h1]
     | cons c r =>
       rw [hr] at h1 hs hlen p2
       simp only at h1
       simp only
       cases hc : (c == 47) with
       | false => rw [hc] at h1; rw [loopM_end h1]; rfl
       | true =>
         rw [hc] at h1
         simp only [List.length_cons] at p2 hlen
         rw [loopM_next h1, parts_loop mk out s hb h k (acc ++ [(partL l).1]) r (by omega) (sfx_tail hs) (by simp <;> omega)]
         simp
theorem G86 (n : Nat) {s l : B} (h : l <:+ s) (hs : s.length ≤ 3000) :
  @Eq (ER (List B × Unit)) ((orcN (n + 4)).e 86 [.ptr 0 0] [59] [(.st 8)] ((Gt.Rdr.mk s ((P s l : Nat) : Int) (-1), ()) : RP × Unit) [(.sl .str)] [] 0) (some (.inl ((Gt.Rdr.mk s ((P s (partsL l).2.1 : Nat) : Int) (errI s (partsL l).2.2), ()), ((partsL l).1, ())))) := by
 rw [q86]
 unfold m86
 rw [G88 n h hs, oc_inl]
 dsimp only
 refine cut_of (parts_loop (R := (List B × B × Int × Int × Unit) ⊕ (((RP × Unit) × (List B × Unit)) ⊕ Unit)) (fun acc l e => (acc, s, ((P s l : Nat) : Int), errI s e, ())) (fun acc l e => .inl (acc, s, ((P s l : Nat) : Int), errI s e, ())) s ?_ ?_ (l.length + 1) [] l (by omega) h (by have := h.length_le; simp; omega)) ?_
 ·intro acc l e
  dsimp only
  rw [errI_lt]; rfl
 ·intro acc l hl hn
  dsimp only
  rw [errI_lt, peek hl]
  simp only [Option.isNone_none, br_true, ob_some_eq, pk47]
  cases l with
  | nil => rfl
  | cons c r =>
    simp only [hdB]
    cases (c == 47) with
    | false => rfl
    | true =>
      simp only [br_true, cond_true]
      rw [wrapP1 hs, ← P_tail hl, show errI s none = -1 from rfl, G88 n (sfx_tail hl) hs, oc_inl, cat?_ok (by simp [lim]; omega)]
      rfl
 ·rfl
/-! letters -/
theorem while_loop {R σ : Type} {f : σ → Option (σ ⊕ R)} (mk : Nat → σ) (out : Nat → R) (s : B) (p : UInt8 → Bool) (k0 : Nat)
  (h : ∀ c r, c :: r <:+ s → k0 ≤ P s (c :: r) → f (mk (P s (c :: r))) = bif p c then some (.inl (mk (P s r))) else some (.inr (out (P s (c :: r)))))
  (he : f (mk (P s [])) = some (.inr (out (P s [])))) : ∀ l, l <:+ s → k0 ≤ P s l → loopM f (mk (P s l)) = some (out (P s (l.dropWhile p)))
 | [], _, _ => loopM_end he
 | c :: r, hl, hk => by
   have h1 := h c r hl hk
   rw [List.dropWhile_cons]
   cases hc : p c with
   | false => rw [hc] at h1; rw [loopM_end h1]; rfl
   | true =>
     rw [hc] at h1
     rw [loopM_next h1, while_loop mk out s p k0 h he r (sfx_tail hl) (by rw [P_tail hl]; omega)]; rfl
theorem nameW_cons (c : UInt8) (r : B) : nameWhile (c :: r) = bif nameB c true then c :: r.takeWhile (nameB · false) else [] := rfl
theorem nameR_cons (c : UInt8) (r : B) : nameRest (c :: r) = bif nameB c true then r.dropWhile (nameB · false) else c :: r := rfl
theorem nameRest_sfx (l : B) : nameWhile l ++ nameRest l = l := by
 cases l with
 | nil => rfl
 | cons c r =>
   rw [nameW_cons, nameR_cons]
   cases nameB c true with
   | true => simp [List.takeWhile_append_dropWhile]
   | false => rfl
theorem part_name {s l : B} (h : l <:+ s) : part? s ((P s l : Nat) : Int) ((P s (nameRest l) : Nat) : Int) = some (nameWhile l) := by
 have e := nameRest_sfx l
 have h2 : nameRest l <:+ l := ⟨nameWhile l, e⟩
 rw [sfx_part h h2]
 congr 1
 have h3 := congrArg List.length e
 rw [List.length_append] at h3
 rw [show l.length - (nameRest l).length = (nameWhile l).length by omega]
 exact (congrArg (List.take (nameWhile l).length) e.symm).trans (List.take_left ..)
theorem G89 (n : Nat) {s l : B} (h : l <:+ s) (hs : s.length ≤ 3000) :
  @Eq (ER (Gt.Pair × Unit)) ((orcN (n + 4)).e 89 [.ptr 0 0] [59] [(.st 8)] ((Gt.Rdr.mk s ((P s l : Nat) : Int) (-1), ()) : RP × Unit) [(.st 3)] [] 0) (some (.inl ((Gt.Rdr.mk s ((P s (qualL l).2.1 : Nat) : Int) (errI s (qualL l).2.2), ()), ((qualL l).1, ())))) := by
 rw [q89]
 unfold m89
 dsimp only
 refine cut_of (r := .inl (s, ((P s (nameRest l) : Nat) : Int), -1, ())) ?_ ?_
 ·have hend : ∀ {R : Type} (X : R) (K : B × Int × Int × Unit → Option R), K (s, ((P s [] : Nat) : Int), -1, ()) = some X → True := fun _ _ _ => trivial
  have rest : ∀ (r : B), r <:+ s → P s l + 1 ≤ P s r → loopM (R := (B × Int × Int × Unit) ⊕ (((RP × Unit) × (Gt.Pair × Unit)) ⊕ Unit)) (fun (t1 : List UInt8 × Int × Int × Unit) => (ob (br (decide (t1.2.1 < (len t1.1))) (ob (at? t1.1 t1.2.1) fun c2 => (ob (α := Bool × Unit) ((orcN (n + 3)).d 122 [.int .u8 (UInt8.toNat c2 : Int), .bool (t1.2.1 == ((P s l : Nat) : Int))] [.bool]) fun (r3 : Bool × Unit) => (some r3.1))) (some false)) fun b4 => (br b4 (some (.inl (t1.1, (IntKind.i64.wrap (t1.2.1 + 1)), t1.2.2.1, ()))) (some (.inr (.inl (t1.1, t1.2.1, t1.2.2.1, ()))))))) (s, ((P s r : Nat) : Int), -1, ()) = some (.inl (s, ((P s (r.dropWhile (nameB · false)) : Nat) : Int), -1, ())) := by
   refine while_loop (R := (B × Int × Int × Unit) ⊕ (((RP × Unit) × (Gt.Pair × Unit)) ⊕ Unit)) (fun k => (s, ((k : Nat) : Int), -1, ())) (fun k => .inl (s, ((k : Nat) : Int), -1, ())) s (nameB · false) (P s l + 1) ?_ ?_
   ·intro c r hr hk
    dsimp only
    rw [sfx_lt0 hr, sfx_at0 hr]
    simp only [List.getElem?_cons_zero, ob_some_eq]
    rw [show (((P s (c :: r) : Nat) : Int) == ((P s l : Nat) : Int)) = false by rw [beq_eq_false_iff_ne]; omega, L122 (n + 2) c false, wrapP1 hs, ← P_tail hr]
    rw [show ((c :: r) != ([] : B)) = true from rfl]
    cases nameB c false <;> rfl
   ·dsimp only
    rw [sfx_lt0 (l := []) List.nil_suffix]; rfl
  cases l with
  | nil =>
    refine loopM_end ?_
    dsimp only
    rw [sfx_lt0 h]; rfl
  | cons c r =>
    have hstep : ∀ {R : Type} (A : Option R) (B' : Option R), ob (br (decide (((P s (c :: r) : Nat) : Int) < (len s))) (ob (at? s ((P s (c :: r) : Nat) : Int)) fun c2 => (ob (α := Bool × Unit) ((orcN (n + 3)).d 122 [.int .u8 (UInt8.toNat c2 : Int), .bool (((P s (c :: r) : Nat) : Int) == ((P s (c :: r) : Nat) : Int))] [.bool]) fun (r3 : Bool × Unit) => (some r3.1))) (some false)) (fun b4 => br b4 A B') = br (nameB c true) A B' := by
     intro R A B'
     rw [sfx_lt0 h, sfx_at0 h]
     simp only [List.getElem?_cons_zero, ob_some_eq]
     rw [show (((P s (c :: r) : Nat) : Int) == ((P s (c :: r) : Nat) : Int)) = true from beq_self_eq_true _, L122 (n + 2) c true]
     rfl
    rw [nameR_cons]
    cases hc : nameB c true with
    | false =>
      refine loopM_end ?_
      dsimp only
      refine (hstep _ _).trans ?_
      rw [hc]; rfl
    | true =>
      refine (loopM_next (y := (s, ((P s r : Nat) : Int), -1, ())) ?_).trans (rest r (sfx_tail h) (by rw [P_tail h]; exact Nat.le_refl _))
      dsimp only
      refine (hstep _ _).trans ?_
      rw [hc, wrapP1 hs, ← P_tail h]; rfl
 ·simp only [cutM_inl]
  have hr : nameRest l <:+ s := (show nameRest l <:+ l from ⟨nameWhile l, nameRest_sfx l⟩).trans h
  rw [part_name h]
  simp only [ob_some_eq, peek hr]
  rw [show (pk (nameRest l) != 61) = !(hdB 61 (nameRest l)) from congrArg (!·) (pk61 _)]
  unfold qualL
  cases hw : nameWhile l with
  | nil =>
    rw [show (([] : B) == []) = true from rfl, br_true, ob_some_eq, br_true, G90, oc_inl]
    cases nameRest l <;> rfl
  | cons k ks =>
    rw [show ((k :: ks : B) == []) = false from rfl, br_false, ob_some_eq]
    cases hn : nameRest l with
    | nil =>
      simp only [hdB, Bool.not_false, br_true]
      rw [G90, oc_inl]; rfl
    | cons c r =>
      rw [hn] at hr
      simp only [hdB]
      cases (c == 61) with
      | false =>
        simp only [Bool.not_false, br_true]
        rw [G90, oc_inl]; rfl
      | true =>
        simp only [Bool.not_true, br_false, cond_true]
        rw [wrapP1 hs, ← P_tail hr, G88 n (sfx_tail hr) hs, oc_inl]
end Pe.Tryd
end
section
/- The program's reader reads names; Read of the program. -/
set_option maxRecDepth 100000
namespace Pe.Tryd
open Go Go.Proofs Pe Pe.Told
/-! where the reader's parts end -/
theorem partsGo_sfx : ∀ (k : Nat) (l : B), (partsGo k l).2.1 <:+ l ∧ (∀ e, (partsGo k l).2.2 = some e → e <:+ l) ∧ (partsGo k l).1.length ≤ l.length + 1 ∧ ∀ x ∈ (partsGo k l).1, x.length ≤ l.length
 | 0, l => ⟨List.suffix_refl _, fun e h => by cases h; exact List.suffix_refl _, by simp [partsGo], fun x hx => by cases hx⟩
 | k + 1, l => by
   obtain ⟨p1, p2, p3⟩ := partL_sfx l
   unfold partsGo
   cases he : (partL l).2.2 with
   | some e =>
     refine ⟨p1, fun e' h => by cases h; exact p3 _ he, by simp, fun x hx => ?_⟩
     obtain rfl : x = (partL l).1 := by simpa using hx
     omega
   | none =>
     cases hr : (partL l).2.1 with
     | nil =>
       rw [hr] at p1
       refine ⟨p1, fun e' h => (by cases h), by simp, fun x hx => ?_⟩
       obtain rfl : x = (partL l).1 := by simpa using hx
       omega
     | cons c r =>
       rw [hr] at p1 p2
       simp only [List.length_cons] at p2
       obtain ⟨i1, i2, i3, i4⟩ := partsGo_sfx k r
       simp only
       cases (c == 47) with
       | false =>
         refine ⟨p1, fun e' h => (by cases h), by simp, fun x hx => ?_⟩
         obtain rfl : x = (partL l).1 := by simpa using hx
         omega
       | true =>
         refine ⟨i1.trans (sfx_tail p1), fun e' h => (i2 e' h).trans (sfx_tail p1), by simp only [cond_true, List.length_cons]; omega, fun x hx => ?_⟩
         simp only [cond_true] at hx
         rcases List.mem_cons.1 hx with rfl | hx
         ·omega
         ·have := i4 x hx; omega
theorem partsGo_ne (k : Nat) (l : B) : (partsGo (k + 1) l).1 ≠ [] := by
 unfold partsGo
 cases (partL l).2.2 with
 | some e => simp
 | none =>
   cases (partL l).2.1 with
   | nil => simp
   | cons c r => cases h : (c == 47) <;> simp [h]
theorem qual_sfx (l : B) : (qualL l).2.1 <:+ l ∧ ∀ e, (qualL l).2.2 = some e → e <:+ l := by
 have hr : nameRest l <:+ l := ⟨nameWhile l, nameRest_sfx l⟩
 unfold qualL
 cases nameWhile l with
 | nil =>
   cases hn : nameRest l with
   | nil => rw [hn] at hr; exact ⟨hr, fun e h => by cases h; exact hr⟩
   | cons c r => rw [hn] at hr; exact ⟨hr, fun e h => by cases h; exact hr⟩
 | cons k ks =>
   cases hn : nameRest l with
   | nil => rw [hn] at hr; exact ⟨hr, fun e h => by cases h; exact hr⟩
   | cons c r =>
     rw [hn] at hr
     simp only
     cases (c == 61) with
     | false => exact ⟨hr, fun e h => by cases h; exact hr⟩
     | true =>
       obtain ⟨p1, _, p3⟩ := partL_sfx r
       exact ⟨p1.trans (sfx_tail hr), fun e h => (p3 e h).trans (sfx_tail hr)⟩
theorem qualsGo_sfx : ∀ (k : Nat) (sg : UInt8) (l : B), (qualsGo k sg l).2.1 <:+ l ∧ (qualsGo k sg l).1.length ≤ l.length
 | 0, _, l => ⟨List.suffix_refl _, by simp [qualsGo]⟩
 | k + 1, _, [] => ⟨List.suffix_refl _, by simp [qualsGo]⟩
 | k + 1, sg, c :: l => by
   obtain ⟨p1, _⟩ := qual_sfx l
   have p2 := p1.length_le
   obtain ⟨i1, i2⟩ := qualsGo_sfx k 38 (qualL l).2.1
   unfold qualsGo
   cases (c == sg) with
   | false => exact ⟨List.suffix_refl _, by simp⟩
   | true =>
     simp only [cond_true]
     cases (qualL l).2.2 with
     | none => exact ⟨(i1.trans p1).trans (List.suffix_cons _ _), by simp only [List.length_cons]; omega⟩
     | some e => exact ⟨p1.trans (List.suffix_cons _ _), by simp⟩
theorem preL_inl : ∀ {ps l r : B}, preL ps l = .inl r → ps.length ≤ l.length ∧ l.drop ps.length = r
 | [], l, r, h => by cases h; exact ⟨by simp, rfl⟩
 | p :: ps, [], r, h => by cases h
 | p :: ps, d :: l, r, h => by
   unfold preL at h
   cases hd : (low d == p) with
   | false => rw [hd] at h; cases h
   | true =>
     rw [hd] at h
     obtain ⟨h1, h2⟩ := preL_inl (ps := ps) (l := l) (r := r) h
     exact ⟨by simpa using h1, by simpa using h2⟩
theorem pre_loop {R σ : Type} {f : σ → Option (σ ⊕ R)} (mk : Nat → σ) (bad : Nat → R) (ok : R) (s pat : B)
  (h : ∀ k p, pat[k]? = some p → k ≤ s.length → f (mk k) = match s[k]? with
   | none => some (.inr (bad k))
   | some d => bif low d == p then some (.inl (mk (k + 1))) else some (.inr (bad k)))
  (he : f (mk pat.length) = some (.inr ok)) : ∀ ps l k, pat.drop k = ps → s.drop k = l → k ≤ s.length → k ≤ pat.length → loopM f (mk k) = some (match preL ps l with | .inl _ => ok | .inr e => bad (P s e))
 | [], l, k, hp, hl, hk, hk2 => by
   have h0 := congrArg List.length hp
   simp only [List.length_drop, List.length_nil] at h0
   obtain rfl : k = pat.length := by omega
   exact loopM_end he
 | p :: ps, l, k, hp, hl, hk, hk2 => by
   have h0 : pat[k]? = some p := by
    have := congrArg (·[0]?) hp
    simpa [List.getElem?_drop] using this
   have h0b := congrArg List.length hp
   simp only [List.length_drop, List.length_cons] at h0b
   have h1 := h k p h0 hk
   have h2 := congrArg (·[0]?) hl
   have h3 := congrArg List.length hl
   simp only [List.getElem?_drop, Nat.add_zero] at h2
   rw [List.length_drop] at h3
   rw [h2] at h1
   cases l with
   | nil =>
     simp only [List.getElem?_nil] at h1
     simp only [List.length_nil] at h3
     rw [loopM_end h1]
     simp only [preL]
     congr 2
     simp [P]; omega
   | cons d r =>
     simp only [List.getElem?_cons_zero] at h1
     simp only [List.length_cons] at h3
     unfold preL
     cases hd : (low d == p) with
     | false =>
       rw [hd] at h1
       rw [loopM_end h1]
       simp only [cond_false]
       congr 2
       simp [P]; omega
     | true =>
       rw [hd] at h1
       rw [loopM_next h1]
       have hp' : pat.drop (k + 1) = ps := by rw [← List.drop_drop, hp]; rfl
       have hl' : s.drop (k + 1) = r := by rw [← List.drop_drop, hl]; rfl
       exact pre_loop mk bad ok s pat h he ps r (k + 1) hp' hl' (by omega) (by omega)
theorem take_one {l : B} {k : Nat} {d : UInt8} (h : l[k]? = some d) : part? l ((k : Nat) : Int) ((k + 1 : Nat) : Int) = some [d] := by
 have hk : k < l.length := (List.getElem?_eq_some_iff.1 h).1
 rw [part?_nat (by omega) (by omega), Nat.add_sub_cancel_left, List.drop_eq_getElem_cons hk, (List.getElem?_eq_some_iff.1 h).2]
 rfl
theorem while_part {s l : B} {p : UInt8 → Bool} (h : l <:+ s) : part? s ((P s l : Nat) : Int) ((P s (l.dropWhile p) : Nat) : Int) = some (l.takeWhile p) := by
 have e : l.takeWhile p ++ l.dropWhile p = l := List.takeWhile_append_dropWhile
 rw [sfx_part h ⟨l.takeWhile p, e⟩]
 congr 1
 have h3 := congrArg List.length e
 rw [List.length_append] at h3
 rw [show l.length - (l.dropWhile p).length = (l.takeWhile p).length by omega]
 exact (congrArg (List.take (l.takeWhile p).length) e.symm).trans (List.take_left ..)
theorem G85 (n : Nat) {s : B} (hs : s.length ≤ 3000) : ∃ a : Int, @Eq (ER (B × Unit)) ((orcN (n + 2)).e 85 [.ptr 0 0, .bool false] [59] [(.st 8)] ((Gt.Rdr.mk s 0 (-1), ()) : RP × Unit) [.str] [] 0) (some (.inl ((Gt.Rdr.mk s a (errI s (headL s).2.2), ()), ((headL s).1, ())))) ∧ ((headL s).2.2 = none → a = ((P s (headL s).2.1 : Nat) : Int)) ∧ (headL s).2.1 <:+ s := by
 rw [q85]
 unfold m85
 dsimp only
 have hp := pre_loop (R := (B × Int × Int × Unit) ⊕ (((RP × Unit) × (B × Unit)) ⊕ Unit)) (f := fun (t1 : Int × List UInt8 × Int × Int × Unit) => (br (decide (t1.1 < 4)) (ob (br (decide ((len t1.2.1) ≤ t1.1)) (some true) (ob (part? t1.2.1 t1.1 (IntKind.i64.wrap (t1.1 + 1))) fun s2 => (ob (α := List UInt8 × Unit) ((orcN (n + 1)).d 93 [.str s2] [.str]) fun (r3 : List UInt8 × Unit) => (ob (part? [112, 107, 103, 58] t1.1 (IntKind.i64.wrap (t1.1 + 1))) fun s4 => (some (r3.1 != s4)))))) fun b5 => (br b5 (oc (α := ((RP × Unit) × (Unit))) (β := Unit) ((orcN (n + 1)).e 90 [.ptr 0 0, .int .i64 t1.1] [59] [(.st 8)] (((Gt.Rdr.mk t1.2.1 t1.2.2.1 t1.2.2.2.1), ()) : RP × Unit) [] [] 0) (fun (r6 : ((RP × Unit) × (Unit))) => (some (.inr (.inr (.inl ((r6.1.1, ()), ([], ()))))))) fun (p7 : Unit) => (some (.inr (.inr (.inr (())))))) (some (.inl ((IntKind.i64.wrap (t1.1 + 1)), t1.2.1, t1.2.2.1, t1.2.2.2.1, ()))))) (some (.inr (.inl (t1.2.1, t1.2.2.1, t1.2.2.2.1, ()))))))
  (fun k => (((k : Nat) : Int), s, 0, -1, ())) (fun k => .inr (.inl ((Gt.Rdr.mk s 0 ((k : Nat) : Int), ()), ([], ())))) (.inl (s, 0, -1, ())) s [112, 107, 103, 58] ?_ rfl [112, 107, 103, 58] s 0 rfl rfl (Nat.zero_le _) (Nat.zero_le _)
 ·cases hl : preL [112, 107, 103, 58] s with
  | inr e =>
    rw [hl] at hp
    have hh : headL s = ([], s, some e) := by unfold headL; rw [hl]
    rw [hh]
    exact ⟨0, cut_of hp rfl, fun h => (by cases h), List.suffix_refl _⟩
  | inl r =>
    rw [hl] at hp
    obtain ⟨h1, h2⟩ := preL_inl hl
    have hr : r <:+ s := h2 ▸ List.drop_suffix _ _
    have h4 : P s r = 4 := by
     have := congrArg List.length h2
     simp only [List.length_drop, List.length_cons, List.length_nil] at this h1
     unfold P; omega
    have hh : headL s = kindL r := by unfold headL; rw [hl]
    rw [hh]
    have hw : loopM (R := (B × Int × Int × Unit) ⊕ (((RP × Unit) × (B × Unit)) ⊕ Unit)) (fun (t13 : List UInt8 × Int × Int × Unit) => (ob (br (decide (t13.2.1 < (len t13.1))) (ob (at? t13.1 t13.2.1) fun c14 => (ob (α := Bool × Unit) ((orcN (n + 1)).d 102 [.int .u8 (UInt8.toNat c14 : Int)] [.bool]) fun (r15 : Bool × Unit) => (some r15.1))) (some false)) fun b16 => (br b16 (some (.inl (t13.1, (IntKind.i64.wrap (t13.2.1 + 1)), t13.2.2.1, ()))) (some (.inr (.inl (t13.1, t13.2.1, t13.2.2.1, ()))))))) (s, ((P s r : Nat) : Int), -1, ()) = some (.inl (s, ((P s (r.dropWhile letB) : Nat) : Int), -1, ())) := by
     refine while_loop (R := (B × Int × Int × Unit) ⊕ (((RP × Unit) × (B × Unit)) ⊕ Unit)) (fun k => (s, ((k : Nat) : Int), -1, ())) (fun k => .inl (s, ((k : Nat) : Int), -1, ())) s letB 0 ?_ ?_ r hr (Nat.zero_le _)
     ·intro c t ht _
      dsimp only
      rw [sfx_lt0 ht, sfx_at0 ht, show ((c :: t) != ([] : B)) = true from rfl]
      simp only [List.getElem?_cons_zero, ob_some_eq, br_true, L102]
      rw [wrapP1 hs, ← P_tail ht]
      cases letB c <;> rfl
     ·dsimp only
      rw [sfx_lt0 (l := []) List.nil_suffix]; rfl
    rw [h4] at hw
    have hd : r.dropWhile letB <:+ s := (List.dropWhile_suffix letB).trans hr
    have hpart := while_part (p := letB) hr
    rw [h4] at hpart
    have key : ∀ {R : Type} (X : Option R), X = X := fun _ => rfl
    cases htw : r.takeWhile letB with
    | nil =>
      refine ⟨((P s (r.dropWhile letB) : Nat) : Int), ?_, ?_, ?_⟩
      ·refine cut_of hp ?_
       simp only [cutM_inl, br_false, ob_some_eq]
       refine cut_of hw ?_
       simp only [cutM_inl]
       refine (congrArg (fun z => ob z _) hpart).trans ?_
       rw [htw, ob_some_eq, show (([] : B) == []) = true from rfl, br_true, ob_some_eq, br_true, G90, oc_inl]
       unfold kindL
       rw [htw]
       cases r.dropWhile letB <;> rfl
      ·unfold kindL; rw [htw]; intro h; cases h2 : r.dropWhile letB <;> rw [h2] at h <;> cases h
      ·unfold kindL; rw [htw]; cases h2 : r.dropWhile letB <;> rw [h2] at hd <;> exact hd
    | cons k ks =>
      cases hdw : r.dropWhile letB with
      | nil =>
        have hk : kindL r = ([], [], some []) := by unfold kindL; rw [htw, hdw]
        rw [hk]
        rw [hdw] at hw hpart hd
        refine ⟨((P s [] : Nat) : Int), ?_, fun h => (by cases h), hd⟩
        refine cut_of hp ?_
        simp only [cutM_inl, br_false, ob_some_eq]
        refine cut_of hw ?_
        simp only [cutM_inl]
        refine (congrArg (fun z => ob z _) hpart).trans ?_
        rw [htw, ob_some_eq, show ((k :: ks : B) == []) = false from rfl, br_false, peek hd]
        simp only [ob_some_eq]
        rw [show (pk [] != 47) = true from rfl, br_true, G90, oc_inl]; rfl
      | cons c t =>
        rw [hdw] at hw hpart hd
        cases hc : (c == 47) with
        | false =>
          have hk : kindL r = ([], c :: t, some (c :: t)) := by unfold kindL; rw [htw, hdw]; simp only [hc, cond_false]
          rw [hk]
          refine ⟨((P s (c :: t) : Nat) : Int), ?_, fun h => (by cases h), hd⟩
          refine cut_of hp ?_
          simp only [cutM_inl, br_false, ob_some_eq]
          refine cut_of hw ?_
          simp only [cutM_inl]
          refine (congrArg (fun z => ob z _) hpart).trans ?_
          rw [htw, ob_some_eq, show ((k :: ks : B) == []) = false from rfl, br_false, peek hd]
          simp only [ob_some_eq]
          rw [show (pk (c :: t) != 47) = true by rw [show (pk (c :: t) != 47) = !(hdB 47 (c :: t)) from congrArg (!·) (pk47 _)]; simp only [hdB, hc]; rfl, br_true, G90, oc_inl]; rfl
        | true =>
          have hk : kindL r = (smallS (k :: ks), t, none) := by unfold kindL; rw [htw, hdw]; simp only [hc, cond_true]
          rw [hk]
          have hlen : (k :: ks).length ≤ 3000 := by
           have := (List.takeWhile_prefix letB (l := r)).length_le
           have := hr.length_le
           rw [htw] at *; omega
          refine ⟨((P s t : Nat) : Int), ?_, fun _ => rfl, sfx_tail hd⟩
          refine cut_of hp ?_
          simp only [cutM_inl, br_false, ob_some_eq]
          refine cut_of hw ?_
          simp only [cutM_inl]
          refine (congrArg (fun z => ob z _) hpart).trans ?_
          rw [htw, ob_some_eq, show ((k :: ks : B) == []) = false from rfl, br_false, peek hd]
          simp only [ob_some_eq]
          rw [show (pk (c :: t) != 47) = false by rw [show (pk (c :: t) != 47) = !(hdB 47 (c :: t)) from congrArg (!·) (pk47 _)]; simp only [hdB, hc]; rfl, br_false, L93 n (by omega)]
          simp only [ob_some_eq]
          rw [wrapP1 hs, ← P_tail hd]; rfl
 ·intro k p hk hks
  dsimp only
  have hk4 : k < 4 := (List.getElem?_eq_some_iff.1 hk).1
  rw [decide_eq_true (show ((k : Nat) : Int) < 4 by omega), br_true]
  have hw1 : IntKind.i64.wrap (((k : Nat) : Int) + 1) = ((k + 1 : Nat) : Int) := by rw [wrap_id (by omega) (by omega)]; rfl
  rw [hw1]
  cases hd : s[k]? with
  | none =>
    have : s.length ≤ k := List.getElem?_eq_none_iff.1 hd
    rw [decide_eq_true (show len s ≤ ((k : Nat) : Int) by unfold len; omega)]
    simp only [br_true, ob_some_eq]
    rw [G90, oc_inl]
  | some d =>
    have : k < s.length := (List.getElem?_eq_some_iff.1 hd).1
    rw [decide_eq_false (show ¬ len s ≤ ((k : Nat) : Int) by unfold len; omega)]
    simp only [br_false, take_one hd, ob_some_eq, L93 n (show [d].length ≤ 1000000000 by simp), take_one hk]
    rw [show (smallS [d] != [p]) = !(low d == p) by simp [smallS, bne]]
    cases (low d == p) with
    | true => rfl
    | false => simp only [Bool.not_false, br_true, cond_false]; rw [G90, oc_inl]
end Pe.Tryd
end
