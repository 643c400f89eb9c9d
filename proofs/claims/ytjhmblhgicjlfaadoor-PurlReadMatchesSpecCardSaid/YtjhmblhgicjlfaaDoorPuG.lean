/- PROVED HERE: a part of the seat's proofs; see the text that holds the claim's theorem. -/
import Derived.Test.YtjhmblhgicjlfaaDoorPuF
section
/- The reference's reader: what its functions answer. -/
set_option maxRecDepth 100000
namespace Pe.Tryd
open Go Go.Proofs Pe Pe.Told
abbrev RR := Gt.R2r
abbrev ERR (α : Type) := Option (((RR × Unit) × α) ⊕ Unit)
theorem ne8 (d c : UInt8) : ((d.toNat : Int) != (c.toNat : Int)) = !(d == c) := by
 cases h : (d == c) with
 | true => obtain rfl : d = c := by simpa using h
           simp
 | false =>
   have h1 : d ≠ c := by simpa using h
   have h2 : d.toNat ≠ c.toNat := fun e => h1 (UInt8.toNat_inj.1 e)
   show (!((d.toNat : Int) == (c.toNat : Int))) = _
   rw [show ((d.toNat : Int) == (c.toNat : Int)) = false by rw [beq_eq_false_iff_ne]; omega]
def isE (c : UInt8) (l : B) (b : Bool) : Bool × B := bif b then (false, l) else rIs c l
theorem G46 (n : Nat) {s l : B} {b : Bool} {ci : Int} (c : UInt8) (hc : ci = (c.toNat : Int)) (h : l <:+ s) (hs : s.length ≤ 3000) :
  @Eq (ERR (Bool × Unit)) ((orcN (n + 1)).e 46 [.ptr 0 0, .int .u8 ci] [69] [(.st 5)] ((Gt.R2r.mk s ((P s l : Nat) : Int) b, ()) : RR × Unit) [.bool] [] 0) (some (.inl ((Gt.R2r.mk s ((P s (isE c l b).2 : Nat) : Int) b, ()), ((isE c l b).1, ())))) := by
 subst hc
 rw [q46]
 unfold m46 isE
 dsimp only
 cases b with
 | true => rfl
 | false =>
   simp only [br_false, ob_some_eq, cond_false]
   rw [sfx_end h]
   cases l with
   | nil => rfl
   | cons d r =>
     rw [show ((d :: r) == ([] : B)) = false from rfl, br_false, sfx_at0 h]
     simp only [List.getElem?_cons_zero, ob_some_eq, ne8, rIs]
     cases (d == c) with
     | true => simp only [Bool.not_true, br_false, cond_true]; rw [wrapP1 hs, ← P_tail h]
     | false => rfl
theorem G95 (n : Nat) (s : B) (a : Int) (b ok : Bool) : @Eq (ERR Unit) ((orcN (n + 1)).e 95 [.ptr 0 0, .bool ok] [69] [(.st 5)] ((Gt.R2r.mk s a b, ()) : RR × Unit) [] [] 0) (some (.inl ((Gt.R2r.mk s a (b || !ok), ()), ()))) := by
 rw [q95]
 cases ok <;> cases b <;> rfl
theorem s100 (o : Orc Sx) (c : UInt8) : m100 o (c.toNat : Int) = some (hexV c, ()) :=
 eq8 (f := fun c => m100 o (c.toNat : Int)) (g := fun c => some (hexV c, ())) (by kernel_rfl) c
theorem L100 (n : Nat) (c : UInt8) : @Eq (Option (Int × Unit)) ((orcN (n + 1)).d 100 [.int .u8 (c.toNat : Int)] [(.int .i64)]) (some (hexV c, ())) := (q100 n _).trans (s100 _ c)
theorem sfx_eq {s l : B} (h : l <:+ s) (k : Nat) : (((P s l + k : Nat) : Int) == len s) = (k == l.length) := by
 have := P_add h
 unfold len
 rw [Bool.eq_iff_iff, beq_iff_eq, beq_iff_eq]
 omega
/-! a part -/
def rv (l : B) : B := bif failed (partL l) then [] else (partL l).1
theorem G47b (n : Nat) {s l : B} : @Eq (ERR (B × Unit)) ((orcN (n + 2)).e 47 [.ptr 0 0] [69] [(.st 5)] ((Gt.R2r.mk s ((P s l : Nat) : Int) true, ()) : RR × Unit) [.str] [] 0) (some (.inl ((Gt.R2r.mk s ((P s l : Nat) : Int) true, ()), ([], ())))) := by
 rw [q47]
 unfold m47
 dsimp only
 refine cut_of (loopM_end (r := .inl ([], s, ((P s l : Nat) : Int), true, ())) rfl) ?_
 simp only [cutM_inl]
 rw [G95, oc_inl]; rfl
theorem G47 (n : Nat) {s l : B} (h : l <:+ s) (hs : s.length ≤ 3000) :
  @Eq (ERR (B × Unit)) ((orcN (n + 2)).e 47 [.ptr 0 0] [69] [(.st 5)] ((Gt.R2r.mk s ((P s l : Nat) : Int) false, ()) : RR × Unit) [.str] [] 0) (some (.inl ((Gt.R2r.mk s ((P s (fin (partL l)) : Nat) : Int) (failed (partL l)), ()), (rv l, ())))) := by
 rw [q47]
 unfold m47
 dsimp only
 refine cut_of (part_loop (R := (List Int × B × Int × Bool × Unit) ⊕ (((RR × Unit) × (B × Unit)) ⊕ Unit)) (fun acc l => (bytesOf acc, s, ((P s l : Nat) : Int), false, ())) (fun acc l e => match e with
  | none => .inl (bytesOf acc, s, ((P s l : Nat) : Int), false, ())
  | some e => .inr (.inl ((Gt.R2r.mk s ((P s e : Nat) : Int) true, ()), ([], ())))) s ?_ (l.length + 1) [] l (by omega) h (by have := h.length_le; simp; omega)) ?_
 ·intro acc l hl hb
  dsimp only
  simp only [Bool.not_false, br_true, ob_some_eq]
  rw [sfx_end hl]
  cases l with
  | nil => rfl
  | cons c r =>
    rw [show ((c :: r) == ([] : B)) = false from rfl]
    simp only [Bool.not_false, br_true]
    rw [sfx_at0 hl]
    simp only [List.getElem?_cons_zero, ob_some_eq]
    rw [eq37]
    cases h37 : (c == 37) with
    | false =>
      simp only [br_false, cutM_inl, L64, ob_some_eq, br_some_eq, stop_eq]
      rw [octL_no37 h37]
      cases stopB c with
      | true => rfl
      | false =>
        simp only [br_false, cond_false]
        rw [cat1 (by simp [lim]; simp at hb; omega), wrapP1 hs, ← P_tail hl]; rfl
    | true =>
      obtain rfl : c = 37 := by simpa using h37
      simp only [br_true]
      have e1 := P_tail hl
      have h1 := sfx_tail hl
      cases r with
      | nil =>
        rw [show octL [37] = .bad [] from rfl]
        refine cut_of (r := .inr (.inr (.inr (.inl ((Gt.R2r.mk s ((P s [] : Nat) : Int) true, ()), ([], ())))))) (cut_of (loopM_end (r := .inr (.inr (.inr (.inr (.inl ((Gt.R2r.mk s ((P s [] : Nat) : Int) true, ()), ([], ()))))))) ?_) rfl) rfl
        dsimp only
        rw [show decide ((1 : Int) ≤ 2) = true from rfl, br_true, wrapP1 hs, sfx_eq hl 1]
        rw [show ((1 : Nat) == [(37 : UInt8)].length) = true from rfl, br_true, ob_some_eq, br_true, e1]
      | cons d r1 =>
        have e2 := P_tail h1
        have h2 := sfx_tail h1
        have st1 : ∀ {R : Type} (X : Bool → Option R), ob (br (((P s (37 :: d :: r1) + 1 : Nat) : Int) == len s) (some true) (ob (at? s ((P s (37 :: d :: r1) + 1 : Nat) : Int)) fun c7 => (ob (α := Int × Unit) ((orcN (n + 1)).d 100 [.int .u8 (UInt8.toNat c7 : Int)] [(.int .i64)]) fun (r8 : Int × Unit) => (some (decide (r8.1 < 0)))))) X = X (decide (hexV d < 0)) := by
         intro R X
         rw [sfx_eq hl 1, sfx_at hl 1, show ((1 : Nat) == (37 :: d :: r1).length) = false by rw [beq_eq_false_iff_ne]; simp]
         simp only [br_false, List.getElem?_cons_succ, List.getElem?_cons_zero, ob_some_eq, L100]
        cases hd : decide (hexV d < 0) with
        | true =>
          rw [oct1 hd]
          refine cut_of (r := .inr (.inr (.inr (.inl ((Gt.R2r.mk s ((P s (d :: r1) : Nat) : Int) true, ()), ([], ())))))) (cut_of (loopM_end (r := .inr (.inr (.inr (.inr (.inl ((Gt.R2r.mk s ((P s (d :: r1) : Nat) : Int) true, ()), ([], ()))))))) ?_) rfl) rfl
          dsimp only
          rw [show decide ((1 : Int) ≤ 2) = true from rfl, br_true, wrapP1 hs]
          refine (st1 _).trans ?_
          rw [hd, br_true, e1]
        | false =>
          have first : ∀ {R : Type} (X Y : Option R), ob (br (((P s (37 :: d :: r1) + 1 : Nat) : Int) == len s) (some true) (ob (at? s ((P s (37 :: d :: r1) + 1 : Nat) : Int)) fun c7 => (ob (α := Int × Unit) ((orcN (n + 1)).d 100 [.int .u8 (UInt8.toNat c7 : Int)] [(.int .i64)]) fun (r8 : Int × Unit) => (some (decide (r8.1 < 0)))))) (fun b9 => br b9 X Y) = Y := by
           intro R X Y
           refine (st1 _).trans ?_
           rw [hd, br_false]
          cases r1 with
          | nil =>
            rw [oct2 hd]
            refine cut_of (r := .inr (.inr (.inr (.inl ((Gt.R2r.mk s ((P s [] : Nat) : Int) true, ()), ([], ())))))) (cut_of ((loopM_next (y := (bytesOf acc, 2, s, ((P s [37, d] : Nat) : Int), false, ())) ?_).trans (loopM_end (r := .inr (.inr (.inr (.inr (.inl ((Gt.R2r.mk s ((P s [] : Nat) : Int) true, ()), ([], ()))))))) ?_)) rfl) rfl
            ·dsimp only
             rw [show decide ((1 : Int) ≤ 2) = true from rfl, br_true, wrapP1 hs]
             exact first _ _
            ·dsimp only
             rw [show decide ((2 : Int) ≤ 2) = true from rfl, br_true, wrapP2 hs, sfx_eq hl 2]
             rw [show ((2 : Nat) == [37, d].length) = true from rfl, br_true, ob_some_eq, br_true, e2, e1]
          | cons e r2 =>
            have e3 := P_tail h2
            have st2 : ∀ {R : Type} (X : Bool → Option R), ob (br (((P s (37 :: d :: e :: r2) + 2 : Nat) : Int) == len s) (some true) (ob (at? s ((P s (37 :: d :: e :: r2) + 2 : Nat) : Int)) fun c7 => (ob (α := Int × Unit) ((orcN (n + 1)).d 100 [.int .u8 (UInt8.toNat c7 : Int)] [(.int .i64)]) fun (r8 : Int × Unit) => (some (decide (r8.1 < 0)))))) X = X (decide (hexV e < 0)) := by
             intro R X
             rw [sfx_eq hl 2, sfx_at hl 2, show ((2 : Nat) == (37 :: d :: e :: r2).length) = false by rw [beq_eq_false_iff_ne]; simp]
             simp only [br_false, List.getElem?_cons_succ, List.getElem?_cons_zero, ob_some_eq, L100]
            cases he : decide (hexV e < 0) with
            | true =>
              rw [oct3 hd he]
              refine cut_of (r := .inr (.inr (.inr (.inl ((Gt.R2r.mk s ((P s (e :: r2) : Nat) : Int) true, ()), ([], ())))))) (cut_of ((loopM_next (y := (bytesOf acc, 2, s, ((P s (37 :: d :: e :: r2) : Nat) : Int), false, ())) ?_).trans (loopM_end (r := .inr (.inr (.inr (.inr (.inl ((Gt.R2r.mk s ((P s (e :: r2) : Nat) : Int) true, ()), ([], ()))))))) ?_)) rfl) rfl
              ·dsimp only
               rw [show decide ((1 : Int) ≤ 2) = true from rfl, br_true, wrapP1 hs]
               exact first _ _
              ·dsimp only
               rw [show decide ((2 : Int) ≤ 2) = true from rfl, br_true, wrapP2 hs]
               refine (st2 _).trans ?_
               rw [he, br_true, e2, e1]
            | false =>
              rw [oct4 hd he]
              refine cut_of (r := .inr (.inl (bytesOf (acc ++ [hexB d e]), s, ((P s r2 : Nat) : Int), false, ()))) (cut_of ((loopM_next (y := (bytesOf acc, 2, s, ((P s (37 :: d :: e :: r2) : Nat) : Int), false, ())) ?_).trans ((loopM_next (y := (bytesOf acc, 3, s, ((P s (37 :: d :: e :: r2) : Nat) : Int), false, ())) ?_).trans (loopM_end (r := .inl (bytesOf acc, s, ((P s (37 :: d :: e :: r2) : Nat) : Int), false, ())) rfl))) ?_) rfl
              ·dsimp only
               rw [show decide ((1 : Int) ≤ 2) = true from rfl, br_true, wrapP1 hs]
               exact first _ _
              ·dsimp only
               rw [show decide ((2 : Int) ≤ 2) = true from rfl, br_true, wrapP2 hs]
               refine (st2 _).trans ?_
               rw [he, br_false]; rfl
              ·simp only [cutM_inl]
               rw [wrapP1 hs, wrapP2 hs, wrapP3 hs, sfx_at hl 1, sfx_at hl 2]
               simp only [List.getElem?_cons_succ, List.getElem?_cons_zero, ob_some_eq, L100, same_one]
               rw [hex_sum d e (of_decide_eq_false hd) (of_decide_eq_false he), cat1 (by simp [lim]; simp at hb; omega)]
               simp only [ob_some_eq, cutM_inl]
               rw [e3, e2, e1]
 ·have hv : ∀ v : B, decide (0 < len (bytesOf v)) = !(v == []) := by
   intro v
   cases v with
   | nil => rfl
   | cons c v => exact decide_eq_true (by simp [len, bytesOf] <;> omega)
  unfold rv fin failed partL
  dsimp only
  simp only [List.nil_append]
  cases he : (partGo (l.length + 1) l).2.2 with
  | some e =>
    simp only [cutM_inr]
    cases ((partGo (l.length + 1) l).1 == []) <;> rfl
  | none =>
    simp only [cutM_inl]
    rw [hv, G95, oc_inl, strOf_bytes]
    cases hc : ((partGo (l.length + 1) l).1 == []) with
    | false => rfl
    | true =>
      have : (partGo (l.length + 1) l).1 = [] := by simpa using hc
      rw [this]; rfl
end Pe.Tryd
end
section
/- Read of the program answers as it is told of texts. -/
set_option maxRecDepth 100000
namespace Pe.Tryd
open Go Go.Proofs Pe Pe.Told
def verE (r : B) (e : Option B) : B × B × Option B := match e with
 | none => verL r
 | some x => ([], r, some x)
def qualsE (r : B) (e : Option B) : List Gt.Pair × B × Option B := match e with
 | none => qualsL r
 | some x => ([], r, some x)
def subE (r : B) (e : Option B) : B × B × Option B := match e with
 | none => subL r
 | some x => ([], r, some x)
def endE (r : B) (e : Option B) : Option B := match e with
 | none => (match r with
   | [] => none
   | c :: t => some (c :: t))
 | some x => some x
def errX (s : B) (x : B ⊕ Gt.Purl) : Int := match x with
 | .inl e => ((P s e : Nat) : Int)
 | .inr _ => -1
theorem readN_E {s k r0 : B} {ps : List B} {r1 v r2 sb r4 : B} {qs : List Gt.Pair} {r3 : B} {e1 e2 e3 e4 : Option B} (hH : headL s = (k, r0, none)) (hP : partsL r0 = (ps, r1, e1)) (hV : verE r1 e1 = (v, r2, e2)) (hQ : qualsE r2 e2 = (qs, r3, e3)) (hS : subE r3 e3 = (sb, r4, e4)) :
  readN s = match endE r4 e4 with
   | some e => .inl e
   | none => .inr ⟨k, Lib.join ps.dropLast [47], ps.getLastD [], v, qs, sb⟩ := by
 unfold readN
 rw [hH, bnd_none, hP]
 cases e1 with
 | some x => cases hV; cases hQ; cases hS; rfl
 | none =>
   rw [bnd_none, show verL r1 = (v, r2, e2) from hV]
   cases e2 with
   | some x => cases hQ; cases hS; rfl
   | none =>
     rw [bnd_none, show qualsL r2 = (qs, r3, e3) from hQ]
     cases e3 with
     | some x => cases hS; rfl
     | none =>
       rw [bnd_none, show subL r3 = (sb, r4, e4) from hS]
       cases e4 with
       | some x => rfl
       | none => rw [bnd_none]; cases r4 <;> rfl
theorem part_sfx {s r v r2 : B} {e2 : Option B} (h : r <:+ s) (hp : partL r = (v, r2, e2)) : r2 <:+ s := by have := (partL_sfx r).1; rw [hp] at this; exact this.trans h
theorem verE_sfx {s r1 v r2 : B} {e1 e2 : Option B} (h : r1 <:+ s) (hV : verE r1 e1 = (v, r2, e2)) : r2 <:+ s := by
 cases e1 with
 | some x => cases hV; exact h
 | none =>
   cases r1 with
   | nil => cases hV; exact h
   | cons c r =>
     have hV' : (bif c == 64 then partL r else ([], c :: r, none)) = (v, r2, e2) := hV
     cases hc : (c == 64) with
     | false => rw [hc] at hV'; cases hV'; exact h
     | true => rw [hc] at hV'; exact part_sfx (sfx_tail h) hV'
theorem qualsE_sfx {s r2 r3 : B} {qs : List Gt.Pair} {e2 e3 : Option B} (h : r2 <:+ s) (hQ : qualsE r2 e2 = (qs, r3, e3)) : r3 <:+ s ∧ qs.length ≤ s.length := by
 cases e2 with
 | some x => cases hQ; exact ⟨h, by simp⟩
 | none =>
   have := qualsGo_sfx (r2.length + 1) 63 r2
   have e : qualsGo (r2.length + 1) 63 r2 = (qs, r3, e3) := hQ
   rw [e] at this
   exact ⟨this.1.trans h, Nat.le_trans this.2 h.length_le⟩
theorem subE_sfx {s r3 sb r4 : B} {e3 e4 : Option B} (h : r3 <:+ s) (hS : subE r3 e3 = (sb, r4, e4)) : r4 <:+ s := by
 cases e3 with
 | some x => cases hS; exact h
 | none =>
   cases r3 with
   | nil => cases hS; exact h
   | cons c r =>
     have hS' : (bif c == 35 then (Lib.join (partsL r).1 [47], (partsL r).2) else ([], c :: r, none)) = (sb, r4, e4) := hS
     cases hc : (c == 35) with
     | false => rw [hc] at hS'; cases hS'; exact h
     | true =>
       rw [hc] at hS'
       have h1 := (partsGo_sfx (r.length + 1) r).1
       have h2 : (partsL r).2 = (r4, e4) := (Prod.ext_iff.1 hS').2
       have h3 : (partsL r).2.1 = r4 := by rw [h2]
       exact (h3 ▸ (show (partsL r).2.1 <:+ r from h1)).trans (sfx_tail h)
theorem join_ok {l : List B} (h1 : l.length ≤ 3001) (h2 : ∀ x ∈ l, x.length ≤ 3000) : (Lib.join l [47]).length ≤ 100000000 := by
 have h := join_len (M := 3000) h2
 have : l.length * (3000 + 1) ≤ 3001 * 3001 := Nat.mul_le_mul h1 (Nat.le_refl _)
 omega
theorem parts_ok {s r ps r1 : _} {e1 : Option B} (hs : (s : B).length ≤ 3000) (h : (r : B) <:+ s) (hP : partsL r = (ps, r1, e1)) : ps ≠ [] ∧ ps.length ≤ 3001 ∧ (∀ x ∈ ps, x.length ≤ 3000) ∧ r1 <:+ s := by
 have h1 := partsGo_sfx (r.length + 1) r
 have h2 := partsGo_ne r.length r
 have e : partsGo (r.length + 1) r = (ps, r1, e1) := hP
 rw [e] at h1 h2
 have := h.length_le
 exact ⟨h2, by have := h1.2.2.1; simp only at this; omega, fun x hx => by have := h1.2.2.2 x hx; omega, h1.1.trans h⟩
theorem last_at {l : List B} (h : l ≠ []) (hl : l.length ≤ 3001) : IntKind.i64.wrap (len l - 1) = ((l.length - 1 : Nat) : Int) ∧ at? l ((l.length - 1 : Nat) : Int) = some (l.getLastD []) ∧ part? l 0 ((l.length - 1 : Nat) : Int) = some l.dropLast := by
 have hp := pos_of h
 refine ⟨by unfold len; rw [wrap_id (by omega) (by omega)]; omega, ?_, ?_⟩
 ·rw [at?_nat]
  obtain ⟨l', x, rfl⟩ := (List.eq_nil_or_concat l).resolve_left h
  rw [List.concat_eq_append]
  simp
 ·have := part?_nat (l := l) (i := 0) (j := l.length - 1) (Nat.zero_le _) (by omega)
  rw [show part? l 0 ((l.length - 1 : Nat) : Int) = part? l ((0 : Nat) : Int) ((l.length - 1 : Nat) : Int) from rfl, this]
  simp [List.dropLast_eq_take]
/-! qualifiers -/
theorem quals_loop {R σ : Type} {f : σ → Option (σ ⊕ R)} (mk : UInt8 → List Q → B → Option B → σ) (out : List Q → B → Option B → R) (s : B)
  (hb : ∀ sg acc l e, f (mk sg acc l (some e)) = some (.inr (out acc l (some e))))
  (h : ∀ sg acc l, (sg = 63 ∨ sg = 38) → l <:+ s → acc.length + l.length ≤ 4000 → f (mk sg acc l none) = match l with
   | [] => some (.inr (out acc [] none))
   | c :: r => bif c == sg then some (.inl (mk 38 (acc ++ [(qualL r).1]) (qualL r).2.1 (qualL r).2.2)) else some (.inr (out acc (c :: r) none))) :
  ∀ k sg acc l, (sg = 63 ∨ sg = 38) → l.length < k → l <:+ s → acc.length + l.length ≤ 4000 → loopM f (mk sg acc l none) = some (out (acc ++ (qualsGo k sg l).1) (qualsGo k sg l).2.1 (qualsGo k sg l).2.2)
 | 0, _, _, _, _, hk, _, _ => by omega
 | k + 1, sg, acc, [], hsg, hk, hl, hn => by
   have h1 := h sg acc [] hsg hl hn
   rw [loopM_end h1]; simp [qualsGo]
 | k + 1, sg, acc, c :: l, hsg, hk, hl, hn => by
   have h1 := h sg acc (c :: l) hsg hl hn
   simp only at h1
   unfold qualsGo
   simp only [List.length_cons] at hk hn
   obtain ⟨p1, p2⟩ := qual_sfx l
   have hlen := p1.length_le
   cases hc : (c == sg) with
   | false => rw [hc] at h1; rw [loopM_end h1]; simp
   | true =>
     rw [hc] at h1
     simp only [cond_true] at h1 ⊢
     rw [loopM_next h1]
     cases he : (qualL l).2.2 with
     | some e => rw [loopM_end (hb _ _ _ _)]
     | none =>
       rw [quals_loop mk out s hb h k 38 (acc ++ [(qualL l).1]) (qualL l).2.1 (.inr rfl) (by omega) (p1.trans (sfx_tail hl)) (by simp <;> omega)]
       simp
theorem s38 (n : Nat) {s : B} (hs : s.length ≤ 3000) : ∃ (a : Int) (pu : Gt.Purl), m38 (orcN (n + 5)) s 0 (-1) = some (.inl (s, a, errX s (readN s), pu.kind, pu.space, pu.name, pu.version, pu.qualifiers, pu.sub, ())) ∧ (∀ p, readN s = .inr p → pu = p) ∧ pu.qualifiers.length ≤ 3000 := by
 obtain ⟨a, g, ga, gs⟩ := G85 (n + 3) hs
 unfold m38
 rw [g, oc_inl]
 dsimp only
 rw [errI_ge]
 rcases hH : headL s with ⟨k, r0, e0⟩
 rw [hH] at ga gs
 simp only at ga gs
 cases e0 with
 | some e =>
   have hN : readN s = .inl e := by unfold readN; rw [hH]; rfl
   refine ⟨a, ⟨k, [], [], [], [], []⟩, ?_, ?_, by simp⟩
   ·rw [hN]; rfl
   ·intro p hp; rw [hN] at hp; cases hp
 | none =>
   obtain rfl := ga rfl
   simp only [Option.isSome_none, br_false]
   rcases hP : partsL r0 with ⟨ps, r1, e1⟩
   obtain ⟨p1, p2, p3, hr1⟩ := parts_ok hs gs hP
   obtain ⟨w1, w2, w3⟩ := last_at p1 p2
   have hj : (Lib.join ps.dropLast [47]).length ≤ 100000000 := join_ok (by rw [List.length_dropLast]; omega) (fun x hx => p3 x (List.dropLast_subset _ hx))
   have j1 := L45 (n + 4) (l := ps.dropLast) (s := [47]) (by rw [List.length_dropLast]; omega) hj
   rw [show errI s (none : Option B) = -1 from rfl, G86 (n + 1) gs hs, oc_inl, hP]
   dsimp only
   rw [w1]
   rcases hV : verE r1 e1 with ⟨v, r2, e2⟩
   rcases hQ : qualsE r2 e2 with ⟨qs, r3, e3⟩
   rcases hS : subE r3 e3 with ⟨sb, r4, e4⟩
   have hN := readN_E hH hP hV hQ hS
   have hr2 := verE_sfx hr1 hV
   obtain ⟨hr3, hql⟩ := qualsE_sfx hr2 hQ
   have hr4 := subE_sfx hr3 hS
   refine ⟨((P s r4 : Nat) : Int), ⟨k, Lib.join ps.dropLast [47], ps.getLastD [], v, qs, sb⟩, ?_, ?_, by simp only; omega⟩
   ·refine cut_of (r := .inl (k, Lib.join ps.dropLast [47], ps.getLastD [], [], [], [], ())) ?_ ?_
    ·simp only [w2, w3, j1, ob_some_eq, same_one]
    simp only [cutM_inl]
    refine cut_of (r := .inl (s, ((P s r2 : Nat) : Int), errI s e2, k, Lib.join ps.dropLast [47], ps.getLastD [], v, [], [], ())) ?_ ?_
    ·rw [errI_lt, peek hr1]
     cases e1 with
     | some x => cases hV; rfl
     | none =>
       simp only [Option.isNone_none, br_true, ob_some_eq, pk64]
       cases r1 with
       | nil => cases hV; rfl
       | cons c r =>
         have hV' : (bif c == 64 then partL r else ([], c :: r, none)) = (v, r2, e2) := hV
         simp only [hdB]
         cases hc : (c == 64) with
         | false => rw [hc] at hV'; cases hV'; rfl
         | true =>
           rw [hc] at hV'
           simp only [cond_true] at hV'
           simp only [br_true]
           rw [wrapP1 hs, ← P_tail hr1, show errI s (none : Option B) = -1 from rfl, G88 (n + 2) (sfx_tail hr1) hs, oc_inl, hV']
    ·simp only [cutM_inl]
     refine cut_of (r := .inl (s, ((P s r3 : Nat) : Int), errI s e3, k, Lib.join ps.dropLast [47], ps.getLastD [], v, qs, [], ())) ?_ ?_
     ·cases e2 with
      | some x =>
        cases hQ
        refine loopM_end ?_
        dsimp only
        rw [errI_lt]; rfl
      | none =>
        have hQ' : qualsGo (r2.length + 1) 63 r2 = (qs, r3, e3) := hQ
        refine (quals_loop (R := (B × Int × Int × B × B × B × B × List Q × B × Unit) ⊕ ((B × Int × Int × B × B × B × B × List Q × B × Unit) ⊕ Unit)) (fun sg acc l e => ((sg.toNat : Int), s, ((P s l : Nat) : Int), errI s e, k, Lib.join ps.dropLast [47], ps.getLastD [], v, acc, [], ())) (fun acc l e => .inl (s, ((P s l : Nat) : Int), errI s e, k, Lib.join ps.dropLast [47], ps.getLastD [], v, acc, [], ())) s ?_ ?_ (r2.length + 1) 63 [] r2 (.inl rfl) (by omega) hr2 (by have := hr2.length_le; simp <;> omega)).trans ?_
        ·intro sg acc l e
         dsimp only
         rw [errI_lt]; rfl
        ·intro sg acc l hsg hl hn
         dsimp only
         rw [errI_lt, peek hl, sfx_lt0 hl]
         simp only [Option.isNone_none, br_true, ob_some_eq]
         cases l with
         | nil => rfl
         | cons c r =>
           rw [show ((c :: r) != ([] : B)) = true from rfl]
           have hpk : (pk (c :: r) == ((sg.toNat : Nat) : Int)) = (c == sg) := by
            rcases hsg with rfl | rfl
            ·exact pk63 (c :: r)
            ·exact pk38 (c :: r)
           simp only [br_true, ob_some_eq, hpk]
           cases (c == sg) with
           | false => rfl
           | true =>
             simp only [br_true, cond_true, same_one]
             rw [wrapP1 hs, ← P_tail hl, show errI s (none : Option B) = -1 from rfl, G89 (n + 1) (sfx_tail hl) hs, oc_inl, cat?_ok (by simp [lim] <;> omega)]
             rfl
        ·rw [hQ']; rfl
     ·simp only [cutM_inl]
      refine cut_of (r := .inl (s, ((P s r4 : Nat) : Int), errI s e4, k, Lib.join ps.dropLast [47], ps.getLastD [], v, qs, sb, ())) ?_ ?_
      ·rw [errI_lt, peek hr3]
       cases e3 with
       | some x => cases hS; rfl
       | none =>
         simp only [Option.isNone_none, br_true, ob_some_eq, pk35]
         cases r3 with
         | nil => cases hS; rfl
         | cons c r =>
           have hS' : (bif c == 35 then (Lib.join (partsL r).1 [47], (partsL r).2) else ([], c :: r, none)) = (sb, r4, e4) := hS
           simp only [hdB]
           cases hc : (c == 35) with
           | false => rw [hc] at hS'; cases hS'; rfl
           | true =>
             rw [hc] at hS'
             simp only [cond_true] at hS'
             simp only [br_true]
             rcases hP2 : partsL r with ⟨xs, y, z⟩
             obtain ⟨q1, q2, q3, q4⟩ := parts_ok hs (sfx_tail hr3) hP2
             rw [hP2] at hS'
             cases hS'
             rw [wrapP1 hs, ← P_tail hr3, show errI s (none : Option B) = -1 from rfl, G86 (n + 1) (sfx_tail hr3) hs, oc_inl, hP2]
             dsimp only
             rw [L45 (n + 4) (by omega) (join_ok q2 q3)]; rfl
      ·simp only [cutM_inl]
       rw [hN, errI_lt, sfx_lt0 hr4]
       cases e4 with
       | some x => rfl
       | none =>
         cases r4 with
         | nil => rfl
         | cons c r =>
           simp only [Option.isNone_none, br_true, ob_some_eq]
           rw [show ((c :: r) != ([] : B)) = true from rfl, br_true, show errI s (none : Option B) = -1 from rfl, G90, oc_inl]; rfl
   ·intro p hp
    rw [hN] at hp
    cases h5 : endE r4 e4 with
    | some e => rw [h5] at hp; cases hp
    | none => rw [h5] at hp; cases hp; rfl
/-- READ of the program. -/
theorem L10 (n : Nat) (s : B) : @Eq (Option (Gt.Purl × Int × Int × Unit)) ((orcN (n + 27)).d 10 [.str s] [(.st 4), (.int .i64), (.int .i64)]) (some (readS s)) := by
 rw [q10]
 unfold m10 readS
 cases hd : decide (3000 < len s) with
 | true => rfl
 | false =>
   have hs : s.length ≤ 3000 := by have := of_decide_eq_false hd; unfold len at this; omega
   obtain ⟨a, pu, g, gp, gl⟩ := s38 (n + 20) hs
   have g2 : @Eq (Option ((B × Int × Int × B × B × B × B × List Q × B × Unit) ⊕ Unit)) ((orcN (n + 26)).l 38 sg38 ((s, 0, (-1), ()) : List UInt8 × Int × Int × Unit)) (some (.inl (s, a, errX s (readN s), pu.kind, pu.space, pu.name, pu.version, pu.qualifiers, pu.sub, ()))) := (q38 (n + 25) s 0 (-1)).trans g
   simp only [br_false, cond_false]
   rw [g2, oc_inl]
   dsimp only
   cases hN : readN s with
   | inl e =>
     rw [show decide (0 ≤ errX s (.inl e)) = true from decide_eq_true (by unfold errX; simp only; omega), br_true, same_one]; rfl
   | inr p =>
     obtain rfl := gp p hN
     show _ = some (topS pu)
     rw [show decide (0 ≤ errX s (.inr pu)) = false from rfl, br_false]
     obtain ⟨l', h1, h2, h3⟩ := L39 (n + 1) (l := pu.qualifiers) (by omega)
     have hl' : l'.length = pu.qualifiers.length := h2.length_eq
     rw [h3, ob_some_eq]
     have hdup : adjB l' = dupQ pu.qualifiers := (adj_dup h1).trans (dup_perm h2)
     refine cut_of (loop_anyM (R := (B × B × B × B × List Q × B × B × B × B × B × List Q × B × Unit) ⊕ (Gt.Purl × Int × Int × Unit)) (fun k => (((k + 1 : Nat) : Int), [], [], [], [], [], [], pu.kind, pu.space, pu.name, pu.version, l', pu.sub, ())) (l'.length - 1) (fun k => (l'.getD (k + 1) pair0).name == (l'.getD k pair0).name) (.inr (purl0, 0, 5, ())) (.inl ([], [], [], [], [], [], pu.kind, pu.space, pu.name, pu.version, l', pu.sub, ())) ?_ ?_) ?_
     ·intro k hk
      have hk1 : k + 1 < l'.length := by omega
      have hk0 : k < l'.length := by omega
      dsimp only
      have w : IntKind.i64.wrap (((k + 1 : Nat) : Int) - 1) = ((k : Nat) : Int) := by rw [wrap_id (by omega) (by omega)]; omega
      rw [w]
      simp only [len_lt, hk1, decide_true, br_true, idxN hk1, idxN hk0, ob_some_eq, get?, List.getElem?_eq_getElem hk1, List.getElem?_eq_getElem hk0, getD_get pair0 hk1, getD_get pair0 hk0]
      rw [wrap_succ hk1 (by omega), br_if]
     ·dsimp only
      rw [decide_eq_false (by unfold len; omega)]; rfl
     ·show cutM (some (bif adjB l' then _ else _)) _ = _
      rw [hdup, cut_bif]
      unfold topS
      cases hq : dupQ pu.qualifiers with
      | true => rfl
      | false =>
        have hn : (pu.qualifiers.map (·.name)).Nodup := by
         unfold dupQ at hq
         by_cases h : (pu.qualifiers.map (·.name)).Nodup
         ·exact h
         ·rw [decide_eq_false h] at hq; cases hq
        obtain rfl : l' = sortQ pu.qualifiers := sort_of h1 h2 hn
        simp only [br_false, cond_false]
        have e25 : @Eq (Option (Int × Unit)) ((orcN (n + 26)).d 25 [.st 4 (srtP pu)] [(.int .i64)]) (some (checkS (srtP pu), ())) := L25 (n + 22) (p := srtP pu) (by show (sortQ pu.qualifiers).length ≤ _; omega)
        refine (congrArg (fun z => ob z _) e25).trans ?_
        show br (checkS (srtP pu) != 0) _ _ = _
        cases hc : (checkS (srtP pu) != 0) with
        | true => rfl
        | false =>
          simp only [br_false, cond_false]
          have e42 : @Eq (Option (Gt.Purl × Unit)) ((orcN (n + 26)).d 42 [.st 4 (srtP pu)] [(.st 4)]) (some (canonS (srtP pu), ())) := L42 (n + 22) (check_tiny (by simpa using hc))
          exact congrArg (fun z => ob z _) e42
end Pe.Tryd
end
section
/- The reference's reader: paths, the beginning, qualifiers. -/
set_option maxRecDepth 100000
namespace Pe.Tryd
open Go Go.Proofs Pe Pe.Told
/-! paths -/
def rpathGo : Nat → B → List B × B × Bool
 | 0, l => ([], l, true)
 | k + 1, l => bif failed (partL l) then ([rv l], fin (partL l), true) else match (partL l).2.1 with
   | [] => ([rv l], [], false)
   | c :: r => bif c == 47 then (rv l :: (rpathGo k r).1, (rpathGo k r).2) else ([rv l], c :: r, false)
theorem rpath_loop {R σ : Type} {f : σ → Option (σ ⊕ R)} (mk : List B → B → Bool → σ) (out : List B → B → Bool → R) (s : B)
  (hb : ∀ acc l, f (mk acc l true) = some (.inr (out acc l true)))
  (h : ∀ acc l, l <:+ s → acc.length + l.length ≤ 4000 → f (mk acc l false) = match l with
   | [] => some (.inr (out acc [] false))
   | c :: r => bif c == 47 then some (.inl (mk (acc ++ [rv r]) (fin (partL r)) (failed (partL r)))) else some (.inr (out acc (c :: r) false))) :
  ∀ k acc l, l.length < k → l <:+ s → acc.length + l.length + 1 ≤ 4000 → loopM f (mk (acc ++ [rv l]) (fin (partL l)) (failed (partL l))) = some (out (acc ++ (rpathGo k l).1) (rpathGo k l).2.1 (rpathGo k l).2.2)
 | 0, _, _, hk, _, _ => by omega
 | k + 1, acc, l, hk, hl, hn => by
   obtain ⟨p1, p2, p3⟩ := partL_sfx l
   unfold rpathGo
   cases hf : failed (partL l) with
   | true => rw [loopM_end (hb _ _)]; rfl
   | false =>
     have he : (partL l).2.2 = none := by
      unfold failed at hf
      cases h : (partL l).2.2 with
      | none => rfl
      | some e => rw [h] at hf; cases hf
     have hne := pos_of (partL_some he)
     have hs := p1.trans hl
     have hlen := p1.length_le
     rw [(fin_ok he).1]
     simp only [cond_false]
     have h1 := h (acc ++ [rv l]) (partL l).2.1 hs (by simp <;> omega)
     cases hr : (partL l).2.1 with
     | nil => rw [hr] at h1; rw [loopM_end h1]
     | cons c r =>
       rw [hr] at h1 hs hlen p2
       simp only at h1 ⊢
       simp only [List.length_cons] at p2 hlen
       cases hc : (c == 47) with
       | false => rw [hc] at h1; rw [loopM_end h1]; rfl
       | true =>
         rw [hc] at h1
         rw [loopM_next h1, rpath_loop mk out s hb h k (acc ++ [rv l]) r (by omega) (sfx_tail hs) (by simp <;> omega)]
         simp
theorem rpath_parts : ∀ (k : Nat) (l : B), l.length < k → (rpathGo k l).2.1 = fin (partsGo k l) ∧ (rpathGo k l).2.2 = failed (partsGo k l) ∧ ((partsGo k l).2.2 = none → (rpathGo k l).1 = (partsGo k l).1) ∧ (rpathGo k l).1 ≠ [] ∧ (rpathGo k l).1.length ≤ l.length + 1 ∧ ∀ x ∈ (rpathGo k l).1, x.length ≤ l.length
 | 0, _, h => by omega
 | k + 1, l, hk => by
   obtain ⟨p1, p2, p3⟩ := partL_sfx l
   have hrv : (rv l).length ≤ l.length := by unfold rv; cases failed (partL l) <;> simp <;> omega
   have hone : ∀ x ∈ [rv l], x.length ≤ l.length := by simpa using hrv
   unfold rpathGo partsGo
   cases he : (partL l).2.2 with
   | some e =>
     obtain ⟨f1, f2⟩ := fin_bad he
     rw [f2, f1]
     exact ⟨rfl, rfl, fun h => (by cases h), by simp, by simp, hone⟩
   | none =>
     obtain ⟨f1, f2⟩ := fin_ok he
     have hv : rv l = (partL l).1 := by unfold rv; rw [f2]; rfl
     rw [f2]
     simp only [cond_false]
     cases hr : (partL l).2.1 with
     | nil => exact ⟨rfl, rfl, fun _ => by rw [hv], by simp, by simp, hone⟩
     | cons c r =>
       rw [hr] at p2
       simp only [List.length_cons] at p2
       simp only
       cases hc : (c == 47) with
       | false => exact ⟨rfl, rfl, fun _ => by rw [hv]; rfl, by simp, by simp, hone⟩
       | true =>
         obtain ⟨i1, i2, i3, i4, i5, i6⟩ := rpath_parts k r (by omega)
         simp only [cond_true]
         refine ⟨i1, i2, fun h => by rw [hv, i3 h], by simp, by simp only [List.length_cons]; omega, fun x hx => ?_⟩
         rcases List.mem_cons.1 hx with rfl | hx
         ·exact hrv
         ·have := i6 x hx; omega
theorem G44 (n : Nat) {s l : B} (h : l <:+ s) (hs : s.length ≤ 3000) :
  @Eq (ERR (List B × Unit)) ((orcN (n + 3)).e 44 [.ptr 0 0] [69] [(.st 5)] ((Gt.R2r.mk s ((P s l : Nat) : Int) false, ()) : RR × Unit) [(.sl .str)] [] 0) (some (.inl ((Gt.R2r.mk s ((P s (rpathGo (l.length + 1) l).2.1 : Nat) : Int) (rpathGo (l.length + 1) l).2.2, ()), ((rpathGo (l.length + 1) l).1, ())))) := by
 rw [q44]
 unfold m44
 rw [G47 n h hs, oc_inl]
 dsimp only
 refine cut_of (rpath_loop (R := (List B × B × Int × Bool × Unit) ⊕ (((RR × Unit) × (List B × Unit)) ⊕ Unit)) (fun acc l b => (acc, s, ((P s l : Nat) : Int), b, ())) (fun acc l b => .inl (acc, s, ((P s l : Nat) : Int), b, ())) s ?_ ?_ (l.length + 1) [] l (by omega) h (by have := h.length_le; simp <;> omega)) ?_
 ·intro acc l
  dsimp only
  rw [q46]; rfl
 ·intro acc l hl hn
  dsimp only
  rw [G46 (ci := 47) (n + 1) 47 rfl hl hs, oc_inl]
  dsimp only
  unfold isE rIs
  cases l with
  | nil => rfl
  | cons c r =>
    simp only [cond_false]
    cases (c == 47) with
    | false => rfl
    | true =>
      simp only [cond_true, br_true]
      rw [G47 n (sfx_tail hl) hs, oc_inl, cat?_ok (by simp [lim] <;> omega)]; rfl
 ·rfl
theorem G44b (n : Nat) {s l : B} :
  @Eq (ERR (List B × Unit)) ((orcN (n + 3)).e 44 [.ptr 0 0] [69] [(.st 5)] ((Gt.R2r.mk s ((P s l : Nat) : Int) true, ()) : RR × Unit) [(.sl .str)] [] 0) (some (.inl ((Gt.R2r.mk s ((P s l : Nat) : Int) true, ()), ([[]], ())))) := by
 rw [q44]
 unfold m44
 rw [G47b n, oc_inl]
 dsimp only
 refine cut_of (loopM_end (r := .inl ([[]], s, ((P s l : Nat) : Int), true, ())) ?_) rfl
 dsimp only
 rw [q46]; rfl
theorem G46b (n : Nat) {s l : B} (c : Int) :
  @Eq (ERR (Bool × Unit)) ((orcN (n + 1)).e 46 [.ptr 0 0, .int .u8 c] [69] [(.st 5)] ((Gt.R2r.mk s ((P s l : Nat) : Int) true, ()) : RR × Unit) [.bool] [] 0) (some (.inl ((Gt.R2r.mk s ((P s l : Nat) : Int) true, ()), (false, ())))) := by
 rw [q46]; rfl
/-! the beginning -/
def st (p : UInt8) (l : B) (b : Bool) : B × Bool := bif b then (l, true) else match l with
 | [] => ([], true)
 | d :: r => bif low d == p then (r, false) else (d :: r, true)
theorem st_sfx {p : UInt8} {l : B} {b : Bool} : (st p l b).1 <:+ l := by
 unfold st
 cases b with
 | true => exact List.suffix_refl _
 | false =>
   cases l with
   | nil => exact List.suffix_refl _
   | cons d r =>
     simp only [cond_false]
     cases (low d == p) with
     | true => exact List.suffix_cons _ _
     | false => exact List.suffix_refl _
theorem st_all (ps : B) : ∀ l : B, ps.foldl (fun (q : B × Bool) p => st p q.1 q.2) (l, true) = (l, true) := by
 induction ps with
 | nil => intro l; rfl
 | cons p ps ih => intro l; exact ih l
theorem st_pre : ∀ (ps l : B), ps.foldl (fun (q : B × Bool) p => st p q.1 q.2) (l, false) = match preL ps l with
  | .inl r => (r, false)
  | .inr e => (e, true)
 | [], l => rfl
 | p :: ps, [] => st_all ps []
 | p :: ps, d :: l => by
   show ps.foldl _ (bif low d == p then (l, false) else (d :: l, true)) = match (bif low d == p then preL ps l else .inr (d :: l)) with
    | .inl r => (r, false)
    | .inr e => (e, true)
   cases (low d == p) with
   | true => exact st_pre ps l
   | false => exact st_all ps (d :: l)
theorem st_t {p : UInt8} (hp : ∀ d, (d == p) = true → (low d == p) = true) {l : B} {b : Bool} (h : (isE p l b).1 = true) : st p l b = ((isE p l b).2, b) := by
 unfold st isE rIs at *
 cases b with
 | true => cases h
 | false =>
   cases l with
   | nil => cases h
   | cons d r =>
     simp only [cond_false] at *
     cases hd : (d == p) with
     | false => rw [hd] at h; cases h
     | true => rw [hp d hd]; rfl
theorem st_f {p q : UInt8} (hp : ∀ d, (low d == p) = ((d == p) || (d == q))) {l : B} {b : Bool} (h : (isE p l b).1 = false) : (isE p l b).2 = l ∧ st p l b = ((isE q l b).2, b || !(isE q l b).1) := by
 unfold st isE rIs at *
 cases b with
 | true => exact ⟨rfl, rfl⟩
 | false =>
   cases l with
   | nil => exact ⟨rfl, rfl⟩
   | cons d r =>
     simp only [cond_false] at *
     cases hd : (d == p) with
     | true => rw [hd] at h; cases h
     | false =>
       refine ⟨rfl, ?_⟩
       rw [hp d, hd, Bool.false_or]
       cases (d == q) <;> rfl
theorem st_58 (l : B) (b : Bool) : st 58 l b = ((isE 58 l b).2, b || !(isE 58 l b).1) := by
 have hp : ∀ d, (low d == 58) = (d == 58) := fun d => eq8 (f := fun d => (low d == 58)) (g := fun d => (d == 58)) (by decide +kernel) d
 unfold st isE rIs
 cases b with
 | true => rfl
 | false =>
   cases l with
   | nil => rfl
   | cons d r =>
     simp only [cond_false, hp d]
     cases (d == 58) <;> rfl
theorem low112 (d : UInt8) : (low d == 112) = ((d == 112) || (d == 80)) := eq8 (f := fun d => (low d == 112)) (g := fun d => ((d == 112) || (d == 80))) (by decide +kernel) d
theorem low107 (d : UInt8) : (low d == 107) = ((d == 107) || (d == 75)) := eq8 (f := fun d => (low d == 107)) (g := fun d => ((d == 107) || (d == 75))) (by decide +kernel) d
theorem low103 (d : UInt8) : (low d == 103) = ((d == 103) || (d == 71)) := eq8 (f := fun d => (low d == 103)) (g := fun d => ((d == 103) || (d == 71))) (by decide +kernel) d
theorem st_step (n : Nat) {s l : B} {b : Bool} (h : l <:+ s) (hs : s.length ≤ 3000) (p q : UInt8) {pi qi : Int} (hpi : pi = (p.toNat : Int)) (hqi : qi = (q.toNat : Int)) (hp : ∀ d, (low d == p) = ((d == p) || (d == q))) {R : Type} (K : B → Int → Bool → Option R) (X : Option R) :
  oc (α := ((RR × Unit) × (Bool × Unit))) (β := Unit) ((orcN (n + 1)).e 46 [.ptr 0 0, .int .u8 pi] [69] [(.st 5)] ((Gt.R2r.mk s ((P s l : Nat) : Int) b, ()) : RR × Unit) [.bool] [] 0) (fun r4 => br r4.2.1 (oc (α := ((RR × Unit) × Unit)) (β := Unit) ((orcN (n + 1)).e 95 [.ptr 0 0, .bool true] [69] [(.st 5)] ((r4.1.1, ()) : RR × Unit) [] [] 0) (fun r5 => K r5.1.1.s r5.1.1.at_ r5.1.1.bad) fun _ => X) (oc (α := ((RR × Unit) × (Bool × Unit))) (β := Unit) ((orcN (n + 1)).e 46 [.ptr 0 0, .int .u8 qi] [69] [(.st 5)] ((r4.1.1, ()) : RR × Unit) [.bool] [] 0) (fun r7 => oc (α := ((RR × Unit) × Unit)) (β := Unit) ((orcN (n + 1)).e 95 [.ptr 0 0, .bool r7.2.1] [69] [(.st 5)] ((r7.1.1, ()) : RR × Unit) [] [] 0) (fun r8 => K r8.1.1.s r8.1.1.at_ r8.1.1.bad) fun _ => X) fun _ => X)) (fun _ => X) = K s ((P s (st p l b).1 : Nat) : Int) (st p l b).2 := by
 rw [G46 n p hpi h hs, oc_inl]
 dsimp only
 cases hi : (isE p l b).1 with
 | true =>
   rw [st_t (fun d hd => by rw [hp d, hd]; rfl) hi, br_true, G95, oc_inl]
   cases b <;> rfl
 | false =>
   obtain ⟨e1, e2⟩ := st_f hp hi
   rw [e1, e2, br_false, G46 n q hqi h hs, oc_inl]
   dsimp only
   rw [G95, oc_inl]
theorem G43 (n : Nat) {s : B} (hs : s.length ≤ 3000) : ∃ z : B, @Eq (ERR (B × Unit)) ((orcN (n + 2)).e 43 [.ptr 0 0] [69] [(.st 5)] ((Gt.R2r.mk s 0 false, ()) : RR × Unit) [.str] [] 0) (some (.inl ((Gt.R2r.mk s ((P s (fin (headL s)) : Nat) : Int) (failed (headL s)), ()), (z, ())))) ∧ ((headL s).2.2 = none → z = (headL s).1) ∧ fin (headL s) <:+ s := by
 rw [q43]
 unfold m43
 dsimp only
 have hp := st_pre [112, 107, 103, 58] s
 simp only [List.foldl_cons, List.foldl_nil] at hp
 rcases h1 : st 112 s false with ⟨l1, b1⟩
 rw [h1] at hp
 have s1 : l1 <:+ s := by have := st_sfx (p := 112) (l := s) (b := false); rw [h1] at this; exact this
 rcases h2 : st 107 l1 b1 with ⟨l2, b2⟩
 simp only [h2] at hp
 have s2 : l2 <:+ s := by have := st_sfx (p := 107) (l := l1) (b := b1); rw [h2] at this; exact this.trans s1
 rcases h3 : st 103 l2 b2 with ⟨l3, b3⟩
 simp only [h3] at hp
 have s3 : l3 <:+ s := by have := st_sfx (p := 103) (l := l2) (b := b2); rw [h3] at this; exact this.trans s2
 rcases h4 : st 58 l3 b3 with ⟨l4, b4⟩
 rw [h4] at hp
 have s4 : l4 <:+ s := by have := st_sfx (p := 58) (l := l3) (b := b3); rw [h4] at this; exact this.trans s3
 rw [st_58] at h4
 have hz : ((P s s : Nat) : Int) = 0 := by simp [P]
 have hfalse : b4 = false → headL s = kindL l4 ∧ l4.dropWhile letB <:+ s ∧ decide (((P s l4 : Nat) : Int) < ((P s (l4.dropWhile letB) : Nat) : Int)) = !(l4.takeWhile letB == []) ∧ (l4.takeWhile letB).length ≤ 1000000000 := by
  intro hb
  subst hb
  have he : preL [112, 107, 103, 58] s = .inl l4 := by
   cases hq : preL [112, 107, 103, 58] s with
   | inl r => rw [hq] at hp; cases hp; rfl
   | inr e => rw [hq] at hp; cases hp
  have hh : headL s = kindL l4 := by unfold headL; rw [he]
  have hd : l4.dropWhile letB <:+ s := (List.dropWhile_suffix letB).trans s4
  have hdec : decide (((P s l4 : Nat) : Int) < ((P s (l4.dropWhile letB) : Nat) : Int)) = !(l4.takeWhile letB == []) := by
   have e : l4.takeWhile letB ++ l4.dropWhile letB = l4 := List.takeWhile_append_dropWhile
   have e2 := congrArg List.length e
   rw [List.length_append] at e2
   have p1 := P_add s4
   have p2 := P_add hd
   cases htw : l4.takeWhile letB with
   | nil => rw [htw] at e2; exact decide_eq_false (by simp at e2; omega)
   | cons k ks => rw [htw] at e2; exact decide_eq_true (by simp at e2; omega)
  have hlen : (l4.takeWhile letB).length ≤ 1000000000 := by
   have := (List.takeWhile_prefix letB (l := l4)).length_le
   have := s4.length_le
   omega
  exact ⟨hh, hd, hdec, hlen⟩
 refine ⟨smallS (bif b4 then [] else l4.takeWhile letB), ?_, ?_, ?_⟩
 ·refine cut_of ((loopM_next (y := (1, s, ((P s l1 : Nat) : Int), b1, ())) ?_).trans ((loopM_next (y := (2, s, ((P s l2 : Nat) : Int), b2, ())) ?_).trans ((loopM_next (y := (3, s, ((P s l3 : Nat) : Int), b3, ())) ?_).trans (loopM_end (r := .inl (s, ((P s l3 : Nat) : Int), b3, ())) rfl)))) ?_
  ·dsimp only
   have this := st_step n (b := false) (List.suffix_refl s) hs 112 80 (pi := 112) (qi := 80) rfl rfl low112 (R := ((Int × B × Int × Bool × Unit) ⊕ ((B × Int × Bool × Unit) ⊕ (((RR × Unit) × (B × Unit)) ⊕ Unit)))) (fun x a b => some (.inl (1, x, a, b, ()))) (some (.inr (.inr (.inr ()))))
   rw [hz, h1] at this
   exact this
  ·dsimp only
   have this := st_step n (b := b1) s1 hs 107 75 (pi := 107) (qi := 75) rfl rfl low107 (R := ((Int × B × Int × Bool × Unit) ⊕ ((B × Int × Bool × Unit) ⊕ (((RR × Unit) × (B × Unit)) ⊕ Unit)))) (fun x a b => some (.inl (2, x, a, b, ()))) (some (.inr (.inr (.inr ()))))
   rw [h2] at this
   exact this
  ·dsimp only
   have this := st_step n (b := b2) s2 hs 103 71 (pi := 103) (qi := 71) rfl rfl low103 (R := ((Int × B × Int × Bool × Unit) ⊕ ((B × Int × Bool × Unit) ⊕ (((RR × Unit) × (B × Unit)) ⊕ Unit)))) (fun x a b => some (.inl (3, x, a, b, ()))) (some (.inr (.inr (.inr ()))))
   rw [h3] at this
   exact this
  simp only [cutM_inl]
  rw [G46 (ci := 58) n 58 rfl s3 hs, oc_inl]
  dsimp only
  rw [G95, oc_inl]
  dsimp only
  have h4a : (isE 58 l3 b3).2 = l4 := (Prod.ext_iff.1 h4).1
  have h4b : (b3 || !(isE 58 l3 b3).1) = b4 := (Prod.ext_iff.1 h4).2
  rw [h4a, h4b]
  cases hb : b4 with
  | true =>
    subst hb
    have he : preL [112, 107, 103, 58] s = .inr l4 := by
     cases hq : preL [112, 107, 103, 58] s with
     | inl r => rw [hq] at hp; cases hp
     | inr e => rw [hq] at hp; cases hp; rfl
    have hh : headL s = ([], s, some l4) := by unfold headL; rw [he]
    rw [hh]
    refine cut_of (loopM_end (r := .inl (s, ((P s l4 : Nat) : Int), true, ())) rfl) ?_
    simp only [cutM_inl, cond_true]
    rw [part?_nat (Nat.le_refl _) (P_le s l4), ob_some_eq, Nat.sub_self, List.take_zero, L96 n (show ([] : B).length ≤ 1000000000 by simp), ob_some_eq, G95, oc_inl, decide_eq_false (Int.lt_irrefl _)]
    dsimp only
    rw [show (true || !false) = true from rfl, G46b, oc_inl, G95, oc_inl]; rfl
  | false =>
    subst hb
    obtain ⟨hh, hd, hdec, hlen⟩ := hfalse rfl
    rw [hh]
    simp only [cond_false]
    refine cut_of (while_loop (R := (B × Int × Bool × Unit) ⊕ (((RR × Unit) × (B × Unit)) ⊕ Unit)) (fun k => (s, ((k : Nat) : Int), false, ())) (fun k => .inl (s, ((k : Nat) : Int), false, ())) s letB 0 ?_ ?_ l4 s4 (Nat.zero_le _)) ?_
    ·intro c t ht _
     dsimp only
     simp only [Bool.not_false, br_true, ob_some_eq]
     rw [sfx_end ht, show ((c :: t) == ([] : B)) = false from rfl]
     simp only [Bool.not_false, br_true]
     rw [sfx_at0 ht]
     simp only [List.getElem?_cons_zero, ob_some_eq, br_some_eq]
     rw [show (bif (bif decide (97 ≤ (c.toNat : Int)) then decide ((c.toNat : Int) ≤ 122) else false) then true else bif decide (65 ≤ (c.toNat : Int)) then decide ((c.toNat : Int) ≤ 90) else false) = letB c from eq8 (f := fun c => bif (bif decide (97 ≤ (c.toNat : Int)) then decide ((c.toNat : Int) ≤ 122) else false) then true else bif decide (65 ≤ (c.toNat : Int)) then decide ((c.toNat : Int) ≤ 90) else false) (g := letB) (by decide +kernel) c]
     rw [wrapP1 hs, ← P_tail ht]
     cases letB c <;> rfl
    ·dsimp only
     simp only [Bool.not_false, br_true, ob_some_eq]
     rw [sfx_end (l := []) List.nil_suffix]; rfl
    ·simp only [cutM_inl]
     rw [while_part (p := letB) s4, ob_some_eq, L96 n hlen, ob_some_eq, G95, oc_inl, hdec]
     dsimp only
     rw [G46 (ci := 47) n 47 rfl hd hs, oc_inl]
     dsimp only
     rw [G95, oc_inl]
     dsimp only
     unfold kindL isE rIs
     cases l4.takeWhile letB with
     | nil => cases l4.dropWhile letB <;> rfl
     | cons k ks =>
       cases l4.dropWhile letB with
       | nil => rfl
       | cons c r =>
         simp only [show ((k :: ks : B) == []) = false from rfl, Bool.not_false, Bool.not_true, Bool.or_false, cond_false, Bool.false_or]
         cases (c == 47) <;> rfl
 ·intro h
  cases hb : b4 with
  | true =>
    subst hb
    have he : preL [112, 107, 103, 58] s = .inr l4 := by
     cases hq : preL [112, 107, 103, 58] s with
     | inl r => rw [hq] at hp; cases hp
     | inr e => rw [hq] at hp; cases hp; rfl
    have hh : headL s = ([], s, some l4) := by unfold headL; rw [he]
    rw [hh] at h; cases h
  | false =>
    obtain ⟨hh, hd, hdec, hlen⟩ := hfalse hb
    rw [hh] at h ⊢
    simp only [cond_false]
    unfold kindL at h ⊢
    cases htw : l4.takeWhile letB with
    | nil => rw [htw] at h; cases hdw : l4.dropWhile letB <;> rw [hdw] at h <;> cases h
    | cons k ks =>
      rw [htw] at h
      cases hdw : l4.dropWhile letB with
      | nil => rw [hdw] at h; cases h
      | cons c r =>
        rw [hdw] at h
        simp only at h ⊢
        cases hc : (c == 47) with
        | false => rw [hc] at h; cases h
        | true => rfl
 ·cases hb : b4 with
  | true =>
    subst hb
    have he : preL [112, 107, 103, 58] s = .inr l4 := by
     cases hq : preL [112, 107, 103, 58] s with
     | inl r => rw [hq] at hp; cases hp
     | inr e => rw [hq] at hp; cases hp; rfl
    have hh : headL s = ([], s, some l4) := by unfold headL; rw [he]
    rw [hh]
    exact s4
  | false =>
    obtain ⟨hh, hd, hdec, hlen⟩ := hfalse hb
    rw [hh]
    unfold fin kindL
    cases l4.takeWhile letB with
    | nil => cases hdw : l4.dropWhile letB <;> rw [hdw] at hd <;> exact hd
    | cons k ks =>
      cases hdw : l4.dropWhile letB with
      | nil => rw [hdw] at hd; exact hd
      | cons c r =>
        rw [hdw] at hd
        simp only
        cases (c == 47) with
        | false => exact hd
        | true => exact sfx_tail hd
end Pe.Tryd
end
section
/- The reference's qualifiers; Read of the reference. -/
set_option maxRecDepth 100000
namespace Pe.Tryd
open Go Go.Proofs Pe Pe.Told
def eP (r : B) (e : Option B) : B := match e with
 | none => r
 | some x => x
theorem gt_lt (a q : Q) : (!((Op.bytesLess a.name q.name) || (a.name == q.name))) = ltQ q a := by
 cases h1 : ltQ q a with
 | true =>
   have h2 : Op.bytesLess a.name q.name = false := woQ.asym q a h1
   rw [h2]
   cases h3 : (a.name == q.name) with
   | false => rfl
   | true => rw [lt_self (a := q) (b := a) (by simpa using (beq_iff_eq.1 h3).symm)] at h1; cases h1
 | false =>
   cases h2 : Op.bytesLess a.name q.name with
   | true => rfl
   | false =>
     have := lt_total (a := a) (b := q) h2 h1
     rw [this]; simp
theorem nameB1 (c : UInt8) (f : Bool) : (bif !(bif decide (97 ≤ (c.toNat : Int)) then decide ((c.toNat : Int) ≤ 122) else false) then (bif f then true else !(bif (bif (bif (bif decide (48 ≤ (c.toNat : Int)) then decide ((c.toNat : Int) ≤ 57) else false) then true else ((c.toNat : Int) == 46)) then true else ((c.toNat : Int) == 45)) then true else ((c.toNat : Int) == 95))) else false) = !nameB c f := by
 cases f
 ·exact eq8 (f := fun c => (bif !(bif decide (97 ≤ (c.toNat : Int)) then decide ((c.toNat : Int) ≤ 122) else false) then (bif false then true else !(bif (bif (bif (bif decide (48 ≤ (c.toNat : Int)) then decide ((c.toNat : Int) ≤ 57) else false) then true else ((c.toNat : Int) == 46)) then true else ((c.toNat : Int) == 45)) then true else ((c.toNat : Int) == 95))) else false)) (g := fun c => !nameB c false) (by decide +kernel) c
 ·exact eq8 (f := fun c => (bif !(bif decide (97 ≤ (c.toNat : Int)) then decide ((c.toNat : Int) ≤ 122) else false) then (bif true then true else !(bif (bif (bif (bif decide (48 ≤ (c.toNat : Int)) then decide ((c.toNat : Int) ≤ 57) else false) then true else ((c.toNat : Int) == 46)) then true else ((c.toNat : Int) == 45)) then true else ((c.toNat : Int) == 95))) else false)) (g := fun c => !nameB c true) (by decide +kernel) c
theorem name_dec {s l : B} (h : l <:+ s) : decide (((P s l : Nat) : Int) < ((P s (nameRest l) : Nat) : Int)) = !(nameWhile l == []) := by
 have e := nameRest_sfx l
 have hr : nameRest l <:+ s := (show nameRest l <:+ l from ⟨nameWhile l, e⟩).trans h
 have e2 := congrArg List.length e
 rw [List.length_append] at e2
 have p1 := P_add h
 have p2 := P_add hr
 cases htw : nameWhile l with
 | nil => rw [htw] at e2; exact decide_eq_false (by simp at e2; omega)
 | cons k ks => rw [htw] at e2; exact decide_eq_true (by simp at e2; omega)
theorem G48 (n : Nat) {s l : B} (h : l <:+ s) (hs : s.length ≤ 3000) :
  ∃ z : Gt.Pair, @Eq (ERR (Gt.Pair × Unit)) ((orcN (n + 3)).e 48 [.ptr 0 0] [69] [(.st 5)] ((Gt.R2r.mk s ((P s l : Nat) : Int) false, ()) : RR × Unit) [(.st 3)] [] 0) (some (.inl ((Gt.R2r.mk s ((P s (fin (qualL l)) : Nat) : Int) (failed (qualL l)), ()), (z, ())))) ∧ ((qualL l).2.2 = none → z = (qualL l).1) ∧ fin (qualL l) <:+ l := by
 rw [q48]
 unfold m48
 dsimp only
 have hr : nameRest l <:+ s := (show nameRest l <:+ l from ⟨nameWhile l, nameRest_sfx l⟩).trans h
 have hfs : fin (qualL l) <:+ l := by
  obtain ⟨p1, p3⟩ := qual_sfx l
  unfold fin
  cases h : (qualL l).2.2 with
  | none => exact p1
  | some e => exact p3 e h
 have hX : ∃ z : Gt.Pair, (oc (α := ((RR × Unit) × Unit)) (β := Unit) ((orcN (n + 2)).e 95 [.ptr 0 0, .bool (!(nameWhile l == []))] [69] [(.st 5)] ((Gt.R2r.mk s ((P s (nameRest l) : Nat) : Int) false, ()) : RR × Unit) [] [] 0) (fun (r15 : ((RR × Unit) × Unit)) => (oc (α := ((RR × Unit) × (Bool × Unit))) (β := Unit) ((orcN (n + 2)).e 46 [.ptr 0 0, .int .u8 61] [69] [(.st 5)] ((r15.1.1, ()) : RR × Unit) [.bool] [] 0) (fun (r16 : ((RR × Unit) × (Bool × Unit))) => (oc (α := ((RR × Unit) × Unit)) (β := Unit) ((orcN (n + 2)).e 95 [.ptr 0 0, .bool r16.2.1] [69] [(.st 5)] ((r16.1.1, ()) : RR × Unit) [] [] 0) (fun (r17 : ((RR × Unit) × Unit)) => (br (!(Gt.R2r.bad r17.1.1)) (oc (α := ((RR × Unit) × (List UInt8 × Unit))) (β := Unit) ((orcN (n + 2)).e 47 [.ptr 0 0] [69] [(.st 5)] ((r17.1.1, ()) : RR × Unit) [.str] [] 0) (fun (r18 : ((RR × Unit) × (List UInt8 × Unit))) => (some (.inl ((r18.1.1, ()), ((Gt.Pair.mk (nameWhile l) r18.2.1), ()))))) fun (p19 : Unit) => (some (.inr (())))) (some (.inl ((r17.1.1, ()), ((Gt.Pair.mk (nameWhile l) []), ())))))) fun (p20 : Unit) => (some (.inr (()))))) fun (p21 : Unit) => (some (.inr (()))))) fun (p22 : Unit) => (some (.inr (())))) = (some (.inl ((Gt.R2r.mk s ((P s (fin (qualL l)) : Nat) : Int) (failed (qualL l)), ()), (z, ()))) : ERR (Gt.Pair × Unit)) ∧ ((qualL l).2.2 = none → z = (qualL l).1) := by
  rw [G95, oc_inl]
  dsimp only
  unfold qualL
  cases hw : nameWhile l with
  | nil =>
    refine ⟨⟨[], []⟩, ?_, fun h => (by cases hn : nameRest l <;> rw [hn] at h <;> cases h)⟩
    rw [show (false || !(!(([] : B) == []))) = true from rfl, G46b, oc_inl]
    dsimp only
    rw [G95, oc_inl]
    cases nameRest l <;> rfl
  | cons k ks =>
    rw [show (false || !(!((k :: ks : B) == []))) = false from rfl, G46 (ci := 61) (n + 1) 61 rfl hr hs, oc_inl]
    dsimp only
    rw [G95, oc_inl]
    dsimp only
    unfold isE rIs
    cases hn : nameRest l with
    | nil => exact ⟨⟨k :: ks, []⟩, rfl, fun h => (by cases h)⟩
    | cons c r =>
      rw [hn] at hr
      simp only [cond_false]
      cases hc : (c == 61) with
      | false => exact ⟨⟨k :: ks, []⟩, rfl, fun h => (by cases h)⟩
      | true =>
        refine ⟨⟨k :: ks, rv r⟩, ?_, fun h => ?_⟩
        ·simp only [cond_true, show (false || !true) = false from rfl, Bool.not_false, br_true]
         rw [G47 n (sfx_tail hr) hs, oc_inl]; rfl
        ·simp only [cond_true] at h ⊢
         unfold rv
         rw [(fin_ok h).2]; rfl
 obtain ⟨z, hz, hz2⟩ := hX
 refine ⟨z, ?_, hz2, hfs⟩
 refine cut_of (r := .inl (s, ((P s (nameRest l) : Nat) : Int), false, ())) ?_ ?_
 ·have rest : ∀ (f : B × Int × Bool × Unit → Option ((B × Int × Bool × Unit) ⊕ ((B × Int × Bool × Unit) ⊕ (((RR × Unit) × (Gt.Pair × Unit)) ⊕ Unit)))),
    (∀ (c : UInt8) (r : B), c :: r <:+ s → P s l ≤ P s (c :: r) → f (s, ((P s (c :: r) : Nat) : Int), false, ()) = bif nameB c (((P s (c :: r) : Nat) : Int) == ((P s l : Nat) : Int)) then some (.inl (s, ((P s r : Nat) : Int), false, ())) else some (.inr (.inl (s, ((P s (c :: r) : Nat) : Int), false, ())))) →
    f (s, ((P s [] : Nat) : Int), false, ()) = some (.inr (.inl (s, ((P s [] : Nat) : Int), false, ()))) →
    loopM f (s, ((P s l : Nat) : Int), false, ()) = some (.inl (s, ((P s (nameRest l) : Nat) : Int), false, ())) := by
   intro f h1 h2
   cases l with
   | nil => exact loopM_end h2
   | cons c r =>
     have hc := h1 c r h (Nat.le_refl _)
     rw [beq_self_eq_true] at hc
     rw [nameR_cons]
     cases hb : nameB c true with
     | false => rw [hb] at hc; exact loopM_end hc
     | true =>
       rw [hb] at hc
       rw [loopM_next hc]
       refine while_loop (R := (B × Int × Bool × Unit) ⊕ (((RR × Unit) × (Gt.Pair × Unit)) ⊕ Unit)) (fun k => (s, ((k : Nat) : Int), false, ())) (fun k => .inl (s, ((k : Nat) : Int), false, ())) s (nameB · false) (P s (c :: r) + 1) ?_ h2 r (sfx_tail h) (by rw [P_tail h]; exact Nat.le_refl _)
       intro d t ht hk
       have := h1 d t ht (by omega)
       rw [show (((P s (d :: t) : Nat) : Int) == ((P s (c :: r) : Nat) : Int)) = false by rw [beq_eq_false_iff_ne]; omega] at this
       exact this
  refine rest _ ?_ ?_
  ·intro c t ht _
   dsimp only
   simp only [Bool.not_false, br_true, ob_some_eq]
   rw [sfx_end ht, show ((c :: t) == ([] : B)) = false from rfl]
   simp only [Bool.not_false, br_true]
   rw [sfx_at0 ht]
   simp only [List.getElem?_cons_zero, ob_some_eq, br_some_eq]
   rw [nameB1, wrapP1 hs, ← P_tail ht]
   cases nameB c (((P s (c :: t) : Nat) : Int) == ((P s l : Nat) : Int)) <;> rfl
  ·dsimp only
   simp only [Bool.not_false, br_true, ob_some_eq]
   rw [sfx_end (l := []) List.nil_suffix]; rfl
 ·simp only [cutM_inl, part_name h, ob_some_eq, same_one, name_dec h]
  exact hz
/-! insertion -/
theorem at_loop {R σ : Type} {f : σ → Option (σ ⊕ R)} (mk : Nat → σ) (out : Nat → R) (l : List Q) (q : Q)
  (h : ∀ P p S, l = P ++ p :: S → f (mk (P.length + 1)) = bif ltQ q p then some (.inl (mk P.length)) else some (.inr (out (P.length + 1))))
  (h0 : f (mk 0) = some (.inr (out 0))) : ∀ (n : Nat) (P S : List Q), P.length = n → l = P ++ S → (∀ s ∈ S, ltQ q s = true) → ∃ P' S', l = P' ++ S' ∧ (∀ s ∈ S', ltQ q s = true) ∧ (∀ p ∈ P'.getLast?, ltQ q p = false) ∧ loopM f (mk P.length) = some (out P'.length)
 | 0, P, S, hn, hl, hS => by
   obtain rfl := List.length_eq_zero_iff.1 hn
   exact ⟨[], S, hl, hS, by simp, loopM_end h0⟩
 | n + 1, P, S, hn, hl, hS => by
   rcases List.eq_nil_or_concat P with rfl | ⟨P', p, rfl⟩
   ·simp at hn
   ·rw [List.concat_eq_append] at *
    have hs := h P' p S (by rw [hl]; simp)
    have hlen : (P' ++ [p]).length = P'.length + 1 := by simp
    rw [hlen] at hn ⊢
    cases hp : ltQ q p with
    | false => rw [hp] at hs; exact ⟨P' ++ [p], S, hl, hS, by simpa using hp, by rw [loopM_end hs, hlen]⟩
    | true =>
      rw [hp] at hs
      rw [loopM_next hs]
      exact at_loop mk out l q h h0 n P' (p :: S) (by omega) (by rw [hl]; simp) (fun x hx => by
       rcases List.mem_cons.1 hx with rfl | hx
       ·exact hp
       ·exact hS x hx)
theorem mov_ins (P S : List Q) (q : Q) : ∃ x, mov (P ++ S ++ [q]) (P.length + 1) P.length = P ++ x :: S := by
 obtain ⟨x, X', hx⟩ : ∃ x X', S ++ [q] = x :: X' := by
  cases S with
  | nil => exact ⟨q, [], rfl⟩
  | cons a r => exact ⟨a, r ++ [q], rfl⟩
 have hl := congrArg List.length hx
 simp only [List.length_append, List.length_cons, List.length_nil] at hl
 refine ⟨x, ?_⟩
 have hN : movN (P ++ S ++ [q]) (P.length + 1) P.length = S.length := by
  unfold movN
  simp only [List.length_append, List.length_cons, List.length_nil]
  omega
 unfold mov
 rw [hN, List.append_assoc, hx]
 rw [show (P ++ x :: X').take (P.length + 1) = P ++ [x] by rw [show P ++ x :: X' = (P ++ [x]) ++ X' by simp, show P.length + 1 = (P ++ [x]).length by simp, List.take_left]]
 rw [List.drop_left, ← hx, List.take_left]
 rw [List.drop_of_length_le (by simp only [List.length_append, List.length_cons, List.length_nil]; omega)]
 simp
end Pe.Tryd
end
section
/- Read of the reference answers as Read of the program. -/
set_option maxRecDepth 100000
namespace Pe.Tryd
open Go Go.Proofs Pe Pe.Told
def pathE (l : B) (b : Bool) : List B × B × Bool := bif b then ([[]], l, true) else rpathGo (l.length + 1) l
theorem G44E (n : Nat) {s l : B} {b : Bool} (h : l <:+ s) (hs : s.length ≤ 3000) :
  @Eq (ERR (List B × Unit)) ((orcN (n + 3)).e 44 [.ptr 0 0] [69] [(.st 5)] ((Gt.R2r.mk s ((P s l : Nat) : Int) b, ()) : RR × Unit) [(.sl .str)] [] 0) (some (.inl ((Gt.R2r.mk s ((P s (pathE l b).2.1 : Nat) : Int) (pathE l b).2.2, ()), ((pathE l b).1, ())))) := by
 cases b with
 | true => exact G44b n
 | false => exact G44 n h hs
theorem pathE_ok {s l ps r1 : _} {e1 : Option B} (hs : (s : B).length ≤ 3000) (h : (l : B) <:+ s) (hP : partsL l = (ps, r1, e1)) : (pathE l false).2.1 = eP r1 e1 ∧ (pathE l false).2.2 = e1.isSome ∧ (e1 = none → (pathE l false).1 = ps) ∧ (pathE l false).1 ≠ [] ∧ (pathE l false).1.length ≤ 3001 ∧ (∀ x ∈ (pathE l false).1, x.length ≤ 3000) ∧ eP r1 e1 <:+ s := by
 obtain ⟨i1, i2, i3, i4, i5, i6⟩ := rpath_parts (l.length + 1) l (by omega)
 have hl := h.length_le
 have e : partsGo (l.length + 1) l = (ps, r1, e1) := hP
 obtain ⟨j1, j2, _⟩ := partsGo_sfx (l.length + 1) l
 rw [e] at i1 i2 i3 j1 j2
 refine ⟨?_, ?_, i3, i4, ?_, fun x hx => ?_, ?_⟩
 ·show (rpathGo (l.length + 1) l).2.1 = _
  rw [i1]
  cases e1 <;> rfl
 ·show (rpathGo (l.length + 1) l).2.2 = _
  rw [i2]; rfl
 ·show (rpathGo (l.length + 1) l).1.length ≤ _
  omega
 ·have := i6 x hx; omega
 ·cases e1 with
  | none => exact j1.trans h
  | some x => exact (j2 x rfl).trans h
theorem rquals_loop {R σ : Type} {f : σ → Option (σ ⊕ R)} (mk : Bool → Bool → List Q → B → Bool → σ) (out : Bool → List Q → B → Bool → R) (s : B)
  (hb : ∀ tw fst acc l, f (mk tw fst acc l true) = some (.inr (out tw acc l true)))
  (h0 : ∀ tw fst acc, f (mk tw fst acc [] false) = some (.inr (out tw acc [] false)))
  (h1 : ∀ tw fst acc c r, c :: r <:+ s → (c == bif fst then 63 else 38) = false → f (mk tw fst acc (c :: r) false) = some (.inr (out tw acc (c :: r) false)))
  (h2 : ∀ tw fst acc c r, c :: r <:+ s → acc.length + r.length ≤ 4000 → (c == bif fst then 63 else 38) = true → ∃ z A S, acc = A ++ S ∧ (∀ x ∈ S, ltQ z x = true) ∧ (∀ p ∈ A.getLast?, ltQ z p = false) ∧
   f (mk tw fst acc (c :: r) false) = some (.inl (mk (tw || lastEq A z) false (A ++ z :: S) (fin (qualL r)) (failed (qualL r)))) ∧ ((qualL r).2.2 = none → z = (qualL r).1)) :
  ∀ k fst acc l tw qs0, l.length < k → l <:+ s → acc.length + l.length ≤ 4000 → Srt ltQ acc → acc.Perm qs0 → tw = dupQ qs0 →
    ∃ tw' acc', loopM f (mk tw fst acc l false) = some (out tw' acc' (eP (qualsGo k (bif fst then 63 else 38) l).2.1 (qualsGo k (bif fst then 63 else 38) l).2.2) (qualsGo k (bif fst then 63 else 38) l).2.2.isSome) ∧
      ((qualsGo k (bif fst then 63 else 38) l).2.2 = none → Srt ltQ acc' ∧ acc'.Perm (qs0 ++ (qualsGo k (bif fst then 63 else 38) l).1) ∧ tw' = dupQ (qs0 ++ (qualsGo k (bif fst then 63 else 38) l).1))
 | 0, _, _, _, _, _, hk, _, _, _, _, _ => by omega
 | k + 1, fst, acc, [], tw, qs0, hk, hl, hn, hs, hp, ht => by
   refine ⟨tw, acc, loopM_end (h0 _ _ _), fun _ => ⟨hs, ?_, ?_⟩⟩
   ·simpa [qualsGo] using hp
   ·simpa [qualsGo] using ht
 | k + 1, fst, acc, c :: r, tw, qs0, hk, hl, hn, hs, hp, ht => by
   simp only [List.length_cons] at hk hn
   unfold qualsGo
   cases hc : (c == bif fst then 63 else 38) with
   | false =>
     refine ⟨tw, acc, loopM_end (h1 _ _ _ _ _ hl hc), fun _ => ⟨hs, ?_, ?_⟩⟩
     ·simpa using hp
     ·simpa using ht
   | true =>
     obtain ⟨z, A, S, rfl, g2, g3, g4, g5⟩ := h2 tw fst acc c r hl (by omega) hc
     obtain ⟨p1, p2⟩ := qual_sfx r
     have hlen := p1.length_le
     simp only [cond_true]
     rw [loopM_next g4]
     cases he : (qualL r).2.2 with
     | some e =>
       refine ⟨tw || lastEq A z, A ++ z :: S, ?_, fun h => (by cases h)⟩
       rw [(fin_bad he).1, (fin_bad he).2, loopM_end (hb _ _ _ _)]; rfl
     | none =>
       rw [(fin_ok he).1, (fin_ok he).2]
       have hperm : (A ++ z :: S).Perm (qs0 ++ [z]) := (List.perm_middle).trans ((hp.cons z).trans (List.perm_append_singleton z qs0).symm)
       obtain ⟨tw', acc', i1, i2⟩ := rquals_loop mk out s hb h0 h1 h2 k false (A ++ z :: S) (qualL r).2.1 (tw || lastEq A z) (qs0 ++ [z]) (by omega) (p1.trans (sfx_tail hl)) (by simp only [List.length_append, List.length_cons] at *; omega)
        (Srt.put woQ hs g2 g3) hperm (by rw [ht]; exact (dup_step hs hp g2 g3).symm)
       refine ⟨tw', acc', i1, fun h => ?_⟩
       obtain ⟨j1, j2, j3⟩ := i2 h
       rw [g5 he] at j2 j3
       exact ⟨j1, by simpa using j2, by simpa using j3⟩
theorem tail_ok {l : List Q} {k : Nat} (h : k ≤ l.length) (h0 : 0 < l.length) : tail? l ((k : Nat) : Int) = some k := by
 show (bif Nat.ble k l.length && Nat.blt 0 l.length then some k else none) = _
 rw [show Nat.ble k l.length = true by rw [Nat.ble_eq]; exact h, show Nat.blt 0 l.length = true by rw [Nat.blt_eq]; exact h0]; rfl
theorem ble_ok {a b : Nat} (h : a ≤ b) : Nat.ble a b = true := by rw [Nat.ble_eq]; exact h
end Pe.Tryd
end
