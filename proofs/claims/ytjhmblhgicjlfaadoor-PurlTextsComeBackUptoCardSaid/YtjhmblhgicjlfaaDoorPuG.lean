/- PROVED HERE: a part of the seat's proofs; see the text that holds the claim's theorem. -/
import Derived.Test.YtjhmblhgicjlfaaDoorPuF
section
/- The reference's reader: what its functions answer. -/
set_option maxRecDepth 100000
namespace Pe.Tryd
open Go Go.Proofs Pe Pe.Told
/-! a part -/
end Pe.Tryd
end
section
/- Read of the program answers as it is told of texts. -/
set_option maxRecDepth 100000
namespace Pe.Tryd
open Go Go.Proofs Pe Pe.Told
def verE (r : B) (e : Option B) : B × B × Option B := match e with
 | none => verL r
 | some x => ([], r, some x)
def qualsE (r : B) (e : Option B) : List Gt.Pair × B × Option B := match e with
 | none => qualsL r
 | some x => ([], r, some x)
def subE (r : B) (e : Option B) : B × B × Option B := match e with
 | none => subL r
 | some x => ([], r, some x)
def endE (r : B) (e : Option B) : Option B := match e with
 | none => (match r with
   | [] => none
   | c :: t => some (c :: t))
 | some x => some x
def errX (s : B) (x : B ⊕ Gt.Purl) : Int := match x with
 | .inl e => ((P s e : Nat) : Int)
 | .inr _ => -1
theorem readN_E {s k r0 : B} {ps : List B} {r1 v r2 sb r4 : B} {qs : List Gt.Pair} {r3 : B} {e1 e2 e3 e4 : Option B} (hH : headL s = (k, r0, none)) (hP : partsL r0 = (ps, r1, e1)) (hV : verE r1 e1 = (v, r2, e2)) (hQ : qualsE r2 e2 = (qs, r3, e3)) (hS : subE r3 e3 = (sb, r4, e4)) :
  readN s = match endE r4 e4 with
   | some e => .inl e
   | none => .inr ⟨k, Lib.join ps.dropLast [47], ps.getLastD [], v, qs, sb⟩ := by
 unfold readN
 rw [hH, bnd_none, hP]
 cases e1 with
 | some x => cases hV; cases hQ; cases hS; rfl
 | none =>
   rw [bnd_none, show verL r1 = (v, r2, e2) from hV]
   cases e2 with
   | some x => cases hQ; cases hS; rfl
   | none =>
     rw [bnd_none, show qualsL r2 = (qs, r3, e3) from hQ]
     cases e3 with
     | some x => cases hS; rfl
     | none =>
       rw [bnd_none, show subL r3 = (sb, r4, e4) from hS]
       cases e4 with
       | some x => rfl
       | none => rw [bnd_none]; cases r4 <;> rfl
theorem part_sfx {s r v r2 : B} {e2 : Option B} (h : r <:+ s) (hp : partL r = (v, r2, e2)) : r2 <:+ s := by have := (partL_sfx r).1; rw [hp] at this; exact this.trans h
theorem verE_sfx {s r1 v r2 : B} {e1 e2 : Option B} (h : r1 <:+ s) (hV : verE r1 e1 = (v, r2, e2)) : r2 <:+ s := by
 cases e1 with
 | some x => cases hV; exact h
 | none =>
   cases r1 with
   | nil => cases hV; exact h
   | cons c r =>
     have hV' : (bif c == 64 then partL r else ([], c :: r, none)) = (v, r2, e2) := hV
     cases hc : (c == 64) with
     | false => rw [hc] at hV'; cases hV'; exact h
     | true => rw [hc] at hV'; exact part_sfx (sfx_tail h) hV'
theorem qualsE_sfx {s r2 r3 : B} {qs : List Gt.Pair} {e2 e3 : Option B} (h : r2 <:+ s) (hQ : qualsE r2 e2 = (qs, r3, e3)) : r3 <:+ s ∧ qs.length ≤ s.length := by
 cases e2 with
 | some x => cases hQ; exact ⟨h, by simp⟩
 | none =>
   have := qualsGo_sfx (r2.length + 1) 63 r2
   have e : qualsGo (r2.length + 1) 63 r2 = (qs, r3, e3) := hQ
   rw [e] at this
   exact ⟨this.1.trans h, Nat.le_trans this.2 h.length_le⟩
theorem subE_sfx {s r3 sb r4 : B} {e3 e4 : Option B} (h : r3 <:+ s) (hS : subE r3 e3 = (sb, r4, e4)) : r4 <:+ s := by
 cases e3 with
 | some x => cases hS; exact h
 | none =>
   cases r3 with
   | nil => cases hS; exact h
   | cons c r =>
     have hS' : (bif c == 35 then (Lib.join (partsL r).1 [47], (partsL r).2) else ([], c :: r, none)) = (sb, r4, e4) := hS
     cases hc : (c == 35) with
     | false => rw [hc] at hS'; cases hS'; exact h
     | true =>
       rw [hc] at hS'
       have h1 := (partsGo_sfx (r.length + 1) r).1
       have h2 : (partsL r).2 = (r4, e4) := (Prod.ext_iff.1 hS').2
       have h3 : (partsL r).2.1 = r4 := by rw [h2]
       exact (h3 ▸ (show (partsL r).2.1 <:+ r from h1)).trans (sfx_tail h)
theorem join_ok {l : List B} (h1 : l.length ≤ 3001) (h2 : ∀ x ∈ l, x.length ≤ 3000) : (Lib.join l [47]).length ≤ 100000000 := by
 have h := join_len (M := 3000) h2
 have : l.length * (3000 + 1) ≤ 3001 * 3001 := Nat.mul_le_mul h1 (Nat.le_refl _)
 omega
theorem parts_ok {s r ps r1 : _} {e1 : Option B} (hs : (s : B).length ≤ 3000) (h : (r : B) <:+ s) (hP : partsL r = (ps, r1, e1)) : ps ≠ [] ∧ ps.length ≤ 3001 ∧ (∀ x ∈ ps, x.length ≤ 3000) ∧ r1 <:+ s := by
 have h1 := partsGo_sfx (r.length + 1) r
 have h2 := partsGo_ne r.length r
 have e : partsGo (r.length + 1) r = (ps, r1, e1) := hP
 rw [e] at h1 h2
 have := h.length_le
 exact ⟨h2, by have := h1.2.2.1; simp only at this; omega, fun x hx => by have := h1.2.2.2 x hx; omega, h1.1.trans h⟩
theorem last_at {l : List B} (h : l ≠ []) (hl : l.length ≤ 3001) : IntKind.i64.wrap (len l - 1) = ((l.length - 1 : Nat) : Int) ∧ at? l ((l.length - 1 : Nat) : Int) = some (l.getLastD []) ∧ part? l 0 ((l.length - 1 : Nat) : Int) = some l.dropLast := by
 have hp := pos_of h
 refine ⟨by unfold len; rw [wrap_id (by omega) (by omega)]; omega, ?_, ?_⟩
 ·rw [at?_nat]
  obtain ⟨l', x, rfl⟩ := (List.eq_nil_or_concat l).resolve_left h
  rw [List.concat_eq_append]
  simp
 ·have := part?_nat (l := l) (i := 0) (j := l.length - 1) (Nat.zero_le _) (by omega)
  rw [show part? l 0 ((l.length - 1 : Nat) : Int) = part? l ((0 : Nat) : Int) ((l.length - 1 : Nat) : Int) from rfl, this]
  simp [List.dropLast_eq_take]
/-! qualifiers -/
theorem quals_loop {R σ : Type} {f : σ → Option (σ ⊕ R)} (mk : UInt8 → List Q → B → Option B → σ) (out : List Q → B → Option B → R) (s : B)
  (hb : ∀ sg acc l e, f (mk sg acc l (some e)) = some (.inr (out acc l (some e))))
  (h : ∀ sg acc l, (sg = 63 ∨ sg = 38) → l <:+ s → acc.length + l.length ≤ 4000 → f (mk sg acc l none) = match l with
   | [] => some (.inr (out acc [] none))
   | c :: r => bif c == sg then some (.inl (mk 38 (acc ++ [(qualL r).1]) (qualL r).2.1 (qualL r).2.2)) else some (.inr (out acc (c :: r) none))) :
  ∀ k sg acc l, (sg = 63 ∨ sg = 38) → l.length < k → l <:+ s → acc.length + l.length ≤ 4000 → loopM f (mk sg acc l none) = some (out (acc ++ (qualsGo k sg l).1) (qualsGo k sg l).2.1 (qualsGo k sg l).2.2)
 | 0, _, _, _, _, hk, _, _ => by omega
 | k + 1, sg, acc, [], hsg, hk, hl, hn => by
   have h1 := h sg acc [] hsg hl hn
   rw [loopM_end h1]; simp [qualsGo]
 | k + 1, sg, acc, c :: l, hsg, hk, hl, hn => by
   have h1 := h sg acc (c :: l) hsg hl hn
   simp only at h1
   unfold qualsGo
   simp only [List.length_cons] at hk hn
   obtain ⟨p1, p2⟩ := qual_sfx l
   have hlen := p1.length_le
   cases hc : (c == sg) with
   | false => rw [hc] at h1; rw [loopM_end h1]; simp
   | true =>
     rw [hc] at h1
     simp only [cond_true] at h1 ⊢
     rw [loopM_next h1]
     cases he : (qualL l).2.2 with
     | some e => rw [loopM_end (hb _ _ _ _)]
     | none =>
       rw [quals_loop mk out s hb h k 38 (acc ++ [(qualL l).1]) (qualL l).2.1 (.inr rfl) (by omega) (p1.trans (sfx_tail hl)) (by simp <;> omega)]
       simp
theorem s38 (n : Nat) {s : B} (hs : s.length ≤ 3000) : ∃ (a : Int) (pu : Gt.Purl), m38 (orcN (n + 5)) s 0 (-1) = some (.inl (s, a, errX s (readN s), pu.kind, pu.space, pu.name, pu.version, pu.qualifiers, pu.sub, ())) ∧ (∀ p, readN s = .inr p → pu = p) ∧ pu.qualifiers.length ≤ 3000 := by
 obtain ⟨a, g, ga, gs⟩ := G85 (n + 3) hs
 unfold m38
 rw [g, oc_inl]
 dsimp only
 rw [errI_ge]
 rcases hH : headL s with ⟨k, r0, e0⟩
 rw [hH] at ga gs
 simp only at ga gs
 cases e0 with
 | some e =>
   have hN : readN s = .inl e := by unfold readN; rw [hH]; rfl
   refine ⟨a, ⟨k, [], [], [], [], []⟩, ?_, ?_, by simp⟩
   ·rw [hN]; rfl
   ·intro p hp; rw [hN] at hp; cases hp
 | none =>
   obtain rfl := ga rfl
   simp only [Option.isSome_none, br_false]
   rcases hP : partsL r0 with ⟨ps, r1, e1⟩
   obtain ⟨p1, p2, p3, hr1⟩ := parts_ok hs gs hP
   obtain ⟨w1, w2, w3⟩ := last_at p1 p2
   have hj : (Lib.join ps.dropLast [47]).length ≤ 100000000 := join_ok (by rw [List.length_dropLast]; omega) (fun x hx => p3 x (List.dropLast_subset _ hx))
   have j1 := L45 (n + 4) (l := ps.dropLast) (s := [47]) (by rw [List.length_dropLast]; omega) hj
   rw [show errI s (none : Option B) = -1 from rfl, G86 (n + 1) gs hs, oc_inl, hP]
   dsimp only
   rw [w1]
   rcases hV : verE r1 e1 with ⟨v, r2, e2⟩
   rcases hQ : qualsE r2 e2 with ⟨qs, r3, e3⟩
   rcases hS : subE r3 e3 with ⟨sb, r4, e4⟩
   have hN := readN_E hH hP hV hQ hS
   have hr2 := verE_sfx hr1 hV
   obtain ⟨hr3, hql⟩ := qualsE_sfx hr2 hQ
   have hr4 := subE_sfx hr3 hS
   refine ⟨((P s r4 : Nat) : Int), ⟨k, Lib.join ps.dropLast [47], ps.getLastD [], v, qs, sb⟩, ?_, ?_, by simp only; omega⟩
   ·refine cut_of (r := .inl (k, Lib.join ps.dropLast [47], ps.getLastD [], [], [], [], ())) ?_ ?_
    ·simp only [w2, w3, j1, ob_some_eq, same_one]
    simp only [cutM_inl]
    refine cut_of (r := .inl (s, ((P s r2 : Nat) : Int), errI s e2, k, Lib.join ps.dropLast [47], ps.getLastD [], v, [], [], ())) ?_ ?_
    ·rw [errI_lt, peek hr1]
     cases e1 with
     | some x => cases hV; rfl
     | none =>
       simp only [Option.isNone_none, br_true, ob_some_eq, pk64]
       cases r1 with
       | nil => cases hV; rfl
       | cons c r =>
         have hV' : (bif c == 64 then partL r else ([], c :: r, none)) = (v, r2, e2) := hV
         simp only [hdB]
         cases hc : (c == 64) with
         | false => rw [hc] at hV'; cases hV'; rfl
         | true =>
           rw [hc] at hV'
           simp only [cond_true] at hV'
           simp only [br_true]
           rw [wrapP1 hs, ← P_tail hr1, show errI s (none : Option B) = -1 from rfl, G88 (n + 2) (sfx_tail hr1) hs, oc_inl, hV']
    ·simp only [cutM_inl]
     refine cut_of (r := .inl (s, ((P s r3 : Nat) : Int), errI s e3, k, Lib.join ps.dropLast [47], ps.getLastD [], v, qs, [], ())) ?_ ?_
     ·cases e2 with
      | some x =>
        cases hQ
        refine loopM_end ?_
        dsimp only
        rw [errI_lt]; rfl
      | none =>
        have hQ' : qualsGo (r2.length + 1) 63 r2 = (qs, r3, e3) := hQ
        refine (quals_loop (R := (B × Int × Int × B × B × B × B × List Q × B × Unit) ⊕ ((B × Int × Int × B × B × B × B × List Q × B × Unit) ⊕ Unit)) (fun sg acc l e => ((sg.toNat : Int), s, ((P s l : Nat) : Int), errI s e, k, Lib.join ps.dropLast [47], ps.getLastD [], v, acc, [], ())) (fun acc l e => .inl (s, ((P s l : Nat) : Int), errI s e, k, Lib.join ps.dropLast [47], ps.getLastD [], v, acc, [], ())) s ?_ ?_ (r2.length + 1) 63 [] r2 (.inl rfl) (by omega) hr2 (by have := hr2.length_le; simp <;> omega)).trans ?_
        ·intro sg acc l e
         dsimp only
         rw [errI_lt]; rfl
        ·intro sg acc l hsg hl hn
         dsimp only
         rw [errI_lt, peek hl, sfx_lt0 hl]
         simp only [Option.isNone_none, br_true, ob_some_eq]
         cases l with
         | nil => rfl
         | cons c r =>
           rw [show ((c :: r) != ([] : B)) = true from rfl]
           have hpk : (pk (c :: r) == ((sg.toNat : Nat) : Int)) = (c == sg) := by
            rcases hsg with rfl | rfl
            ·exact pk63 (c :: r)
            ·exact pk38 (c :: r)
           simp only [br_true, ob_some_eq, hpk]
           cases (c == sg) with
           | false => rfl
           | true =>
             simp only [br_true, cond_true, same_one]
             rw [wrapP1 hs, ← P_tail hl, show errI s (none : Option B) = -1 from rfl, G89 (n + 1) (sfx_tail hl) hs, oc_inl, cat?_ok (by simp [lim] <;> omega)]
             rfl
        ·rw [hQ']; rfl
     ·simp only [cutM_inl]
      refine cut_of (r := .inl (s, ((P s r4 : Nat) : Int), errI s e4, k, Lib.join ps.dropLast [47], ps.getLastD [], v, qs, sb, ())) ?_ ?_
      ·rw [errI_lt, peek hr3]
       cases e3 with
       | some x => cases hS; rfl
       | none =>
         simp only [Option.isNone_none, br_true, ob_some_eq, pk35]
         cases r3 with
         | nil => cases hS; rfl
         | cons c r =>
           have hS' : (bif c == 35 then (Lib.join (partsL r).1 [47], (partsL r).2) else ([], c :: r, none)) = (sb, r4, e4) := hS
           simp only [hdB]
           cases hc : (c == 35) with
           | false => rw [hc] at hS'; cases hS'; rfl
           | true =>
             rw [hc] at hS'
             simp only [cond_true] at hS'
             simp only [br_true]
             rcases hP2 : partsL r with ⟨xs, y, z⟩
             obtain ⟨q1, q2, q3, q4⟩ := parts_ok hs (sfx_tail hr3) hP2
             rw [hP2] at hS'
             cases hS'
             rw [wrapP1 hs, ← P_tail hr3, show errI s (none : Option B) = -1 from rfl, G86 (n + 1) (sfx_tail hr3) hs, oc_inl, hP2]
             dsimp only
             rw [L45 (n + 4) (by omega) (join_ok q2 q3)]; rfl
      ·simp only [cutM_inl]
       rw [hN, errI_lt, sfx_lt0 hr4]
       cases e4 with
       | some x => rfl
       | none =>
         cases r4 with
         | nil => rfl
         | cons c r =>
           simp only [Option.isNone_none, br_true, ob_some_eq]
           rw [show ((c :: r) != ([] : B)) = true from rfl, br_true, show errI s (none : Option B) = -1 from rfl, G90, oc_inl]; rfl
   ·intro p hp
    rw [hN] at hp
    cases h5 : endE r4 e4 with
    | some e => rw [h5] at hp; cases hp
    | none => rw [h5] at hp; cases hp; rfl
/-- READ of the program. -/
theorem L10 (n : Nat) (s : B) : @Eq (Option (Gt.Purl × Int × Int × Unit)) ((orcN (n + 27)).d 10 [.str s] [(.st 4), (.int .i64), (.int .i64)]) (some (readS s)) := by
 rw [q10]
 unfold m10 readS
 cases hd : decide (3000 < len s) with
 | true => rfl
 | false =>
   have hs : s.length ≤ 3000 := by have := of_decide_eq_false hd; unfold len at this; omega
   obtain ⟨a, pu, g, gp, gl⟩ := s38 (n + 20) hs
   have g2 : @Eq (Option ((B × Int × Int × B × B × B × B × List Q × B × Unit) ⊕ Unit)) ((orcN (n + 26)).l 38 sg38 ((s, 0, (-1), ()) : List UInt8 × Int × Int × Unit)) (some (.inl (s, a, errX s (readN s), pu.kind, pu.space, pu.name, pu.version, pu.qualifiers, pu.sub, ()))) := (q38 (n + 25) s 0 (-1)).trans g
   simp only [br_false, cond_false]
   rw [g2, oc_inl]
   dsimp only
   cases hN : readN s with
   | inl e =>
     rw [show decide (0 ≤ errX s (.inl e)) = true from decide_eq_true (by unfold errX; simp only; omega), br_true, same_one]; rfl
   | inr p =>
     obtain rfl := gp p hN
     show _ = some (topS pu)
     rw [show decide (0 ≤ errX s (.inr pu)) = false from rfl, br_false]
     obtain ⟨l', h1, h2, h3⟩ := L39 (n + 1) (l := pu.qualifiers) (by omega)
     have hl' : l'.length = pu.qualifiers.length := h2.length_eq
     rw [h3, ob_some_eq]
     have hdup : adjB l' = dupQ pu.qualifiers := (adj_dup h1).trans (dup_perm h2)
     refine cut_of (loop_anyM (R := (B × B × B × B × List Q × B × B × B × B × B × List Q × B × Unit) ⊕ (Gt.Purl × Int × Int × Unit)) (fun k => (((k + 1 : Nat) : Int), [], [], [], [], [], [], pu.kind, pu.space, pu.name, pu.version, l', pu.sub, ())) (l'.length - 1) (fun k => (l'.getD (k + 1) pair0).name == (l'.getD k pair0).name) (.inr (purl0, 0, 5, ())) (.inl ([], [], [], [], [], [], pu.kind, pu.space, pu.name, pu.version, l', pu.sub, ())) ?_ ?_) ?_
     ·intro k hk
      have hk1 : k + 1 < l'.length := by omega
      have hk0 : k < l'.length := by omega
      dsimp only
      have w : IntKind.i64.wrap (((k + 1 : Nat) : Int) - 1) = ((k : Nat) : Int) := by rw [wrap_id (by omega) (by omega)]; omega
      rw [w]
      simp only [len_lt, hk1, decide_true, br_true, idxN hk1, idxN hk0, ob_some_eq, get?, List.getElem?_eq_getElem hk1, List.getElem?_eq_getElem hk0, getD_get pair0 hk1, getD_get pair0 hk0]
      rw [wrap_succ hk1 (by omega), br_if]
     ·dsimp only
      rw [decide_eq_false (by unfold len; omega)]; rfl
     ·show cutM (some (bif adjB l' then _ else _)) _ = _
      rw [hdup, cut_bif]
      unfold topS
      cases hq : dupQ pu.qualifiers with
      | true => rfl
      | false =>
        have hn : (pu.qualifiers.map (·.name)).Nodup := by
         unfold dupQ at hq
         by_cases h : (pu.qualifiers.map (·.name)).Nodup
         ·exact h
         ·rw [decide_eq_false h] at hq; cases hq
        obtain rfl : l' = sortQ pu.qualifiers := sort_of h1 h2 hn
        simp only [br_false, cond_false]
        have e25 : @Eq (Option (Int × Unit)) ((orcN (n + 26)).d 25 [.st 4 (srtP pu)] [(.int .i64)]) (some (checkS (srtP pu), ())) := L25 (n + 22) (p := srtP pu) (by show (sortQ pu.qualifiers).length ≤ _; omega)
        refine (congrArg (fun z => ob z _) e25).trans ?_
        show br (checkS (srtP pu) != 0) _ _ = _
        cases hc : (checkS (srtP pu) != 0) with
        | true => rfl
        | false =>
          simp only [br_false, cond_false]
          have e42 : @Eq (Option (Gt.Purl × Unit)) ((orcN (n + 26)).d 42 [.st 4 (srtP pu)] [(.st 4)]) (some (canonS (srtP pu), ())) := L42 (n + 22) (check_tiny (by simpa using hc))
          exact congrArg (fun z => ob z _) e42
end Pe.Tryd
end
section
/- The reference's reader: paths, the beginning, qualifiers. -/
set_option maxRecDepth 100000
namespace Pe.Tryd
open Go Go.Proofs Pe Pe.Told
/-! paths -/
/-! the beginning -/
def st (p : UInt8) (l : B) (b : Bool) : B × Bool := bif b then (l, true) else match l with
 | [] => ([], true)
 | d :: r => bif low d == p then (r, false) else (d :: r, true)
end Pe.Tryd
end
section
/- The reference's qualifiers; Read of the reference. -/
set_option maxRecDepth 100000
namespace Pe.Tryd
open Go Go.Proofs Pe Pe.Told
/-! insertion -/
end Pe.Tryd
end
section
/- Read of the reference answers as Read of the program. -/
set_option maxRecDepth 100000
namespace Pe.Tryd
open Go Go.Proofs Pe Pe.Told
end Pe.Tryd
end
