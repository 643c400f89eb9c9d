/- The quiet operations, all of them. -/
import Derived.Test.YteimbekcnkogoaaDoorPe5
namespace Pe
open Go Go.RowKit
variable {S : Nat → Type}
section
variable {P : Program} {un : Uni S} {tb : Tb S} {orc : Orc S} {inl : Inl S} {E : Wl.Ctx} {N : Wl.Fr} {D : Dat} {H : List Wl.Res} {e : Env S} {bx : Bxs S} {a : Act} {w : World} {o : Oper} {R : Type} {K : PV S → Option R} {r : R}

theorem RepL.splice {nu : Nu} : ∀ {ps : List (PV S)} {us : List Value} {cs : List (PV S)} {vs : List Value} (off : Nat), RepL un nu D w cs vs → RepL un nu D w ps us → RepL un nu D w (splice cs off ps) (fillL.spliceV vs off us)
  | [], [], _, _, _, h, _ => h
  | p :: ps, u :: us, cs, vs, off, h, k => by
    simp only [RepL] at k
    simp only [Pe.splice, fillL.spliceV]
    exact RepL.splice (off + 1) (h.set off p u k.1) k.2
  | [], _ :: _, _, _, _, _, k => by simp [RepL] at k
  | _ :: _, [], _, _, _, _, k => by simp [RepL] at k
theorem splice_length : ∀ (ps cs : List (PV S)) (off : Nat), (splice cs off ps).length = cs.length
  | [], _, _ => rfl
  | p :: ps, cs, off => by simp [splice, splice_length ps]

def PartsRep (un : Uni S) (nu : Nu) (D : Dat) (w : World) : List (Nat × PV S) → List (Nat × Value) → Prop
  | [], [] => True
  | (i, p) :: ps, (j, v) :: vs => i = j ∧ Rep un nu D w p v ∧ PartsRep un nu D w ps vs
  | _, _ => False
theorem St.parts (hs : St un E N D H e bx a w) : ∀ {xs : List (Nat × Operand)} {l : List (Nat × PV S)}, partsOf e xs = some l → PartsRep un (ids H) D w l (xs.map fun p => (p.1, a.eval p.2))
  | [], l, h => by simp [partsOf] at h; subst h; simp [PartsRep]
  | (i, x) :: r, l, h => by
    unfold partsOf at h
    split at h
    · rename_i v l' h1 h2
      cases h
      simp only [List.map_cons, PartsRep]
      exact ⟨by first | rfl | trivial, hs.ev h1, hs.parts h2⟩
    · cases h

theorem fillP_rep (hf : Flat un) {nu : Nu} {fields : List (Nat × Nat)} : ∀ {l : List (Nat × PV S)} {pv : List (Nat × Value)} {cs cs' : List (PV S)} {vs : List Value}, fillP fields un cs l = some cs' → RepL un nu D w cs vs → PartsRep un nu D w l pv →
    ∃ vs', fillL (fun i => fields[i]?) vs pv = some vs' ∧ RepL un nu D w cs' vs'
  | [], [], cs, cs', vs, h, hc, _ => by simp [fillP] at h; subst h; exact ⟨vs, rfl, hc⟩
  | (i, p) :: l, (j, v) :: pv, cs, cs', vs, h, hc, hp => by
    simp only [PartsRep] at hp
    obtain ⟨rfl, h1, h2⟩ := hp
    unfold fillP at h
    split at h
    · rename_i off n hfi
      obtain ⟨h3, h4⟩ := bif_some h
      simp only [Bool.and_eq_true, Nat.ble_eq] at h3
      obtain ⟨h5, h6⟩ := cells_rep hf h3.1.1 h1
      have h7 : v.cells.size = n := by rw [← Nat.eq_of_beq_eq_true h3.1.2, h5.length]; simp
      have h8 := hc.length
      obtain ⟨vs', h9, h10⟩ := fillP_rep hf h4 (hc.splice off h5) h2
      refine ⟨vs', ?_, h10⟩
      unfold fillL
      simp only [hfi]
      have hb : (Nat.beq v.cells.size n && Nat.ble (off + n) vs.length) = true := by
        simp only [Bool.and_eq_true, Nat.ble_eq]
        exact ⟨by rw [h7]; exact Nat.beq_refl _, by rw [← h8]; exact h3.2⟩
      rw [hb]
      exact h9
    · cases h
  | [], _ :: _, _, _, _, _, _, hp => by simp [PartsRep] at hp
  | _ :: _, [], _, _, _, _, _, hp => by simp [PartsRep] at hp

theorem repL_const {nu : Nu} : ∀ (vs : List Value), RepL un nu D w (vs.map constPV) vs
  | [] => by simp [RepL]
  | v :: vs => by simp only [List.map_cons, RepL]; exact ⟨rep_const v, repL_const vs⟩

theorem optEval (hs : St un E N D H e bx a w) {x : Option Operand} {d : Int} {k : IntKind} {i : Int} (h : (match x with | some y => ev e y | none => some (PV.int .i64 d)) = some (.int k i)) (hd : i = d ∨ x ≠ none) : (x.map a.eval = none ∧ i = d) ∨ ∃ k, x.map a.eval = some (.int k i) := by
  cases x with
  | none => simp at h; exact .inl ⟨rfl, h.2.symm⟩
  | some y =>
    have h1 := hs.ev h
    simp only [Rep] at h1
    exact .inr ⟨k, by simp [h1]⟩

theorem popQ_gives (hun : UniOk un) (ht : TbOk P un tb) (hor : SoundO P un orc) (hin : SoundI P un inl) (h : popQ un tb orc inl o e bx K = some r) : ∃ p, K p = some r ∧ Gives P un o e bx p := by
  unfold popQ at h
  split at h
  · -- move
    rename_i x ho
    split at h
    · rename_i p hx; exact ⟨p, h, fun E N D H a w hs => .inl ⟨_, by simp [execOp, ho], hs.ev hx⟩⟩
    · cases h
  · -- assign
    rename_i x ho
    split at h
    · rename_i p hx; exact ⟨p, h, fun E N D H a w hs => .inl ⟨_, by simp [execOp, ho], hs.ev hx⟩⟩
    · cases h
  · -- pick
    rename_i c x y ho
    split at h
    · rename_i b p q hc hx hy
      rcases br_some h with ⟨rfl, h⟩ | ⟨rfl, h⟩
      · refine ⟨p, h, fun E N D H a w hs => .inl ⟨a.eval x, ?_, hs.ev hx⟩⟩
        have := hs.ev hc; simp only [Rep] at this
        simp [execOp, ho, this, asBool]
      · refine ⟨q, h, fun E N D H a w hs => .inl ⟨a.eval y, ?_, hs.ev hy⟩⟩
        have := hs.ev hc; simp only [Rep] at this
        simp [execOp, ho, this, asBool]
    · cases h
  · -- binOp
    rename_i op t x y t' ho
    split at h
    · rename_i k m k' n hx hy
      split at h
      · rename_i hk heq
        have := hk.down; subst this
        exact binI_gives ho hx hy h
      · cases h
    · rename_i m n hx hy; exact binS_gives ho hx hy h
    · rename_i m n hx hy
      split at h
      · rename_i row hrow
        obtain ⟨h1, h2⟩ := bif_some h
        have hk : row.kd = 5 := Nat.eq_of_beq_eq_true h1
        have hu := (ht.ty t row hrow).bool hk
        split at h2
        · refine ⟨_, h2, gives_bin ho hx hy fun nu D w v u hv hu' => ?_⟩
          simp only [Rep] at hv hu'; subst hv; subst hu'
          exact ⟨.bool (m == n), guard_bool w, by simp [binOp, run_eq_bool w hu], by simp only [Rep]⟩
        · refine ⟨_, h2, gives_bin ho hx hy fun nu D w v u hv hu' => ?_⟩
          simp only [Rep] at hv hu'; subst hv; subst hu'
          exact ⟨.bool (m != n), guard_bool w, by simp [binOp, run_eq_bool w hu, bne], by simp only [Rep]⟩
        · cases h2
      · cases h
    · rename_i p q _ _ _ hx hy
      split at h
      · rename_i n hcode
        cases hrow : tb.ty.get t with
        | none => rw [hrow] at hcode; cases hcode
        | some row =>
          rw [hrow] at hcode
          simp only [Option.bind_some] at hcode
          split at h
          · rename_i A B hA hB
            obtain ⟨h1, h2⟩ := bif_some h
            rw [hrow] at h1
            have key : ∀ (op' : BinOp) (b : Bool), op = op' → (op' = .eql ∧ b = eqC (un.codes n) (un.get n A) (un.get n B) ∨ op' = .neq ∧ b = !eqC (un.codes n) (un.get n A) (un.get n B)) → Gives P un o e bx (.bool b) := by
              rintro op' b rfl hb
              refine gives_bin ho hx hy fun nu D w v u hv hu => ?_
              obtain ⟨_, g1⟩ := cast_dr hun hA hv
              obtain ⟨_, g2⟩ := cast_dr hun hB hu
              simp only [inj, Rep] at g1 g2
              obtain ⟨c1, rfl, g1⟩ := g1
              obtain ⟨c2, rfl, g2⟩ := g2
              obtain ⟨g3, g4⟩ := (ht.ty t row hrow).eq n hcode h1 D w _ _ c1 c2 op x y (sg_st g1) (sg_st g2) b hb
              exact ⟨_, g3, g4, by simp only [Rep]⟩
            split at h2
            · exact ⟨_, h2, key .eql _ rfl (.inl ⟨rfl, rfl⟩)⟩
            · exact ⟨_, h2, key .neq _ rfl (.inr ⟨rfl, rfl⟩)⟩
            · cases h2
          · cases h
      · cases h
    · cases h
  · -- not
    rename_i t x ho
    split at h
    · rename_i b hx
      refine ⟨_, h, fun E N D H a w hs => .inl ⟨.bool !b, ?_, by simp only [Rep]⟩⟩
      have := hs.ev hx; simp only [Rep] at this
      simp [execOp, ho, this, Op.unary]
    · cases h
  · -- fieldAddr
    rename_i s x f ho
    split at h
    · rename_i p row hx hrow
      obtain ⟨h1, h2⟩ := bif_some h
      have hk : row.kd = 3 := Nat.eq_of_beq_eq_true h1
      split at h2
      · rename_i b off d sz hf
        refine ⟨_, h2, fun E N D H a w hs => ?_⟩
        have := hs.ev hx; simp only [Rep] at this
        obtain ⟨g, g1, g2⟩ := this
        have hrun := (ht.ty s row hrow).field hk f d sz hf ⟨g, off, none⟩ w
        exact .inl ⟨_, by simp [execOp, ho, g2, hrun, Addr.add_mid]; rfl, by simp only [Rep]; exact ⟨g, g1, rfl⟩⟩
      · rename_i u y off d sz hf
        refine ⟨_, h2, fun E N D H a w hs => ?_⟩
        have := hs.ev hx; simp only [Rep] at this
        obtain ⟨b, p, cs, g2, g3, g4⟩ := this
        have hrun := (ht.ty s row hrow).field hk f d sz hf ⟨b, p + off, none⟩ w
        exact .inl ⟨_, by simp [execOp, ho, g2, hrun, Addr.add_mid]; rfl, by simp only [Rep]; exact ⟨b, p, cs, by rw [Nat.add_assoc], g3, g4⟩⟩
      · cases h2
    · cases h
  · -- indexAddr
    rename_i t x i ho
    split at h
    · rename_i p k n row hx hi hrow
      cases hk2 : Nat.beq row.kd 2 with
      | true =>
        rw [hk2] at h
        simp only [cond_true] at h
        have hk : row.kd = 2 := Nat.eq_of_beq_eq_true hk2
        split at h
        · rename_i u l hfz
          obtain ⟨h1, h2⟩ := bif_some h
          obtain ⟨y, h3, h4⟩ := ob_some h2
          obtain ⟨j, rfl, h5⟩ := at?_some h3
          refine ⟨_, h4, fun E N D H a w hs => ?_⟩
          have hv := hs.fz1 hun (hs.ev hx)
          rw [hfz] at hv
          obtain ⟨b, off, c, cs, g1, g2, g3⟩ := Rep_slice hv h5
          have hiv := hs.ev hi; simp only [Rep] at hiv
          obtain ⟨T, u', e1, e2, e3⟩ := (ht.ty t row hrow).slice hk
          have hu := ueqb_eq h1
          rw [e1] at hu
          simp at hu; subst hu
          have hjl : j < l.length := (List.getElem?_eq_some_iff.1 h5).1
          refine .inl ⟨.pointer (some ⟨b, off + j * U.size un u', none⟩), ?_, ?_⟩
          · simp only [execOp, ho, g1, hiv]
            simp [run_slice_index (un := un) (k := k) e2 e3 hjl w]
          · simp only [Rep]; exact ⟨b, _, cs, rfl, g2, g3⟩
        · cases h
      | false =>
        rw [hk2] at h
        simp only [cond_false] at h
        obtain ⟨h1, h2⟩ := bif_some h
        have hk : row.kd = 4 := Nat.eq_of_beq_eq_true h1
        split at h2
        · rename_i j
          split at h2
          · rename_i b off d sz hf
            refine ⟨_, h2, fun E N D H a w hs => ?_⟩
            have := hs.ev hx; simp only [Rep] at this
            obtain ⟨g, g1, g2⟩ := this
            have hiv := hs.ev hi; simp only [Rep] at hiv
            have hrun := (ht.ty t row hrow).array hk j d sz hf ⟨g, off, none⟩ k w
            refine .inl ⟨_, ?_, by simp only [Rep]; exact ⟨g, g1, rfl⟩⟩
            rw [Addr.add_mid] at hrun
            simp only [execOp, ho, g2, hiv]
            show (do pure (Next.value (← Instr.indexAt t (.pointer (some ⟨g, off, none⟩)) (.int k (j : Int))))).run P w = _
            rw [Sem.run_bind, hrun]; rfl
          · rename_i u y off d sz hf
            refine ⟨_, h2, fun E N D H a w hs => ?_⟩
            have := hs.ev hx; simp only [Rep] at this
            obtain ⟨b, p, cs, g2, g3, g4⟩ := this
            have hiv := hs.ev hi; simp only [Rep] at hiv
            have hrun := (ht.ty t row hrow).array hk j d sz hf ⟨b, p + off, none⟩ k w
            refine .inl ⟨_, ?_, by simp only [Rep]; exact ⟨b, p, cs, rfl, g3, g4⟩⟩
            rw [Addr.add_mid] at hrun
            simp only [execOp, ho, g2, hiv]
            show (do pure (Next.value (← Instr.indexAt t (.pointer (some ⟨b, p + off, none⟩)) (.int k (j : Int))))).run P w = _
            rw [Sem.run_bind, hrun, Nat.add_assoc]; rfl
          · cases h2
        · cases h2
    · cases h
  · -- index
    rename_i t x i ho
    split at h
    · rename_i l k n row hx hi hrow
      obtain ⟨h1, h2⟩ := bif_some h
      have hk : row.kd = 1 := Nat.eq_of_beq_eq_true h1
      obtain ⟨c, h3, h4⟩ := ob_some h2
      obtain ⟨j, rfl, h5⟩ := at?_some h3
      refine ⟨_, h4, fun E N D H a w hs => .inl ⟨.int .u8 (c.toNat : Int), ?_, by simp only [Rep]⟩⟩
      have hv := hs.ev hx; simp only [Rep] at hv
      have hiv := hs.ev hi; simp only [Rep] at hiv
      have hu := (ht.ty t row hrow).str hk
      have hkl : j < l.length := (List.getElem?_eq_some_iff.1 h5).1
      have hg : (ByteArray.mk l.toArray)[j]? = some c := by
        rw [ByteArray.getElem?_lt' _ _ (by simpa [ByteArray.size] using hkl)]
        rw [← (List.getElem?_eq_some_iff.1 h5).2]
        rfl
      simp [execOp, ho, hv, hiv, Instr.index, asIntOf, run_underlying hu, hg]
    · cases h
  · -- load
    rename_i t x ho
    split at h
    · rename_i p hx
      split at h
      · rename_i q hq
        refine ⟨q, h, fun E N D H a w hs => ?_⟩
        obtain ⟨u, h1, h2⟩ := load_rep (P := P) hun ht hs hq (hs.ev hx)
        exact .inl ⟨u, by simp [execOp, ho, h1], h2⟩
      · cases h
    · cases h
  · -- nilCheck
    rename_i x ho
    split at h
    · rename_i b off hx
      refine ⟨_, h, fun E N D H a w hs => ?_⟩
      have hv := hs.ev hx
      have hv' := hv
      simp only [Rep] at hv'
      obtain ⟨g, g1, g2⟩ := hv'
      exact .inl ⟨.pointer (some ⟨g, off, none⟩), by simp [execOp, ho, g2], g2 ▸ hv⟩
    · rename_i u y off hx
      refine ⟨_, h, fun E N D H a w hs => ?_⟩
      have hv := hs.ev hx
      have hv' := hv
      simp only [Rep] at hv'
      obtain ⟨b, p, cs, g2, _⟩ := hv'
      exact .inl ⟨.pointer (some ⟨b, p + off, none⟩), by simp [execOp, ho, g2], g2 ▸ hv⟩
    · cases h
  · -- extract
    rename_i x i ho
    split at h
    · rename_i l hx
      split at h
      · rename_i p hi
        refine ⟨_, h, fun E N D H a w hs => ?_⟩
        have hv := hs.ev hx; simp only [Rep] at hv
        obtain ⟨cs, g1, g2⟩ := hv
        obtain ⟨v, g3, g4⟩ := g2.get i p hi
        exact .inl ⟨v, by simp [execOp, ho, g1, Instr.extract, g3], g4⟩
      · cases h
    · cases h
  · -- slice
    rename_i t x lo hi ho
    split at h
    · rename_i p row hx hrow
      split at h
      · rename_i l hfz
        obtain ⟨h1, h2⟩ := bif_some h
        have hk : row.kd = 1 := Nat.eq_of_beq_eq_true h1
        split at h2
        · rename_i k i k' j hlo hhi
          obtain ⟨s, h3, h4⟩ := ob_some h2
          obtain ⟨i', j', rfl, rfl, h5, h6, rfl⟩ := part?_some h3
          refine ⟨_, h4, fun E N D H a w hs => .inl ⟨.string ⟨((l.drop i').take (j' - i')).toArray⟩, ?_, by simp only [Rep]⟩⟩
          have hv := hs.fz1 hun (hs.ev hx); rw [hfz] at hv; simp only [Rep] at hv
          have hu := (ht.ty t row hrow).str hk
          have e1 : (lo.map a.eval = none ∧ i' = 0) ∨ ∃ k, lo.map a.eval = some (.int k (i' : Int)) := by
            rcases optEval hs (x := lo) (d := 0) hlo (by cases lo <;> simp at hlo ⊢; omega) with g | g
            · exact .inl ⟨g.1, by have := g.2; omega⟩
            · exact .inr g
          have e2 : (hi.map a.eval = none ∧ j' = l.length) ∨ ∃ k, hi.map a.eval = some (.int k (j' : Int)) := by
            rcases optEval hs (x := hi) (d := len l) hhi (by cases hi <;> simp at hhi ⊢; exact hhi.2.symm) with g | g
            · exact .inl ⟨g.1, by have := g.2; unfold len at this; omega⟩
            · exact .inr g
          have hrun := run_slice_str (P := P) hu l h5 h6 e1 e2 w
          simp [execOp, ho, hv, hrun]
        · cases h2
      · rename_i u l hfz
        obtain ⟨h1, h2⟩ := bif_some h
        simp only [Bool.and_eq_true] at h1
        have hk : row.kd = 2 := Nat.eq_of_beq_eq_true h1.1
        split at h2
        · rename_i k i k' j hlo hhi
          obtain ⟨s, h3, h4⟩ := ob_some h2
          obtain ⟨i', j', rfl, rfl, h5, h6, rfl⟩ := part?_some h3
          refine ⟨_, h4, fun E N D H a w hs => ?_⟩
          have hv := hs.fz1 hun (hs.ev hx); rw [hfz] at hv
          obtain ⟨T, u', g1, g2, g3⟩ := (ht.ty t row hrow).slice hk
          have hu := ueqb_eq h1.2
          rw [g1] at hu
          simp at hu; subst hu
          have e1 : (lo.map a.eval = none ∧ i' = 0) ∨ ∃ k, lo.map a.eval = some (.int k (i' : Int)) := by
            rcases optEval hs (x := lo) (d := 0) hlo (by cases lo <;> simp at hlo ⊢; omega) with g | g
            · exact .inl ⟨g.1, by have := g.2; omega⟩
            · exact .inr g
          have e2 : (hi.map a.eval = none ∧ j' = l.length) ∨ ∃ k, hi.map a.eval = some (.int k (j' : Int)) := by
            rcases optEval hs (x := hi) (d := len l) hhi (by cases hi <;> simp at hhi ⊢; exact hhi.2.symm) with g | g
            · exact .inl ⟨g.1, by have := g.2; unfold len at this; omega⟩
            · exact .inr g
          obtain ⟨u', g4, g5⟩ := run_slice_sl (P := P) g2 g3 hv h5 h6 e1 e2
          exact .inl ⟨u', by simp [execOp, ho, g4], g5⟩
        · cases h2
      · cases h
    · cases h
  · -- build
    rename_i t parts ho
    split at h
    · rename_i l row hp hrow
      obtain ⟨h1, h2⟩ := bif_some h
      have hk : row.kd = 3 := Nat.eq_of_beq_eq_true h1
      split at h2
      · rename_i cs hcs
        refine ⟨_, h2, fun E N D H a w hs => ?_⟩
        have hrw := ht.ty t row hrow
        obtain ⟨z, g1, g2, g3⟩ := hrw.zero
        rw [g3] at hcs
        obtain ⟨vs', g4, g5⟩ := fillP_rep (nu := ids H) (D := D) (w := w) hun.flat hcs (repL_const _) (hs.parts hp)
        have hrun := hrw.build hk z g1 _ vs' w g4
        refine .inl ⟨.agg vs'.toArray, ?_, by simp only [Rep]; exact ⟨vs', rfl, g5⟩⟩
        have hmap : (parts.map fun (p : Nat × Operand) => (p.1, a.eval p.2)) = (parts.toList.map fun p => (p.1, a.eval p.2)).toArray := by cases parts; simp
        have h2 : (parts.map fun (x : Nat × Operand) => match x with | (i, x) => (i, a.eval x)) = (parts.toList.map fun p => (p.1, a.eval p.2)).toArray := by rw [← hmap]
        simp [execOp, ho, h2, hrun]
      · cases h2
    · cases h
  · -- makeInterface
    rename_i t x ho
    split at h
    · rename_i l row hx hrow
      obtain ⟨h1, h2⟩ := bif_some h
      refine ⟨_, h2, fun E N D H a w hs => .inl ⟨.iface t (a.eval x), ?_, ?_⟩⟩
      · obtain ⟨d, hd, hd2⟩ := (ht.ty t row hrow).agg h1
        cases d <;> first | (simp [aggD] at hd2; done) | simp [execOp, ho, Instr.makeInterface, run_underlying hd]
      · have := hs.ev hx; simp only [Rep] at this ⊢; exact ⟨_, rfl, this⟩
    · cases h
  · -- makeFunc
    rename_i fn first cap ho
    split at h
    · rename_i l r' h1 h2
      refine ⟨_, h, fun E N D H a w hs => ?_⟩
      have g1 := hs.evs h1
      have g2 := hs.evs h2
      refine .inl ⟨.func fn (first.toList.map a.eval).toArray (cap.toList.map a.eval).toArray, ?_, by simp only [Rep]; exact ⟨_, _, rfl, g1, g2⟩⟩
      have e1 : first.map a.eval = (first.toList.map a.eval).toArray := by cases first; simp
      have e2 : cap.map a.eval = (cap.toList.map a.eval).toArray := by cases cap; simp
      simp only [execOp, ho, e1, e2]
      rfl
    · cases h
  · -- call
    rename_i c ho
    split at h
    · -- len
      rename_i hc
      split at h
      · rename_i p row hargs hrow
        have hbuilt : ∀ {E N D H a w} (hs : St un E N D H e bx a w), ∃ v t, c.args.map a.eval = #[v] ∧ c.argTypes[0]? = some t ∧ tb.ty.get t = some row ∧ Rep un (ids H) D w (fz1 bx p) v := by
          intro E N D H a w hs
          have g1 := hs.evs hargs
          cases hl : c.args.toList.map a.eval with
          | nil => rw [hl] at g1; simp [RepL] at g1
          | cons v vs =>
            rw [hl] at g1
            simp only [RepL] at g1
            cases vs with
            | cons _ _ => simp [RepL] at g1
            | nil =>
              cases ht2 : c.argTypes[0]? with
              | none => rw [ht2] at hrow; cases hrow
              | some t =>
                rw [ht2] at hrow
                exact ⟨v, t, by cases hca : c.args; rw [hca] at hl; simpa using congrArg List.toArray hl, rfl, hrow, hs.fz1 hun g1.1⟩
        split at h
        · rename_i l hfz
          obtain ⟨h1, h2⟩ := bif_some h
          refine ⟨_, h2, fun E N D H a w hs => ?_⟩
          obtain ⟨v, t, g1, g2, g3, g4⟩ := hbuilt hs
          rw [hfz] at g4; simp only [Rep] at g4; subst g4
          have hu := (ht.ty t row g3).str (Nat.eq_of_beq_eq_true h1)
          refine .inl ⟨.int .i64 (l.length : Int), ?_, by simp only [Rep]; rfl⟩
          have hsz : (ByteArray.mk l.toArray).size = l.length := by simp [ByteArray.size]
          simp [execOp, ho, hc, resolve, invoke, builtin, g1, g2, Builtin.len_, hsz, goInt, run_underlying hu]
        · rename_i u l hfz
          obtain ⟨h1, h2⟩ := bif_some h
          refine ⟨_, h2, fun E N D H a w hs => ?_⟩
          obtain ⟨v, t, g1, g2, g3, g4⟩ := hbuilt hs
          rw [hfz] at g4
          obtain ⟨A, cc, rfl, _⟩ := Rep_sub g4
          obtain ⟨T, u', _, hu, _⟩ := (ht.ty t row g3).slice (Nat.eq_of_beq_eq_true h1)
          refine .inl ⟨.int .i64 (l.length : Int), ?_, by simp only [Rep]; rfl⟩
          simp [execOp, ho, hc, resolve, invoke, builtin, g1, g2, Builtin.len_, goInt, run_underlying hu]
        · rename_i hfz
          obtain ⟨h1, h2⟩ := bif_some h
          refine ⟨_, h2, fun E N D H a w hs => ?_⟩
          obtain ⟨v, t, g1, g2, g3, g4⟩ := hbuilt hs
          rw [hfz] at g4; simp only [Rep] at g4; subst g4
          obtain ⟨T, u', _, hu, _⟩ := (ht.ty t row g3).slice (Nat.eq_of_beq_eq_true h1)
          refine .inl ⟨.int .i64 0, ?_, by simp only [Rep]⟩
          simp [execOp, ho, hc, resolve, invoke, builtin, g1, g2, Builtin.len_, goInt, run_underlying hu]
        · cases h
      · cases h
    · -- min
      rename_i hc
      split at h
      · rename_i m n hargs
        refine ⟨_, h, fun E N D H a w hs => ?_⟩
        have g1 := hs.evs hargs
        obtain ⟨args, hca⟩ : ∃ args : List Operand, c.args = ⟨args⟩ := ⟨c.args.toList, by cases c.args; rfl⟩
        rw [hca] at g1
        rcases args with _ | ⟨x, _ | ⟨y, _ | ⟨z, zs⟩⟩⟩ <;> simp [RepL, Rep] at g1
        refine .inl ⟨.int .i64 (min m n), ?_, by simp only [Rep]⟩
        simp [execOp, ho, hc, resolve, invoke, builtin, hca, g1.1, g1.2, Builtin.min_, Builtin.min2]
        split <;> omega
      · cases h
    · -- max
      rename_i hc
      split at h
      · rename_i m n hargs
        refine ⟨_, h, fun E N D H a w hs => ?_⟩
        have g1 := hs.evs hargs
        obtain ⟨args, hca⟩ : ∃ args : List Operand, c.args = ⟨args⟩ := ⟨c.args.toList, by cases c.args; rfl⟩
        rw [hca] at g1
        rcases args with _ | ⟨x, _ | ⟨y, _ | ⟨z, zs⟩⟩⟩ <;> simp [RepL, Rep] at g1
        refine .inl ⟨.int .i64 (max m n), ?_, by simp only [Rep]⟩
        simp [execOp, ho, hc, resolve, invoke, builtin, hca, g1.1, g1.2, Builtin.max_, Builtin.max2]
        split <;> omega
      · cases h
    · split at h
      · rename_i f l hen
        split at h
        · rename_i us rs hsig
          split at h
          · rename_i t hcast
            obtain ⟨y, h1, h2⟩ := ob_some h
            refine ⟨_, h2, fun E N D H a w hs => .inr ?_⟩
            obtain ⟨vs, g1, g2⟩ := enters_run hs hen ho (ht.data f us rs hsig)
            exact ⟨f, vs.toArray, g1, hor.d f t rs y h1 D w vs hs.inn.lt (castA_rep hun hs hcast g2)⟩
          · cases h
        · rename_i fn an rs hsig
          obtain ⟨y, h1, h2⟩ := ob_some h
          refine ⟨_, h2, fun E N D H a w hs => .inr ?_⟩
          obtain ⟨hfn, hen2⟩ := ht.inl f fn an rs hsig
          obtain ⟨vs, g1, g2⟩ := enters_run hs hen ho hen2
          refine ⟨f, vs.toArray, g1, hin.d fn an (l.map (fz1 bx)) (lockAll bx) rs y f h1 hfn D (H.map toRef) w vs hs.inn.lt (fun r hr => by obtain ⟨x, _, rfl⟩ := List.mem_map.1 hr; exact ⟨_, rfl⟩) ?_ ?_⟩
          · rw [ids_toRef]; exact lockG_rep hun hs hs.inn.res hs.boxes
          · rw [ids_toRef]; exact hs.fz1L hun g2
        · cases h
      · cases h
  · cases h
end
end Pe
