/- Each operation that leaves the call's own memory as it is gives what the pure reading says. -/
import Derived.Test.YteimbekcnkogoaaDoorPe4
import Derived.WalkSpells
import Derived.WalkLawsBesides
namespace Pe
open Go Go.RowKit
variable {S : Nat → Type}

section
variable {P : Program} {un : Uni S} {tb : Tb S} {orc : Orc S} {inl : Inl S} {E : Wl.Ctx} {N : Wl.Fr} {D : Dat} {H : List Wl.Res} {e : Env S} {bx : Bxs S} {a : Act} {w : World} {o : Oper} {R : Type} {K : PV S → Option R} {r : R}

theorem guard_int {op : BinOp} {t : TypeId} {x y : Operand} {k k' : IntKind} {a b : Int} (w : World) : (eqGuard op t x y (.int k a) (.int k' b)).run P w = .ok () w := by
  cases op <;> simp [eqGuard] <;> rfl
theorem guard_str {op : BinOp} {t : TypeId} {x y : Operand} {a b : ByteArray} (w : World) : (eqGuard op t x y (.string a) (.string b)).run P w = .ok () w := by
  cases op <;> simp [eqGuard] <;> rfl
theorem guard_bool {op : BinOp} {t : TypeId} {x y : Operand} {a b : Bool} (w : World) : (eqGuard op t x y (.bool a) (.bool b)).run P w = .ok () w := by
  cases op <;> simp [eqGuard] <;> rfl

theorem kindEq_eq {a b : IntKind} {h : PLift (a = b)} (_ : kindEq a b = some h) : a = b := h.down
theorem ueqb_eq {u : U} {v : Option U} (h : ueqb u v = true) : v = some u := by
  cases v with
  | none => cases h
  | some v =>
    simp only [ueqb] at h
    cases hh : U.eq? u v with
    | none => rw [hh] at h; cases h
    | some x => rw [x.down]

theorem gives_bin {op : BinOp} {t t' : TypeId} {x y : Operand} {p q : PV S} {res : PV S} (ho : o.op = .binOp op t x y t') (hx : ev e x = some p) (hy : ev e y = some q)
    (h : ∀ nu D w v u, Rep un nu D w p v → Rep un nu D w q u → ∃ z, (eqGuard op t x y v u).run P w = .ok () w ∧ (binOp op t v u).run P w = .ok z w ∧ Rep un nu D w res z) : Gives P un o e bx res := by
  intro E N D H a w hs
  obtain ⟨z, h1, h2, h3⟩ := h _ _ _ _ _ (hs.ev hx) (hs.ev hy)
  exact .inl ⟨z, by simp [execOp, ho, h1, h2], h3⟩

theorem binI_gives {op : BinOp} {t t' : TypeId} {x y : Operand} {k : IntKind} {m n : Int} (ho : o.op = .binOp op t x y t') (hx : ev e x = some (.int k m)) (hy : ev e y = some (.int k n))
    (h : binI op k m n K = some r) : ∃ p, K p = some r ∧ Gives P un o e bx p := by
  have key : ∀ res : PV S, (∀ nu D w, ∃ z, (binOp op t (.int k m) (.int k n)).run P w = .ok z w ∧ Rep un nu D w res z) → Gives P un o e bx res := fun res hr =>
    gives_bin ho hx hy fun nu D w v u hv hu => by
      simp only [Rep] at hv hu; subst hv; subst hu
      obtain ⟨z, h1, h2⟩ := hr nu D w
      exact ⟨z, guard_int w, h1, h2⟩
  unfold binI at h
  split at h
  · exact ⟨_, h, key _ fun nu D w => ⟨_, by simp [binOp, Op.intArith]; rfl, by simp only [Rep]⟩⟩
  · exact ⟨_, h, key _ fun nu D w => ⟨_, by simp [binOp, Op.intArith]; rfl, by simp only [Rep]⟩⟩
  · exact ⟨_, h, key _ fun nu D w => ⟨_, by simp [binOp, Op.intArith]; rfl, by simp only [Rep]⟩⟩
  · exact ⟨_, h, key _ fun nu D w => ⟨_, by simp [binOp, Op.intCmp]; rfl, by simp only [Rep]⟩⟩
  · exact ⟨_, h, key _ fun nu D w => ⟨_, by simp [binOp, Op.intCmp]; rfl, by simp only [Rep]⟩⟩
  · exact ⟨_, h, key _ fun nu D w => ⟨_, by simp [binOp, Op.intCmp]; rfl, by simp only [Rep]⟩⟩
  · exact ⟨_, h, key _ fun nu D w => ⟨_, by simp [binOp, Op.intCmp]; rfl, by simp only [Rep]⟩⟩
  · exact ⟨_, h, key _ fun nu D w => ⟨_, by simp [binOp, Op.intCmp]; rfl, by simp only [Rep]⟩⟩
  · exact ⟨_, h, key _ fun nu D w => ⟨_, by simp [binOp, Op.intCmp]; rfl, by simp only [Rep]⟩⟩
  · split at h
    · rename_i n'
      have hne : ¬ ((Int.ofNat (n' + 1)) = 0) := by simp; omega
      exact ⟨_, h, key _ fun nu D w => ⟨_, by simp only [binOp, ne_eq, not_true_eq_false, if_false, Op.intDiv]; rw [if_neg hne]; rfl, by simp only [Rep]⟩⟩
    · cases h
  · split at h
    · rename_i n'
      have hne : ¬ ((Int.ofNat (n' + 1)) = 0) := by simp; omega
      exact ⟨_, h, key _ fun nu D w => ⟨_, by simp only [binOp, ne_eq, not_true_eq_false, if_false, Op.intDiv]; rw [if_neg hne]; rfl, by simp only [Rep]⟩⟩
    · cases h
  · cases h

theorem toList_str (l : List UInt8) : (ByteArray.mk l.toArray).toList = l := by simp [ByteArray.toList_eq]

theorem binS_gives {op : BinOp} {t t' : TypeId} {x y : Operand} {m n : List UInt8} (ho : o.op = .binOp op t x y t') (hx : ev e x = some (.str m)) (hy : ev e y = some (.str n))
    (h : binS op m n K = some r) : ∃ p, K p = some r ∧ Gives P un o e bx p := by
  have key : ∀ res : PV S, (∀ nu D w, ∃ z, (binOp op t (.string ⟨m.toArray⟩) (.string ⟨n.toArray⟩)).run P w = .ok z w ∧ Rep un nu D w res z) → Gives P un o e bx res := fun res hr =>
    gives_bin ho hx hy fun nu D w v u hv hu => by
      simp only [Rep] at hv hu; subst hv; subst hu
      obtain ⟨z, h1, h2⟩ := hr nu D w
      exact ⟨z, guard_str w, h1, h2⟩
  unfold binS at h
  split at h
  · obtain ⟨c, h1, h2⟩ := ob_some h
    obtain ⟨h3, rfl⟩ := cat?_some h1
    refine ⟨_, h2, key _ fun nu D w => ⟨.string ⟨(m ++ n).toArray⟩, ?_, by simp only [Rep]⟩⟩
    have h4 : ¬ ((m.length + n.length : Nat) : Int) > 9223372036854775807 := by unfold lim at h3; omega
    have h5 : (ByteArray.mk m.toArray ++ ByteArray.mk n.toArray) = ByteArray.mk (m ++ n).toArray := by
      apply ByteArray.ext; simp
    have h6 : IntKind.i64.max = 9223372036854775807 := by rfl
    simp only [binOp, Op.stringOp]
    rw [if_neg (by simpa [h6, ByteArray.size] using h4), h5]
    rfl
  · exact ⟨_, h, key _ fun nu D w => ⟨_, by simp [binOp, Op.stringOp]; rfl, by simp only [Rep]⟩⟩
  · exact ⟨_, h, key _ fun nu D w => ⟨.bool (m != n), by simp [binOp, Op.stringOp, bne], by simp only [Rep]⟩⟩
  · exact ⟨_, h, key _ fun nu D w => ⟨_, by simp [binOp, Op.stringOp]; rfl, by simp only [Rep]⟩⟩
  · exact ⟨_, h, key _ fun nu D w => ⟨.bool (Op.bytesLess m n || m == n), by simp [binOp, Op.stringOp], by simp only [Rep]⟩⟩
  · exact ⟨_, h, key _ fun nu D w => ⟨.bool (!(Op.bytesLess m n || m == n)), by simp [binOp, Op.stringOp], by simp only [Rep]⟩⟩
  · exact ⟨_, h, key _ fun nu D w => ⟨.bool (!(Op.bytesLess m n)), by simp [binOp, Op.stringOp], by simp only [Rep]⟩⟩
  · cases h

theorem br_some {α : Type} {b : Bool} {x y : Option α} {r : α} (h : br b x y = some r) : (b = true ∧ x = some r) ∨ (b = false ∧ y = some r) := by
  cases b with
  | true => exact .inl ⟨rfl, h⟩
  | false => exact .inr ⟨rfl, h⟩

theorem run_eq_bool {t : TypeId} {a b : Bool} (w : World) (h : P.underlying t = some .bool) : (Op.equal t (.bool a) (.bool b)).run P w = .ok (a == b) w := by
  rw [Op.equal, show Op.maxDepth = Nat.succ 9999 from rfl, Op.equalIn, Sem.run_bind, run_underlying h]
  rfl

theorem sg_st {n : Nat} {x : S n} {cs : List Value} (h : DR un D w [.st n] (sg (u := .st n) x) cs) : DR un D w (un.codes n) (un.get n x) cs := by
  cases h with
  | st h1 h => cases h; rw [List.append_nil]; exact h1

/-! addresses and elements -/
theorem run_slice_index {t T : TypeId} {u : U} {k : IntKind} {b off len c i : Nat} (hu : P.underlying t = some (.slice T)) (hT : ElOk P un T u) (hi : i < len) (w : World) :
    (Instr.indexAt t (.slice (some ⟨b, off, none⟩) len c) (.int k (i : Int))).run P w = .ok (.pointer (some ⟨b, off + i * U.size un u, none⟩)) w := by
  obtain ⟨j, z, h1, h2, h3, h4, h5, h6⟩ := hT.info
  simp [Instr.indexAt, asIntOf, run_underlying hu, hi, Go.sizeOf, typeInfo, h1, h3, Addr.add_mid]

theorem run_slice_str {t : TypeId} (hu : P.underlying t = some .string) (l : List UInt8) {lo hi : Option Value} {i j : Nat} (h1 : i ≤ j) (h2 : j ≤ l.length)
    (hlo : (lo = none ∧ i = 0) ∨ ∃ k, lo = some (.int k (i : Int))) (hhi : (hi = none ∧ j = l.length) ∨ ∃ k, hi = some (.int k (j : Int))) (w : World) :
    (Instr.sliceAt t (.string ⟨l.toArray⟩) lo hi none).run P w = .ok (.string ⟨((l.drop i).take (j - i)).toArray⟩) w := by
  have hs : (ByteArray.mk l.toArray).size = l.length := by simp [ByteArray.size]
  have hex : (ByteArray.mk l.toArray).extract i j = ⟨((l.drop i).take (j - i)).toArray⟩ := by rw [ByteArray.extract_mk]
  rcases hlo with ⟨rfl, rfl⟩ | ⟨k, rfl⟩ <;> rcases hhi with ⟨rfl, rfl⟩ | ⟨k', rfl⟩
  all_goals (simp [Instr.sliceAt, run_underlying hu, Instr.slice, Instr.sliceBounds, Instr.sliceBound, asIntOf, hs, h1, h2]; first | exact hex | skip)
  all_goals (first | (rw [← hex]; simp [hs]) | (rw [← hex]))

theorem Rep_inj {nu nu' : Nu} {u : U} {x : El S u} {v : Value} (h : Rep un nu D w (inj u x) v) : Rep un nu' D w (inj u x) v := by
  cases u <;> simpa only [inj, Rep] using h

theorem castA_rep (hun : UniOk un) (hs : St un E N D H e bx a w) : ∀ {us : List (Option U)} {ps t : List (PV S)} {vs : List Value}, castA un bx us ps = some t → RepL un (ids H) D w ps vs → RepL un [] D w t vs
  | [], [], t, vs, hc, hr => by simp [castA] at hc; subst hc; cases vs <;> simp_all [RepL]
  | some u :: us, p :: ps, t, v :: vs, hc, hr => by
    simp only [RepL] at hr
    unfold castA at hc
    split at hc
    · rename_i x t' h1 h2
      cases hc
      simp only [RepL]
      exact ⟨Rep_inj (cast_dr hun h1 (hs.fz hun hr.1)).2, castA_rep hun hs h2 hr.2⟩
    · cases hc
  | none :: us, p :: ps, t, v :: vs, hc, hr => by
    simp only [RepL] at hr
    unfold castA at hc
    split at hc
    · rename_i t' h2
      obtain ⟨h3, h4⟩ := bif_some hc
      cases h4
      simp only [RepL]
      refine ⟨?_, castA_rep hun hs h2 hr.2⟩
      have h5 := hr.1
      cases p <;> simp [clean] at h3
      rename_i f l r
      cases l <;> cases r <;> simp at h3
      simp only [Rep] at h5 ⊢
      obtain ⟨x, y, h6, h7, h8⟩ := h5
      cases x <;> cases y <;> simp [RepL] at h7 h8
      exact ⟨[], [], h6, by simp [RepL], by simp [RepL]⟩
    · cases hc
  | some _ :: _, _ :: _, _, [], _, hr => by simp [RepL] at hr
  | none :: _, _ :: _, _, [], _, hr => by simp [RepL] at hr
  | [], _ :: _, _, _, hc, _ => by simp [castA] at hc
  | some _ :: _, [], _, _, hc, _ => by simp [castA] at hc
  | none :: _, [], _, _, hc, _ => by simp [castA] at hc

def toRef (r : Wl.Res) : Wl.Res := .ref (resId r)
theorem ids_toRef (H : List Wl.Res) : ids (H.map toRef) = ids H := by
  simp [ids, toRef, resId, Function.comp_def]
theorem lock_rep (hun : UniOk un) (hs : St un E N D H e bx a w) : ∀ {b : Box S} {r : Wl.Res}, Wl.Res.holds E w r → ∀ {ro : Bool}, BoxRep un (ids H) D w E ro b r → BoxRep un (ids H) D w ⟨w, []⟩ true (b.base.tame bx) (.ref (resId r)) := by
  intro b
  induction b with
  | var T cs =>
    intro r hh ro hb
    cases r with
    | box g T' vs =>
      cases ro with
      | false =>
        simp only [BoxRep] at hb
        obtain ⟨rfl, hl⟩ := hb
        simp only [Box.base, Box.tame, BoxRep]
        exact ⟨g, vs, rfl, (Array.getElem?_eq_some_iff.1 hh.2).1, by simp, hh.2, hs.fz1L hun hl⟩
      | true => simp [BoxRep] at hb
    | ref id =>
      cases ro with
      | true =>
        simp only [BoxRep] at hb
        obtain ⟨g, vs, h1, h2, h3, h4, h5⟩ := hb
        simp only [Box.base, Box.tame, BoxRep]
        exact ⟨g, vs, by simp [resId, h1], (Array.getElem?_eq_some_iff.1 h4).1, by simp, h4, hs.fz1L hun h5⟩
      | false => simp [BoxRep] at hb
    | own => cases ro <;> simp [BoxRep] at hb
  | own u T l =>
    intro r hh ro hb
    cases r with
    | own v T' size n xs =>
      cases ro with
      | false => simp only [Box.base, Box.tame, BoxRep, resId]; exact ⟨trivial, own_rep hun.flat hh hb⟩
      | true => simp [BoxRep] at hb
    | ref id =>
      cases ro with
      | true => simp only [BoxRep] at hb; simp only [Box.base, Box.tame, BoxRep, resId]; exact hb
      | false => simp [BoxRep] at hb
    | box => cases ro <;> simp [BoxRep] at hb
  | lk b ih => intro r hh ro hb; simp only [BoxRep] at hb; simpa only [Box.base] using ih hh hb
  | ro b ih => intro r hh ro hb; simp only [BoxRep] at hb; simpa only [Box.base] using ih hh hb
  | gone => intro r _ ro _; simp [Box.base, Box.tame, BoxRep]

theorem lockG_rep (hun : UniOk un) (hs : St un E N D H e bx a w) : ∀ {bs : Bxs S} {rs : List Wl.Res}, (∀ r ∈ rs, Wl.Res.holds E w r) → BxRep un (ids H) D w E bs rs → BxRep un (ids H) D w ⟨w, []⟩ (lockG bx bs) (rs.map toRef)
  | [], [], _, _ => by simp [lockG, BxRep]
  | b :: bs, r :: rs, hh, hb => by
    simp only [BxRep, lockG, List.map_cons] at hb ⊢
    refine ⟨?_, lockG_rep hun hs (fun r hr => hh r (by simp [hr])) hb.2⟩
    simp only [BoxRep]
    exact lock_rep hun hs (hh r (by simp)) hb.1
  | [], _ :: _, _, hb => by simp [BxRep] at hb
  | _ :: _, [], _, hb => by simp [BxRep] at hb

theorem enters_run (hs : St un E N D H e bx a w) {c : Call} {f : FuncId} {l : List (PV S)} (h : enters e c = some (f, l)) (ho : o.op = .call c)
    (hf : ∀ args w, (callFunc f args).run P w = .ok (.enter f args) w) : ∃ vs : List Value, (execOp a.eval o).run P w = .ok (.enter f vs.toArray) w ∧ RepL un (ids H) D w l vs := by
  unfold enters at h
  split at h
  · rename_i x hc
    split at h
    · rename_i f' first cap l' hx hl
      cases h
      have h1 := hs.ev hx
      have h2 := hs.evs hl
      simp only [Rep] at h1
      obtain ⟨fs, cs, h3, h4, h5⟩ := h1
      refine ⟨fs ++ c.args.toList.map a.eval ++ cs, ?_, (h4.append h2).append h5⟩
      have hmap : c.args.map a.eval = (c.args.toList.map a.eval).toArray := by cases hargs : c.args; simp
      simp [execOp, ho, resolve, hc, Deferred.ofValue, h3, invoke, hmap, hf]
    · cases h
  · cases h

theorem Rep_slice {nu : Nu} {u : U} {l : List (El S u)} {v : Value} (h : Rep un nu D w (.sl u l) v) {i : Nat} {x : El S u} (hi : l[i]? = some x) :
    ∃ b off c cs, v = .slice (some ⟨b, off, none⟩) l.length c ∧ dat D w b (off + i * U.size un u) cs ∧ DR un D w [u] (sg x) cs := by
  simp only [Rep] at h
  cases h with
  | sl0 A c h0 h =>
    have h0' : l = [] := h0
    rw [h0'] at hi; simp at hi
  | sl b off c cs hc h1 h2 h => exact ⟨b, off, c, cs i, rfl, h1 i x hi, h2 i x hi⟩

theorem Rep_sub {nu : Nu} {u : U} {l : List (El S u)} {v : Value} (h : Rep un nu D w (.sl u l) v) : (∃ A c, v = .slice A l.length c ∧ l.length ≤ c) := by
  simp only [Rep] at h
  cases h with
  | sl0 A c h0 h =>
    have h0' : l = [] := h0
    exact ⟨A, c, by rw [h0']; rfl, by rw [h0']; simp⟩
  | sl b off c cs hc h1 h2 h => exact ⟨_, c, rfl, hc⟩

theorem run_slice_sl {t T : TypeId} {u : U} (hu : P.underlying t = some (.slice T)) (hT : ElOk P un T u) {nu : Nu} {l : List (El S u)} {v : Value} (hv : Rep un nu D w (.sl u l) v) {lo hi : Option Value} {i j : Nat} (h1 : i ≤ j) (h2 : j ≤ l.length)
    (hlo : (lo = none ∧ i = 0) ∨ ∃ k, lo = some (.int k (i : Int))) (hhi : (hi = none ∧ j = l.length) ∨ ∃ k, hi = some (.int k (j : Int))) :
    ∃ u', (Instr.sliceAt t v lo hi none).run P w = .ok u' w ∧ Rep un nu D w (.sl u ((l.drop i).take (j - i))) u' := by
  obtain ⟨jn, z, g1, g2, g3, g4, g5, g6⟩ := hT.info
  have hrun : ∀ A n c, n ≤ c → n = l.length → (Instr.sliceAt t (.slice A n c) lo hi none).run P w = .ok (.slice (if c = i then A else A.map (·.add (i * U.size un u))) (j - i) (c - i)) w := by
    intro A n c hc hn
    subst hn
    have h3 : j ≤ c := Nat.le_trans h2 hc
    rcases hlo with ⟨rfl, rfl⟩ | ⟨k, rfl⟩ <;> rcases hhi with ⟨rfl, rfl⟩ | ⟨k', rfl⟩
    all_goals simp [Instr.sliceAt, run_underlying hu, Instr.slice, Instr.sliceBounds, Instr.sliceBound, asIntOf, Go.sizeOf, typeInfo, g1, g3, h1, h3]
  simp only [Rep] at hv ⊢
  have empty : ∀ A c, i = j → DR un D w [.sl u] (sg (u := .sl u) ((l.drop i).take (j - i))) [.slice A (j - i) c] := by
    intro A c hij
    subst hij
    have h0 : (l.drop i).take (i - i) = [] := by simp
    rw [h0, show (i - i) = 0 by omega]
    exact .sl0 _ _ rfl .nil
  cases hv with
  | sl0 A c h0 h =>
    have h0' : l = [] := h0
    have hl : l.length = 0 := by rw [h0']; rfl
    exact ⟨_, hrun A 0 c (Nat.zero_le _) hl.symm, empty _ _ (by omega)⟩
  | sl b off c cs hc k1 k2 k3 =>
    have hc' : l.length ≤ c := hc
    refine ⟨_, hrun _ _ c hc rfl, ?_⟩
    by_cases hij : i = j
    · exact empty _ _ hij
    · have hlen : ((l.drop i).take (j - i)).length = j - i := by simp; omega
      have hci : ¬ (c = i) := by omega
      rw [if_neg hci]
      simp only [Option.map_some, Addr.add_mid]
      have := @DR.sl S un D w u [] (sg (u := .sl u) ((l.drop i).take (j - i))) [] b (off + i * U.size un u) (c - i) (fun m => cs (i + m)) (by show ((l.drop i).take (j - i)).length ≤ _; omega)
        (fun m x hm => by
          have hm' : l[i + m]? = some x := by
            have hm2 : ((l.drop i).take (j - i))[m]? = some x := hm
            rw [List.getElem?_take] at hm2
            split at hm2
            · rwa [List.getElem?_drop] at hm2
            · cases hm2
          have := k1 (i + m) x hm'
          rwa [Nat.add_mul, ← Nat.add_assoc] at this)
        (fun m x hm => by
          have hm' : l[i + m]? = some x := by
            have hm2 : ((l.drop i).take (j - i))[m]? = some x := hm
            rw [List.getElem?_take] at hm2
            split at hm2
            · rwa [List.getElem?_drop] at hm2
            · cases hm2
          exact k2 (i + m) x hm') .nil
      have hl2 : (eL (hd (sg (u := .sl u) ((l.drop i).take (j - i))))).length = j - i := hlen
      rw [hl2] at this
      exact this

end
end Pe
