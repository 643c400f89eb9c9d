/- Any operation, carried out. -/
import Derived.Test.YteimbekcnkogoaaDoorPe9b
namespace Pe
open Go Go.RowKit
variable {S : Nat → Type}
section
variable {P : Program} {un : Uni S} {tb : Tb S} {orc : Orc S} {inl : Inl S} {E : Wl.Ctx} {D0 : Dat} {N : Wl.Fr} {D D' : Dat} {H : List Wl.Res} {e : Env S} {bx : Bxs S} {a : Act} {w w' : World} {o : Oper} {R : Type} {r : R}

theorem run_newVar (w : World) (t : TypeId) (v : Value) : (newVar t v).run P w = .ok ⟨w.heap.size, 0, none⟩ (w.alloc (.cells v.cells t)) := by
  simp [newVar, newRow]

theorem PartsRep.split {nu : Nu} : ∀ {l : List (Nat × PV S)} {pv : List (Nat × Value)}, PartsRep un nu D w l pv → RepL un nu D w (l.map (·.2)) (pv.map (·.2)) ∧ pv.map (·.1) = l.map (·.1)
  | [], [], _ => ⟨by simp [RepL], rfl⟩
  | (i, p) :: l, (j, v) :: pv, h => by
    simp only [PartsRep] at h
    obtain ⟨rfl, h1, h2⟩ := h
    obtain ⟨g1, g2⟩ := PartsRep.split h2
    exact ⟨by simp only [List.map_cons, RepL]; exact ⟨h1, g1⟩, by simp [g2]⟩
  | [], _ :: _, h => by simp [PartsRep] at h
  | _ :: _, [], h => by simp [PartsRep] at h

theorem castAll_rep (hun : UniOk un) (hs : St un E N D H e bx a w) {u : U} : ∀ {ps : List (PV S)} {vs : List Value} {xs : List (El S u)}, castAll un bx u ps = some xs → RepL un (ids H) D w ps vs →
    xs.length = vs.length ∧ (∀ v ∈ vs, v.cells.size = U.size un u) ∧ ∀ (i : Nat) x, xs[i]? = some x → DR un D w [u] (sg x) (((vs.map (·.cells.toList)).flatten.drop (i * U.size un u)).take (U.size un u))
  | [], [], xs, h, _ => by simp [castAll] at h; subst h; simp
  | p :: ps, v :: vs, xs, h, hr => by
    simp only [RepL] at hr
    unfold castAll at h
    split at h
    · rename_i x l h1 h2
      cases h
      obtain ⟨g1, g2, g3⟩ := castAll_rep hun hs h2 hr.2
      have hd := (cast_dr hun h1 (hs.fz hun hr.1)).1
      have hsz : v.cells.size = U.size un u := by have := hd.length hun.flat; simpa [sizes] using this
      refine ⟨by simp [g1], fun y hy => ?_, fun i y hi => ?_⟩
      · rcases List.mem_cons.1 hy with rfl | hy
        · exact hsz
        · exact g2 y hy
      · simp only [List.map_cons, List.flatten_cons]
        have hl : v.cells.toList.length = U.size un u := by simpa using hsz
        cases i with
        | zero =>
          simp at hi; subst hi
          rw [Nat.zero_mul, List.drop_zero, ← hl, List.take_left]
          exact hd
        | succ i =>
          have hi' : l[i]? = some y := by simpa using hi
          have := g3 i y hi'
          rw [show (i + 1) * U.size un u = v.cells.toList.length + i * U.size un u by rw [hl, Nat.add_mul, Nat.one_mul, Nat.add_comm], take_drop_right]
          exact this
    · cases h
  | [], _ :: _, _, _, hr => by simp [RepL] at hr
  | _ :: _, [], _, _, hr => by simp [RepL] at hr

theorem flatten_len {sz : Nat} : ∀ (vs : List Value), (∀ v ∈ vs, v.cells.size = sz) → ((vs.map (·.cells.toList)).flatten).length = vs.length * sz
  | [], _ => by simp
  | v :: vs, h => by
    simp only [List.map_cons, List.flatten_cons, List.length_append, List.length_cons]
    rw [flatten_len vs fun y hy => h y (by simp [hy]), Nat.add_mul, Nat.one_mul]
    have := h v (by simp)
    simp [this]; omega

theorem run_buildSlice {T : TypeId} {u : U} {t : TypeId} (hu : P.underlying t = some (.slice T)) (hT : ElOk P un T u) {n : Nat} {pv : List (Nat × Value)} {l : List (Nat × PV S)} (ho : inOrder 0 l = true) (hm : pv.map (·.1) = l.map (·.1)) (hn : pv.length = n) (hsz : ∀ p ∈ pv, p.2.cells.size = U.size un u) (hlim : n * U.size un u ≤ 16777216) (w : World) :
    (Instr.buildSlice t n pv.toArray).run P w = .ok (.slice (some ⟨w.heap.size, 0, none⟩) n n) (w.alloc (.cells ((pv.map (·.2)).map (·.cells.toList)).flatten.toArray T)) := by
  obtain ⟨j, z, e1, e2, e3, e4, e5, e6⟩ := hT.info
  have hlim' : ¬ (16777216 < n * U.size un u) := by omega
  have key : ∀ A : Array Value, A.size = n * U.size un u → Instr.fill (fun i => some (i * U.size un u, U.size un u)) A pv = some ((pv.map (·.2)).map (·.cells.toList)).flatten.toArray := by
    intro A hA
    have := run_fill (S := S) pv 0 A.toList l ho hm hsz (by simp [hn, hA])
    rw [show A = A.toList.toArray by simp, this]
    rw [Nat.zero_mul, List.take_zero, List.nil_append, Nat.zero_add, hn]
    rw [List.drop_eq_nil_of_le (by simp [hA]), List.append_nil, List.map_map]
    rfl
  by_cases h0 : n * U.size un u = 0
  · have hk := key ((Array.range (n * U.size un u)).map fun x => (#[] : Array Value)[x % (#[] : Array Value).size]!) (by simp)
    simp only [Instr.buildSlice, Sem.run_bind, run_underlying hu, Go.sizeOf, typeInfo]
    simp [e1, e3, h0, newRow]
    simp [h0] at hk
    rw [hk]
    simp
  · have hk := key ((Array.range (n * U.size un u)).map fun x => z.cells[x % z.cells.size]!) (by simp)
    simp only [Instr.buildSlice, Sem.run_bind, run_underlying hu, Go.sizeOf, typeInfo]
    simp [e1, e3, hlim', h0, newRow, zeroValue, typeInfo, e2]
    rw [hk]
    simp

theorem buildSlice_st (hun : UniOk un) {T : TypeId} {u : U} {t : TypeId} (hu : P.underlying t = some (.slice T)) (hT : ElOk P un T u) {n : Nat} {parts : List (Nat × Operand)} {l : List (Nat × PV S)} {xs : List (El S u)} (hs : St un E N D H e bx a w) (hp : partsOf e parts = some l) (ho : inOrder 0 l = true) (hln : l.length = n) (hlim : n * U.size un u ≤ 16777216)
    (hx : castAll un bx u (l.map (·.2)) = some xs) (hD : ∀ k o, D k o → D0 k o ∨ E.w.heap.size ≤ k) {dst : Option Nat} (hd : ∀ d, dst = some d → d < N.n) :
    ∃ v' w', (Instr.buildSlice t n (parts.map fun p => (p.1, a.eval p.2)).toArray).run P w = .ok v' w' ∧ Holds un E D0 N (push dst (.row bx.length) e) (bx ++ [.own u T xs]) (a.put dst v') w' := by
  obtain ⟨hr, hm⟩ := (hs.parts hp).split
  obtain ⟨g1, g2, g3⟩ := castAll_rep hun hs hx hr
  have hpl : (parts.map fun p => (p.1, a.eval p.2)).length = n := by have := congrArg List.length hm; simpa [hln] using this
  have hrun := run_buildSlice (P := P) (un := un) hu hT ho hm hpl (fun p hp => g2 _ (List.mem_map.2 ⟨p, hp, rfl⟩)) hlim w
  refine ⟨_, _, hrun, ?_⟩
  obtain ⟨j, z, e1, e2, e3, e4, e5, e6⟩ := hT.info
  have hxn : xs.length = n := by rw [g1]; simpa using hpl
  have hfl : (((parts.map fun p => (p.1, a.eval p.2)).map (·.2)).map (·.cells.toList)).flatten.length = n * U.size un u := by
    rw [flatten_len _ g2]; congr 1; simpa using hpl
  have hb : Below w.heap.size w (w.alloc (.cells (((parts.map fun p => (p.1, a.eval p.2)).map (·.2)).map (·.cells.toList)).flatten.toArray T)) := (Below.refl _ _).alloc (Nat.le_refl _) _
  have hnm : n ≤ maxLen := by
    have : n * 1 ≤ n * U.size un u := Nat.mul_le_mul_left _ e5
    unfold maxLen; omega
  have hown : (w.alloc (.cells (((parts.map fun p => (p.1, a.eval p.2)).map (·.2)).map (·.cells.toList)).flatten.toArray T)).ownsRow E.w.heap.size T (U.size un u) (.slice (some ⟨w.heap.size, 0, none⟩) n n) n (((parts.map fun p => (p.1, a.eval p.2)).map (·.2)).map (·.cells.toList)).flatten := by
    refine ⟨hfl, .inr ⟨w.heap.size, n, _, rfl, hs.inn.out.size, heap_alloc_new w _, Nat.le_refl _, hnm, by simpa using hfl, ?_⟩⟩
    rw [List.take_of_length_le (by simpa using Nat.le_of_eq hfl)]
  have hin : In E (plusD D (.slice (some ⟨w.heap.size, 0, none⟩) n n) (n * U.size un u)) (H ++ [.own (.slice (some ⟨w.heap.size, 0, none⟩) n n) T (U.size un u) n (((parts.map fun p => (p.1, a.eval p.2)).map (·.2)).map (·.cells.toList)).flatten]) (w.alloc (.cells (((parts.map fun p => (p.1, a.eval p.2)).map (·.2)).map (·.cells.toList)).flatten.toArray T)) := by
    refine hs.inn.push hb hown (fun g hg => by simp [Wl.Res.block, Value.ownBlock] at hg; omega) (fun k o hk => ?_) (fun k o hk => ?_) (fun g hg o hf hd => ?_)
    · rcases hk with hk | hk
      · exact .inl hk
      · exact .inr ⟨hk.1, by simp only [free]; omega⟩
    · rcases hk with hk | hk
      · exact Nat.lt_of_lt_of_le (hs.inn.lt k o hk) hb.size
      · exact (World.ownsRow.lt hown k hk.1).2
    · simp [Wl.Res.block, Value.ownBlock] at hg
      simp only [free] at hf
      rcases hd with hd | hd
      · have := hs.inn.lt g o hd; omega
      · omega
  have hge : Ge D w (plusD D (.slice (some ⟨w.heap.size, 0, none⟩) n n) (n * U.size un u)) (w.alloc (.cells (((parts.map fun p => (p.1, a.eval p.2)).map (·.2)).map (·.cells.toList)).flatten.toArray T)) := ⟨fun _ _ h => .inl h, fun k o hk => World.cell?_of_block (hb.block k (hs.inn.lt k o hk))⟩
  refine ⟨_, _, hs.step hin ?_ (fun i q hi => (hs.slots i q hi).ge hge (ids_ge H _)) hd ?_, src_plus hD (fun g hg => (World.ownsRow.lt hown g hg).1)⟩
  · refine (hs.boxes.mono hge (grow_kept hs.inn.out hin.out) (ids_ge H _)).push ?_
    simp only [BoxRep]
    exact ⟨trivial, trivial, hxn.symm, fun g hg o ho => .inr ⟨hg, ho⟩, fun i x hi => (g3 i x hi).mono hge⟩
  · simp only [Rep]
    refine ⟨?_, rfl, rfl⟩
    rw [hs.boxes.length, ids_new]; rfl

theorem setCells_box (g : Nat) (T : TypeId) : ∀ (vs cs : List Value) (off : Nat) (w : World), w.heap[g]? = some (.cells cs.toArray T (0, 0)) →
    (w.setCells g off vs).heap[g]? = some (.cells (fillL.spliceV cs off vs).toArray T (0, 0)) ∧ w.grownBy (w.setCells g off vs) (some g)
  | [], cs, off, w, h => ⟨h, World.grownBy.refl w _⟩
  | v :: r, cs, off, w, h => by
    have h1 : (w.setCell ⟨g, off, none⟩ v).heap[g]? = some (.cells (cs.set off v).toArray T (0, 0)) := by
      simp [World.setCell, Array.getElem?_modify, h]
    have h2 : w.grownBy (w.setCell ⟨g, off, none⟩ v) (some g) :=
      ⟨rfl, rfl, rfl, by simp [World.setCell], fun k _ hne => Below.heap_setCell w _ v k (fun e => hne (by rw [e]))⟩
    obtain ⟨i1, i2⟩ := setCells_box g T r (cs.set off v) (off + 1) _ h1
    refine ⟨i1, ⟨i2.os.trans h2.os, i2.tape.trans h2.tape, i2.output.trans h2.output, Nat.le_trans h2.size i2.size, fun k hk hne => (i2.block k (Nat.lt_of_lt_of_le hk h2.size) hne).trans (h2.block k hk hne)⟩⟩

theorem store_st (hun : UniOk un) {t : TypeId} {row : TyRow S} (hrow : RowOk P un t row) {b off : Nat} {T : TypeId} {cs : List (PV S)} {p : PV S} {v x : Value} (hs : St un E N D H e bx a w) (hg : getB bx b = some (.var T cs)) (hx : Rep un (ids H) D w (.ptr b off) x) (hv : Rep un (ids H) D w p v)
    (h1 : (p.cells un).all PV.one = true) (h2 : (p.cells un).length = row.n) (h3 : off + row.n ≤ cs.length) {dst : Option Nat} (hd : ∀ d, dst = some d → d < N.n) :
    ∃ w' H', (Instr.storeAt t x v).run P w = .ok () w' ∧ St un E N D H' (push dst undefV e) (setB bx b (.var T (splice cs off (p.cells un)))) (a.put dst undef) w' := by
  obtain ⟨r, hr1, hr2⟩ := hs.boxes.get hg
  have hh := hs.inn.res _ (List.mem_of_getElem? hr1)
  cases r with
  | own => simp [BoxRep] at hr2
  | ref => simp [BoxRep] at hr2
  | box g T' vs =>
    simp only [BoxRep] at hr2
    obtain ⟨rfl, hl⟩ := hr2
    simp only [Rep, ids, List.getElem?_map, hr1, Option.map_some, resId, Option.some.injEq, Prod.mk.injEq, true_and] at hx
    obtain ⟨g', hg', rfl⟩ := hx
    simp at hg'
    subst hg'
    obtain ⟨c1, c2⟩ := cells_rep hun.flat h1 hv
    have hcl := c1.length
    have hvl := hl.length
    have hvs : v.cells.size = row.n := by rw [← h2, hcl]; simp
    obtain ⟨k1, k2⟩ := setCells_box g T' v.cells.toList vs off w hh.2
    have hrun : (Instr.storeAt t (.pointer (some ⟨g, off, none⟩)) v).run P w = .ok () (w.setCells g off v.cells.toList) := by
      have := run_storeAt_mid (P := P) w g off t v.cells (fun j hj => ⟨by rw [cell_of_row w g _ _ _ _ hh.2]; simp; omega, by simp [World.frozen?, hh.2]⟩) (by rw [hrow.size, hvs]) (by rw [Array.all_eq_true]; intro i hi; exact c2 _ (by simp))
      rw [← this]
      rfl
    have hin : In E D (H.set b (.box g T' (fillL.spliceV vs off v.cells.toList))) (w.setCells g off v.cells.toList) := by
      refine hs.inn.turn hr1 k2 ⟨hh.1, k1⟩ (fun _ hk => .inl hk) (fun k o hk => .inl hk) (fun k o hk => Nat.lt_of_lt_of_le (hs.inn.lt k o hk) k2.size) (fun g2 hg2 o _ hk => ?_) (fun g T cs he => by cases he; exact ⟨_, _, rfl⟩)
      exact hs.inn.apart _ (List.mem_of_getElem? hr1) g2 hg2 o trivial hk
    have hge : Ge D w D (w.setCells g off v.cells.toList) := ⟨fun _ _ h => h, fun k o hk => by
      refine World.cell?_of_block (k2.block k (hs.inn.lt k o hk) fun h => ?_)
      simp at h; subst h
      exact hs.inn.apart _ (List.mem_of_getElem? hr1) k rfl o trivial hk⟩
    have hids : ids (H.set b (.box g T' (fillL.spliceV vs off v.cells.toList))) = ids H := ids_set_same hr1 rfl
    refine ⟨_, _, hrun, hs.step hin ?_ (fun i q hi => ?_) hd ?_⟩
    · rw [hids]
      refine (hs.boxes.mono hge (grow_kept hs.inn.out hin.out) fun _ _ h => h).set ?_
      simp only [BoxRep]
      exact ⟨trivial, (hl.splice off c1).ge hge fun _ _ h => h⟩
    · rw [hids]; exact (hs.slots i q hi).ge hge fun _ _ h => h
    · simp only [undefV, Rep]; exact ⟨[], rfl, by simp [RepL]⟩

theorem intsP_rep {nu : Nu} : ∀ {ps : List (PV S)} {vs cs : List Value}, intsP ps = some vs → RepL un nu D w ps cs → cs = vs
  | [], vs, cs, h, hr => by simp only [intsP] at h; cases h; cases cs <;> simp_all [RepL]
  | .int k n :: ps, vs, [], h, hr => by simp [RepL] at hr
  | .int k n :: ps, vs, c :: cs, h, hr => by
    simp only [intsP] at h
    split at h
    · rename_i l hl
      cases h
      simp only [RepL, Rep] at hr
      rw [hr.1, intsP_rep hl hr.2]
    · cases h
  | .bool _ :: _, _, _, h, _ => by simp [intsP] at h
  | .str _ :: _, _, _, h, _ => by simp [intsP] at h
  | .sl _ _ :: _, _, _, h, _ => by simp [intsP] at h
  | .nils :: _, _, _, h, _ => by simp [intsP] at h
  | .st _ _ :: _, _, _, h, _ => by simp [intsP] at h
  | .agg _ :: _, _, _, h, _ => by simp [intsP] at h
  | .tup _ :: _, _, _, h, _ => by simp [intsP] at h
  | .elp _ _ _ :: _, _, _, h, _ => by simp [intsP] at h
  | .ptr _ _ :: _, _, _, h, _ => by simp [intsP] at h
  | .nilp :: _, _, _, h, _ => by simp [intsP] at h
  | .row _ :: _, _, _, h, _ => by simp [intsP] at h
  | .func _ _ _ :: _, _, _, h, _ => by simp [intsP] at h
  | .nilFunc :: _, _, _, h, _ => by simp [intsP] at h
  | .iface _ _ :: _, _, _, h, _ => by simp [intsP] at h
  | .nilIface :: _, _, _, h, _ => by simp [intsP] at h
  | .junk :: _, _, _, h, _ => by simp [intsP] at h
theorem popK_wp (hun : UniOk un) (ht : TbOk P un tb) (hor : SoundO P un orc) (hin : SoundI P un inl) {K : PV S → Env S → Bxs S → Option R} {KX : Exit → Env S → Bxs S → Option R} (h : popK un tb orc inl o e bx K KX = some r) (hd : ∀ d, o.dst = some d → d < N.n) (hs : Holds un E D0 N e bx a w)
    {next : Act → World → Prop} {Q : Exit → Act → World → Prop} (hk : ∀ p e' bx', K p e' bx' = some r → Pres [] e e' → PresB bx bx' → ∀ a' w', Holds un E D0 N (push o.dst p e') bx' a' w' → next a' w')
    (hx : ∀ x e' bx', KX x e' bx' = some r → Pres [] e e' → PresB bx bx' → ∀ a' w', Holds un E D0 N e' bx' a' w' → Q x a' w') : o.wp P a w next Q := by
  have quiet : popQ un tb orc inl o e bx (fun p => K p e bx) = some r → o.wp P a w next Q := fun h => by
    obtain ⟨p, h1, h2⟩ := popQ_gives hun ht hor hin h
    exact gives_step h2 hd hs fun a' w' h3 => hk p e bx h1 (Pres.refl _ _) (PresB.refl _) a' w' h3
  unfold popK at h
  split at h
  · -- alloc
    rename_i T ho
    split at h
    · rename_i row hrow
      obtain ⟨D, H, hs, hD⟩ := hs
      obtain ⟨z, g1, g2, g3⟩ := (ht.ty T row hrow).zero
      obtain ⟨H', h2⟩ := hs.newBox T (cs := row.zero) (vs := z.cells.toList) (by rw [g3]; exact repL_const _) hd
      unfold Oper.wp
      cases hi : P.info? T with
      | none => rw [hi] at g1; cases g1
      | some i =>
        rw [hi] at g1
        simp only [Option.bind_some] at g1
        have : (execOp a.eval o).run P w = .ok (.value (.pointer (some ⟨w.heap.size, 0, none⟩))) (w.alloc (.cells z.cells T)) := by
          simp [execOp, ho, Instr.alloc, zeroValue, typeInfo, hi, g1, run_newVar]
        rw [this]
        exact hk _ _ _ h (Pres.refl _ _) (PresB.append _ _) _ _ ⟨D, H', by simpa using h2, hD⟩
    · cases h
  · -- box
    rename_i T x ho
    split at h
    · rename_i p row hx hrow
      obtain ⟨h1, h2⟩ := bif_some h
      simp only [Bool.and_eq_true] at h1
      obtain ⟨D, H, hs, hD⟩ := hs
      obtain ⟨c1, c2⟩ := cells_rep hun.flat h1.1 (hs.ev hx)
      obtain ⟨H', h3⟩ := hs.newBox T c1 hd
      unfold Oper.wp
      have : (execOp a.eval o).run P w = .ok (.value (.pointer (some ⟨w.heap.size, 0, none⟩))) (w.alloc (.cells (a.eval x).cells T)) := by
        simp [execOp, ho, Instr.box, run_newVar]
      rw [this]
      exact hk _ _ _ h2 (Pres.refl _ _) (PresB.append _ _) _ _ ⟨D, H', by simpa using h3, hD⟩
    · cases h
  · -- store
    rename_i t x y ho
    split at h
    · rename_i b off p row hx hy hrow
      split at h
      · rename_i T cs hg
        obtain ⟨h1, h2⟩ := bif_some h
        simp only [Bool.and_eq_true, Nat.ble_eq] at h1
        obtain ⟨D, H, hs, hD⟩ := hs
        obtain ⟨w', H', hrun, hst⟩ := store_st (P := P) hun (ht.ty t row hrow) hs hg (hs.ev hx) (hs.ev hy) h1.1.1 (Nat.eq_of_beq_eq_true h1.1.2) h1.2 hd
        unfold Oper.wp
        have : (execOp a.eval o).run P w = .ok .skip w' := by simp [execOp, ho, hrun]
        rw [this]
        exact hk _ _ _ h2 (Pres.refl _ _) (PresB.set hg rfl fun T' cs' he => by cases he; exact ⟨_, rfl, splice_length _ _ _⟩) _ _ ⟨D, H', hst, hD⟩
      · cases h
    · cases h
  · -- buildSlice
    rename_i t n parts ho
    split at h
    · rename_i l T u hp hel
      cases hrow : tb.ty.get t with
      | none => rw [hrow] at hel; cases hel
      | some row =>
        rw [hrow] at hel
        simp only [Option.bind_some] at hel
        have hrw := ht.ty t row hrow
        obtain ⟨T', u', g1, g2, g3⟩ := hrw.slice (hrw.elem T u hel)
        rw [hel] at g1
        simp at g1
        obtain ⟨rfl, rfl⟩ := g1
        obtain ⟨h1, h2⟩ := bif_some h
        simp only [Bool.and_eq_true, Nat.ble_eq] at h1
        split at h2
        · rename_i xs hxs
          obtain ⟨D, H, hs, hD⟩ := hs
          obtain ⟨v', w', hrun, hst⟩ := buildSlice_st (P := P) hun g2 g3 hs hp h1.1.2 (Nat.eq_of_beq_eq_true h1.1.1) h1.2 hxs hD hd
          unfold Oper.wp
          have hmap : (parts.map fun (x : Nat × Operand) => match x with | (i, x) => (i, a.eval x)) = (parts.toList.map fun p => (p.1, a.eval p.2)).toArray := by cases parts; simp
          have : (execOp a.eval o).run P w = .ok (.value v') w' := by simp [execOp, ho, hmap, hrun]
          rw [this]
          exact hk _ _ _ h2 (Pres.refl _ _) (PresB.append _ _) _ _ hst
        · cases h2
    · cases h
  · -- call
    rename_i c ho
    split at h
    · -- append
      rename_i hc
      split at h
      · rename_i s x t hargs htw
        split at h
        · cases h
        · rename_i T u hel
          cases hrow : tb.ty.get t with
          | none => rw [hrow] at hel; cases hel
          | some row =>
            rw [hrow] at hel
            simp only [Option.bind_some] at hel
            have hrw := ht.ty t row hrow
            obtain ⟨T', u', g1, g2, g3⟩ := hrw.slice (hrw.elem T u hel)
            rw [hel] at g1
            simp at g1
            obtain ⟨rfl, rfl⟩ := g1
            split at h
            · rename_i new hnew
              obtain ⟨D, H, hs, hD⟩ := hs
              obtain ⟨args, hca⟩ : ∃ args : List Operand, c.args = ⟨args⟩ := ⟨c.args.toList, by cases c.args; rfl⟩
              have hr := hs.evs hargs
              rw [hca] at hr
              have hat : c.argTypes = #[t, t] := by
                obtain ⟨tl, htl⟩ : ∃ l : List Nat, c.argTypes = ⟨l⟩ := ⟨c.argTypes.toList, by cases c.argTypes; rfl⟩
                rw [htl] at htw ⊢
                rcases tl with _ | ⟨x1, _ | ⟨x2, _ | ⟨x3, _⟩⟩⟩ <;> simp [twice] at htw
                obtain ⟨q1, q2⟩ := bif_some htw
                cases q2
                rw [Nat.eq_of_beq_eq_true q1]
              rcases args with _ | ⟨s0, _ | ⟨x0, _ | ⟨_, _⟩⟩⟩ <;> simp only [List.map_cons, List.map_nil, RepL, and_true, and_false] at hr
              have hx : Rep un (ids H) D w (.sl u new) (a.eval x0) := by
                have := (cast_dr hun (un := un) hnew (hs.fz1 hun hr.2)).2
                simpa only [inj] using this
              have hrunE : ∀ v' w', (Builtin.append_ #[t, t] o.type #[a.eval s0, a.eval x0]).run P w = .ok v' w' → (execOp a.eval o).run P w = .ok (.value v') w' := by
                intro v' w' hrun
                simp [execOp, ho, resolve, hc, hca, hat, invoke, builtin, hrun]
              split at h
              · -- nil
                have hs0 := hr.1
                simp only [Rep] at hs0
                obtain ⟨l, h1, h2⟩ := ob_some h
                obtain ⟨h3, rfl⟩ := cat?_some h1
                obtain ⟨v', w', hrun, hst⟩ := append_nils (P := P) (ty := o.type) hun g2 g3 hs hx (by simpa using h3) hD hd
                rw [← hs0] at hrun
                unfold Oper.wp
                rw [hrunE v' w' hrun]
                exact hk _ _ _ h2 (Pres.refl _ _) (PresB.append _ _) _ _ hst
              · rename_i b
                split at h
                · rename_i v0 T' old hg
                  split at h
                  · rename_i heq _
                    subst heq
                    obtain ⟨h1, h2⟩ := bif_some h
                    have hTT := Nat.eq_of_beq_eq_true h1
                    subst hTT
                    obtain ⟨l, h3, h4⟩ := ob_some h2
                    obtain ⟨h5, rfl⟩ := cat?_some h3
                    obtain ⟨v', w', hrun, hst⟩ := append_row (P := P) (ty := o.type) hun g2 g3 hs hg hr.1 hx h5 hD hd
                    unfold Oper.wp
                    rw [hrunE v' w' hrun]
                    exact hk _ _ _ h4 (Pres.kill _ _ _) ((PresB.kill b _ bx).trans (PresB.set (b := (Box.own _ _ _)) (by rw [getB_map, hg]; rfl) rfl fun T' cs' he => by cases he)) _ _ hst
                  · cases h
                · cases h
              · cases h
            · cases h
      · cases h
    · -- a call
      split at h
      · rename_i f l hen
        split at h
        · rename_i us ts lc rs ps pan hsig
          exact eff_wp hun hen ho (ht.eff f us ts lc rs ps pan hsig) (nub_spec _ _).1 h (fun t ht D H a w gs hs hb vs hr => castE_rep hun hs hb ht hr) (fun t c r hr => hor.e f t ts lc c rs ps pan r hr) hd hs hk hx
        · rename_i fn an ts lc rs ps pan hsig
          obtain ⟨hfn, hen2⟩ := ht.effI f fn an ts lc rs ps pan hsig
          exact eff_wp hun hen ho hen2 (nub_spec _ _).1 h (fun t ht D H a w gs hs hb vs hr => renL_rep hun hs hb _ _ _ ht hr) (fun t c r hr => hin.e fn an t ts lc c rs ps pan r f hr hfn) hd hs hk hx
        · exact quiet h
      · cases h
    · exact quiet h
  · -- panic
    rename_i x ho
    split at h
    · rename_i T l hxx
      split at h
      · rename_i vs hvs
        obtain ⟨D, H, hs, hD⟩ := hs
        have h1 := hs.ev hxx
        simp only [Rep] at h1
        obtain ⟨y, h2, cs, h3, h4⟩ := h1
        have hcs : cs = vs := intsP_rep hvs h4
        subst hcs
        unfold Oper.wp
        have : (execOp a.eval o).run P w = .halt (.panic (.iface T (.agg cs.toArray))) w := by simp [execOp, ho, h2, h3, Instr.panic, goPanic]
        rw [this]
        exact hx _ _ _ h (Pres.refl _ _) (PresB.refl _) _ _ ⟨D, H, hs, hD⟩
      · cases h
    · cases h
  · exact quiet h
end
end Pe
