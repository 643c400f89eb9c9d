/- Any operation: a state goes over into a state. -/
import Derived.Test.YteimbekcnkogoaaDoorPe8
namespace Pe
open Go Go.RowKit
variable {S : Nat → Type}
section
variable {P : Program} {un : Uni S} {tb : Tb S} {orc : Orc S} {inl : Inl S} {E : Wl.Ctx} {D0 : Dat} {N : Wl.Fr} {D D' : Dat} {H : List Wl.Res} {e : Env S} {bx : Bxs S} {a : Act} {w w' : World} {o : Oper} {R : Type} {r : R}

theorem take_drop_left {α : Type} (xs ys : List α) {k m : Nat} (h : k + m ≤ xs.length) : ((xs ++ ys).drop k).take m = (xs.drop k).take m := by
  rw [List.drop_append_of_le_length (by omega), List.take_append_of_le_length (by simp; omega)]
theorem take_drop_right {α : Type} (xs ys : List α) (k m : Nat) : ((xs ++ ys).drop (xs.length + k)).take m = (ys.drop k).take m := by
  rw [List.drop_append, List.drop_eq_nil_of_le (Nat.le_add_right _ _), Nat.add_sub_cancel_left, List.nil_append]

theorem rows_append {u : U} {old new : List (El S u)} {xs news : List Value} (hx : xs.length = old.length * U.size un u)
    (h1 : ∀ (i : Nat) x, old[i]? = some x → DR un D w [u] (sg x) ((xs.drop (i * U.size un u)).take (U.size un u))) (h2 : ∀ (i : Nat) x, new[i]? = some x → DR un D w [u] (sg x) ((news.drop (i * U.size un u)).take (U.size un u))) :
    ∀ (i : Nat) x, (old ++ new)[i]? = some x → DR un D w [u] (sg x) (((xs ++ news).drop (i * U.size un u)).take (U.size un u)) := by
  intro i x hi
  rcases Nat.lt_or_ge i old.length with hlt | hge
  · rw [List.getElem?_append_left hlt] at hi
    have : (i + 1) * U.size un u ≤ old.length * U.size un u := Nat.mul_le_mul_right _ hlt
    rw [Nat.add_mul, Nat.one_mul] at this
    rw [take_drop_left _ _ (by omega)]
    exact h1 i x hi
  · rw [List.getElem?_append_right hge] at hi
    have he : i * U.size un u = xs.length + (i - old.length) * U.size un u := by
      rw [hx, ← Nat.add_mul]; congr 1; omega
    rw [he, take_drop_right]
    exact h2 _ x hi

/-- The data, and the cells of a row. -/
def plusD (D : Dat) (v : Value) (k : Nat) : Dat := fun b o => D b o ∨ (v.ownBlock = some b ∧ o < k)

theorem ids_set {i : Nat} {r r' : Wl.Res} (hi : H[i]? = some r) (h1 : (resId r).1 = false) : ∀ (j : Nat) x, (ids H)[j]? = some x → (ids (H.set i r'))[j]? = some x ∨ (j = i ∧ x.1 = false) := by
  intro j x hj
  by_cases hij : i = j
  · subst hij
    right
    simp [ids, hi] at hj
    subst hj
    exact ⟨rfl, h1⟩
  · left
    simp only [ids, List.map_set, List.getElem?_set_ne hij]
    exact hj

theorem own_turn {T : TypeId} {u : U} {v v' : Value} {n m : Nat} {xs news : List Value} {b : Nat} (hin : In E D H w) (hb : H[b]? = some (.own v T (U.size un u) n xs)) (r1 : w'.ownsRow E.w.heap.size T (U.size un u) v' (n + m) (xs ++ news)) (r2 : w.grownBy w' v.ownBlock) (r4 : v'.ownBlock = v.ownBlock ∨ v'.ownBlock = some w.heap.size)
    (r5 : ∀ k o, k < w.heap.size → (v.ownBlock = some k → o < n * U.size un u) → w'.cell? ⟨k, o, none⟩ = w.cell? ⟨k, o, none⟩) :
    In E (plusD D v' ((n + m) * U.size un u)) (H.set b (.own v' T (U.size un u) (n + m) (xs ++ news))) w' ∧ Ge D w (plusD D v' ((n + m) * U.size un u)) w' := by
  have hmem := List.mem_of_getElem? hb
  have hle : n * U.size un u ≤ (n + m) * U.size un u := Nat.mul_le_mul_right _ (by omega)
  refine ⟨hin.turn hb r2 r1 (fun g hg => ?_) (fun k o hk => ?_) (fun k o hk => ?_) (fun g hg o hf hd => ?_) (fun g T cs he => by cases he), ⟨fun _ _ h => .inl h, fun k o hk => r5 k o (hin.lt k o hk) fun hkb => ?_⟩⟩
  · rcases r4 with r4 | r4
    · exact .inl (r4.symm.trans hg)
    · right
      have h2 : v'.ownBlock = some g := hg
      rw [r4] at h2; simp at h2; omega
  · rcases hk with hk | hk
    · exact .inl hk
    · exact .inr ⟨hk.1, by simp only [free]; omega⟩
  · rcases hk with hk | hk
    · exact Nat.lt_of_lt_of_le (hin.lt k o hk) r2.size
    · exact (World.ownsRow.lt r1 k hk.1).2
  · have hg' : v'.ownBlock = some g := hg
    simp only [free] at hf
    rcases hd with hd | hd
    · rcases r4 with r4 | r4
      · exact hin.apart _ hmem g (r4.symm.trans hg') o (by simp only [free]; omega) hd
      · rw [r4] at hg'; simp at hg'; have := hin.lt g o hd; omega
    · omega
  · rcases Nat.lt_or_ge o (n * U.size un u) with h | h
    · exact h
    · exact absurd hk (hin.apart _ hmem k hkb o h)

theorem own_one {v : Value} {base n size : Nat} {T : TypeId} {xs : List Value} (h : w.ownsRow base T size v n xs) : v.oneCell' = true ∧ v.cells = #[v] := by
  rcases h.2 with ⟨rfl, _⟩ | ⟨g, cap, cur, rfl, _⟩ <;> exact ⟨rfl, rfl⟩

theorem In.ownNil (h : In E D H w) (T : TypeId) (size : Nat) : In E D (H ++ [.own (.slice none 0 0) T size 0 []]) w :=
  h.push (Below.refl _ _) (World.ownsRow_nil _ _ _ _) (fun g hg => by simp [Wl.Res.block, Value.ownBlock] at hg) (fun k o hk => .inl hk) h.lt (fun g hg => by simp [Wl.Res.block, Value.ownBlock] at hg)

theorem src_plus {v : Value} {k : Nat} (h1 : ∀ b o, D b o → D0 b o ∨ E.w.heap.size ≤ b) (h2 : ∀ g, v.ownBlock = some g → E.w.heap.size ≤ g) : ∀ b o, plusD D v k b o → D0 b o ∨ E.w.heap.size ≤ b := by
  intro b o h
  rcases h with h | h
  · exact h1 b o h
  · exact .inr (h2 b h.1)

/-- append onto a row of the call's own. -/
theorem append_row (hun : UniOk un) {T : TypeId} {u : U} {t ty : TypeId} (hu : P.underlying t = some (.slice T)) (hT : ElOk P un T u) {b : Nat} {old new : List (El S u)} {v x : Value} (hs : St un E N D H e bx a w) (hg : getB bx b = some (.own u T old)) (hv : Rep un (ids H) D w (.row b) v)
    (hx : Rep un (ids H) D w (.sl u new) x) (hlim : old.length + new.length ≤ lim) (hD : ∀ k o, D k o → D0 k o ∨ E.w.heap.size ≤ k) {dst : Option Nat} (hd : ∀ d, dst = some d → d < N.n) :
    ∃ v' w', (Builtin.append_ #[t, t] ty #[v, x]).run P w = .ok v' w' ∧ Holds un E D0 N (push dst (.row b) (killE b (.sl u old) e)) (setB (bx.map (Box.kill b (.sl u old))) b (.own u T (old ++ new))) (a.put dst v') w' := by
  obtain ⟨r, hr1, hr2⟩ := hs.boxes.get hg
  have hh := hs.inn.res _ (List.mem_of_getElem? hr1)
  cases r with
  | box => simp [BoxRep] at hr2
  | ref => simp [BoxRep] at hr2
  | own v0 T' size n xs =>
    have hor := own_rep hun.flat hh hr2
    simp only [BoxRep] at hr2
    obtain ⟨rfl, rfl, rfl, hDo, hel⟩ := hr2
    have hv0 : v0 = v := by
      simp only [Rep, ids, List.getElem?_map, hr1, Option.map_some, resId, Option.some.injEq, Prod.mk.injEq, true_and] at hv
      exact hv.1
    subst hv0
    obtain ⟨A, c, news, rfl, g1, g2, g3, g4, g5⟩ := Rep_src hun.flat hx
    have hbase := hs.inn.out.size
    obtain ⟨v', w', hrun, r1, r2, r4, r5⟩ := append_own (P := P) (ty := ty) hu hT hh g1 (fun h => by rw [g2 h]; rfl) g3 g5 hlim hbase
    obtain ⟨hin, hge⟩ := own_turn (un := un) hs.inn hr1 r1 r2 r4 r5
    have hkept := grow_kept hs.inn.out hin.out
    have hn := ids_set (H := H) (r' := .own v' T' (U.size un u) (old.length + new.length) (xs ++ news)) hr1 rfl
    have hnb : (ids H)[b]? = some (false, v0) := by simp [ids, hr1, resId]
    have hy : Rep un (ids (H.set b (.own v' T' (U.size un u) (old.length + new.length) (xs ++ news)))) (plusD D v' ((old.length + new.length) * U.size un u)) w' (.sl u old) v0 := by
      simp only [Rep] at hor ⊢; exact hor.mono hge
    have hbl : b < H.length := (List.getElem?_eq_some_iff.1 hr1).1
    refine ⟨v', w', hrun, _, _, hs.step hin ?_ (fun i q hi => ?_) hd ?_, src_plus hD (fun g hg' => (World.ownsRow.lt r1 g hg').1)⟩
    · refine (killBx_rep hge hkept hnb hy hn hs.boxes).set ?_
      simp only [BoxRep]
      refine ⟨trivial, trivial, by simp, fun g hg' o ho => .inr ⟨hg', ho⟩, ?_⟩
      exact rows_append hh.1 (fun i y hi => (hel i y hi).mono hge) (fun i y hi => (g4 i y hi).mono hge)
    · rw [look_killE] at hi
      cases hl : look e i with
      | none => rw [hl] at hi; cases hi
      | some p0 =>
        rw [hl] at hi
        simp only [Option.map_some, Option.some.injEq] at hi
        subst hi
        exact kill_rep hge hnb hy hn (hs.slots i p0 hl)
    · simp only [Rep]
      refine ⟨?_, own_one r1⟩
      simp [ids, hbl, resId]

/-- append onto nothing. -/
theorem append_nils (hun : UniOk un) {T : TypeId} {u : U} {t ty : TypeId} (hu : P.underlying t = some (.slice T)) (hT : ElOk P un T u) {new : List (El S u)} {x : Value} (hs : St un E N D H e bx a w)
    (hx : Rep un (ids H) D w (.sl u new) x) (hlim : new.length ≤ lim) (hD : ∀ k o, D k o → D0 k o ∨ E.w.heap.size ≤ k) {dst : Option Nat} (hd : ∀ d, dst = some d → d < N.n) :
    ∃ v' w', (Builtin.append_ #[t, t] ty #[.slice none 0 0, x]).run P w = .ok v' w' ∧ Holds un E D0 N (push dst (.row bx.length) e) (bx ++ [.own u T new]) (a.put dst v') w' := by
  obtain ⟨A, c, news, rfl, g1, g2, g3, g4, g5⟩ := Rep_src hun.flat hx
  have hbase := hs.inn.out.size
  obtain ⟨v', w', hrun, r1, r2, r4, r5⟩ := append_own (P := P) (ty := ty) hu hT (World.ownsRow_nil w E.w.heap.size T (U.size un u)) g1 (fun h => by rw [g2 h]; rfl) g3 g5 (by omega) hbase
  have hnil := hs.inn.ownNil T (U.size un u)
  have hb : (H ++ [.own (.slice none 0 0) T (U.size un u) 0 []])[H.length]? = some (.own (.slice none 0 0) T (U.size un u) 0 []) := by simp
  obtain ⟨hin, hge⟩ := own_turn (un := un) hnil hb r1 r2 r4 r5
  have hset : (H ++ [Wl.Res.own (.slice none 0 0) T (U.size un u) 0 []]).set H.length (.own v' T (U.size un u) (0 + new.length) ([] ++ news)) = H ++ [.own v' T (U.size un u) (0 + new.length) ([] ++ news)] := by
    rw [List.set_append]; simp
  rw [hset] at hin
  have hkept := grow_kept hs.inn.out hin.out
  refine ⟨v', w', hrun, _, _, hs.step hin ?_ (fun i q hi => (hs.slots i q hi).ge hge (ids_ge H _)) hd ?_, src_plus hD (fun g hg' => (World.ownsRow.lt r1 g hg').1)⟩
  · refine (hs.boxes.mono hge hkept (ids_ge H _)).push ?_
    simp only [BoxRep]
    exact ⟨trivial, trivial, by simp, fun g hg' o ho => .inr ⟨hg', ho⟩, fun i y hi => by simpa using (g4 i y hi).mono hge⟩
  · simp only [Rep]
    refine ⟨?_, own_one r1⟩
    rw [hs.boxes.length, ids_new]; rfl

/-! ### slices written out -/
theorem spliceV_eq : ∀ (vs cs : List Value) (off : Nat), off + vs.length ≤ cs.length → fillL.spliceV cs off vs = cs.take off ++ vs ++ cs.drop (off + vs.length)
  | [], cs, off, _ => by simp [fillL.spliceV]
  | v :: vs, cs, off, h => by
    simp only [List.length_cons] at h
    rw [fillL.spliceV, spliceV_eq vs (cs.set off v) (off + 1) (by simp; omega)]
    have h1 : (cs.set off v).take (off + 1) = cs.take off ++ [v] := by
      rw [List.take_set, List.take_succ_eq_append_getElem (by omega)]
      have : (cs.take off).length = off := by simp; omega
      rw [List.set_append, if_neg (by omega), this]; simp
    have h2 : (cs.set off v).drop (off + 1 + vs.length) = cs.drop (off + 1 + vs.length) := by
      rw [List.drop_set]; rw [if_pos (by omega)]
    rw [h1, h2]
    simp [List.append_assoc, Nat.add_assoc, Nat.add_comm 1]
theorem foldl_spliceV : ∀ (vs cs : List Value) (off k : Nat), (vs.zipIdx k).foldl (fun (cs : Array Value) (p : Value × Nat) => cs.setIfInBounds (off + p.2) p.1) cs.toArray = (fillL.spliceV cs (off + k) vs).toArray
  | [], _, _, _ => rfl
  | v :: r, cs, off, k => by
    simp only [List.zipIdx_cons, List.foldl_cons, fillL.spliceV, List.setIfInBounds_toArray]
    exact foldl_spliceV r (cs.set (off + k) v) off (k + 1)

theorem run_fill {sz : Nat} : ∀ (ps : List (Nat × Value)) (k : Nat) (cs : List Value) (l : List (Nat × PV S)), inOrder k l = true → ps.map (·.1) = l.map (·.1) → (∀ p ∈ ps, p.2.cells.size = sz) → (k + ps.length) * sz ≤ cs.length →
    Instr.fill (fun i => some (i * sz, sz)) cs.toArray ps = some (cs.take (k * sz) ++ (ps.map (·.2.cells.toList)).flatten ++ cs.drop ((k + ps.length) * sz)).toArray
  | [], k, cs, l, _, _, _, _ => by simp [Instr.fill]
  | (i, v) :: ps, k, cs, [], _, h, _, _ => by simp at h
  | (i, v) :: ps, k, cs, (j, p) :: l, ho, hm, hsz, hlen => by
    simp only [inOrder, Bool.and_eq_true] at ho
    have hj : j = k := Nat.eq_of_beq_eq_true ho.1
    simp only [List.map_cons, List.cons.injEq] at hm
    have hik : i = k := hm.1.trans hj
    subst hik
    have hv : v.cells.size = sz := hsz (i, v) (by simp)
    simp only [List.length_cons] at hlen
    have hmul : (i + (ps.length + 1)) * sz = i * sz + sz + ps.length * sz := by rw [Nat.add_mul, Nat.add_mul, Nat.one_mul]; omega
    unfold Instr.fill
    simp only
    rw [if_neg (by simp [hv]; omega)]
    have hf := foldl_spliceV v.cells.toList cs (i * sz) 0
    rw [Nat.add_zero] at hf
    have hsv := spliceV_eq v.cells.toList cs (i * sz) (by simp [hv]; omega)
    have hl2 : v.cells.toList.length = sz := by simp [hv]
    rw [hl2] at hsv
    have hlen2 : (cs.take (i * sz) ++ v.cells.toList ++ cs.drop (i * sz + sz)).length = cs.length := by simp [hv]; omega
    have ih := run_fill ps (i + 1) (cs.take (i * sz) ++ v.cells.toList ++ cs.drop (i * sz + sz)) l ho.2 hm.2 (fun p hp => hsz p (by simp [hp])) (by rw [hlen2, show i + 1 + ps.length = i + (ps.length + 1) by omega]; exact hlen)
    have hfold : (Array.foldl (fun (cs : Array Value) (x : Value × Nat) => match x with | (c, j) => cs.setIfInBounds (i * sz + j) c) cs.toArray v.cells.zipIdx) = (cs.take (i * sz) ++ v.cells.toList ++ cs.drop (i * sz + sz)).toArray := by
      rw [← hsv, ← hf, ← Array.foldl_toList]
      simp
    rw [hfold, ih]
    congr 2
    have e1 : (cs.take (i * sz) ++ v.cells.toList ++ cs.drop (i * sz + sz)).take ((i + 1) * sz) = cs.take (i * sz) ++ v.cells.toList := by
      have : (cs.take (i * sz) ++ v.cells.toList).length = (i + 1) * sz := by rw [Nat.add_mul, Nat.one_mul]; simp [hv]; omega
      rw [← this, List.take_left]
    have e2 : (cs.take (i * sz) ++ v.cells.toList ++ cs.drop (i * sz + sz)).drop ((i + 1 + ps.length) * sz) = cs.drop ((i + (ps.length + 1)) * sz) := by
      have h3 : (cs.take (i * sz) ++ v.cells.toList).length = i * sz + sz := by simp [hv]; omega
      have h4 : (i + 1 + ps.length) * sz = (cs.take (i * sz) ++ v.cells.toList).length + ps.length * sz := by rw [h3, Nat.add_mul, Nat.add_mul, Nat.one_mul]
      rw [h4, List.drop_append, List.drop_eq_nil_of_le (Nat.le_add_right _ _), Nat.add_sub_cancel_left, List.nil_append, List.drop_drop, hmul]
    rw [e1, e2]
    simp [List.append_assoc]
end
end Pe
