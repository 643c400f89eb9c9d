/- Steps: what becomes of a state. -/
import Derived.Test.YteimbekcnkogoaaDoorPe6
import Derived.Deep.Upon
namespace Pe
open Go Go.RowKit
variable {S : Nat → Type}

/-- A state, whatever its data and its blocks; D0: the data that the call was handed. -/
def Holds (un : Uni S) (E : Wl.Ctx) (D0 : Dat) (N : Wl.Fr) (e : Env S) (bx : Bxs S) (a : Act) (w : World) : Prop :=
  ∃ D H, St un E N D H e bx a w ∧ ∀ k o, D k o → D0 k o ∨ E.w.heap.size ≤ k

section
variable {P : Program} {un : Uni S} {tb : Tb S} {orc : Orc S} {inl : Inl S} {E : Wl.Ctx} {D0 : Dat} {N : Wl.Fr} {D D' : Dat} {H : List Wl.Res} {e : Env S} {bx : Bxs S} {a : Act} {w w' : World} {o : Oper} {R : Type} {r : R}

theorem Ge.below (h : In E D H w) (hb : Below w.heap.size w w') : Ge D w (newD D w w') w' :=
  ⟨fun _ _ hk => .inl hk, fun k o hk => World.cell?_of_block (hb.block k (h.lt k o hk))⟩

theorem In.below (h : In E D H w) (hb : Below w.heap.size w w') : In E (newD D w w') H w' := by
  refine ⟨h.out.trans (Wl.Grow.of_below hb), fun k o hk => ?_, fun r hr => Wl.Res.holds_of (h.res r hr) fun g hg => hb.block g (Wl.Res.holds_lt (h.res r hr) hg).2, fun r hr g hg o hf hD => ?_, h.disj, h.lent⟩
  · rcases hk with hk | hk
    · exact Nat.lt_of_lt_of_le (h.lt k o hk) hb.size
    · exact hk.2
  · rcases hD with hD | hD
    · exact h.apart r hr g hg o hf hD
    · have := (Wl.Res.holds_lt (h.res r hr) hg).2; omega

theorem BoxRep.mono {nu nu' : Nu} {w w' : World} (hg : Ge D w D' w') (hgr : ∀ g, g < E.w.heap.size → g ∉ E.lent → w'.heap[g]? = w.heap[g]?) (hn : ∀ (i : Nat) x, nu[i]? = some x → nu'[i]? = some x) : ∀ {ro : Bool} {b : Box S} {r : Wl.Res}, BoxRep un nu D w E ro b r → BoxRep un nu' D' w' E ro b r := by
  intro ro b
  induction b generalizing ro with
  | var T cs =>
    intro r h
    cases r <;> cases ro <;> simp only [BoxRep] at h ⊢
    · exact ⟨h.1, h.2.ge hg hn⟩
    · obtain ⟨g, vs, h1, h2, h3, h4, h5⟩ := h
      exact ⟨g, vs, h1, h2, h3, (hgr g h2 h3).trans h4, h5.ge hg hn⟩
  | own u T l =>
    intro r h
    cases r <;> cases ro <;> simp only [BoxRep] at h ⊢
    · obtain ⟨h1, h2, h3, h4, h5⟩ := h
      exact ⟨h1, h2, h3, fun g hg' o ho => hg.dom _ _ (h4 g hg' o ho), fun i x hi => (h5 i x hi).mono hg⟩
    · exact ⟨h.1, h.2.ge hg hn⟩
  | lk b ih => intro r h; simp only [BoxRep] at h ⊢; exact ih h
  | ro b ih => intro r h; simp only [BoxRep] at h ⊢; exact ih h
  | gone => intro r h; cases r <;> cases ro <;> simp only [BoxRep]

theorem BxRep.mono {nu nu' : Nu} {w w' : World} (hg : Ge D w D' w') (hgr : ∀ g, g < E.w.heap.size → g ∉ E.lent → w'.heap[g]? = w.heap[g]?) (hn : ∀ (i : Nat) x, nu[i]? = some x → nu'[i]? = some x) : ∀ {bx : Bxs S} {H : List Wl.Res}, BxRep un nu D w E bx H → BxRep un nu' D' w' E bx H
  | [], [], _ => by simp only [BxRep]
  | b :: bs, r :: rs, h => by simp only [BxRep] at h ⊢; exact ⟨h.1.mono hg hgr hn, BxRep.mono hg hgr hn h.2⟩
  | [], _ :: _, h => by simp [BxRep] at h
  | _ :: _, [], h => by simp [BxRep] at h

theorem grow_kept (h : Wl.Grow E.lent E.w w) (h' : Wl.Grow E.lent E.w w') : ∀ g, g < E.w.heap.size → g ∉ E.lent → w'.heap[g]? = w.heap[g]? :=
  fun g hg hn => (h'.block g hg hn).trans (h.block g hg hn).symm

theorem put_get {a : Act} {N : Wl.Fr} (hs : a.tmps.size = N.n) {dst : Option Nat} (hd : ∀ d, dst = some d → d < N.n) (v : Value) {e : Env S} {p : PV S} {nu : Nu} (hp : Rep un nu D w p v)
    (h : ∀ i q, look e i = some q → Rep un nu D w q (a.tmps.getD i undef)) : ∀ i q, look (push dst p e) i = some q → Rep un nu D w q ((a.put dst v).tmps.getD i undef) := by
  intro i q hi
  cases dst with
  | none => exact h i q hi
  | some d =>
    have hdn := hd d rfl
    simp only [push, look] at hi
    cases hb : Nat.beq d i with
    | true =>
      rw [hb] at hi
      have : d = i := Nat.eq_of_beq_eq_true hb
      subst this
      simp at hi; subst hi
      have : (a.put (some d) v).tmps.getD d undef = v := by simp [Act.put, Array.getD, hs, hdn]
      rw [this]; exact hp
    | false =>
      rw [hb] at hi
      have hne : d ≠ i := Nat.ne_of_beq_eq_false hb
      have : (a.put (some d) v).tmps.getD i undef = a.tmps.getD i undef := by simp [Act.put, Array.getD_eq_getD_getElem?, hne]
      rw [this]; exact h i q hi

theorem put_size (a : Act) (d : Option Nat) (v : Value) : (a.put d v).tmps.size = a.tmps.size := by cases d <;> simp [Act.put]
theorem put_defers (a : Act) (d : Option Nat) (v : Value) : (a.put d v).defers = a.defers := by cases d <;> rfl

/-- The world goes on; a value is put into a slot. -/
theorem St.step {H' : List Wl.Res} {bx' : Bxs S} {e' : Env S} (h : St un E N D H e bx a w) (hin : In E D' H' w') (hbx : BxRep un (ids H') D' w' E bx' H') (he : ∀ i q, look e' i = some q → Rep un (ids H') D' w' q (a.tmps.getD i undef))
    {dst : Option Nat} (hd : ∀ d, dst = some d → d < N.n) {p : PV S} {v : Value} (hp : Rep un (ids H') D' w' p v) : St un E N D' H' (push dst p e') bx' (a.put dst v) w' :=
  ⟨hin, by rw [put_size]; exact h.size, by rw [put_defers]; exact h.defers, hbx, put_get h.size hd v hp he⟩

theorem gives_step {Q : Exit → Act → World → Prop} {K : Act → World → Prop} {p : PV S} (hg : Gives P un o e bx p) (hd : ∀ d, o.dst = some d → d < N.n) (h : Holds un E D0 N e bx a w)
    (hk : ∀ a' w', Holds un E D0 N (push o.dst p e) bx a' w' → K a' w') : o.wp P a w K Q := by
  obtain ⟨D, H, hs, hD⟩ := h
  unfold Oper.wp
  rcases hg E N D H a w hs with ⟨v, h1, h2⟩ | ⟨f, vs, h1, h2⟩
  · rw [h1]
    exact hk _ _ ⟨D, H, hs.step hs.inn hs.boxes hs.slots hd h2, hD⟩
  · rw [h1]
    refine h2.mono fun x w1 ⟨v, hx, hb, hr⟩ => ?_
    subst hx
    have hin := hs.inn.below hb
    have hge := Ge.below hs.inn hb
    have hkept := grow_kept hs.inn.out hin.out
    refine hk _ _ ⟨_, H, hs.step hin (hs.boxes.mono hge hkept fun _ _ h => h) (fun i q hi => (hs.slots i q hi).ge hge fun _ _ h => h) hd (hr.ge (Ge.refl _ _) fun i x h => by simp at h), fun k o hk => ?_⟩
    rcases hk with hk | hk
    · exact hD k o hk
    · exact .inr (Nat.le_trans hs.inn.out.size hk.1)

/-! ### memory -/
theorem In.push {E : Wl.Ctx} (h : In E D H w) {r : Wl.Res} (hb : Below w.heap.size w w') (hh : Wl.Res.holds E w' r) (hr : ∀ g, r.block = some g → w.heap.size ≤ g)
    (hD : ∀ k o, D' k o → D k o ∨ (r.block = some k ∧ ¬ free r o)) (hlt : ∀ k o, D' k o → k < w'.heap.size) (hap : ∀ g, r.block = some g → ∀ o, free r o → ¬ D' g o) : In E D' (H ++ [r]) w' := by
  refine ⟨h.out.trans (Wl.Grow.of_below hb), hlt, ?_, ?_, ?_, fun i g hi => (h.lent i g hi).imp fun T h2 => h2.imp fun cs h3 => by rw [List.getElem?_append_left (List.getElem?_eq_some_iff.1 h3).1]; exact h3⟩
  · intro s hs
    rcases List.mem_append.1 hs with hs | hs
    · exact Wl.Res.holds_of (h.res s hs) fun g hg => hb.block g (Wl.Res.holds_lt (h.res s hs) hg).2
    · simp at hs; subst hs; exact hh
  · intro s hs g hg o hf hd
    rcases List.mem_append.1 hs with hs | hs
    · have hlt2 := (Wl.Res.holds_lt (h.res s hs) hg).2
      rcases hD g o hd with h1 | h1
      · exact h.apart s hs g hg o hf h1
      · have := hr g h1.1; omega
    · simp at hs; subst hs; exact hap g hg o hf hd
  · rw [List.pairwise_append]
    refine ⟨h.disj, List.pairwise_singleton _ _, fun s hs t ht g hg hg' => ?_⟩
    simp at ht; subst ht
    have := (Wl.Res.holds_lt (h.res s hs) hg).2
    have := hr g hg'
    omega

theorem In.turn (h : In E D H w) {i : Nat} {r r' : Wl.Res} (hi : H[i]? = some r) (hg : w.grownBy w' r.block) (hh : Wl.Res.holds E w' r') (hbl : ∀ g, r'.block = some g → r.block = some g ∨ w.heap.size ≤ g)
    (hD : ∀ k o, D' k o → D k o ∨ (r'.block = some k ∧ ¬ free r' o)) (hlt : ∀ k o, D' k o → k < w'.heap.size) (hap : ∀ g, r'.block = some g → ∀ o, free r' o → ¬ D' g o) (hbox : ∀ g T cs, r = .box g T cs → ∃ T' cs', r' = .box g T' cs') : In E D' (H.set i r') w' := by
  have hmem : r ∈ H := List.mem_of_getElem? hi
  have hil : i < H.length := (List.getElem?_eq_some_iff.1 hi).1
  have hget : H[i] = r := (List.getElem?_eq_some_iff.1 hi).2
  have hr := h.res r hmem
  have keepBlock : ∀ k, k < w.heap.size → r.block ≠ some k → w'.heap[k]? = w.heap[k]? := fun k hk hne => hg.block k hk (fun e => hne e.symm)
  have other : ∀ s j, H[j]? = some s → j ≠ i → ∀ g, s.block = some g → r.block ≠ some g := by
    intro s j hj hne g hgs hgr
    have hjl : j < H.length := (List.getElem?_eq_some_iff.1 hj).1
    have hsj : H[j] = s := (List.getElem?_eq_some_iff.1 hj).2
    rcases Nat.lt_or_ge i j with hlt | hge
    · have := (List.pairwise_iff_getElem.1 h.disj) i j hil hjl hlt
      rw [hget, hsj] at this
      exact this g hgr hgs
    · have := (List.pairwise_iff_getElem.1 h.disj) j i hjl hil (by omega)
      rw [hget, hsj] at this
      exact this g hgs hgr
  refine ⟨?_, hlt, ?_, ?_, ?_, fun j g hj => ?_⟩
  rotate_left 4
  · obtain ⟨T, cs, h2⟩ := h.lent j g hj
    by_cases hij : i = j
    · subst hij
      rw [hi] at h2; cases h2
      obtain ⟨T', cs', rfl⟩ := hbox _ _ _ rfl
      exact ⟨T', cs', List.getElem?_set_self hil⟩
    · exact ⟨T, cs, by rw [List.getElem?_set_ne hij]; exact h2⟩
  · refine ⟨hg.os.trans h.out.os, hg.tape.trans h.out.tape, hg.output.trans h.out.output, Nat.le_trans h.out.size hg.size, fun k hk hn => ?_⟩
    refine (keepBlock k (Nat.lt_of_lt_of_le hk h.out.size) fun e => ?_).trans (h.out.block k hk hn)
    rcases (Wl.Res.holds_lt hr e).1 with h1 | h1
    · omega
    · exact hn h1
  · intro s hs
    rcases List.getElem?_of_mem hs with ⟨j, hj⟩
    by_cases hij : i = j
    · subst hij
      rw [List.getElem?_set_self hil] at hj
      simp at hj; subst hj; exact hh
    · rw [List.getElem?_set_ne hij] at hj
      have hsm : s ∈ H := List.mem_of_getElem? hj
      exact Wl.Res.holds_of (h.res s hsm) fun g hgs => keepBlock g (Wl.Res.holds_lt (h.res s hsm) hgs).2 (other s j hj (fun e => hij e.symm) g hgs)
  · intro s hs g hgs o hf hd
    rcases List.getElem?_of_mem hs with ⟨j, hj⟩
    by_cases hij : i = j
    · subst hij
      rw [List.getElem?_set_self hil] at hj
      simp at hj; subst hj
      exact hap g hgs o hf hd
    · rw [List.getElem?_set_ne hij] at hj
      have hsm : s ∈ H := List.mem_of_getElem? hj
      have hlt2 := (Wl.Res.holds_lt (h.res s hsm) hgs).2
      rcases hD g o hd with h1 | h1
      · exact h.apart s hsm g hgs o hf h1
      · rcases hbl g h1.1 with h2 | h2
        · exact other s j hj (fun e => hij e.symm) g hgs h2
        · omega
  · rw [List.pairwise_iff_getElem]
    intro x y hx hy hxy
    have hx' : x < H.length := by simpa using hx
    have hy' : y < H.length := by simpa using hy
    have old := (List.pairwise_iff_getElem.1 h.disj) x y hx' hy' hxy
    rw [List.getElem_set, List.getElem_set]
    by_cases h1 : i = x
    · subst h1
      rw [if_pos rfl, if_neg (by omega)]
      intro g hgs e
      rcases hbl g hgs with e' | e'
      · rw [hget] at old; exact old g e' e
      · exact absurd (Wl.Res.holds_lt (h.res H[y] (List.getElem_mem hy')) e).2 (by omega)
    · rw [if_neg h1]
      by_cases h2 : i = y
      · subst h2
        rw [if_pos rfl]
        intro g hgs e
        rcases hbl g e with e' | e'
        · rw [hget] at old; exact old g hgs e'
        · exact absurd (Wl.Res.holds_lt (h.res H[x] (List.getElem_mem hx')) hgs).2 (by omega)
      · rw [if_neg h2]; exact old

theorem BxRep.push {nu : Nu} {b : Box S} {r : Wl.Res} : ∀ {bx : Bxs S} {H : List Wl.Res}, BxRep un nu D w E bx H → BoxRep un nu D w E false b r → BxRep un nu D w E (bx ++ [b]) (H ++ [r])
  | [], [], _, h => by simp only [List.nil_append, BxRep]; exact ⟨h, trivial⟩
  | c :: bs, s :: rs, hh, h => by simp only [BxRep, List.cons_append] at hh ⊢; exact ⟨hh.1, hh.2.push h⟩
  | [], _ :: _, hh, _ => by simp [BxRep] at hh
  | _ :: _, [], hh, _ => by simp [BxRep] at hh
theorem BxRep.set {nu : Nu} {b : Box S} {r : Wl.Res} : ∀ {bx : Bxs S} {H : List Wl.Res} {i : Nat}, BxRep un nu D w E bx H → BoxRep un nu D w E false b r → BxRep un nu D w E (setB bx i b) (H.set i r)
  | [], [], _, _, _ => by simp only [setB, List.set_nil, BxRep]
  | c :: bs, s :: rs, 0, hh, h => by simp only [setB, List.set_cons_zero, BxRep] at hh ⊢; exact ⟨h, hh.2⟩
  | c :: bs, s :: rs, i + 1, hh, h => by simp only [setB, List.set_cons_succ, BxRep] at hh ⊢; exact ⟨hh.1, hh.2.set h⟩
  | [], _ :: _, _, hh, _ => by simp [BxRep] at hh
  | _ :: _, [], _, hh, _ => by simp [BxRep] at hh

theorem ids_push (H : List Wl.Res) (r : Wl.Res) : ids (H ++ [r]) = ids H ++ [resId r] := by simp [ids]
theorem ids_ge (H : List Wl.Res) (r : Wl.Res) : ∀ (i : Nat) x, (ids H)[i]? = some x → (ids (H ++ [r]))[i]? = some x := by
  intro i x h
  rw [ids_push, List.getElem?_append_left (List.getElem?_eq_some_iff.1 h).1, h]
theorem ids_new (H : List Wl.Res) (r : Wl.Res) : (ids (H ++ [r]))[H.length]? = some (resId r) := by
  rw [ids_push, List.getElem?_append_right (by simp [ids])]; simp [ids]
theorem ids_set_same {H : List Wl.Res} {i : Nat} {r r' : Wl.Res} (hi : H[i]? = some r) (h : resId r' = resId r) : ids (H.set i r') = ids H := by
  simp only [ids, List.map_set]
  rw [h]
  apply List.ext_getElem?
  intro j
  by_cases hij : i = j
  · subst hij
    have : i < H.length := (List.getElem?_eq_some_iff.1 hi).1
    rw [List.getElem?_set_self (by simpa using this)]
    simp [hi]
  · rw [List.getElem?_set_ne hij]

/-- A new block of cells. -/
theorem St.newBox (h : St un E N D H e bx a w) (T : TypeId) {cs : List (PV S)} {vs : List Value} (hl : RepL un (ids H) D w cs vs) {dst : Option Nat} (hd : ∀ d, dst = some d → d < N.n) :
    ∃ H', St un E N D H' (push dst (.ptr bx.length 0) e) (bx ++ [.var T cs]) (a.put dst (.pointer (some ⟨w.heap.size, 0, none⟩))) (w.alloc (.cells vs.toArray T)) := by
  have hb : Below w.heap.size w (w.alloc (.cells vs.toArray T)) := (Below.refl _ _).alloc (Nat.le_refl _) _
  have hin : In E D (H ++ [.box w.heap.size T vs]) (w.alloc (.cells vs.toArray T)) := by
    refine h.inn.push hb ⟨.inl h.inn.out.size, heap_alloc_new w _⟩ (fun g hg => by simp [Wl.Res.block] at hg; omega) (fun k o hk => .inl hk) (fun k o hk => Nat.lt_of_lt_of_le (h.inn.lt k o hk) hb.size) (fun g hg o _ hk => ?_)
    simp [Wl.Res.block] at hg
    have := h.inn.lt g o hk; omega
  have hge : Ge D w D (w.alloc (.cells vs.toArray T)) := ⟨fun _ _ hk => hk, fun k o hk => World.cell?_of_block (hb.block k (h.inn.lt k o hk))⟩
  have hlen := h.boxes.length
  refine ⟨_, h.step hin ?_ (fun i q hi => (h.slots i q hi).ge hge (ids_ge H _)) hd ?_⟩
  · refine (h.boxes.mono hge (grow_kept h.inn.out hin.out) (ids_ge H _)).push ?_
    simp only [BoxRep]
    exact ⟨trivial, hl.ge hge (ids_ge H _)⟩
  · simp only [Rep]
    exact ⟨w.heap.size, by rw [hlen, ids_new]; rfl, rfl⟩
end
end Pe
