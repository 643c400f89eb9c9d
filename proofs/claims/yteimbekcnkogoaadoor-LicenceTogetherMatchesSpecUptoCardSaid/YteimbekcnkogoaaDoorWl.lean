/- A small logic for walking Go functions: frames as lists of known slots, the call's own blocks as a list of resources, all old data as facts about one fixed world. Over any program. -/
import Derived.WalkKit
import Derived.WalkSpells
import Derived.WalkLawsBesides
import Derived.Deep.MidRow
import Derived.Deep.Quiet
namespace Wl
open Go Go.RowKit

/-! ### frames -/

abbrev Env := List (Nat × Value)

def look : Env → Nat → Option Value
  | [], _ => none
  | (j, v) :: r, i => bif Nat.beq j i then some v else look r i

def ev (e : Env) : Operand → Option Value
  | .tmp t => look e t
  | .const v => some v
  | .global g => some (.pointer (some ⟨g, 0, none⟩))
  | .func f => some (.func (.func f) #[] #[])

def evs (e : Env) : List Operand → Option (List Value)
  | [] => some []
  | x :: r => match ev e x, evs e r with
    | some v, some l => some (v :: l)
    | _, _ => none

/-- A frame's size, and the calls it has put off. -/
structure Fr where
  n : Nat
  ds : List Deferred

structure Agrees (N : Fr) (a : Act) (e : Env) : Prop where
  size : a.tmps.size = N.n
  defers : a.defers = N.ds
  get : ∀ i v, look e i = some v → a.tmps.getD i undef = v

theorem Agrees.ev {N a e} (h : Agrees N a e) {x : Operand} {v : Value} (hx : ev e x = some v) : a.eval x = v := by
  cases x with
  | tmp t => exact h.get t v hx
  | const c => simpa [Wl.ev, Act.eval] using hx
  | global g => simpa [Wl.ev, Act.eval] using hx
  | func f => simpa [Wl.ev, Act.eval] using hx

theorem Agrees.evs {N a e} (h : Agrees N a e) : ∀ {xs : List Operand} {vs : List Value}, evs e xs = some vs → xs.map a.eval = vs
  | [], vs, hx => by simpa [Wl.evs] using hx
  | x :: r, vs, hx => by
    unfold Wl.evs at hx
    cases h1 : Wl.ev e x <;> cases h2 : Wl.evs e r <;> simp [h1, h2] at hx
    subst hx
    simp [h.ev h1, h.evs h2]

def push : Option Nat → Value → Env → Env
  | some d, v, e => (d, v) :: e
  | none, _, e => e

theorem Agrees.put {N a e} (h : Agrees N a e) (d : Option Nat) (hd : ∀ k, d = some k → k < N.n) (v : Value) : Agrees N (a.put d v) (push d v e) := by
  cases d with
  | none => exact h
  | some k =>
    have hk := hd k rfl
    refine ⟨by simp [Act.put, h.size], h.defers, fun i u hu => ?_⟩
    simp only [push, look] at hu
    cases hb : Nat.beq k i with
    | true =>
      rw [hb] at hu
      have : k = i := Nat.eq_of_beq_eq_true hb
      subst this
      simp at hu
      subst hu
      simp [Act.put, Array.getD, h.size, hk]
    | false =>
      rw [hb] at hu
      have hne : k ≠ i := Nat.ne_of_beq_eq_false hb
      have := h.get i u hu
      simp only [Act.put]
      rw [← this]
      simp [Array.getD_eq_getD_getElem?, hne]

/-- A frame of which less is said. -/
def Sub (e' e : Env) : Prop := ∀ i v, look e' i = some v → look e i = some v
theorem Sub.nil (e : Env) : Sub [] e := fun _ _ h => by cases h
theorem Sub.cons {e' e : Env} {i : Nat} {v : Value} (h : look e i = some v) (r : Sub e' e) : Sub ((i, v) :: e') e := by
  intro j u hu
  simp only [look] at hu
  cases hb : Nat.beq i j with
  | true => rw [hb] at hu; have : i = j := Nat.eq_of_beq_eq_true hb; subst this; simp at hu; subst hu; exact h
  | false => rw [hb] at hu; exact r j u hu
theorem Sub.cons' {e' e : Env} {i : Nat} {u v : Value} (h : look e i = some u) (huv : u = v) (r : Sub e' e) : Sub ((i, v) :: e') e := Sub.cons (by rw [h, huv]) r
theorem Sub.refl (e : Env) : Sub e e := fun _ _ h => h
theorem Agrees.sub {N a e e'} (h : Agrees N a e) (s : Sub e' e) : Agrees N a e' := ⟨h.size, h.defers, fun i v hv => h.get i v (s i v hv)⟩

/-! ### resources and worlds -/

/-- Where a call begins: the world, and the blocks that its caller lends it. -/
structure Ctx where
  w : World
  lent : List Nat

/-- Nothing that was there has turned, but for the blocks S. -/
structure Grow (S : List Nat) (w w' : World) : Prop where
  os : w'.os = w.os
  tape : w'.tape = w.tape
  output : w'.output = w.output
  size : w.heap.size ≤ w'.heap.size
  block : ∀ k, k < w.heap.size → k ∉ S → w'.heap[k]? = w.heap[k]?

theorem Grow.refl (S : List Nat) (w : World) : Grow S w w := ⟨rfl, rfl, rfl, Nat.le_refl _, fun _ _ _ => rfl⟩
theorem Grow.trans {S : List Nat} {w w' w'' : World} (h : Grow S w w') (k : Grow S w' w'') : Grow S w w'' :=
  ⟨k.os.trans h.os, k.tape.trans h.tape, k.output.trans h.output, Nat.le_trans h.size k.size, fun i hi hn => (k.block i (Nat.lt_of_lt_of_le hi h.size) hn).trans (h.block i hi hn)⟩
theorem Grow.of_below {S : List Nat} {w w' : World} (h : Below w.heap.size w w') : Grow S w w' := ⟨h.os, h.tape, h.output, h.size, fun k hk _ => h.block k hk⟩
theorem Grow.below {w w' : World} (h : Grow [] w w') : Below w.heap.size w w' := ⟨h.os, h.tape, h.output, h.size, fun k hk => h.block k hk (by simp)⟩
theorem Grow.by {g : Nat} {w w' : World} (h : Grow [g] w w') : w.grownBy w' (some g) := ⟨h.os, h.tape, h.output, h.size, fun k hk hn => h.block k hk (by simpa using hn)⟩
theorem Grow.mono {S S' : List Nat} {w w' : World} (h : Grow S w w') (hs : ∀ k ∈ S, k ∈ S') : Grow S' w w' := ⟨h.os, h.tape, h.output, h.size, fun k hk hn => h.block k hk fun hk' => hn (hs k hk')⟩

inductive Res where
  | box (g : Nat) (T : TypeId) (cs : List Value)
  | own (v : Value) (T : TypeId) (size n : Nat) (xs : List Value)
  /-- A value that is remembered; nothing is owned. -/
  | ref (id : Bool × Value)

def Res.block : Res → Option Nat
  | .box g _ _ => some g
  | .own v _ _ _ _ => v.ownBlock
  | .ref _ => none

def Res.holds (E : Ctx) (w : World) : Res → Prop
  | .box g T cs => (E.w.heap.size ≤ g ∨ g ∈ E.lent) ∧ w.heap[g]? = some (.cells cs.toArray T (0, 0))
  | .own v T size n xs => w.ownsRow E.w.heap.size T size v n xs
  | .ref _ => True

def apartR (r s : Res) : Prop := ∀ g, r.block = some g → s.block ≠ some g

structure In (E : Ctx) (D : Nat → Prop) (w0 : World) (H : List Res) (w : World) : Prop where
  out : Grow E.lent E.w w
  size : w0.heap.size ≤ w.heap.size
  keep : ∀ k, D k → w.heap[k]? = w0.heap[k]?
  lt : ∀ k, D k → k < w0.heap.size
  res : ∀ r ∈ H, r.holds E w
  apart : ∀ r ∈ H, ∀ g, r.block = some g → ¬ D g
  disj : H.Pairwise apartR

theorem Res.holds_lt {E w r g} (h : Res.holds E w r) (hg : r.block = some g) : (E.w.heap.size ≤ g ∨ g ∈ E.lent) ∧ g < w.heap.size := by
  cases r with
  | box g' T cs =>
    simp [Res.block] at hg; subst hg
    exact ⟨h.1, (Array.getElem?_eq_some_iff.1 h.2).1⟩
  | own v T size n xs => exact ⟨.inl (World.ownsRow.lt h g hg).1, (World.ownsRow.lt h g hg).2⟩
  | ref v => simp [Res.block] at hg

theorem Res.holds_of {E w w' r} (h : Res.holds E w r) (hw : ∀ g, r.block = some g → w'.heap[g]? = w.heap[g]?) : Res.holds E w' r := by
  cases r with
  | box g T cs => exact ⟨h.1, (hw g rfl).trans h.2⟩
  | own v T size n xs =>
    refine ⟨h.1, ?_⟩
    rcases h.2 with hn | ⟨g, cap, cur, rfl, hb, hg, rest⟩
    · exact .inl hn
    · exact .inr ⟨g, cap, cur, rfl, hb, (hw g rfl).trans hg, rest⟩
  | ref v => trivial

section
variable {E : Ctx} {w0 w w' : World} {D : Nat → Prop} {H : List Res}

theorem In.drawn (h : In E D w0 H w) (n : Nat) : In E D w0 H { w with drawn := n } :=
  ⟨⟨h.out.os, h.out.tape, h.out.output, h.out.size, h.out.block⟩, h.size, h.keep, h.lt, fun r hr => Res.holds_of (h.res r hr) fun _ _ => rfl, h.apart, h.disj⟩

theorem In.below (h : In E D w0 H w) (hb : Below w.heap.size w w') : In E D w0 H w' :=
  ⟨h.out.trans (Grow.of_below hb), Nat.le_trans h.size hb.size, fun k hk => (hb.block k (Nat.lt_of_lt_of_le (h.lt k hk) h.size)).trans (h.keep k hk), h.lt,
    fun r hr => Res.holds_of (h.res r hr) fun g hg => hb.block g (Res.holds_lt (h.res r hr) hg).2, h.apart, h.disj⟩

/-- A new block becomes a resource. -/
theorem In.alloc (h : In E D w0 H w) (T : TypeId) (cs : List Value) : In E D w0 (.box w.heap.size T cs :: H) (w.alloc (.cells cs.toArray T)) := by
  have hb : Below w.heap.size w (w.alloc (.cells cs.toArray T)) := (Below.refl _ _).alloc (Nat.le_refl _) _
  have h' := h.below hb
  refine ⟨h'.out, h'.size, h'.keep, h'.lt, ?_, ?_, ?_⟩
  · intro r hr
    rcases List.mem_cons.1 hr with rfl | hr
    · exact ⟨.inl h.out.size, heap_alloc_new w _⟩
    · exact h'.res r hr
  · intro r hr g hg hD
    rcases List.mem_cons.1 hr with rfl | hr
    · simp [Res.block] at hg; subst hg
      exact absurd (h.lt _ hD) (by have := h.size; omega)
    · exact h'.apart r hr g hg hD
  · refine List.Pairwise.cons (fun r hr g hg hs => ?_) h.disj
    simp [Res.block] at hg; subst hg
    exact absurd (Res.holds_lt (h.res r hr) hs).2 (by omega)

/-- One resource has turned, and nothing else that was there. -/
theorem In.turn (h : In E D w0 H w) {i : Nat} {r r' : Res} (hi : H[i]? = some r) (hg : w.grownBy w' r.block)
    (hh : r'.holds E w') (hbl : ∀ g, r'.block = some g → r.block = some g ∨ w.heap.size ≤ g) : In E D w0 (H.set i r') w' := by
  have hmem : r ∈ H := List.mem_of_getElem? hi
  have hil : i < H.length := (List.getElem?_eq_some_iff.1 hi).1
  have hget : H[i] = r := (List.getElem?_eq_some_iff.1 hi).2
  have hr := h.res r hmem
  have keepBlock : ∀ k, k < w.heap.size → r.block ≠ some k → w'.heap[k]? = w.heap[k]? := fun k hk hne => hg.block k hk (fun e => hne e.symm)
  refine ⟨?_, Nat.le_trans h.size hg.size, ?_, h.lt, ?_, ?_, ?_⟩
  · refine ⟨hg.os.trans h.out.os, hg.tape.trans h.out.tape, hg.output.trans h.out.output, Nat.le_trans h.out.size hg.size, fun k hk hn => ?_⟩
    refine (keepBlock k (Nat.lt_of_lt_of_le hk h.out.size) fun e => ?_).trans (h.out.block k hk hn)
    rcases (Res.holds_lt hr e).1 with h1 | h1
    · omega
    · exact hn h1
  · intro k hk
    rw [keepBlock k (Nat.lt_of_lt_of_le (h.lt k hk) h.size) (fun e => h.apart r hmem k e hk)]
    exact h.keep k hk
  · intro s hs
    rcases List.getElem?_of_mem hs with ⟨j, hj⟩
    by_cases hij : i = j
    · subst hij
      rw [List.getElem?_set_self hil] at hj
      simp at hj; subst hj; exact hh
    · rw [List.getElem?_set_ne hij] at hj
      have hsm : s ∈ H := List.mem_of_getElem? hj
      refine Res.holds_of (h.res s hsm) fun g hgs => keepBlock g (Res.holds_lt (h.res s hsm) hgs).2 fun e => ?_
      have hjl : j < H.length := (List.getElem?_eq_some_iff.1 hj).1
      have hsj : H[j] = s := (List.getElem?_eq_some_iff.1 hj).2
      rcases Nat.lt_or_ge i j with hlt | hge
      · have := (List.pairwise_iff_getElem.1 h.disj) i j hil hjl hlt
        rw [hget, hsj] at this
        exact this g e hgs
      · have := (List.pairwise_iff_getElem.1 h.disj) j i hjl hil (by omega)
        rw [hget, hsj] at this
        exact this g hgs e
  · intro s hs g hgs hD
    rcases List.getElem?_of_mem hs with ⟨j, hj⟩
    by_cases hij : i = j
    · subst hij
      rw [List.getElem?_set_self hil] at hj
      simp at hj; subst hj
      rcases hbl g hgs with e | e
      · exact h.apart r hmem g e hD
      · have := h.lt g hD; have := h.size; omega
    · rw [List.getElem?_set_ne hij] at hj
      exact h.apart s (List.mem_of_getElem? hj) g hgs hD
  · rw [List.pairwise_iff_getElem]
    intro a b ha hb hab
    have ha' : a < H.length := by simpa using ha
    have hb' : b < H.length := by simpa using hb
    have old := (List.pairwise_iff_getElem.1 h.disj) a b ha' hb' hab
    rw [List.getElem_set, List.getElem_set]
    by_cases h1 : i = a
    · subst h1
      rw [if_pos rfl, if_neg (by omega)]
      intro g hgs e
      rcases hbl g hgs with e' | e'
      · rw [hget] at old; exact old g e' e
      · exact absurd (Res.holds_lt (h.res H[b] (List.getElem_mem hb')) e).2 (by omega)
    · rw [if_neg h1]
      by_cases h2 : i = b
      · subst h2
        rw [if_pos rfl]
        intro g hgs e
        rcases hbl g e with e' | e'
        · rw [hget] at old; exact old g hgs e'
        · exact absurd (Res.holds_lt (h.res H[a] (List.getElem_mem ha')) hgs).2 (by omega)
      · rw [if_neg h2]; exact old

/-- A resource is forgotten. -/
theorem In.drop (h : In E D w0 H w) {H' : List Res} (hs : H'.Sublist H) : In E D w0 H' w :=
  ⟨h.out, h.size, h.keep, h.lt, fun r hr => h.res r (hs.subset hr), fun r hr => h.apart r (hs.subset hr), h.disj.sublist hs⟩

/-- All that is there now and is no resource. -/
def Dom (w : World) (H : List Res) (k : Nat) : Prop := k < w.heap.size ∧ ∀ r ∈ H, r.block ≠ some k

/-- From here on the world at hand is the one of which facts are told. -/
theorem In.rebase (h : In E D w0 H w) : In E (Dom w H) w H w :=
  ⟨h.out, Nat.le_refl _, fun _ _ => rfl, fun _ hk => hk.1, h.res, fun r hr _ hg hD => hD.2 r hr hg, h.disj⟩

theorem In.dom (h : In E D w0 H w) {k : Nat} (hk : D k) : Dom w H k := ⟨Nat.lt_of_lt_of_le (h.lt k hk) h.size, fun r hr e => h.apart r hr k e hk⟩

/-- A call of which nothing is lent: all that was there is as it was. -/
theorem In.ent {E : World} (h : In ⟨E, []⟩ D w0 H w) : Below E.heap.size E w := Grow.below h.out

theorem In.start (E : World) (D : Nat → Prop) (hD : ∀ k, D k → k < E.heap.size) : In ⟨E, []⟩ D E [] E :=
  ⟨Grow.refl _ _, Nat.le_refl _, fun _ _ => rfl, hD, fun _ h => (by cases h), fun _ h => (by cases h), List.Pairwise.nil⟩

/-- A call to which one block is lent. -/
theorem In.start1 (E : World) (D : Nat → Prop) (hD : ∀ k, D k → k < E.heap.size) (g : Nat) (T : TypeId) (cs : List Value) (hg : E.heap[g]? = some (.cells cs.toArray T (0, 0))) (hn : ¬ D g) : In ⟨E, [g]⟩ D E [.box g T cs] E :=
  ⟨Grow.refl _ _, Nat.le_refl _, fun _ _ => rfl, hD, fun r h => (by simp at h; subst h; exact ⟨.inr (by simp), hg⟩), fun r h k hk hD => (by simp at h; subst h; simp [Res.block] at hk; subst hk; exact hn hD), List.pairwise_singleton _ _⟩
end

end Wl
