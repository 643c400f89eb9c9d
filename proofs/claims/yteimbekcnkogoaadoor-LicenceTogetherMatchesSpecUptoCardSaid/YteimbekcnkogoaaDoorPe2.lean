/- How values and states of the pure reading lie in memory. -/
import Derived.Test.YteimbekcnkogoaaDoorPe1
import Derived.Test.YteimbekcnkogoaaDoorWl
import Derived.Maps.AppendAt
import Derived.Laws.Tables
import Derived.Laws.Strings3
import Derived.Deep.MidRow
import Derived.Orders
namespace Pe
open Go Go.RowKit
variable {S : Nat → Type}

def hd {u : U} {us : List U} (t : ElL S (u :: us)) : El S u := Prod.fst t
def tl {u : U} {us : List U} (t : ElL S (u :: us)) : ElL S us := Prod.snd t
def two {u : U} {us : List U} (x : El S u) (t : ElL S us) : ElL S (u :: us) := (x, t)
def nul : ElL S [] := ()
def sg {u : U} (x : El S u) : ElL S [u] := two x nul
theorem hd_two {u : U} {us : List U} (x : El S u) (t : ElL S us) : hd (two x t) = x := rfl
theorem tl_two {u : U} {us : List U} (x : El S u) (t : ElL S us) : tl (two x t) = t := rfl
theorem two_eta {u : U} {us : List U} (t : ElL S (u :: us)) : two (hd t) (tl t) = t := rfl
def eI {k : IntKind} (x : El S (.int k)) : Int := x
def eB (x : El S .bool) : Bool := x
def eS (x : El S .str) : List UInt8 := x
def eL {u : U} (x : El S (.sl u)) : List (El S u) := x
def eT {n : Nat} (x : El S (.st n)) : S n := x

/-- Which cells are data: nobody writes to them again. -/
abbrev Dat := Nat → Nat → Prop
/-- The cells from here on are data, and hold these values. -/
def dat (D : Dat) (w : World) (b off : Nat) (cs : List Value) : Prop := ∀ j v, cs[j]? = some v → D b (off + j) ∧ w.cell? ⟨b, off + j, none⟩ = some v

/-- The cells vs are the data t, all its cells among D's. -/
inductive DR (un : Uni S) (D : Dat) (w : World) : (us : List U) → ElL S us → List Value → Prop
  | nil {t} : DR un D w [] t []
  | int {k us} {t : ElL S (.int k :: us)} {vs} (h : DR un D w us (tl t) vs) : DR un D w (.int k :: us) t (.int k (eI (hd t)) :: vs)
  | bool {us} {t : ElL S (.bool :: us)} {vs} (h : DR un D w us (tl t) vs) : DR un D w (.bool :: us) t (.bool (eB (hd t)) :: vs)
  | str {us} {t : ElL S (.str :: us)} {vs} (h : DR un D w us (tl t) vs) : DR un D w (.str :: us) t (.string ⟨(eS (hd t)).toArray⟩ :: vs)
  | sl0 {u us} {t : ElL S (.sl u :: us)} {vs} (A c) (h0 : eL (hd t) = []) (h : DR un D w us (tl t) vs) : DR un D w (.sl u :: us) t (.slice A 0 c :: vs)
  | sl {u us} {t : ElL S (.sl u :: us)} {vs} (b off c : Nat) (cs : Nat → List Value) (hc : (eL (hd t)).length ≤ c)
      (h1 : ∀ i x, (eL (hd t))[i]? = some x → dat D w b (off + i * U.size un u) (cs i))
      (h2 : ∀ i x, (eL (hd t))[i]? = some x → DR un D w [u] (sg x) (cs i)) (h : DR un D w us (tl t) vs) :
      DR un D w (.sl u :: us) t (.slice (some ⟨b, off, none⟩) (eL (hd t)).length c :: vs)
  | st {n us} {t : ElL S (.st n :: us)} {cs vs} (h1 : DR un D w (un.codes n) (un.get n (eT (hd t))) cs) (h : DR un D w us (tl t) vs) : DR un D w (.st n :: us) t (cs ++ vs)

/-- What is data stays as it is, and more may be data. -/
structure Ge (D : Dat) (w : World) (D' : Dat) (w' : World) : Prop where
  dom : ∀ k o, D k o → D' k o
  cell : ∀ k o, D k o → w'.cell? ⟨k, o, none⟩ = w.cell? ⟨k, o, none⟩
theorem Ge.refl (D : Dat) (w : World) : Ge D w D w := ⟨fun _ _ h => h, fun _ _ _ => rfl⟩
theorem Ge.trans {D D' D'' : Dat} {w w' w'' : World} (h : Ge D w D' w') (k : Ge D' w' D'' w'') : Ge D w D'' w'' :=
  ⟨fun _ _ hk => k.dom _ _ (h.dom _ _ hk), fun i o hk => (k.cell i o (h.dom i o hk)).trans (h.cell i o hk)⟩
theorem Ge.dat {D D' : Dat} {w w' : World} (h : Ge D w D' w') {b off : Nat} {vs : List Value} (hc : dat D w b off vs) : dat D' w' b off vs :=
  fun j v hj => ⟨h.dom _ _ (hc j v hj).1, (h.cell _ _ (hc j v hj).1).trans (hc j v hj).2⟩

theorem DR.mono {un : Uni S} {D D' : Dat} {w w' : World} (g : Ge D w D' w') {us : List U} {t : ElL S us} {vs : List Value} (h : DR un D w us t vs) : DR un D' w' us t vs := by
  induction h with
  | nil => exact .nil
  | int h ih => exact .int ih
  | bool h ih => exact .bool ih
  | str h ih => exact .str ih
  | sl0 A c h0 h ih => exact .sl0 A c h0 ih
  | sl b off c cs hc h1 h2 h ih2 ih => exact .sl b off c cs hc (fun i x hx => g.dat (h1 i x hx)) ih2 ih
  | st h1 h ih1 ih => exact .st ih1 ih

/-- Structs are told cell by cell. -/
def Flat (un : Uni S) : Prop := ∀ n, ∀ u ∈ un.codes n, U.size un u = 1 ∧ ∀ m, u ≠ .st m

/-- Values of one cell. -/
theorem DR.one {un : Uni S} {D : Dat} {w : World} {us : List U} {t : ElL S us} {vs : List Value} (h : DR un D w us t vs) : ∀ v ∈ vs, v.oneCell' = true := by
  induction h with
  | nil => simp
  | int h ih | bool h ih | str h ih | sl0 A c h0 h ih => intro v hv; rcases List.mem_cons.1 hv with rfl | hv <;> first | rfl | exact ih v hv
  | sl b off c cs hc h1 h2 h ih2 ih => intro v hv; rcases List.mem_cons.1 hv with rfl | hv <;> first | rfl | exact ih v hv
  | st h1 h ih1 ih => intro v hv; rcases List.mem_append.1 hv with hv | hv <;> first | exact ih1 v hv | exact ih v hv

def sizes (un : Uni S) : List U → Nat
  | [] => 0
  | u :: us => U.size un u + sizes un us
theorem sizes_flat {un : Uni S} : ∀ (us : List U), (∀ u ∈ us, U.size un u = 1) → sizes un us = us.length
  | [], _ => rfl
  | u :: us, h => by simp only [sizes, List.length_cons]; rw [h u (by simp), sizes_flat us fun v hv => h v (by simp [hv])]; omega
theorem DR.length {un : Uni S} (hf : Flat un) {D : Dat} {w : World} {us : List U} {t : ElL S us} {vs : List Value} (h : DR un D w us t vs) : vs.length = sizes un us := by
  induction h with
  | nil => rfl
  | int h ih | bool h ih | str h ih | sl0 A c h0 h ih => simp only [List.length_cons, sizes, U.size, ih]; omega
  | sl b off c cs hc h1 h2 h ih2 ih => simp only [List.length_cons, sizes, U.size, ih]; omega
  | @st n us t cs vs h1 h ih1 ih => rw [List.length_append, ih1, ih, sizes_flat _ fun u hu => (hf n u hu).1]; rfl

/-- What tells a box's block, or a row's value: (true, the pointer) or (false, the slice). -/
abbrev Nu := List (Bool × Value)
def resId : Wl.Res → Bool × Value
  | .box g _ _ => (true, .pointer (some ⟨g, 0, none⟩))
  | .own v _ _ _ _ => (false, v)
  | .ref id => id

section
variable (un : Uni S) (nu : Nu) (D : Dat) (w : World)
mutual
/-- The value v is what p tells. -/
def Rep : PV S → Value → Prop
  | .int k n, v => v = .int k n
  | .bool b, v => v = .bool b
  | .str l, v => v = .string ⟨l.toArray⟩
  | .sl u l, v => DR un D w [.sl u] (sg (u := .sl u) l) [v]
  | .nils, v => v = .slice none 0 0
  | .st n x, v => ∃ cs : List Value, v = .agg cs.toArray ∧ DR un D w [.st n] (sg (u := .st n) x) cs
  | .agg l, v => ∃ cs : List Value, v = .agg cs.toArray ∧ RepL l cs
  | .tup l, v => ∃ cs : List Value, v = .tuple cs.toArray ∧ RepL l cs
  | .elp u x off, v => ∃ b p cs, v = .pointer (some ⟨b, p + off, none⟩) ∧ dat D w b p cs ∧ DR un D w [u] (sg x) cs
  | .ptr b off, v => ∃ g, nu[b]? = some (true, .pointer (some ⟨g, 0, none⟩)) ∧ v = .pointer (some ⟨g, off, none⟩)
  | .nilp, v => v = .pointer none
  | .row b, v => nu[b]? = some (false, v) ∧ v.oneCell' = true ∧ v.cells = #[v]
  | .func f l r, v => ∃ a c : List Value, v = .func f a.toArray c.toArray ∧ RepL l a ∧ RepL r c
  | .nilFunc, v => v = .nilFunc
  | .iface t x, v => ∃ y, v = .iface t y ∧ Rep x y
  | .nilIface, v => v = .nilIface
  | .junk, _ => True
def RepL : List (PV S) → List Value → Prop
  | [], [] => True
  | p :: ps, v :: vs => Rep p v ∧ RepL ps vs
  | _, _ => False
end

/-- A box, and what is owned or remembered for it. -/
def BoxRep (E : Wl.Ctx) : Bool → Box S → Wl.Res → Prop
  | false, .var T cs, .box _ T' vs => T' = T ∧ RepL un nu D w cs vs
  | true, .var T cs, .ref id => ∃ g vs, id = (true, .pointer (some ⟨g, 0, none⟩)) ∧ g < E.w.heap.size ∧ g ∉ E.lent ∧ w.heap[g]? = some (.cells (List.toArray vs) T (0, 0)) ∧ RepL un nu D w cs vs
  | false, .own u T l, .own v T' size n xs => T' = T ∧ size = U.size un u ∧ n = l.length ∧ (∀ g, v.ownBlock = some g → ∀ o, o < n * size → D g o) ∧ ∀ i x, l[i]? = some x → DR un D w [u] (sg x) ((xs.drop (i * size)).take size)
  | true, .own u _ l, .ref id => id.1 = false ∧ Rep un nu D w (.sl u l) id.2
  | ro, .lk b, r => BoxRep E ro b r
  | _, .ro b, r => BoxRep E true b r
  | _, .gone, _ => True
  | _, _, _ => False
end

theorem RepL.length {un : Uni S} {nu D w} : ∀ {ps : List (PV S)} {vs : List Value}, RepL un nu D w ps vs → ps.length = vs.length
  | [], [], _ => rfl
  | p :: ps, v :: vs, h => by simp only [RepL] at h; simp [RepL.length h.2]
  | [], _ :: _, h => by simp [RepL] at h
  | _ :: _, [], h => by simp [RepL] at h
theorem RepL.get {un : Uni S} {nu D w} : ∀ {ps : List (PV S)} {vs : List Value}, RepL un nu D w ps vs → ∀ (i : Nat) (p : PV S), ps[i]? = some p → ∃ v, vs[i]? = some v ∧ Rep un nu D w p v
  | [], _, _, i, p, h => by simp at h
  | q :: ps, v :: vs, h, 0, p, hp => by simp only [RepL] at h; simp at hp; subst hp; exact ⟨v, rfl, h.1⟩
  | q :: ps, v :: vs, h, i + 1, p, hp => by simp only [RepL] at h; simpa using RepL.get h.2 i p (by simpa using hp)
  | _ :: _, [], h, _, _, _ => by simp [RepL] at h
theorem RepL.append {un : Uni S} {nu D w} : ∀ {ps qs : List (PV S)} {vs us : List Value}, RepL un nu D w ps vs → RepL un nu D w qs us → RepL un nu D w (ps ++ qs) (vs ++ us)
  | [], _, [], _, _, h => h
  | p :: ps, qs, v :: vs, us, h, k => by simp only [RepL, List.cons_append] at h ⊢; exact ⟨h.1, RepL.append h.2 k⟩
  | [], _, _ :: _, _, h, _ => by simp [RepL] at h
  | _ :: _, _, [], _, h, _ => by simp [RepL] at h
theorem RepL.drop {un : Uni S} {nu D w} : ∀ {ps : List (PV S)} {vs : List Value}, RepL un nu D w ps vs → ∀ n, RepL un nu D w (ps.drop n) (vs.drop n)
  | _, _, h, 0 => h
  | [], [], _, n + 1 => by simp [RepL]
  | p :: ps, v :: vs, h, n + 1 => by simp only [RepL] at h; simpa using RepL.drop h.2 n
  | [], _ :: _, h, _ + 1 => by simp [RepL] at h
  | _ :: _, [], h, _ + 1 => by simp [RepL] at h
theorem RepL.take {un : Uni S} {nu D w} : ∀ {ps : List (PV S)} {vs : List Value}, RepL un nu D w ps vs → ∀ n, RepL un nu D w (ps.take n) (vs.take n)
  | _, _, _, 0 => by simp [RepL]
  | [], [], _, n + 1 => by simp [RepL]
  | p :: ps, v :: vs, h, n + 1 => by simp only [RepL] at h; simp only [List.take_succ_cons, RepL]; exact ⟨h.1, RepL.take h.2 n⟩
  | [], _ :: _, h, _ + 1 => by simp [RepL] at h
  | _ :: _, [], h, _ + 1 => by simp [RepL] at h
theorem RepL.set {un : Uni S} {nu D w} : ∀ {ps : List (PV S)} {vs : List Value}, RepL un nu D w ps vs → ∀ n p v, Rep un nu D w p v → RepL un nu D w (ps.set n p) (vs.set n v)
  | [], [], _, _, _, _, _ => by simp [RepL]
  | q :: ps, u :: vs, h, 0, p, v, hp => by simp only [RepL] at h; simp only [List.set_cons_zero, RepL]; exact ⟨hp, h.2⟩
  | q :: ps, u :: vs, h, n + 1, p, v, hp => by simp only [RepL] at h; simp only [List.set_cons_succ, RepL]; exact ⟨h.1, RepL.set h.2 n p v hp⟩
  | [], _ :: _, h, _, _, _, _ => by simp [RepL] at h
  | _ :: _, [], h, _, _, _, _ => by simp [RepL] at h

mutual
/-- What a value tells stays told; of the boxes' names only those count of which it speaks. -/
theorem Rep.mono {un : Uni S} {nu nu' : Nu} {D D' : Dat} {w w' : World} (g : Ge D w D' w') (b : Nat) : ∀ (p : PV S) (v : Value), (∀ i x, nu[i]? = some x → nu'[i]? = some x ∨ (i = b ∧ x.1 = false ∧ p.says b = false)) → Rep un nu D w p v → Rep un nu' D' w' p v
  | .int _ _, _, _, h => by simpa only [Rep] using h
  | .bool _, _, _, h => by simpa only [Rep] using h
  | .str _, _, _, h => by simpa only [Rep] using h
  | .sl _ _, _, _, h => by simp only [Rep] at h ⊢; exact h.mono g
  | .nils, _, _, h => by simpa only [Rep] using h
  | .st _ _, _, _, h => by simp only [Rep] at h ⊢; obtain ⟨cs, h1, h2⟩ := h; exact ⟨cs, h1, h2.mono g⟩
  | .agg l, _, hn, h => by simp only [Rep] at h ⊢; obtain ⟨cs, h1, h2⟩ := h; exact ⟨cs, h1, RepL.mono g b l cs (fun i x hx => by simpa only [PV.says] using hn i x hx) h2⟩
  | .tup l, _, hn, h => by simp only [Rep] at h ⊢; obtain ⟨cs, h1, h2⟩ := h; exact ⟨cs, h1, RepL.mono g b l cs (fun i x hx => by simpa only [PV.says] using hn i x hx) h2⟩
  | .elp _ _ _, _, _, h => by simp only [Rep] at h ⊢; obtain ⟨b, p, cs, h1, h2, h3⟩ := h; exact ⟨b, p, cs, h1, g.dat h2, h3.mono g⟩
  | .ptr j _, _, hn, h => by
    simp only [Rep] at h ⊢; obtain ⟨k, h1, h2⟩ := h
    rcases hn j _ h1 with h3 | h3
    · exact ⟨k, h3, h2⟩
    · exact absurd h3.2.1 (by simp)
  | .nilp, _, _, h => by simpa only [Rep] using h
  | .row j, _, hn, h => by
    simp only [Rep] at h ⊢
    rcases hn j _ h.1 with h3 | h3
    · exact ⟨h3, h.2⟩
    · exact absurd h3.2.2 (by simp [PV.says, h3.1])
  | .func _ l r, _, hn, h => by
    simp only [Rep] at h ⊢; obtain ⟨a, c, h1, h2, h3⟩ := h
    refine ⟨a, c, h1, RepL.mono g b l a (fun i x hx => (hn i x hx).imp id fun k => ⟨k.1, k.2.1, ?_⟩) h2, RepL.mono g b r c (fun i x hx => (hn i x hx).imp id fun k => ⟨k.1, k.2.1, ?_⟩) h3⟩
    all_goals (have := k.2.2; simp only [PV.says, Bool.or_eq_false_iff] at this; first | exact this.1 | exact this.2)
  | .nilFunc, _, _, h => by simpa only [Rep] using h
  | .iface _ x, _, hn, h => by simp only [Rep] at h ⊢; obtain ⟨y, h1, h2⟩ := h; exact ⟨y, h1, Rep.mono g b x y (fun i x hx => by simpa only [PV.says] using hn i x hx) h2⟩
  | .nilIface, _, _, h => by simpa only [Rep] using h
  | .junk, _, _, _ => by simp only [Rep]
theorem RepL.mono {un : Uni S} {nu nu' : Nu} {D D' : Dat} {w w' : World} (g : Ge D w D' w') (b : Nat) : ∀ (ps : List (PV S)) (vs : List Value), (∀ i x, nu[i]? = some x → nu'[i]? = some x ∨ (i = b ∧ x.1 = false ∧ saysL b ps = false)) → RepL un nu D w ps vs → RepL un nu' D' w' ps vs
  | [], [], _, _ => by simp only [RepL]
  | p :: ps, v :: vs, hn, h => by
    simp only [RepL] at h ⊢
    refine ⟨Rep.mono g b p v (fun i x hx => (hn i x hx).imp id fun k => ⟨k.1, k.2.1, ?_⟩) h.1, RepL.mono g b ps vs (fun i x hx => (hn i x hx).imp id fun k => ⟨k.1, k.2.1, ?_⟩) h.2⟩
    all_goals (have := k.2.2; simp only [saysL, Bool.or_eq_false_iff] at this; first | exact this.1 | exact this.2)
  | [], _ :: _, _, h => by simp [RepL] at h
  | _ :: _, [], _, h => by simp [RepL] at h
end
theorem Rep.ge {un : Uni S} {nu nu' : Nu} {D D' : Dat} {w w' : World} (g : Ge D w D' w') (hn : ∀ (i : Nat) x, nu[i]? = some x → nu'[i]? = some x) {p : PV S} {v : Value} (h : Rep un nu D w p v) : Rep un nu' D' w' p v :=
  Rep.mono g 0 p v (fun i x hx => .inl (hn i x hx)) h
theorem RepL.ge {un : Uni S} {nu nu' : Nu} {D D' : Dat} {w w' : World} (g : Ge D w D' w') (hn : ∀ (i : Nat) x, nu[i]? = some x → nu'[i]? = some x) {p : List (PV S)} {v : List Value} (h : RepL un nu D w p v) : RepL un nu' D' w' p v :=
  RepL.mono g 0 p v (fun i x hx => .inl (hn i x hx)) h
end Pe
