/- Operations that make or write memory. -/
import Derived.Test.YteimbekcnkogoaaDoorPe7
import Derived.Laws.OwnMore
import Derived.Deep.AppendSrc
namespace Pe
open Go Go.RowKit
variable {S : Nat → Type}

/-- What is kept of a frame: slots that aren't among W, with values that speak of no row. -/
def Pres (W : List Nat) (e e' : Env S) : Prop := ∀ i p, i ∉ W → look e i = some p → p.rowless = true → look e' i = some p
theorem Pres.refl (W : List Nat) (e : Env S) : Pres W e e := fun _ _ _ h _ => h
theorem Pres.trans {W W' : List Nat} {e e' e'' : Env S} (h : Pres W e e') (k : Pres W' e' e'') : Pres (W ++ W') e e'' :=
  fun i p hi hp hr => k i p (fun h' => hi (by simp [h'])) (h i p (fun h' => hi (by simp [h'])) hp hr) hr
theorem Pres.mono {W W' : List Nat} {e e' : Env S} (h : Pres W e e') (hw : ∀ i ∈ W, i ∈ W') : Pres W' e e' := fun i p hi hp hr => h i p (fun h' => hi (hw i h')) hp hr
theorem Pres.push (_ : List Nat) (e : Env S) (d : Option Nat) (v : PV S) : Pres d.toList e (push d v e) := by
  intro i p hi hp _
  cases d with
  | none => exact hp
  | some k =>
    simp only [Pe.push, look]
    have : Nat.beq k i = false := by
      cases hb : Nat.beq k i with
      | true => have := Nat.eq_of_beq_eq_true hb; subst this; simp at hi
      | false => rfl
    rw [this]; exact hp

def isJunk : PV S → Bool
  | .junk => true
  | _ => false
def CellsP (cs cs' : List (PV S)) : Prop := cs.length = cs'.length ∧ ∀ (j : Nat) p, cs[j]? = some p → p.rowless = true → isJunk p = false → cs'[j]? = some p
def CPres : Box S → Box S → Prop
  | .var T cs, .var T' cs' => T' = T ∧ CellsP cs cs'
  | .lk b, .lk b' => CPres b b'
  | .ro b, .ro b' => CPres b b'
  | .own u T l, .own u' T' l' => Box.own u' T' l' = Box.own u T l
  | .gone, .gone => True
  | _, _ => False
theorem CPres.refl : ∀ (b : Box S), CPres b b
  | .var _ _ => ⟨rfl, rfl, fun _ _ h _ _ => h⟩
  | .lk b => CPres.refl b
  | .ro b => CPres.refl b
  | .own _ _ _ => rfl
  | .gone => trivial
theorem CPres.trans : ∀ {a b c : Box S}, CPres a b → CPres b c → CPres a c
  | .var T cs, .var _ _, .var _ _, h, k => by
    simp only [CPres] at h k ⊢
    exact ⟨k.1.trans h.1, h.2.1.trans k.2.1, fun j p hp hr hj => k.2.2 j p (h.2.2 j p hp hr hj) hr hj⟩
  | .lk a, .lk b, .lk c, h, k => CPres.trans (a := a) (b := b) (c := c) h k
  | .ro a, .ro b, .ro c, h, k => CPres.trans (a := a) (b := b) (c := c) h k
  | .own _ _ _, .own _ _ _, .own _ _ _, h, k => by simp only [CPres] at h k ⊢; rw [k, h]
  | .gone, .gone, .gone, _, _ => trivial
  | .var _ _, .lk _, _, h, _ => h.elim
  | .var _ _, .ro _, _, h, _ => h.elim
  | .var _ _, .own _ _ _, _, h, _ => h.elim
  | .var _ _, .gone, _, h, _ => h.elim
  | .var _ _, .var _ _, .lk _, _, k => k.elim
  | .var _ _, .var _ _, .ro _, _, k => k.elim
  | .var _ _, .var _ _, .own _ _ _, _, k => k.elim
  | .var _ _, .var _ _, .gone, _, k => k.elim
  | .lk _, .var _ _, _, h, _ => h.elim
  | .lk _, .ro _, _, h, _ => h.elim
  | .lk _, .own _ _ _, _, h, _ => h.elim
  | .lk _, .gone, _, h, _ => h.elim
  | .lk _, .lk _, .var _ _, _, k => k.elim
  | .lk _, .lk _, .ro _, _, k => k.elim
  | .lk _, .lk _, .own _ _ _, _, k => k.elim
  | .lk _, .lk _, .gone, _, k => k.elim
  | .ro _, .var _ _, _, h, _ => h.elim
  | .ro _, .lk _, _, h, _ => h.elim
  | .ro _, .own _ _ _, _, h, _ => h.elim
  | .ro _, .gone, _, h, _ => h.elim
  | .ro _, .ro _, .var _ _, _, k => k.elim
  | .ro _, .ro _, .lk _, _, k => k.elim
  | .ro _, .ro _, .own _ _ _, _, k => k.elim
  | .ro _, .ro _, .gone, _, k => k.elim
  | .own _ _ _, .var _ _, _, h, _ => h.elim
  | .own _ _ _, .lk _, _, h, _ => h.elim
  | .own _ _ _, .ro _, _, h, _ => h.elim
  | .own _ _ _, .gone, _, h, _ => h.elim
  | .own _ _ _, .own _ _ _, .var _ _, _, k => k.elim
  | .own _ _ _, .own _ _ _, .lk _, _, k => k.elim
  | .own _ _ _, .own _ _ _, .ro _, _, k => k.elim
  | .own _ _ _, .own _ _ _, .gone, _, k => k.elim
  | .gone, .var _ _, _, h, _ => h.elim
  | .gone, .lk _, _, h, _ => h.elim
  | .gone, .ro _, _, h, _ => h.elim
  | .gone, .own _ _ _, _, h, _ => h.elim
  | .gone, .gone, .var _ _, _, k => k.elim
  | .gone, .gone, .lk _, _, k => k.elim
  | .gone, .gone, .ro _, _, k => k.elim
  | .gone, .gone, .own _ _ _, _, k => k.elim

def fixed : Box S → Bool
  | .lk _ => true
  | .ro _ => true
  | .gone => true
  | _ => false
structure PresB (bx bx' : Bxs S) : Prop where
  len : bx.length ≤ bx'.length
  box : ∀ i b, getB bx i = some b → fixed b = true → ∃ b', getB bx' i = some b' ∧ CPres b b'
  var : ∀ i T cs, getB bx i = some (.var T cs) → ∃ cs', getB bx' i = some (.var T cs') ∧ cs'.length = cs.length
theorem CPres.fixed {b b' : Box S} (h : CPres b b') (hf : fixed b = true) : Pe.fixed b' = true := by
  cases b <;> cases b' <;> simp_all [CPres, Pe.fixed]
theorem PresB.refl (bx : Bxs S) : PresB bx bx := ⟨Nat.le_refl _, fun _ b h _ => ⟨b, h, CPres.refl b⟩, fun _ _ cs h => ⟨cs, h, rfl⟩⟩
theorem PresB.trans {a b c : Bxs S} (h : PresB a b) (k : PresB b c) : PresB a c :=
  ⟨Nat.le_trans h.len k.len, fun i x hx hf => by
    obtain ⟨y, hy, hxy⟩ := h.box i x hx hf
    obtain ⟨z, hz, hyz⟩ := k.box i y hy (hxy.fixed hf)
    exact ⟨z, hz, hxy.trans hyz⟩, fun i T cs hi => by
    obtain ⟨cs', h', hl⟩ := h.var i T cs hi
    obtain ⟨cs'', h'', hl'⟩ := k.var i T cs' h'
    exact ⟨cs'', h'', hl'.trans hl⟩⟩

theorem getB_lt : ∀ {bx : Bxs S} {i : Nat} {b : Box S}, getB bx i = some b → i < bx.length
  | [], _, _, h => by simp [getB] at h
  | _ :: _, 0, _, _ => by simp
  | _ :: r, n + 1, _, h => by simp only [getB] at h; have := getB_lt h; simp; omega
theorem getB_append {bs : Bxs S} : ∀ {bx : Bxs S} {i : Nat} {b : Box S}, getB bx i = some b → getB (bx ++ bs) i = some b
  | [], _, _, h => by simp [getB] at h
  | _ :: _, 0, _, h => h
  | _ :: r, n + 1, _, h => by simp only [getB, List.cons_append] at h ⊢; exact getB_append h
theorem PresB.append (bx bs : Bxs S) : PresB bx (bx ++ bs) := ⟨by simp, fun i b h _ => ⟨b, getB_append h, CPres.refl b⟩, fun i T cs h => ⟨cs, getB_append h, rfl⟩⟩
theorem setB_length : ∀ (bx : Bxs S) (i : Nat) (b : Box S), (setB bx i b).length = bx.length
  | [], _, _ => rfl
  | _ :: _, 0, _ => rfl
  | _ :: r, n + 1, b => by simp [setB, setB_length r n b]
theorem getB_set_ne : ∀ {bx : Bxs S} {i j : Nat} {b : Box S}, i ≠ j → getB (setB bx j b) i = getB bx i
  | [], _, _, _, _ => rfl
  | _ :: _, 0, 0, _, h => absurd rfl h
  | _ :: _, 0, _ + 1, _, _ => rfl
  | _ :: _, _ + 1, 0, _, _ => rfl
  | _ :: r, i + 1, j + 1, _, h => by simp only [setB, getB]; exact getB_set_ne (by omega)
theorem getB_set : ∀ {bx : Bxs S} {j : Nat} {b b' : Box S}, getB bx j = some b → getB (setB bx j b') j = some b'
  | [], _, _, _, h => by simp [getB] at h
  | _ :: _, 0, _, _, _ => rfl
  | _ :: r, n + 1, _, _, h => by simp only [getB, setB] at h ⊢; exact getB_set h
theorem PresB.set {bx : Bxs S} {j : Nat} {b b' : Box S} (hj : getB bx j = some b) (hf : Pe.fixed b = false) (hv : ∀ T cs, b = .var T cs → ∃ cs', b' = .var T cs' ∧ cs'.length = cs.length) : PresB bx (setB bx j b') :=
  ⟨by rw [setB_length]; exact Nat.le_refl _, fun i x hx hfx => by
    by_cases hij : i = j
    · subst hij; rw [hj] at hx; cases hx; rw [hf] at hfx; cases hfx
    · exact ⟨x, by rw [getB_set_ne hij]; exact hx, CPres.refl x⟩, fun i T cs hi => by
    by_cases hij : i = j
    · subst hij; rw [hj] at hi; cases hi
      obtain ⟨cs', rfl, hl⟩ := hv T cs rfl
      exact ⟨cs', getB_set hj, hl⟩
    · exact ⟨cs, by rw [getB_set_ne hij]; exact hi, rfl⟩⟩

mutual
theorem rowless_says (b : Nat) : ∀ (p : PV S), p.rowless = true → p.says b = false
  | .row _, h => by simp [PV.rowless] at h
  | .agg l, h => by simp only [PV.rowless, PV.says] at h ⊢; exact rowless_saysL b l h
  | .tup l, h => by simp only [PV.rowless, PV.says] at h ⊢; exact rowless_saysL b l h
  | .func _ l r, h => by simp only [PV.rowless, PV.says, Bool.and_eq_true, Bool.or_eq_false_iff] at h ⊢; exact ⟨rowless_saysL b l h.1, rowless_saysL b r h.2⟩
  | .iface _ v, h => by simp only [PV.rowless, PV.says] at h ⊢; exact rowless_says b v h
  | .int _ _, _ => rfl
  | .bool _, _ => rfl
  | .str _, _ => rfl
  | .sl _ _, _ => rfl
  | .nils, _ => rfl
  | .st _ _, _ => rfl
  | .elp _ _ _, _ => rfl
  | .ptr _ _, _ => rfl
  | .nilp, _ => rfl
  | .nilFunc, _ => rfl
  | .nilIface, _ => rfl
  | .junk, _ => rfl
theorem rowless_saysL (b : Nat) : ∀ (l : List (PV S)), rowlessL l = true → saysL b l = false
  | [], _ => rfl
  | p :: r, h => by simp only [rowlessL, saysL, Bool.and_eq_true, Bool.or_eq_false_iff] at h ⊢; exact ⟨rowless_says b p h.1, rowless_saysL b r h.2⟩
end
theorem kill_rowless (b : Nat) (y p : PV S) (h : p.rowless = true) : PV.kill b y p = p := by
  have hs := rowless_says b p h
  cases p <;> first | (simp [PV.rowless] at h; done) | (simp only [PV.kill, hs, cond_false])
theorem look_killE (b : Nat) (y : PV S) : ∀ (e : Env S) (i : Nat), look (killE b y e) i = (look e i).map (PV.kill b y)
  | [], _ => rfl
  | (j, p) :: r, i => by
    simp only [killE, look]
    cases Nat.beq j i with
    | true => rfl
    | false => exact look_killE b y r i
theorem Pres.kill (b : Nat) (y : PV S) (e : Env S) : Pres [] e (killE b y e) := by
  intro i p _ hp hr
  rw [look_killE, hp]; simp [kill_rowless b y p hr]
theorem CPres.kill (b : Nat) (y : PV S) : ∀ (x : Box S), CPres x (x.kill b y)
  | .var T cs => ⟨rfl, by simp, fun j p hp hr _ => by simp [List.getElem?_map, hp, kill_rowless b y p hr]⟩
  | .lk x => CPres.kill b y x
  | .ro x => CPres.kill b y x
  | .own _ _ _ => rfl
  | .gone => trivial
theorem getB_map (f : Box S → Box S) : ∀ (bx : Bxs S) (i : Nat), getB (bx.map f) i = (getB bx i).map f
  | [], _ => rfl
  | _ :: _, 0 => rfl
  | _ :: r, n + 1 => by simp only [List.map_cons, getB]; exact getB_map f r n
theorem PresB.kill (b : Nat) (y : PV S) (bx : Bxs S) : PresB bx (bx.map (Box.kill b y)) :=
  ⟨by simp, fun i x hx _ => ⟨x.kill b y, by rw [getB_map, hx]; rfl, CPres.kill b y x⟩, fun i T cs h => ⟨_, by rw [getB_map, h]; rfl, by simp⟩⟩

section
variable {P : Program} {un : Uni S} {tb : Tb S} {orc : Orc S} {inl : Inl S} {E : Wl.Ctx} {D0 : Dat} {N : Wl.Fr} {D D' : Dat} {H : List Wl.Res} {e : Env S} {bx : Bxs S} {a : Act} {w w' : World} {o : Oper} {R : Type} {r : R}

/-! ### what a row goes on to -/
theorem kill_rep {nu nu' : Nu} {b : Nat} {vo : Value} {y : PV S} (hg : Ge D w D' w') (hb : nu[b]? = some (false, vo)) (hy : Rep un nu' D' w' y vo) (hn : ∀ (i : Nat) x, nu[i]? = some x → nu'[i]? = some x ∨ (i = b ∧ x.1 = false)) {p : PV S} {v : Value} (h : Rep un nu D w p v) : Rep un nu' D' w' (PV.kill b y p) v := by
  have gen : p.says b = false → Rep un nu' D' w' p v := fun hs => Rep.mono hg b p v (fun i x hx => (hn i x hx).imp id fun k => ⟨k.1, k.2, hs⟩) h
  cases p with
  | row j =>
    simp only [PV.kill]
    cases hjb : Nat.beq j b with
    | true =>
      have : j = b := Nat.eq_of_beq_eq_true hjb
      subst this
      simp only [Rep] at h
      rw [hb] at h
      have hv : vo = v := by have := h.1; simp at this; exact this
      subst hv
      exact hy
    | false => exact gen (by simp [PV.says, hjb])
  | _ =>
    simp only [PV.kill]
    cases hs : PV.says b _ with
    | true => simp [Rep]
    | false => exact gen hs

theorem killL_rep {nu nu' : Nu} {b : Nat} {vo : Value} {y : PV S} (hg : Ge D w D' w') (hb : nu[b]? = some (false, vo)) (hy : Rep un nu' D' w' y vo) (hn : ∀ (i : Nat) x, nu[i]? = some x → nu'[i]? = some x ∨ (i = b ∧ x.1 = false)) : ∀ {ps : List (PV S)} {vs : List Value}, RepL un nu D w ps vs → RepL un nu' D' w' (ps.map (PV.kill b y)) vs
  | [], [], _ => by simp [RepL]
  | p :: ps, v :: vs, h => by simp only [RepL, List.map_cons] at h ⊢; exact ⟨kill_rep hg hb hy hn h.1, killL_rep hg hb hy hn h.2⟩
  | [], _ :: _, h => by simp [RepL] at h
  | _ :: _, [], h => by simp [RepL] at h

theorem killBox_rep {nu nu' : Nu} {b : Nat} {vo : Value} {y : PV S} (hg : Ge D w D' w') (hgr : ∀ g, g < E.w.heap.size → g ∉ E.lent → w'.heap[g]? = w.heap[g]?) (hb : nu[b]? = some (false, vo)) (hy : Rep un nu' D' w' y vo) (hn : ∀ (i : Nat) x, nu[i]? = some x → nu'[i]? = some x ∨ (i = b ∧ x.1 = false)) :
    ∀ {ro : Bool} {x : Box S} {r : Wl.Res}, BoxRep un nu D w E ro x r → BoxRep un nu' D' w' E ro (x.kill b y) r := by
  intro ro x
  induction x generalizing ro with
  | var T cs =>
    intro r h
    cases r <;> cases ro <;> simp only [BoxRep, Box.kill] at h ⊢
    · exact ⟨h.1, killL_rep hg hb hy hn h.2⟩
    · obtain ⟨g, vs, h1, h2, h3, h4, h5⟩ := h
      exact ⟨g, vs, h1, h2, h3, (hgr g h2 h3).trans h4, killL_rep hg hb hy hn h5⟩
  | own u T l =>
    intro r h
    cases r <;> cases ro <;> simp only [BoxRep, Box.kill] at h ⊢
    · obtain ⟨h1, h2, h3, h4, h5⟩ := h
      exact ⟨h1, h2, h3, fun g hg' o ho => hg.dom _ _ (h4 g hg' o ho), fun i x hi => (h5 i x hi).mono hg⟩
    · refine ⟨h.1, ?_⟩
      have := h.2
      simp only [Rep] at this ⊢
      exact this.mono hg
  | lk x ih => intro r h; simp only [BoxRep, Box.kill] at h ⊢; exact ih h
  | ro x ih => intro r h; simp only [BoxRep, Box.kill] at h ⊢; exact ih h
  | gone => intro r h; cases r <;> cases ro <;> simp only [BoxRep, Box.kill]
theorem killBx_rep {nu nu' : Nu} {b : Nat} {vo : Value} {y : PV S} (hg : Ge D w D' w') (hgr : ∀ g, g < E.w.heap.size → g ∉ E.lent → w'.heap[g]? = w.heap[g]?) (hb : nu[b]? = some (false, vo)) (hy : Rep un nu' D' w' y vo) (hn : ∀ (i : Nat) x, nu[i]? = some x → nu'[i]? = some x ∨ (i = b ∧ x.1 = false)) :
    ∀ {bx : Bxs S} {H : List Wl.Res}, BxRep un nu D w E bx H → BxRep un nu' D' w' E (bx.map (Box.kill b y)) H
  | [], [], _ => by simp [BxRep]
  | x :: bs, r :: rs, h => by simp only [BxRep, List.map_cons] at h ⊢; exact ⟨killBox_rep hg hgr hb hy hn h.1, killBx_rep hg hgr hb hy hn h.2⟩
  | [], _ :: _, h => by simp [BxRep] at h
  | _ :: _, [], h => by simp [BxRep] at h

/-! ### rows -/
theorem src_cells (hf : Flat un) {u : U} {b : Nat} : ∀ (l : List (El S u)) (off : Nat) (cs : Nat → List Value), (∀ (i : Nat) x, l[i]? = some x → dat D w b (off + i * U.size un u) (cs i)) → (∀ (i : Nat) x, l[i]? = some x → DR un D w [u] (sg x) (cs i)) →
    ∃ news : List Value, news.length = l.length * U.size un u ∧ (∀ (j : Nat) v, news[j]? = some v → w.cell? ⟨b, off + j, none⟩ = some v) ∧ (∀ (i : Nat) x, l[i]? = some x → (news.drop (i * U.size un u)).take (U.size un u) = cs i) ∧ ∀ v ∈ news, v.oneCell' = true
  | [], _, _, _, _ => ⟨[], by simp, by simp, by simp, by simp⟩
  | x :: l, off, cs, h1, h2 => by
    have hlen : (cs 0).length = U.size un u := by rw [(h2 0 x rfl).length hf]; simp [sizes]
    obtain ⟨n', g1, g2, g3, g4⟩ := src_cells hf l (off + U.size un u) (fun i => cs (i + 1))
      (fun i y hi => by have := h1 (i + 1) y (by simpa using hi); rwa [Nat.add_mul, Nat.one_mul, Nat.add_comm (i * _), ← Nat.add_assoc] at this)
      (fun i y hi => h2 (i + 1) y (by simpa using hi))
    refine ⟨cs 0 ++ n', by rw [List.length_append, hlen, g1, List.length_cons, Nat.add_mul, Nat.one_mul, Nat.add_comm], fun j v hj => ?_, fun i y hi => ?_, fun v hv => ?_⟩
    · rcases Nat.lt_or_ge j (cs 0).length with hlt | hge
      · rw [List.getElem?_append_left hlt] at hj
        have := (h1 0 x rfl j v hj).2
        simpa using this
      · rw [List.getElem?_append_right hge] at hj
        have := g2 _ v hj
        rwa [show off + U.size un u + (j - (cs 0).length) = off + j by omega] at this
    · cases i with
      | zero => simp [← hlen]
      | succ i =>
        have hi' : l[i]? = some y := by simpa using hi
        rw [Nat.add_mul, Nat.one_mul, show i * U.size un u + U.size un u = (cs 0).length + i * U.size un u by omega, List.drop_append, List.drop_eq_nil_of_le (Nat.le_add_right _ _), Nat.add_sub_cancel_left, List.nil_append]
        exact g3 i y hi'
    · rcases List.mem_append.1 hv with hv | hv
      · exact (h2 0 x rfl).one v hv
      · exact g4 v hv

/-- What is appended: cells at an address, or nothing. -/
theorem Rep_src (hf : Flat un) {nu : Nu} {u : U} {l : List (El S u)} {v : Value} (h : Rep un nu D w (.sl u l) v) :
    ∃ (A : Option Addr) (c : Nat) (news : List Value), v = .slice A l.length c ∧ news.length = l.length * U.size un u ∧ (A = none → l = []) ∧ (∀ ad, A = some ad → ∀ (j : Nat) x, news[j]? = some x → w.cell? (ad.add j) = some x) ∧ (∀ (i : Nat) x, l[i]? = some x → DR un D w [u] (sg x) ((news.drop (i * U.size un u)).take (U.size un u))) ∧ ∀ x ∈ news, x.oneCell' = true := by
  simp only [Rep] at h
  cases h with
  | sl0 A c h0 h =>
    have h0' : l = [] := h0
    subst h0'
    exact ⟨A, c, [], rfl, by simp, fun _ => rfl, by simp, by simp, by simp⟩
  | sl b off c cs hc h1 h2 h =>
    obtain ⟨news, g1, g2, g3, g4⟩ := src_cells hf l off cs h1 h2
    refine ⟨_, c, news, rfl, g1, by simp, fun ad had j x hj => ?_, fun i x hi => ?_, g4⟩
    · cases had; rw [Addr.add_mid]; exact g2 j x hj
    · rw [g3 i x hi]; exact h2 i x hi

theorem append_own {T : TypeId} {u : U} {t ty : TypeId} (hu : P.underlying t = some (.slice T)) (hT : ElOk P un T u) {base n : Nat} {v : Value} {xs : List Value} (hown : w.ownsRow base T (U.size un u) v n xs)
    {A : Option Addr} {m c : Nat} {news : List Value} (hl : news.length = m * U.size un u) (hA : A = none → m = 0) (hc : ∀ ad, A = some ad → ∀ (j : Nat) x, news[j]? = some x → w.cell? (ad.add j) = some x) (h1 : ∀ x ∈ news, x.oneCell' = true) (hm : n + m ≤ lim) (hbase : base ≤ w.heap.size) :
    ∃ v' w', (Builtin.append_ #[t, t] ty #[v, .slice A m c]).run P w = .ok v' w' ∧ w'.ownsRow base T (U.size un u) v' (n + m) (xs ++ news) ∧ w.grownBy w' v.ownBlock ∧ (v'.ownBlock = v.ownBlock ∨ v'.ownBlock = some w.heap.size) ∧
      (∀ k o, k < w.heap.size → (v.ownBlock = some k → o < n * U.size un u) → w'.cell? ⟨k, o, none⟩ = w.cell? ⟨k, o, none⟩) := by
  obtain ⟨inf, z, e1, e2, e3, e4, e5, e6⟩ := hT.info
  have hbytes : (n + m) * inf.bytes ≤ 140737488355328 := by
    have : (n + m) * inf.bytes ≤ 4294967296 * 32768 := Nat.mul_le_mul (by unfold lim at hm; exact hm) e6
    omega
  have h63 : n + m ≤ maxLen := by unfold lim at hm; unfold maxLen; omega
  cases A with
  | none =>
    have := hA rfl
    subst this
    have hn : news = [] := List.eq_nil_of_length_eq_zero (by simpa using hl)
    subst hn
    have hs : Src P inf.size t (.slice none 0 c) 0 [] w := Src.ofNil w hu c
    obtain ⟨B, l, k, rfl, hlk⟩ : ∃ B l k, v = .slice B l k ∧ l ≤ k := by
      rcases hown.2 with ⟨rfl, _⟩ | ⟨g, cap, cur, rfl, _, _, h, _⟩
      · exact ⟨none, 0, 0, rfl, Nat.le_refl _⟩
      · exact ⟨_, _, _, rfl, h⟩
    refine ⟨_, w, run_append_nothing w t t ty T inf hu e1 B l k hlk _ hs, by simpa using hown, ⟨rfl, rfl, rfl, Nat.le_refl _, fun _ _ _ => rfl⟩, .inl rfl, fun _ _ _ _ => rfl⟩
  | some ad =>
    obtain ⟨v', w', hrun, r1, r2, _, r4⟩ := run_append_own_at (P := P) w base t ty T inf z (U.size un u) inf.bytes hu e1 e2 e3 rfl e4 e5 v n xs hown ad m c news hl (hc ad rfl) h1 h63 hbytes hbase
    refine ⟨v', w', hrun, r1, r2, r4, fun k o hk ho => ?_⟩
    by_cases hkb : v.ownBlock = some k
    · have ho' := ho hkb
      rcases hown.2 with ⟨rfl, _⟩ | ⟨g, cap, cur, rfl, hbg, hg, hnc, hcm, hcs, htake⟩
      · simp [Value.ownBlock] at hkb
      · have hgk : g = k := by simpa [Value.ownBlock] using hkb
        subst hgk
        have hcell : w.cell? ⟨g, o, none⟩ = xs[o]? := by
          rw [cell_of_row w g _ _ _ _ hg, ← htake, List.getElem?_take_of_lt ho']; simp
        rw [hcell]
        have hox : o < xs.length := by rw [hown.1]; exact ho'
        by_cases hroom : n + m ≤ cap
        · obtain ⟨w2, f1, f2, f3⟩ := run_append_fits (P := P) w base t ty T inf (U.size un u) hu e1 e3 g n cap xs hown ad m c news hl (hc ad rfl) h1 hroom
          rw [f1] at hrun
          cases hrun
          rcases f2.2 with ⟨hne, _⟩ | ⟨g', cap', cur', hv', _, hg', _, _, _, htake'⟩
          · simp at hne
          · simp only [Value.slice.injEq, Option.some.injEq, Addr.mk.injEq, and_true, true_and] at hv'
            obtain ⟨rfl, rfl⟩ := hv'
            have h2 : o < (n + m) * U.size un u := Nat.lt_of_lt_of_le ho' (Nat.mul_le_mul_right _ (by omega))
            have hc2 : cur'[o]? = (xs ++ news)[o]? := by rw [← htake', List.getElem?_take_of_lt h2]; simp
            rw [cell_of_row _ g _ _ _ _ hg', hc2, List.getElem?_append_left hox]
        · have holds : ∀ j x, xs[j]? = some x → w.cell? ((⟨g, 0, none⟩ : Addr).add j) = some x := hown.cells (g := g) rfl
          have hr := run_append_grow (P := P) w t ty T inf z hu e1 e2 ⟨g, 0, none⟩ n cap xs (by rw [hown.1, e3]) holds ad m c news (by rw [hl, e3]) (hc ad rfl) (by omega) (by unfold maxLen at h63; omega) (growslice_fits (by omega) hbytes)
          rw [hr] at hrun
          cases hrun
          rw [← hcell]
          exact World.cell?_of_block (Below.heap_alloc w.drew _ g hk)
    · exact World.cell?_of_block (r2.block k hk fun h => hkb h.symm)
end
end Pe
