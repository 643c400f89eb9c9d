/- A region whose operations write, in any order. -/
import Derived.Test.YteimbekcnkogoaaDoorPe15b
namespace Pe
open Go Go.RowKit
variable {S : Nat → Type}
theorem same_some {R : Type} {x y : Option R} {r : R} (h : same x y = some r) : x = some r ∧ y = some r := by
  unfold same at h
  split at h
  · rename_i hxy; subst hxy; exact ⟨h, h⟩
  · cases h
theorem same_self {R : Type} (x : Option R) : same x x = x := by unfold same; rw [if_pos rfl]
theorem sameL_some {R : Type} {r : R} : ∀ {l : List (Option R)}, sameL l = some r → ∀ x ∈ l, x = some r
  | [], _, x, hx => by cases hx
  | [y], h, x, hx => by simp only [List.mem_singleton] at hx; subst hx; exact h
  | x :: y :: l, h, z, hz => by
    obtain ⟨h1, h2⟩ := same_some h
    rcases List.mem_cons.1 hz with rfl | hz
    · exact h1
    · exact sameL_some h2 z hz
section
variable {P : Program} {un : Uni S} {tb : Tb S} {orc : Orc S} {inl : Inl S} {E : Wl.Ctx} {D0 : Dat} {N : Wl.Fr} {R : Type} {r : R} {Q : Exit → Act → World → Prop}

theorem execAny_wp (hun : UniOk un) (ht : TbOk P un tb) (hor : SoundO P un orc) (hin : SoundI P un inl) {ops : Array Oper} {KX : Exit → Env S → Bxs S → Option R} {K : Env S → Bxs S → Option R} (hd : ∀ o ∈ ops.toList, ∀ d, o.dst = some d → d < N.n) :
    ∀ (n : Nat) (listed : Array Bool) (e : Env S) (bx : Bxs S) {a : Act} {w : World}, execAny un tb orc inl ops KX n listed e bx K = some r → Holds un E D0 N e bx a w →
      (∀ e' bx', K e' bx' = some r → Pres (dsts ops.toList) e e' → PresB bx bx' → ∀ a' w', Holds un E D0 N e' bx' a' w' → Q .normal a' w') →
      (∀ x e' bx', KX x e' bx' = some r → Pres (dsts ops.toList) e e' → PresB bx bx' → ∀ a' w', Holds un E D0 N e' bx' a' w' → Q x a' w') → wpAny P .any ops Q n listed a w := by
  intro n
  induction n with
  | zero =>
    intro listed e bx a w h hs hk hkx
    unfold execAny at h
    split at h
    · rename_i hr; exact ⟨hr, hk e bx h (Pres.refl _ _) (PresB.refl _) a w hs⟩
    · cases h
  | succ n ih =>
    intro listed e bx a w h hs hk hkx
    unfold execAny at h
    split at h
    · rename_i hr; exact ⟨fun _ => hk e bx h (Pres.refl _ _) (PresB.refl _) a w hs, fun i hi => (by rw [hr] at hi; cases hi)⟩
    · rename_i i0 l0 hr
      refine ⟨fun hn => (by rw [hr] at hn; cases hn), fun i hi => ?_⟩
      rw [hr] at hi
      have h1 := sameL_some h _ (List.mem_map.2 ⟨i, hi, rfl⟩)
      unfold wpOp
      split at h1
      · rename_i o ho
        split at h1
        · rename_i hg
          rw [ho]
          simp only
          have hom : o ∈ ops.toList := by
            have := (Array.getElem?_eq_some_iff.1 ho)
            obtain ⟨hlt, rfl⟩ := this
            simp
          rw [if_pos (by simp [Region.wanted, hg])]
          left
          have hdst : ∀ i ∈ o.dst.toList, i ∈ dsts ops.toList := fun i hi => by
            simp only [dsts, List.mem_filterMap]
            exact ⟨o, hom, by simpa using hi⟩
          refine popK_wp hun ht hor hin h1 (hd o hom) hs (fun p e1 bx1 h2 hp hb a' w' h3 => ?_) fun x e' bx' h2 hp hb => hkx x e' bx' h2 (hp.mono fun i hi => by cases hi) hb
          have pr : ∀ e2, Pres (dsts ops.toList) (push o.dst p e1) e2 → Pres (dsts ops.toList) e e2 := fun e2 hp2 => by
            refine ((hp.trans (Pres.push [] e1 o.dst p)).trans hp2).mono fun i hi => ?_
            simp only [List.nil_append, List.mem_append] at hi
            rcases hi with hi | hi
            · exact hdst i hi
            · exact hi
          exact ih _ _ _ h2 h3 (fun e2 bx2 h4 hp2 hb2 a2 w2 h5 => hk e2 bx2 h4 (pr e2 hp2) (hb.trans hb2) a2 w2 h5) fun x e2 bx2 h4 hp2 hb2 a2 w2 h5 => hkx x e2 bx2 h4 (pr e2 hp2) (hb.trans hb2) a2 w2 h5
        · cases h1
      · cases h1

theorem bbeq_true {v want : Bool} (h : bbeq v want = true) : v = want := by cases v <;> cases want <;> simp_all [bbeq]
theorem bbeq_false {v want : Bool} (h : bbeq v want = false) : v = !want := by cases v <;> cases want <;> simp_all [bbeq]
/-- After each operation the known guards are known still. -/
theorem Known.kill {kn : List (Nat × Bool)} {e e' : Env S} (h : Known kn e) (hp : Pres [] e e') : Known kn e' := fun d v hv => hp d _ (by simp) (h d v hv) rfl

theorem execG_wp (hun : UniOk un) (ht : TbOk P un tb) (hor : SoundO P un orc) (hin : SoundI P un inl) {ops : List Oper} {KX : Exit → Env S → Bxs S → Option R} : ∀ (n : Nat) (kn : List (Nat × Bool)) (l : List Oper) (e : Env S) (bx : Bxs S) (K : Env S → Bxs S → Option R) {a : Act} {w : World}, execG un tb orc inl ops KX n kn l e bx K = some r → Known kn e → (∀ o ∈ l, ∀ d, o.dst = some d → d < N.n) → Holds un E D0 N e bx a w →
    (∀ e' bx', K e' bx' = some r → Pres (dsts l) e e' → PresB bx bx' → ∀ a' w', Holds un E D0 N e' bx' a' w' → Q .normal a' w') →
    (∀ x e' bx', KX x e' bx' = some r → Pres (dsts l) e e' → PresB bx bx' → ∀ a' w', Holds un E D0 N e' bx' a' w' → Q x a' w') → wpList P ops.toArray Q l a w := by
  intro n
  induction n with
  | zero =>
    intro kn l e bx K a w h hkn hd hs hk hkx
    cases l with
    | nil => simp only [execG] at h; exact wpList_nil (hk e bx h (Pres.refl _ _) (PresB.refl _) a w hs)
    | cons o l => simp [execG] at h
  | succ n ih =>
    intro kn l e bx K a w h hkn hd hs hk hkx
    cases l with
    | nil => simp only [execG] at h; exact wpList_nil (hk e bx h (Pres.refl _ _) (PresB.refl _) a w hs)
    | cons o l =>
      have hmem : ∀ i, i ∈ dsts l → i ∈ dsts (o :: l) := fun i hi => by
        simp only [dsts, List.filterMap_cons]
        cases o.dst <;> simp [dsts] at hi ⊢
        · exact hi
        · exact .inr hi
      have pr : ∀ {e1 e2 : Env S} {p : PV S}, Pres [] e e1 → Pres (dsts l) (push o.dst p e1) e2 → Pres (dsts (o :: l)) e e2 := fun {e1 e2 p} hp hp2 => by
        refine ((hp.trans (Pres.push [] e1 o.dst p)).trans hp2).mono fun i hi => ?_
        simp only [List.nil_append, List.mem_append] at hi
        rcases hi with hi | hi
        · simp only [dsts, List.filterMap_cons]
          cases ho : o.dst <;> rw [ho] at hi <;> simp at hi ⊢
          exact .inl hi
        · exact hmem i hi
      have run : popK un tb orc inl o e bx (fun p e' bx' => execG un tb orc inl ops KX n (dropK o.dst kn) l (push o.dst p e') bx' K) KX = some r → Region.wanted o (yielded ops.toArray a.tmps) = true → wpList P ops.toArray Q (o :: l) a w := by
        intro h hw
        refine wpList_step fun K' hK' => ?_
        rw [if_pos hw]
        exact popK_wp hun ht hor hin h (hd o (by simp)) hs (fun p e1 bx1 h1 hp hb a' w' h2 => hK' a' w' (ih _ l _ _ K h1 ((hkn.kill hp).push o.dst p) (fun o ho => hd o (by simp [ho])) h2 (fun e2 bx2 h3 hp2 hb2 a2 w2 h4 => hk e2 bx2 h3 (pr hp hp2) (hb.trans hb2) a2 w2 h4) fun x e2 bx2 h3 hp2 hb2 a2 w2 h4 => hkx x e2 bx2 h3 (pr hp hp2) (hb.trans hb2) a2 w2 h4))
          fun x e' bx' h1 hp hb => hkx x e' bx' h1 (hp.mono fun i hi => by cases hi) hb
      have shut : execG un tb orc inl ops KX n (dropK o.dst kn) l (push o.dst undefV e) bx K = some r → Region.wanted o (yielded ops.toArray a.tmps) = false → wpList P ops.toArray Q (o :: l) a w := by
        intro h hw
        refine wpList_step fun K' hK' => ?_
        rw [hw, if_neg (by simp)]
        exact hK' _ _ (ih _ l _ _ K h (hkn.push o.dst undefV) (fun o ho => hd o (by simp [ho])) (hs.undef (hd o (by simp))) (fun e2 bx2 h3 hp2 hb2 a2 w2 h4 => hk e2 bx2 h3 (pr (Pres.refl _ _) hp2) hb2 a2 w2 h4) fun x e2 bx2 h3 hp2 hb2 a2 w2 h4 => hkx x e2 bx2 h3 (pr (Pres.refl _ _) hp2) hb2 a2 w2 h4)
      unfold execG at h
      split at h
      · rename_i hg; exact run h (by simp [Region.wanted, hg])
      · split at h
        · cases h
        · rename_i d want hgs
          split at h
          · rename_i v hv
            have hlk := hkn d v hv
            cases hb : bbeq v want with
            | true =>
              rw [hb] at h
              have := bbeq_true hb; subst this
              exact run h (by simpa using wanted_yes hgs hs hlk)
            | false =>
              rw [hb] at h
              have := bbeq_false hb; subst this
              exact shut h (by simpa using wanted_no hgs hs (.inl hlk))
          · split at h
            · rename_i hlk; exact shut h (by simpa using wanted_no hgs hs (.inr hlk))
            · rename_i b hlk
              have one : ∀ b', b = b' → execG un tb orc inl ops KX n ((d, b') :: kn) (o :: l) ((d, .bool b') :: e) bx K = some r → wpList P ops.toArray Q (o :: l) a w := by
                rintro b' rfl h
                have hsub : Sub ((d, .bool b) :: e) e := by
                  intro i p hp
                  simp only [look] at hp
                  cases hb : Nat.beq d i with
                  | true => rw [hb] at hp; simp at hp; subst hp; rw [← Nat.eq_of_beq_eq_true hb]; exact hlk
                  | false => rw [hb] at hp; exact hp
                have hpr : ∀ {e2 : Env S}, Pres (dsts (o :: l)) ((d, .bool b) :: e) e2 → Pres (dsts (o :: l)) e e2 := fun {e2} hp i p hi hl hr => by
                  refine hp i p hi ?_ hr
                  simp only [look]
                  cases hb : Nat.beq d i with
                  | true => have := Nat.eq_of_beq_eq_true hb; subst this; rw [hlk] at hl; exact hl
                  | false => exact hl
                refine ih _ _ _ _ K h (fun i u hu => ?_) hd (hs.sub hsub) (fun e2 bx2 h3 hp2 hb2 a2 w2 h4 => hk e2 bx2 h3 (hpr hp2) hb2 a2 w2 h4) fun x e2 bx2 h3 hp2 hb2 a2 w2 h4 => hkx x e2 bx2 h3 (hpr hp2) hb2 a2 w2 h4
                simp only [lookK, look] at hu ⊢
                cases hb : Nat.beq d i with
                | true => rw [hb] at hu; simp at hu; subst hu; rfl
                | false => rw [hb] at hu; exact hkn i u hu
              rcases br_some h with ⟨hb, h⟩ | ⟨hb, h⟩
              · exact one true hb h
              · exact one false hb h
            · cases h

/-! silent operations ahead -/
theorem ev_congr {e e2 : Env S} {x : Operand} (h : ∀ t, x = .tmp t → look e2 t = look e t) : ev e2 x = ev e x := by
  cases x with
  | tmp t => exact h t rfl
  | _ => rfl
theorem evs_congr {e e2 : Env S} : ∀ {l : List Operand}, (∀ x ∈ l, ∀ t, x = .tmp t → look e2 t = look e t) → evs e2 l = evs e l
  | [], _ => rfl
  | x :: r, h => by
    simp only [evs]
    rw [ev_congr (h x (by simp)), evs_congr fun y hy => h y (by simp [hy])]
theorem partsOf_congr {e e2 : Env S} : ∀ {l : List (Nat × Operand)}, (∀ x ∈ l, ∀ t, x.2 = .tmp t → look e2 t = look e t) → partsOf e2 l = partsOf e l
  | [], _ => rfl
  | (i, x) :: r, h => by
    simp only [partsOf]
    rw [ev_congr (h (i, x) (by simp)), partsOf_congr fun y hy => h y (by simp [hy])]
theorem enters_congr {e e2 : Env S} {c : Call} (h : ∀ x ∈ c.operands.toList, ∀ t, x = .tmp t → look e2 t = look e t) : enters e2 c = enters e c := by
  unfold enters
  cases hc : c.callee with
  | value f =>
    simp only
    rw [ev_congr (h f (by simp [Call.operands, hc])), evs_congr fun x hx => h x (by simp [Call.operands, hc]; exact .inr (by simpa using hx))]
  | _ => rfl
theorem popQ_congr {o : Oper} {e e2 : Env S} {bx : Bxs S} {K : PV S → Option R} (hW : ∀ x ∈ o.op.operands.toList, ∀ t, x = .tmp t → look e2 t = look e t) : popQ un tb orc inl o e2 bx K = popQ un tb orc inl o e bx K := by
  unfold popQ
  cases ho : o.op <;> rw [ho] at hW <;> simp only [Op.operands] at hW <;> try rfl
  case move x => simp only [ev_congr (hW x (by simp))]
  case assign x => simp only [ev_congr (hW x (by simp))]
  case pick c x y => simp only [ev_congr (hW c (by simp)), ev_congr (hW x (by simp)), ev_congr (hW y (by simp))]
  case build t ps => simp only [partsOf_congr (e := e) (e2 := e2) (l := ps.toList) fun x hx => hW x.2 (by simp only [Array.mem_toList_iff, List.mem_map]; simpa using ⟨x.1, by simpa using hx⟩)]
  case load t x => simp only [ev_congr (hW x (by simp))]
  case nilCheck x => simp only [ev_congr (hW x (by simp))]
  case binOp op t x y t' => simp only [ev_congr (hW x (by simp)), ev_congr (hW y (by simp))]
  case unOp op t x => cases op <;> simp only [ev_congr (hW x (by simp))]
  case makeInterface t x => simp only [ev_congr (hW x (by simp))]
  case makeFunc fn first cap => simp only [evs_congr (e := e) (e2 := e2) (l := first.toList) fun x hx => hW x (by simp; exact .inl (by simpa using hx)), evs_congr (e := e) (e2 := e2) (l := cap.toList) fun x hx => hW x (by simp; exact .inr (by simpa using hx))]
  case slice t x lo hi mx =>
    cases mx with
    | some _ => rfl
    | none =>
      simp only [ev_congr (hW x (by simp))]
      cases lo <;> cases hi <;> simp only []
      · rename_i y; rw [ev_congr (hW y (by simp))]
      · rename_i y; rw [ev_congr (hW y (by simp))]
      · rename_i y z; rw [ev_congr (hW y (by simp)), ev_congr (hW z (by simp))]
  case fieldAddr s x f => simp only [ev_congr (hW x (by simp))]
  case indexAddr t x i => simp only [ev_congr (hW x (by simp)), ev_congr (hW i (by simp))]
  case index t x i => simp only [ev_congr (hW x (by simp)), ev_congr (hW i (by simp))]
  case extract x i => simp only [ev_congr (hW x (by simp))]
  case call c =>
    have h1 : evs e2 c.args.toList = evs e c.args.toList := evs_congr fun x hx => hW x (by simp [Call.operands]; exact .inr (by simpa using hx))
    have h2 : enters e2 c = enters e c := enters_congr hW
    simp only [h1, h2]

/-- The row that an operation lets go on. -/
def killOf (o : Oper) (e : Env S) (bx : Bxs S) : Option (Nat × PV S) := match o.op with
  | .call c => match c.callee with
    | .builtin .append => match evs e c.args.toList with
      | some [.row b, _] => match getB bx b with
        | some (.own v _ old) => some (b, .sl v old)
        | _ => none
      | _ => none
    | _ => none
  | _ => none
def killO : Option (Nat × PV S) → Env S → Env S
  | none, e => e
  | some (b, y), e => killE b y e
open Classical in
theorem popK_congr {o : Oper} {e e2 : Env S} {bx : Bxs S} {K : PV S → Env S → Bxs S → Option R} {KX : Exit → Env S → Bxs S → Option R} (hW : ∀ x ∈ o.op.operands.toList, ∀ t, x = .tmp t → look e2 t = look e t) (h : popK un tb orc inl o e bx K KX = some r) :
    popK un tb orc inl o e2 bx (fun p e' bx' => if e' = killO (killOf o e bx) e2 then K p (killO (killOf o e bx) e) bx' else none) (fun x e' bx' => if e' = e2 then KX x e bx' else none) = some r := by
  have quiet : killOf o e bx = none → popQ un tb orc inl o e bx (fun p => K p e bx) = some r → popQ un tb orc inl o e2 bx (fun p => if e2 = killO (killOf o e bx) e2 then K p (killO (killOf o e bx) e) bx else none) = some r := by
    intro hk h
    rw [popQ_congr hW]
    simp only [hk, killO, if_true]
    exact h
  unfold popK at h ⊢
  split at h
  · rename_i T ho
    have hk : killOf o e bx = none := by unfold killOf; rw [ho]
    simp only [hk, killO, if_true]
    exact h
  · rename_i T x ho
    have hk : killOf o e bx = none := by unfold killOf; rw [ho]
    rw [ho] at hW; simp only [Op.operands] at hW
    simp only [hk, killO, if_true, ev_congr (hW x (by simp))]
    exact h
  · rename_i t x y ho
    have hk : killOf o e bx = none := by unfold killOf; rw [ho]
    rw [ho] at hW; simp only [Op.operands] at hW
    simp only [hk, killO, if_true, ev_congr (hW x (by simp)), ev_congr (hW y (by simp))]
    exact h
  · rename_i t n ps ho
    have hk : killOf o e bx = none := by unfold killOf; rw [ho]
    rw [ho] at hW; simp only [Op.operands] at hW
    simp only [hk, killO, if_true, partsOf_congr (e := e) (e2 := e2) (l := ps.toList) fun x hx => hW x.2 (by simp only [Array.mem_toList_iff, List.mem_map]; simpa using ⟨x.1, by simpa using hx⟩)]
    exact h
  · rename_i c ho
    have hW0 := hW
    rw [ho] at hW; simp only [Op.operands] at hW
    have h1 : evs e2 c.args.toList = evs e c.args.toList := evs_congr fun x hx => hW x (by simp [Call.operands]; exact .inr (by simpa using hx))
    have h2 : enters e2 c = enters e c := enters_congr hW
    simp only [h1, h2]
    split at h
    · rename_i hc
      try simp only [hc]
      split at h
      · rename_i s x t hargs htw
        try simp only [hargs, htw]
        split at h
        · cases h
        · rename_i T u hel
          try simp only [hel]
          split at h
          · rename_i new hnew
            try simp only [hnew]
            split at h
            · have hk : killOf o e bx = none := by unfold killOf; rw [ho]; simp [hc, hargs]
              simp only [hk, killO, if_true]
              exact h
            · rename_i b
              split at h
              · rename_i v T' old hg
                try simp only [hg]
                have hk : killOf o e bx = some (b, .sl v old) := by unfold killOf; rw [ho]; simp [hc, hargs, hg]
                simp only [hk, killO, if_true]
                exact h
              · cases h
            · cases h
          · cases h
      · cases h
    · rename_i f hc
      have hk : killOf o e bx = none := by unfold killOf; rw [ho]; simp [hc]
      split at h
      · rename_i f l hen
        try simp only [hc]
        try simp only [hen]
        split at h
        · rename_i us ts lc rs ps pan hsig
          simp only [hk, killO, effCall, if_true] at h ⊢
          exact h
        · rename_i fn an ts lc rs ps pan hsig
          simp only [hk, killO, effCall, if_true] at h ⊢
          exact h
        · rename_i hn1 hn2
          have := quiet hk h
          first
            | exact this
            | (split
               · rename_i hsig; exact absurd hsig (hn1 _ _ _ _ _ _)
               · rename_i hsig; exact absurd hsig (hn2 _ _ _ _ _ _ _)
               · exact this)
      · cases h
    · rename_i hn1 hn2
      have hk : killOf o e bx = none := by
        unfold killOf; rw [ho]
        first
          | rfl
          | (simp only []; done)
          | (split <;> first | rfl | (rename_i hcc; exact absurd hcc hn1))
      have := quiet hk h
      first
        | exact this
        | (split
           · rename_i hcc; exact absurd hcc hn1
           · rename_i hcc; exact absurd hcc (hn2 _)
           · exact this)
  · rename_i x ho
    rw [ho] at hW; simp only [Op.operands] at hW
    simp only [if_true, ev_congr (hW x (by simp))]
    exact h
  · rename_i n1 n2 n3 n4 n5 n6
    have hk : killOf o e bx = none := by
      unfold killOf
      first
        | rfl
        | (split
           · rename_i hcc; exact absurd hcc (n5 _)
           · rfl)
    have := quiet hk h
    first
      | exact this
      | (split
         · rename_i hcc; exact absurd hcc (n1 _)
         · rename_i hcc; exact absurd hcc (n2 _ _)
         · rename_i hcc; exact absurd hcc (n3 _ _ _)
         · rename_i hcc; exact absurd hcc (n4 _ _ _)
         · rename_i hcc; exact absurd hcc (n5 _)
         · rename_i hcc; exact absurd hcc (n6 _)
         · exact this)
end
end Pe
