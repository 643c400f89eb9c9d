/- Code, and functions. -/
import Derived.Test.YteimbekcnkogoaaDoorPe15d
namespace Pe
open Go Go.RowKit
variable {S : Nat → Type}
section
variable {P : Program} {un : Uni S} {tb : Tb S} {orc : Orc S} {inl : Inl S} {an : Ann} {E : Wl.Ctx} {D0 : Dat} {N : Wl.Fr}

theorem Holds.draw {e : Env S} {bx : Bxs S} {a : Act} {w : World} (h : Holds un E D0 N e bx a w) (n : Nat) : Holds un E D0 N e bx a { w with drawn := n } := by
  obtain ⟨D, H, hs, hD⟩ := h
  have g : Ge D w D { w with drawn := n } := ⟨fun _ _ h => h, fun _ _ _ => rfl⟩
  refine ⟨D, H, ⟨⟨⟨hs.inn.out.os, hs.inn.out.tape, hs.inn.out.output, hs.inn.out.size, hs.inn.out.block⟩, hs.inn.lt, fun r hr => Wl.Res.holds_of (hs.inn.res r hr) fun _ _ => rfl, hs.inn.apart, hs.inn.disj, hs.inn.lent⟩, hs.size, hs.defers, BxRep.mono g (fun _ _ _ => rfl) (fun _ _ h => h) hs.boxes, fun i p hi => (hs.slots i p hi).ge g fun _ _ h => h⟩, hD⟩

theorem Pres.of_keep {l : List Oper} {e _ e'' : Env S} {bx : Bxs S} {ops : List Oper} (h : QPath P un bx ops l e e'') : Pres (dsts l) e e'' := fun i p hi hp _ => by rw [h.keep i hi]; exact hp

theorem touch_writes : ∀ (c : Code) (i : Nat), i ∈ writes c → i ∈ touch an c
  | .region _ ops _, i, h => by simpa [writes, touch, dsts] using h
  | .seq a b, i, h => by
    simp only [writes, touch, List.mem_append] at h ⊢
    exact .inl (h.imp (touch_writes a i) (touch_writes b i))
  | .cond _ a b, i, h => by simp only [writes, touch, List.mem_append] at h ⊢; exact h.imp (touch_writes a i) (touch_writes b i)
  | .block _ a, i, h => by simp only [writes, touch] at h ⊢; exact touch_writes a i h
  | .loop a, i, h => by simp only [writes, touch, List.mem_append] at h ⊢; exact .inl (touch_writes a i h)
  | .scope a, i, h => by simp only [writes, touch] at h ⊢; exact touch_writes a i h
  | .skip, _, h => by simp [writes] at h
  | .rangeFunc _ _ _ _, _, h => by simp [writes] at h
  | .exit _, _, h => by simp [writes] at h
  | .label _, _, h => by simp [writes] at h
  | .goto _, _, h => by simp [writes] at h
  | .ret, _, h => by simp [writes] at h
  | .refuse _, _, h => by simp [writes] at h

theorem exec_wp (hmix : P.follows .mixedOrders = true) (hun : UniOk un) (ht : TbOk P un tb) (hor : SoundO P un orc) (hin : SoundI P un inl) : ∀ (c : Code) (R : Type) (e : Env S) (bx : Bxs S) (K : Exit → Env S → Bxs S → Option R) (r : R), exec un tb orc inl an c R e bx K = some r → (∀ d ∈ writes c, d < N.n) →
    ∀ {a : Act} {w : World} {Q : Exit → Act → World → Prop}, Holds un E D0 N e bx a w → (∀ x e' bx', K x e' bx' = some r → Pres (touch an c) e e' → PresB bx bx' → ∀ a' w', Holds un E D0 N e' bx' a' w' → Q x a' w') → c.wp P Q a w := by
  intro c
  induction c with
  | skip => intro R e bx K r h _ a w Q hs hk; exact wp_skip (hk _ _ _ h (Pres.refl _ _) (PresB.refl _) a w hs)
  | ret => intro R e bx K r h _ a w Q hs hk; exact wp_ret (hk _ _ _ h (Pres.refl _ _) (PresB.refl _) a w hs)
  | exit i => intro R e bx K r h _ a w Q hs hk; exact wp_exit (hk _ _ _ h (Pres.refl _ _) (PresB.refl _) a w hs)
  | region id ops draw =>
    intro R e bx K r h hd a w Q hs hk
    have hd' : ∀ o ∈ ops.toList, ∀ d, o.dst = some d → d < N.n := fun o ho d hdd => hd d (by simp only [writes, List.mem_filterMap]; exact ⟨o, ho, hdd⟩)
    cases draw with
    | false =>
      simp only [exec] at h
      cases hdup : an.dup.any (Nat.beq id) with
      | true =>
        rw [hdup] at h
        simp only [cond_true] at h
        have := execG_wp (Q := Q) hun ht hor hin _ _ _ _ _ _ h (fun d v hv => by simp [lookK] at hv) hd' hs (fun e' bx' h1 h2 h3 a' w' h4 => hk .normal e' bx' h1 (by simpa only [touch] using h2) h3 a' w' h4) fun x e' bx' h1 h2 h3 a' w' h4 => hk x e' bx' h1 (by simpa only [touch] using h2) h3 a' w' h4
        have h5 := wp_region_lit (id := id) (by simpa using this)
        simpa using h5
      | false =>
      rw [hdup] at h
      simp only [cond_false] at h
      have := execR_wp (Q := Q) hun ht hor hin _ _ _ _ _ h hd' hs (fun e' bx' h1 h2 h3 a' w' h4 => hk .normal e' bx' h1 (by simpa only [touch] using h2) h3 a' w' h4) fun x e' bx' h1 h2 h3 a' w' h4 => hk x e' bx' h1 (by simpa only [touch] using h2) h3 a' w' h4
      have h5 := wp_region_lit (id := id) (by simpa using this)
      simpa using h5
    | true =>
      simp only [exec] at h
      cases han : lookA an.any id with
      | some sil =>
        rw [han] at h
        simp only at h
        obtain ⟨h1, h2⟩ := bif_some h
        simp only [Bool.and_eq_true] at h1
        exact any2_wp hmix hun ht hor hin h1.1 h1.2 h2 hd' (hs.draw _) (fun e' bx' h1 h2 h3 a' w' h4 => hk .normal e' bx' h1 (by simpa only [touch] using h2) h3 a' w' h4) fun x e' bx' h1 h3 a' w' h2 h4 => hk x e' bx' h1 (by simpa only [touch] using h2) h3 a' w' h4
      | none =>
      rw [han] at h
      simp only at h
      obtain ⟨h1, h2⟩ := bif_some h
      obtain ⟨e', e'', g1, g2, g3, g4⟩ := execQ_path hun ht hor hin _ _ _ _ _ _ _ h2 (fun d v hv => by simp [lookK] at hv)
      refine any_wp hmix h1 g2 hd' (hs.draw _) fun a' w' h4 => hk .normal e' bx g1 (fun i p hi hp _ => ?_) (PresB.refl _) a' w' (h4.sub g3)
      rw [g4 i (by simpa only [touch] using hi)]; exact hp
  | seq x y ihx ihy =>
    intro R e bx K r h hd a w Q hs hk
    have hdx : ∀ d ∈ writes x, d < N.n := fun d hdd => hd d (by simp [writes, hdd])
    have hdy : ∀ d ∈ writes y, d < N.n := fun d hdd => hd d (by simp [writes, hdd])
    unfold exec at h
    cases hcut : (firstR y).bind an.cut.get with
    | none =>
      rw [hcut] at h
      simp only at h
      refine wp_seq (ihx _ _ _ _ _ h hdx hs fun q e1 bx1 h1 hp1 hb1 a1 w1 h2 => ?_)
      have hmono : ∀ i ∈ touch an x, i ∈ touch an (.seq x y) := fun i hi => by simp [touch, hi]
      cases q <;> first
        | exact hk _ _ _ h1 (hp1.mono hmono) hb1 _ _ h2
        | exact ihy _ _ _ _ _ h1 hdy h2 fun q e2 bx2 h3 hp2 hb2 a2 w2 h4 => hk q e2 bx2 h3 ((hp1.trans hp2).mono fun i hi => by simp only [touch, List.mem_append] at hi ⊢; exact .inl hi) (hb1.trans hb2) a2 w2 h4
    | some c =>
      rw [hcut] at h
      simp only at h
      obtain ⟨z, h1, h2⟩ := cutM_some h
      refine wp_seq (ihx _ _ _ _ _ h1 hdx (hs.lock c.boxes) fun q e1 bx1 h3 hp1 hb1 a1 w1 h4 => ?_)
      have abn : ∀ q, (K q e1 (unlock bx.length (lockFrom c.boxes 0 bx) bx1)).map .inr = some z → Q q a1 w1 := by
        intro q h3
        obtain ⟨r', h5, h6⟩ := map_some' h3
        subst h6
        rcases h2 with ⟨t, h2, _⟩ | h2
        · cases h2
        · cases h2
          exact hk q e1 _ h5 (hp1.mono fun i hi => by simp [touch, hi]) hb1.unlock a1 w1 (h4.unlock _ _)
      cases q <;> first
        | exact abn _ h3
        | (obtain ⟨t, h5, h6⟩ := map_some' h3
           subst h6
           rcases h2 with ⟨t', h2, h7⟩ | h2
           · cases h2
             obtain ⟨g1, g2⟩ := cut_holds hun (W := touch an x) hs h4 (fun i p hi hp => by
               obtain ⟨_, m2, m3, m4⟩ := maskG_spec _ _ _ _ _ hp
               exact hp1 i p m2 m3 m4) (fun i b hi => kept_of hb1 hi) (by have := hb1.len; rw [lock_length] at this; exact this) h5
             exact ihy _ _ _ _ _ h7 hdy g1 fun q e2 bx2 h8 hp2 hb2 a2 w2 h9 => hk q e2 bx2 h8 (((Pres.mkEnv c (touch an x) e bx.length t).trans hp2).mono fun i hi => by simp only [touch, hcut, List.mem_append] at hi ⊢; rcases hi with (hi | hi) | hi <;> simp [hi]) (g2.trans hb2) a2 w2 h9
           · cases h2)
  | cond o x y ihx ihy =>
    intro R e bx K r h hd a w Q hs hk
    simp only [exec] at h
    split at h
    · rename_i b hb
      have hev : a.eval o = .bool b := by
        obtain ⟨D, H, hs, _⟩ := hs
        have := hs.ev hb; simpa only [Rep] using this
      refine wp_cond_split hev (fun hb => ?_) (fun hb => ?_)
      · subst hb
        exact ihx _ _ _ _ _ h (fun d hdd => hd d (by simp [writes, hdd])) hs fun q e1 bx1 h1 hp1 hb1 a1 w1 h2 => hk q e1 bx1 h1 (hp1.mono fun i hi => by simp [touch, hi]) hb1 a1 w1 h2
      · subst hb
        exact ihy _ _ _ _ _ h (fun d hdd => hd d (by simp [writes, hdd])) hs fun q e1 bx1 h1 hp1 hb1 a1 w1 h2 => hk q e1 bx1 h1 (hp1.mono fun i hi => by simp [touch, hi]) hb1 a1 w1 h2
    · cases h
  | block i c ih =>
    intro R e bx K r h hd a w Q hs hk
    simp only [exec] at h
    refine wp_block (ih _ _ _ _ _ h (fun d hdd => hd d (by simpa [writes] using hdd)) hs fun q e1 bx1 h1 hp1 hb1 a1 w1 h2 => ?_)
    have hp : Pres (touch an (.block i c)) e e1 := hp1.mono fun i hi => by simpa [touch] using hi
    cases q with
    | exit j =>
      simp only at h1
      cases hij : Nat.beq i j with
      | true =>
        rw [hij] at h1
        have := Nat.eq_of_beq_eq_true hij
        subst this
        simp only [Exit.inBlock, if_true]
        exact hk .normal e1 bx1 h1 hp hb1 a1 w1 h2
      | false =>
        rw [hij] at h1
        have hne : ¬ j = i := fun he => by subst he; simp at hij
        simp only [Exit.inBlock, hne, if_false]
        exact hk (.exit j) e1 bx1 h1 hp hb1 a1 w1 h2
    | normal => exact hk .normal e1 bx1 h1 hp hb1 a1 w1 h2
    | goto l => exact hk (.goto l) e1 bx1 h1 hp hb1 a1 w1 h2
    | ret => exact hk .ret e1 bx1 h1 hp hb1 a1 w1 h2
    | panic ch => exact hk (.panic ch) e1 bx1 h1 hp hb1 a1 w1 h2
    | outgrown => exact hk .outgrown e1 bx1 h1 hp hb1 a1 w1 h2
  | loop c ih =>
    intro R e bx K r h hd a w Q hs hk
    unfold exec at h
    cases hcut : (firstR c).bind an.loop.get with
    | none => rw [hcut] at h; cases h
    | some ct =>
      rw [hcut] at h
      simp only at h
      split at h
      · cases h
      · rename_i t0 ht0
        obtain ⟨n, hn⟩ := loopM_some h
        have hdc : ∀ d ∈ writes c, d < N.n := fun d hdd => hd d (by simpa [writes] using hdd)
        have htch : ∀ i ∈ touch an c ++ ct.slots.map (·.1), i ∈ touch an (.loop c) := fun i hi => by simpa [touch, hcut] using hi
        have h00 : Holds un E D0 N (mkEnv ct (touch an c) e bx.length t0) (mkBx ct bx t0) a w ∧ PresB bx (mkBx ct bx t0) := by
          exact cut_holds hun (W := touch an c) hs (hs.lock ct.boxes) (fun i p hi hp => (maskG_spec _ _ _ _ _ hp).2.2.1) (fun i b hi => kept_of (PresB.refl _) hi) (by rw [lock_length]; exact Nat.le_refl _) ht0
        refine wp_loop_ghost (fun (x : Nat × ElL S ct.codes) a w => iter (fun t => exec un tb orc inl an c (ElL S ct.codes ⊕ R) (mkEnv ct (touch an c) e bx.length t) (lockFrom ct.boxes 0 (mkBx ct bx t)) fun x e' bx' => match x with
          | .normal => (castCut un ct e' bx').map .inl
          | x => (K x e' (unlock (mkBx ct bx t).length (lockFrom ct.boxes 0 (mkBx ct bx t)) bx')).map .inr) x.1 x.2 = some r ∧ Holds un E D0 N (mkEnv ct (touch an c) e bx.length x.2) (mkBx ct bx x.2) a w ∧ PresB bx (mkBx ct bx x.2)) (fun x => x.1) (fun x a1 w1 hI => ?_) (n, t0) a w ⟨hn, h00⟩
        obtain ⟨k, t⟩ := x
        obtain ⟨hit, hH, hB⟩ := hI
        cases k with
        | zero => simp [iter] at hit
        | succ k =>
          simp only [iter] at hit
          split at hit
          · rename_i y hy
            refine ih _ _ _ _ _ hy hdc (hH.lock ct.boxes) fun q e1 bx1 h3 hp1 hb1 a2 w2 h4 => ?_
            have abn : ∀ q, (K q e1 (unlock (mkBx ct bx t).length (lockFrom ct.boxes 0 (mkBx ct bx t)) bx1)).map Sum.inr = some (Sum.inl y) → False := fun q h => by
              obtain ⟨_, _, h6⟩ := map_some' h; cases h6
            cases q <;> first
              | exact (abn _ h3).elim
              | (obtain ⟨t', h5, h6⟩ := map_some' h3
                 cases h6
                 have := cut_holds hun (W := touch an c) hs h4 (fun i p hi hp => by
                   obtain ⟨_, m2, m3, m4⟩ := maskG_spec _ _ _ _ _ hp
                   refine hp1 i p m2 ?_ m4
                   unfold mkEnv; rw [zip_out _ _ _ _ hi]; exact hp) (fun i b hi => kept_loop hB hb1 hi) (by have h8 := hb1.len; rw [lock_length] at h8; exact Nat.le_trans hB.len h8) h5
                 exact ⟨(k, _), ⟨hit, this⟩, Nat.lt_succ_self _⟩)
          · rename_i r' hy
            cases hit
            refine ih _ _ _ _ _ hy hdc (hH.lock ct.boxes) fun q e1 bx1 h3 hp1 hb1 a2 w2 h4 => ?_
            have abn : ∀ q, (K q e1 (unlock (mkBx ct bx t).length (lockFrom ct.boxes 0 (mkBx ct bx t)) bx1)).map (Sum.inr : R → ElL S ct.codes ⊕ R) = some (Sum.inr r) → Q q a2 w2 := fun q h => by
              obtain ⟨r2, h5, h6⟩ := map_some' (r := Sum.inr r) h; cases h6
              exact hk q e1 _ h5 (((Pres.mkEnv ct (touch an c) e bx.length t).trans hp1).mono fun i hi => htch i (by simp only [List.mem_append] at hi ⊢; rcases hi with (hi | hi) | hi <;> simp [hi])) (hB.trans hb1.unlock) a2 w2 (h4.unlock _ _)
            cases q <;> first
              | exact abn _ h3
              | (exfalso; obtain ⟨_, _, h6⟩ := map_some' (r := Sum.inr _) h3; cases h6)
          · cases hit
  | _ => intro R e bx K r h; simp [exec] at h
end
end Pe
