/- What is known of callees, as a table. -/
import Derived.Test.YteimbekcnkogoaaDoorPe20
namespace Pe
open Go Go.RowKit
variable {S : Nat → Type} {P : Program} {un : Uni S}

def usEq : (a b : List U) → Option (PLift (a = b))
  | [], [] => some ⟨rfl⟩
  | u :: us, v :: vs => match U.eq? u v, usEq us vs with | some ⟨h⟩, some ⟨k⟩ => some ⟨by rw [h, k]⟩ | _, _ => none
  | _, _ => none
def proj1 : (u : U) → PV S → Option (El S u)
  | .int k, .int k' n => if k = k' then some n else none
  | .bool, .bool b => some b
  | .str, .str s => some s
  | .sl u, .sl v l => match U.eq? v u with | some ⟨h⟩ => some (h ▸ l) | none => none
  | .st n, .st m x => match natEq m n with | some ⟨h⟩ => some (h ▸ x) | none => none
  | _, _ => none
theorem proj1_inj {u : U} {p : PV S} {x : El S u} (h : proj1 u p = some x) : p = inj u x := by
  unfold proj1 at h
  split at h
  · split at h
    · rename_i hk; cases h; subst hk; rfl
    · cases h
  · cases h; rfl
  · cases h; rfl
  · split at h
    · rename_i hk _; subst hk; cases h; rfl
    · cases h
  · split at h
    · rename_i hk _; subst hk; cases h; rfl
    · cases h
  · cases h
def projL : (us : List U) → List (PV S) → Option (ElL S us)
  | [], [] => some ()
  | u :: us, p :: ps => match proj1 u p, projL us ps with
    | some x, some t => some (x, t)
    | _, _ => none
  | _, _ => none
theorem projL_inj : ∀ {us : List U} {ps : List (PV S)} {t : ElL S us}, projL us ps = some t → ps = injL us t
  | [], [], _, _ => rfl
  | u :: us, p :: ps, t, h => by
    unfold projL at h
    split at h
    · rename_i x t' h1 h2
      cases h
      rw [proj1_inj h1, projL_inj h2]; rfl
    · cases h
  | [], _ :: _, _, h => by cases h
  | _ :: _, [], _, h => by cases h

structure Entry (S : Nat → Type) where
  us : List U
  rs : List U
  spec : ElL S us → Option (ElL S rs)
def Entry.run (e : Entry S) (args : List (PV S)) (rs : List U) : Option (ElL S rs) :=
  match usEq e.rs rs with | some ⟨h⟩ => (projL e.us args).bind fun t => h ▸ e.spec t | none => none
/-- What is known of a callee to which boxes are lent: k of them lead the arguments. -/
structure EntryE (S : Nat → Type) where
  k : Nat
  us : List U
  ts : List TypeId
  lc : List U
  rs : List U
  ps : List U
  pan : TypeId
  spec : ElL S lc → ElL S us → Option (Out S lc rs ps)
def leads : Nat → Nat → List (PV S) → Option (List (PV S))
  | 0, _, l => some l
  | n + 1, j, .ptr b 0 :: r => bif Nat.beq b j then leads n (j + 1) r else none
  | _ + 1, _, _ => none
theorem leads_spec : ∀ {n j : Nat} {args l : List (PV S)}, leads n j args = some l → args = (List.range' j n).map (fun i => .ptr i 0) ++ l
  | 0, _, _, _, h => by simp only [leads] at h; cases h; simp
  | n + 1, j, args, l, h => by
    unfold leads at h
    split at h
    · cases ‹n + 1 = 0›
    · rename_i b r heq
      cases heq
      obtain ⟨h1, h2⟩ := bif_some h
      have := Nat.eq_of_beq_eq_true h1
      subst this
      rw [leads_spec h2]; simp [List.range'_succ]
    · cases h
def natsEq : (a b : List Nat) → Bool
  | [], [] => true
  | a :: r, b :: s => Nat.beq a b && natsEq r s
  | _, _ => false
theorem natsEq_eq : ∀ {a b : List Nat}, natsEq a b = true → a = b
  | [], [], _ => rfl
  | a :: r, b :: s, h => by simp only [natsEq, Bool.and_eq_true] at h; rw [Nat.eq_of_beq_eq_true h.1, natsEq_eq h.2]
  | [], _ :: _, h => by cases h
  | _ :: _, [], h => by cases h
def castOut {lc lc' rs rs' ps ps' : List U} (h1 : lc = lc') (h2 : rs = rs') (h3 : ps = ps') (x : Option (Out S lc rs ps)) : Option (Out S lc' rs' ps') := by
  subst h1; subst h2; subst h3; exact x
def EntryE.run (e : EntryE S) (args : List (PV S)) (ts : List TypeId) (lc : List U) (c : ElL S lc) (rs ps : List U) (pan : TypeId) : Option (Out S lc rs ps) :=
  bif natsEq e.ts ts && Nat.beq e.pan pan then
    match usEq e.lc lc, usEq e.rs rs, usEq e.ps ps with
    | some ⟨h1⟩, some ⟨h2⟩, some ⟨h3⟩ => (leads e.k 0 args).bind fun l => (projL e.us l).bind fun t => castOut h1 h2 h3 (e.spec (h1.symm ▸ c) t)
    | _, _, _ => none
  else none
def ptrArgs (k : Nat) : List (PV S) := (List.range' 0 k).map fun i => .ptr i 0
def EntryE.Ok (P : Program) (un : Uni S) (f : Nat) (e : EntryE S) : Prop := ∀ c t r, e.spec c t = some r → SatE P un f (ptrArgs e.k ++ injL e.us t) e.ts e.lc c e.rs e.ps e.pan r

def orcT (T : Tr (Entry S)) (TE : Tr (EntryE S)) : Orc S where
  d f args rs := match T.get f with
    | some e => e.run args rs
    | none => none
  e f args ts lc c rs ps pan := match TE.get f with
    | some e => e.run args ts lc c rs ps pan
    | none => none
def Entry.Ok (P : Program) (un : Uni S) (f : Nat) (e : Entry S) : Prop := ∀ t r, e.spec t = some r → Sat P un f (injL e.us t) e.rs r
theorem orcT_sound {T : Tr (Entry S)} {TE : Tr (EntryE S)} (h : T.All (Entry.Ok P un)) (hE : TE.All (EntryE.Ok P un)) : SoundO P un (orcT T TE) := by
  refine ⟨fun f args rs r hr => ?_, fun f args ts lc c rs ps pan r hr => ?_⟩
  · unfold orcT at hr
    simp only at hr
    split at hr
    · rename_i e he
      have hok := Tr.all_get h f e he
      unfold Entry.run at hr
      split at hr
      · rename_i hrs _
        subst hrs
        simp only [Option.bind_eq_some_iff] at hr
        obtain ⟨t, h1, h2⟩ := hr
        rw [projL_inj h1]
        exact hok t r h2
      · cases hr
    · cases hr
  · unfold orcT at hr
    simp only at hr
    split at hr
    · rename_i e he
      have hok := Tr.all_get hE f e he
      unfold EntryE.run at hr
      obtain ⟨h1, h2⟩ := bif_some hr
      simp only [Bool.and_eq_true] at h1
      have e1 := natsEq_eq h1.1
      have e2 := Nat.eq_of_beq_eq_true h1.2
      split at h2
      · rename_i k1 k2 k3 _ _ _
        subst e1; subst e2; subst k1; subst k2; subst k3
        simp only [Option.bind_eq_some_iff] at h2
        obtain ⟨l, h3, t, h4, h5⟩ := h2
        rw [leads_spec h3, projL_inj h4]
        exact hok c t r h5
      · cases h2
    · cases hr
end Pe
