/- The plain laws of Check, of the program and of the reference. -/
import Derived.Test.YteimbekcnkogoaaDoorLicLaw2
set_option maxRecDepth 100000
namespace LicSpec
mutual
def Small : Ex → Prop
  | .mk _ name _ wth kids => name.length ≤ 2000000 ∧ wth.length ≤ 2000000 ∧ kids.length ≤ 2000000 ∧ SmallL kids
def SmallL : List Ex → Prop
  | [] => True
  | k :: r => Small k ∧ SmallL r
end
theorem SmallL.mem : ∀ {l : List Ex} {k : Ex}, SmallL l → k ∈ l → Small k
  | x :: r, k, h, hk => by
    simp only [SmallL] at h
    rcases List.mem_cons.1 hk with rfl | hk
    · exact h.1
    · exact h.2.mem hk
theorem smallL_of : ∀ {l : List Ex}, (∀ k ∈ l, Small k) → SmallL l
  | [], _ => by simp only [SmallL]
  | x :: r, h => by simp only [SmallL]; exact ⟨h x (by simp), smallL_of fun k hk => h k (by simp [hk])⟩
theorem lev_mem : ∀ {ks : List Ex} {k : Ex}, k ∈ ks → k.lev ≤ levL ks
  | k0 :: r, k, h => by
    simp only [levL]
    rcases List.mem_cons.1 h with rfl | h
    · omega
    · have := lev_mem h; omega
theorem Small.kid {e k : Ex} (h : Small e) (hk : k ∈ e.kids) : Small k := by
  cases e with
  | mk a b c d l => simp only [Small] at h; exact h.2.2.2.mem hk
theorem Small.kids {e : Ex} (h : Small e) : e.kids.length ≤ 2000000 ∧ e.name.length ≤ 2000000 ∧ e.wth.length ≤ 2000000 := by
  cases e with
  | mk a b c d l => simp only [Small] at h; exact ⟨h.2.2.1, h.1, h.2.1⟩
theorem lev_kid {e k : Ex} (hk : k ∈ e.kids) : k.lev < e.lev := by
  cases e with
  | mk a b c d l => simp only [Ex.lev]; have := lev_mem hk; simp only at this; omega
theorem meas_eq (e : Ex) (level : Nat) : meas e level = if 30 < level then (1, level) else measL e.kids level (1, level) := by cases e; simp only [meas]
theorem fault_eq' (e : Ex) : fault e = if one e ≠ 0 then one e else faultL e.kids := by cases e; simp only [fault]
theorem lev_eq (e : Ex) : e.lev = levL e.kids + 1 := by cases e; simp only [Ex.lev]
theorem parts_eq (e : Ex) (most : Nat) : partsR e most = partsL e.kids most 1 := by cases e; simp only [partsR]
end LicSpec
namespace Pe.Tryd
open Go Go.Proofs Pe LicSpec

theorem drop_get' {α : Type} {l : List α} {k : Nat} (h : k < l.length) : l.drop k = l[k] :: l.drop (k + 1) := List.drop_eq_getElem_cons h

theorem L44 : ∀ (n : Nat) (e : Ex) (level : Nat), e.lev ≤ n → level ≤ 31 → Small e → m44 (orcN n) e level = some (((meas e level).1 : Int), ((meas e level).2 : Int), ()) := by
  intro n
  induction n with
  | zero => intro e level h; have := e.lev_pos; omega
  | succ n ih =>
    intro e level hl hlev hs
    unfold m44
    rw [meas_eq]
    by_cases h30 : 30 < level
    · have : decide (30 < (level : Int)) = true := by simp; omega
      rw [this, if_pos h30]; rfl
    · have hd : decide (30 < (level : Int)) = false := by simp; omega
      rw [hd, if_neg h30]
      simp only [br_false]
      have hw : IntKind.i64.wrap ((level : Int) + 1) = ((level + 1 : Nat) : Int) := by rw [wrap_id (by omega) (by omega)]; rfl
      have hkl := hs.kids.1
      rw [show ((1 : Int), (level : Int), (0 : Int), ()) = ((fun (k : Nat) (a : Nat × Nat) => ((a.1 : Int), (a.2 : Int), (k : Int), ())) 0 (1, level)) from rfl]
      rw [loop_st (R := (Int × Int × Unit) ⊕ (Int × Int × Unit)) (fun (k : Nat) (a : Nat × Nat) => ((a.1 : Int), (a.2 : Int), (k : Int), ())) e.kids.length (fun k a => .inl (((measL (e.kids.drop k) level a).1 : Int), ((measL (e.kids.drop k) level a).2 : Int), ())) (fun _ a => a.1 ≤ 201) ?h1 0 (1, level) (Nat.zero_le _) (by simp)]
      case h1 =>
        intro k a hk ha
        simp only
        by_cases hlt : k < e.kids.length
        · left
          have hmem : e.kids[k] ∈ e.kids := List.getElem_mem hlt
          have hlk := lev_kid hmem
          have hih := ih e.kids[k] (level + 1) (by omega) (by omega) (hs.kid hmem)
          obtain ⟨⟨m1, m2, m3, m4⟩, _, _⟩ := meas_law e.kids[k] (level + 1) (by omega) (by omega)
          have hw2 : IntKind.i64.wrap ((a.1 : Int) + ((meas e.kids[k] (level + 1)).1 : Int)) = ((a.1 + (meas e.kids[k] (level + 1)).1 : Nat) : Int) := by rw [wrap_id (by omega) (by omega)]; rfl
          refine ⟨(min (a.1 + (meas e.kids[k] (level + 1)).1) 201, max a.2 (meas e.kids[k] (level + 1)).2), hlt, ?_, by simp; omega, ?_⟩
          · simp only [len_lt, hlt, decide_true, br_true, at?_get hlt, ob_some_eq, Ex.eta, hw, q44, hih, hw2, wrap_succ hlt (by omega)]
            have e1 : (min (((a.1 + (meas e.kids[k] (level + 1)).1 : Nat)) : Int) 201) = ((min (a.1 + (meas e.kids[k] (level + 1)).1) 201 : Nat) : Int) := by omega
            have e2 : (max (a.2 : Int) ((meas e.kids[k] (level + 1)).2 : Int)) = ((max a.2 (meas e.kids[k] (level + 1)).2 : Nat) : Int) := by omega
            rw [e1, e2]
          · rw [drop_get' hlt]; simp only [measL]
        · right
          simp only [len_lt, hlt, decide_false, br_false]
          rw [List.drop_of_length_le (by omega)]; simp only [measL]
      simp only [cutM_inl, List.drop_zero]

theorem G34 {n : Nat} (h : 2 ≤ n) {s : List UInt8} (hs : s.length ≤ 1000000000) : @Eq (Option (Bool × Unit)) ((orcN n).d 34 [.str s] [.bool]) (some (LicSpec.isName s, ())) := by
  obtain ⟨k, rfl⟩ : ∃ k, n = k + 2 := ⟨n - 2, by omega⟩
  rw [q34, L34 k s hs]

theorem bne_nil (s : List UInt8) : (s != []) = decide (s ≠ []) := by cases s <;> rfl

/-- The loop that looks for the first fault. -/
theorem fault_loop {f : Int × Unit → Option ((Int × Unit) ⊕ (Unit ⊕ (Int × Unit)))} {kids : List Ex} (_ : kids.length ≤ 2000000)
    (hf : ∀ (k : Nat) (h : k < kids.length), f ((k : Int), ()) = if fault kids[k] ≠ 0 then some (.inr (.inr (fault kids[k], ()))) else some (.inl (((k + 1 : Nat) : Int), ())))
    (he : f ((kids.length : Int), ()) = some (.inr (.inl ()))) : loopM f ((0 : Int), ()) = some (if faultL kids ≠ 0 then .inr (faultL kids, ()) else .inl ()) := by
  have := loop_ix (f := f) kids.length (fun k => if faultL (kids.drop k) ≠ 0 then (.inr (faultL (kids.drop k), ()) : Unit ⊕ (Int × Unit)) else .inl ()) (fun k hk' => by
    by_cases hlt : k < kids.length
    · rw [hf k hlt]
      rw [drop_get' hlt]
      simp only [faultL]
      by_cases h0 : fault kids[k] ≠ 0
      · right; simp only [if_pos h0]
      · left; simp only [if_neg h0]; exact ⟨hlt, trivial, trivial⟩
    · right
      have : k = kids.length := by omega
      subst this
      rw [he, List.drop_of_length_le (Nat.le_refl _)]; simp [faultL]) 0 (Nat.zero_le _)
  simpa using this

theorem one_cases (e : Ex) : one e = if e.kind < 1 ∨ 3 < e.kind then 7
    else if e.kind ≠ 1 then (if e.name ≠ [] ∨ e.later = true ∨ e.wth ≠ [] ∨ e.kids.length < 2 then 2 else 0)
    else if 0 < e.kids.length then 2
    else if isName e.name = false ∨ (e.wth ≠ [] ∧ isName e.wth = false) then 8 else 0 := by cases e; simp only [one]

theorem L45 : ∀ (n : Nat) (e : Ex), e.lev + 2 ≤ n → Small e → m45 (orcN n) e = some (fault e, ()) := by
  intro n
  induction n with
  | zero => intro e h; omega
  | succ n ih =>
    intro e hl hs
    obtain ⟨k1, k2, k3⟩ := hs.kids
    have hlp := e.lev_pos
    unfold m45
    rw [fault_eq']
    simp only [br_some_eq, ob_some_eq, cond_or]
    by_cases hk : e.kind < 1 ∨ 3 < e.kind
    · have : (decide (e.kind < 1) || decide (3 < e.kind)) = true := by simpa using hk
      have ho : one e = 7 := by rw [one_cases, if_pos hk]
      rw [this, ho]; rfl
    · have hd : (decide (e.kind < 1) || decide (3 < e.kind)) = false := by simpa using hk
      rw [hd]
      simp only [br_false]
      by_cases h1 : e.kind = 1
      · have e1 : (e.kind == 1) = true := by simpa using h1
        rw [e1]
        simp only [br_true]
        by_cases hkids : 0 < e.kids.length
        · have : decide (0 < len e.kids) = true := by unfold len; exact decide_eq_true (by omega)
          have ho : one e = 2 := by rw [one_cases, if_neg hk, if_neg (by simpa using h1), if_pos hkids]
          rw [this, ho]; rfl
        · have : decide (0 < len e.kids) = false := by unfold len; exact decide_eq_false (by omega)
          have hnil : e.kids = [] := List.length_eq_zero_iff.1 (by omega)
          have ho : one e = if isName e.name = false ∨ (e.wth ≠ [] ∧ isName e.wth = false) then 8 else 0 := by rw [one_cases, if_neg hk, if_neg (by simpa using h1), if_neg hkids]
          rw [this, ho, hnil]
          simp only [br_false, G34 (by omega : 2 ≤ n + 1) (Nat.le_trans k2 (by decide)), G34 (by omega : 2 ≤ n + 1) (Nat.le_trans k3 (by decide)), ob_some_eq, bne_nil]
          cases hA : isName e.name with
          | false => simp [br_true, ob_some_eq]
          | true =>
            by_cases hB : e.wth = []
            · simp [hB, br_false, ob_some_eq, faultL]
            · cases hC : isName e.wth <;> simp [hB, br_false, br_true, ob_some_eq, faultL]
      · have e1 : (e.kind == 1) = false := by simpa using h1
        rw [e1]
        simp only [br_false, bne_nil]
        have hc : (decide (e.name ≠ []) || e.later || decide (e.wth ≠ []) || decide (len e.kids < 2)) = decide (e.name ≠ [] ∨ e.later = true ∨ e.wth ≠ [] ∨ e.kids.length < 2) := by
          have h2 : decide (len e.kids < 2) = decide (e.kids.length < 2) := by unfold len; exact decide_eq_decide.2 (by omega)
          rw [h2]; simp only [Bool.decide_or, Bool.or_assoc]
          cases e.later <;> rfl
        rw [hc]
        by_cases hx : e.name ≠ [] ∨ e.later = true ∨ e.wth ≠ [] ∨ e.kids.length < 2
        · have ho : one e = 2 := by rw [one_cases, if_neg hk, if_pos h1, if_pos hx]
          rw [decide_eq_true hx, ho]; rfl
        · have ho : one e = 0 := by rw [one_cases, if_neg hk, if_pos h1, if_neg hx]
          rw [decide_eq_false hx, ho]
          simp only [br_false, ne_eq, not_true_eq_false, if_false]
          rw [fault_loop (kids := e.kids) k1 (fun k hlt => by
            have hmem : e.kids[k] ∈ e.kids := List.getElem_mem hlt
            have hlk := lev_kid hmem
            have hih := ih e.kids[k] (by omega) (hs.kid hmem)
            simp only [len_lt, hlt, decide_true, br_true, at?_get hlt, ob_some_eq, Ex.eta, q45, hih]
            by_cases h0 : fault e.kids[k] = 0
            · simp [h0, wrap_succ hlt (by omega : e.kids.length ≤ 9223372036854775807)]
            · have : (fault e.kids[k] != 0) = true := by simpa using h0
              simp [this, h0]) (by simp [len, br_false])]
          by_cases hz : faultL e.kids = 0
          · simp [hz, cutM]
          · simp [hz, cutM]

theorem L20 (n : Nat) (e : Ex) (hl : e.lev + 3 ≤ n) (hs : Small e) : m20 (orcN n) e = some (chk e, ()) := by
  obtain ⟨k, rfl⟩ : ∃ k, n = k + 1 := ⟨n - 1, by omega⟩
  unfold m20
  simp only [Ex.eta]
  have h44 := L44 k e 1 (by omega) (by omega) hs
  have h45 := L45 k e (by omega) hs
  have q1 : @Eq (Option (Int × Int × Unit)) ((orcN (k + 1)).d 44 [.st 4 e, .int .i64 1] [.int .i64, .int .i64]) (some (((meas e 1).1 : Int), ((meas e 1).2 : Int), ())) := by rw [q44]; exact h44
  rw [q1]
  simp only [ob_some_eq, br_some_eq, cond_or, q45, h45]
  have hsz := (size_law e).1
  unfold chk
  by_cases h : 200 < e.cnt ∨ 30 < e.lev
  · have h2 := hsz.2 h
    have : (decide (30 < ((meas e 1).2 : Int)) || decide (200 < ((meas e 1).1 : Int))) = true := by simp; omega
    rw [this, if_pos h]; rfl
  · have h2 : ¬ (30 < (meas e 1).2 ∨ 200 < (meas e 1).1) := fun hx => h (hsz.1 hx)
    have : (decide (30 < ((meas e 1).2 : Int)) || decide (200 < ((meas e 1).1 : Int))) = false := by simp; omega
    rw [this, if_neg h]; rfl

/-! of the reference -/
theorem L39 (n : Nat) (s : List UInt8) (hs : s.length ≤ 1000000000) : m39 (orcN (n + 1)) s = some (LicSpec.isName s, ()) := by
  have h34 := L34 n s hs
  unfold m39
  unfold m34 at h34
  rw [← h34]
  have e1 : (fun (t8 : Int × Unit) => (br (decide (t8.1 < (len s))) (ob (at? s t8.1) fun c9 => (ob (α := Bool × Unit) ((orcN (n + 1)).d 67 [.int .u8 (UInt8.toNat c9 : Int)] [.bool]) fun (r10 : Bool × Unit) => (br (!r10.1) (some (Sum.inr (Sum.inr (false, ())))) (some (Sum.inl ((IntKind.i64.wrap (t8.1 + 1)), ())))))) (some (Sum.inr (Sum.inl ()))))) = (fun (t8 : Int × Unit) => (br (decide (t8.1 < (len s))) (ob (at? s t8.1) fun c9 => (ob (α := Bool × Unit) ((orcN (n + 1)).d 62 [.int .u8 (UInt8.toNat c9 : Int)] [.bool]) fun (r10 : Bool × Unit) => (br (!r10.1) (some (Sum.inr (Sum.inr (false, ())) : (Int × Unit) ⊕ (Unit ⊕ (Bool × Unit)))) (some (Sum.inl ((IntKind.i64.wrap (t8.1 + 1)), ())))))) (some (Sum.inr (Sum.inl ()))))) := by
    funext t8
    simp only [q67, q62, L67, L62]
  rw [e1]
  have e2 : (ob (α := List UInt8 × Unit) ((orcN (n + 1)).d 66 [.str s] [.str]) fun (r6 : List UInt8 × Unit) => some (r6.1 != [])) = (ob (α := Bool × Unit) ((orcN (n + 1)).d 61 [.str s] [.bool]) fun (r6 : Bool × Unit) => some r6.1) := by
    rw [q66, q61, L66, L61]
    simp only [ob_some_eq]
    rcases wordR_cases s with ⟨h1, h2⟩ | ⟨h1, h2⟩
    · rw [h1, bne_nil, decide_eq_true h2]
    · rw [h1, h2]; rfl
  rw [e2]
theorem G39 {n : Nat} (h : 2 ≤ n) {s : List UInt8} (hs : s.length ≤ 1000000000) : @Eq (Option (Bool × Unit)) ((orcN n).d 39 [.str s] [.bool]) (some (LicSpec.isName s, ())) := by
  obtain ⟨k, rfl⟩ : ∃ k, n = k + 2 := ⟨n - 2, by omega⟩
  rw [q39, L39 k s hs]

theorem L48 : ∀ (n : Nat) (e : Ex) (most : Nat), e.lev ≤ n → most ≤ 1000 → Small e → m48 (orcN n) e most = some ((partsR e most : Int), ()) := by
  intro n
  induction n with
  | zero => intro e most h; have := e.lev_pos; omega
  | succ n ih =>
    intro e most hl hm hs
    unfold m48
    rw [parts_eq]
    have hkl := hs.kids.1
    rw [show ((1 : Int), (0 : Int), ()) = ((fun (k : Nat) (a : Nat) => ((a : Int), (k : Int), ())) 0 1) from rfl]
    rw [loop_st (R := (Int × Unit) ⊕ (Int × Unit)) (fun (k : Nat) (a : Nat) => ((a : Int), (k : Int), ())) e.kids.length (fun k a => .inl ((partsL (e.kids.drop k) most a : Int), ())) (fun _ a => a ≤ most + 1) ?h1 0 1 (Nat.zero_le _) (by omega)]
    case h1 =>
      intro k a hk ha
      simp only
      by_cases hlt : k < e.kids.length
      · have hmem : e.kids[k] ∈ e.kids := List.getElem_mem hlt
        have hlk := lev_kid hmem
        by_cases ham : a ≤ most
        · left
          have hih := ih e.kids[k] (most - a) (by omega) (by omega) (hs.kid hmem)
          have hple := partsR_le e.kids[k] (most - a)
          have hw : IntKind.i64.wrap ((most : Int) - (a : Int)) = ((most - a : Nat) : Int) := by rw [wrap_id (by omega) (by omega)]; omega
          have hw2 : IntKind.i64.wrap ((a : Int) + (partsR e.kids[k] (most - a) : Int)) = ((a + partsR e.kids[k] (most - a) : Nat) : Int) := by rw [wrap_id (by omega) (by omega)]; rfl
          have hd : decide ((a : Int) ≤ (most : Int)) = true := decide_eq_true (by omega)
          refine ⟨a + partsR e.kids[k] (most - a), hlt, ?_, by omega, ?_⟩
          · simp only [len_lt, hlt, decide_true, br_true, ob_some_eq, hd, at?_get hlt, hw, q48, hih, hw2, wrap_succ hlt (by omega : e.kids.length ≤ 9223372036854775807)]
          · rw [drop_get' hlt]; simp only [partsL]; rw [if_pos ham]
        · right
          have hd : decide ((a : Int) ≤ (most : Int)) = false := decide_eq_false (by omega)
          simp only [len_lt, hlt, decide_true, br_true, ob_some_eq, hd, br_false]
          rw [partsL_full _ (by omega)]
      · right
        simp only [len_lt, hlt, decide_false, br_false, ob_some_eq]
        rw [List.drop_of_length_le (by omega)]; simp only [partsL]
    simp only [cutM_inl, List.drop_zero]

theorem levL_le : ∀ {ks : List Ex} {m : Nat}, (∀ k ∈ ks, k.lev ≤ m) → levL ks ≤ m
  | [], m, _ => by simp [levL]
  | k :: r, m, h => by
    simp only [levL]
    have h1 := h k (by simp)
    have h2 := levL_le (ks := r) fun k hk => h k (by simp [hk])
    omega

theorem L49 : ∀ (n : Nat) (e : Ex), e.lev ≤ n → e.lev ≤ 100000000 → Small e → m49 (orcN n) e = some ((e.lev : Int), ()) := by
  intro n
  induction n with
  | zero => intro e h; have := e.lev_pos; omega
  | succ n ih =>
    intro e hl hm hs
    unfold m49
    have hkl := hs.kids.1
    rw [show ((0 : Int), (0 : Int), ()) = ((fun (k : Nat) (a : Nat) => ((a : Int), (k : Int), ())) 0 0) from rfl]
    rw [loop_st (R := (Int × Unit) ⊕ (Int × Unit)) (fun (k : Nat) (a : Nat) => ((a : Int), (k : Int), ())) e.kids.length (fun k a => .inl ((max a (levL (e.kids.drop k)) : Nat), ())) (fun _ a => True) ?h1 0 0 (Nat.zero_le _) trivial]
    case h1 =>
      intro k a hk ha
      simp only
      by_cases hlt : k < e.kids.length
      · have hmem : e.kids[k] ∈ e.kids := List.getElem_mem hlt
        have hlk := lev_kid hmem
        left
        have hih := ih e.kids[k] (by omega) (by omega) (hs.kid hmem)
        have e2 : (max (a : Int) (e.kids[k].lev : Int)) = ((max a e.kids[k].lev : Nat) : Int) := by omega
        refine ⟨max a e.kids[k].lev, hlt, ?_, trivial, ?_⟩
        · simp only [len_lt, hlt, decide_true, br_true, ob_some_eq, at?_get hlt, q49, hih, e2, wrap_succ hlt (by omega : e.kids.length ≤ 9223372036854775807)]
        · rw [drop_get' hlt]; simp only [levL]; rw [Nat.max_assoc]
      · right
        simp only [len_lt, hlt, decide_false, br_false]
        rw [List.drop_of_length_le (by omega)]; simp only [levL]; simp
    simp only [cutM_inl, List.drop_zero]
    have hle := lev_eq e
    have hw : IntKind.i64.wrap (((max 0 (levL e.kids) : Nat) : Int) + 1) = (e.lev : Int) := by rw [wrap_id (by omega) (by omega)]; omega
    rw [hw]

theorem L74 (n : Nat) (hn : 2 ≤ n) (e : Ex) (hs : Small e) : m74 (orcN n) e = some (one e, ()) := by
  obtain ⟨k1, k2, k3⟩ := hs.kids
  unfold m74
  simp only [br_some_eq, ob_some_eq, cond_or]
  by_cases hk : e.kind < 1 ∨ 3 < e.kind
  · have : (decide (e.kind < 1) || decide (3 < e.kind)) = true := by simpa using hk
    have ho : one e = 7 := by rw [one_cases, if_pos hk]
    rw [this, ho]; rfl
  · have hd : (decide (e.kind < 1) || decide (3 < e.kind)) = false := by simpa using hk
    rw [hd]
    simp only [br_false]
    by_cases h1 : e.kind = 1
    · have e1 : (e.kind != 1) = false := by simp [h1]
      rw [e1]
      simp only [br_false]
      by_cases hkids : 0 < e.kids.length
      · have : decide (0 < len e.kids) = true := by unfold len; exact decide_eq_true (by omega)
        have ho : one e = 2 := by rw [one_cases, if_neg hk, if_neg (by simpa using h1), if_pos hkids]
        rw [this, ho]; rfl
      · have : decide (0 < len e.kids) = false := by unfold len; exact decide_eq_false (by omega)
        have ho : one e = if isName e.name = false ∨ (e.wth ≠ [] ∧ isName e.wth = false) then 8 else 0 := by rw [one_cases, if_neg hk, if_neg (by simpa using h1), if_neg hkids]
        rw [this, ho]
        simp only [br_false, G39 hn (Nat.le_trans k2 (by decide) : e.name.length ≤ 1000000000), G39 hn (Nat.le_trans k3 (by decide) : e.wth.length ≤ 1000000000), ob_some_eq, bne_nil]
        cases hA : isName e.name with
        | false => simp [br_true, ob_some_eq]
        | true =>
          by_cases hB : e.wth = []
          · simp [hB, br_false, ob_some_eq]
          · cases hC : isName e.wth <;> simp [hB, br_false, br_true, ob_some_eq]
    · have e1 : (e.kind != 1) = true := by simpa using h1
      rw [e1]
      simp only [br_true, bne_nil]
      have hc : (decide (e.name ≠ []) || e.later || decide (e.wth ≠ []) || decide (len e.kids < 2)) = decide (e.name ≠ [] ∨ e.later = true ∨ e.wth ≠ [] ∨ e.kids.length < 2) := by
        have h2 : decide (len e.kids < 2) = decide (e.kids.length < 2) := by unfold len; exact decide_eq_decide.2 (by omega)
        rw [h2]; simp only [Bool.decide_or, Bool.or_assoc]
        cases e.later <;> rfl
      rw [hc]
      have ho : one e = if e.name ≠ [] ∨ e.later = true ∨ e.wth ≠ [] ∨ e.kids.length < 2 then 2 else 0 := by rw [one_cases, if_neg hk, if_pos h1]
      rw [ho]
      by_cases hx : e.name ≠ [] ∨ e.later = true ∨ e.wth ≠ [] ∨ e.kids.length < 2
      · rw [decide_eq_true hx, if_pos hx]; rfl
      · rw [decide_eq_false hx, if_neg hx]; rfl

theorem L50 : ∀ (n : Nat) (e : Ex), e.lev + 2 ≤ n → Small e → m50 (orcN n) e = some (fault e, ()) := by
  intro n
  induction n with
  | zero => intro e h; omega
  | succ n ih =>
    intro e hl hs
    obtain ⟨k1, k2, k3⟩ := hs.kids
    have hlp := e.lev_pos
    unfold m50
    rw [fault_eq']
    simp only [Ex.eta, q74, L74 n (by omega) e hs, ob_some_eq]
    by_cases ho : one e = 0
    · rw [ho]
      simp only [show ((0 : Int) != 0) = false from rfl, br_false, ne_eq, not_true_eq_false, if_false]
      rw [fault_loop (kids := e.kids) k1 (fun k hlt => by
        have hmem : e.kids[k] ∈ e.kids := List.getElem_mem hlt
        have hlk := lev_kid hmem
        have hih := ih e.kids[k] (by omega) (hs.kid hmem)
        simp only [len_lt, hlt, decide_true, br_true, at?_get hlt, ob_some_eq, q50, hih]
        by_cases h0 : fault e.kids[k] = 0
        · simp [h0, br_false, wrap_succ hlt (by omega : e.kids.length ≤ 9223372036854775807)]
        · have : (fault e.kids[k] != 0) = true := by simpa using h0
          simp [this, br_true, h0]) (by simp [len, br_false])]
      by_cases hz : faultL e.kids = 0
      · simp [hz, cutM]
      · simp [hz, cutM]
    · have h1 : (one e != 0) = true := by simpa using ho
      rw [h1, if_pos ho]; rfl

theorem L24 (n : Nat) (e : Ex) (hl : e.lev + 3 ≤ n) (hb : e.lev ≤ 100000000) (hs : Small e) : m24 (orcN n) e = some (chk e, ()) := by
  obtain ⟨k, rfl⟩ : ∃ k, n = k + 1 := ⟨n - 1, by omega⟩
  unfold m24
  simp only [Ex.eta]
  have q1 : @Eq (Option (Int × Unit)) ((orcN (k + 1)).d 48 [.st 4 e, .int .i64 200] [.int .i64]) (some ((partsR e 200 : Int), ())) := by rw [q48]; exact L48 k e 200 (by omega) (by omega) hs
  rw [q1]
  have hsz := (size_law e).2
  simp only [ob_some_eq, q49, L49 k e (by omega) hb hs, q50, L50 k e (by omega) hs, br_some_eq, cond_or]
  unfold chk
  by_cases h : 200 < e.cnt ∨ 30 < e.lev
  · have : (decide (200 < (partsR e 200 : Int)) || decide (30 < (e.lev : Int))) = true := by simp; omega
    rw [this, if_pos h]; rfl
  · have : (decide (200 < (partsR e 200 : Int)) || decide (30 < (e.lev : Int))) = false := by simp; omega
    rw [this, if_neg h]; rfl
end Pe.Tryd
