/- The third law in plain: Together of both sides. -/
import Derived.Test.YteimbekcnkogoaaDoorLicLaw8
set_option maxRecDepth 100000
namespace LicSpec
/-- The first check that is not zero. -/
def chkL : List Ex → Int
  | [] => 0
  | e :: r => if chk e ≠ 0 then chk e else chkL r
def togE (l : List Ex) : Ex := match l with | [e] => e | l => .mk 2 [] false [] l
def tog (l : List Ex) : Ex × Int × Unit :=
  if l = [] then (.zero, 13, ()) else if chkL l ≠ 0 then (.zero, chkL l, ()) else if chk (togE l) ≠ 0 then (.zero, chk (togE l), ()) else (togE l, 0, ())
theorem chkL_one {l : List Ex} {e : Ex} (h : chkL l = 0) (hm : e ∈ l) : chk e = 0 := by
  induction l with
  | nil => simp at hm
  | cons x r ih =>
    simp only [chkL] at h
    by_cases hx : chk x = 0
    · rw [if_neg (by simp [hx])] at h
      rcases List.mem_cons.1 hm with rfl | hm
      · exact hx
      · exact ih h hm
    · rw [if_pos hx] at h; exact absurd h hx
end LicSpec
namespace Pe.Tryd
open Go Go.Proofs Pe LicSpec

def gg {R : Type} (out : Int → R) (fin : R) (c : Int) : R := if c ≠ 0 then out c else fin
theorem chk_loop {σ : Type} {R : Type} {f : (Int × σ) → Option ((Int × σ) ⊕ R)} {l : List Ex} (_ : l.length ≤ 2000000) (s0 : σ) (out : Int → R) (fin : R)
    (h : ∀ (k : Nat) (hlt : k < l.length), f ((k : Int), s0) = if chk l[k] ≠ 0 then some (.inr (out (chk l[k]))) else some (.inl (((k + 1 : Nat) : Int), s0)))
    (he : f ((l.length : Int), s0) = some (.inr fin)) :
    loopM f ((0 : Int), s0) = some (if chkL l ≠ 0 then out (chkL l) else fin) := by
  have := loop_st (f := f) (A := Unit) (fun k _ => ((k : Int), s0)) l.length (fun k _ => gg out fin (chkL (l.drop k))) (fun _ _ => True) (by
    intro k a hk' _
    by_cases hlt : k < l.length
    · have hd := drop_get' hlt
      have hc : chkL (l.drop k) = if chk l[k] ≠ 0 then chk l[k] else chkL (l.drop (k + 1)) := by rw [hd]; simp only [chkL]
      rw [h k hlt]
      by_cases hx : chk l[k] = 0
      · left
        refine ⟨(), hlt, by rw [if_neg (by simp [hx])], trivial, ?_⟩
        rw [if_neg (by simp [hx])] at hc
        exact congrArg (gg out fin) hc.symm
      · right
        rw [if_pos hx] at hc
        rw [if_pos hx]
        refine congrArg (fun c => some (Sum.inr c)) (Eq.trans ?_ (congrArg (gg out fin) hc.symm))
        unfold gg; rw [if_pos hx]
    · right
      obtain rfl : k = l.length := by omega
      rw [he]
      refine congrArg (fun c => some (Sum.inr c)) (Eq.trans ?_ (congrArg (gg out fin) (show (0 : Int) = chkL (l.drop l.length) by rw [List.drop_of_length_le (Nat.le_refl _)]; rfl)))
      rfl) 0 () (Nat.zero_le _) trivial
  simpa [gg] using this

theorem L27 : ∀ (n : Nat) (e : Ex), e.lev ≤ n → Small e → m27 (orcN n) e = some (e, ()) := by
  intro n
  induction n with
  | zero => intro e h; have := e.lev_pos; omega
  | succ n ih =>
    intro e hl hs
    have hkl := hs.kids.1
    have hlim : lim = 4294967296 := rfl
    unfold m27
    rw [show (([] : List Ex), (0 : Int), ()) = ((fun (k : Nat) (a : List Ex) => (a, (k : Int), ())) 0 []) from rfl]
    rw [loop_st (R := (List Ex × Unit) ⊕ (Ex × Unit)) (fun (k : Nat) (a : List Ex) => (a, (k : Int), ())) e.kids.length (fun k a => .inl (a ++ e.kids.drop k, ())) (fun k a => a.length = k) ?h1 0 [] (Nat.zero_le _) rfl]
    case h1 =>
      intro k a hk ha
      simp only
      by_cases hlt : k < e.kids.length
      · have hmem : e.kids[k] ∈ e.kids := List.getElem_mem hlt
        have hlk := lev_kid hmem
        have hih := ih e.kids[k] (by omega) (hs.kid hmem)
        left
        refine ⟨a ++ [e.kids[k]], hlt, ?_, by simp [ha], ?_⟩
        · simp only [len_lt, hlt, decide_true, br_true, ob_some_eq, at?_get hlt, Ex.eta, q27, hih]
          rw [cat?_ok (by simp; omega)]
          simp only [ob_some_eq, wrap_succ hlt (by omega : e.kids.length ≤ 9223372036854775807)]
        · rw [drop_get' hlt]; simp
      · right
        simp only [len_lt, hlt, decide_false, br_false]
        rw [List.drop_of_length_le (by omega)]; simp
    simp only [cutM_inl, List.drop_zero, List.nil_append, Ex.eta]

theorem tog_small {l : List Ex} (hs : SmallL l) (hl : l.length ≤ 2000000) (m : Nat) (hm : ∀ e ∈ l, e.lev ≤ m) : Small (togE l) ∧ (togE l).lev ≤ m + 1 := by
  have hmk : ∀ l : List Ex, SmallL l → l.length ≤ 2000000 → (∀ e ∈ l, e.lev ≤ m) → Small (.mk 2 [] false [] l) ∧ (Ex.mk 2 [] false [] l).lev ≤ m + 1 := by
    intro l h1 h2 h3
    refine ⟨?_, ?_⟩
    · simp only [Small, List.length_nil]; exact ⟨by omega, by omega, h2, h1⟩
    · simp only [Ex.lev]; have := levL_le' h3; omega
  match l with
  | [] => exact hmk _ hs hl hm
  | [e] => exact ⟨hs.mem (by simp [togE]), by have : e.lev ≤ m := hm e (by simp); show e.lev ≤ m + 1; omega⟩
  | a :: b :: r => exact hmk _ hs hl hm

theorem len_zero (l : List Ex) : (len l == 0) = decide (l = []) := by
  cases l with
  | nil => rfl
  | cons a r => rw [beq_eq_false_iff_ne.2 (by simp [len]; omega)]; simp
theorem len_one (l : List Ex) (h : l.length ≠ 1) : (len l == 1) = false := by
  rw [beq_eq_false_iff_ne]; simp [len]; omega

theorem L12 {n m : Nat} {l : List Ex} (hs : SmallL l) (hl : l.length ≤ 2000000) (hm : ∀ e ∈ l, e.lev ≤ m) (hn : m + 5 ≤ n) : m12 (orcN n) l = some (tog l) := by
  obtain ⟨n, rfl⟩ : ∃ k, n = k + 1 := ⟨n - 1, by omega⟩
  unfold m12 tog
  rw [len_zero]
  by_cases h0 : l = []
  · rw [decide_eq_true h0, if_pos h0]; rfl
  rw [decide_eq_false h0, if_neg h0]
  simp only [br_false]
  rw [chk_loop (σ := Int × List UInt8 × Bool × List UInt8 × List Ex × Unit) (R := (Int × List UInt8 × Bool × List UInt8 × List Ex × Unit) ⊕ (Ex × Int × Unit)) hl (0, [], false, [], [], ()) (fun c => .inr (Ex.mk 0 [] false [] [], c, ())) (.inl (0, [], false, [], [], ())) ?h1 ?h2]
  case h1 =>
    intro k hlt
    have hmem : l[k] ∈ l := List.getElem_mem hlt
    have h20 := L20 n l[k] (by have := hm _ hmem; omega) (hs.mem hmem)
    simp only [len_lt, hlt, decide_true, br_true, ob_some_eq, at?_get hlt, Ex.eta, q20, h20]
    by_cases hx : chk l[k] = 0
    · simp [hx, br_false, wrap_succ hlt (by omega : l.length ≤ 9223372036854775807)]
    · have : (chk l[k] != 0) = true := by simpa using hx
      rw [this, if_pos hx]; rfl
  case h2 => simp [len, br_false]
  by_cases hc : chkL l = 0
  · rw [if_neg (by simp [hc]), if_neg (by simp [hc])]
    simp only [cutM_inl]
    obtain ⟨g1, g2⟩ := tog_small hs hl m hm
    have e1 : br (len l == 1) (ob (at? l 0) fun y5 => (some (Sum.inl ((Ex.kind y5), (Ex.name y5), (Ex.later y5), (Ex.wth y5), (Ex.kids y5), ())) : Option ((Int × List UInt8 × Bool × List UInt8 × List Ex × Unit) ⊕ (Ex × Int × Unit)))) (some (.inl (2, [], false, [], l, ()))) = some (.inl ((togE l).kind, (togE l).name, (togE l).later, (togE l).wth, (togE l).kids, ())) := by
      match l with
      | [] => exact absurd rfl h0
      | [e] => cases e; rfl
      | a :: b :: r => rw [len_one _ (by simp)]; rfl
    rw [e1]
    simp only [cutM_inl, Ex.eta]
    have h20 := L20 n (togE l) (by omega) g1
    have h27 := L27 n (togE l) (by omega) g1
    simp only [q20, h20, ob_some_eq]
    by_cases hx : chk (togE l) = 0
    · simp [hx, br_false, q27, h27, ob_some_eq]
    · have : (chk (togE l) != 0) = true := by simpa using hx
      simp [hx, this, br_true, LicSpec.Ex.zero]
  · rw [if_pos hc, if_pos hc]; simp [cutM_inr, LicSpec.Ex.zero]

theorem L13 {n m : Nat} {l : List Ex} (hs : SmallL l) (hl : l.length ≤ 2000000) (hm : ∀ e ∈ l, e.lev ≤ m) (hn : m + 5 ≤ n) (hb : m ≤ 10000000) : m13 (orcN n) l = some (tog l) := by
  obtain ⟨n, rfl⟩ : ∃ k, n = k + 1 := ⟨n - 1, by omega⟩
  unfold m13 tog
  rw [len_zero]
  by_cases h0 : l = []
  · rw [decide_eq_true h0, if_pos h0]; rfl
  rw [decide_eq_false h0, if_neg h0]
  simp only [br_false]
  rw [chk_loop (σ := Int × List UInt8 × Bool × List UInt8 × List Ex × Unit) (R := (Int × List UInt8 × Bool × List UInt8 × List Ex × Unit) ⊕ (Ex × Int × Unit)) hl (0, [], false, [], [], ()) (fun c => .inr (Ex.mk 0 [] false [] [], c, ())) (.inl (0, [], false, [], [], ())) ?h1 ?h2]
  case h1 =>
    intro k hlt
    have hmem : l[k] ∈ l := List.getElem_mem hlt
    have h24 := L24 n l[k] (by have := hm _ hmem; omega) (by have := hm _ hmem; omega) (hs.mem hmem)
    simp only [len_lt, hlt, decide_true, br_true, ob_some_eq, at?_get hlt, q24, h24]
    by_cases hx : chk l[k] = 0
    · simp [hx, br_false, wrap_succ hlt (by omega : l.length ≤ 9223372036854775807)]
    · have : (chk l[k] != 0) = true := by simpa using hx
      rw [this, if_pos hx]; rfl
  case h2 => simp [len, br_false]
  by_cases hc : chkL l = 0
  · rw [if_neg (by simp [hc]), if_neg (by simp [hc])]
    simp only [cutM_inl]
    obtain ⟨g1, g2⟩ := tog_small hs hl m hm
    match l with
    | [] => exact absurd rfl h0
    | [e] =>
      have : chk (togE [e]) = 0 := chkL_one hc (by simp [togE])
      rw [if_neg (by simp [this])]
      simp only [show (len [e] == 1) = true from rfl, br_true, show at? [e] 0 = some e from rfl, ob_some_eq, Ex.eta]
      rfl
    | a :: b :: r =>
      rw [len_one _ (by simp)]
      have h24 := L24 n (togE (a :: b :: r)) (by omega) (by omega) g1
      have ee : togE (a :: b :: r) = .mk 2 [] false [] (a :: b :: r) := rfl
      rw [ee] at h24 ⊢
      simp only [br_false, q24, h24, ob_some_eq]
      by_cases hx : chk (.mk 2 [] false [] (a :: b :: r)) = 0
      · simp [hx, br_false]
      · have : (chk (.mk 2 [] false [] (a :: b :: r)) != 0) = true := by simpa using hx
        simp [hx, this, br_true, LicSpec.Ex.zero]
  · rw [if_pos hc, if_pos hc]; simp [cutM_inr, LicSpec.Ex.zero]

theorem tog_fit {l : List Ex} (hs : SmallL l) (hl : l.length ≤ 2000000) (m : Nat) (hm : ∀ e ∈ l, e.lev ≤ m) : Small (tog l).1 ∧ (tog l).1.lev ≤ m + 1 := by
  have hz : Small Ex.zero ∧ Ex.zero.lev ≤ m + 1 := by
    refine ⟨zero_fit.1, ?_⟩
    simp [Ex.zero, Ex.lev, levL]
  unfold tog
  split
  · exact hz
  · split
    · exact hz
    · split
      · exact hz
      · exact tog_small hs hl m hm

/-- THE THIRD LAW. -/
theorem L5 {m : Nat} {l : List Ex} (hs : SmallL l) (hl : l.length ≤ 2000000) (hm : ∀ e ∈ l, e.lev ≤ m) (hb : m ≤ 10000000) : m5 (orcN (m + 300)) l = some (true, ()) := by
  unfold m5
  have h12 : @Eq (Option (LicSpec.Ex × Int × Unit)) ((orcN (m + 300)).d 12 [.sl (.st 4) l] [(.st 4), (.int .i64)]) (some (tog l)) := by
    rw [show m + 300 = (m + 299) + 1 from rfl, q12]; exact L12 hs hl hm (by omega)
  have h13 : @Eq (Option (LicSpec.Ex × Int × Unit)) ((orcN (m + 300)).d 13 [.sl (.st 4) l] [(.st 4), (.int .i64)]) (some (tog l)) := by
    rw [show m + 300 = (m + 299) + 1 from rfl, q13]; exact L13 hs hl hm (by omega) hb
  obtain ⟨g1, g2⟩ := tog_fit hs hl m hm
  rw [h12, h13]
  simp only [ob_some_eq, Ex.eta]
  rw [G9 (by omega) g1]
  simp only [ob_some_eq, br_true, beq_self_eq_true]
  rw [G10 (by omega)]
  rfl
end Pe.Tryd
