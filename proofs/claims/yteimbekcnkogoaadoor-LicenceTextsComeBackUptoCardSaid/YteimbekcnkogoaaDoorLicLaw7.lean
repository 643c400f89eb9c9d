/- Read of both sides. -/
import Derived.Test.YteimbekcnkogoaaDoorLicLaw6
import Derived.Test.YteimbekcnkogoaaDoorLicLaw4
set_option maxRecDepth 100000
namespace LicSpec

def Fit (m : Nat) (e : Ex) : Prop := Small e ∧ e.lev ≤ m

theorem isName_len {t : Str} (h : isName t = true) : t.length ≤ 60 := by
  unfold isName at h
  simp only [Bool.and_eq_true, Bool.not_eq_true', Bool.or_eq_false_iff, decide_eq_false_iff_not] at h
  omega
theorem rName_len (S : Str) (q : RS) : (rName S q).1.length ≤ 60 := by
  unfold rName
  simp only
  split
  · rename_i h; exact isName_len h
  · simp
theorem fit_leaf {x y : Str} {l : Bool} {m : Nat} (h1 : x.length ≤ 60) (h2 : y.length ≤ 60) (hm : 1 ≤ m) : Fit m (.mk 1 x l y []) := by
  refine ⟨?_, ?_⟩
  · simp only [Small, SmallL, List.length_nil]; exact ⟨by omega, by omega, by omega, trivial⟩
  · simp only [Ex.lev, levL]; omega
theorem fit_tail {S x : Str} {q : RS} {m : Nat} (h : x.length ≤ 60) (hm : 1 ≤ m) : Fit m (rTail S x q).1 := by
  unfold rTail
  have rest : ∀ (later : Bool) (s1 : RS), Fit m (if s1.no = 0 then
    let (t, s2) := rTakeWord S sWITH s1
    if t then
      let (x', s3) := rName S s2
      (.mk 1 x later x' [], s3)
    else (.mk 1 x later [] [], s2)
  else ((.mk 1 x later [] [], s1) : Ex × RS)).1 := by
    intro later s1
    split
    · simp only
      split
      · exact fit_leaf h (rName_len _ _) hm
      · exact fit_leaf h (by simp) hm
    · exact fit_leaf h (by simp) hm
  simp only
  split
  · exact rest _ _
  · exact rest _ _
theorem loop_fit {S w : Str} {one' : RS → Ex × RS} {m : Nat} (h : ∀ q, Fit m (one' q).1) : ∀ f acc q, (∀ e ∈ acc, Fit m e) → (∀ e ∈ (rListLoop S w one' f acc q).1, Fit m e) ∧ (rListLoop S w one' f acc q).1.length ≤ acc.length + f := by
  intro f
  induction f with
  | zero => intro acc q ha; exact ⟨ha, by simp [rListLoop]⟩
  | succ f ih =>
    intro acc q ha
    unfold rListLoop
    split
    · exact ⟨ha, by simp⟩
    · split
      · exact ⟨ha, by simp⟩
      · rename_i s1 _
        have := h s1
        cases ho : one' s1 with
        | mk e s2 =>
          rw [ho] at this
          obtain ⟨i1, i2⟩ := ih (acc ++ [e]) s2 (fun e' he' => by
            rcases List.mem_append.1 he' with h1 | h1
            · exact ha _ h1
            · rcases List.mem_singleton.1 h1 with rfl; exact this)
          exact ⟨i1, by simp only [List.length_append, List.length_singleton] at i2; simp only; omega⟩
theorem levL_le' {ks : List Ex} {m : Nat} (h : ∀ k ∈ ks, k.lev ≤ m) : levL ks ≤ m := by
  induction ks with
  | nil => simp [levL]
  | cons k r ih =>
    simp only [levL]
    have := h k (by simp)
    have := ih fun k hk => h k (by simp [hk])
    omega
theorem list_fit {S w : Str} {kind : Int} {one' : RS → Ex × RS} {m : Nat} (hS : S.length ≤ 1000000) (h : ∀ q, Fit m (one' q).1) (q : RS) : Fit (m + 1) (rList S kind w one' q).1 := by
  unfold rList
  have h0 := h q
  cases ho : one' q with
  | mk e0 s0 =>
    rw [ho] at h0
    simp only
    obtain ⟨i1, i2⟩ := loop_fit (S := S) (w := w) h (S.length + 1) [e0] s0 (fun e he => by rcases List.mem_singleton.1 he with rfl; exact h0)
    have hmk : ∀ l : List Ex, (∀ e ∈ l, Fit m e) → l.length ≤ S.length + 2 → Fit (m + 1) (.mk kind [] false [] l) := by
      intro l h1 h2
      refine ⟨?_, ?_⟩
      · simp only [Small, List.length_nil]
        exact ⟨by omega, by omega, by omega, smallL_of fun k hk => (h1 k hk).1⟩
      · simp only [Ex.lev]
        have := levL_le' fun k hk => (h1 k hk).2
        omega
    cases hl : rListLoop S w one' (S.length + 1) [e0] s0 with
    | mk l s1 =>
      rw [hl] at i1 i2
      simp only [List.length_singleton] at i1 i2
      match l with
      | [e] => exact ⟨(i1 e (by simp)).1, by have : e.lev ≤ m := (i1 e (by simp)).2; show e.lev ≤ m + 1; omega⟩
      | [] => exact hmk _ i1 (by omega)
      | a :: b :: r => exact hmk _ i1 (by omega)
theorem single_fit {S : Str} (hS : S.length ≤ 1000000) : ∀ d q, Fit (2 * d + 1) (rSingle S d q).1 := by
  intro d
  induction d with
  | zero =>
    intro q
    unfold rSingle
    simp only
    split
    · refine ⟨?_, ?_⟩
      · simp [Ex.zero, Small, SmallL]
      · simp [Ex.zero, Ex.lev, levL]
    · exact fit_tail (rName_len _ _) (by omega)
  | succ d ih =>
    intro q
    unfold rSingle
    simp only
    split
    · have hL := list_fit (kind := 3) (w := sOR) hS (list_fit (kind := 2) (w := sAND) hS ih) (rTakeByte S 40 (rBlanks S q)).2
      split
      · split
        · exact hL
        · exact hL
      · exact hL
    · exact fit_tail (rName_len _ _) (by omega)
theorem parse_fit {S : Str} (hS : S.length ≤ 1000000) : Fit 63 (rParse S).1 := by
  unfold rParse
  have hL := list_fit (kind := 3) (w := sOR) hS (list_fit (kind := 2) (w := sAND) hS (single_fit hS 30)) ⟨0, 0, 0⟩
  simp only
  split
  · exact hL
  · exact hL

/-- What Read answers. -/
def licR (S : Str) : Ex × Int × Int × Unit :=
  if 4000 < S.length then (.zero, 0, 3, ()) else
  match pParse S with
  | .err a c => (.zero, (a : Int), c, ())
  | .ok e _ => if chk e ≠ 0 then (.zero, 0, chk e, ()) else (e, 0, 0, ())
theorem zero_fit : Fit 63 .zero := by
  refine ⟨?_, ?_⟩
  · simp [Ex.zero, Small, SmallL]
  · simp [Ex.zero, Ex.lev, levL]
theorem pParse_fit {S : Str} {e : Ex} {s : PS} (hS : S.length ≤ 1000000) (h : pParse S = .ok e s) : Fit 63 e := by
  have h1 := parse_eq S
  rw [h] at h1
  obtain ⟨q, h2, _⟩ := h1
  have := parse_fit hS
  rw [h2] at this
  exact this
theorem licR_fit (S : Str) : Fit 63 (licR S).1 := by
  unfold licR
  split
  · exact zero_fit
  · rename_i h
    cases hp : pParse S with
    | err a c => exact zero_fit
    | ok e s =>
      simp only
      split
      · exact zero_fit
      · exact pParse_fit (by omega) hp
end LicSpec

namespace Pe.Tryd
open Go Go.Proofs Pe LicSpec

theorem dec_len (S : List UInt8) : decide (4000 < len S) = decide (4000 < S.length) := by
  unfold len; congr 1; exact propext (by omega)

theorem L8 {n : Nat} (hn : 110 ≤ n) (S : List UInt8) : m8 (orcN n) S = some (licR S) := by
  unfold m8 licR
  rw [dec_len]
  by_cases h4 : 4000 < S.length
  · rw [decide_eq_true h4, if_pos h4]; rfl
  rw [decide_eq_false h4, if_neg h4]
  simp only [br_false]
  have hS : S.length ≤ 1000000 := by omega
  obtain ⟨m, rfl⟩ : ∃ m, n = m + 2 := ⟨n - 2, by omega⟩
  obtain ⟨gs, asks⟩ := single_q hS 30 0 (by omega) m (by omega)
  have hw47 := fun (k : Nat) (hk : 3 ≤ k) (w : List UInt8) (q : RS) (hq : q.at_ ≤ S.length) => G47 (S := S) (q := q) hk w hS hq
  obtain ⟨gA, mA⟩ := list_law (orc := orcN m) (kind := 2) (deep := ((0 : Nat) : Int)) (w := sAND) hS wAND_ne gs asks (.inr ⟨rfl, rfl, rfl, rfl⟩) (hw47 m (by omega) sAND)
  have aA : QAsks (orcN (m + 1)) 21 [.int .i64 2, .int .i64 ((0 : Nat) : Int)] S (rList S 2 sAND (rSingle S 30)) := fun q hq hno => by rw [q21]; exact mA q hq hno
  obtain ⟨gO, mO⟩ := list_law (orc := orcN (m + 1)) (kind := 3) (deep := ((0 : Nat) : Int)) (w := sOR) hS wOR_ne gA aA (.inl ⟨rfl, rfl, rfl, rfl⟩) (hw47 (m + 1) (by omega) sOR)
  have hpe := parse_eq S
  have hfit := parse_fit (S := S) hS
  have h0 := mO ⟨0, 0, 0⟩ (Nat.zero_le _) rfl
  obtain ⟨g1, _⟩ := gO ⟨0, 0, 0⟩ (Nat.zero_le _) rfl
  have e0 : (({ s := S, at_ := 0, pos := 0, no := 0 } : QT)) = toQ S ⟨0, 0, 0⟩ := rfl
  unfold rParse at hpe hfit
  generalize hr : rList S 3 sOR (rList S 2 sAND (rSingle S 30)) ⟨0, 0, 0⟩ = r at hpe hfit h0 g1
  obtain ⟨e, q⟩ := r
  simp only at hpe hfit h0 g1
  rw [e0, q21]
  rw [show (((0 : Nat) : Int)) = 0 from rfl] at h0
  rw [h0]
  simp only [oc_inl, G22 (by omega : 1 ≤ m + 2) hS g1, Ex.eta]
  obtain ⟨hb, _⟩ := blanks_le (S := S) g1
  generalize hs1 : rBlanks S q = s1 at hpe hfit hb
  -- the fault behind the end
  have ec : ob (br ((toQ S s1).no == 0) (some (decide ((toQ S s1).at_ < len S))) (some false)) (fun b => (some b : Option Bool)) = some (decide (s1.no = 0 ∧ s1.at_ < S.length)) := by
    simp only [toQ, len_lt]
    by_cases h1 : s1.no = 0
    · have : (s1.no == 0) = true := by simpa using h1
      rw [this]; simp [h1, br_true, ob_some_eq]
    · have : (s1.no == 0) = false := by simpa using h1
      rw [this]; simp [h1, br_false, ob_some_eq]
  have ec' : br ((toQ S s1).no == 0) (some (decide ((toQ S s1).at_ < len S))) (some false) = some (decide (s1.no = 0 ∧ s1.at_ < S.length)) := by
    rw [← ec]; cases br ((toQ S s1).no == 0) (some (decide ((toQ S s1).at_ < len S))) (some false) <;> rfl
  rw [ec']
  simp only [ob_some_eq]
  have fin : ∀ (q2 : RS), (match pParse S with
      | .ok e' _ => ∃ q', (e, q2) = (e', q') ∧ q'.no = 0
      | .err a c => c ≠ 0 ∧ ∃ e' q', (e, q2) = (e', q') ∧ q'.no = c ∧ q'.pos = a) → Fit 63 e →
      (br (q2.no != 0) (some (LicSpec.Ex.mk 0 [] false [] [], (q2.pos : Int), q2.no, ())) (ob (α := Int × Unit) ((orcN (m + 2)).d 24 [.st 4 e] [(.int .i64)]) fun (r7 : Int × Unit) => (br (r7.1 != 0) (some ((LicSpec.Ex.mk 0 [] false [] []), 0, r7.1, ())) (some (e, 0, 0, ()))))) =
      some (match pParse S with
        | .err a c => (.zero, (a : Int), c, ())
        | .ok e _ => if chk e ≠ 0 then (.zero, 0, chk e, ()) else (e, 0, 0, ())) := by
    intro q2 h2 hf
    cases hp : pParse S with
    | err a c =>
      rw [hp] at h2
      obtain ⟨hc, e', q', he, hno, hpos⟩ := h2
      cases he
      have : (q2.no != 0) = true := by simp [hno, hc]
      rw [this]; simp only [br_true, hno, hpos]; rfl
    | ok e' s' =>
      rw [hp] at h2
      obtain ⟨q', he, hno⟩ := h2
      cases he
      have : (q2.no != 0) = false := by simp [hno]
      rw [this]
      have h24 := L24 (m + 1) e (by have := hf.2; omega) (by have := hf.2; omega) hf.1
      simp only [br_false, q24, h24, ob_some_eq]
      by_cases hc : chk e = 0
      · simp [hc, br_false]
      · have : (chk e != 0) = true := by simpa using hc
        simp [hc, this, br_true, LicSpec.Ex.zero]
  by_cases hx : s1.no = 0 ∧ s1.at_ < S.length
  · rw [if_pos hx] at hpe hfit
    rw [decide_eq_true hx]
    have h23 := G23 (S := S) (q := s1) (by omega : 1 ≤ m + 2) s1.at_ 6
    simp only [br_true, show (toQ S s1).at_ = (s1.at_ : Int) from rfl, h23, oc_inl, cutM_inl, same_self]
    exact fin _ hpe hfit
  · rw [if_neg hx] at hpe hfit
    rw [decide_eq_false hx]
    simp only [br_false, cutM_inl, same_self]
    exact fin _ hpe hfit

theorem L19 {n : Nat} (hn : 110 ≤ n) {S : List UInt8} (hS : S.length ≤ 1000000) :
    mread (orcN n) S = some (match pParse S with | .err a c => .inr ((a : Int), c, ()) | .ok e _ => .inl (e, ⟨0, 0⟩, ())) := by
  obtain ⟨m, rfl⟩ : ∃ m, n = m + 6 := ⟨n - 6, by omega⟩
  obtain ⟨gs, hA⟩ := single_law hS 30 0 (by omega) (m + 4) (by omega)
  obtain ⟨gO, aO⟩ := or_step hS gs hA
  unfold mread pParse
  have h41 := G41 (n := m + 6) (by omega) (s := pStart) hS (Nat.zero_le _)
  rw [show (toR S pStart) = (Gt.Licence_reader.mk S 0 (Gt.Licence_token.mk 0 [] 0 false) 0) from rfl] at h41
  rw [h41]
  cases h1 : pNext S pStart with
  | err a c => simp only [outR, oc_inr]
  | ok u s =>
    obtain ⟨p1, _, _, p4⟩ := pNext_ok h1 (Nat.zero_le _)
    simp only [outR, oc_inl]
    rw [aO s p1 p4]
    unfold pEither
    cases h2 : pRow S 3 sOR (pRow S 2 sAND (pSingle S 30)) s with
    | err a c => simp only [outR, oc_inr]
    | ok e s' =>
      simp only [outR, oc_inl, toR, Ex.eta]
      by_cases hk : s'.kind = 0
      · have : (s'.kind != 0) = false := by simp [hk]
        rw [this]; simp [br_false, cutM_inl, hk]
      · have : (s'.kind != 0) = true := by simp [hk]
        rw [this]
        simp [br_true, G43 (by omega : 1 ≤ m + 6), oc_inr, cutM_inr, hk]

theorem L7 {n : Nat} (hn : 120 ≤ n) (S : List UInt8) : m7 (orcN n) S = some (licR S) := by
  unfold m7 licR
  rw [dec_len]
  by_cases h4 : 4000 < S.length
  · rw [decide_eq_true h4, if_pos h4]; rfl
  rw [decide_eq_false h4, if_neg h4]
  simp only [br_false]
  have hS : S.length ≤ 1000000 := by omega
  obtain ⟨m, rfl⟩ : ∃ m, n = m + 1 := ⟨n - 1, by omega⟩
  rw [q19, L19 (by omega) hS]
  have hpe := parse_eq S
  cases hp : pParse S with
  | err a c =>
    rw [hp] at hpe
    have : (c != 0) = true := by simpa using hpe.1
    simp only [ob_some_eq, same_self, this, br_true]; rfl
  | ok e s =>
    have hf := pParse_fit hS hp
    have h20 := L20 m e (by have := hf.2; omega) hf.1
    refine Eq.trans (b := ob (α := Int × Unit) ((orcN (m + 1)).d 20 [.st 4 (Ex.mk e.kind e.name e.later e.wth e.kids)] [.int .i64]) fun (r2 : Int × Unit) => (br (r2.1 != 0) (some ((LicSpec.Ex.mk 0 [] false [] []), 0, r2.1, ())) (some ((LicSpec.Ex.mk e.kind e.name e.later e.wth e.kids), 0, 0, ())))) rfl ?_
    simp only [ob_some_eq, Ex.eta, q20, h20]
    by_cases hc : chk e = 0
    · simp [hc, br_false]
    · have : (chk e != 0) = true := by simpa using hc
      simp [hc, this, br_true, LicSpec.Ex.zero]

theorem G7 {n : Nat} (hn : 121 ≤ n) (S : List UInt8) : @Eq (Option (LicSpec.Ex × Int × Int × Unit)) ((orcN n).d 7 [.str S] [(.st 4), (.int .i64), (.int .i64)]) (some (licR S)) := by
  obtain ⟨m, rfl⟩ : ∃ m, n = m + 1 := ⟨n - 1, by omega⟩
  rw [q7]; exact L7 (by omega) S
theorem G8 {n : Nat} (hn : 121 ≤ n) (S : List UInt8) : @Eq (Option (LicSpec.Ex × Int × Int × Unit)) ((orcN n).d 8 [.str S] [(.st 4), (.int .i64), (.int .i64)]) (some (licR S)) := by
  obtain ⟨m, rfl⟩ : ∃ m, n = m + 1 := ⟨n - 1, by omega⟩
  rw [q8]; exact L8 (by omega) S

/-! the same expression -/
theorem L9 : ∀ (n : Nat) (e : Ex), e.lev ≤ n → Small e → m9 (orcN n) e e = some (true, ()) := by
  intro n
  induction n with
  | zero => intro e h; have := e.lev_pos; omega
  | succ n ih =>
    intro e hl hs
    unfold m9
    have hkl := hs.kids.1
    simp only [beq_self_eq_true, br_true, ob_some_eq, bne_self_eq_false, br_false]
    rw [show ((0 : Int), ()) = (((0 : Nat) : Int), ()) from rfl]
    rw [loop_ix (R := Unit ⊕ (Bool × Unit)) e.kids.length (fun _ => .inl ()) ?h1 0 (Nat.zero_le _)]
    case h1 =>
      intro k hk
      by_cases hlt : k < e.kids.length
      · have hmem : e.kids[k] ∈ e.kids := List.getElem_mem hlt
        have hlk := lev_kid hmem
        have hih := ih e.kids[k] (by omega) (hs.kid hmem)
        left
        refine ⟨hlt, ?_, rfl⟩
        simp only [len_lt, hlt, decide_true, br_true, ob_some_eq, at?_get hlt, Ex.eta, q9, hih, Bool.not_true, br_false, wrap_succ hlt (by omega : e.kids.length ≤ 9223372036854775807)]
      · right
        simp only [len_lt, hlt, decide_false, br_false]
    simp only [cutM_inl, ob_some_eq]
theorem G9 {n : Nat} {e : Ex} (h : e.lev < n) (hs : Small e) : @Eq (Option (Bool × Unit)) ((orcN n).d 9 [.st 4 e, .st 4 e] [.bool]) (some (true, ())) := by
  obtain ⟨m, rfl⟩ : ∃ m, n = m + 1 := ⟨n - 1, by omega⟩
  rw [q9]; exact L9 m e (by omega) hs

end Pe.Tryd
