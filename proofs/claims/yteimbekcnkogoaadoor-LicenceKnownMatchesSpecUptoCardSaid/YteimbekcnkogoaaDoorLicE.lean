/- PROVED HERE: a part of the seat's proofs; see the text that holds the claim's theorem. -/
import Derived.Sort.Walk0
import Derived.Test.YteimbekcnkogoaaDoorLicC
section
/- The third law in plain: Together of both sides. -/
set_option maxRecDepth 100000
namespace LicSpec
/-- The first check that is not zero. -/
def chkL : List Ex → Int
  | [] => 0
  | e :: r => if chk e ≠ 0 then chk e else chkL r
def togE (l : List Ex) : Ex := match l with | [e] => e | l => .mk 2 [] false [] l
def tog (l : List Ex) : Ex × Int × Unit :=
  if l = [] then (.zero, 13, ()) else if chkL l ≠ 0 then (.zero, chkL l, ()) else if chk (togE l) ≠ 0 then (.zero, chk (togE l), ()) else (togE l, 0, ())
theorem chkL_one {l : List Ex} {e : Ex} (h : chkL l = 0) (hm : e ∈ l) : chk e = 0 := by
  induction l with
  | nil => simp at hm
  | cons x r ih =>
    simp only [chkL] at h
    by_cases hx : chk x = 0
    · rw [if_neg (by simp [hx])] at h
      rcases List.mem_cons.1 hm with rfl | hm
      · exact hx
      · exact ih h hm
    · rw [if_pos hx] at h; exact absurd h hx
end LicSpec
namespace Pe.Tryd
open Go Go.Proofs Pe LicSpec

def gg {R : Type} (out : Int → R) (fin : R) (c : Int) : R := if c ≠ 0 then out c else fin
theorem chk_loop {σ : Type} {R : Type} {f : (Int × σ) → Option ((Int × σ) ⊕ R)} {l : List Ex} (_ : l.length ≤ 2000000) (s0 : σ) (out : Int → R) (fin : R)
    (h : ∀ (k : Nat) (hlt : k < l.length), f ((k : Int), s0) = if chk l[k] ≠ 0 then some (.inr (out (chk l[k]))) else some (.inl (((k + 1 : Nat) : Int), s0)))
    (he : f ((l.length : Int), s0) = some (.inr fin)) :
    loopM f ((0 : Int), s0) = some (if chkL l ≠ 0 then out (chkL l) else fin) := by
  have := loop_st (f := f) (A := Unit) (fun k _ => ((k : Int), s0)) l.length (fun k _ => gg out fin (chkL (l.drop k))) (fun _ _ => True) (by
    intro k a hk' _
    by_cases hlt : k < l.length
    · have hd := drop_get' hlt
      have hc : chkL (l.drop k) = if chk l[k] ≠ 0 then chk l[k] else chkL (l.drop (k + 1)) := by rw [hd]; simp only [chkL]
      rw [h k hlt]
      by_cases hx : chk l[k] = 0
      · left
        refine ⟨(), hlt, by rw [if_neg (by simp [hx])], trivial, ?_⟩
        rw [if_neg (by simp [hx])] at hc
        exact congrArg (gg out fin) hc.symm
      · right
        rw [if_pos hx] at hc
        rw [if_pos hx]
        refine congrArg (fun c => some (Sum.inr c)) (Eq.trans ?_ (congrArg (gg out fin) hc.symm))
        unfold gg; rw [if_pos hx]
    · right
      obtain rfl : k = l.length := by omega
      rw [he]
      refine congrArg (fun c => some (Sum.inr c)) (Eq.trans ?_ (congrArg (gg out fin) (show (0 : Int) = chkL (l.drop l.length) by rw [List.drop_of_length_le (Nat.le_refl _)]; rfl)))
      rfl) 0 () (Nat.zero_le _) trivial
  simpa [gg] using this

theorem L27 : ∀ (n : Nat) (e : Ex), e.lev ≤ n → Small e → m27 (orcN n) e = some (e, ()) := by
  intro n
  induction n with
  | zero => intro e h; have := e.lev_pos; omega
  | succ n ih =>
    intro e hl hs
    have hkl := hs.kids.1
    have hlim : lim = 4294967296 := rfl
    unfold m27
    rw [show (([] : List Ex), (0 : Int), ()) = ((fun (k : Nat) (a : List Ex) => (a, (k : Int), ())) 0 []) from rfl]
    rw [loop_st (R := (List Ex × Unit) ⊕ (Ex × Unit)) (fun (k : Nat) (a : List Ex) => (a, (k : Int), ())) e.kids.length (fun k a => .inl (a ++ e.kids.drop k, ())) (fun k a => a.length = k) ?h1 0 [] (Nat.zero_le _) rfl]
    case h1 =>
      intro k a hk ha
      simp only
      by_cases hlt : k < e.kids.length
      · have hmem : e.kids[k] ∈ e.kids := List.getElem_mem hlt
        have hlk := lev_kid hmem
        have hih := ih e.kids[k] (by omega) (hs.kid hmem)
        left
        refine ⟨a ++ [e.kids[k]], hlt, ?_, by simp [ha], ?_⟩
        · simp only [len_lt, hlt, decide_true, br_true, ob_some_eq, at?_get hlt, Ex.eta, q27, hih]
          rw [cat?_ok (by simp; omega)]
          simp only [ob_some_eq, wrap_succ hlt (by omega : e.kids.length ≤ 9223372036854775807)]
        · rw [drop_get' hlt]; simp
      · right
        simp only [len_lt, hlt, decide_false, br_false]
        rw [List.drop_of_length_le (by omega)]; simp
    simp only [cutM_inl, List.drop_zero, List.nil_append, Ex.eta]

theorem tog_small {l : List Ex} (hs : SmallL l) (hl : l.length ≤ 2000000) (m : Nat) (hm : ∀ e ∈ l, e.lev ≤ m) : Small (togE l) ∧ (togE l).lev ≤ m + 1 := by
  have hmk : ∀ l : List Ex, SmallL l → l.length ≤ 2000000 → (∀ e ∈ l, e.lev ≤ m) → Small (.mk 2 [] false [] l) ∧ (Ex.mk 2 [] false [] l).lev ≤ m + 1 := by
    intro l h1 h2 h3
    refine ⟨?_, ?_⟩
    · simp only [Small, List.length_nil]; exact ⟨by omega, by omega, h2, h1⟩
    · simp only [Ex.lev]; have := levL_le' h3; omega
  match l with
  | [] => exact hmk _ hs hl hm
  | [e] => exact ⟨hs.mem (by simp [togE]), by have : e.lev ≤ m := hm e (by simp); show e.lev ≤ m + 1; omega⟩
  | a :: b :: r => exact hmk _ hs hl hm

theorem len_zero (l : List Ex) : (len l == 0) = decide (l = []) := by
  cases l with
  | nil => rfl
  | cons a r => rw [beq_eq_false_iff_ne.2 (by simp [len]; omega)]; simp
theorem len_one (l : List Ex) (h : l.length ≠ 1) : (len l == 1) = false := by
  rw [beq_eq_false_iff_ne]; simp [len]; omega

theorem L12 {n m : Nat} {l : List Ex} (hs : SmallL l) (hl : l.length ≤ 2000000) (hm : ∀ e ∈ l, e.lev ≤ m) (hn : m + 5 ≤ n) : m12 (orcN n) l = some (tog l) := by
  obtain ⟨n, rfl⟩ : ∃ k, n = k + 1 := ⟨n - 1, by omega⟩
  unfold m12 tog
  rw [len_zero]
  by_cases h0 : l = []
  · rw [decide_eq_true h0, if_pos h0]; rfl
  rw [decide_eq_false h0, if_neg h0]
  simp only [br_false]
  rw [chk_loop (σ := Int × List UInt8 × Bool × List UInt8 × List Ex × Unit) (R := (Int × List UInt8 × Bool × List UInt8 × List Ex × Unit) ⊕ (Ex × Int × Unit)) hl (0, [], false, [], [], ()) (fun c => .inr (Ex.mk 0 [] false [] [], c, ())) (.inl (0, [], false, [], [], ())) ?h1 ?h2]
  case h1 =>
    intro k hlt
    have hmem : l[k] ∈ l := List.getElem_mem hlt
    have h20 := L20 n l[k] (by have := hm _ hmem; omega) (hs.mem hmem)
    simp only [len_lt, hlt, decide_true, br_true, ob_some_eq, at?_get hlt, Ex.eta, q20, h20]
    by_cases hx : chk l[k] = 0
    · simp [hx, br_false, wrap_succ hlt (by omega : l.length ≤ 9223372036854775807)]
    · have : (chk l[k] != 0) = true := by simpa using hx
      rw [this, if_pos hx]; rfl
  case h2 => simp [len, br_false]
  by_cases hc : chkL l = 0
  · rw [if_neg (by simp [hc]), if_neg (by simp [hc])]
    simp only [cutM_inl]
    obtain ⟨g1, g2⟩ := tog_small hs hl m hm
    have e1 : br (len l == 1) (ob (at? l 0) fun y5 => (some (Sum.inl ((Ex.kind y5), (Ex.name y5), (Ex.later y5), (Ex.wth y5), (Ex.kids y5), ())) : Option ((Int × List UInt8 × Bool × List UInt8 × List Ex × Unit) ⊕ (Ex × Int × Unit)))) (some (.inl (2, [], false, [], l, ()))) = some (.inl ((togE l).kind, (togE l).name, (togE l).later, (togE l).wth, (togE l).kids, ())) := by
      match l with
      | [] => exact absurd rfl h0
      | [e] => cases e; rfl
      | a :: b :: r => rw [len_one _ (by simp)]; rfl
    rw [e1]
    simp only [cutM_inl, Ex.eta]
    have h20 := L20 n (togE l) (by omega) g1
    have h27 := L27 n (togE l) (by omega) g1
    simp only [q20, h20, ob_some_eq]
    by_cases hx : chk (togE l) = 0
    · simp [hx, br_false, q27, h27, ob_some_eq]
    · have : (chk (togE l) != 0) = true := by simpa using hx
      simp [hx, this, br_true, LicSpec.Ex.zero]
  · rw [if_pos hc, if_pos hc]; simp [cutM_inr, LicSpec.Ex.zero]

theorem L13 {n m : Nat} {l : List Ex} (hs : SmallL l) (hl : l.length ≤ 2000000) (hm : ∀ e ∈ l, e.lev ≤ m) (hn : m + 5 ≤ n) (hb : m ≤ 10000000) : m13 (orcN n) l = some (tog l) := by
  obtain ⟨n, rfl⟩ : ∃ k, n = k + 1 := ⟨n - 1, by omega⟩
  unfold m13 tog
  rw [len_zero]
  by_cases h0 : l = []
  · rw [decide_eq_true h0, if_pos h0]; rfl
  rw [decide_eq_false h0, if_neg h0]
  simp only [br_false]
  rw [chk_loop (σ := Int × List UInt8 × Bool × List UInt8 × List Ex × Unit) (R := (Int × List UInt8 × Bool × List UInt8 × List Ex × Unit) ⊕ (Ex × Int × Unit)) hl (0, [], false, [], [], ()) (fun c => .inr (Ex.mk 0 [] false [] [], c, ())) (.inl (0, [], false, [], [], ())) ?h1 ?h2]
  case h1 =>
    intro k hlt
    have hmem : l[k] ∈ l := List.getElem_mem hlt
    have h24 := L24 n l[k] (by have := hm _ hmem; omega) (by have := hm _ hmem; omega) (hs.mem hmem)
    simp only [len_lt, hlt, decide_true, br_true, ob_some_eq, at?_get hlt, q24, h24]
    by_cases hx : chk l[k] = 0
    · simp [hx, br_false, wrap_succ hlt (by omega : l.length ≤ 9223372036854775807)]
    · have : (chk l[k] != 0) = true := by simpa using hx
      rw [this, if_pos hx]; rfl
  case h2 => simp [len, br_false]
  by_cases hc : chkL l = 0
  · rw [if_neg (by simp [hc]), if_neg (by simp [hc])]
    simp only [cutM_inl]
    obtain ⟨g1, g2⟩ := tog_small hs hl m hm
    match l with
    | [] => exact absurd rfl h0
    | [e] =>
      have : chk (togE [e]) = 0 := chkL_one hc (by simp [togE])
      rw [if_neg (by simp [this])]
      simp only [show (len [e] == 1) = true from rfl, br_true, show at? [e] 0 = some e from rfl, ob_some_eq, Ex.eta]
      rfl
    | a :: b :: r =>
      rw [len_one _ (by simp)]
      have h24 := L24 n (togE (a :: b :: r)) (by omega) (by omega) g1
      have ee : togE (a :: b :: r) = .mk 2 [] false [] (a :: b :: r) := rfl
      rw [ee] at h24 ⊢
      simp only [br_false, q24, h24, ob_some_eq]
      by_cases hx : chk (.mk 2 [] false [] (a :: b :: r)) = 0
      · simp [hx, br_false]
      · have : (chk (.mk 2 [] false [] (a :: b :: r)) != 0) = true := by simpa using hx
        simp [hx, this, br_true, LicSpec.Ex.zero]
  · rw [if_pos hc, if_pos hc]; simp [cutM_inr, LicSpec.Ex.zero]

theorem tog_fit {l : List Ex} (hs : SmallL l) (hl : l.length ≤ 2000000) (m : Nat) (hm : ∀ e ∈ l, e.lev ≤ m) : Small (tog l).1 ∧ (tog l).1.lev ≤ m + 1 := by
  have hz : Small Ex.zero ∧ Ex.zero.lev ≤ m + 1 := by
    refine ⟨zero_fit.1, ?_⟩
    simp [Ex.zero, Ex.lev, levL]
  unfold tog
  split
  · exact hz
  · split
    · exact hz
    · split
      · exact hz
      · exact tog_small hs hl m hm

/-- THE THIRD LAW. -/
theorem L5 {m : Nat} {l : List Ex} (hs : SmallL l) (hl : l.length ≤ 2000000) (hm : ∀ e ∈ l, e.lev ≤ m) (hb : m ≤ 10000000) : m5 (orcN (m + 300)) l = some (true, ()) := by
  unfold m5
  have h12 : @Eq (Option (LicSpec.Ex × Int × Unit)) ((orcN (m + 300)).d 12 [.sl (.st 4) l] [(.st 4), (.int .i64)]) (some (tog l)) := by
    rw [show m + 300 = (m + 299) + 1 from rfl, q12]; exact L12 hs hl hm (by omega)
  have h13 : @Eq (Option (LicSpec.Ex × Int × Unit)) ((orcN (m + 300)).d 13 [.sl (.st 4) l] [(.st 4), (.int .i64)]) (some (tog l)) := by
    rw [show m + 300 = (m + 299) + 1 from rfl, q13]; exact L13 hs hl hm (by omega) hb
  obtain ⟨g1, g2⟩ := tog_fit hs hl m hm
  rw [h12, h13]
  simp only [ob_some_eq, Ex.eta]
  rw [G9 (by omega) g1]
  simp only [ob_some_eq, br_true, beq_self_eq_true]
  rw [G10 (by omega)]
  rfl
end Pe.Tryd
end
section
/- What is printed is read back. -/
set_option maxRecDepth 100000
namespace LicSpec
open Go

def sk (r : Str) : Str := r.drop (skipB r)
def nw (u : Str) : Str := wordR (u.take (runL u))
theorem sk_sk (r : Str) : skipB (sk r) = 0 := skipB_drop r
theorem sk_of {r : Str} (h : skipB r = 0) : sk r = r := by unfold sk; rw [h]; rfl

/-- The reader stands, but for blanks, ahead of this. -/
def Nx (S : Str) (q : RS) (u : Str) : Prop := q.no = 0 ∧ S.drop (rBlanks S q).at_ = u
theorem nx_of {S : Str} {q : RS} {r : Str} (h0 : q.no = 0) (h : S.drop q.at_ = r) : Nx S q (sk r) := by
  refine ⟨h0, ?_⟩
  show S.drop (q.at_ + skipB (S.drop q.at_)) = _
  rw [h, ← List.drop_drop, h]; rfl
theorem nx_of' {S : Str} {q : RS} {r : Str} (h0 : q.no = 0) (h : S.drop q.at_ = r) (hs : skipB r = 0) : Nx S q r := by
  have := nx_of h0 h; rwa [sk_of hs] at this
theorem Nx.zero {S : Str} {q : RS} {u : Str} (h : Nx S q u) : skipB u = 0 := by
  rw [← h.2]; exact skipB_drop' _ _
theorem Nx.blanks {S : Str} {q : RS} {u : Str} (h : Nx S q u) : Nx S (rBlanks S q) u ∧ rBlanks S (rBlanks S q) = rBlanks S q ∧ (rBlanks S q).no = 0 := by
  have e : rBlanks S (rBlanks S q) = rBlanks S q := blanks_of (by rw [h.2]; exact h.zero)
  exact ⟨⟨h.1, by rw [e]; exact h.2⟩, e, h.1⟩

theorem run_not_blank {c : UInt8} (h : isRun c = true) : isBlank c = false ∧ c ≠ 43 ∧ c ≠ 40 ∧ c ≠ 41 := by
  refine ⟨?_, ?_, ?_, ?_⟩
  · cases hb : isBlank c with
    | false => rfl
    | true =>
      unfold isBlank at hb
      simp only [Bool.or_eq_true, beq_iff_eq] at hb
      rcases hb with (rfl | rfl) | rfl <;> exact absurd h (by decide)
  all_goals (rintro rfl; exact absurd h (by decide))
theorem runL_app {x t : Str} (hx : ∀ c ∈ x, isRun c = true) (ht : ∀ c, t.head? = some c → isRun c = false) : runL (x ++ t) = x.length := by
  induction x with
  | nil =>
    cases t with
    | nil => simp [runL]
    | cons c r => simp [runL, ht c rfl]
  | cons c r ih =>
    simp only [List.cons_append, runL, hx c (by simp), if_true, List.length_cons]
    rw [ih fun d hd => hx d (by simp [hd])]
theorem take_run {x t : Str} (hx : ∀ c ∈ x, isRun c = true) (ht : ∀ c, t.head? = some c → isRun c = false) : (x ++ t).take (runL (x ++ t)) = x := by
  rw [runL_app hx ht]; simp
theorem name_facts {x : Str} (h : isName x = true) : (∀ c ∈ x, isRun c = true) ∧ ∃ c r, x = c :: r := by
  unfold isName at h
  simp only [Bool.and_eq_true, Bool.not_eq_true', Bool.or_eq_false_iff, List.all_eq_true] at h
  refine ⟨h.2, ?_⟩
  cases x with
  | nil => simp at h
  | cons c r => exact ⟨c, r, rfl⟩
theorem skip_name {x t : Str} (h : isName x = true) : skipB (x ++ t) = 0 := by
  obtain ⟨h1, c, r, rfl⟩ := name_facts h
  simp [skipB, (run_not_blank (h1 c (by simp))).1]

theorem name_rt {S x t : Str} {q : RS} (hx : isName x = true) (ht : ∀ c, t.head? = some c → isRun c = false) (h : Nx S q (x ++ t)) : ∃ q', rName S q = (x, q') ∧ q'.no = 0 ∧ S.drop q'.at_ = t := by
  obtain ⟨h1, _⟩ := name_facts hx
  have hr : rRun S (rBlanks S q) = x := by
    unfold rRun; rw [h.2]; exact take_run h1 ht
  refine ⟨{ rBlanks S q with at_ := (rBlanks S q).at_ + x.length }, ?_, h.1, ?_⟩
  · unfold rName; simp only [hr, hx, if_true]
  · show S.drop ((rBlanks S q).at_ + x.length) = t
    rw [← List.drop_drop, h.2]; simp

theorem word_rt {S u : Str} {q : RS} (w : Str) (h : Nx S q u) : (nw u = w → ∃ q', rTakeWord S w q = (true, q') ∧ q'.no = 0 ∧ S.drop q'.at_ = u.drop (runL u)) ∧ (nw u ≠ w → ∃ q', rTakeWord S w q = (false, q') ∧ Nx S q' u) := by
  have hr : rRun S (rBlanks S q) = u.take (runL u) := by unfold rRun; rw [h.2]
  have hl : (u.take (runL u)).length = runL u := take_runL_len u
  refine ⟨fun hw => ⟨{ rBlanks S q with at_ := (rBlanks S q).at_ + (u.take (runL u)).length }, ?_, h.1, ?_⟩, fun hw => ⟨rBlanks S q, ?_, h.blanks.1⟩⟩
  · unfold rTakeWord; simp only [hr]; exact if_pos hw
  · show S.drop ((rBlanks S q).at_ + _) = _
    rw [hl, ← List.drop_drop, h.2]
  · unfold rTakeWord; simp only [hr]; exact if_neg hw

theorem byte_rt {S u : Str} {q : RS} (b : UInt8) (h : Nx S q u) : (u.head? = some b → ∃ q', rTakeByte S b q = (true, q') ∧ q'.no = 0 ∧ S.drop q'.at_ = u.drop 1) ∧ (u.head? ≠ some b → ∃ q', rTakeByte S b q = (false, q') ∧ Nx S q' u) := by
  have hh : S[(rBlanks S q).at_]? = u.head? := by rw [getElem?_head, h.2]
  refine ⟨fun hb => ⟨{ rBlanks S q with at_ := (rBlanks S q).at_ + 1 }, ?_, h.1, ?_⟩, fun hb => ⟨rBlanks S q, ?_, h.blanks.1⟩⟩
  · unfold rTakeByte; simp only; rw [hh, if_pos hb]
  · show S.drop ((rBlanks S q).at_ + 1) = _
    rw [← List.drop_drop, h.2]
  · unfold rTakeByte; simp only; rw [hh, if_neg hb]

/-- What may follow a single expression; a row of AND; a row of OR. -/
def F1 (r : Str) : Prop := (∀ c, r.head? = some c → isRun c = false ∧ c ≠ 43) ∧ nw (sk r) ≠ sWITH
def F2 (r : Str) : Prop := F1 r ∧ nw (sk r) ≠ sAND
def F3 (r : Str) : Prop := F2 r ∧ nw (sk r) ≠ sOR

theorem sep_nw {w u : Str} (hw : ∀ c ∈ w, isRun c = true) (hne : w ≠ []) : sk ([32] ++ w ++ [32] ++ u) = w ++ ([32] ++ u) ∧ (w ++ ([32] ++ u)).take (runL (w ++ ([32] ++ u))) = w ∧ runL (w ++ ([32] ++ u)) = w.length := by
  have hr : runL (w ++ ([32] ++ u)) = w.length := runL_app hw (fun c hc => by simp at hc; subst hc; decide)
  refine ⟨?_, by rw [hr]; simp, hr⟩
  cases w with
  | nil => exact absurd rfl hne
  | cons c t =>
    have hb := (run_not_blank (hw c (by simp))).1
    have e : isBlank 32 = true := by decide
    have e2 : skipB ([32] ++ c :: t ++ [32] ++ u) = 1 := by simp only [List.cons_append, List.nil_append, skipB, hb, e]; rfl
    unfold sk; rw [e2]; simp

theorem tail_rt {S x wth r : Str} {later : Bool} {q : RS} (hw : wth = [] ∨ isName wth = true) (hr : F1 r) (h0 : q.no = 0)
    (h : S.drop q.at_ = (if later = true then [43] else []) ++ ((if wth ≠ [] then tWITH ++ wth else []) ++ r)) : ∃ q', rTail S x q = (.mk 1 x later wth [], q') ∧ Nx S q' (sk r) := by
  have rest : ∀ (s1 : RS), s1.no = 0 → S.drop s1.at_ = (if wth ≠ [] then tWITH ++ wth else []) ++ r → ∃ q', (if s1.no = 0 then
    let (t, s2) := rTakeWord S sWITH s1
    if t then
      let (x', s3) := rName S s2
      (Ex.mk 1 x later x' [], s3)
    else (Ex.mk 1 x later [] [], s2)
  else ((Ex.mk 1 x later [] [], s1) : Ex × RS)) = (.mk 1 x later wth [], q') ∧ Nx S q' (sk r) := by
    intro s1 hno hd
    rw [if_pos hno]
    by_cases hw0 : wth = []
    · subst hw0
      simp only [ne_eq, not_true_eq_false, if_false, List.nil_append] at hd
      obtain ⟨q', e, n⟩ := (word_rt sWITH (nx_of hno hd)).2 hr.2
      rw [e]; exact ⟨q', rfl, n⟩
    · have hn : isName wth = true := hw.resolve_left hw0
      rw [if_pos hw0] at hd
      have hsep := sep_nw (w := sWITH) (u := wth ++ r) (by decide) (by decide)
      have hd' : S.drop s1.at_ = [32] ++ sWITH ++ [32] ++ (wth ++ r) := by rw [hd]; simp [tWITH, sWITH]
      have hnx := nx_of hno hd'
      rw [hsep.1] at hnx
      obtain ⟨q', e, n0, nd⟩ := (word_rt sWITH hnx).1 (by unfold nw; rw [hsep.2.1]; decide)
      rw [hsep.2.2] at nd
      have nd' : S.drop q'.at_ = 32 :: (wth ++ r) := by rw [nd]; simp
      have hnx2 := nx_of n0 nd'
      have e2 : sk (32 :: (wth ++ r)) = wth ++ r := by
        have := skip_name (t := r) hn
        simp [sk, skipB, isBlank, this]
      rw [e2] at hnx2
      obtain ⟨q2, e3, m0, md⟩ := name_rt hn (fun c hc => (hr.1 c hc).1) hnx2
      rw [e]; simp only [if_true]; rw [e3]
      exact ⟨q2, rfl, nx_of m0 md⟩
  unfold rTail
  have hh : S[q.at_]? = (S.drop q.at_).head? := getElem?_head _ _
  cases hl : later with
  | true =>
    rw [hl] at h rest
    simp only [if_true] at h
    have h43 : q.no = 0 ∧ S[q.at_]? = some 43 := ⟨h0, by rw [hh, h]; rfl⟩
    rw [if_pos h43]
    exact rest { q with at_ := q.at_ + 1 } h0 (by show S.drop (q.at_ + 1) = _; rw [← List.drop_drop, h]; rfl)
  | false =>
    rw [hl] at h rest
    simp only [Bool.false_eq_true, if_false, List.nil_append] at h
    have h43 : ¬ (q.no = 0 ∧ S[q.at_]? = some 43) := by
      rintro ⟨_, hx⟩
      rw [hh, h] at hx
      by_cases hw0 : wth = []
      · rw [if_neg (by simp [hw0])] at hx
        exact (hr.1 43 (by simpa using hx)).2 rfl
      · rw [if_pos hw0] at hx
        simp [tWITH] at hx
    rw [if_neg h43]
    exact rest q h0 h

/-- As a single expression. -/
def sgl (e : Ex) : Str := if e.kind = 1 then txt e else [40] ++ txt e ++ [41]
def tor (e : Ex) : Str := if e.kind = 3 then [40] ++ txt e ++ [41] else txt e
theorem txtL_map (kind : Int) (l : List Ex) : txtL kind l = l.map (par kind) := by
  induction l with
  | nil => simp [txtL]
  | cons k r ih => rw [txtL_cons, ih]; rfl
theorem par_two {k : Ex} (h1 : 1 ≤ k.kind) (h3 : k.kind ≤ 3) : par 2 k = sgl k := by
  unfold par sgl
  by_cases h : k.kind = 1
  · rw [if_neg (by omega), if_pos h]
  · rw [if_pos (by omega), if_neg h]
theorem par_three (k : Ex) : par 3 k = tor k := by unfold par tor; simp

theorem txt_head : ∀ (e : Ex), fault e = 0 → ∃ c t, txt e = c :: t ∧ isBlank c = false
  | .mk kind name later wth kids, h => by
    obtain ⟨h1, h2⟩ := fault_zero h
    obtain ⟨_, _, o1, o2⟩ := one_zero h1
    simp only at o1 o2 h2
    by_cases hk : kind = 1
    · obtain ⟨_, n1, _⟩ := o1 hk
      obtain ⟨g1, c, r, rfl⟩ := name_facts n1
      simp only [txt]
      rw [if_pos hk]
      have e : ∃ t, ((if later = true then c :: r ++ [43] else c :: r) ++ (if wth ≠ [] then tWITH ++ wth else []) : Str) = c :: t := by
        cases later
        · exact ⟨_, rfl⟩
        · exact ⟨_, rfl⟩
      obtain ⟨t, e⟩ := e
      exact ⟨c, t, e, (run_not_blank (g1 c (by simp))).1⟩
    · match kids, o2 hk, h2 with
      | k :: r, _, h2 =>
        obtain ⟨c, t, e1, e2⟩ := txt_head k (faultL_mem h2 (by simp))
        simp only [txt]
        rw [if_neg hk, txtL_cons, Lib.join_cons]
        unfold par
        split
        · exact ⟨40, _, rfl, by decide⟩
        · rw [e1]; exact ⟨c, _, rfl, e2⟩
      | [], h, _ => exact absurd h.2.2.2 (by simp)
theorem sgl_skip {e : Ex} (h : fault e = 0) (u : Str) : skipB (sgl e ++ u) = 0 := by
  obtain ⟨c, t, e1, e2⟩ := txt_head e h
  unfold sgl
  split
  · rw [e1]; simp [skipB, e2]
  · simp [skipB, isBlank]
theorem tor_skip {e : Ex} (h : fault e = 0) (u : Str) : skipB (tor e ++ u) = 0 := by
  obtain ⟨c, t, e1, e2⟩ := txt_head e h
  unfold tor
  split
  · simp [skipB, isBlank]
  · rw [e1]; simp [skipB, e2]

theorem joinTail_nil (sep : Str) : Lib.joinTail sep [] = [] := rfl
theorem joinTail_cons (sep x : Str) (r : List Str) : Lib.joinTail sep (x :: r) = sep ++ x ++ Lib.joinTail sep r := by simp [Lib.joinTail]

/-- A row of expressions is read back. -/
theorem loop_rt {S w : Str} {one : RS → Ex × RS} {T : Ex → Str} {F : Str → Prop} (hw : ∀ c ∈ w, isRun c = true) (hne : w ≠ []) (hword : wordR w = w) (hF : ∀ u, F ([32] ++ w ++ [32] ++ u)) {r : Str} (hr : F r) (hrw : nw (sk r) ≠ w) :
    ∀ (ks : List Ex), (∀ k ∈ ks, (∀ u, skipB (T k ++ u) = 0) ∧ ∀ q r, Nx S q (T k ++ r) → F r → ∃ q', one q = (k, q') ∧ Nx S q' (sk r)) → ∀ (f : Nat) (acc : List Ex) (q : RS), ks.length < f →
      Nx S q (sk (Lib.joinTail ([32] ++ w ++ [32]) (ks.map T) ++ r)) → ∃ q', rListLoop S w one f acc q = (acc ++ ks, q') ∧ Nx S q' (sk r)
  | [], _, f, acc, q, hf, h => by
    obtain ⟨f, rfl⟩ : ∃ k, f = k + 1 := ⟨f - 1, by omega⟩
    have h' : Nx S q (sk r) := by simpa [Lib.joinTail] using h
    obtain ⟨q', e, n⟩ := (word_rt w h').2 hrw
    unfold rListLoop
    rw [if_neg (by simp [h'.1]), e]
    exact ⟨q', by simp, n⟩
  | k :: ks, hk, f, acc, q, hf, h => by
    obtain ⟨f, rfl⟩ : ∃ k, f = k + 1 := ⟨f - 1, by omega⟩
    obtain ⟨hskip, hone⟩ := hk k (by simp)
    rw [List.map_cons, joinTail_cons] at h
    have e0 : [32] ++ w ++ [32] ++ T k ++ Lib.joinTail ([32] ++ w ++ [32]) (ks.map T) ++ r = [32] ++ w ++ [32] ++ (T k ++ (Lib.joinTail ([32] ++ w ++ [32]) (ks.map T) ++ r)) := by simp
    rw [e0] at h
    have hsep := sep_nw (u := T k ++ (Lib.joinTail ([32] ++ w ++ [32]) (ks.map T) ++ r)) hw hne
    rw [hsep.1] at h
    obtain ⟨q1, e1, n0, nd⟩ := (word_rt w h).1 (by unfold nw; rw [hsep.2.1]; exact hword)
    rw [hsep.2.2] at nd
    have nd' : S.drop q1.at_ = 32 :: (T k ++ (Lib.joinTail ([32] ++ w ++ [32]) (ks.map T) ++ r)) := by rw [nd]; simp
    have hn1 := nx_of n0 nd'
    have e2 : sk (32 :: (T k ++ (Lib.joinTail ([32] ++ w ++ [32]) (ks.map T) ++ r))) = T k ++ (Lib.joinTail ([32] ++ w ++ [32]) (ks.map T) ++ r) := by
      simp [sk, skipB, isBlank, hskip]
    rw [e2] at hn1
    have hFr : F (Lib.joinTail ([32] ++ w ++ [32]) (ks.map T) ++ r) := by
      cases ks with
      | nil => simpa [Lib.joinTail] using hr
      | cons k2 r2 =>
        rw [List.map_cons, joinTail_cons]
        have := hF (T k2 ++ (Lib.joinTail ([32] ++ w ++ [32]) (r2.map T) ++ r))
        have e : [32] ++ w ++ [32] ++ T k2 ++ Lib.joinTail ([32] ++ w ++ [32]) (r2.map T) ++ r = [32] ++ w ++ [32] ++ (T k2 ++ (Lib.joinTail ([32] ++ w ++ [32]) (r2.map T) ++ r)) := by simp
        rw [e]; exact this
    obtain ⟨q2, e3, n2⟩ := hone q1 _ hn1 hFr
    obtain ⟨q3, e4, n3⟩ := loop_rt hw hne hword hF hr hrw ks (fun k' hk' => hk k' (by simp [hk'])) f (acc ++ [k]) q2 (by simp at hf; omega) n2
    refine ⟨q3, ?_, n3⟩
    unfold rListLoop
    rw [if_neg (by simp [h.1]), e1]
    simp only
    rw [e3]
    simp only
    rw [e4]; simp

theorem len_joinTail {sep : Str} (h : 1 ≤ sep.length) : ∀ l : List Str, l.length ≤ (Lib.joinTail sep l).length
  | [] => by simp
  | x :: r => by rw [joinTail_cons]; have := len_joinTail h r; simp only [List.length_append, List.length_cons]; omega

theorem list_rt {S w : Str} {kind : Int} {one : RS → Ex × RS} {T : Ex → Str} {F : Str → Prop} (hw : ∀ c ∈ w, isRun c = true) (hne : w ≠ []) (hword : wordR w = w) (hF : ∀ u, F ([32] ++ w ++ [32] ++ u)) {r : Str} (hr : F r) (hrw : nw (sk r) ≠ w)
    {ks : List Ex} (hk : ∀ k ∈ ks, (∀ u, skipB (T k ++ u) = 0) ∧ ∀ q r, Nx S q (T k ++ r) → F r → ∃ q', one q = (k, q') ∧ Nx S q' (sk r)) (h0 : ks ≠ []) {q : RS}
    (h : Nx S q (Lib.join (ks.map T) ([32] ++ w ++ [32]) ++ r)) : ∃ q', rList S kind w one q = ((match ks with | [e] => e | l => .mk kind [] false [] l), q') ∧ Nx S q' (sk r) := by
  match ks, h0 with
  | k :: ks, _ =>
    obtain ⟨hskip, hone⟩ := hk k (by simp)
    have hlen : ks.length ≤ S.length := by
      have h1 := len_joinTail (sep := [32] ++ w ++ [32]) (by simp) (ks.map T)
      have h2 : (S.drop (rBlanks S q).at_).length ≤ S.length := by simp
      rw [h.2, List.map_cons, Lib.join_cons] at h2
      simp only [List.length_append, List.length_map] at h1 h2
      omega
    rw [List.map_cons, Lib.join_cons, List.append_assoc] at h
    have hFr : F (Lib.joinTail ([32] ++ w ++ [32]) (ks.map T) ++ r) := by
      cases ks with
      | nil => simpa [Lib.joinTail] using hr
      | cons k2 r2 =>
        rw [List.map_cons, joinTail_cons]
        have := hF (T k2 ++ (Lib.joinTail ([32] ++ w ++ [32]) (r2.map T) ++ r))
        have e : [32] ++ w ++ [32] ++ T k2 ++ Lib.joinTail ([32] ++ w ++ [32]) (r2.map T) ++ r = [32] ++ w ++ [32] ++ (T k2 ++ (Lib.joinTail ([32] ++ w ++ [32]) (r2.map T) ++ r)) := by simp
        rw [e]; exact this
    obtain ⟨q1, e1, n1⟩ := hone q _ h hFr
    obtain ⟨q2, e2, n2⟩ := loop_rt hw hne hword hF hr hrw ks (fun k' hk' => hk k' (by simp [hk'])) (S.length + 1) [k] q1 (by omega) n1
    refine ⟨q2, ?_, n2⟩
    unfold rList
    rw [e1]; simp only; rw [e2]
    cases ks with
    | nil => rfl
    | cons a b => rfl

theorem sep_F (w u : Str) (hw : w = sAND ∨ w = sOR) : (∀ c, ([32] ++ w ++ [32] ++ u).head? = some c → isRun c = false ∧ c ≠ 43) ∧ nw (sk ([32] ++ w ++ [32] ++ u)) = w := by
  refine ⟨fun c hc => ?_, ?_⟩
  · simp at hc; subst hc; decide
  · have hsep := sep_nw (w := w) (u := u) (by rcases hw with rfl | rfl <;> decide) (by rcases hw with rfl | rfl <;> decide)
    rw [hsep.1]; unfold nw; rw [hsep.2.1]
    rcases hw with rfl | rfl <;> decide

theorem sep1 (w u : Str) (hw : w = sAND ∨ w = sOR) : F1 ([32] ++ w ++ [32] ++ u) := by
  obtain ⟨a, b⟩ := sep_F w u hw
  refine ⟨a, ?_⟩
  rw [b]; rcases hw with rfl | rfl <;> decide
theorem sep2 (u : Str) : F2 ([32] ++ sOR ++ [32] ++ u) := by
  obtain ⟨a, b⟩ := sep_F sOR u (.inr rfl)
  exact ⟨sep1 _ _ (.inr rfl), by rw [b]; decide⟩
theorem close3 (r : Str) : F3 (41 :: r) ∧ sk (41 :: r) = 41 :: r := by
  have e : sk (41 :: r) = 41 :: r := sk_of (by simp [skipB, isBlank])
  have e2 : nw (41 :: r) = [] := by
    have h41 : isRun 41 = false := by decide
    unfold nw; simp only [runL, h41]; simp [wordR_nil]
  refine ⟨⟨⟨⟨fun c hc => ?_, ?_⟩, ?_⟩, ?_⟩, e⟩
  · simp at hc; subst hc; decide
  all_goals (rw [e, e2]; decide)
theorem end3 : F3 [] ∧ sk [] = [] := by
  refine ⟨⟨⟨⟨fun c hc => by simp at hc, by decide⟩, by decide⟩, by decide⟩, rfl⟩

theorem name_single {S : Str} (d : Nat) {e : Ex} {q : RS} {r : Str} (hf : fault e = 0) (hk : e.kind = 1) (h : Nx S q (txt e ++ r)) (hr : F1 r) : ∃ q', rSingle S d q = (e, q') ∧ Nx S q' (sk r) := by
  obtain ⟨h1, h2⟩ := fault_zero hf
  obtain ⟨_, _, o1, _⟩ := one_zero h1
  obtain ⟨k0, n1, n2⟩ := o1 hk
  obtain ⟨g1, c, t, hc⟩ := name_facts n1
  obtain ⟨hb, hbb, hb0⟩ := h.blanks
  have etxt : txt e ++ r = e.name ++ ((if e.later = true then [43] else []) ++ ((if e.wth ≠ [] then tWITH ++ e.wth else []) ++ r)) := by
    rw [txt_eq, if_pos hk]
    cases e.later <;> simp
  have hno : (txt e ++ r).head? ≠ some 40 := by
    rw [etxt, hc]
    intro hx
    simp at hx
    exact (run_not_blank (g1 c (by rw [hc]; simp))).2.2.1 hx
  obtain ⟨q1, e1, nn⟩ := (byte_rt 40 hb).2 hno
  rw [etxt] at nn
  obtain ⟨q2, e2, m0, md⟩ := name_rt n1 (fun c hc => by
    cases hl : e.later with
    | true => rw [hl] at hc; simp at hc; subst hc; decide
    | false =>
      rw [hl] at hc
      simp only [Bool.false_eq_true, if_false, List.nil_append] at hc
      by_cases hw0 : e.wth = []
      · rw [if_neg (by simp [hw0])] at hc
        exact (hr.1 c (by simpa using hc)).1
      · rw [if_pos hw0] at hc
        simp [tWITH] at hc; subst hc; decide) nn
  obtain ⟨q3, e3, n3⟩ := tail_rt (x := e.name) n2 hr m0 md
  have ee : Ex.mk 1 e.name e.later e.wth [] = e := by
    cases e with
    | mk a b c d l => simp only at hk k0; subst hk; subst k0; rfl
  refine ⟨q3, ?_, n3⟩
  have step : rSingle S d q = rTail S (rName S (rTakeByte S 40 (rBlanks S q)).2).1 (rName S (rTakeByte S 40 (rBlanks S q)).2).2 := by
    unfold rSingle; simp only [e1, Bool.false_eq_true, if_false]
  rw [step, e1]
  simp only
  rw [e2]
  simp only
  rw [e3, ee]

theorem paren_single {S : Str} {d : Nat} {e : Ex} {q : RS} {r : Str} (hf : fault e = 0)
    (hA : ∀ (q : RS) (r : Str), Nx S q (txt e ++ r) → F3 r → ∃ q', rList S 3 sOR (rList S 2 sAND (rSingle S d)) q = (e, q') ∧ Nx S q' (sk r))
    (h : Nx S q ([40] ++ txt e ++ [41] ++ r)) : ∃ q', rSingle S (d + 1) q = (e, q') ∧ Nx S q' (sk r) := by
  obtain ⟨hb, hbb, hb0⟩ := h.blanks
  obtain ⟨q1, e1, m0, md⟩ := (byte_rt 40 hb).1 (by simp)
  obtain ⟨c, t, et, hcb⟩ := txt_head e hf
  have md' : S.drop q1.at_ = txt e ++ (41 :: r) := by rw [md]; simp
  have hn1 := nx_of' m0 md' (by rw [et]; simp [skipB, hcb])
  obtain ⟨q2, e2, n2⟩ := hA q1 (41 :: r) hn1 (close3 r).1
  rw [(close3 r).2] at n2
  obtain ⟨q3, e3, p0, pd⟩ := (byte_rt 41 n2).1 rfl
  refine ⟨q3, ?_, nx_of p0 (by simpa using pd)⟩
  unfold rSingle
  simp only [e1, if_true, e2, n2.1, e3]

theorem lev_list {e k : Ex} (h : k ∈ e.kids) : k.lev < e.lev := lev_kid h

theorem list_eta {ks : List Ex} (h : 2 ≤ ks.length) (kind : Int) : (match ks with | [e] => e | l => Ex.mk kind [] false [] l) = .mk kind [] false [] ks := by
  match ks, h with
  | a :: b :: r, _ => rfl

theorem and_rt {S : Str} {d : Nat} (hB : ∀ (e : Ex) (q : RS) (r : Str), fault e = 0 → (e.kind = 1 ∨ e.lev ≤ d) → Nx S q (sgl e ++ r) → F1 r → ∃ q', rSingle S d q = (e, q') ∧ Nx S q' (sk r))
    {k : Ex} {q : RS} {r : Str} (hf : fault k = 0) (h3 : k.kind = 3 → k.lev ≤ d) (hl : k.lev ≤ d + 1) (h : Nx S q (tor k ++ r)) (hr : F2 r) : ∃ q', rList S 2 sAND (rSingle S d) q = (k, q') ∧ Nx S q' (sk r) := by
  obtain ⟨g1, g2⟩ := fault_zero hf
  obtain ⟨b1, b2, o1, o2⟩ := one_zero g1
  have hrun : ∀ c ∈ sAND, isRun c = true := by decide
  by_cases h2 : k.kind = 2
  · obtain ⟨e1, e2, e3, e4⟩ := o2 (by omega)
    have etor : tor k = Lib.join (k.kids.map sgl) ([32] ++ sAND ++ [32]) := by
      unfold tor
      rw [if_neg (by omega), txt_eq, if_neg (by omega), if_neg (by omega), h2, txtL_map]
      rw [List.map_congr_left (g := sgl) (fun x hx => by
        have hfx := faultL_mem g2 hx
        obtain ⟨c1, _⟩ := fault_zero hfx
        obtain ⟨c2, c3, _⟩ := one_zero c1
        exact par_two c2 c3)]
      rfl
    rw [etor] at h
    obtain ⟨q', a, b⟩ := list_rt (kind := 2) (one := rSingle S d) (T := sgl) (F := F1) hrun wAND_ne (by decide) (fun u => sep1 sAND u (.inl rfl)) hr.1 hr.2 (ks := k.kids) (fun x hx => by
      have hfx := faultL_mem g2 hx
      exact ⟨fun u => sgl_skip hfx u, fun q r hn hF => hB x q r hfx (.inr (by have := lev_list hx; omega)) hn hF⟩) (by intro h0; rw [h0] at e4; simp at e4) h
    refine ⟨q', ?_, b⟩
    rw [a, list_eta e4]
    cases k with
    | mk a b c d l => simp only at e1 e2 e3 h2; subst e1; subst e2; subst e3; subst h2; rfl
  · have etor : tor k = sgl k := by
      unfold tor sgl
      by_cases h1 : k.kind = 1
      · rw [if_neg (by omega), if_pos h1]
      · rw [if_pos (by omega), if_neg h1]
    rw [etor] at h
    obtain ⟨q', a, b⟩ := list_rt (kind := 2) (one := rSingle S d) (T := sgl) (F := F1) hrun wAND_ne (by decide) (fun u => sep1 sAND u (.inl rfl)) hr.1 hr.2 (ks := [k]) (fun x hx => by
      rcases List.mem_singleton.1 hx with rfl
      exact ⟨fun u => sgl_skip hf u, fun q r hn hF => hB x q r hf (by
        by_cases h1 : x.kind = 1
        · exact .inl h1
        · exact .inr (h3 (by omega))) hn hF⟩) (by simp) (q := q) (by simpa [Lib.join_one] using h)
    exact ⟨q', a, b⟩

theorem or_rt {S : Str} {d : Nat} (hB : ∀ (e : Ex) (q : RS) (r : Str), fault e = 0 → (e.kind = 1 ∨ e.lev ≤ d) → Nx S q (sgl e ++ r) → F1 r → ∃ q', rSingle S d q = (e, q') ∧ Nx S q' (sk r))
    {e : Ex} {q : RS} {r : Str} (hf : fault e = 0) (hl : e.lev ≤ d + 1) (h : Nx S q (txt e ++ r)) (hr : F3 r) : ∃ q', rList S 3 sOR (rList S 2 sAND (rSingle S d)) q = (e, q') ∧ Nx S q' (sk r) := by
  obtain ⟨g1, g2⟩ := fault_zero hf
  obtain ⟨b1, b2, o1, o2⟩ := one_zero g1
  have hrun : ∀ c ∈ sOR, isRun c = true := by decide
  by_cases h3 : e.kind = 3
  · obtain ⟨e1, e2, e3, e4⟩ := o2 (by omega)
    have et : txt e = Lib.join (e.kids.map tor) ([32] ++ sOR ++ [32]) := by
      rw [txt_eq, if_neg (by omega), if_pos h3, h3, txtL_map]
      rw [List.map_congr_left (g := tor) (fun x hx => par_three x)]
      rfl
    rw [et] at h
    obtain ⟨q', a, b⟩ := list_rt (kind := 3) (one := rList S 2 sAND (rSingle S d)) (T := tor) (F := F2) hrun wOR_ne (by decide) sep2 hr.1 hr.2 (ks := e.kids) (fun x hx => by
      have hfx := faultL_mem g2 hx
      have hlx := lev_list hx
      exact ⟨fun u => tor_skip hfx u, fun q r hn hF => and_rt hB hfx (fun _ => by omega) (by omega) hn hF⟩) (by intro h0; rw [h0] at e4; simp at e4) h
    refine ⟨q', ?_, b⟩
    rw [a, list_eta e4]
    cases e with
    | mk a b c d l => simp only at e1 e2 e3 h3; subst e1; subst e2; subst e3; subst h3; rfl
  · have et : txt e = tor e := by unfold tor; rw [if_neg h3]
    rw [et] at h
    obtain ⟨q', a, b⟩ := list_rt (kind := 3) (one := rList S 2 sAND (rSingle S d)) (T := tor) (F := F2) hrun wOR_ne (by decide) sep2 hr.1 hr.2 (ks := [e]) (fun x hx => by
      rcases List.mem_singleton.1 hx with rfl
      exact ⟨fun u => tor_skip hf u, fun q r hn hF => and_rt hB hf (fun h => absurd h h3) hl hn hF⟩) (by simp) (q := q) (by simpa [Lib.join_one] using h)
    exact ⟨q', a, b⟩

/-- A single expression is read back; so is a row of OR. -/
theorem single_rt (S : Str) : ∀ (d : Nat),
    (∀ (e : Ex) (q : RS) (r : Str), fault e = 0 → (e.kind = 1 ∨ e.lev ≤ d) → Nx S q (sgl e ++ r) → F1 r → ∃ q', rSingle S d q = (e, q') ∧ Nx S q' (sk r)) := by
  intro d
  induction d with
  | zero =>
    intro e q r hf hk h hr
    have h1 : e.kind = 1 := hk.resolve_right (by have := e.lev_pos; omega)
    unfold sgl at h
    rw [if_pos h1] at h
    exact name_single 0 hf h1 h hr
  | succ d ih =>
    intro e q r hf hk h hr
    unfold sgl at h
    by_cases h1 : e.kind = 1
    · rw [if_pos h1] at h
      exact name_single (d + 1) hf h1 h hr
    · rw [if_neg h1] at h
      have hl := hk.resolve_left h1
      exact paren_single hf (fun q r hn hF => or_rt ih hf hl hn hF) h

theorem read_back {e : Ex} (hc : chk e = 0) (hl : (txt e).length ≤ 4000) : licR (txt e) = (e, 0, 0, ()) := by
  obtain ⟨c1, c2, c3⟩ := chk_zero hc
  obtain ⟨c, t, et, hcb⟩ := txt_head e c3
  have h0 : Nx (txt e) ⟨0, 0, 0⟩ (txt e ++ []) := nx_of' rfl (by simp) (by rw [et]; simp [skipB, hcb])
  obtain ⟨q, e1, n⟩ := or_rt (S := txt e) (d := 30) (single_rt (txt e) 30) c3 (by omega) h0 end3.1
  have hn0 : (rBlanks (txt e) q).no = 0 := n.1
  have hd : (txt e).drop (rBlanks (txt e) q).at_ = [] := n.2
  have hat : ¬ ((rBlanks (txt e) q).no = 0 ∧ (rBlanks (txt e) q).at_ < (txt e).length) := by
    rintro ⟨_, h⟩
    have := congrArg List.length hd
    simp at this; omega
  have hp : rParse (txt e) = (e, rBlanks (txt e) q) := by
    unfold rParse
    rw [e1]
    simp only
    rw [if_neg hat]
  have hpe := parse_eq (txt e)
  unfold licR
  rw [if_neg (by omega)]
  cases hps : pParse (txt e) with
  | err a c =>
    rw [hps] at hpe
    obtain ⟨hc', e', q', he, hno, _⟩ := hpe
    rw [hp] at he
    cases he
    exact absurd (hno.symm.trans hn0) hc'
  | ok e' s =>
    rw [hps] at hpe
    obtain ⟨q', he, hno⟩ := hpe
    rw [hp] at he
    cases he
    simp [hc]
end LicSpec
end
section
/- The second law in plain: texts come back. -/
set_option maxRecDepth 100000
namespace LicSpec
/-- What Print answers. -/
def prt (e : Ex) : Str × Int × Unit := if chk e ≠ 0 then ([], chk e, ()) else if 4000 < (txt e).length then ([], 3, ()) else (txt e, 0, ())
theorem licR_ok {S : Str} (h : (licR S).2.2.1 = 0) : chk (licR S).1 = 0 := by
  unfold licR at h ⊢
  by_cases h4 : 4000 < S.length
  · rw [if_pos h4] at h; exact absurd h (by decide)
  · rw [if_neg h4] at h ⊢
    have hpe := parse_eq S
    cases hp : pParse S with
    | err a c => rw [hp] at hpe h; exact absurd h hpe.1
    | ok e s =>
      rw [hp] at h
      simp only at h ⊢
      by_cases hc : chk e = 0
      · rw [if_neg (by simp [hc])]; exact hc
      · rw [if_pos hc] at h; exact absurd h hc
end LicSpec
namespace Pe.Tryd
open Go Go.Proofs Pe LicSpec

theorem G11 {n : Nat} {e : Ex} (hs : Small e) (hn : 222 ≤ n) (hl : e.lev + 10 ≤ n) : @Eq (Option (List UInt8 × Int × Unit)) ((orcN n).d 11 [.st 4 e] [.str, (.int .i64)]) (some (prt e)) := by
  obtain ⟨m, rfl⟩ : ∃ m, n = m + 1 := ⟨n - 1, by omega⟩
  rw [q11]
  unfold prt
  by_cases hc : chk e = 0
  · rw [if_neg (by simp [hc])]; exact L11 (by omega) hc
  · rw [if_pos hc]
    obtain ⟨m, rfl⟩ : ∃ k, m = k + 1 := ⟨m - 1, by omega⟩
    have h20 := L20 m e (by omega) hs
    unfold m11
    have : (chk e != 0) = true := by simpa using hc
    simp only [Ex.eta, q20, h20, ob_some_eq, this, br_true]

/-- THE SECOND LAW. -/
theorem L4 {n : Nat} {x : Ex} (hs : Small x) (hn : 300 ≤ n) (hl : x.lev + 20 ≤ n) (S : List UInt8) : m4 (orcN n) x S = some (true, ()) := by
  unfold m4
  simp only [Ex.eta]
  rw [G11 hs (by omega) (by omega)]
  have rest : (ob (α := LicSpec.Ex × Int × Int × Unit) ((orcN n).d 7 [.str S] [(.st 4), (.int .i64), (.int .i64)]) fun (r7 : LicSpec.Ex × Int × Int × Unit) => (br (r7.2.2.1 != 0) (ob (α := Bool × Unit) ((orcN n).d 10 [] [.bool]) fun (r8 : Bool × Unit) => (some (r8.1, ()))) (ob (α := List UInt8 × Int × Unit) ((orcN n).d 11 [.st 4 r7.1] [.str, (.int .i64)]) fun (r9 : List UInt8 × Int × Unit) => (ob (α := LicSpec.Ex × Int × Int × Unit) ((orcN n).d 7 [.str r9.1] [(.st 4), (.int .i64), (.int .i64)]) fun (r10 : LicSpec.Ex × Int × Int × Unit) => (ob (br (r9.2.1 == 3) (some true) (ob (br (r9.2.1 == 0) (some (r10.2.2.1 == 0)) (some false)) fun b11 => (ob (br b11 (some (r10.2.1 == 0)) (some false)) fun b12 => (ob (br b12 (ob (α := Bool × Unit) ((orcN n).d 9 [.st 4 r7.1, .st 4 r10.1] [.bool]) fun (r13 : Bool × Unit) => (some r13.1)) (some false)) fun b14 => (ob (br b14 (ob (α := Bool × Unit) ((orcN n).d 10 [] [.bool]) fun (r15 : Bool × Unit) => (some r15.1)) (some false)) fun b16 => (some b16)))))) fun b17 => (some (b17, ()))))))) = some (true, ()) := by
    rw [G7 (by omega) S]
    simp only [ob_some_eq]
    have hf := licR_fit S
    by_cases h0 : (licR S).2.2.1 = 0
    · have hc := licR_ok h0
      rw [show ((licR S).2.2.1 != 0) = false by simp [h0]]
      simp only [br_false]
      rw [G11 hf.1 (by omega) (by have := hf.2; omega)]
      unfold prt
      rw [if_neg (by simp [hc])]
      by_cases h4 : 4000 < (txt (licR S).1).length
      · rw [if_pos h4]
        simp only [ob_some_eq]
        rw [G7 (by omega)]
        rfl
      · rw [if_neg h4]
        simp only [ob_some_eq]
        rw [G7 (by omega), read_back hc (by omega)]
        simp only [ob_some_eq, show ((0 : Int) == 3) = false from rfl, br_false, show ((0 : Int) == 0) = true from rfl, br_true]
        rw [G9 (by have := hf.2; omega) hf.1]
        simp only [ob_some_eq, br_true]
        rw [G10 (by omega)]
        rfl
    · rw [show ((licR S).2.2.1 != 0) = true by simpa using h0]
      simp only [br_true]
      rw [G10 (by omega)]
      rfl
  have key : ∀ (p : List UInt8 × Int × Unit), prt x = p → (br (p.2.1 == 0) (ob (α := LicSpec.Ex × Int × Int × Unit) ((orcN n).d 7 [.str p.1] [(.st 4), (.int .i64), (.int .i64)]) fun (r2 : LicSpec.Ex × Int × Int × Unit) => (ob (α := Bool × Unit) ((orcN n).d 9 [.st 4 x, .st 4 r2.1] [.bool]) fun (r3 : Bool × Unit) => (ob (br (!r3.1) (some true) (some (r2.2.1 != 0))) fun b4 => (ob (br b4 (some true) (some (r2.2.2.1 != 0))) fun b5 => (br b5 (some (Sum.inr (false, ()))) (some (Sum.inl (()))))))) ) (some (Sum.inl (())))) = (some (Sum.inl ()) : Option (Unit ⊕ (Bool × Unit))) := by
    intro p hp
    unfold prt at hp
    by_cases hc : chk x = 0
    · rw [if_neg (by simp [hc])] at hp
      by_cases h4 : 4000 < (txt x).length
      · rw [if_pos h4] at hp; subst hp; rfl
      · rw [if_neg h4] at hp; subst hp
        simp only [show ((0 : Int) == 0) = true from rfl, br_true]
        rw [G7 (by omega), read_back hc (by omega)]
        simp only [ob_some_eq]
        rw [G9 (by omega) hs]
        rfl
    · rw [if_pos hc] at hp; subst hp
      simp only
      rw [show (chk x == 0) = false by simpa using hc]
      rfl
  simp only [ob_some_eq]
  rw [key _ rfl]
  simp only [cutM_inl]
  exact rest
end Pe.Tryd
end
section
/- Loops of the models, in forms that one meets often. -/
set_option maxRecDepth 100000
namespace Pe
open Go

/-- The first that is not zero, of the first n. -/
def ff (F : Nat → Int) : Nat → Int
  | 0 => 0
  | n + 1 => if ff F n ≠ 0 then ff F n else F n
theorem ff_stays {F : Nat → Int} {k : Nat} (h : ff F k ≠ 0) : ∀ d, ff F (k + d) = ff F k
  | 0 => rfl
  | d + 1 => by
    show (if ff F (k + d) ≠ 0 then ff F (k + d) else F (k + d)) = _
    rw [ff_stays h d, if_pos h]
theorem ff_le {F : Nat → Int} {n : Nat} (h : ff F n = 0) {k : Nat} (hk : k ≤ n) : ff F k = 0 := by
  by_cases h0 : ff F k = 0
  · exact h0
  · exfalso
    have := ff_stays h0 (n - k)
    rw [Nat.add_sub_cancel' hk] at this
    exact h0 (this ▸ h)
theorem ff_at {F : Nat → Int} {n : Nat} (h : ff F n = 0) {k : Nat} (hk : k < n) : F k = 0 := by
  have h1 := ff_le h (Nat.succ_le_of_lt hk)
  have h2 := ff_le h (Nat.le_of_lt hk)
  simpa [ff, h2] using h1
theorem ff_first {F : Nat → Int} {n k : Nat} (hk : k < n) (h : ff F k = 0) (h1 : F k ≠ 0) : ff F n = F k := by
  have h2 : ff F (k + 1) = F k := by simp [ff, h]
  have := ff_stays (F := F) (k := k + 1) (by rw [h2]; exact h1) (n - (k + 1))
  rw [Nat.add_sub_cancel' hk] at this
  rw [this, h2]
theorem ff_congr {F G : Nat → Int} : ∀ {n : Nat}, (∀ k, k < n → F k = G k) → ff F n = ff G n
  | 0, _ => rfl
  | n + 1, h => by simp only [ff]; rw [ff_congr fun k hk => h k (by omega), h n (by omega)]

theorem loop_ff {σ A R : Type} {f : σ → Option (σ ⊕ R)} (mk : Nat → A → σ) (n : Nat) (F : Nat → Int) (out : Int → R) (fin : R) (I : Nat → A → Prop)
    (h : ∀ k a, k < n → I k a → ff F k = 0 → (F k ≠ 0 ∧ f (mk k a) = some (.inr (out (F k)))) ∨ (F k = 0 ∧ ∃ a', I (k + 1) a' ∧ f (mk k a) = some (.inl (mk (k + 1) a'))))
    (he : ∀ a, I n a → f (mk n a) = some (.inr fin)) (a0 : A) (h0 : I 0 a0) : loopM f (mk 0 a0) = some (if ff F n ≠ 0 then out (ff F n) else fin) := by
  refine loop_st mk n (fun _ _ => if ff F n ≠ 0 then out (ff F n) else fin) (fun k a => I k a ∧ ff F k = 0) (fun k a hk hI => ?_) 0 a0 (Nat.zero_le _) ⟨h0, rfl⟩
  by_cases hlt : k < n
  · rcases h k a hlt hI.1 hI.2 with ⟨h1, h2⟩ | ⟨h1, a', h2, h3⟩
    · right
      rw [ff_first hlt hI.2 h1, if_pos h1, h2]
    · left
      exact ⟨a', hlt, h3, ⟨h2, by simp [ff, hI.2, h1]⟩, rfl⟩
  · right
    obtain rfl : k = n := by omega
    rw [he a hI.1, if_neg (by simp [hI.2])]
/-- What a round of such a loop gives. -/
def ffS {σ R : Type} (out : Int → R) (nxt : σ) (c : Int) : Option (σ ⊕ R) := if c ≠ 0 then some (.inr (out c)) else some (.inl nxt)
theorem loop_ff1 {R : Type} {f : Int × Unit → Option ((Int × Unit) ⊕ R)} (n : Nat) (F : Nat → Int) (out : Int → R) (fin : R)
    (h : ∀ k, k < n → ff F k = 0 → f ((k : Int), ()) = ffS out (((k + 1 : Nat) : Int), ()) (F k))
    (he : f ((n : Int), ()) = some (.inr fin)) : loopM f ((0 : Int), ()) = some (if ff F n ≠ 0 then out (ff F n) else fin) := by
  refine loop_ff (A := Unit) (fun k _ => ((k : Int), ())) n F out fin (fun _ _ => True) (fun k _ hk _ hz => ?_) (fun _ _ => he) () trivial
  rw [h k hk hz]
  unfold ffS
  by_cases h0 : F k ≠ 0
  · left; exact ⟨h0, by rw [if_pos h0]⟩
  · right; exact ⟨by simpa using h0, (), trivial, by rw [if_neg h0]⟩
theorem loop_ffS {σ A R : Type} {f : σ → Option (σ ⊕ R)} (mk : Nat → A → σ) (n : Nat) (F : Nat → Int) (out : Int → R) (fin : R) (I : Nat → A → Prop)
    (h : ∀ k a, k < n → I k a → ff F k = 0 → ∃ a', I (k + 1) a' ∧ f (mk k a) = ffS out (mk (k + 1) a') (F k))
    (he : ∀ a, I n a → f (mk n a) = some (.inr fin)) (a0 : A) (h0 : I 0 a0) : loopM f (mk 0 a0) = some (if ff F n ≠ 0 then out (ff F n) else fin) := by
  refine loop_ff mk n F out fin I (fun k a hk hI hz => ?_) he a0 h0
  obtain ⟨a', h1, h2⟩ := h k a hk hI hz
  rw [h2]
  unfold ffS
  by_cases h0 : F k ≠ 0
  · left; exact ⟨h0, by rw [if_pos h0]⟩
  · right; exact ⟨by simpa using h0, a', h1, by rw [if_neg h0]⟩
theorem loop_ffX {σ A R : Type} {f : σ → Option (σ ⊕ R)} (mk : Nat → A → σ) (n : Nat) (F : Nat → Int) (out : Int → R) (fin : A → R) (I : Nat → A → Prop)
    (h : ∀ k a, k < n → I k a → ff F k = 0 → ∃ a', I (k + 1) a' ∧ f (mk k a) = ffS out (mk (k + 1) a') (F k))
    (he : ∀ a, I n a → f (mk n a) = some (.inr (fin a))) (a0 : A) (h0 : I 0 a0) : ∃ a, loopM f (mk 0 a0) = some (if ff F n ≠ 0 then out (ff F n) else fin a) := by
  have key : ∀ d k a, n - k = d → k ≤ n → I k a → ff F k = 0 → ∃ a', loopM f (mk k a) = some (if ff F n ≠ 0 then out (ff F n) else fin a') := by
    intro d
    induction d with
    | zero =>
      intro k a hd hk hI hz
      obtain rfl : k = n := by omega
      exact ⟨a, by rw [loopM_end (he a hI), if_neg (by simp [hz])]⟩
    | succ d ih =>
      intro k a hd hk hI hz
      obtain ⟨a', h1, h2⟩ := h k a (by omega) hI hz
      unfold ffS at h2
      by_cases h0 : F k ≠ 0
      · rw [if_pos h0] at h2
        have hf := ff_first (by omega : k < n) hz h0
        exact ⟨a, by rw [loopM_end h2, hf, if_pos h0]⟩
      · rw [if_neg h0] at h2
        obtain ⟨a2, h3⟩ := ih (k + 1) a' (by omega) (by omega) h1 (by simpa [ff, hz] using h0)
        exact ⟨a2, by rw [loopM_next h2, h3]⟩
  exact key _ 0 a0 rfl (Nat.zero_le _) h0 rfl
theorem mget_mput {K V : Type} {eq : K → K → Bool} (he : ∀ a b, eq a b = true ↔ a = b) (x y : K) (v z : V) : ∀ m : List (K × V), mget eq y z (mput eq x v m) = bif eq y x then v else mget eq y z m
  | [] => rfl
  | (k, w) :: r => by
    simp only [mput]
    cases hk : eq x k with
    | true =>
      have := (he _ _).1 hk; subst this
      simp only [cond_true, mget]
      cases eq y x <;> rfl
    | false =>
      simp only [cond_false, mget]
      rw [mget_mput he x y v z r]
      cases hy : eq y k with
      | false => rfl
      | true =>
        have := (he _ _).1 hy; subst this
        have : eq y x = false := by
          cases h : eq y x with
          | false => rfl
          | true => have := (he _ _).1 h; subst this; rw [hk] at h; cases h
        simp [this]
theorem ffS_zero {σ R : Type} {out : Int → R} {nxt : σ} : ffS out nxt 0 = some (.inl nxt) := rfl
theorem br_ff {σ R : Type} {out : Int → R} {nxt : σ} {b : Bool} {F' : Int} {X : Option (σ ⊕ R)} (c : Int) (hc : c ≠ 0) (hX : b = false → X = ffS out nxt F') : br b (some (.inr (out c))) X = ffS out nxt (bif b then c else F') := by
  cases b with
  | true => simp [br_true, ffS, hc]
  | false => simp only [br_false, cond_false]; exact hX rfl
theorem br_ret {b : Bool} {F' : Int} {X : Option (Int × Unit)} (c : Int) (hX : b = false → X = some (F', ())) : br b (some (c, ())) X = some ((bif b then c else F'), ()) := by
  cases b with
  | true => rfl
  | false => exact hX rfl
/-- An error of a part is handed on. -/
theorem br_on {σ R : Type} {out : Int → R} {nxt : σ} {a : Int} : br (a != 0) (some (.inr (out a))) (some (.inl nxt)) = ffS out nxt a := by
  unfold ffS; by_cases h : a = 0
  · simp [h, br_false]
  · have : (a != 0) = true := by simpa using h
    rw [this, br_true, if_pos h]

/-- The first place of a list where it holds. -/
theorem loop_find {α R : Type} {f : Int × Unit → Option ((Int × Unit) ⊕ R)} (l : List α) (p : α → Bool) (out : Nat → R) (fin : R)
    (h : ∀ k (hk : k < l.length), f ((k : Int), ()) = if p l[k] = true then some (.inr (out k)) else some (.inl (((k + 1 : Nat) : Int), ())))
    (he : f ((l.length : Int), ()) = some (.inr fin)) : loopM f ((0 : Int), ()) = some (match l.findIdx? p with | some k => out k | none => fin) := by
  refine loop_st (A := Unit) (fun k _ => ((k : Int), ())) l.length (fun _ _ => match l.findIdx? p with | some k => out k | none => fin) (fun k _ => ∀ j (hj : j < l.length), j < k → p l[j] = false) (fun k _ hk hI => ?_) 0 () (Nat.zero_le _) (fun j _ hj => by omega)
  by_cases hlt : k < l.length
  · rw [h k hlt]
    by_cases hp : p l[k] = true
    · right
      have : l.findIdx? p = some k := by
        rw [List.findIdx?_eq_some_iff_getElem]
        exact ⟨hlt, hp, fun j hj => by rw [hI j (by omega) hj]; simp⟩
      rw [if_pos hp, this]
    · left
      refine ⟨(), hlt, by rw [if_neg hp], fun j hj hjk => ?_, rfl⟩
      by_cases hjk' : j = k
      · subst hjk'; simpa using hp
      · exact hI j hj (by omega)
  · right
    obtain rfl : k = l.length := by omega
    have : l.findIdx? p = none := by
      rw [List.findIdx?_eq_none_iff]
      intro x hx
      obtain ⟨j, hj, rfl⟩ := List.getElem_of_mem hx
      exact hI j hj hj
    rw [he, this]

/-- What is gathered of a list. -/
theorem loop_col {α β R : Type} {f : List β × Int × Unit → Option ((List β × Int × Unit) ⊕ R)} (l : List α) (g : α → Option β) (out : List β → R)
    (h : ∀ k (hk : k < l.length) (a : List β), a.length ≤ k → f (a, (k : Int), ()) = match g l[k] with | some y => some (.inl (a ++ [y], ((k + 1 : Nat) : Int), ())) | none => some (.inl (a, ((k + 1 : Nat) : Int), ())))
    (he : ∀ a, f (a, (l.length : Int), ()) = some (.inr (out a))) : loopM f ([], (0 : Int), ()) = some (out (l.filterMap g)) := by
  have := loop_st (A := List β) (f := f) (fun k a => (a, (k : Int), ())) l.length (fun k a => out (a ++ (l.drop k).filterMap g)) (fun k a => a.length ≤ k) (fun k a hk hI => ?_) 0 [] (Nat.zero_le _) (Nat.le_refl _)
  · simpa using this
  · by_cases hlt : k < l.length
    · left
      rw [h k hlt a hI]
      rw [List.drop_eq_getElem_cons hlt, List.filterMap_cons]
      cases hg : g l[k] with
      | some y => exact ⟨a ++ [y], hlt, rfl, by simp; omega, by simp⟩
      | none => exact ⟨a, hlt, rfl, by omega, rfl⟩
    · right
      obtain rfl : k = l.length := by omega
      rw [he, List.drop_of_length_le (Nat.le_refl _)]; simp
/-- A loop that folds. -/
theorem loop_fold {α A R : Type} {σ : Type} {f : σ → Option (σ ⊕ R)} (mk : Nat → A → σ) (l : List α) (g : A → α → A) (out : A → R) (I : Nat → A → Prop)
    (h : ∀ k (hk : k < l.length) (a : A), I k a → f (mk k a) = some (.inl (mk (k + 1) (g a l[k]))) ∧ I (k + 1) (g a l[k]))
    (he : ∀ a, I l.length a → f (mk l.length a) = some (.inr (out a))) (a0 : A) (h0 : I 0 a0) : loopM f (mk 0 a0) = some (out (l.foldl g a0)) := by
  have := loop_st (A := A) (f := f) mk l.length (fun k a => out ((l.drop k).foldl g a)) I (fun k a hk hI => ?_) 0 a0 (Nat.zero_le _) h0
  · simpa using this
  · by_cases hlt : k < l.length
    · left
      obtain ⟨h1, h2⟩ := h k hlt a hI
      exact ⟨_, hlt, h1, h2, by rw [List.drop_eq_getElem_cons hlt]; rfl⟩
    · right
      obtain rfl : k = l.length := by omega
      rw [he a hI, List.drop_of_length_le (Nat.le_refl _)]; simp
end Pe
end
section
/- The fourth law in plain, first part: what of a catalogue is wrong. -/
set_option maxRecDepth 100000
namespace Pe.Tryd
open Go Go.Proofs Pe LicSpec

abbrev Cat := Gt.Catalog
/-- A name is not greater than another one. -/
def leN (a b : List UInt8) : Bool := Op.bytesLess a b || a == b
def sAt (l : List (List UInt8)) (k : Nat) : List UInt8 := l[k]?.getD []
def nF (l : List (List UInt8)) (k : Nat) : Int := bif !isName (sAt l k) then 8 else bif decide (0 < k) && leN (sAt l k) (sAt l (k - 1)) then 10 else 0
def nFs (l : List (List UInt8)) : Int := ff (nF l) l.length
def rule0 : Gt.LicenceRule := ⟨[], [], 0, []⟩
def exc0 : Gt.Exception := ⟨[], [], []⟩
def rAt (l : List Gt.LicenceRule) (k : Nat) : Gt.LicenceRule := l[k]?.getD rule0
def eAt (l : List Gt.Exception) (k : Nat) : Gt.Exception := l[k]?.getD exc0
def twice (l : List Gt.LicenceRule) (f : List UInt8) (o : Int) (k : Nat) : Bool := (l.take k).any fun r => r.family == f && r.order == o
def lF (l : List Gt.LicenceRule) (k : Nat) : Int :=
  bif !isName (rAt l k).name then 8 else
  bif decide (0 < k) && leN (rAt l k).name (rAt l (k - 1)).name then 10 else
  bif (rAt l k).family != [] && !isName (rAt l k).family then 8 else
  bif (rAt l k).family == [] && (rAt l k).order != 0 then 2 else
  bif (rAt l k).family != [] && twice l (rAt l k).family (rAt l k).order k then 5 else
  bif decide ((rAt l k).order < 0) || decide (1000000 < (rAt l k).order) then 9 else
  bif decide (50 < len (rAt l k).obligations) then 3 else nFs (rAt l k).obligations
def lIx (c : Cat) (s : List UInt8) : Option Nat := c.licences.findIdx? fun r => r.name == s
def xIx (c : Cat) (s : List UInt8) : Option Nat := c.exceptions.findIdx? fun r => r.name == s
def oF (c : Cat) (x : Gt.Exception) (k : Nat) : Int := bif (lIx c (sAt x.for_ k)).isNone then 4 else bif decide (0 < k) && leN (sAt x.for_ k) (sAt x.for_ (k - 1)) then 10 else 0
def xOne (c : Cat) (x : Gt.Exception) : Int :=
  bif decide (500 < len x.for_) then 3 else bif ff (oF c x) x.for_.length != 0 then ff (oF c x) x.for_.length else bif decide (50 < len x.lifts) then 3 else nFs x.lifts
def xF (c : Cat) (k : Nat) : Int :=
  bif !isName (eAt c.exceptions k).name then 8 else bif decide (0 < k) && leN (eAt c.exceptions k).name (eAt c.exceptions (k - 1)).name then 10 else xOne c (eAt c.exceptions k)
def pAt (l : List Gt.A2_string) (k : Nat) : Gt.A2_string := l[k]?.getD ⟨[], []⟩
def same2 (p q : Gt.A2_string) : Bool := p.e0 == q.e0 && p.e1 == q.e1
def cF (l : List Gt.A2_string) (k : Nat) : Int :=
  bif !isName (pAt l k).e0 || !isName (pAt l k).e1 then 8 else bif leN (pAt l k).e1 (pAt l k).e0 then 10 else bif (l.take k).any (fun q => same2 q (pAt l k)) then 5 else 0
def catF (c : Cat) : Int :=
  bif decide (500 < len c.licences) || decide (50 < len c.exceptions) || decide (200 < len c.clashes) then 3 else
  bif ff (lF c.licences) c.licences.length != 0 then ff (lF c.licences) c.licences.length else
  bif ff (xF c) c.exceptions.length != 0 then ff (xF c) c.exceptions.length else ff (cF c.clashes) c.clashes.length

/-- What is laid as an argument is not huge. -/
def Txs (l : List (List UInt8)) : Prop := l.length ≤ 2000000 ∧ ∀ s ∈ l, s.length ≤ 2000000
structure SmallC (c : Cat) : Prop where
  lics : c.licences.length ≤ 2000000
  lic : ∀ r ∈ c.licences, r.name.length ≤ 2000000 ∧ r.family.length ≤ 2000000 ∧ Txs r.obligations
  excs : c.exceptions.length ≤ 2000000
  exc : ∀ x ∈ c.exceptions, x.name.length ≤ 2000000 ∧ Txs x.for_ ∧ Txs x.lifts
  cls : c.clashes.length ≤ 2000000
  cl : ∀ p ∈ c.clashes, p.e0.length ≤ 2000000 ∧ p.e1.length ≤ 2000000

theorem sAt_get {l : List (List UInt8)} {k : Nat} (h : k < l.length) : l[k] = sAt l k := by simp [sAt, h]
theorem rAt_get {l : List Gt.LicenceRule} {k : Nat} (h : k < l.length) : l[k] = rAt l k := by simp [rAt, h]
theorem eAt_get {l : List Gt.Exception} {k : Nat} (h : k < l.length) : l[k] = eAt l k := by simp [eAt, h]
theorem pAt_get {l : List Gt.A2_string} {k : Nat} (h : k < l.length) : l[k] = pAt l k := by simp [pAt, h]
theorem at_s {l : List (List UInt8)} {k : Nat} (h : k < l.length) : at? l (k : Int) = some (sAt l k) := by rw [at?_get h, sAt_get h]
theorem at_r {l : List Gt.LicenceRule} {k : Nat} (h : k < l.length) : at? l (k : Int) = some (rAt l k) := by rw [at?_get h, rAt_get h]
theorem at_e {l : List Gt.Exception} {k : Nat} (h : k < l.length) : at? l (k : Int) = some (eAt l k) := by rw [at?_get h, eAt_get h]
theorem at_p {l : List Gt.A2_string} {k : Nat} (h : k < l.length) : at? l (k : Int) = some (pAt l k) := by rw [at?_get h, pAt_get h]
theorem sAt_len {l : List (List UInt8)} (h : Txs l) (k : Nat) : (sAt l k).length ≤ 1000000000 := by
  unfold sAt
  cases he : l[k]? with
  | none => simp
  | some s => have := h.2 s (List.mem_of_getElem? he); simp; omega
theorem wrap_pred {k n : Nat} (h : 0 < k) (hk : k ≤ n) (hn : n ≤ 9223372036854775807) : IntKind.i64.wrap ((k : Int) - 1) = ((k - 1 : Nat) : Int) := by
  rw [wrap_id (by omega) (by omega)]; omega
theorem int_pos (k : Nat) : decide ((0 : Int) < (k : Int)) = decide (0 < k) := decide_eq_decide.2 (by omega)
theorem int_zero (k : Nat) : ((k : Int) == 0) = !decide (0 < k) := by
  by_cases h : k = 0
  · subst h; rfl
  · have : 0 < k := by omega
    simp [this]; omega
/-- "not the first, and of the one before", as the texts ask it -/
theorem br_prev {α : Type} {k : Nat} {X : Option α} {g : α → Bool} (y0 : α) (h : 0 < k → X = some y0) : br (decide ((0 : Int) < (k : Int))) (ob X fun y => some (g y)) (some false) = some (decide (0 < k) && g y0) := by
  rw [int_pos]
  by_cases h0 : 0 < k
  · rw [h h0]; simp [h0, br_true, ob_some_eq]
  · simp [h0, br_false]

theorem L63 (o : Orc Sx) {l : List (List UInt8)} {k : Nat} (hk : k < l.length) (hl : l.length ≤ 9223372036854775807) : m63 o l (k : Int) = some (!(decide (0 < k) && leN (sAt l k) (sAt l (k - 1))), ()) := by
  unfold m63
  rw [int_zero]
  by_cases h : 0 < k
  · rw [wrap_pred h (Nat.le_of_lt hk) hl, at_s hk, at_s (by omega : k - 1 < l.length)]; simp [h, br_false, ob_some_eq, leN]
  · simp [h, br_true, ob_some_eq]

theorem L60 {n : Nat} (hn : 2 ≤ n) {l : List (List UInt8)} (h : Txs l) : m60 (orcN n) l = some (nFs l, ()) := by
  unfold m60
  obtain ⟨n, rfl⟩ : ∃ k, n = k + 1 := ⟨n - 1, by omega⟩
  have hl := h.1
  rw [loop_ff1 l.length (nF l) (fun c => .inr (c, ())) (.inl ()) ?h1 ?h2]
  case h1 =>
    intro k hk _
    simp only [len_lt, hk, decide_true, br_true, at_s hk, ob_some_eq, G34 hn (sAt_len h k), q63, L63 (orcN n) hk (by omega), Bool.not_not, wrap_succ hk (by omega : l.length ≤ 9223372036854775807)]
    exact br_ff (out := fun c => Sum.inr (c, ())) 8 (by decide) fun _ => br_ff (out := fun c => Sum.inr (c, ())) 10 (by decide) fun _ => rfl
  case h2 => simp [len, br_false]
  unfold nFs
  by_cases h0 : ff (nF l) l.length = 0
  · simp [h0, cutM_inl]
  · simp [h0, cutM_inr]
theorem L65 {n : Nat} (hn : 2 ≤ n) {l : List (List UInt8)} (h : Txs l) (most : Int) : m65 (orcN n) l most = some (bif decide (most < len l) then 3 else nFs l, ()) := by
  unfold m65
  have hl := h.1
  refine br_ret 3 fun _ => ?_
  rw [loop_ff1 l.length (nF l) (fun c => .inr (c, ())) (.inl ()) ?h1 ?h2]
  case h1 =>
    intro k hk _
    simp only [len_lt, hk, decide_true, br_true, at_s hk, ob_some_eq, G39 hn (sAt_len h k), wrap_succ hk (by omega : l.length ≤ 9223372036854775807)]
    rw [br_prev (sAt l (k - 1)) fun h0 => by rw [wrap_pred h0 (Nat.le_of_lt hk) (by omega), at_s (by omega : k - 1 < l.length)]]
    exact br_ff (out := fun c => Sum.inr (c, ())) 8 (by decide) fun _ => br_ff (out := fun c => Sum.inr (c, ())) 10 (by decide) fun _ => rfl
  case h2 => simp [len, br_false]
  unfold nFs
  by_cases h0 : ff (nF l) l.length = 0
  · simp [h0, cutM_inl]
  · simp [h0, cutM_inr]
end Pe.Tryd
end
section
/- The fourth law in plain, second part: a whole catalogue. -/
set_option maxRecDepth 100000
namespace Pe.Tryd
open Go Go.Proofs Pe LicSpec

theorem keq_rank (x y : Gt.Licence_rank) : keq un (.st 8) x y = (x.family == y.family && (x.order == y.order && true)) := by kernel_rfl
theorem keq_iff (x y : Gt.Licence_rank) : keq un (.st 8) x y = true ↔ x = y := by
  rw [keq_rank]
  cases x; cases y; simp
theorem twice_succ {l : List Gt.LicenceRule} {k : Nat} (hk : k < l.length) (f : List UInt8) (o : Int) : twice l f o (k + 1) = (twice l f o k || ((rAt l k).family == f && (rAt l k).order == o)) := by
  unfold twice
  rw [List.take_succ_eq_append_getElem hk, List.any_append, rAt_get hk]; simp
theorem rAt_mem {l : List Gt.LicenceRule} {k : Nat} (hk : k < l.length) : rAt l k ∈ l := by rw [← rAt_get hk]; exact List.getElem_mem hk
theorem eAt_mem {l : List Gt.Exception} {k : Nat} (hk : k < l.length) : eAt l k ∈ l := by rw [← eAt_get hk]; exact List.getElem_mem hk
theorem pAt_mem {l : List Gt.A2_string} {k : Nat} (hk : k < l.length) : pAt l k ∈ l := by rw [← pAt_get hk]; exact List.getElem_mem hk

def SmallR (l : List Gt.LicenceRule) : Prop := l.length ≤ 2000000 ∧ ∀ r ∈ l, r.name.length ≤ 2000000 ∧ r.family.length ≤ 2000000 ∧ Txs r.obligations
theorem ob_and {b c : Bool} {α : Type} {f : Bool → Option α} : ob (br b (some c) (some false)) f = f (b && c) := by rw [br_some_eq, ob_some_eq, cond_and]
theorem ob_or {b c : Bool} {α : Type} {f : Bool → Option α} : ob (br b (some true) (some c)) f = f (b || c) := by rw [br_some_eq, ob_some_eq, cond_or]

theorem L33 {n : Nat} (hn : 4 ≤ n) {l : List Gt.LicenceRule} (h : SmallR l) : m33 (orcN n) l = some (ff (lF l) l.length, ()) := by
  unfold m33
  obtain ⟨n, rfl⟩ : ∃ k, n = k + 1 := ⟨n - 1, by omega⟩
  have hl := h.1
  have hm := loop_ffX (R := (List (Gt.Licence_rank × Bool) × Unit) ⊕ (Int × Unit)) (f := fun (t1 : Int × List ((Gt.Licence_rank) × (Bool)) × Unit) => (br (decide (t1.1 < (len l))) (ob (at? l t1.1) fun y2 => (ob (α := Bool × Unit) ((orcN (n + 1)).d 34 [.str (Gt.LicenceRule.name y2)] [.bool]) fun (r3 : Bool × Unit) => (br (!r3.1) (some (.inr (.inr (8, ())))) (ob (br (decide (0 < t1.1)) (ob (at? l (IntKind.i64.wrap (t1.1 - 1))) fun y4 => (some ((Op.bytesLess (Gt.LicenceRule.name y2) (Gt.LicenceRule.name y4)) || ((Gt.LicenceRule.name y2) == (Gt.LicenceRule.name y4))))) (some false)) fun b5 => (br b5 (some (.inr (.inr (10, ())))) (ob (br ((Gt.LicenceRule.family y2) != []) (ob (α := Bool × Unit) ((orcN (n + 1)).d 34 [.str (Gt.LicenceRule.family y2)] [.bool]) fun (r6 : Bool × Unit) => (some (!r6.1))) (some false)) fun b7 => (br b7 (some (.inr (.inr (8, ())))) (ob (br ((Gt.LicenceRule.family y2) == []) (some ((Gt.LicenceRule.order y2) != 0)) (some false)) fun b8 => (br b8 (some (.inr (.inr (2, ())))) (ob (br ((Gt.LicenceRule.family y2) != []) (some (mget (keq un (.st 8)) (Gt.Licence_rank.mk (Gt.LicenceRule.family y2) (Gt.LicenceRule.order y2)) false t1.2.1)) (some false)) fun b9 => (br b9 (some (.inr (.inr (5, ())))) (ob (br (decide ((Gt.LicenceRule.order y2) < 0)) (some true) (some (decide (1000000 < (Gt.LicenceRule.order y2))))) fun b10 => (br b10 (some (.inr (.inr (9, ())))) (br (decide (50 < (len (Gt.LicenceRule.obligations y2)))) (some (.inr (.inr (3, ())))) (ob (α := Int × Unit) ((orcN (n + 1)).d 60 [.sl .str (Gt.LicenceRule.obligations y2)] [(.int .i64)]) fun (r11 : Int × Unit) => (br (r11.1 != 0) (some (.inr (.inr (r11.1, ())))) (some (.inl ((IntKind.i64.wrap (t1.1 + 1)), (mput (keq un (.st 8)) (Gt.Licence_rank.mk (Gt.LicenceRule.family y2) (Gt.LicenceRule.order y2)) true t1.2.1), ()))))))))))))))))))) (some (.inr (.inl (t1.2.1, ()))))))
    (fun (k : Nat) (m : List (Gt.Licence_rank × Bool)) => ((k : Int), m, ())) l.length (lF l) (fun c => .inr (c, ())) (fun m => .inl (m, ())) (fun k m => ∀ q : Gt.Licence_rank, mget (keq un (.st 8)) q false m = twice l q.family q.order k) ?h1 ?h2 [] (fun q => rfl)
  case h1 =>
    intro k m hk hI _
    obtain ⟨r1, r2, r3⟩ := h.2 _ (rAt_mem hk)
    refine ⟨mput (keq un (.st 8)) ⟨(rAt l k).family, (rAt l k).order⟩ true m, fun q => ?_, ?_⟩
    · refine (mget_mput (K := Gt.Licence_rank) (V := Bool) (eq := keq un (.st 8)) keq_iff _ q true false m).trans ?_
      have e : ∀ g b : Bool, g = twice l q.family q.order k → b = (q.family == (rAt l k).family && (q.order == (rAt l k).order && true)) → (bif b then true else g) = twice l q.family q.order (k + 1) := by
        rintro _ _ rfl rfl
        rw [twice_succ hk, show (q.family == (rAt l k).family) = ((rAt l k).family == q.family) from BEq.comm, show (q.order == (rAt l k).order) = ((rAt l k).order == q.order) from BEq.comm]
        generalize ((rAt l k).family == q.family) = b1
        generalize ((rAt l k).order == q.order) = b2
        generalize twice l q.family q.order k = b3
        cases b1 <;> cases b2 <;> cases b3 <;> rfl
      exact e _ _ (hI q) (keq_rank q _)
    · simp only [len_lt, hk, decide_true, br_true, at_r hk, ob_some_eq, G34 (by omega : 2 ≤ n + 1) (by omega : (rAt l k).name.length ≤ 1000000000), G34 (by omega : 2 ≤ n + 1) (by omega : (rAt l k).family.length ≤ 1000000000), wrap_succ hk (by omega : l.length ≤ 9223372036854775807), hI, ob_and, ob_or, q60, L60 (by omega : 2 ≤ n) r3]
      rw [br_prev (rAt l (k - 1)) fun h0 => by rw [wrap_pred h0 (Nat.le_of_lt hk) (by omega), at_r (by omega : k - 1 < l.length)]]
      unfold lF
      exact br_ff (out := fun c => Sum.inr (c, ())) 8 (by decide) fun _ => br_ff (out := fun c => Sum.inr (c, ())) 10 (by decide) fun _ => br_ff (out := fun c => Sum.inr (c, ())) 8 (by decide) fun _ =>
        br_ff (out := fun c => Sum.inr (c, ())) 2 (by decide) fun _ => br_ff (out := fun c => Sum.inr (c, ())) 5 (by decide) fun _ => br_ff (out := fun c => Sum.inr (c, ())) 9 (by decide) fun _ =>
        br_ff (out := fun c => Sum.inr (c, ())) 3 (by decide) fun _ => br_on (out := fun c => Sum.inr (c, ()))
  case h2 => intro a _; simp [len, br_false]
  obtain ⟨m', hm⟩ := hm
  rw [show ((0 : Int), ([] : List (Gt.Licence_rank × Bool)), ()) = (((0 : Nat) : Int), ([] : List (Gt.Licence_rank × Bool)), ()) from rfl, hm]
  by_cases h0 : ff (lF l) l.length = 0
  · simp [h0, cutM_inl]
  · simp [h0, cutM_inr]
end Pe.Tryd
namespace Pe.Tryd
open Go Go.Proofs Pe LicSpec

/-- The first n places, one after another, where something holds: the loop of the reference. -/
theorem loop_any {R : Type} {f : Int × Unit → Option ((Int × Unit) ⊕ R)} (n : Nat) (p : Nat → Bool) (yes no : R)
    (h : ∀ k, k < n → f ((k : Int), ()) = if p k = true then some (.inr yes) else some (.inl (((k + 1 : Nat) : Int), ())))
    (he : f ((n : Int), ()) = some (.inr no)) : loopM f ((0 : Int), ()) = some (bif (List.range n).any p then yes else no) := by
  have := loop_find (f := f) (List.range n) p (fun _ => yes) no (fun k hk => by
    have hk' : k < n := by simpa using hk
    rw [h k hk', List.getElem_range]) (by simpa using he)
  rw [this]
  cases hf : (List.range n).findIdx? p with
  | some k =>
    have : (List.range n).any p = true := by
      rw [List.findIdx?_eq_some_iff_getElem] at hf
      obtain ⟨h1, h2, _⟩ := hf
      exact List.any_eq_true.2 ⟨_, List.getElem_mem h1, h2⟩
    rw [this]; rfl
  | none =>
    have : (List.range n).any p = false := by
      rw [List.findIdx?_eq_none_iff] at hf
      rw [List.any_eq_false]; intro x hx; simpa using hf x hx
    rw [this]; rfl
theorem any_range_take {α : Type} {l : List α} {n : Nat} (hn : n ≤ l.length) (p : α → Bool) (q : Nat → Bool) (h : ∀ k (hk : k < l.length), q k = p l[k]) : (List.range n).any q = (l.take n).any p := by
  induction n with
  | zero => simp
  | succ n ih =>
    rw [List.range_succ, List.any_append, ih (by omega), List.take_succ_eq_append_getElem (by omega), List.any_append]
    simp [h n (by omega)]

theorem L37 {n : Nat} (hn : 4 ≤ n) {l : List Gt.LicenceRule} (h : SmallR l) {k : Nat} (hk : k < l.length) : m37 (orcN n) l (k : Int) = some (lF l k, ()) := by
  unfold m37
  obtain ⟨n, rfl⟩ : ∃ k, n = k + 1 := ⟨n - 1, by omega⟩
  have hl := h.1
  obtain ⟨r1, r2, r3⟩ := h.2 _ (rAt_mem hk)
  simp only [at_r hk, ob_some_eq, G39 (by omega : 2 ≤ n + 1) (by omega : (rAt l k).name.length ≤ 1000000000), G39 (by omega : 2 ≤ n + 1) (by omega : (rAt l k).family.length ≤ 1000000000), ob_and, ob_or, q65, L65 (by omega : 2 ≤ n) r3]
  rw [br_prev (rAt l (k - 1)) fun h0 => by rw [wrap_pred h0 (Nat.le_of_lt hk) (by omega), at_r (by omega : k - 1 < l.length)]]
  rw [loop_any k (fun j => (rAt l k).family != [] && ((rAt l j).family == (rAt l k).family && (rAt l j).order == (rAt l k).order)) (.inr (5, ())) (.inl ()) ?h1 ?h2]
  case h1 =>
    intro j hj
    have hjl : j < l.length := by omega
    have e : decide ((j : Int) < (k : Int)) = true := decide_eq_true (by omega)
    simp only [e, br_true, at_r hjl, ob_some_eq, wrap_succ hj (by omega : k ≤ 9223372036854775807), ob_and]
    cases (rAt l k).family != [] <;> cases (rAt l j).family == (rAt l k).family <;> cases (rAt l j).order == (rAt l k).order <;> rfl
  case h2 => simp [br_false]
  rw [any_range_take (Nat.le_of_lt hk) (fun r => (rAt l k).family != [] && (r.family == (rAt l k).family && r.order == (rAt l k).order)) _ (fun j hj => by rw [← rAt_get hj])]
  have ha : ((l.take k).any fun r => (rAt l k).family != [] && (r.family == (rAt l k).family && r.order == (rAt l k).order)) = ((rAt l k).family != [] && twice l (rAt l k).family (rAt l k).order k) := by
    cases (rAt l k).family != [] with
    | true => rfl
    | false => simp
  rw [ha]
  unfold lF
  refine br_ret 8 fun _ => br_ret 10 fun _ => br_ret 8 fun _ => br_ret 2 fun _ => ?_
  cases ((rAt l k).family != [] && twice l (rAt l k).family (rAt l k).order k) with
  | true => rfl
  | false => exact br_ret 9 fun _ => rfl

/-! where a licence, an exception is -/
def ixI : Option Nat → Int
  | some k => (k : Int)
  | none => -1
theorem ix_neg (o : Option Nat) : decide (ixI o < 0) = o.isNone := by
  cases o with
  | none => rfl
  | some k => exact decide_eq_false (by simp only [ixI]; omega)
theorem ix_pos (o : Option Nat) : decide (0 ≤ ixI o) = o.isSome := by
  cases o with
  | none => rfl
  | some k => exact decide_eq_true (by simp only [ixI]; omega)
theorem L56 (o : Orc Sx) {c : Cat} (h : c.licences.length ≤ 2000000) (s : List UInt8) : m56 o c s = some (ixI (lIx c s), ()) := by
  unfold m56
  rw [loop_find c.licences (fun r => r.name == s) (fun k => .inr ((k : Int), ())) (.inl ()) ?h1 ?h2]
  case h1 =>
    intro k hk
    simp only [len_lt, hk, decide_true, br_true, at?_get hk, ob_some_eq, wrap_succ hk (by omega : c.licences.length ≤ 9223372036854775807)]
    cases (c.licences[k].name == s) <;> rfl
  case h2 => simp [len, br_false]
  unfold lIx
  cases c.licences.findIdx? fun r => r.name == s <;> rfl
theorem L58 (o : Orc Sx) {c : Cat} (h : c.exceptions.length ≤ 2000000) (s : List UInt8) : m58 o c s = some (ixI (xIx c s), ()) := by
  unfold m58
  rw [loop_find c.exceptions (fun r => r.name == s) (fun k => .inr ((k : Int), ())) (.inl ()) ?h1 ?h2]
  case h1 =>
    intro k hk
    simp only [len_lt, hk, decide_true, br_true, at?_get hk, ob_some_eq, wrap_succ hk (by omega : c.exceptions.length ≤ 9223372036854775807)]
    cases (c.exceptions[k].name == s) <;> rfl
  case h2 => simp [len, br_false]
  unfold xIx
  cases c.exceptions.findIdx? fun r => r.name == s <;> rfl
def lGet (c : Cat) (s : List UInt8) : Gt.LicenceRule := match lIx c s with | some k => rAt c.licences k | none => rule0
def xGet (c : Cat) (s : List UInt8) : Gt.Exception := match xIx c s with | some k => eAt c.exceptions k | none => exc0
theorem lIx_lt {c : Cat} {s : List UInt8} {k : Nat} (h : lIx c s = some k) : k < c.licences.length := (List.findIdx?_eq_some_iff_getElem.1 h).1
theorem xIx_lt {c : Cat} {s : List UInt8} {k : Nat} (h : xIx c s = some k) : k < c.exceptions.length := (List.findIdx?_eq_some_iff_getElem.1 h).1
theorem L52 (o : Orc Sx) {c : Cat} (h : c.licences.length ≤ 2000000) (s : List UInt8) : m52 o c s = some (lGet c s, (lIx c s).isSome, ()) := by
  unfold m52
  rw [loop_find c.licences (fun r => r.name == s) (fun k => .inr ((k : Int), ())) (.inl ()) ?h1 ?h2]
  case h1 =>
    intro k hk
    simp only [len_lt, hk, decide_true, br_true, at?_get hk, ob_some_eq, wrap_succ hk (by omega : c.licences.length ≤ 9223372036854775807)]
    cases (c.licences[k].name == s) <;> rfl
  case h2 => simp [len, br_false]
  unfold lGet
  cases hx : lIx c s with
  | none => unfold lIx at hx; rw [hx]; rfl
  | some k =>
    have hk := lIx_lt hx
    unfold lIx at hx
    rw [hx]
    simp only [cutM_inr, ob_some_eq, at_r hk, show decide ((k : Int) < 0) = false from decide_eq_false (by omega), br_false]
    rfl
theorem L53 (o : Orc Sx) {c : Cat} (h : c.exceptions.length ≤ 2000000) (s : List UInt8) : m53 o c s = some (xGet c s, (xIx c s).isSome, ()) := by
  unfold m53
  rw [loop_find c.exceptions (fun r => r.name == s) (fun k => .inr ((k : Int), ())) (.inl ()) ?h1 ?h2]
  case h1 =>
    intro k hk
    simp only [len_lt, hk, decide_true, br_true, at?_get hk, ob_some_eq, wrap_succ hk (by omega : c.exceptions.length ≤ 9223372036854775807)]
    cases (c.exceptions[k].name == s) <;> rfl
  case h2 => simp [len, br_false]
  unfold xGet
  cases hx : xIx c s with
  | none => unfold xIx at hx; rw [hx]; rfl
  | some k =>
    have hk := xIx_lt hx
    unfold xIx at hx
    rw [hx]
    simp only [cutM_inr, ob_some_eq, at_e hk, show decide ((k : Int) < 0) = false from decide_eq_false (by omega), br_false]
    rfl
end Pe.Tryd
end
section
/- The fourth law in plain, third part: CheckCatalog of both sides. -/
set_option maxRecDepth 100000
namespace Pe.Tryd
open Go Go.Proofs Pe LicSpec

theorem SmallC.rules {c : Cat} (h : SmallC c) : SmallR c.licences := ⟨h.lics, h.lic⟩

theorem L35 {n : Nat} (hn : 4 ≤ n) {c : Cat} (hc : SmallC c) {x : Gt.Exception} (hx : Txs x.for_ ∧ Txs x.lifts) : m35 (orcN n) c x = some (xOne c x, ()) := by
  unfold m35
  obtain ⟨n, rfl⟩ : ∃ k, n = k + 1 := ⟨n - 1, by omega⟩
  have hl := hx.1.1
  unfold xOne
  refine br_ret 3 fun _ => ?_
  rw [loop_ff1 x.for_.length (oF c x) (fun c => .inr (c, ())) (.inl ()) ?h1 ?h2]
  case h1 =>
    intro k hk _
    simp only [len_lt, hk, decide_true, br_true, at_s hk, ob_some_eq, q52, L52 (orcN n) hc.lics, q63, L63 (orcN n) hk (by omega), Bool.not_not, wrap_succ hk (by omega : x.for_.length ≤ 9223372036854775807), Option.not_isSome]
    exact br_ff (out := fun c => Sum.inr (c, ())) 4 (by decide) fun _ => br_ff (out := fun c => Sum.inr (c, ())) 10 (by decide) fun _ => rfl
  case h2 => simp [len, br_false]
  by_cases h0 : ff (oF c x) x.for_.length = 0
  · simp only [h0, bne_self_eq_false, cond_false, ne_eq, not_true, if_false, cutM_inl, q60, L60 (by omega : 2 ≤ n) hx.2, ob_some_eq]
    exact br_ret 3 fun _ => rfl
  · have : (ff (oF c x) x.for_.length != 0) = true := by simpa using h0
    rw [if_pos h0, cutM_inr, this]; rfl

theorem L38 {n : Nat} (hn : 4 ≤ n) {c : Cat} (hc : SmallC c) {k : Nat} (hk : k < c.exceptions.length) : m38 (orcN n) c (k : Int) = some (xF c k, ()) := by
  unfold m38
  obtain ⟨n, rfl⟩ : ∃ k, n = k + 1 := ⟨n - 1, by omega⟩
  have hl := hc.excs
  obtain ⟨r1, r2, r3⟩ := hc.exc _ (eAt_mem hk)
  have hl2 := r2.1
  simp only [at_e hk, ob_some_eq, G39 (by omega : 2 ≤ n + 1) (by omega : (eAt c.exceptions k).name.length ≤ 1000000000)]
  rw [br_prev (eAt c.exceptions (k - 1)) fun h0 => by rw [wrap_pred h0 (Nat.le_of_lt hk) (by omega), at_e (by omega : k - 1 < c.exceptions.length)]]
  unfold xF xOne
  simp only [ob_some_eq]
  refine br_ret 8 fun _ => br_ret 10 fun _ => br_ret 3 fun _ => ?_
  rw [loop_ff1 (eAt c.exceptions k).for_.length (oF c (eAt c.exceptions k)) (fun c => .inr (c, ())) (.inl ()) ?h1 ?h2]
  case h1 =>
    intro j hj _
    simp only [len_lt, hj, decide_true, br_true, at_s hj, ob_some_eq, q56, L56 (orcN n) hc.lics, ix_neg, wrap_succ hj (by omega : (eAt c.exceptions k).for_.length ≤ 9223372036854775807)]
    rw [br_prev (sAt (eAt c.exceptions k).for_ (j - 1)) fun h0 => by rw [wrap_pred h0 (Nat.le_of_lt hj) (by omega), at_s (by omega : j - 1 < (eAt c.exceptions k).for_.length)]]
    exact br_ff (out := fun c => Sum.inr (c, ())) 4 (by decide) fun _ => br_ff (out := fun c => Sum.inr (c, ())) 10 (by decide) fun _ => rfl
  case h2 => simp [len, br_false]
  by_cases h0 : ff (oF c (eAt c.exceptions k)) (eAt c.exceptions k).for_.length = 0
  · simp only [h0, bne_self_eq_false, cond_false, ne_eq, not_true, if_false, cutM_inl, q65, L65 (by omega : 2 ≤ n) r3, ob_some_eq]
  · have : (ff (oF c (eAt c.exceptions k)) (eAt c.exceptions k).for_.length != 0) = true := by simpa using h0
    rw [if_pos h0, cutM_inr, this]; rfl

theorem same2_comm (p q : Gt.A2_string) : same2 p q = same2 q p := by
  unfold same2; rw [show (p.e0 == q.e0) = (q.e0 == p.e0) from BEq.comm, show (p.e1 == q.e1) = (q.e1 == p.e1) from BEq.comm]
theorem L64 (o : Orc Sx) {l : List Gt.A2_string} (hl : l.length ≤ 2000000) (v : Gt.A2_string) : m64 o l v = some (ixI (l.findIdx? (same2 v)), ()) := by
  unfold m64
  rw [loop_find l (same2 v) (fun k => .inr ((k : Int), ())) (.inl ()) ?h1 ?h2]
  case h1 =>
    intro k hk
    simp only [len_lt, hk, decide_true, br_true, at?_get hk, ob_some_eq, wrap_succ hk (by omega : l.length ≤ 9223372036854775807), Bool.and_true]
    show br (same2 v l[k]) _ _ = _
    cases same2 v l[k] <;> rfl
  case h2 => simp [len, br_false]
  cases l.findIdx? (same2 v) <;> rfl
theorem findIdx_any {α : Type} (l : List α) (p : α → Bool) : (l.findIdx? p).isSome = l.any p := by
  rw [List.findIdx?_isSome]
theorem L36 {n : Nat} (hn : 1 ≤ n) {l : List Gt.A2_string} (hl : l.length ≤ 2000000) (v : Gt.A2_string) : m36 (orcN n) l v = some (l.any (same2 v), ()) := by
  obtain ⟨n, rfl⟩ : ∃ k, n = k + 1 := ⟨n - 1, by omega⟩
  unfold m36
  simp only [q64, L64 (orcN n) hl, ob_some_eq, ix_pos, findIdx_any]

theorem L17 {n : Nat} (hn : 5 ≤ n) {c : Cat} (hc : SmallC c) : m17 (orcN n) c = some (catF c, ()) := by
  unfold m17
  obtain ⟨n, rfl⟩ : ∃ k, n = k + 1 := ⟨n - 1, by omega⟩
  unfold catF
  have l1 := hc.lics; have l2 := hc.excs; have l3 := hc.cls
  simp only [ob_or]
  refine br_ret 3 fun _ => ?_
  rw [loop_ff1 c.licences.length (lF c.licences) (fun c => .inr (c, ())) (.inl ()) ?h1 ?h2]
  case h1 =>
    intro k hk _
    simp only [len_lt, hk, decide_true, br_true, ob_some_eq, q37, L37 (by omega : 4 ≤ n) hc.rules hk, wrap_succ hk (by omega : c.licences.length ≤ 9223372036854775807)]
    exact br_on (out := fun c => Sum.inr (c, ()))
  case h2 => simp [len, br_false]
  by_cases h0 : ff (lF c.licences) c.licences.length = 0
  case neg =>
    have : (ff (lF c.licences) c.licences.length != 0) = true := by simpa using h0
    rw [if_pos h0, cutM_inr, this]; rfl
  simp only [h0, bne_self_eq_false, cond_false, ne_eq, not_true, if_false, cutM_inl]
  rw [loop_ff1 c.exceptions.length (xF c) (fun c => .inr (c, ())) (.inl ()) ?h3 ?h4]
  case h3 =>
    intro k hk _
    simp only [len_lt, hk, decide_true, br_true, ob_some_eq, q38, L38 (by omega : 4 ≤ n) hc hk, wrap_succ hk (by omega : c.exceptions.length ≤ 9223372036854775807)]
    exact br_on (out := fun c => Sum.inr (c, ()))
  case h4 => simp [len, br_false]
  by_cases h1 : ff (xF c) c.exceptions.length = 0
  case neg =>
    have : (ff (xF c) c.exceptions.length != 0) = true := by simpa using h1
    rw [if_pos h1, cutM_inr, this]; rfl
  simp only [h1, bne_self_eq_false, cond_false, ne_eq, not_true, if_false, cutM_inl]
  rw [loop_ff1 c.clashes.length (cF c.clashes) (fun c => .inr (c, ())) (.inl ()) ?h5 ?h6]
  case h5 =>
    intro k hk _
    obtain ⟨s1, s2⟩ := hc.cl _ (pAt_mem hk)
    simp only [len_lt, hk, decide_true, br_true, at_p hk, ob_some_eq, G39 (by omega : 2 ≤ n + 1) (by omega : (pAt c.clashes k).e0.length ≤ 1000000000), G39 (by omega : 2 ≤ n + 1) (by omega : (pAt c.clashes k).e1.length ≤ 1000000000), ob_or, wrap_succ hk (by omega : c.clashes.length ≤ 9223372036854775807)]
    rw [loop_any k (fun j => same2 (pAt c.clashes j) (pAt c.clashes k)) (.inr (.inr (.inr (5, ())))) (.inl ()) ?h7 ?h8]
    case h7 =>
      intro j hj
      have hjl : j < c.clashes.length := by omega
      have e : decide ((j : Int) < (k : Int)) = true := decide_eq_true (by omega)
      simp only [e, br_true, at_p hjl, ob_some_eq, wrap_succ hj (by omega : k ≤ 9223372036854775807), Bool.and_true]
      show br (same2 (pAt c.clashes j) (pAt c.clashes k)) _ _ = _
      cases same2 (pAt c.clashes j) (pAt c.clashes k) <;> rfl
    case h8 => simp [br_false]
    rw [any_range_take (Nat.le_of_lt hk) (fun r => same2 r (pAt c.clashes k)) _ (fun j hj => by rw [← pAt_get hj])]
    unfold cF leN
    cases (!isName (pAt c.clashes k).e0 || !isName (pAt c.clashes k).e1) with
    | true => rfl
    | false =>
      cases (Op.bytesLess (pAt c.clashes k).e1 (pAt c.clashes k).e0 || (pAt c.clashes k).e1 == (pAt c.clashes k).e0) with
      | true => rfl
      | false => cases ((c.clashes.take k).any fun r => same2 r (pAt c.clashes k)) <;> rfl
  case h6 => simp [len, br_false]
  by_cases h2 : ff (cF c.clashes) c.clashes.length = 0
  · simp [h2, cutM_inl]
  · simp [h2, cutM_inr]

theorem L16 {n : Nat} (hn : 5 ≤ n) {c : Cat} (hc : SmallC c) : m16 (orcN n) c = some (catF c, ()) := by
  unfold m16
  obtain ⟨n, rfl⟩ : ∃ k, n = k + 1 := ⟨n - 1, by omega⟩
  unfold catF
  have l1 := hc.lics; have l2 := hc.excs; have l3 := hc.cls
  simp only [ob_or]
  refine br_ret 3 fun _ => ?_
  simp only [q33, L33 (by omega : 4 ≤ n) hc.rules, ob_some_eq]
  by_cases h0 : ff (lF c.licences) c.licences.length = 0
  case neg =>
    have : (ff (lF c.licences) c.licences.length != 0) = true := by simpa using h0
    rw [this]; rfl
  simp only [h0, bne_self_eq_false, cond_false, br_false]
  rw [loop_ff1 c.exceptions.length (xF c) (fun c => .inr (c, ())) (.inl ()) ?h3 ?h4]
  case h3 =>
    intro k hk _
    obtain ⟨r1, r2⟩ := hc.exc _ (eAt_mem hk)
    simp only [len_lt, hk, decide_true, br_true, at_e hk, ob_some_eq, G34 (by omega : 2 ≤ n + 1) (by omega : (eAt c.exceptions k).name.length ≤ 1000000000), q35, L35 (by omega : 4 ≤ n) hc r2, wrap_succ hk (by omega : c.exceptions.length ≤ 9223372036854775807)]
    rw [br_prev (eAt c.exceptions (k - 1)) fun h0 => by rw [wrap_pred h0 (Nat.le_of_lt hk) (by omega), at_e (by omega : k - 1 < c.exceptions.length)]]
    exact br_ff (out := fun c => Sum.inr (c, ())) 8 (by decide) fun _ => br_ff (out := fun c => Sum.inr (c, ())) 10 (by decide) fun _ => br_on (out := fun c => Sum.inr (c, ()))
  case h4 => simp [len, br_false]
  by_cases h1 : ff (xF c) c.exceptions.length = 0
  case neg =>
    have : (ff (xF c) c.exceptions.length != 0) = true := by simpa using h1
    rw [if_pos h1, cutM_inr, this]; rfl
  simp only [h1, bne_self_eq_false, cond_false, ne_eq, not_true, if_false, cutM_inl]
  rw [loop_ff1 c.clashes.length (cF c.clashes) (fun c => .inr (c, ())) (.inl ()) ?h5 ?h6]
  case h5 =>
    intro k hk _
    obtain ⟨s1, s2⟩ := hc.cl _ (pAt_mem hk)
    simp only [len_lt, hk, decide_true, br_true, at_p hk, ob_some_eq, G34 (by omega : 2 ≤ n + 1) (by omega : (pAt c.clashes k).e0.length ≤ 1000000000), G34 (by omega : 2 ≤ n + 1) (by omega : (pAt c.clashes k).e1.length ≤ 1000000000), ob_or, wrap_succ hk (by omega : c.clashes.length ≤ 9223372036854775807)]
    rw [show ((0 : Int)) = ((0 : Nat) : Int) from rfl, part?_nat (Nat.zero_le _) (Nat.le_of_lt hk)]
    simp only [ob_some_eq, q36, List.drop_zero, Nat.sub_zero, L36 (by omega : 1 ≤ n) (by simp; omega : (c.clashes.take k).length ≤ 2000000)]
    unfold cF
    rw [show (c.clashes.take k).any (same2 (pAt c.clashes k)) = (c.clashes.take k).any (fun q => same2 q (pAt c.clashes k)) from congrArg (List.any _) (funext fun q => same2_comm _ _)]
    exact br_ff (out := fun c => Sum.inr (c, ())) 8 (by decide) fun _ => br_ff (out := fun c => Sum.inr (c, ())) 10 (by decide) fun _ => br_ff (out := fun c => Sum.inr (c, ())) 5 (by decide) fun _ => rfl
  case h6 => simp [len, br_false]
  by_cases h2 : ff (cF c.clashes) c.clashes.length = 0
  · simp [h2, cutM_inl]
  · simp [h2, cutM_inr]
end Pe.Tryd
end
section
/- The fourth law in plain, fourth part: the uses that a licence can be. -/
set_option maxRecDepth 100000
namespace Pe.Tryd
open Go Go.Proofs Pe LicSpec

def hasT (l : List (List UInt8)) (s : List UInt8) : Bool := l.any (· == s)
theorem L82 (o : Orc Sx) {l : List (List UInt8)} (hl : l.length ≤ 1000000000) (s : List UInt8) : m82 o l s = some (hasT l s, ()) := by
  unfold m82
  rw [loop_find l (· == s) (fun k => .inr (true, ())) (.inl ()) ?h1 ?h2]
  case h1 =>
    intro k hk
    simp only [len_lt, hk, decide_true, br_true, at?_get hk, ob_some_eq, wrap_succ hk (by omega : l.length ≤ 9223372036854775807)]
    cases (l[k] == s) <;> rfl
  case h2 => simp [len, br_false]
  unfold hasT
  rw [← findIdx_any]
  cases l.findIdx? (· == s) <;> rfl
theorem L30 {n : Nat} (hn : 1 ≤ n) {l : List (List UInt8)} (hl : l.length ≤ 1000000000) (s : List UInt8) : m30 (orcN n) l s = some (hasT l s, ()) := by
  obtain ⟨n, rfl⟩ : ∃ k, n = k + 1 := ⟨n - 1, by omega⟩
  unfold m30
  rw [q55]
  unfold m55
  rw [loop_find l (· == s) (fun k => .inr ((k : Int), ())) (.inl ()) ?h1 ?h2]
  case h1 =>
    intro k hk
    simp only [len_lt, hk, decide_true, br_true, at?_get hk, ob_some_eq, wrap_succ hk (by omega : l.length ≤ 9223372036854775807)]
    rw [show (s == l[k]) = (l[k] == s) from BEq.comm]
    cases (l[k] == s) <;> rfl
  case h2 => simp [len, br_false]
  unfold hasT
  rw [← findIdx_any]
  cases l.findIdx? (· == s) with
  | none => rfl
  | some k =>
    simp only [cutM_inr, ob_some_eq, Option.isSome_some]
    rw [show decide (0 ≤ (k : Int)) = true from decide_eq_true (by omega)]

/-- A licence stands for a later one of its family. -/
def laterR (c : Cat) (e : Ex) (r : Gt.LicenceRule) : Bool := ((e.later && (lGet c e.name).family != []) && r.family == (lGet c e.name).family) && decide ((lGet c e.name).order ≤ r.order)
def pick (c : Cat) (e : Ex) (r : Gt.LicenceRule) : Option Gt.Use := bif (r.name != (lGet c e.name).name && !laterR c e r) || (e.wth != [] && !hasT (xGet c e.wth).for_ r.name) then none else some ⟨r.name, e.wth⟩
def canS (c : Cat) (e : Ex) : List Gt.Use := bif (lIx c e.name).isSome then c.licences.filterMap (pick c e) else []

theorem xGet_small {c : Cat} (hc : SmallC c) (s : List UInt8) : Txs (xGet c s).for_ := by
  unfold xGet
  cases h : xIx c s with
  | none => exact ⟨by simp [exc0], by simp [exc0]⟩
  | some k => exact (hc.exc _ (eAt_mem (xIx_lt h))).2.1

theorem L54 {n : Nat} (hn : 3 ≤ n) {c : Cat} (hc : SmallC c) (e : Ex) : m54 (orcN n) c e = some (canS c e, ()) := by
  obtain ⟨n, rfl⟩ : ∃ k, n = k + 1 := ⟨n - 1, by omega⟩
  have hl := hc.lics
  unfold m54 canS
  rw [q52, L52 (orcN n) hc.lics]
  simp only [ob_some_eq]
  cases hk : (lIx c e.name).isSome with
  | false => rfl
  | true =>
  simp only [Bool.not_true, br_false, q53, L53 (orcN n) hc.excs, ob_some_eq, cond_true]
  have hx := xGet_small hc e.wth
  rw [loop_col c.licences (pick c e) (fun l => .inl (l, ())) ?h1 ?h2]
  case h1 =>
    intro k hk a ha
    simp only [len_lt, hk, decide_true, br_true, at?_get hk, ob_some_eq, ob_and, ob_or, wrap_succ hk (by omega : c.licences.length ≤ 9223372036854775807), q30, L30 (by omega : 1 ≤ n) (by have := hx.1; omega : (xGet c e.wth).for_.length ≤ 1000000000)]
    rw [cat?_ok (by have : lim = 4294967296 := rfl; simp; omega)]
    simp only [ob_some_eq]
    show br ((c.licences[k].name != (lGet c e.name).name && !laterR c e c.licences[k]) || (e.wth != [] && !hasT (xGet c e.wth).for_ c.licences[k].name)) _ _ = _
    unfold pick
    cases ((c.licences[k].name != (lGet c e.name).name && !laterR c e c.licences[k]) || (e.wth != [] && !hasT (xGet c e.wth).for_ c.licences[k].name)) <;> rfl
  case h2 => intro a; simp [len, br_false]
  rfl

def isFam (c : Cat) (e : Ex) (r : Gt.LicenceRule) : Bool := r.family == (lGet c e.name).family && decide ((lGet c e.name).order ≤ r.order)
def famS (c : Cat) (e : Ex) (n : Nat) : List Nat := bif !e.later || (lGet c e.name).family == [] then [n] else (List.range c.licences.length).filter fun i => isFam c e (rAt c.licences i)
theorem L83 {n : Nat} (hn : 1 ≤ n) {c : Cat} (hc : SmallC c) {e : Ex} {m : Nat} (hm : lIx c e.name = some m) : m83 (orcN n) c e = some ((famS c e m).map Int.ofNat, ()) := by
  obtain ⟨n, rfl⟩ : ∃ k, n = k + 1 := ⟨n - 1, by omega⟩
  have hl := hc.lics
  unfold m83 famS
  have hml := lIx_lt hm
  have hg : lGet c e.name = rAt c.licences m := by unfold lGet; rw [hm]
  simp only [q56, L56 (orcN n) hc.lics, hm, ixI, ob_some_eq, at_r hml, ← hg, ob_or]
  cases (!e.later || (lGet c e.name).family == []) with
  | true => rfl
  | false =>
  simp only [br_false, cond_false]
  rw [loop_col (List.range c.licences.length) (fun i => bif isFam c e (rAt c.licences i) then some (Int.ofNat i) else none) (fun l => .inl (l, ())) ?h1 ?h2]
  case h1 =>
    intro k hk' a ha
    have hk : k < c.licences.length := by simpa using hk'
    simp only [len_lt, hk, decide_true, br_true, at_r hk, ob_some_eq, ob_and, wrap_succ hk (by omega : c.licences.length ≤ 9223372036854775807), List.getElem_range]
    rw [cat?_ok (by have : lim = 4294967296 := rfl; simp; omega)]
    simp only [ob_some_eq]
    show br (isFam c e (rAt c.licences k)) _ _ = _
    cases isFam c e (rAt c.licences k) <;> rfl
  case h2 => intro a; simp [len, br_false]
  simp only [cutM_inl]
  congr 2
  generalize List.range c.licences.length = r
  induction r with
  | nil => rfl
  | cons i r ih => simp only [List.filterMap_cons, List.filter_cons]; cases isFam c e (rAt c.licences i) <;> simp_all

def pickR (c : Cat) (e : Ex) (i : Nat) : Option Gt.Use := bif e.wth == [] || hasT (xGet c e.wth).for_ (rAt c.licences i).name then some ⟨(rAt c.licences i).name, e.wth⟩ else none
theorem famS_lt {c : Cat} {e : Ex} {m : Nat} (hm : lIx c e.name = some m) {i : Nat} (h : i ∈ famS c e m) : i < c.licences.length := by
  unfold famS at h
  cases hb : (!e.later || (lGet c e.name).family == []) with
  | true => rw [hb] at h; simp at h; subst h; exact lIx_lt hm
  | false => rw [hb] at h; simp at h; exact h.1
theorem famS_len {c : Cat} (hc : SmallC c) {e : Ex} {m : Nat} : (famS c e m).length ≤ 2000000 := by
  unfold famS
  cases (!e.later || (lGet c e.name).family == []) with
  | true => simp
  | false => have := List.length_filter_le (fun i => isFam c e (rAt c.licences i)) (List.range c.licences.length); have := hc.lics; simp at *; omega

theorem L59 {n : Nat} (hn : 3 ≤ n) {c : Cat} (hc : SmallC c) {e : Ex} {m : Nat} (hm : lIx c e.name = some m) (hw : e.wth = [] ∨ (xIx c e.wth).isSome = true) :
    m59 (orcN n) c e = some ((famS c e m).filterMap (pickR c e), ()) := by
  obtain ⟨n, rfl⟩ : ∃ k, n = k + 1 := ⟨n - 1, by omega⟩
  unfold m59
  have hfl := famS_len hc (e := e) (m := m)
  rw [Ex.eta, q83, L83 (by omega : 1 ≤ n) hc hm]
  simp only [ob_some_eq]
  have hx := xGet_small hc e.wth
  rw [loop_col (famS c e m) (pickR c e) (fun l => .inl (l, ())) ?h1 ?h2]
  case h1 =>
    intro k hk a ha
    have hk2 : k < ((famS c e m).map Int.ofNat).length := by simpa using hk
    have hi := famS_lt hm (List.getElem_mem hk)
    have hat : at? c.licences (Int.ofNat (famS c e m)[k]) = some (rAt c.licences (famS c e m)[k]) := at_r hi
    simp only [len_lt, hk2, decide_true, br_true, at?_get hk2, ob_some_eq, wrap_succ hk (by omega : (famS c e m).length ≤ 9223372036854775807), List.getElem_map, hat, q58, L58 (orcN n) hc.excs]
    rw [cat?_ok (by have : lim = 4294967296 := rfl; simp; omega)]
    have hb : (br (e.wth == []) (some true) (ob (at? c.exceptions (ixI (xIx c e.wth))) fun y6 => (ob (α := Bool × Unit) ((orcN (n + 1)).d 82 [.sl .str (Gt.Exception.for_ y6), .str (Gt.LicenceRule.name (rAt c.licences (famS c e m)[k]))] [.bool]) fun (r7 : Bool × Unit) => (some r7.1)))) = some (e.wth == [] || hasT (xGet c e.wth).for_ (rAt c.licences (famS c e m)[k]).name) := by
      rcases hw with hw | hw
      · rw [hw]; rfl
      · cases hxi : xIx c e.wth with
        | none => rw [hxi] at hw; cases hw
        | some j =>
          have hg : xGet c e.wth = eAt c.exceptions j := by unfold xGet; rw [hxi]
          simp only [ixI, at_e (xIx_lt hxi), ← hg, ob_some_eq, q82, L82 (orcN n) (by have := hx.1; omega : (xGet c e.wth).for_.length ≤ 1000000000), br_some_eq, cond_or]
    rw [hb]
    simp only [ob_some_eq]
    unfold pickR
    cases (e.wth == [] || hasT (xGet c e.wth).for_ (rAt c.licences (famS c e m)[k]).name) <;> rfl
  case h2 => intro a; simp [len, br_false]
  rfl
end Pe.Tryd
end
section
/- The fourth law in plain, fifth part: the names of a right catalogue are different; what is not known. -/
set_option maxRecDepth 100000
namespace Pe.Tryd
open Go Go.Proofs Pe LicSpec

theorem leN_false {a b : List UInt8} (h : leN a b = false) : b < a := by
  unfold leN at h
  rw [bytesLess_eq] at h
  simp at h
  obtain ⟨h1, h2⟩ := h
  rcases (List.le_iff_lt_or_eq (l₁ := b) (l₂ := a)).1 (List.not_lt.1 (by simpa using h1)) with h3 | h3
  · exact h3
  · exact absurd h3.symm h2
theorem catF_zero {c : Cat} (h : catF c = 0) : (∀ k, k < c.licences.length → lF c.licences k = 0) ∧ (∀ k, k < c.exceptions.length → xF c k = 0) ∧ ¬ (500 < len c.licences) := by
  unfold catF at h
  cases h1 : (decide (500 < len c.licences) || decide (50 < len c.exceptions) || decide (200 < len c.clashes)) with
  | true => rw [h1] at h; cases h
  | false =>
  rw [h1] at h
  simp only [cond_false] at h
  by_cases h2 : ff (lF c.licences) c.licences.length = 0
  case neg => have : (ff (lF c.licences) c.licences.length != 0) = true := by simpa using h2
              rw [this] at h; exact absurd h h2
  simp only [h2, bne_self_eq_false, cond_false] at h
  by_cases h3 : ff (xF c) c.exceptions.length = 0
  case neg => have : (ff (xF c) c.exceptions.length != 0) = true := by simpa using h3
              rw [this] at h; exact absurd h h3
  refine ⟨fun k hk => ff_at h2 hk, fun k hk => ff_at h3 hk, fun h4 => ?_⟩
  rw [decide_eq_true h4] at h1; cases h1
theorem lF_zero {l : List Gt.LicenceRule} {k : Nat} (h : lF l k = 0) : isName (rAt l k).name = true ∧ (0 < k → (rAt l (k - 1)).name < (rAt l k).name) := by
  unfold lF at h
  cases h1 : isName (rAt l k).name with
  | false => rw [h1] at h; cases h
  | true =>
  rw [h1] at h
  simp only [Bool.not_true, cond_false] at h
  refine ⟨rfl, fun h0 => ?_⟩
  cases h2 : leN (rAt l k).name (rAt l (k - 1)).name with
  | true => rw [h2, decide_eq_true h0] at h; cases h
  | false => exact leN_false h2
theorem names_lt {c : Cat} (h : catF c = 0) : ∀ d i, i + d + 1 < c.licences.length → (rAt c.licences i).name < (rAt c.licences (i + d + 1)).name
  | 0, i, hi => (lF_zero ((catF_zero h).1 (i + 1) hi)).2 (by omega)
  | d + 1, i, hi => List.lt_trans (names_lt h d i (by omega)) ((lF_zero ((catF_zero h).1 (i + (d + 1) + 1) hi)).2 (by omega))
theorem names_ne {c : Cat} (h : catF c = 0) {i j : Nat} (hi : i < c.licences.length) (hj : j < c.licences.length) (he : (rAt c.licences i).name = (rAt c.licences j).name) : i = j := by
  rcases Nat.lt_trichotomy i j with hij | hij | hij
  · have := names_lt h (j - i - 1) i (by omega)
    rw [show i + (j - i - 1) + 1 = j by omega, he] at this
    exact absurd this (List.lt_irrefl _)
  · exact hij
  · have := names_lt h (i - j - 1) j (by omega)
    rw [show j + (i - j - 1) + 1 = i by omega, he] at this
    exact absurd this (List.lt_irrefl _)

theorem map_range {c : Cat} : c.licences = (List.range c.licences.length).map (rAt c.licences) := by
  apply List.ext_getElem
  · simp
  · intro i h1 h2; simp [← rAt_get h1]
theorem filterMap_one {α β : Type} {f : α → Option β} {l : List α} {n : Nat} (hn : n < l.length) (h : ∀ j (hj : j < l.length), j ≠ n → f l[j] = none) : l.filterMap f = (f l[n]).toList := by
  induction l generalizing n with
  | nil => simp at hn
  | cons a r ih =>
    cases n with
    | zero =>
      have hr : r.filterMap f = [] := by
        rw [List.filterMap_eq_nil_iff]
        intro x hx
        obtain ⟨j, hj, rfl⟩ := List.getElem_of_mem hx
        exact h (j + 1) (by simpa using hj) (by omega)
      rw [List.filterMap_cons, hr]
      show (match f a with | none => [] | some b => [b]) = _
      cases hf : f a <;> simp [hf]
    | succ n =>
      have h0 := h 0 (by simp) (by omega)
      simp at h0
      rw [List.filterMap_cons, h0]
      exact ih (by simpa using hn) fun j hj hjn => h (j + 1) (by simpa using hj) (by omega)
theorem fm_congr {α β : Type} {f g : α → Option β} : ∀ {l : List α}, (∀ x ∈ l, f x = g x) → l.filterMap f = l.filterMap g
  | [], _ => rfl
  | a :: r, h => by rw [List.filterMap_cons, List.filterMap_cons, h a (by simp), fm_congr fun x hx => h x (by simp [hx])]
theorem lIx_name {c : Cat} {s : List UInt8} {m : Nat} (h : lIx c s = some m) : (rAt c.licences m).name = s := by
  obtain ⟨h1, h2, _⟩ := List.findIdx?_eq_some_iff_getElem.1 h
  rw [rAt_get h1] at h2; simpa using h2

theorem uses_eq {c : Cat} (h : catF c = 0) {e : Ex} {m : Nat} (hm : lIx c e.name = some m) : canS c e = (famS c e m).filterMap (pickR c e) := by
  have hml := lIx_lt hm
  have hg : lGet c e.name = rAt c.licences m := by unfold lGet; rw [hm]
  unfold canS famS
  rw [hm]
  simp only [Option.isSome_some, cond_true]
  have key : ∀ i, i < c.licences.length → pick c e (rAt c.licences i) = bif decide (i = m) || laterR c e (rAt c.licences i) then pickR c e i else none := by
    intro i hi
    have hn : ((rAt c.licences i).name != (lGet c e.name).name) = !decide (i = m) := by
      rw [hg]
      by_cases him : i = m
      · subst him; simp
      · rw [decide_eq_false him]; simpa using fun he => him (names_ne h hi hml he)
    unfold pick pickR
    rw [hn]
    cases decide (i = m) <;> cases laterR c e (rAt c.licences i) <;> cases hw : (e.wth == []) <;> cases hasT (xGet c e.wth).for_ (rAt c.licences i).name <;> simp [bne, hw]
  cases hb : (!e.later || (lGet c e.name).family == []) with
  | true =>
    have hl : ∀ r, laterR c e r = false := by
      intro r; unfold laterR
      cases h1 : e.later <;> cases h2 : (lGet c e.name).family == [] <;> simp_all [bne]
    simp only [cond_true]
    rw [filterMap_one (n := m) hml]
    · rw [rAt_get hml, key m hml, decide_eq_true rfl]
      simp only [Bool.true_or, cond_true, List.filterMap_cons, List.filterMap_nil]
      cases pickR c e m <;> rfl
    · intro j hj hjm
      rw [rAt_get hj, key j hj, hl, decide_eq_false hjm]; rfl
  | false =>
    simp only [cond_false]
    have hfam : ∀ r, laterR c e r = isFam c e r := by
      intro r; unfold laterR isFam
      simp only [Bool.or_eq_false_iff, Bool.not_eq_false'] at hb
      rw [hb.1, bne, hb.2]; rfl
    have hself : isFam c e (rAt c.licences m) = true := by unfold isFam; rw [hg]; simp
    rw [List.filterMap_filter]
    conv => lhs; rw [map_range (c := c), List.filterMap_map]
    refine fm_congr fun i hi => ?_
    have hi' : i < c.licences.length := by simpa using hi
    show pick c e (rAt c.licences i) = _
    rw [key i hi', hfam]
    by_cases him : i = m
    · subst him; rw [hself]; simp
    · rw [decide_eq_false him]; cases isFam c e (rAt c.licences i) <;> simp

def tW (e : Ex) : List UInt8 := (e.name ++ [32, 87, 73, 84, 72, 32]) ++ e.wth
def leafU (c : Cat) (e : Ex) : List (List UInt8) :=
  (bif (lIx c e.name).isSome then [] else [e.name]) ++ (bif e.wth == [] then [] else bif (xIx c e.wth).isSome then (bif len (canS c e) == 0 then [tW e] else []) else [e.wth])
mutual
def unkS (c : Cat) : Ex → List (List UInt8)
  | .mk k nm la w ks => if k ≠ 1 then unkL c ks else leafU c (.mk k nm la w ks)
def unkL (c : Cat) : List Ex → List (List UInt8)
  | [] => []
  | e :: r => unkS c e ++ unkL c r
end
theorem unkS_eq (c : Cat) (e : Ex) : unkS c e = if e.kind ≠ 1 then unkL c e.kids else leafU c e := by cases e; simp only [unkS]
theorem leafU_len (c : Cat) (e : Ex) : (leafU c e).length ≤ 2 := by
  unfold leafU
  cases (lIx c e.name).isSome <;> cases e.wth == [] <;> cases (xIx c e.wth).isSome <;> cases len (canS c e) == 0 <;> simp
mutual
theorem unkS_len (c : Cat) : ∀ e : Ex, (unkS c e).length ≤ 2 * e.cnt
  | .mk k nm la w ks => by
    simp only [unkS, Ex.cnt]
    split
    · have := unkL_len c ks; omega
    · have := leafU_len c (.mk k nm la w ks); omega
theorem unkL_len (c : Cat) : ∀ l : List Ex, (unkL c l).length ≤ 2 * cntL l
  | [] => by simp [unkL]
  | e :: r => by
    simp only [unkL, cntL, List.length_append]
    have := unkS_len c e; have := unkL_len c r; omega
end
theorem unkL_fold (c : Cat) : ∀ (l : List Ex) (a : List (List UInt8)), l.foldl (fun a k => a ++ unkS c k) a = a ++ unkL c l
  | [], a => by simp [unkL]
  | e :: r, a => by simp only [List.foldl_cons, unkL]; rw [unkL_fold c r, List.append_assoc]

theorem fault_name {e : Ex} (h : fault e = 0) (hk : e.kind = 1) : e.kids = [] ∧ e.name.length ≤ 60 ∧ e.wth.length ≤ 60 := by
  obtain ⟨h1, _⟩ := fault_zero h
  obtain ⟨_, _, h4, _⟩ := one_zero h1
  obtain ⟨h5, h6, h7⟩ := h4 hk
  refine ⟨h5, isName_len h6, ?_⟩
  rcases h7 with h7 | h7
  · rw [h7]; simp
  · exact isName_len h7

theorem L29 {c : Cat} (hc : SmallC c) : ∀ (n : Nat) (e : Ex), e.lev + 4 ≤ n → fault e = 0 → e.cnt ≤ 200 → m29 (orcN n) c e = some (unkS c e, ()) := by
  intro n
  induction n with
  | zero => intro e h; omega
  | succ n ih =>
    intro e hl hf hcn
    have hlim : lim = 4294967296 := rfl
    have hkl := cnt_len (e := e)
    unfold m29
    rw [unkS_eq]
    by_cases hk : e.kind = 1
    · have hb : (e.kind != 1) = false := by simp [hk]
      obtain ⟨f1, f2, f3⟩ := fault_name hf hk
      rw [hb, if_neg (by simp [hk])]
      simp only [br_false, cutM_inl, Ex.eta, q52, L52 (orcN n) hc.lics, ob_some_eq, q53, L53 (orcN n) hc.excs, q54, L54 (by omega : 3 ≤ n) hc e]
      unfold leafU
      rw [cat?_ok (by simp; omega), cat?_ok (by simp; omega)]
      simp only [ob_some_eq]
      rw [cat?_ok (by simp; omega)]
      simp only [ob_some_eq]
      cases (lIx c e.name).isSome <;> cases he : e.wth == [] <;> cases (xIx c e.wth).isSome <;> simp only [Bool.not_true, Bool.not_false, br_true, br_false, cutM_inl, cond_true, cond_false, List.nil_append, List.append_nil] <;> (try rw [cat?_ok (by simp; omega)]) <;> (try rw [cat?_ok (by simp; omega)]) <;> cases len (canS c e) == 0 <;> rfl
    · have hb : (e.kind != 1) = true := by simpa using hk
      rw [hb, if_pos hk]
      simp only [br_true]
      rw [show (([] : List (List UInt8)), (0 : Int), ()) = ((fun (k : Nat) (a : List (List UInt8)) => (a, (k : Int), ())) 0 []) from rfl]
      rw [loop_fold (fun (k : Nat) (a : List (List UInt8)) => (a, (k : Int), ())) e.kids (fun a k => a ++ unkS c k) (fun a => .inl (a, ())) (fun k a => a.length + 2 * cntL (e.kids.drop k) ≤ 400) ?h1 ?h2 [] ?h3]
      case h1 =>
        intro k hk a ha
        have hmem : e.kids[k] ∈ e.kids := List.getElem_mem hk
        have hlk := lev_kid hmem
        have hck := cnt_kids hmem
        have h29 := ih e.kids[k] (by omega) (faultL_mem (fault_zero hf).2 hmem) (by omega)
        have hul := unkS_len c e.kids[k]
        rw [drop_get' hk] at ha
        simp only [cntL] at ha
        simp only [len_lt, hk, decide_true, br_true, at?_get hk, ob_some_eq, Ex.eta, q29, h29, wrap_succ hk (by omega : e.kids.length ≤ 9223372036854775807)]
        rw [cat?_ok (by omega)]
        exact ⟨rfl, by simp; omega⟩
      case h2 => intro a _; simp [len, br_false]
      case h3 => have : e.cnt = 1 + cntL e.kids := by cases e; simp only [Ex.cnt]
                 simp; omega
      rw [unkL_fold]; rfl
end Pe.Tryd
end
section
/- The fourth law in plain, last part. -/
set_option maxRecDepth 100000
namespace Pe.Tryd
open Go Go.Proofs Pe LicSpec

def addO (l : List (List UInt8)) (s : List UInt8) : List (List UInt8) := bif hasT l s then l else l ++ [s]
theorem addO_len (l : List (List UInt8)) (s : List UInt8) : (addO l s).length ≤ l.length + 1 := by
  unfold addO; cases hasT l s <;> simp
theorem addL_len : ∀ (r l : List (List UInt8)), (r.foldl addO l).length ≤ l.length + r.length
  | [], l => by simp
  | s :: r, l => by
    have h1 := addL_len r (addO l s)
    have h2 := addO_len l s
    simp only [List.foldl_cons, List.length_cons]; omega
theorem L57 {n : Nat} (hn : 1 ≤ n) {l : List (List UInt8)} (hl : l.length ≤ 1000000) (s : List UInt8) : m57 (orcN n) l s = some (.inl (addO l s, ())) := by
  obtain ⟨n, rfl⟩ : ∃ k, n = k + 1 := ⟨n - 1, by omega⟩
  unfold m57 addO
  rw [q82, L82 (orcN n) (by omega)]
  simp only [ob_some_eq]
  rw [cat?_ok (by have : lim = 4294967296 := rfl; simp; omega)]
  cases hasT l s <;> rfl

theorem unkL_foldO (c : Cat) : ∀ (l : List Ex) (a : List (List UInt8)), l.foldl (fun a k => (unkS c k).foldl addO a) a = (unkL c l).foldl addO a
  | [], a => by simp [unkL]
  | e :: r, a => by simp only [List.foldl_cons, unkL]; rw [unkL_foldO c r, List.foldl_append]

theorem L32 {c : Cat} (hc : SmallC c) (hcat : catF c = 0) : ∀ (n : Nat) (e : Ex) (l : List (List UInt8)), e.lev + 4 ≤ n → fault e = 0 → e.cnt ≤ 200 → l.length + 2 * e.cnt ≤ 1000 → m32 (orcN n) c e l = some (.inl ((unkS c e).foldl addO l, ())) := by
  intro n
  induction n with
  | zero => intro e l h; omega
  | succ n ih =>
    intro e l hl hf hcn hll
    have hlim : lim = 4294967296 := rfl
    have hkl := cnt_len (e := e)
    unfold m32
    rw [unkS_eq]
    by_cases hk : e.kind = 1
    · have hb : (e.kind != 1) = false := by simp [hk]
      obtain ⟨f1, f2, f3⟩ := fault_name hf hk
      have hcp := e.cnt_pos
      rw [hb, if_neg (by simp [hk])]
      simp only [br_false, cutM_inl, Ex.eta, q56, L56 (orcN n) hc.lics, ix_pos, ob_some_eq, q58, L58 (orcN n) hc.excs, ix_neg, q57, L57 (by omega : 1 ≤ n) (by omega : l.length ≤ 1000000), oc_inl]
      rw [cat?_ok (by simp; omega : e.name.length + ([32, 87, 73, 84, 72, 32] : List UInt8).length ≤ lim)]
      simp only [ob_some_eq]
      rw [cat?_ok (by simp; omega)]
      simp only [ob_some_eq]
      unfold leafU
      have ha := addO_len l e.name
      cases hm : lIx c e.name with
      | none =>
        have hcan : canS c e = [] := by unfold canS; rw [hm]; rfl
        simp only [Option.isSome_none, Bool.not_false, br_true, cutM_inl, cond_false, L57 (by omega : 1 ≤ n) (by omega : (addO l e.name).length ≤ 1000000), oc_inl, ob_some_eq, hcan]
        cases e.wth == [] with
        | true => rfl
        | false => cases (xIx c e.wth) <;> rfl
      | some m =>
        simp only [Option.isSome_some, Bool.not_true, br_false, cutM_inl, cond_true, L57 (by omega : 1 ≤ n) (by omega : l.length ≤ 1000000), oc_inl]
        cases hw : e.wth == [] with
        | true => rfl
        | false =>
          cases hx : xIx c e.wth with
          | none => rfl
          | some j =>
            rw [q59, L59 (by omega : 3 ≤ n) hc hm (.inr (by rw [hx]; rfl)), ← uses_eq hcat hm]
            simp only [ob_some_eq, Option.isNone_some, Option.isSome_some, br_false, cond_true, cond_false]
            cases len (canS c e) == 0 <;> rfl
    · have hb : (e.kind != 1) = true := by simpa using hk
      rw [hb, if_pos hk]
      simp only [br_true]
      rw [show (l, (0 : Int), ()) = ((fun (k : Nat) (a : List (List UInt8)) => (a, (k : Int), ())) 0 l) from rfl]
      rw [loop_fold (fun (k : Nat) (a : List (List UInt8)) => (a, (k : Int), ())) e.kids (fun a k => (unkS c k).foldl addO a) (fun a => .inl (a, ())) (fun k a => a.length + 2 * cntL (e.kids.drop k) ≤ 1000) ?h1 ?h2 l ?h3]
      case h1 =>
        intro k hk a ha
        have hmem : e.kids[k] ∈ e.kids := List.getElem_mem hk
        have hlk := lev_kid hmem
        have hck := cnt_kids hmem
        rw [drop_get' hk] at ha
        simp only [cntL] at ha
        have h32 := ih e.kids[k] a (by omega) (faultL_mem (fault_zero hf).2 hmem) (by omega) (by omega)
        have hul := unkS_len c e.kids[k]
        have hal := addL_len (unkS c e.kids[k]) a
        simp only [len_lt, hk, decide_true, br_true, at?_get hk, ob_some_eq, q32, h32, oc_inl, wrap_succ hk (by omega : e.kids.length ≤ 9223372036854775807), same_self]
        exact ⟨trivial, by omega⟩
      case h2 => intro a _; simp [len, br_false]
      case h3 => have : e.cnt = 1 + cntL e.kids := by cases e; simp only [Ex.cnt]
                 simp; omega
      rw [unkL_foldO]; rfl

def knownS (c : Cat) (e : Ex) : List (List UInt8) × Int × Unit :=
  bif catF c != 0 then ([], catF c, ()) else bif chk e != 0 then ([], chk e, ()) else ((unkS c e).foldl addO [], 0, ())
theorem L28 {n : Nat} {c : Cat} (hc : SmallC c) {e : Ex} (hs : Small e) (hn : e.lev + 10 ≤ n) : m28 (orcN n) c e = some (bif catF c != 0 then catF c else chk e, ()) := by
  obtain ⟨n, rfl⟩ : ∃ k, n = k + 1 := ⟨n - 1, by omega⟩
  unfold m28
  rw [q16, L16 (by omega) hc, Ex.eta, q20, L20 n e (by omega) hs]
  simp only [ob_some_eq]
  cases catF c != 0 <;> rfl
theorem L31 {n : Nat} {c : Cat} (hc : SmallC c) {e : Ex} (hs : Small e) (hb : e.lev ≤ 100000000) (hn : e.lev + 10 ≤ n) : m31 (orcN n) c e = some (bif catF c != 0 then catF c else chk e, ()) := by
  obtain ⟨n, rfl⟩ : ∃ k, n = k + 1 := ⟨n - 1, by omega⟩
  unfold m31
  rw [q17, L17 (by omega) hc, Ex.eta, q24, L24 n e (by omega) hb hs]
  simp only [ob_some_eq]
  cases catF c != 0 <;> rfl
theorem bne_false_eq {a b : Int} (h : (a != b) = false) : a = b := by simpa using h
theorem L14 {n : Nat} {c : Cat} (hc : SmallC c) {e : Ex} (hs : Small e) (hn : e.lev + 20 ≤ n) : m14 (orcN n) c e = some (knownS c e) := by
  obtain ⟨n, rfl⟩ : ∃ k, n = k + 1 := ⟨n - 1, by omega⟩
  unfold m14 knownS
  rw [Ex.eta, q28, L28 hc hs (by omega)]
  simp only [ob_some_eq]
  cases h1 : catF c != 0 with
  | true => simp only [cond_true, h1, br_true]
  | false =>
  simp only [cond_false]
  cases h2 : chk e != 0 with
  | true => rfl
  | false =>
  obtain ⟨c1, c2, c3⟩ := chk_zero (bne_false_eq h2)
  simp only [br_false, cond_false, q29, L29 hc n e (by omega) c3 c1, ob_some_eq]
  have hul := unkS_len c e
  rw [show (([] : List (List UInt8)), (0 : Int), ()) = ((fun (k : Nat) (a : List (List UInt8)) => (a, (k : Int), ())) 0 []) from rfl]
  rw [loop_fold (fun (k : Nat) (a : List (List UInt8)) => (a, (k : Int), ())) (unkS c e) addO (fun a => .inl (a, ())) (fun k a => a.length ≤ k) ?h1 ?h2 [] (Nat.le_refl _)]
  case h1 =>
    intro k hk a ha
    have hal := addO_len a (unkS c e)[k]
    simp only [len_lt, hk, decide_true, br_true, at?_get hk, ob_some_eq, q30, L30 (by omega : 1 ≤ n) (by omega : a.length ≤ 1000000000), wrap_succ hk (by omega : (unkS c e).length ≤ 9223372036854775807)]
    rw [cat?_ok (by have : lim = 4294967296 := rfl; simp; omega)]
    refine ⟨?_, by omega⟩
    unfold addO
    cases hasT a (unkS c e)[k] <;> rfl
  case h2 => intro a _; simp [len, br_false]
  rfl
theorem L15 {n : Nat} {c : Cat} (hc : SmallC c) {e : Ex} (hs : Small e) (hb : e.lev ≤ 100000000) (hn : e.lev + 20 ≤ n) : m15 (orcN n) c e = some (knownS c e) := by
  obtain ⟨n, rfl⟩ : ∃ k, n = k + 1 := ⟨n - 1, by omega⟩
  unfold m15 knownS
  rw [Ex.eta, q31, L31 hc hs hb (by omega)]
  simp only [ob_some_eq]
  cases h1 : catF c != 0 with
  | true => simp only [cond_true, h1, br_true]
  | false =>
  simp only [cond_false]
  cases h2 : chk e != 0 with
  | true => rfl
  | false =>
  obtain ⟨c1, c2, c3⟩ := chk_zero (bne_false_eq h2)
  simp only [br_false, cond_false, q32, L32 hc (bne_false_eq h1) n e [] (by omega) c3 c1 (by simp; omega), oc_inl]

theorem bne_self_s (s : List UInt8) : (s != s) = false := by simp
theorem L18 (o : Orc Sx) {l : List (List UInt8)} (hl : l.length ≤ 1000000) : m18 o l l = some (true, ()) := by
  unfold m18
  rw [show (len l != len l) = false by simp]
  simp only [br_false]
  rw [loop_find l (fun _ => false) (fun _ => .inr (false, ())) (.inl ()) ?h1 ?h2]
  case h1 =>
    intro k hk
    simp only [len_lt, hk, decide_true, br_true, at?_get hk, ob_some_eq, wrap_succ hk (by omega : l.length ≤ 9223372036854775807), bne_self_s, br_false]
    rfl
  case h2 => simp [len, br_false]
  have : l.findIdx? (fun _ => false) = none := by rw [List.findIdx?_eq_none_iff]; simp
  rw [this]; rfl

/-- THE FOURTH LAW. -/
theorem L6 {n : Nat} {c : Cat} (hc : SmallC c) {x : Ex} (hs : Small x) (hb : x.lev ≤ 100000000) (hn : x.lev + 300 ≤ n) : m6 (orcN n) c x = some (true, ()) := by
  obtain ⟨n, rfl⟩ : ∃ k, n = k + 1 := ⟨n - 1, by omega⟩
  unfold m6
  rw [Ex.eta, q14, L14 hc hs (by omega), q15, L15 hc hs hb (by omega), q16, L16 (by omega) hc, q17, L17 (by omega) hc]
  have hk : (knownS c x).1.length ≤ 1000000 := by
    unfold knownS
    cases catF c != 0 with
    | true => simp
    | false =>
      cases h2 : chk x != 0 with
      | true => simp
      | false =>
        obtain ⟨c1, _, _⟩ := chk_zero (bne_false_eq h2)
        have h3 := unkS_len c x
        have h4 := addL_len (unkS c x) []
        simp only [cond_false]; simp at h4; omega
  simp only [ob_some_eq, beq_self_eq_true, br_true, q18, L18 (orcN n) hk, G10 (by omega : 231 ≤ n + 1)]
end Pe.Tryd
end
