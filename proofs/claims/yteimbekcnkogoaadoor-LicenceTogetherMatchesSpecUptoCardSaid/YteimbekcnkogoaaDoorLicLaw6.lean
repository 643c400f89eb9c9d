/- The plain laws of the reference's reader. -/
import Derived.Test.YteimbekcnkogoaaDoorLicLaw5
set_option maxRecDepth 100000
namespace Pe.Tryd
open Go Go.Proofs Pe LicSpec

abbrev QT := Gt.Provenderref3_reader
def toQ (S : List UInt8) (q : RS) : QT := ⟨S, q.at_, q.pos, q.no⟩
theorem toQ_eq (S : List UInt8) (q : RS) : (Gt.Provenderref3_reader.mk S q.at_ q.pos q.no) = toQ S q := rfl

theorem L22 (n : Nat) (S : List UInt8) (q : RS) (hS : S.length ≤ 1000000) (hq : q.at_ ≤ S.length) : m22 (orcN n) (toQ S q, ()) = some (.inl ((toQ S (rBlanks S q), ()), ())) := by
  unfold m22
  simp only [toQ]
  rw [show (S, (q.at_ : Int), (q.pos : Int), q.no, ()) = ((fun (k : Nat) (_ : Unit) => (S, (k : Int), (q.pos : Int), q.no, ())) q.at_ ()) from rfl]
  rw [loop_st (R := ((QT × Unit) × Unit) ⊕ Unit) (fun (k : Nat) (_ : Unit) => (S, (k : Int), (q.pos : Int), q.no, ())) S.length (fun k _ => .inl ((⟨S, ((k + skipB (S.drop k) : Nat) : Int), q.pos, q.no⟩, ()), ())) (fun _ _ => True) ?h1 q.at_ () hq trivial]
  case h1 =>
    intro k a hk _
    simp only
    by_cases hlt : k < S.length
    · simp only [len_lt, hlt, decide_true, at?_get hlt, ob_some_eq, br_some_eq, cond_or, ← blank_int]
      rw [skipB_at hlt]
      cases hb : LicSpec.isBlank S[k] with
      | true => left; exact ⟨(), trivial, by rw [wrap_succ hlt (by omega)]; rfl, trivial, by simp; omega⟩
      | false => right; simp
    · right
      simp only [len_lt, hlt, decide_false, br_false, ob_some_eq]
      rw [List.drop_of_length_le (by omega)]; rfl
  rfl

theorem blanks_le {S : List UInt8} {q : RS} (h : q.at_ ≤ S.length) : (rBlanks S q).at_ ≤ S.length ∧ q.at_ ≤ (rBlanks S q).at_ := by
  have := skipB_le (S.drop q.at_)
  rw [List.length_drop] at this
  simp only [rBlanks]; omega

theorem G22 {n : Nat} (h : 1 ≤ n) {S : List UInt8} {q : RS} (hS : S.length ≤ 1000000) (hq : q.at_ ≤ S.length) :
    @Eq (Option (((QT × Unit) × Unit) ⊕ Unit)) ((orcN n).e 22 [.ptr 0 0] [55] [.st 11] ((toQ S q, ()) : QT × Unit) [] [] 0) (some (.inl ((toQ S (rBlanks S q), ()), ()))) := by
  obtain ⟨k, rfl⟩ : ∃ k, n = k + 1 := ⟨n - 1, by omega⟩
  rw [q22, L22 k S q hS hq]
theorem G23 {n : Nat} (h : 1 ≤ n) {S : List UInt8} {q : RS} (a : Nat) (c : Int) :
    @Eq (Option (((QT × Unit) × Unit) ⊕ Unit)) ((orcN n).e 23 [.ptr 0 0, .int .i64 (a : Int), .int .i64 c] [55] [.st 11] ((toQ S q, ()) : QT × Unit) [] [] 0) (some (.inl ((toQ S (rFail q a c), ()), ()))) := by
  obtain ⟨k, rfl⟩ : ∃ k, n = k + 1 := ⟨n - 1, by omega⟩
  rw [q23]
  unfold m23
  simp only [toQ, rFail]
  by_cases h : q.no = 0
  · simp [h, br_true]
  · have : (q.no == 0) = false := by simpa using h
    simp [this, h, br_false]

theorem run_le {S : List UInt8} {q : RS} (h : q.at_ ≤ S.length) : (rRun S q).length = runL (S.drop q.at_) ∧ q.at_ + runL (S.drop q.at_) ≤ S.length := by
  have := runL_le (S.drop q.at_)
  rw [List.length_drop] at this
  exact ⟨by unfold rRun; rw [take_runL_len], by omega⟩

theorem G73 {n : Nat} (h : 2 ≤ n) {S : List UInt8} {q : RS} (hS : S.length ≤ 1000000) (hq : q.at_ ≤ S.length) :
    @Eq (Option (((QT × Unit) × (List UInt8 × Unit)) ⊕ Unit)) ((orcN n).e 73 [.ptr 0 0] [55] [.st 11] ((toQ S q, ()) : QT × Unit) [.str] [] 0) (some (.inl ((toQ S (rBlanks S q), ()), (rRun S (rBlanks S q), ())))) := by
  obtain ⟨k, rfl⟩ : ∃ k, n = k + 2 := ⟨n - 2, by omega⟩
  rw [q73]
  unfold m73
  simp only [G22 (by omega : 1 ≤ k + 1) hS hq, oc_inl]
  obtain ⟨hb, _⟩ := blanks_le (S := S) hq
  generalize rBlanks S q = q1 at hb ⊢
  simp only [toQ]
  rw [loop_ix (R := (Int × Unit) ⊕ (((QT × Unit) × (List UInt8 × Unit)) ⊕ Unit)) S.length (fun k => .inl (((k + runL (S.drop k) : Nat) : Int), ())) ?h1 q1.at_ hb]
  case h1 =>
    intro i hi
    by_cases hlt : i < S.length
    · simp only [len_lt, hlt, decide_true, br_true, at?_get hlt, ob_some_eq, q67, L67]
      rw [runL_at hlt]
      cases hr : LicSpec.isRun S[i] with
      | true => left; exact ⟨trivial, by rw [wrap_succ hlt (by omega)]; rfl, by simp; omega⟩
      | false => right; simp [br_false]
    · right
      simp only [len_lt, hlt, decide_false, br_false, ob_some_eq]
      rw [List.drop_of_length_le (by omega)]; rfl
  obtain ⟨_, hr⟩ := run_le (S := S) hb
  simp only [cutM_inl, part?_nat (show q1.at_ ≤ q1.at_ + runL (S.drop q1.at_) by omega) hr, ob_some_eq, Nat.add_sub_cancel_left]
  rfl

theorem G66 {n : Nat} (h : 1 ≤ n) (s : List UInt8) : @Eq (Option (List UInt8 × Unit)) ((orcN n).d 66 [.str s] [.str]) (some (wordR s, ())) := by
  obtain ⟨k, rfl⟩ : ∃ k, n = k + 1 := ⟨n - 1, by omega⟩
  rw [q66, L66]

theorem G47 {n : Nat} (h : 3 ≤ n) {S : List UInt8} {q : RS} (w : List UInt8) (hS : S.length ≤ 1000000) (hq : q.at_ ≤ S.length) :
    @Eq (Option (((QT × Unit) × (Bool × Unit)) ⊕ Unit)) ((orcN n).e 47 [.ptr 0 0, .str w] [55] [.st 11] ((toQ S q, ()) : QT × Unit) [.bool] [] 0) (some (.inl ((toQ S (rTakeWord S w q).2, ()), ((rTakeWord S w q).1, ())))) := by
  obtain ⟨k, rfl⟩ : ∃ k, n = k + 1 := ⟨n - 1, by omega⟩
  rw [q47]
  unfold m47
  simp only [G73 (by omega : 2 ≤ k) hS hq, oc_inl, G66 (by omega : 1 ≤ k), ob_some_eq]
  obtain ⟨hb, _⟩ := blanks_le (S := S) hq
  obtain ⟨hr1, hr2⟩ := run_le (S := S) hb
  unfold rTakeWord
  simp only
  by_cases hw : wordR (rRun S (rBlanks S q)) = w
  · have e1 : (wordR (rRun S (rBlanks S q)) == w) = true := by simpa using hw
    rw [e1, if_pos hw]
    simp only [br_true]
    have : IntKind.i64.wrap ((toQ S (rBlanks S q)).at_ + len (rRun S (rBlanks S q))) = (((rBlanks S q).at_ + (rRun S (rBlanks S q)).length : Nat) : Int) := by
      show IntKind.i64.wrap (((rBlanks S q).at_ : Int) + ((rRun S (rBlanks S q)).length : Int)) = _
      rw [wrap_id (by omega) (by omega)]; rfl
    rw [this]; rfl
  · have e1 : (wordR (rRun S (rBlanks S q)) == w) = false := by simpa using hw
    rw [e1, if_neg hw]; rfl

theorem G71 {n : Nat} (h : 2 ≤ n) {S : List UInt8} {q : RS} (b : UInt8) (hS : S.length ≤ 1000000) (hq : q.at_ ≤ S.length) :
    @Eq (Option (((QT × Unit) × (Bool × Unit)) ⊕ Unit)) ((orcN n).e 71 [.ptr 0 0, .int .u8 (b.toNat : Int)] [55] [.st 11] ((toQ S q, ()) : QT × Unit) [.bool] [] 0) (some (.inl ((toQ S (rTakeByte S b q).2, ()), ((rTakeByte S b q).1, ())))) := by
  obtain ⟨k, rfl⟩ : ∃ k, n = k + 1 := ⟨n - 1, by omega⟩
  rw [q71]
  unfold m71
  simp only [G22 (by omega : 1 ≤ k) hS hq, oc_inl]
  obtain ⟨hb, _⟩ := blanks_le (S := S) hq
  unfold rTakeByte
  simp only
  generalize rBlanks S q = q1 at hb ⊢
  simp only [toQ]
  by_cases hlt : q1.at_ < S.length
  · simp only [len_lt, hlt, decide_true, br_true, at?_get hlt, ob_some_eq, byte_eq]
    by_cases hc : S[q1.at_] = b
    · have e1 : (S[q1.at_] == b) = true := by simpa using hc
      rw [e1, if_pos (by rw [List.getElem?_eq_getElem hlt, hc])]
      rw [wrap_succ hlt (by omega : S.length ≤ 9223372036854775807)]; rfl
    · have e1 : (S[q1.at_] == b) = false := by simpa using hc
      rw [e1, if_neg (by rw [List.getElem?_eq_getElem hlt]; simpa using hc)]; rfl
  · simp only [len_lt, hlt, decide_false, br_false, ob_some_eq]
    have hnone : S[q1.at_]? = none := List.getElem?_eq_none (by omega)
    rw [hnone]; rfl

theorem G72 {n : Nat} (h : 3 ≤ n) {S : List UInt8} {q : RS} (hS : S.length ≤ 1000000) (hq : q.at_ ≤ S.length) :
    @Eq (Option (((QT × Unit) × (List UInt8 × Unit)) ⊕ Unit)) ((orcN n).e 72 [.ptr 0 0] [55] [.st 11] ((toQ S q, ()) : QT × Unit) [.str] [] 0) (some (.inl ((toQ S (rName S q).2, ()), ((rName S q).1, ())))) := by
  obtain ⟨k, rfl⟩ : ∃ k, n = k + 1 := ⟨n - 1, by omega⟩
  rw [q72]
  unfold m72
  obtain ⟨hb, _⟩ := blanks_le (S := S) hq
  obtain ⟨hr1, hr2⟩ := run_le (S := S) hb
  simp only [G73 (by omega : 2 ≤ k) hS hq, oc_inl, G39 (by omega : 2 ≤ k) (by omega : (rRun S (rBlanks S q)).length ≤ 1000000000), ob_some_eq]
  unfold rName
  simp only
  cases hn : isName (rRun S (rBlanks S q)) with
  | true =>
    simp only [Bool.not_true, br_false, if_true]
    have : IntKind.i64.wrap ((toQ S (rBlanks S q)).at_ + len (rRun S (rBlanks S q))) = (((rBlanks S q).at_ + (rRun S (rBlanks S q)).length : Nat) : Int) := by
      show IntKind.i64.wrap (((rBlanks S q).at_ : Int) + ((rRun S (rBlanks S q)).length : Int)) = _
      rw [wrap_id (by omega) (by omega)]; rfl
    rw [this]; rfl
  | false =>
    simp only [Bool.not_false, br_true]
    have := G23 (S := S) (q := rBlanks S q) (by omega : 1 ≤ k) (rBlanks S q).at_ 6
    rw [show (toQ S (rBlanks S q)).at_ = ((rBlanks S q).at_ : Int) from rfl, this]
    simp [oc_inl]

/-! what the reference's reader takes -/
theorem word_ok {S w : List UInt8} {q : RS} (hw : w ≠ []) (hq : q.at_ ≤ S.length) : (rTakeWord S w q).2.at_ ≤ S.length ∧ q.at_ ≤ (rTakeWord S w q).2.at_ ∧ (rTakeWord S w q).2.no = q.no ∧ ((rTakeWord S w q).1 = true → q.at_ < (rTakeWord S w q).2.at_) := by
  obtain ⟨hb, hb2⟩ := blanks_le (S := S) hq
  obtain ⟨hr1, hr2⟩ := run_le (S := S) hb
  unfold rTakeWord
  simp only
  by_cases h : wordR (rRun S (rBlanks S q)) = w
  · rw [if_pos h]
    refine ⟨by show (rBlanks S q).at_ + _ ≤ _; omega, by show q.at_ ≤ (rBlanks S q).at_ + _; omega, rfl, fun _ => ?_⟩
    have : (rRun S (rBlanks S q)).length ≠ 0 := fun h0 => by
      have := List.length_eq_zero_iff.1 h0
      rw [this, wordR_nil] at h
      exact hw h.symm
    show q.at_ < (rBlanks S q).at_ + _; omega
  · rw [if_neg h]; exact ⟨hb, hb2, rfl, fun h => by cases h⟩
theorem byte_ok {S : List UInt8} {b : UInt8} {q : RS} (hq : q.at_ ≤ S.length) : (rTakeByte S b q).2.at_ ≤ S.length ∧ q.at_ ≤ (rTakeByte S b q).2.at_ ∧ (rTakeByte S b q).2.no = q.no := by
  obtain ⟨hb, hb2⟩ := blanks_le (S := S) hq
  unfold rTakeByte
  simp only
  by_cases h : S[(rBlanks S q).at_]? = some b
  · rw [if_pos h]
    have := (List.getElem?_eq_some_iff.1 h).1
    exact ⟨by show (rBlanks S q).at_ + 1 ≤ _; omega, by show q.at_ ≤ (rBlanks S q).at_ + 1; omega, rfl⟩
  · rw [if_neg h]; exact ⟨hb, hb2, rfl⟩
theorem fail_at {q : RS} {a : Nat} {c : Int} : (rFail q a c).at_ = q.at_ := by unfold rFail; split <;> rfl
theorem name_ok {S : List UInt8} {q : RS} (hq : q.at_ ≤ S.length) : (rName S q).2.at_ ≤ S.length ∧ q.at_ ≤ (rName S q).2.at_ := by
  obtain ⟨hb, hb2⟩ := blanks_le (S := S) hq
  obtain ⟨hr1, hr2⟩ := run_le (S := S) hb
  unfold rName
  simp only
  split
  · exact ⟨by show (rBlanks S q).at_ + _ ≤ _; omega, by show q.at_ ≤ (rBlanks S q).at_ + _; omega⟩
  · rw [fail_at]; exact ⟨hb, hb2⟩

def QGood (S : List UInt8) (one : RS → Ex × RS) : Prop := ∀ q, q.at_ ≤ S.length → q.no = 0 → (one q).2.at_ ≤ S.length ∧ q.at_ ≤ (one q).2.at_
def QAsks (orc : Orc Sx) (f : FuncId) (args : List (PV Sx)) (S : List UInt8) (one : RS → Ex × RS) : Prop := ∀ q, q.at_ ≤ S.length → q.no = 0 →
  @Eq (Option (((QT × Unit) × (Ex × Unit)) ⊕ Unit)) (orc.e f (.ptr 0 0 :: args) [55] [.st 11] ((toQ S q, ()) : QT × Unit) [.st 4] [] 0) (some (.inl ((toQ S (one q).2, ()), ((one q).1, ()))))

abbrev LTup := List Ex × List UInt8 × Int × Int × Int × Unit
def mkL (S : List UInt8) (q : RS) (acc : List Ex) : LTup := (acc, S, q.at_, q.pos, q.no, ())
noncomputable def listB (orc : Orc Sx) (kind deep : Int) : LTup → Option (LTup ⊕ (LTup ⊕ (((QT × Unit) × (Ex × Unit)) ⊕ Unit))) := (fun (t1 : List (LicSpec.Ex) × List UInt8 × Int × Int × Int × Unit) => (br (t1.2.2.2.2.1 == 0) (cutM (σ := List (LicSpec.Ex) × List UInt8 × Int × Int × Int × Unit) (R := _) (br (kind == 3) (oc (α := ((Gt.Provenderref3_reader × Unit) × (LicSpec.Ex × Unit))) (β := Unit) (orc.e 21 [.ptr 0 0, .int .i64 2, .int .i64 deep] [55] [(.st 11)] (((Gt.Provenderref3_reader.mk t1.2.1 t1.2.2.1 t1.2.2.2.1 t1.2.2.2.2.1), ()) : Gt.Provenderref3_reader × Unit) [(.st 4)] [] 0) (fun (r2 : ((Gt.Provenderref3_reader × Unit) × (LicSpec.Ex × Unit))) => (ob (cat? t1.1 [r2.2.1]) fun l3 => (some (.inl (l3, (Gt.Provenderref3_reader.s r2.1.1), (Gt.Provenderref3_reader.at_ r2.1.1), (Gt.Provenderref3_reader.pos r2.1.1), (Gt.Provenderref3_reader.no r2.1.1), ()))))) fun (_ : Unit) => (some (.inr (.inr (.inr (.inr (()))))))) (oc (α := ((Gt.Provenderref3_reader × Unit) × (LicSpec.Ex × Unit))) (β := Unit) (orc.e 46 [.ptr 0 0, .int .i64 deep] [55] [(.st 11)] (((Gt.Provenderref3_reader.mk t1.2.1 t1.2.2.1 t1.2.2.2.1 t1.2.2.2.2.1), ()) : Gt.Provenderref3_reader × Unit) [(.st 4)] [] 0) (fun (r5 : ((Gt.Provenderref3_reader × Unit) × (LicSpec.Ex × Unit))) => (ob (cat? t1.1 [r5.2.1]) fun l6 => (some (.inl (l6, (Gt.Provenderref3_reader.s r5.1.1), (Gt.Provenderref3_reader.at_ r5.1.1), (Gt.Provenderref3_reader.pos r5.1.1), (Gt.Provenderref3_reader.no r5.1.1), ()))))) fun (_ : Unit) => (some (.inr (.inr (.inr (.inr (())))))))) fun (t8 : List (LicSpec.Ex) × List UInt8 × Int × Int × Int × Unit) => (cutM (σ := List (LicSpec.Ex) × List UInt8 × Unit) (R := _) (br (kind == 3) (some (.inl (t8.1, [79, 82], ()))) (some (.inl (t8.1, [65, 78, 68], ())))) fun (t9 : List (LicSpec.Ex) × List UInt8 × Unit) => (br (t8.2.2.2.2.1 != 0) (some (.inr (.inl (t9.1, t8.2.1, t8.2.2.1, t8.2.2.2.1, t8.2.2.2.2.1, ())))) (oc (α := ((Gt.Provenderref3_reader × Unit) × (Bool × Unit))) (β := Unit) (orc.e 47 [.ptr 0 0, .str t9.2.1] [55] [(.st 11)] (((Gt.Provenderref3_reader.mk t8.2.1 t8.2.2.1 t8.2.2.2.1 t8.2.2.2.2.1), ()) : Gt.Provenderref3_reader × Unit) [.bool] [] 0) (fun (r10 : ((Gt.Provenderref3_reader × Unit) × (Bool × Unit))) => (br (!r10.2.1) (some (.inr (.inl (t9.1, (Gt.Provenderref3_reader.s r10.1.1), (Gt.Provenderref3_reader.at_ r10.1.1), (Gt.Provenderref3_reader.pos r10.1.1), (Gt.Provenderref3_reader.no r10.1.1), ())))) (some (.inl (t9.1, (Gt.Provenderref3_reader.s r10.1.1), (Gt.Provenderref3_reader.at_ r10.1.1), (Gt.Provenderref3_reader.pos r10.1.1), (Gt.Provenderref3_reader.no r10.1.1), ()))))) fun (_ : Unit) => (some (.inr (.inr (.inr (()))))))))) (some (.inr (.inl (t1.1, t1.2.1, t1.2.2.1, t1.2.2.2.1, t1.2.2.2.2.1, ()))))))
noncomputable def listM (orc : Orc Sx) (rc : QT × Unit) (kind deep : Int) : Option (((Gt.Provenderref3_reader × Unit) × (LicSpec.Ex × Unit)) ⊕ (Unit)) := (cutM (σ := List (LicSpec.Ex) × List UInt8 × Int × Int × Int × Unit) (R := _) (loopM (σ := List (LicSpec.Ex) × List UInt8 × Int × Int × Int × Unit) (R := _) (listB orc kind deep) ([], (Gt.Provenderref3_reader.s rc.1), (Gt.Provenderref3_reader.at_ rc.1), (Gt.Provenderref3_reader.pos rc.1), (Gt.Provenderref3_reader.no rc.1), ())) fun (t12 : List (LicSpec.Ex) × List UInt8 × Int × Int × Int × Unit) => (br ((len t12.1) == 1) (ob (at? t12.1 0) fun y13 => (some (.inl (((Gt.Provenderref3_reader.mk t12.2.1 t12.2.2.1 t12.2.2.2.1 t12.2.2.2.2.1), ()), ((LicSpec.Ex.mk (LicSpec.Ex.kind y13) (LicSpec.Ex.name y13) (LicSpec.Ex.later y13) (LicSpec.Ex.wth y13) (LicSpec.Ex.kids y13)), ()))))) (some (.inl (((Gt.Provenderref3_reader.mk t12.2.1 t12.2.2.1 t12.2.2.2.1 t12.2.2.2.2.1), ()), ((LicSpec.Ex.mk kind [] false [] t12.1), ()))))))
theorem m21_list (orc : Orc Sx) (rc : QT × Unit) (kind deep : Int) : m21 orc rc kind deep = listM orc rc kind deep := rfl

theorem list_step {orc : Orc Sx} {S : List UInt8} {kind deep : Int} {w : List UInt8} {one : RS → Ex × RS} {f : FuncId} {args : List (PV Sx)} (hg : QGood S one) (ha : QAsks orc f args S one)
    (hk : (kind = 3 ∧ w = sOR ∧ f = 21 ∧ args = [.int .i64 2, .int .i64 deep]) ∨ (kind = 2 ∧ w = sAND ∧ f = 46 ∧ args = [.int .i64 deep]))
    (hw : ∀ q, q.at_ ≤ S.length → @Eq (Option (((QT × Unit) × (Bool × Unit)) ⊕ Unit)) (orc.e 47 [.ptr 0 0, .str w] [55] [.st 11] ((toQ S q, ()) : QT × Unit) [.bool] [] 0) (some (.inl ((toQ S (rTakeWord S w q).2, ()), ((rTakeWord S w q).1, ())))))
    (q : RS) (acc : List Ex) (hq : q.at_ ≤ S.length) (hno : q.no = 0) (hacc : acc.length ≤ 2000000) :
    listB orc kind deep (mkL S q acc) = if (one q).2.no ≠ 0 then some (.inr (.inl (mkL S (one q).2 (acc ++ [(one q).1])))) else
      if (rTakeWord S w (one q).2).1 = true then some (.inl (mkL S (rTakeWord S w (one q).2).2 (acc ++ [(one q).1]))) else some (.inr (.inl (mkL S (rTakeWord S w (one q).2).2 (acc ++ [(one q).1])))) := by
  unfold listB
  obtain ⟨g1, g2⟩ := hg q hq hno
  have hc : cat? acc [(one q).1] = some (acc ++ [(one q).1]) := cat?_ok (by simp [lim]; omega)
  have h0 : (q.no == 0) = true := by simpa using hno
  rcases hk with ⟨rfl, rfl, rfl, rfl⟩ | ⟨rfl, rfl, rfl, rfl⟩
  all_goals
    simp only [mkL, h0, br_true, toQ_eq, show ((3 : Int) == 3) = true from rfl, show ((2 : Int) == 3) = false from rfl, br_false]
    rw [ha q hq hno]
    simp only [oc_inl, hc, ob_some_eq, cutM_inl]
    by_cases hn : (one q).2.no = 0
    · have e1 : ((toQ S (one q).2).no != 0) = false := by simp [toQ, hn]
      rw [e1]
      simp only [br_false, hn, ne_eq, not_true_eq_false, if_false]
      have hww := hw (one q).2 g1
      rw [show (Gt.Provenderref3_reader.mk (toQ S (one q).2).s (toQ S (one q).2).at_ (toQ S (one q).2).pos (toQ S (one q).2).no) = toQ S (one q).2 from rfl]
      first | rw [show ([79, 82] : List UInt8) = sOR from rfl] | rw [show ([65, 78, 68] : List UInt8) = sAND from rfl]
      rw [hww]
      simp only [oc_inl]
      cases (rTakeWord S _ (one q).2).1 <;> simp [br_true, br_false, toQ]
    · have e1 : ((toQ S (one q).2).no != 0) = true := by simpa [toQ] using hn
      rw [e1]
      simp [br_true, hn, toQ]

theorem list_loop {orc : Orc Sx} {S : List UInt8} {kind deep : Int} {w : List UInt8} {one : RS → Ex × RS} {f : FuncId} {args : List (PV Sx)} (hS : S.length ≤ 1000000) (hwn : w ≠ []) (hg : QGood S one) (ha : QAsks orc f args S one)
    (hk : (kind = 3 ∧ w = sOR ∧ f = 21 ∧ args = [.int .i64 2, .int .i64 deep]) ∨ (kind = 2 ∧ w = sAND ∧ f = 46 ∧ args = [.int .i64 deep]))
    (hw : ∀ q, q.at_ ≤ S.length → @Eq (Option (((QT × Unit) × (Bool × Unit)) ⊕ Unit)) (orc.e 47 [.ptr 0 0, .str w] [55] [.st 11] ((toQ S q, ()) : QT × Unit) [.bool] [] 0) (some (.inl ((toQ S (rTakeWord S w q).2, ()), ((rTakeWord S w q).1, ()))))) :
    ∀ (F : Nat) (q : RS) (acc : List Ex), q.at_ ≤ S.length → q.no = 0 → S.length - (one q).2.at_ < F → acc.length ≤ q.at_ →
      loopM (listB orc kind deep) (mkL S q acc) = some (.inl (mkL S (rListLoop S w one F (acc ++ [(one q).1]) (one q).2).2 (rListLoop S w one F (acc ++ [(one q).1]) (one q).2).1)) ∧
      (rListLoop S w one F (acc ++ [(one q).1]) (one q).2).2.at_ ≤ S.length ∧ q.at_ ≤ (rListLoop S w one F (acc ++ [(one q).1]) (one q).2).2.at_ := by
  intro F
  induction F with
  | zero => intro q acc _ _ h _; omega
  | succ F ih =>
    intro q acc hq hno hF hacc
    obtain ⟨g1, g2⟩ := hg q hq hno
    have hst := list_step (deep := deep) hg ha hk hw q acc hq hno (by omega)
    unfold rListLoop
    by_cases hn : (one q).2.no = 0
    · rw [if_neg (by simpa using hn)] at hst ⊢
      obtain ⟨w1, w2, w3, w4⟩ := word_ok (S := S) (q := (one q).2) hwn g1
      cases hb : rTakeWord S w (one q).2 with
      | mk b q1 =>
        rw [hb] at hst w1 w2 w3 w4
        simp only at hst w1 w2 w3 w4
        cases b with
        | false =>
          rw [if_neg (by simp)] at hst
          exact ⟨loopM_end hst, w1, by simp only; omega⟩
        | true =>
          rw [if_pos rfl] at hst
          have hlt := w4 rfl
          obtain ⟨h1, h2⟩ := hg q1 w1 (w3.trans hn)
          obtain ⟨i1, i2, i3⟩ := ih q1 (acc ++ [(one q).1]) w1 (w3.trans hn) (by omega) (by simp; omega)
          simp only
          exact ⟨by rw [loopM_next hst, i1], i2, by omega⟩
    · rw [if_pos hn] at hst ⊢
      exact ⟨loopM_end hst, g1, g2⟩

theorem list_law {orc : Orc Sx} {S : List UInt8} {kind deep : Int} {w : List UInt8} {one : RS → Ex × RS} {f : FuncId} {args : List (PV Sx)} (hS : S.length ≤ 1000000) (hwn : w ≠ []) (hg : QGood S one) (ha : QAsks orc f args S one)
    (hk : (kind = 3 ∧ w = sOR ∧ f = 21 ∧ args = [.int .i64 2, .int .i64 deep]) ∨ (kind = 2 ∧ w = sAND ∧ f = 46 ∧ args = [.int .i64 deep]))
    (hw : ∀ q, q.at_ ≤ S.length → @Eq (Option (((QT × Unit) × (Bool × Unit)) ⊕ Unit)) (orc.e 47 [.ptr 0 0, .str w] [55] [.st 11] ((toQ S q, ()) : QT × Unit) [.bool] [] 0) (some (.inl ((toQ S (rTakeWord S w q).2, ()), ((rTakeWord S w q).1, ()))))) :
    QGood S (rList S kind w one) ∧ ∀ q, q.at_ ≤ S.length → q.no = 0 → m21 orc (toQ S q, ()) kind deep = some (.inl ((toQ S (rList S kind w one q).2, ()), ((rList S kind w one q).1, ()))) := by
  have key : ∀ q, q.at_ ≤ S.length → q.no = 0 → ∃ l q', rListLoop S w one (S.length + 1) [(one q).1] (one q).2 = (l, q') ∧ loopM (listB orc kind deep) (mkL S q []) = some (.inl (mkL S q' l)) ∧ q'.at_ ≤ S.length ∧ q.at_ ≤ q'.at_ := by
    intro q hq hno
    obtain ⟨h1, h2, h3⟩ := list_loop hS hwn hg ha hk hw (S.length + 1) q [] hq hno (by omega) (by simp)
    simp only [List.nil_append] at h1 h2 h3
    exact ⟨_, _, rfl, h1, h2, h3⟩
  have spec : ∀ q, rList S kind w one q = (match rListLoop S w one (S.length + 1) [(one q).1] (one q).2 with | ([e], s1) => (e, s1) | (l, s1) => (.mk kind [] false [] l, s1)) := fun q => rfl
  refine ⟨fun q hq hno => ?_, fun q hq hno => ?_⟩
  · obtain ⟨l, q', h1, _, h3, h4⟩ := key q hq hno
    rw [spec, h1]
    match l with
    | [e] => exact ⟨h3, h4⟩
    | [] => exact ⟨h3, h4⟩
    | a :: b :: r => exact ⟨h3, h4⟩
  · obtain ⟨l, q', h1, h2, _, _⟩ := key q hq hno
    rw [m21_list, spec, h1]
    unfold listM
    rw [show (([] : List Ex), (toQ S q).s, (toQ S q).at_, (toQ S q).pos, (toQ S q).no, ()) = mkL S q [] from rfl, h2]
    simp only [cutM_inl, mkL]
    match l with
    | [e] => simp [len, br_true, at?, ob_some_eq, Ex.eta, toQ]
    | [] => simp [len, br_false, toQ]
    | a :: b :: r =>
      have : (len (a :: b :: r) == 1) = false := by rw [beq_eq_false_iff_ne]; simp [len]; omega
      rw [this]; rfl

theorem tail_ok {S : List UInt8} {x : List UInt8} {q : RS} (hq : q.at_ ≤ S.length) : (rTail S x q).2.at_ ≤ S.length ∧ q.at_ ≤ (rTail S x q).2.at_ := by
  unfold rTail
  have rest : ∀ (later : Bool) (s1 : RS), s1.at_ ≤ S.length → q.at_ ≤ s1.at_ → (if s1.no = 0 then
      (let (t, s2) := rTakeWord S sWITH s1
      if t then
        let (y, s3) := rName S s2
        (Ex.mk 1 x later y [], s3)
      else (Ex.mk 1 x later [] [], s2))
    else (Ex.mk 1 x later [] [], s1)).2.at_ ≤ S.length ∧ q.at_ ≤ (if s1.no = 0 then
      (let (t, s2) := rTakeWord S sWITH s1
      if t then
        let (y, s3) := rName S s2
        (Ex.mk 1 x later y [], s3)
      else (Ex.mk 1 x later [] [], s2))
    else (Ex.mk 1 x later [] [], s1)).2.at_ := by
    intro later s1 h1 h2
    split
    · obtain ⟨w1, w2, _, _⟩ := word_ok (S := S) (q := s1) wWITH_ne h1
      cases hb : rTakeWord S sWITH s1 with
      | mk t s2 =>
        rw [hb] at w1 w2
        simp only at w1 w2 ⊢
        split
        · obtain ⟨n1, n2⟩ := name_ok (S := S) (q := s2) w1
          exact ⟨n1, by simp only; omega⟩
        · exact ⟨w1, by simp only; omega⟩
    · exact ⟨h1, h2⟩
  by_cases hc : q.no = 0 ∧ S[q.at_]? = some 43
  · rw [if_pos hc]
    have := (List.getElem?_eq_some_iff.1 hc.2).1
    exact rest true _ (by show q.at_ + 1 ≤ _; omega) (by show q.at_ ≤ q.at_ + 1; omega)
  · rw [if_neg hc]
    exact rest false _ hq (Nat.le_refl _)

theorem b43_at (S : List UInt8) (k : Nat) : ob (br (decide ((k : Int) < len S)) (ob (at? S (k : Int)) fun c => (some ((UInt8.toNat c : Int) == 43))) (some false)) (fun b => some b) = some (decide (S[k]? = some 43)) := by
  by_cases hlt : k < S.length
  · simp only [len_lt, hlt, decide_true, br_true, at?_get hlt, ob_some_eq]
    rw [show (((S[k]).toNat : Int) == 43) = (S[k] == 43) from byte_eq S[k] 43, List.getElem?_eq_getElem hlt]
    by_cases h : S[k] = 43
    · simp [h]
    · simp [h]
  · simp only [len_lt, hlt, decide_false, br_false, ob_some_eq]
    rw [List.getElem?_eq_none (by omega)]; rfl

set_option maxHeartbeats 1000000 in
theorem m46_name {n : Nat} (hn : 3 ≤ n) {S : List UInt8} (hS : S.length ≤ 1000000) (q : RS) (deep : Int) (hq : q.at_ ≤ S.length) (ht : (rTakeByte S 40 (rBlanks S q)).1 = false) :
    m46 (orcN n) (toQ S q, ()) deep = some (.inl ((toQ S (rTail S (rName S (rTakeByte S 40 (rBlanks S q)).2).1 (rName S (rTakeByte S 40 (rBlanks S q)).2).2).2, ()), ((rTail S (rName S (rTakeByte S 40 (rBlanks S q)).2).1 (rName S (rTakeByte S 40 (rBlanks S q)).2).2).1, ()))) := by
  obtain ⟨hb, _⟩ := blanks_le (S := S) hq
  obtain ⟨hb1, _, _⟩ := byte_ok (S := S) (b := 40) (q := rBlanks S q) hb
  unfold m46
  have h71 := G71 (S := S) (q := rBlanks S q) (by omega : 2 ≤ n) 40 hS hb
  rw [show (((40 : UInt8).toNat : Int)) = 40 from rfl] at h71
  simp only [G22 (by omega : 1 ≤ n) hS hq, oc_inl, h71, ht, br_false]
  generalize (rTakeByte S 40 (rBlanks S q)).2 = s1 at hb1 ⊢
  rw [G72 hn hS hb1]
  obtain ⟨hn1, _⟩ := name_ok (S := S) hb1
  generalize hx : rName S s1 = xs at hn1 ⊢
  obtain ⟨x, s2⟩ := xs
  simp only [oc_inl] at hn1 ⊢
  unfold rTail
  have h47 := fun (s3 : RS) (h3 : s3.at_ ≤ S.length) => G47 (S := S) (q := s3) hn sWITH hS h3
  rw [show sWITH = [87, 73, 84, 72] from rfl] at h47
  have fin : ∀ (later : Bool) (s3 : RS), s3.at_ ≤ S.length → (br (s3.no == 0) (oc (α := ((QT × Unit) × (Bool × Unit))) (β := Unit) ((orcN n).e 47 [.ptr 0 0, .str [87, 73, 84, 72]] [55] [(.st 11)] ((toQ S s3, ()) : QT × Unit) [.bool] [] 0) (fun (r16 : ((QT × Unit) × (Bool × Unit))) => (br r16.2.1 (oc (α := ((QT × Unit) × (List UInt8 × Unit))) (β := Unit) ((orcN n).e 72 [.ptr 0 0] [55] [(.st 11)] ((r16.1.1, ()) : QT × Unit) [.str] [] 0) (fun (r17 : ((QT × Unit) × (List UInt8 × Unit))) => (some (.inl ((r17.1.1, ()), ((Ex.mk 1 x later r17.2.1 []), ()))))) fun (p18 : Unit) => (some (.inr (())))) (some (.inl ((r16.1.1, ()), ((Ex.mk 1 x later [] []), ())))))) fun (p19 : Unit) => (some (.inr (())))) (some (.inl ((toQ S s3, ()), ((Ex.mk 1 x later [] []), ()))))) =
      (some (.inl ((toQ S (if s3.no = 0 then
      (let (t, s4) := rTakeWord S sWITH s3
      if t then
        let (y, s5) := rName S s4
        (Ex.mk 1 x later y [], s5)
      else (Ex.mk 1 x later [] [], s4))
    else (Ex.mk 1 x later [] [], s3)).2, ()), ((if s3.no = 0 then
      (let (t, s4) := rTakeWord S sWITH s3
      if t then
        let (y, s5) := rName S s4
        (Ex.mk 1 x later y [], s5)
      else (Ex.mk 1 x later [] [], s4))
    else (Ex.mk 1 x later [] [], s3)).1, ()))) : Option (((QT × Unit) × (Ex × Unit)) ⊕ Unit)) := by
    intro later s3 h3
    by_cases hno : s3.no = 0
    · have e1 : (s3.no == 0) = true := by simpa using hno
      rw [e1, if_pos hno]
      simp only [br_true]
      rw [h47 s3 h3]
      obtain ⟨w1, _, _, _⟩ := word_ok (S := S) (q := s3) wWITH_ne h3
      rw [show ([87, 73, 84, 72] : List UInt8) = sWITH from rfl]
      cases hb : rTakeWord S sWITH s3 with
      | mk t s4 =>
        rw [hb] at w1
        simp only [oc_inl] at w1 ⊢
        cases t with
        | false => simp [br_false]
        | true =>
          simp only [br_true, if_true]
          rw [G72 hn hS w1]
          simp [oc_inl]
    · have e1 : (s3.no == 0) = false := by simpa using hno
      rw [e1, if_neg hno]; rfl
  by_cases hc : s2.no = 0 ∧ S[s2.at_]? = some 43
  · obtain ⟨hno, h43⟩ := hc
    have hlt := (List.getElem?_eq_some_iff.1 h43).1
    have hv := (List.getElem?_eq_some_iff.1 h43).2
    rw [if_pos ⟨hno, h43⟩]
    have e1 : ((toQ S s2).no == 0) = true := by simpa [toQ] using hno
    have e2 : decide ((toQ S s2).at_ < len (toQ S s2).s) = true := by
      exact decide_eq_true (by show (s2.at_ : Int) < (S.length : Int); omega)
    have e3 : at? (toQ S s2).s (toQ S s2).at_ = some 43 := by
      show at? S (s2.at_ : Int) = _
      rw [at?_get hlt, hv]
    have e4 : IntKind.i64.wrap ((toQ S s2).at_ + 1) = ((s2.at_ + 1 : Nat) : Int) := wrap_succ hlt (by omega)
    simp only [e1, e2, e3, e4, br_true, ob_some_eq, show (((43 : UInt8).toNat : Int) == 43) = true from rfl, cutM_inl]
    have h := fin true { s2 with at_ := s2.at_ + 1 } (by show s2.at_ + 1 ≤ _; omega)
    have e1' : (({ s2 with at_ := s2.at_ + 1 } : RS).no == 0) = true := by simpa using hno
    rw [e1'] at h
    simp only [br_true] at h
    have e5 : (s2.no == 0) = true := by simpa using hno
    simp only [toQ] at h ⊢
    refine Eq.trans ?_ (h.trans ?_) <;> rfl
  · rw [if_neg hc]
    have e0 : ob (br ((toQ S s2).no == 0) (some (decide ((toQ S s2).at_ < len (toQ S s2).s))) (some false)) (fun b12 => ob (br b12 (ob (at? (toQ S s2).s (toQ S s2).at_) fun c13 => (some ((UInt8.toNat c13 : Int) == 43))) (some false)) fun b14 => (br b14 (some (Sum.inl ((toQ S s2).s, (IntKind.i64.wrap ((toQ S s2).at_ + 1)), (toQ S s2).pos, (toQ S s2).no, (1 : Int), x, true, ([] : List UInt8), ([] : List Ex), ()) : (List UInt8 × Int × Int × Int × Int × List UInt8 × Bool × List UInt8 × List Ex × Unit) ⊕ (((QT × Unit) × (Ex × Unit)) ⊕ Unit))) (some (.inl ((toQ S s2).s, (toQ S s2).at_, (toQ S s2).pos, (toQ S s2).no, 1, x, false, [], [], ()))))) =
        some (.inl (S, (s2.at_ : Int), (s2.pos : Int), s2.no, 1, x, false, [], [], ())) := by
      simp only [toQ]
      by_cases hno : s2.no = 0
      · have e1 : (s2.no == 0) = true := by simpa using hno
        rw [e1]
        simp only [br_true, ob_some_eq]
        by_cases hlt : s2.at_ < S.length
        · simp only [len_lt, hlt, decide_true, br_true, at?_get hlt, ob_some_eq]
          have h43 : S[s2.at_] ≠ 43 := fun h => hc ⟨hno, by rw [List.getElem?_eq_getElem hlt, h]⟩
          rw [show (((S[s2.at_]).toNat : Int) == 43) = (S[s2.at_] == 43) from byte_eq _ 43, beq_eq_false_iff_ne.2 h43]; rfl
        · simp only [len_lt, hlt, decide_false, br_false, ob_some_eq]
      · have e1 : (s2.no == 0) = false := by simpa using hno
        rw [e1]; rfl
    rw [e0]
    simp only [cutM_inl]
    refine Eq.trans ?_ ((fin false s2 hn1).trans ?_) <;> rfl

theorem single_q {S : List UInt8} (hS : S.length ≤ 1000000) : ∀ (d deep : Nat), deep + d = 30 → ∀ n, 3 * d + 6 ≤ n → QGood S (rSingle S d) ∧ QAsks (orcN n) 46 [.int .i64 (deep : Int)] S (rSingle S d) := by
  intro d
  induction d with
  | zero =>
    intro deep hd n hn
    obtain ⟨m, rfl⟩ : ∃ m, n = m + 1 := ⟨n - 1, by omega⟩
    constructor
    · intro q hq hno
      obtain ⟨hb, hb2⟩ := blanks_le (S := S) hq
      obtain ⟨h1, h2, h3⟩ := byte_ok (S := S) (b := 40) (q := rBlanks S q) hb
      unfold rSingle
      simp only
      cases ht : (rTakeByte S 40 (rBlanks S q)).1 with
      | true => simp only [if_true]; rw [fail_at]; exact ⟨h1, by omega⟩
      | false =>
        simp only [Bool.false_eq_true, if_false]
        obtain ⟨n1, n2⟩ := name_ok (S := S) h1
        obtain ⟨t1, t2⟩ := tail_ok (S := S) (x := (rName S (rTakeByte S 40 (rBlanks S q)).2).1) n1
        exact ⟨t1, by omega⟩
    · intro q hq hno
      rw [q46]
      obtain ⟨hb, hb2⟩ := blanks_le (S := S) hq
      cases ht : (rTakeByte S 40 (rBlanks S q)).1 with
      | false =>
        rw [m46_name (by omega) hS q _ hq ht]
        unfold rSingle
        simp only [ht, Bool.false_eq_true, if_false]
      | true =>
        unfold m46 rSingle
        have h71 := G71 (S := S) (q := rBlanks S q) (by omega : 2 ≤ m) 40 hS hb
        rw [show (((40 : UInt8).toNat : Int)) = 40 from rfl] at h71
        have e30 : ((deep : Int) == 30) = true := by simp; omega
        simp only [G22 (by omega : 1 ≤ m) hS hq, oc_inl, h71, ht, br_true, e30, if_true]
        have h23 := G23 (S := S) (q := (rTakeByte S 40 (rBlanks S q)).2) (by omega : 1 ≤ m) (rBlanks S q).at_ 3
        rw [show (toQ S (rBlanks S q)).at_ = ((rBlanks S q).at_ : Int) from rfl, h23]
        rfl
  | succ d ih =>
    intro deep hd n hn
    obtain ⟨m, rfl⟩ : ∃ m, n = m + 3 := ⟨n - 3, by omega⟩
    obtain ⟨gs, asks⟩ := ih (deep + 1) (by omega) m (by omega)
    have hw47 := fun (k : Nat) (hk : 3 ≤ k) (w : List UInt8) (q : RS) (hq : q.at_ ≤ S.length) => G47 (S := S) (q := q) hk w hS hq
    obtain ⟨gA, mA⟩ := list_law (orc := orcN m) (kind := 2) (deep := ((deep + 1 : Nat) : Int)) (w := sAND) hS wAND_ne gs asks (.inr ⟨rfl, rfl, rfl, rfl⟩) (hw47 m (by omega) sAND)
    have aA : QAsks (orcN (m + 1)) 21 [.int .i64 2, .int .i64 ((deep + 1 : Nat) : Int)] S (rList S 2 sAND (rSingle S d)) := fun q hq hno => by rw [q21]; exact mA q hq hno
    obtain ⟨gO, mO⟩ := list_law (orc := orcN (m + 1)) (kind := 3) (deep := ((deep + 1 : Nat) : Int)) (w := sOR) hS wOR_ne gA aA (.inl ⟨rfl, rfl, rfl, rfl⟩) (hw47 (m + 1) (by omega) sOR)
    constructor
    · intro q hq hno
      obtain ⟨hb, hb2⟩ := blanks_le (S := S) hq
      obtain ⟨h1, h2, h3⟩ := byte_ok (S := S) (b := 40) (q := rBlanks S q) hb
      unfold rSingle
      simp only
      cases ht : (rTakeByte S 40 (rBlanks S q)).1 with
      | true =>
        simp only [if_true]
        obtain ⟨o1, o2⟩ := gO _ h1 (h3.trans hno)
        split
        · obtain ⟨y1, y2, _⟩ := byte_ok (S := S) (b := 41) o1
          split
          · exact ⟨y1, by simp only; omega⟩
          · simp only; rw [fail_at]; exact ⟨y1, by omega⟩
        · exact ⟨o1, by simp only; omega⟩
      | false =>
        simp only [Bool.false_eq_true, if_false]
        obtain ⟨n1, n2⟩ := name_ok (S := S) h1
        obtain ⟨t1, t2⟩ := tail_ok (S := S) (x := (rName S (rTakeByte S 40 (rBlanks S q)).2).1) n1
        exact ⟨t1, by omega⟩
    · intro q hq hno
      rw [q46]
      obtain ⟨hb, hb2⟩ := blanks_le (S := S) hq
      cases ht : (rTakeByte S 40 (rBlanks S q)).1 with
      | false =>
        rw [m46_name (by omega) hS q _ hq ht]
        unfold rSingle
        simp only [ht, Bool.false_eq_true, if_false]
      | true =>
        obtain ⟨h1, h2, h3⟩ := byte_ok (S := S) (b := 40) (q := rBlanks S q) hb
        unfold m46 rSingle
        have h71 := G71 (S := S) (q := rBlanks S q) (by omega : 2 ≤ m + 2) 40 hS hb
        rw [show (((40 : UInt8).toNat : Int)) = 40 from rfl] at h71
        have e30 : ((deep : Int) == 30) = false := by rw [beq_eq_false_iff_ne]; omega
        have hwr : IntKind.i64.wrap ((deep : Int) + 1) = ((deep + 1 : Nat) : Int) := by rw [wrap_id (by omega) (by omega)]; rfl
        simp only [G22 (by omega : 1 ≤ m + 2) hS hq, oc_inl, h71, ht, br_true, e30, br_false, hwr, if_true]
        rw [q21, mO _ h1 (h3.trans hno)]
        obtain ⟨o1, o2⟩ := gO _ h1 (h3.trans hno)
        simp only [oc_inl, Ex.eta]
        generalize hL : rList S 3 sOR (rList S 2 sAND (rSingle S d)) (rTakeByte S 40 (rBlanks S q)).2 = L at o1 ⊢
        obtain ⟨e, s2⟩ := L
        simp only at o1 ⊢
        by_cases hn2 : s2.no = 0
        · have e1 : ((toQ S s2).no == 0) = true := by simpa [toQ] using hn2
          rw [e1, if_pos hn2]
          have h41 := G71 (S := S) (q := s2) (by omega : 2 ≤ m + 2) 41 hS o1
          rw [show (((41 : UInt8).toNat : Int)) = 41 from rfl] at h41
          simp only [br_true, h41, oc_inl]
          cases hb41 : rTakeByte S 41 s2 with
          | mk t s3 =>
            cases t with
            | true => simp [br_false]
            | false =>
              simp only [Bool.not_false, br_true]
              have h23 := G23 (S := S) (q := s3) (by omega : 1 ≤ m + 2) s3.at_ 6
              rw [show (toQ S s3).at_ = (s3.at_ : Int) from rfl, h23]
              simp [oc_inl]
        · have e1 : ((toQ S s2).no == 0) = false := by simpa [toQ] using hn2
          rw [e1, if_neg hn2]; rfl
end Pe.Tryd
