/- The plain laws of the token reader: rows of expressions, and all of a text. -/
import Derived.Test.YteimbekcnkogoaaDoorLicLaw3
set_option maxRecDepth 100000
namespace Pe.Tryd
open Go Go.Proofs Pe LicSpec

abbrev RTup := List UInt8 × Int × Int × List UInt8 × Int × Bool × Int × Int × List UInt8 × Bool × List UInt8 × List Ex × Unit
noncomputable def rowB (orc : Orc Sx) (f : FuncId) (w : List UInt8) : RTup → Option (RTup ⊕ (RTup ⊕ (((Gt.Licence_reader × Unit) × (Ex × Unit)) ⊕ (Int × Int × Unit)))) := (fun (t4 : List UInt8 × Int × Int × List UInt8 × Int × Bool × Int × Int × List UInt8 × Bool × List UInt8 × List (LicSpec.Ex) × Unit) => (oc (α := ((Gt.Licence_reader × Unit) × (Bool × Unit))) (β := Int × Int × Unit) (orc.e 87 [.ptr 0 0, .str w] [78] [(.st 9)] (((Gt.Licence_reader.mk t4.1 t4.2.1 (Gt.Licence_token.mk t4.2.2.1 t4.2.2.2.1 t4.2.2.2.2.1 t4.2.2.2.2.2.1) t4.2.2.2.2.2.2.1), ()) : Gt.Licence_reader × Unit) [.bool] [(.int .i64), (.int .i64)] 49) (fun (r5 : ((Gt.Licence_reader × Unit) × (Bool × Unit))) => (br r5.2.1 (same (oc (α := ((Gt.Licence_reader × Unit) × (LicSpec.Ex × Unit))) (β := Int × Int × Unit) (orc.e f [.ptr 0 0] [78] [(.st 9)] ((r5.1.1, ()) : Gt.Licence_reader × Unit) [(.st 4)] [(.int .i64), (.int .i64)] 49) (fun (r6 : ((Gt.Licence_reader × Unit) × (LicSpec.Ex × Unit))) => (ob (cat? t4.2.2.2.2.2.2.2.2.2.2.2.1 [r6.2.1]) fun l7 => (some (.inl ((Gt.Licence_reader.s r6.1.1), (Gt.Licence_reader.end_ r6.1.1), (Gt.Licence_token.kind (Gt.Licence_reader.now r6.1.1)), (Gt.Licence_token.text (Gt.Licence_reader.now r6.1.1)), (Gt.Licence_token.at_ (Gt.Licence_reader.now r6.1.1)), (Gt.Licence_token.tight (Gt.Licence_reader.now r6.1.1)), (Gt.Licence_reader.open_ r6.1.1), t4.2.2.2.2.2.2.2.1, t4.2.2.2.2.2.2.2.2.1, t4.2.2.2.2.2.2.2.2.2.1, t4.2.2.2.2.2.2.2.2.2.2.1, l7, ()))))) fun (p8 : Int × Int × Unit) => (some (.inr (.inr (.inr (p8.1, p8.2.1, ())))))) (oc (α := ((Gt.Licence_reader × Unit) × (LicSpec.Ex × Unit))) (β := Int × Int × Unit) (orc.e f [.ptr 0 0] [78] [(.st 9)] ((r5.1.1, ()) : Gt.Licence_reader × Unit) [(.st 4)] [(.int .i64), (.int .i64)] 49) (fun (r9 : ((Gt.Licence_reader × Unit) × (LicSpec.Ex × Unit))) => (same (ob (cat? t4.2.2.2.2.2.2.2.2.2.2.2.1 [r9.2.1]) fun l10 => (some (.inl ((Gt.Licence_reader.s r9.1.1), (Gt.Licence_reader.end_ r9.1.1), (Gt.Licence_token.kind (Gt.Licence_reader.now r9.1.1)), (Gt.Licence_token.text (Gt.Licence_reader.now r9.1.1)), (Gt.Licence_token.at_ (Gt.Licence_reader.now r9.1.1)), (Gt.Licence_token.tight (Gt.Licence_reader.now r9.1.1)), (Gt.Licence_reader.open_ r9.1.1), t4.2.2.2.2.2.2.2.1, t4.2.2.2.2.2.2.2.2.1, t4.2.2.2.2.2.2.2.2.2.1, t4.2.2.2.2.2.2.2.2.2.2.1, l10, ())))) (ob (cat? t4.2.2.2.2.2.2.2.2.2.2.2.1 [r9.2.1]) fun l11 => (some (.inl ((Gt.Licence_reader.s r9.1.1), (Gt.Licence_reader.end_ r9.1.1), (Gt.Licence_token.kind (Gt.Licence_reader.now r9.1.1)), (Gt.Licence_token.text (Gt.Licence_reader.now r9.1.1)), (Gt.Licence_token.at_ (Gt.Licence_reader.now r9.1.1)), (Gt.Licence_token.tight (Gt.Licence_reader.now r9.1.1)), (Gt.Licence_reader.open_ r9.1.1), t4.2.2.2.2.2.2.2.1, t4.2.2.2.2.2.2.2.2.1, t4.2.2.2.2.2.2.2.2.2.1, t4.2.2.2.2.2.2.2.2.2.2.1, l11, ())))))) fun (p12 : Int × Int × Unit) => (some (.inr (.inr (.inr (p12.1, p12.2.1, ()))))))) (some (.inr (.inl ((Gt.Licence_reader.s r5.1.1), (Gt.Licence_reader.end_ r5.1.1), (Gt.Licence_token.kind (Gt.Licence_reader.now r5.1.1)), (Gt.Licence_token.text (Gt.Licence_reader.now r5.1.1)), (Gt.Licence_token.at_ (Gt.Licence_reader.now r5.1.1)), (Gt.Licence_token.tight (Gt.Licence_reader.now r5.1.1)), (Gt.Licence_reader.open_ r5.1.1), t4.2.2.2.2.2.2.2.1, t4.2.2.2.2.2.2.2.2.1, t4.2.2.2.2.2.2.2.2.2.1, t4.2.2.2.2.2.2.2.2.2.2.1, t4.2.2.2.2.2.2.2.2.2.2.2.1, ())))))) fun (p13 : Int × Int × Unit) => (some (.inr (.inr (.inr (p13.1, p13.2.1, ())))))))
noncomputable def rowM (orc : Orc Sx) (f : FuncId) (kind : Int) (w : List UInt8) (rc : Gt.Licence_reader × Unit) : Option (((Gt.Licence_reader × Unit) × (LicSpec.Ex × Unit)) ⊕ (Int × Int × Unit)) := (oc (α := ((Gt.Licence_reader × Unit) × (LicSpec.Ex × Unit))) (β := Int × Int × Unit) (oc (α := ((Gt.Licence_reader × Unit) × (LicSpec.Ex × Unit))) (β := Int × Int × Unit) (orc.e f [.ptr 0 0] [78] [(.st 9)] ((rc.1, ()) : Gt.Licence_reader × Unit) [(.st 4)] [(.int .i64), (.int .i64)] 49) (fun (r2 : ((Gt.Licence_reader × Unit) × (LicSpec.Ex × Unit))) => (ob (br ((Gt.Licence_token.kind (Gt.Licence_reader.now r2.1.1)) != 2) (some true) (some ((Gt.Licence_token.text (Gt.Licence_reader.now r2.1.1)) != w))) fun b3 => (br b3 (some (.inl ((r2.1.1, ()), ((LicSpec.Ex.mk (LicSpec.Ex.kind r2.2.1) (LicSpec.Ex.name r2.2.1) (LicSpec.Ex.later r2.2.1) (LicSpec.Ex.wth r2.2.1) (LicSpec.Ex.kids r2.2.1)), ())))) (cutM (σ := List UInt8 × Int × Int × List UInt8 × Int × Bool × Int × Int × List UInt8 × Bool × List UInt8 × List (LicSpec.Ex) × Unit) (R := _) (loopM (σ := List UInt8 × Int × Int × List UInt8 × Int × Bool × Int × Int × List UInt8 × Bool × List UInt8 × List (LicSpec.Ex) × Unit) (R := _) (rowB orc f w) ((Gt.Licence_reader.s r2.1.1), (Gt.Licence_reader.end_ r2.1.1), (Gt.Licence_token.kind (Gt.Licence_reader.now r2.1.1)), (Gt.Licence_token.text (Gt.Licence_reader.now r2.1.1)), (Gt.Licence_token.at_ (Gt.Licence_reader.now r2.1.1)), (Gt.Licence_token.tight (Gt.Licence_reader.now r2.1.1)), (Gt.Licence_reader.open_ r2.1.1), kind, [], false, [], [(LicSpec.Ex.mk (LicSpec.Ex.kind r2.2.1) (LicSpec.Ex.name r2.2.1) (LicSpec.Ex.later r2.2.1) (LicSpec.Ex.wth r2.2.1) (LicSpec.Ex.kids r2.2.1))], ())) fun (t14 : List UInt8 × Int × Int × List UInt8 × Int × Bool × Int × Int × List UInt8 × Bool × List UInt8 × List (LicSpec.Ex) × Unit) => (some (.inl (((Gt.Licence_reader.mk t14.1 t14.2.1 (Gt.Licence_token.mk t14.2.2.1 t14.2.2.2.1 t14.2.2.2.2.1 t14.2.2.2.2.2.1) t14.2.2.2.2.2.2.1), ()), ((LicSpec.Ex.mk t14.2.2.2.2.2.2.2.1 t14.2.2.2.2.2.2.2.2.1 t14.2.2.2.2.2.2.2.2.2.1 t14.2.2.2.2.2.2.2.2.2.2.1 t14.2.2.2.2.2.2.2.2.2.2.2.1), ())))))))) fun (p15 : Int × Int × Unit) => (some (.inr (p15.1, p15.2.1, ())))) (fun (r16 : ((Gt.Licence_reader × Unit) × (LicSpec.Ex × Unit))) => (some (.inl ((r16.1.1, ()), ((LicSpec.Ex.mk (LicSpec.Ex.kind r16.2.1) (LicSpec.Ex.name r16.2.1) (LicSpec.Ex.later r16.2.1) (LicSpec.Ex.wth r16.2.1) (LicSpec.Ex.kids r16.2.1)), ()))))) fun (p17 : Int × Int × Unit) => (some (.inr (p17.1, p17.2.1, ()))))

theorem m70_row (orc : Orc Sx) (rc : Gt.Licence_reader × Unit) : m70 orc rc = rowM orc 88 2 sAND rc := rfl
theorem m42_row (orc : Orc Sx) (rc : Gt.Licence_reader × Unit) : m42 orc rc = rowM orc 70 3 sOR rc := rfl

def mkT (S : List UInt8) (kind : Int) (s : PS) (acc : List Ex) : RTup := (S, s.fin, s.kind, s.text, s.at_, s.tight, s.opn, kind, [], false, [], acc, ())

/-- An expression is taken: at least one byte is. -/
def Good (S : List UInt8) (o : Nat) (one : PS → Res Ex) : Prop := ∀ s, s.fin ≤ S.length → s.opn = o → ∀ e s', one s = .ok e s' → s.kind ≠ 0 ∧ s.fin ≤ s'.fin ∧ s'.fin ≤ S.length ∧ s'.opn = o
def Asks (orc : Orc Sx) (f : FuncId) (S : List UInt8) (o : Nat) (one : PS → Res Ex) : Prop := ∀ s, s.fin ≤ S.length → s.opn = o →
  @Eq (Option (((Gt.Licence_reader × Unit) × (Ex × Unit)) ⊕ (Int × Int × Unit))) (orc.e f [.ptr 0 0] [78] [.st 9] ((toR S s, ()) : Gt.Licence_reader × Unit) [.st 4] [.int .i64, .int .i64] 49) (some (outR S (fun e => (e, ())) (one s)))
def AsksIs (orc : Orc Sx) (S : List UInt8) (w : List UInt8) : Prop := ∀ s, s.fin ≤ S.length →
  @Eq (Option (((Gt.Licence_reader × Unit) × (Bool × Unit)) ⊕ (Int × Int × Unit))) (orc.e 87 [.ptr 0 0, .str w] [78] [.st 9] ((toR S s, ()) : Gt.Licence_reader × Unit) [.bool] [.int .i64, .int .i64] 49) (some (outR S (fun b => (b, ())) (pIs S w s)))

theorem pIs_ok {S w : List UInt8} {s s' : PS} {b : Bool} (h : pIs S w s = .ok b s') (hf : s.fin ≤ S.length) : s'.fin ≤ S.length ∧ s.fin ≤ s'.fin ∧ s'.opn = s.opn ∧ (b = true → s'.kind ≠ 0 → s.fin < s'.fin) := by
  unfold pIs at h
  split at h
  · split at h
    · cases h
    · rename_i u s1 hn
      cases h
      obtain ⟨h1, h2, h3, h4⟩ := pNext_ok hn hf
      exact ⟨h1, h2, h4, fun _ => h3⟩
  · cases h; exact ⟨hf, Nat.le_refl _, rfl, fun h => by cases h⟩

theorem toR_eq (S : List UInt8) (s : PS) : (Gt.Licence_reader.mk S s.fin (Gt.Licence_token.mk s.kind s.text s.at_ s.tight) s.opn) = toR S s := rfl

theorem rowB_step {orc : Orc Sx} {f : FuncId} {S : List UInt8} {o : Nat} {kind : Int} {w : List UInt8} {one : PS → Res Ex} (ha : Asks orc f S o one) (hi : AsksIs orc S w) (s : PS) (acc : List Ex) (hf : s.fin ≤ S.length) (ho : s.opn = o) (hacc : acc.length ≤ 2000000) :
    rowB orc f w (mkT S kind s acc) = match pIs S w s with
      | .err a c => some (.inr (.inr (.inr ((a : Int), c, ()))))
      | .ok false s' => some (.inr (.inl (mkT S kind s' acc)))
      | .ok true s' => match one s' with
        | .err a c => some (.inr (.inr (.inr ((a : Int), c, ()))))
        | .ok e s'' => some (.inl (mkT S kind s'' (acc ++ [e]))) := by
  unfold rowB
  simp only [mkT, toR_eq]
  rw [hi s hf]
  cases hp : pIs S w s with
  | err a c => simp [outR, oc_inr]
  | ok b s1 =>
    obtain ⟨k1, k2, k3, _⟩ := pIs_ok hp hf
    simp only [outR, oc_inl]
    cases b with
    | false => simp [br_false, toR]
    | true =>
      simp only [br_true]
      rw [ha s1 k1 (k3.trans ho)]
      cases h1 : one s1 with
      | err a c => simp [outR, oc_inr, same_self]
      | ok e s2 =>
        have hc : cat? acc [e] = some (acc ++ [e]) := cat?_ok (by simp [lim]; omega)
        simp only [outR, oc_inl, hc, ob_some_eq, same_self]
        rfl

theorem row_loop {orc : Orc Sx} {f : FuncId} {S : List UInt8} {o : Nat} {kind : Int} {w : List UInt8} {one : PS → Res Ex} (hS : S.length ≤ 1000000) (hg : Good S o one) (ha : Asks orc f S o one) (hi : AsksIs orc S w) :
    ∀ (F : Nat) (acc : List Ex) (s : PS), s.fin ≤ S.length → s.opn = o → S.length - s.fin < F → acc.length ≤ s.fin + 1 →
      loopM (rowB orc f w) (mkT S kind s acc) = some (match pRowLoop S w one F acc s with | .ok l s' => .inl (mkT S kind s' l) | .err a c => .inr (.inr ((a : Int), c, ()))) ∧
      ∀ l s', pRowLoop S w one F acc s = .ok l s' → s.fin ≤ s'.fin ∧ s'.fin ≤ S.length ∧ s'.opn = o := by
  intro F
  induction F with
  | zero => intro acc s _ _ h _; omega
  | succ F ih =>
    intro acc s hf ho hF hacc
    have hst := rowB_step (kind := kind) ha hi s acc hf ho (by omega)
    unfold pRowLoop
    cases hp : pIs S w s with
    | err a c =>
      rw [hp] at hst
      exact ⟨loopM_end hst, fun l s' h => by cases h⟩
    | ok b s1 =>
      rw [hp] at hst
      obtain ⟨k1, k2, k3, k4⟩ := pIs_ok hp hf
      cases b with
      | false => exact ⟨loopM_end hst, fun l s' h => by cases h; exact ⟨k2, k1, k3.trans ho⟩⟩
      | true =>
        simp only at hst ⊢
        cases h1 : one s1 with
        | err a c =>
          rw [h1] at hst
          exact ⟨loopM_end hst, fun l s' h => by cases h⟩
        | ok e s2 =>
          rw [h1] at hst
          obtain ⟨g1, g2, g3, g4⟩ := hg s1 k1 (k3.trans ho) e s2 h1
          have hlt := k4 rfl g1
          obtain ⟨i1, i2⟩ := ih (acc ++ [e]) s2 g3 g4 (by omega) (by simp; omega)
          exact ⟨by rw [loopM_next hst, i1], fun l s' h => by
            obtain ⟨j1, j2, j3⟩ := i2 l s' h
            exact ⟨by omega, j2, j3⟩⟩

theorem row_law {orc : Orc Sx} {f : FuncId} {S : List UInt8} {o : Nat} {kind : Int} {w : List UInt8} {one : PS → Res Ex} (hS : S.length ≤ 1000000) (hg : Good S o one) (ha : Asks orc f S o one) (hi : AsksIs orc S w) (s : PS) (hf : s.fin ≤ S.length) (ho : s.opn = o) :
    rowM orc f kind w (toR S s, ()) = some (outR S (fun e => (e, ())) (pRow S kind w one s)) := by
  unfold rowM pRow
  simp only
  rw [ha s hf ho]
  cases h1 : one s with
  | err a c => simp [outR, oc_inr]
  | ok e s1 =>
    obtain ⟨hk0, hf1, hf2, ho1⟩ := hg s hf ho e s1 h1
    simp only [outR, oc_inl, Ex.eta, br_some_eq, ob_some_eq, cond_or]
    have hcond : ((toR S s1).now.kind != 2 || (toR S s1).now.text != w) = !(decide (s1.kind = 2 ∧ s1.text = w)) := by
      simp only [toR]
      by_cases a1 : s1.kind = 2 <;> by_cases a2 : s1.text = w <;> simp [a1, a2]
    rw [hcond]
    by_cases hc : s1.kind = 2 ∧ s1.text = w
    · simp only [hc, and_self, decide_true, Bool.not_true, br_false, if_true]
      have hl := (row_loop (kind := kind) hS hg ha hi (S.length + 1) [e] s1 hf2 ho1 (by omega) (by simp)).1
      rw [show ((toR S s1).s, (toR S s1).end_, (toR S s1).now.kind, (toR S s1).now.text, (toR S s1).now.at_, (toR S s1).now.tight, (toR S s1).open_, kind, ([] : List UInt8), false, ([] : List UInt8), [e], ()) = mkT S kind s1 [e] from rfl, hl]
      cases pRowLoop S w one (S.length + 1) [e] s1 with
      | ok l s' => simp only [cutM_inl, oc_inl]; rfl
      | err a c => simp only [cutM_inr, oc_inr]
    · simp [hc, br_true, oc_inl]

theorem pRow_good {orc : Orc Sx} {f : FuncId} {S : List UInt8} {o : Nat} {kind : Int} {w : List UInt8} {one : PS → Res Ex} (hS : S.length ≤ 1000000) (hg : Good S o one) (ha : Asks orc f S o one) (hi : AsksIs orc S w) : Good S o (pRow S kind w one) := by
  intro s hf ho e s' h
  unfold pRow at h
  cases h1 : one s with
  | err a c => rw [h1] at h; cases h
  | ok e1 s1 =>
    rw [h1] at h
    obtain ⟨hk0, hf1, hf2, ho1⟩ := hg s hf ho e1 s1 h1
    simp only at h
    split at h
    · have hl := (row_loop (kind := kind) hS hg ha hi (S.length + 1) [e1] s1 hf2 ho1 (by omega) (by simp)).2
      cases hl2 : pRowLoop S w one (S.length + 1) [e1] s1 with
      | err a c => rw [hl2] at h; cases h
      | ok l s2 =>
        rw [hl2] at h
        cases h
        obtain ⟨j1, j2, j3⟩ := hl l _ hl2
        exact ⟨hk0, by omega, j2, j3⟩
    · cases h; exact ⟨hk0, hf1, hf2, ho1⟩

/-! single expressions, by the depth that is left -/
theorem is_asks (n : Nat) {S : List UInt8} (w : List UInt8) (hS : S.length ≤ 1000000) : AsksIs (orcN (n + 4)) S w := fun s hf => L87 n S s w hS hf

theorem or_step {n : Nat} {S : List UInt8} {o d : Nat} (hS : S.length ≤ 1000000) (hg : Good S o (pSingle S d)) (ha : Asks (orcN (n + 4)) 88 S o (pSingle S d)) :
    Good S o (pRow S 3 sOR (pRow S 2 sAND (pSingle S d))) ∧ Asks (orcN (n + 6)) 42 S o (pRow S 3 sOR (pRow S 2 sAND (pSingle S d))) := by
  have g2 := pRow_good (kind := 2) hS hg ha (is_asks n sAND hS)
  have a2 : Asks (orcN (n + 5)) 70 S o (pRow S 2 sAND (pSingle S d)) := fun s hf ho => by
    rw [q70, m70_row]
    exact row_law hS hg ha (is_asks n sAND hS) s hf ho
  have g3 := pRow_good (kind := 3) hS g2 a2 (is_asks (n + 1) sOR hS)
  refine ⟨g3, fun s hf ho => ?_⟩
  rw [q42, m42_row]
  exact row_law hS g2 a2 (is_asks (n + 1) sOR hS) s hf ho

theorem G41 {n : Nat} (h : 3 ≤ n) {S : List UInt8} {s : PS} (hS : S.length ≤ 1000000) (hf : s.fin ≤ S.length) :
    @Eq (Option (((Gt.Licence_reader × Unit) × Unit) ⊕ (Int × Int × Unit))) ((orcN n).e 41 [.ptr 0 0] [78] [.st 9] ((toR S s, ()) : Gt.Licence_reader × Unit) [] [.int .i64, .int .i64] 49) (some (outR S (fun _ => ()) (pNext S s))) := by
  obtain ⟨k, rfl⟩ : ∃ k, n = k + 3 := ⟨n - 3, by omega⟩
  exact L41e k S s hS hf
theorem G43 {n : Nat} (h : 1 ≤ n) (a c : Int) : @Eq (Option ((Unit × Unit) ⊕ (Int × Int × Unit))) ((orcN n).e 43 [.int .i64 a, .int .i64 c] [] [] () [] [.int .i64, .int .i64] 49) (some (.inr (a, c, ()))) := by
  obtain ⟨k, rfl⟩ : ∃ k, n = k + 1 := ⟨n - 1, by omega⟩
  exact L43 k a c
theorem G87 {n : Nat} (h : 4 ≤ n) {S : List UInt8} {s : PS} (w : List UInt8) (hS : S.length ≤ 1000000) (hf : s.fin ≤ S.length) :
    @Eq (Option (((Gt.Licence_reader × Unit) × (Bool × Unit)) ⊕ (Int × Int × Unit))) ((orcN n).e 87 [.ptr 0 0, .str w] [78] [.st 9] ((toR S s, ()) : Gt.Licence_reader × Unit) [.bool] [.int .i64, .int .i64] 49) (some (outR S (fun b => (b, ())) (pIs S w s))) := by
  obtain ⟨k, rfl⟩ : ∃ k, n = k + 4 := ⟨n - 4, by omega⟩
  exact L87 k S s w hS hf
theorem G96 {n : Nat} (h : 4 ≤ n) {S : List UInt8} {s : PS} (hS : S.length ≤ 1000000) (hf : s.fin ≤ S.length) :
    @Eq (Option (((Gt.Licence_reader × Unit) × (List UInt8 × Unit)) ⊕ (Int × Int × Unit))) ((orcN n).e 96 [.ptr 0 0] [78] [.st 9] ((toR S s, ()) : Gt.Licence_reader × Unit) [.str] [.int .i64, .int .i64] 49) (some (outR S (fun b => (b, ())) (pName S s))) := by
  obtain ⟨k, rfl⟩ : ∃ k, n = k + 4 := ⟨n - 4, by omega⟩
  exact L96 k S s hS hf

theorem pName_ok {S : List UInt8} {s s' : PS} {x : List UInt8} (h : pName S s = .ok x s') (hf : s.fin ≤ S.length) : s.kind = 1 ∧ s.fin ≤ s'.fin ∧ s'.fin ≤ S.length ∧ s'.opn = s.opn := by
  unfold pName at h
  by_cases hk : s.kind = 1
  · rw [if_neg (by simpa using hk)] at h
    cases hn : pNext S s with
    | err a c => rw [hn] at h; cases h
    | ok u s1 =>
      rw [hn] at h; cases h
      obtain ⟨h1, h2, _, h4⟩ := pNext_ok hn hf
      exact ⟨hk, h2, h1, h4⟩
  · rw [if_pos hk] at h; cases h

theorem pTail_ok {S : List UInt8} {s s' : PS} {x : List UInt8} {e : Ex} (h : pTail S x s = .ok e s') (hf : s.fin ≤ S.length) : s.fin ≤ s'.fin ∧ s'.fin ≤ S.length ∧ s'.opn = s.opn := by
  unfold pTail at h
  have rest : ∀ (later : Bool) (s1 : PS), s.fin ≤ s1.fin → s1.fin ≤ S.length → s1.opn = s.opn → (match pIs S sWITH s1 with
      | .err a c => .err a c
      | .ok false s2 => .ok (.mk 1 x later [] []) s2
      | .ok true s2 => match pName S s2 with
        | .err a c => .err a c
        | .ok y s3 => .ok (.mk 1 x later y []) s3 : Res Ex) = .ok e s' → s.fin ≤ s'.fin ∧ s'.fin ≤ S.length ∧ s'.opn = s.opn := by
    intro later s1 q1 q2 q3 h
    cases hi : pIs S sWITH s1 with
    | err a c => rw [hi] at h; cases h
    | ok b s2 =>
      rw [hi] at h
      obtain ⟨k1, k2, k3, _⟩ := pIs_ok hi q2
      cases b with
      | false => cases h; exact ⟨by omega, k1, k3.trans q3⟩
      | true =>
        simp only at h
        cases hn : pName S s2 with
        | err a c => rw [hn] at h; cases h
        | ok y s3 =>
          rw [hn] at h; cases h
          obtain ⟨_, j1, j2, j3⟩ := pName_ok hn k1
          exact ⟨by omega, j2, j3.trans (k3.trans q3)⟩
  by_cases hc : s.kind = 3 ∧ s.tight = true
  · rw [if_pos hc] at h
    cases hn : pNext S s with
    | err a c => rw [hn] at h; cases h
    | ok u s1 =>
      rw [hn] at h
      obtain ⟨h1, h2, _, h4⟩ := pNext_ok hn hf
      exact rest true s1 h2 h1 h4 h
  · rw [if_neg hc] at h
    exact rest false s (Nat.le_refl _) hf rfl h

set_option maxHeartbeats 1000000 in
theorem m88_name {n : Nat} (hn : 4 ≤ n) {S : List UInt8} (hS : S.length ≤ 1000000) (s : PS) (hf : s.fin ≤ S.length) (hk : s.kind ≠ 4) :
    m88 (orcN n) (toR S s, ()) = some (outR S (fun e => (e, ())) (match pName S s with | .err a c => .err a c | .ok x s1 => pTail S x s1)) := by
  unfold m88
  have e4 : ((toR S s).now.kind == 4) = false := by simpa [toR] using hk
  simp only [e4, br_false, G96 hn hS hf]
  cases hp : pName S s with
  | err a c => simp [outR, oc_inr]
  | ok x s1 =>
    obtain ⟨_, _, hf1, _⟩ := pName_ok hp hf
    simp only [outR, oc_inl]
    have hc2 : br ((toR S s1).now.kind == 3) (some (toR S s1).now.tight) (some false) = some (decide (s1.kind = 3 ∧ s1.tight = true)) := by
      simp only [toR, br_some_eq]
      by_cases a1 : s1.kind = 3
      · cases a2 : s1.tight <;> simp [a1]
      · simp [beq_eq_false_iff_ne.2 a1, a1]
    rw [hc2]
    simp only [ob_some_eq]
    unfold pTail
    by_cases hc : s1.kind = 3 ∧ s1.tight = true
    · simp only [hc, and_self, decide_true, br_true, if_true, G41 (by omega : 3 ≤ n) hS hf1]
      cases hq : pNext S s1 with
      | err a c => simp [outR, oc_inr, cutM_inr]
      | ok u s2 =>
        obtain ⟨hf2, _, _, _⟩ := pNext_ok hq hf1
        simp only [outR, oc_inl, cutM_inl]
        rw [show (Gt.Licence_reader.mk (toR S s2).s (toR S s2).end_ (Gt.Licence_token.mk (toR S s2).now.kind (toR S s2).now.text (toR S s2).now.at_ (toR S s2).now.tight) (toR S s2).open_) = toR S s2 from rfl]
        have h87 := G87 hn sWITH hS hf2
        rw [show sWITH = [87, 73, 84, 72] from rfl] at h87
        rw [h87]
        cases hi : pIs S sWITH s2 with
        | err a c => rw [show ([87, 73, 84, 72] : List UInt8) = sWITH from rfl, hi]; simp [outR, oc_inr]
        | ok b s3 =>
          obtain ⟨hf3, _, _, _⟩ := pIs_ok hi hf2
          rw [show ([87, 73, 84, 72] : List UInt8) = sWITH from rfl, hi]
          cases b with
          | false => simp [outR, oc_inl, br_false]
          | true =>
            simp only [outR, oc_inl, br_true, G96 hn hS hf3]
            cases hx : pName S s3 with
            | err a c => simp [oc_inr]
            | ok y s4 => simp [oc_inl]
    · simp only [hc, decide_false, br_false, if_false, cutM_inl]
      rw [show (Gt.Licence_reader.mk (toR S s1).s (toR S s1).end_ (Gt.Licence_token.mk (toR S s1).now.kind (toR S s1).now.text (toR S s1).now.at_ (toR S s1).now.tight) (toR S s1).open_) = toR S s1 from rfl]
      have h87 := G87 hn sWITH hS hf1
      rw [show sWITH = [87, 73, 84, 72] from rfl] at h87
      rw [h87]
      cases hi : pIs S sWITH s1 with
      | err a c => rw [show ([87, 73, 84, 72] : List UInt8) = sWITH from rfl, hi]; simp [outR, oc_inr]
      | ok b s3 =>
        obtain ⟨hf3, _, _, _⟩ := pIs_ok hi hf1
        rw [show ([87, 73, 84, 72] : List UInt8) = sWITH from rfl, hi]
        cases b with
        | false => simp [outR, oc_inl, br_false]
        | true =>
          simp only [outR, oc_inl, br_true, G96 hn hS hf3]
          cases hx : pName S s3 with
          | err a c => simp [oc_inr]
          | ok y s4 => simp [oc_inl]

theorem single_name_good {S : List UInt8} {s s' : PS} {e : Ex} (h : (match pName S s with | .err a c => .err a c | .ok x s1 => pTail S x s1 : Res Ex) = .ok e s') (hf : s.fin ≤ S.length) : s.kind ≠ 0 ∧ s.fin ≤ s'.fin ∧ s'.fin ≤ S.length ∧ s'.opn = s.opn := by
  cases hp : pName S s with
  | err a c => rw [hp] at h; cases h
  | ok x s1 =>
    rw [hp] at h
    obtain ⟨h1, h2, h3, h4⟩ := pName_ok hp hf
    obtain ⟨k1, k2, k3⟩ := pTail_ok h h3
    exact ⟨by omega, by omega, k2, k3.trans h4⟩

set_option maxHeartbeats 1000000 in
theorem single_law {S : List UInt8} (hS : S.length ≤ 1000000) : ∀ (d o : Nat), o + d = 30 → ∀ n, 3 * d + 6 ≤ n → Good S o (pSingle S d) ∧ Asks (orcN n) 88 S o (pSingle S d) := by
  intro d
  induction d with
  | zero =>
    intro o hod n hn
    obtain ⟨m, rfl⟩ : ∃ m, n = m + 1 := ⟨n - 1, by omega⟩
    constructor
    · intro s hf ho e s' h
      unfold pSingle at h
      by_cases hk : s.kind = 4
      · rw [if_pos hk] at h; cases h
      · rw [if_neg hk] at h
        obtain ⟨k1, k2, k3, k4⟩ := single_name_good h hf
        exact ⟨k1, k2, k3, k4.trans ho⟩
    · intro s hf ho
      rw [q88]
      unfold pSingle
      by_cases hk : s.kind = 4
      · rw [if_pos hk]
        unfold m88
        have e4 : ((toR S s).now.kind == 4) = true := by simpa [toR] using hk
        have hw : decide (30 < IntKind.i64.wrap ((toR S s).open_ + 1)) = true := by
          have : IntKind.i64.wrap ((s.opn : Int) + 1) = ((s.opn + 1 : Nat) : Int) := by rw [wrap_id (by omega) (by omega)]; rfl
          show decide (30 < IntKind.i64.wrap ((s.opn : Int) + 1)) = true
          rw [this]; simp; omega
        simp only [e4, br_true, hw, G43 (by omega : 1 ≤ m), oc_inr, cutM_inr]
        rfl
      · rw [if_neg hk]
        exact m88_name (by omega) hS s hf hk
  | succ d ih =>
    intro o hod n hn
    obtain ⟨m, rfl⟩ : ∃ m, n = m + 7 := ⟨n - 7, by omega⟩
    obtain ⟨gs, asks⟩ := ih (o + 1) (by omega) (m + 4) (by omega)
    obtain ⟨gr, ar⟩ := or_step (n := m) hS gs asks
    constructor
    · intro s hf ho e s' h
      unfold pSingle at h
      by_cases hk : s.kind = 4
      · rw [if_pos hk] at h
        simp only at h
        cases hp : pNext S { s with opn := s.opn + 1 } with
        | err a c => rw [hp] at h; cases h
        | ok u s1 =>
          rw [hp] at h
          simp only at h
          obtain ⟨h1, h2, _, h4⟩ := pNext_ok hp hf
          cases hr : pRow S 3 sOR (pRow S 2 sAND (pSingle S d)) s1 with
          | err a c => rw [hr] at h; cases h
          | ok e2 s2 =>
            rw [hr] at h
            simp only at h
            obtain ⟨_, g2, g3, g4⟩ := gr s1 h1 (by rw [h4]; show s.opn + 1 = o + 1; omega) e2 s2 hr
            by_cases h5 : s2.kind = 5
            · rw [if_neg (by simpa using h5)] at h
              cases hq : pNext S { s2 with opn := s2.opn - 1 } with
              | err a c => rw [hq] at h; cases h
              | ok u s3 =>
                rw [hq] at h
                cases h
                obtain ⟨j1, j2, _, j4⟩ := pNext_ok hq g3
                refine ⟨by omega, ?_, j1, by rw [j4]; show s2.opn - 1 = o; omega⟩
                have e1 : s.fin ≤ s1.fin := h2
                have e2 : s2.fin ≤ s'.fin := j2
                omega
            · rw [if_pos h5] at h; cases h
      · rw [if_neg hk] at h
        obtain ⟨k1, k2, k3, k4⟩ := single_name_good h hf
        exact ⟨k1, k2, k3, k4.trans ho⟩
    · intro s hf ho
      rw [q88]
      unfold pSingle
      by_cases hk : s.kind = 4
      · rw [if_pos hk]
        unfold m88
        have e4 : ((toR S s).now.kind == 4) = true := by simpa [toR] using hk
        have hwr : IntKind.i64.wrap ((toR S s).open_ + 1) = ((s.opn + 1 : Nat) : Int) := by
          show IntKind.i64.wrap ((s.opn : Int) + 1) = _
          rw [wrap_id (by omega) (by omega)]; rfl
        have hw : decide (30 < (((s.opn + 1 : Nat) : Int))) = false := by simp; omega
        simp only [e4, br_true, hwr, hw, br_false, cutM_inl]
        rw [show (Gt.Licence_reader.mk (toR S s).s (toR S s).end_ (Gt.Licence_token.mk (toR S s).now.kind (toR S s).now.text (toR S s).now.at_ (toR S s).now.tight) (((s.opn + 1 : Nat) : Int))) = toR S { s with opn := s.opn + 1 } from rfl]
        rw [G41 (by omega : 3 ≤ m + 6) hS (s := { s with opn := s.opn + 1 }) hf]
        cases hp : pNext S { s with opn := s.opn + 1 } with
        | err a c => simp [outR, oc_inr]
        | ok u s1 =>
          obtain ⟨h1, h2, _, h4⟩ := pNext_ok hp hf
          have ho1 : s1.opn = o + 1 := by rw [h4]; show s.opn + 1 = o + 1; omega
          simp only [outR, oc_inl]
          rw [ar s1 h1 ho1]
          cases hr : pRow S 3 sOR (pRow S 2 sAND (pSingle S d)) s1 with
          | err a c => simp [outR, oc_inr]
          | ok e2 s2 =>
            obtain ⟨_, g2, g3, g4⟩ := gr s1 h1 ho1 e2 s2 hr
            simp only [outR, oc_inl]
            by_cases h5 : s2.kind = 5
            · have e5 : ((toR S s2).now.kind != 5) = false := by simp [toR, h5]
              have hwr2 : IntKind.i64.wrap ((toR S s2).open_ - 1) = ((s2.opn - 1 : Nat) : Int) := by
                show IntKind.i64.wrap ((s2.opn : Int) - 1) = _
                rw [wrap_id (by omega) (by omega)]; omega
              simp only [e5, br_false, cutM_inl, hwr2]
              rw [show (Gt.Licence_reader.mk (toR S s2).s (toR S s2).end_ (toR S s2).now (((s2.opn - 1 : Nat) : Int))) = toR S { s2 with opn := s2.opn - 1 } from rfl]
              rw [G41 (by omega : 3 ≤ m + 6) hS (s := { s2 with opn := s2.opn - 1 }) g3]
              rw [if_neg (by simpa using h5)]
              cases hq : pNext S { s2 with opn := s2.opn - 1 } with
              | err a c => simp [outR, oc_inr]
              | ok u s3 => simp [outR, oc_inl, Ex.eta]
            · have e5 : ((toR S s2).now.kind != 5) = true := by simpa [toR] using h5
              simp only [e5, br_true, G43 (by omega : 1 ≤ m + 6), oc_inr, cutM_inr]
              rw [if_pos h5]
              rfl
      · rw [if_neg hk]
        exact m88_name (by omega) hS s hf hk
end Pe.Tryd
