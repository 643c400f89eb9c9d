/- What is handed in to the laws of licences: which types are read as which codes; expressions of bounded bulk are small. -/
import Derived.Test.YteimbekcnkogoaaDoorLicCard
import Derived.Test.YteimbekcnkogoaaDoorLicE
import Derived.Test.YteimbekcnkogoaaDoorPeD
set_option maxRecDepth 100000
namespace Go.Proofs.YteimbekcnkogoaaDoor
open Go Go.RowKit Go.WideShapes Go.ChangeShapes Go.ChangeAt Pe Pe.Tryd

/-- Which types are read as which codes. -/
def M : U → TypeId → Prop := fun u t => (u = .int .i64 ∧ (t = 3 ∨ t = 3)) ∨ (u = .str ∧ t = 9) ∨ (u = .bool ∧ t = 4) ∨ (u = .st 4 ∧ t = 24) ∨ (u = .sl (.st 4) ∧ t = 22)
theorem mInt : M (.int .i64) 3 := .inl ⟨rfl, .inl rfl⟩
theorem mStr : M .str 9 := .inr (.inl ⟨rfl, rfl⟩)
theorem mBool : M .bool 4 := .inr (.inr (.inl ⟨rfl, rfl⟩))
theorem mEx : M (.st 4) 24 := .inr (.inr (.inr (.inl ⟨rfl, rfl⟩)))
theorem mExs : M (.sl (.st 4)) 22 := .inr (.inr (.inr (.inr ⟨rfl, rfl⟩)))
theorem stepM : ∀ u t, M u t → Step Tryd.prog un M u t := by
  intro u t h
  rcases h with ⟨rfl, rfl | rfl⟩ | ⟨rfl, rfl⟩ | ⟨rfl, rfl⟩ | ⟨rfl, rfl⟩ | ⟨rfl, rfl⟩
  · exact (by kernel_rfl : Tryd.prog.underlying 3 = some (.int .i64))
  · exact (by kernel_rfl : Tryd.prog.underlying 3 = some (.int .i64))
  · exact u9
  · exact u4
  · exact ⟨by kernel_rfl, .inl ⟨_, Tryd.underlying24, ⟨by kernel_rfl, by kernel_rfl, mInt, by kernel_rfl, by kernel_rfl, mStr, by kernel_rfl, by kernel_rfl, mBool, by kernel_rfl, by kernel_rfl, mStr, by kernel_rfl, by kernel_rfl, mExs, trivial⟩⟩⟩
  · exact ⟨24, Tryd.underlying22, by kernel_rfl, by decide, mEx⟩
theorem laidOut : laidOutB Tryd.prog = true := by kernel_rfl

/-- What a list's bulk says of its length. -/
theorem bulk_mem {H : Type} : ∀ {l : List (DataW H)} {i : Nat} {d : DataW H}, l[i]? = some d → Rows.uptoBulk d ≤ Rows.uptoBulkAll l
  | [], i, d, h => by simp at h
  | x :: r, 0, d, h => by simp at h; subst h; simp only [Rows.uptoBulkAll]; omega
  | x :: r, i + 1, d, h => by
    have := bulk_mem (l := r) (i := i) (d := d) (by simpa using h)
    simp only [Rows.uptoBulkAll]; omega
theorem bulk_pos {H : Type} (d : DataW H) : 1 ≤ Rows.uptoBulk d := by
  cases d with
  | lit l => cases l <;> simp [Rows.uptoBulk]
  | _ => simp [Rows.uptoBulk]
theorem bulk_len {H : Type} : ∀ (l : List (DataW H)), l.length ≤ Rows.uptoBulkAll l
  | [] => by simp
  | x :: r => by have := bulk_len r; have := bulk_pos x; simp only [Rows.uptoBulkAll, List.length_cons]; omega

open LicSpec in
theorem rd_ex {H : Type} {e : Ex} {d : DataW H} (h : Rd un [.st 4] (sg (u := .st 4) e) [d]) :
    ∃ dk, d = .agg [.lit (.int .i64 e.kind), .lit (.string e.name), .lit (.bool e.later), .lit (.string e.wth), dk] ∧ (Lit.int .i64 e.kind).wf = true ∧
      ((dk = .nil ∧ e.kids = []) ∨ ∃ es sp, dk = .slice es sp ∧ es.length = e.kids.length ∧ ∀ (i : Nat) (x : Ex) (d : DataW H), e.kids[i]? = some x → es[i]? = some d → Rd un [.st 4] (sg (u := .st 4) x) [d]) := by
  obtain ⟨ps, r, h0, h1, _⟩ := h.inv_st
  obtain ⟨rfl, _⟩ := List.cons.inj h0
  have h1 : Rd un [.int .i64, .str, .bool, .str, .sl (.st 4)] ((e.kind, e.name, e.later, e.wth, e.kids, ()) : ElL Sx [.int .i64, .str, .bool, .str, .sl (.st 4)]) ps := h1
  obtain ⟨r1, rfl, w1, h2⟩ := h1.inv_int
  obtain ⟨r2, rfl, w2, h3⟩ := h2.inv_str
  obtain ⟨r3, rfl, h4⟩ := h3.inv_bool
  obtain ⟨r4, rfl, w4, h5⟩ := h4.inv_str
  obtain ⟨dk, r5, rfl, h6, h7⟩ := h5.inv_sl
  obtain rfl := h7.inv_nil
  exact ⟨dk, rfl, w1, h6⟩

open LicSpec in
/-- Expressions that were handed in are small. -/
theorem ex_small {H : Type} {N : Nat} (hN : N ≤ 2000000) : ∀ (n : Nat) (e : Ex) (d : DataW H), Rows.uptoBulk d ≤ n → Rd un [.st 4] (sg (u := .st 4) e) [d] → Rows.uptoBulk d ≤ N → Small e ∧ e.lev ≤ Rows.uptoBulk d := by
  intro n
  induction n with
  | zero => intro e d h; have := bulk_pos d; omega
  | succ n ih =>
    intro e d hn h hb
    obtain ⟨dk, rfl, _, h5⟩ := rd_ex h
    simp only [Rows.uptoBulk, Rows.uptoBulkAll] at hn hb ⊢
    have key : SmallL e.kids ∧ e.kids.length ≤ Rows.uptoBulk dk ∧ levL e.kids ≤ Rows.uptoBulk dk := by
      rcases h5 with ⟨rfl, h0⟩ | ⟨es, sp, rfl, hl, h6⟩
      · rw [h0]; simp [SmallL, levL]
      · simp only [Rows.uptoBulk] at hn hb ⊢
        have hlen := bulk_len es
        have one : ∀ k ∈ e.kids, Small k ∧ k.lev ≤ Rows.uptoBulkAll es := by
          intro k hk
          obtain ⟨i, hi, rfl⟩ := List.getElem_of_mem hk
          have hi' : es[i]? = some es[i] := List.getElem?_eq_getElem (by omega)
          have hm := bulk_mem hi'
          obtain ⟨a, b⟩ := ih e.kids[i] es[i] (by omega) (h6 i _ _ (List.getElem?_eq_getElem hi) hi') (by omega)
          exact ⟨a, by omega⟩
        refine ⟨smallL_of fun k hk => (one k hk).1, by omega, ?_⟩
        have := levL_le' fun k hk => (one k hk).2
        omega
    obtain ⟨k1, k2, k3⟩ := key
    cases e with
    | mk a b c d l =>
      simp only at *
      refine ⟨?_, ?_⟩
      · simp only [Small]; exact ⟨by omega, by omega, by omega, k1⟩
      · simp only [Ex.lev]; omega

end Go.Proofs.YteimbekcnkogoaaDoor
