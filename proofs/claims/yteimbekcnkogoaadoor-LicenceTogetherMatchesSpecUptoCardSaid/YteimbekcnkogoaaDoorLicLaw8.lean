/- Print, the told text, and the first law in plain. -/
import Derived.Test.YteimbekcnkogoaaDoorLicLaw7
set_option maxRecDepth 100000
namespace LicSpec
open Go

def tWITH : Str := [32, 87, 73, 84, 72, 32]
def tOR : Str := [32, 79, 82, 32]
def tAND : Str := [32, 65, 78, 68, 32]
mutual
/-- The text of an expression. -/
def txt : Ex → Str
  | .mk kind name later wth kids =>
    if kind = 1 then (if later = true then name ++ [43] else name) ++ (if wth ≠ [] then tWITH ++ wth else [])
    else Lib.join (txtL kind kids) (if kind = 3 then tOR else tAND)
def txtL : Int → List Ex → List Str
  | _, [] => []
  | kind, k :: r => (if k.kind = kind ∨ k.kind = 3 then [40] ++ txt k ++ [41] else txt k) :: txtL kind r
end
def par (kind : Int) (k : Ex) : Str := if k.kind = kind ∨ k.kind = 3 then [40] ++ txt k ++ [41] else txt k
theorem txtL_cons (kind : Int) (k : Ex) (r : List Ex) : txtL kind (k :: r) = par kind k :: txtL kind r := by simp only [txtL, par]
theorem txt_eq (e : Ex) : txt e = if e.kind = 1 then (if e.later = true then e.name ++ [43] else e.name) ++ (if e.wth ≠ [] then tWITH ++ e.wth else [])
    else Lib.join (txtL e.kind e.kids) (if e.kind = 3 then tOR else tAND) := by cases e; simp only [txt]
theorem txtL_length (kind : Int) (l : List Ex) : (txtL kind l).length = l.length := by
  induction l with
  | nil => simp [txtL]
  | cons k r ih => simp [txtL_cons, ih]

theorem faultL_mem : ∀ {l : List Ex} {k : Ex}, faultL l = 0 → k ∈ l → fault k = 0
  | x :: r, k, h, hk => by
    simp only [faultL] at h
    by_cases hx : fault x = 0
    · rw [if_neg (by simp [hx])] at h
      rcases List.mem_cons.1 hk with rfl | hk
      · exact hx
      · exact faultL_mem h hk
    · rw [if_pos hx] at h; exact absurd h hx
theorem fault_zero {e : Ex} (h : fault e = 0) : one e = 0 ∧ faultL e.kids = 0 := by
  rw [fault_eq'] at h
  by_cases ho : one e = 0
  · rw [if_neg (by simp [ho])] at h; exact ⟨ho, h⟩
  · rw [if_pos ho] at h; exact absurd h ho
theorem one_zero {e : Ex} (h : one e = 0) : 1 ≤ e.kind ∧ e.kind ≤ 3 ∧ (e.kind = 1 → e.kids = [] ∧ isName e.name = true ∧ (e.wth = [] ∨ isName e.wth = true)) ∧ (e.kind ≠ 1 → e.name = [] ∧ e.later = false ∧ e.wth = [] ∧ 2 ≤ e.kids.length) := by
  rw [Pe.Tryd.one_cases] at h
  by_cases hk : e.kind < 1 ∨ 3 < e.kind
  · rw [if_pos hk] at h; omega
  rw [if_neg hk] at h
  refine ⟨by omega, by omega, fun h1 => ?_, fun h1 => ?_⟩
  · rw [if_neg (by simp [h1])] at h
    by_cases h2 : 0 < e.kids.length
    · rw [if_pos h2] at h; omega
    rw [if_neg h2] at h
    by_cases h3 : isName e.name = false ∨ (e.wth ≠ [] ∧ isName e.wth = false)
    · rw [if_pos h3] at h; omega
    · refine ⟨List.length_eq_zero_iff.1 (by omega), ?_, ?_⟩
      · cases hn : isName e.name with
        | true => rfl
        | false => exact absurd (.inl hn) h3
      · by_cases hw : e.wth = []
        · exact .inl hw
        · cases hn : isName e.wth with
          | true => exact .inr rfl
          | false => exact absurd (.inr ⟨hw, hn⟩) h3
  · rw [if_pos h1] at h
    by_cases h2 : e.name ≠ [] ∨ e.later = true ∨ e.wth ≠ [] ∨ e.kids.length < 2
    · rw [if_pos h2] at h; omega
    · refine ⟨Classical.byContradiction fun h => h2 (.inl h), ?_, Classical.byContradiction fun h => h2 (.inr (.inr (.inl h))), ?_⟩
      · cases hl : e.later with
        | false => rfl
        | true => exact absurd (.inr (.inl hl)) h2
      · exact Nat.le_of_not_lt fun h => h2 (.inr (.inr (.inr h)))

theorem joinTail_len (sep : Str) (hs : sep.length ≤ 5) (r : List Str) : (Lib.joinTail sep r).length ≤ (r.map (fun x => x.length + 5)).sum := by
  induction r with
  | nil => simp [Lib.joinTail]
  | cons y r ih =>
    unfold Lib.joinTail at ih ⊢
    simp only [List.map_cons, List.flatten_cons, List.length_append, List.sum_cons]
    omega
theorem join_len (sep : Str) (hs : sep.length ≤ 5) (l : List Str) : (Lib.join l sep).length ≤ (l.map (fun x => x.length + 5)).sum := by
  cases l with
  | nil => simp [Lib.join_nil]
  | cons x r =>
    rw [Lib.join_cons]
    have := joinTail_len sep hs r
    simp only [List.length_append, List.map_cons, List.sum_cons]; omega
theorem sep_len (kind : Int) : (if kind = 3 then tOR else tAND : Str).length ≤ 5 := by split <;> decide

mutual
theorem txt_len : ∀ (e : Ex), fault e = 0 → (txt e).length + 10 ≤ 140 * e.cnt
  | .mk kind name later wth kids, h => by
    obtain ⟨h1, h2⟩ := fault_zero h
    obtain ⟨_, _, o1, o2⟩ := one_zero h1
    simp only at o1 o2 h2
    simp only [txt, Ex.cnt]
    by_cases hk : kind = 1
    · obtain ⟨rfl, n1, n2⟩ := o1 hk
      have l1 := isName_len n1
      rw [if_pos hk]
      have l2 : (if later = true then name ++ [43] else name : Str).length ≤ 61 := by
        split
        · simp; omega
        · omega
      have l3 : (if wth ≠ [] then tWITH ++ wth else [] : Str).length ≤ 66 := by
        rcases n2 with rfl | n2
        · simp
        · have := isName_len n2
          split
          · simp [tWITH]; omega
          · simp
      rw [List.length_append]; omega
    · rw [if_neg hk]
      have := txtL_len kind kids h2
      have := join_len (if kind = 3 then tOR else tAND) (sep_len kind) (txtL kind kids)
      omega
theorem txtL_len : ∀ (kind : Int) (l : List Ex), faultL l = 0 → ((txtL kind l).map (fun x => x.length + 5)).sum ≤ 140 * cntL l
  | _, [], _ => by simp [txtL]
  | kind, k :: r, h => by
    have h1 := txt_len k (faultL_mem h (by simp))
    have h2 : faultL r = 0 := by
      simp only [faultL] at h
      split at h
      · rename_i hx; exact absurd h hx
      · exact h
    have h3 := txtL_len kind r h2
    rw [txtL_cons, List.map_cons, List.sum_cons]
    simp only [cntL]
    have : (par kind k).length ≤ (txt k).length + 2 := by
      unfold par; split
      · simp
      · omega
    omega
end
theorem cnt_kids {e k : Ex} (h : k ∈ e.kids) : k.cnt < e.cnt := by
  cases e with
  | mk a b c d l => have : k.cnt ≤ cntL l := cnt_mem h; simp only [Ex.cnt]; omega
theorem cnt_len {e : Ex} : e.kids.length < e.cnt := by
  cases e with
  | mk a b c d l =>
    simp only [Ex.cnt]
    have : ∀ l : List Ex, l.length ≤ cntL l := by
      intro l
      induction l with
      | nil => simp
      | cons k r ih => have := k.cnt_pos; simp only [cntL, List.length_cons]; omega
    have := this l
    omega
mutual
theorem small_fine : ∀ (e : Ex), fault e = 0 → e.cnt ≤ 200 → Small e
  | .mk kind name later wth kids, h, hc => by
    obtain ⟨h1, h2⟩ := fault_zero h
    obtain ⟨_, _, o1, o2⟩ := one_zero h1
    have hl := cnt_len (e := .mk kind name later wth kids)
    simp only at o1 o2 h2 hl
    simp only [Ex.cnt] at hc hl
    simp only [Small]
    refine ⟨?_, ?_, by omega, small_fineL kids h2 (by omega)⟩
    · by_cases hk : kind = 1
      · have := isName_len (o1 hk).2.1; omega
      · rw [(o2 hk).1]; simp
    · by_cases hk : kind = 1
      · rcases (o1 hk).2.2 with rfl | n
        · simp
        · have := isName_len n; omega
      · rw [(o2 hk).2.2.1]; simp
theorem small_fineL : ∀ (l : List Ex), faultL l = 0 → cntL l ≤ 200 → SmallL l
  | [], _, _ => by simp only [SmallL]
  | k :: r, h, hc => by
    simp only [cntL] at hc
    simp only [SmallL]
    refine ⟨small_fine k (faultL_mem h (by simp)) (by omega), small_fineL r ?_ (by omega)⟩
    simp only [faultL] at h
    split at h
    · rename_i hx; exact absurd h hx
    · exact h
end
theorem chk_zero {e : Ex} (h : chk e = 0) : e.cnt ≤ 200 ∧ e.lev ≤ 30 ∧ fault e = 0 := by
  unfold chk at h
  split at h
  · omega
  · exact ⟨by omega, by omega, h⟩
end LicSpec

namespace Pe.Tryd
open Go Go.Proofs Pe LicSpec

theorem L26 : ∀ (n : Nat) (e : Ex), e.lev ≤ n → fault e = 0 → e.cnt ≤ 200 → m26 (orcN n) e = some (txt e, ()) := by
  intro n
  induction n with
  | zero => intro e h; have := e.lev_pos; omega
  | succ n ih =>
    intro e hl hf hc
    obtain ⟨h1, h2⟩ := fault_zero hf
    obtain ⟨k1, k3, o1, o2⟩ := one_zero h1
    have hlen := txt_len e hf
    unfold m26
    rw [txt_eq]
    by_cases hk : e.kind = 1
    · obtain ⟨n0, n1, n2⟩ := o1 hk
      have l1 := isName_len n1
      have e1 : (e.kind == 1) = true := by simpa using hk
      rw [e1, if_pos hk]
      simp only [br_true]
      have hw : e.wth.length ≤ 60 := by
        rcases n2 with h | h
        · rw [h]; simp
        · exact isName_len h
      have hlim : lim = 4294967296 := rfl
      rw [cat?_ok (l := e.name) (r := [43]) (by simp; omega)]
      have fin : ∀ a : List UInt8, a.length ≤ 61 → (br (e.wth != []) (ob (cat? ([32, 87, 73, 84, 72, 32] : List UInt8) e.wth) fun s3 => (ob (cat? a s3) fun s4 => (some (s4, ())))) (some (a, ()))) = some (a ++ (if e.wth ≠ [] then tWITH ++ e.wth else []), ()) := by
        intro a ha
        by_cases h0 : e.wth = []
        · simp [h0, br_false]
        · have : (e.wth != []) = true := by simpa using h0
          rw [this, cat?_ok (by simp; omega), if_pos h0]
          simp only [br_true, ob_some_eq]
          rw [cat?_ok (by simp; omega)]; rfl
      cases hla : e.later with
      | true =>
        simp only [br_true, ob_some_eq, cutM_inl, if_true]
        exact fin _ (by simp; omega)
      | false =>
        simp only [br_false, ob_some_eq, cutM_inl, Bool.false_eq_true, if_false]
        exact fin _ (by omega)
    · have e1 : (e.kind == 1) = false := by simpa using hk
      rw [e1, if_neg hk]
      simp only [br_false]
      have e3 : br (e.kind == 3) (some (Sum.inl ([32, 79, 82, 32], ())) : Option ((List UInt8 × Unit) ⊕ (List UInt8 × Unit))) (some (.inl ([32, 65, 78, 68, 32], ()))) = some (.inl ((if e.kind = 3 then tOR else tAND), ())) := by
        by_cases h3 : e.kind = 3
        · simp [h3, br_true, tOR]
        · have : (e.kind == 3) = false := by simpa using h3
          simp [h3, this, br_false, tAND]
      rw [e3]
      simp only [cutM_inl]
      have hkl : e.kids.length < e.cnt := cnt_len
      have hlim : lim = 4294967296 := rfl
      rw [show (([] : List (List UInt8)), (0 : Int), ()) = ((fun (k : Nat) (a : List (List UInt8)) => (a, (k : Int), ())) 0 []) from rfl]
      rw [loop_st (R := (List (List UInt8) × Unit) ⊕ (List UInt8 × Unit)) (fun (k : Nat) (a : List (List UInt8)) => (a, (k : Int), ())) e.kids.length (fun k a => .inl (a ++ txtL e.kind (e.kids.drop k), ())) (fun k a => a.length = k) ?h1 0 [] (Nat.zero_le _) rfl]
      case h1 =>
        intro k a hk' ha
        simp only
        by_cases hlt : k < e.kids.length
        · have hmem : e.kids[k] ∈ e.kids := List.getElem_mem hlt
          have hlk := lev_kid hmem
          have hck := cnt_kids hmem
          have hfk := faultL_mem h2 hmem
          have hih := ih e.kids[k] (by omega) hfk (by omega)
          have htl := txt_len _ hfk
          left
          refine ⟨a ++ [par e.kind e.kids[k]], hlt, ?_, by simp [ha], ?_⟩
          · simp only [len_lt, hlt, decide_true, br_true, ob_some_eq, at?_get hlt, Ex.eta, q26, hih, br_some_eq, cond_or]
            have hcond : ((e.kids[k].kind == e.kind) || (e.kids[k].kind == 3)) = decide (e.kids[k].kind = e.kind ∨ e.kids[k].kind = 3) := by
              by_cases a1 : e.kids[k].kind = e.kind <;> by_cases a2 : e.kids[k].kind = 3 <;> simp [a1, a2]
            rw [hcond]
            unfold par
            by_cases hp : e.kids[k].kind = e.kind ∨ e.kids[k].kind = 3
            · rw [decide_eq_true hp, if_pos hp]
              simp only [br_true]
              rw [cat?_ok (by simp; omega)]
              simp only [ob_some_eq]
              rw [cat?_ok (by simp; omega)]
              simp only [ob_some_eq, cutM_inl]
              rw [cat?_ok (by simp; omega)]
              simp only [ob_some_eq, wrap_succ hlt (by omega : e.kids.length ≤ 9223372036854775807)]
            · rw [decide_eq_false hp, if_neg hp]
              simp only [br_false, cutM_inl]
              rw [cat?_ok (by simp; omega)]
              simp only [ob_some_eq, wrap_succ hlt (by omega : e.kids.length ≤ 9223372036854775807)]
          · rw [drop_get' hlt, txtL_cons]; simp
        · right
          simp only [len_lt, hlt, decide_false, br_false]
          rw [List.drop_of_length_le (by omega)]; simp [txtL]
      simp only [cutM_inl, List.drop_zero, List.nil_append]
      rw [q51]
      have b1 : Nat.ble (txtL e.kind e.kids).length 1000000 = true := by rw [Nat.ble_eq, txtL_length]; omega
      have b2 : Nat.ble (Lib.join (txtL e.kind e.kids) (if e.kind = 3 then tOR else tAND)).length 100000000 = true := by
        rw [Nat.ble_eq]
        rw [txt_eq, if_neg hk] at hlen
        omega
      rw [b1, b2]; rfl

theorem L11 {n : Nat} (hn : 220 ≤ n) {e : Ex} (h : chk e = 0) : m11 (orcN n) e = some (if 4000 < (txt e).length then ([], 3, ()) else (txt e, 0, ())) := by
  obtain ⟨c1, c2, c3⟩ := chk_zero h
  obtain ⟨m, rfl⟩ : ∃ m, n = m + 1 := ⟨n - 1, by omega⟩
  have h20 := L20 m e (by omega) (small_fine e c3 c1)
  have h26 := L26 m e (by omega) c3 c1
  unfold m11
  simp only [Ex.eta, q20, h20, ob_some_eq, h, show ((0 : Int) != 0) = false from rfl, br_false, q26, h26, dec_len]
  by_cases hx : 4000 < (txt e).length
  · rw [decide_eq_true hx, if_pos hx]; rfl
  · rw [decide_eq_false hx, if_neg hx]; rfl

def toldS : List UInt8 := [109, 105, 116, 32, 111, 114, 32, 40, 103, 112, 108, 45, 50, 43, 32, 119, 105, 116, 104, 32, 108, 105, 110, 107, 105, 110, 103, 32, 97, 110, 100, 32, 98, 115, 100, 41]
def toldT : List UInt8 := [109, 105, 116, 32, 79, 82, 32, 103, 112, 108, 45, 50, 43, 32, 87, 73, 84, 72, 32, 108, 105, 110, 107, 105, 110, 103, 32, 65, 78, 68, 32, 98, 115, 100]
def toldE : Ex := .mk 3 [] false [] [.mk 1 [109, 105, 116] false [] [], .mk 2 [] false [] [.mk 1 [103, 112, 108, 45, 50] true [108, 105, 110, 107, 105, 110, 103] [], .mk 1 [98, 115, 100] false [] []]]
theorem told_chk : chk toldE = 0 := by kernel_rfl
theorem told_read : licR toldS = (toldE, 0, 0, ()) := by kernel_rfl
theorem told_txt : txt toldE = toldT := by kernel_rfl

theorem L10 {n : Nat} (hn : 230 ≤ n) : m10 (orcN n) = some (true, ()) := by
  obtain ⟨m, rfl⟩ : ∃ m, n = m + 1 := ⟨n - 1, by omega⟩
  unfold m10
  have h7 := G7 (n := m + 1) (by omega) toldS
  rw [told_read] at h7
  rw [show ([109, 105, 116, 32, 111, 114, 32, 40, 103, 112, 108, 45, 50, 43, 32, 119, 105, 116, 104, 32, 108, 105, 110, 107, 105, 110, 103, 32, 97, 110, 100, 32, 98, 115, 100, 41] : List UInt8) = toldS from rfl, h7]
  have h11 := L11 (n := m) (by omega) told_chk
  rw [told_txt, if_neg (by decide)] at h11
  simp only [ob_some_eq, Ex.eta, q11, h11]
  rfl
theorem G10 {n : Nat} (hn : 231 ≤ n) : @Eq (Option (Bool × Unit)) ((orcN n).d 10 [] [.bool]) (some (true, ())) := by
  obtain ⟨m, rfl⟩ : ∃ m, n = m + 1 := ⟨n - 1, by omega⟩
  rw [q10]; exact L10 (by omega)

/-- THE FIRST LAW: both readers answer the same. -/
theorem L3 (S : List UInt8) : m3 (orcN 300) S = some (true, ()) := by
  unfold m3
  have hf := licR_fit S
  rw [G7 (by omega) S, G8 (by omega) S]
  simp only [ob_some_eq, Ex.eta]
  rw [G9 (by have := hf.2; omega) hf.1]
  simp only [ob_some_eq, br_true, beq_self_eq_true]
  rw [G10 (by omega)]
  rfl

end Pe.Tryd
