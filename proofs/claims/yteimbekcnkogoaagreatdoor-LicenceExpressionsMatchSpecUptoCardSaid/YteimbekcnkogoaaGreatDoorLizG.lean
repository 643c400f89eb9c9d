/- PROVED HERE: a part of the seat's proofs; see the text that holds the claim's theorem. -/
import Derived.Test.YteimbekcnkogoaaGreatDoorLizE
import Derived.Test.YteimbekcnkogoaaGreatDoorLizF
section
/- Simple expressions in plain: texts are different where expressions are; what is sorted by text and without repeats; simple expressions, and that they stay as they are. Over no program's models. -/
set_option maxRecDepth 100000
namespace LicSpec
open Go Pe
theorem txt_inj {a b : Ex} (ha : fault a = 0) (hb : fault b = 0) (h : txt a = txt b) : a = b := by
 obtain ⟨c, t, et, hcb⟩ := txt_head a ha
 have h0 : Nx (txt a) ⟨0, 0, 0⟩ (txt a ++ []) := nx_of' rfl (by simp) (by rw [et]; simp [skipB, hcb])
 have h1 : Nx (txt a) ⟨0, 0, 0⟩ (txt b ++ []) := by rw [← h]; exact h0
 obtain ⟨q, e1, _⟩ := or_rt (S := txt a) (d := a.lev + b.lev) (single_rt (txt a) _) ha (by omega) h0 end3.1
 obtain ⟨q', e2, _⟩ := or_rt (S := txt a) (d := a.lev + b.lev) (single_rt (txt a) _) hb (by omega) h1 end3.1
 rw [e1] at e2
 exact (Prod.mk.inj e2).1
theorem map_txt_inj : ∀ {a b : List Ex}, (∀ e ∈ a, fault e = 0) → (∀ e ∈ b, fault e = 0) → a.map txt = b.map txt → a = b
 | [], [], _, _, _ => rfl
 | [], _ :: _, _, _, h => by simp at h
 | _ :: _, [], _, _, h => by simp at h
 | x :: a, y :: b, ha, hb, h => by
   simp only [List.map_cons, List.cons.injEq] at h
   rw [txt_inj (ha x (by simp)) (hb y (by simp)) h.1, map_txt_inj (fun e he => ha e (by simp [he])) (fun e he => hb e (by simp [he])) h.2]
theorem faultL_of : ∀ {l : List Ex}, (∀ k ∈ l, fault k = 0) → faultL l = 0
 | [], _ => by simp [faultL]
 | k :: r, h => by
   have h1 := h k (by simp)
   simp only [faultL]
   rw [if_neg (by simp [h1])]
   exact faultL_of fun x hx => h x (by simp [hx])
theorem fault_row {kind : Int} {l : List Ex} (hk : kind = 2 ∨ kind = 3) (hl : 2 ≤ l.length) (h : ∀ k ∈ l, fault k = 0) : fault (.mk kind [] false [] l) = 0 := by
 rw [fault_eq']
 have h1 : LicSpec.one (.mk kind [] false [] l) = 0 := by
  show (if kind < 1 ∨ 3 < kind then 7 else if kind ≠ 1 then (if ([] : Str) ≠ [] ∨ false = true ∨ ([] : Str) ≠ [] ∨ l.length < 2 then 2 else 0) else _) = (0 : Int)
  rw [if_neg (by omega), if_pos (by omega), if_neg]
  rintro (h | h | h | h)
  ·exact h rfl
  ·cases h
  ·exact h rfl
  ·omega
 rw [if_neg (by simp [h1])]
 exact faultL_of h
def pickT (l : List Ex) (s : Str) : Option Ex := l.find? fun e => txt e == s
def texts (l : List Ex) : List Str := putAll [] (l.map txt)
def uniq (l : List Ex) : List Ex := (texts l).filterMap (pickT l)
theorem str_texts (l : List Ex) : StrC cS (texts l) := str_putAll _ _ List.Pairwise.nil
theorem mem_texts {l : List Ex} {s : Str} : s ∈ texts l ↔ s ∈ l.map txt := by
 unfold texts; rw [mem_putAll]; simp
theorem pickT_some {l : List Ex} {s : Str} (h : s ∈ l.map txt) : ∃ e, pickT l s = some e ∧ e ∈ l ∧ txt e = s := by
 unfold pickT
 cases hf : l.find? (fun e => txt e == s) with
 | some e =>
   refine ⟨e, rfl, List.mem_of_find?_eq_some hf, ?_⟩
   have := List.find?_some hf
   simpa using this
 | none =>
   exfalso
   obtain ⟨e, he, hs⟩ := List.mem_map.1 h
   have := List.find?_eq_none.1 hf e he
   exact this (by simp [hs])
theorem pick_txt (l : List Ex) : ∀ T : List Str, (∀ s ∈ T, s ∈ l.map txt) → (T.filterMap (pickT l)).map txt = T
 | [], _ => rfl
 | s :: T, h => by
   obtain ⟨e, h1, _, h2⟩ := pickT_some (h s (by simp))
   rw [List.filterMap_cons, h1]
   simp only [List.map_cons, h2, pick_txt l T fun x hx => h x (by simp [hx])]
theorem uniq_txt (l : List Ex) : (uniq l).map txt = texts l := pick_txt l _ fun _ hs => mem_texts.1 hs
theorem uniq_mem {l : List Ex} {e : Ex} (h : e ∈ uniq l) : e ∈ l := by
 obtain ⟨s, _, h2⟩ := List.mem_filterMap.1 h
 exact List.mem_of_find?_eq_some h2
theorem uniq_str (l : List Ex) : StrC cS ((uniq l).map txt) := by rw [uniq_txt]; exact str_texts l
theorem uniq_self {l : List Ex} (hf : ∀ e ∈ l, fault e = 0) (h : StrC cS (l.map txt)) : uniq l = l := by
 refine map_txt_inj (fun e he => hf e (uniq_mem he)) hf ?_
 rw [uniq_txt]
 exact str_unique cS_ord (str_texts l) h fun x => mem_texts
theorem uniq_of {l r : List Ex} (hf : ∀ e ∈ l, fault e = 0) (hr : ∀ e ∈ r, e ∈ l) (h : StrC cS (r.map txt)) (hm : ∀ s, s ∈ l.map txt → s ∈ r.map txt) : r = uniq l := by
 refine map_txt_inj (fun e he => hf e (hr e he)) (fun e he => hf e (uniq_mem he)) ?_
 rw [uniq_txt]
 refine str_unique cS_ord h (str_texts l) fun x => ⟨fun hx => mem_texts.2 ?_, fun hx => hm x (mem_texts.1 hx)⟩
 obtain ⟨e, he, rfl⟩ := List.mem_map.1 hx
 exact List.mem_map.2 ⟨e, hr e he, rfl⟩
theorem uniq_ne {l : List Ex} (h : l ≠ []) : uniq l ≠ [] := by
 intro h0
 have h1 := uniq_txt l
 rw [h0] at h1
 cases l with
 | nil => exact h rfl
 | cons x r =>
   have : txt x ∈ texts (x :: r) := mem_texts.2 (by simp)
   rw [← h1] at this
   simp at this
def inT (l : List Str) (s : Str) : Bool := l.any (· == s)
theorem inT_iff {l : List Str} {s : Str} : inT l s = true ↔ s ∈ l := by
 unfold inT; simp
def partsS (kind : Int) (e : Ex) : List Str := if e.kind = kind then e.kids.map txt else [txt e]
def absd (kind : Int) (k o : Ex) : Bool := (k.kind == 5 - kind) && (partsS (5 - kind) o).all (inT (partsS (5 - kind) k))
def gone (kind : Int) (u : List Ex) (k : Ex) : Bool := u.any fun o => (txt o != txt k) && absd kind k o
def keptS (kind : Int) (u : List Ex) : List Ex := u.filter fun k => !gone kind u k
def finS (kind : Int) (l : List Ex) : Ex := match keptS kind (uniq l) with | [x] => x | l => .mk kind [] false [] l
def flatS (kind : Int) (k : Ex) : List Ex := if k.kind = kind then k.kids else [k]
mutual
def simpS : Ex → Ex
 | .mk kind name later wth kids => if kind = 1 then .mk kind name later wth kids else finS kind (simpL kind kids)
def simpL : Int → List Ex → List Ex
 | _, [] => []
 | kind, k :: r => flatS kind (simpS k) ++ simpL kind r
end
theorem simpS_eq (e : Ex) : simpS e = if e.kind = 1 then e else finS e.kind (simpL e.kind e.kids) := by cases e; simp only [simpS]
theorem simpL_eq (kind : Int) : ∀ l : List Ex, simpL kind l = l.flatMap fun k => flatS kind (simpS k)
 | [] => by simp [simpL]
 | k :: r => by simp only [simpL, List.flatMap_cons, simpL_eq kind r]
inductive Sm : Ex → Prop
 | name (e : Ex) (hk : e.kind = 1) (hf : fault e = 0) : Sm e
 | row (kind : Int) (l : List Ex) (hk : kind = 2 ∨ kind = 3) (hl : 2 ≤ l.length) (hs : ∀ k, k ∈ l → Sm k) (hn : ∀ k, k ∈ l → k.kind ≠ kind) (ho : StrC cS (l.map txt)) (hg : keptS kind l = l) : Sm (.mk kind [] false [] l)
theorem Sm.fault {e : Ex} (h : Sm e) : LicSpec.fault e = 0 := by
 induction h with
 | name e hk hf => exact hf
 | row kind l hk hl hs hn ho hg ih => exact fault_row hk hl ih
theorem sub_str {a b : List Str} (ha : StrC cS a) (hb : StrC cS b) (h : ∀ x ∈ a, x ∈ b) : a.Sublist b := by
 induction b generalizing a with
 | nil =>
   cases a with
   | nil => exact .slnil
   | cons x r => exact absurd (h x (by simp)) (by simp)
 | cons y b ih =>
   obtain ⟨b1, b2⟩ := List.pairwise_cons.1 hb
   cases a with
   | nil => exact List.nil_sublist _
   | cons x r =>
     obtain ⟨a1, a2⟩ := List.pairwise_cons.1 ha
     by_cases he : x = y
     ·subst he
      refine .cons_cons _ (ih a2 b2 fun z hz => ?_)
      rcases List.mem_cons.1 (h z (by simp [hz])) with rfl | hz'
      ·exact absurd (a1 _ hz) (cS_ord.irr _)
      ·exact hz'
     ·refine .cons _ (ih ha b2 fun z hz => ?_)
      rcases List.mem_cons.1 (h z hz) with rfl | hz'
      ·exfalso
       rcases List.mem_cons.1 hz with rfl | hz2
       ·exact he rfl
       ·have hx : x ∈ b := (List.mem_cons.1 (h x (by simp))).resolve_left he
        exact cS_ord.irr _ (cS_ord.trans _ _ _ (a1 _ hz2) (b1 _ hx))
      ·exact hz'
theorem kept_ne {kind : Int} (hk : kind = 2 ∨ kind = 3) {u : List Ex} (hs : ∀ k ∈ u, Sm k) (hu : u ≠ []) : keptS kind u ≠ [] := by
 intro h0
 have hall : ∀ k ∈ u, gone kind u k = true := by
  intro k hk
  have := List.filter_eq_nil_iff.1 h0 k hk
  simpa using this
 have key : ∀ n : Nat, ∀ k ∈ u, k.kids.length ≤ n → False := by
  intro n
  induction n with
  | zero =>
    intro k hku hn
    obtain ⟨o, ho, h1⟩ := List.any_eq_true.1 (hall k hku)
    simp only [absd, Bool.and_eq_true, bne_iff_ne, beq_iff_eq] at h1
    obtain ⟨_, h2, _⟩ := h1
    have := hs k hku
    cases this with
    | name _ h3 _ => omega
    | row kind' l hk' hl _ _ _ _ => simp only at hn; omega
  | succ n ih =>
    intro k hku hn
    obtain ⟨o, ho, h1⟩ := List.any_eq_true.1 (hall k hku)
    simp only [absd, Bool.and_eq_true, bne_iff_ne, beq_iff_eq] at h1
    obtain ⟨hne, h2, h3⟩ := h1
    obtain ⟨o', ho', h4⟩ := List.any_eq_true.1 (hall o ho)
    simp only [absd, Bool.and_eq_true, bne_iff_ne, beq_iff_eq] at h4
    obtain ⟨_, h5, _⟩ := h4
    have sk := hs k hku
    have so := hs o ho
    cases sk with
    | name _ q _ => omega
    | row kk lk hkk hlk hsk hnk hok hgk =>
      cases so with
      | name _ q _ => omega
      | row ko lo hko hlo hso hno hoo hgo =>
        simp only at h2 h5
        subst h2; subst h5
        simp only [partsS, if_true, List.all_eq_true] at h3
        have hsub := sub_str hoo hok fun x hx => inT_iff.1 (h3 x hx)
        have hlen := hsub.length_le
        simp only [List.length_map] at hlen
        by_cases he : lo.length = lk.length
        ·have := hsub.eq_of_length (by simpa using he)
         have := map_txt_inj (fun e he => (hso e he).fault) (fun e he => (hsk e he).fault) this
         subst this
         exact hne rfl
        ·exact ih _ ho (by simp only at hn ⊢; omega)
 cases u with
 | nil => exact hu rfl
 | cons x r => exact key _ x (by simp) (Nat.le_refl _)
theorem kept_kept (kind : Int) (u : List Ex) : keptS kind (keptS kind u) = keptS kind u := by
 refine List.filter_eq_self.2 fun k hk => ?_
 have h1 := (List.mem_filter.1 hk).2
 cases hg : gone kind (keptS kind u) k with
 | false => rfl
 | true =>
   exfalso
   obtain ⟨o, ho, h2⟩ := List.any_eq_true.1 hg
   have : gone kind u k = true := List.any_eq_true.2 ⟨o, (List.mem_filter.1 ho).1, h2⟩
   simp [this] at h1
theorem kept_mem {kind : Int} {u : List Ex} {k : Ex} (h : k ∈ keptS kind u) : k ∈ u := (List.mem_filter.1 h).1
theorem fin_cases (kind : Int) (l : List Ex) : (∃ x, keptS kind (uniq l) = [x] ∧ finS kind l = x) ∨ (keptS kind (uniq l)).length ≠ 1 ∧ finS kind l = .mk kind [] false [] (keptS kind (uniq l)) := by
 unfold finS
 match h : keptS kind (uniq l) with
 | [] => right; exact ⟨by simp, rfl⟩
 | [x] => left; exact ⟨x, rfl, rfl⟩
 | x :: y :: r => right; exact ⟨by simp, rfl⟩
theorem fin_sm {kind : Int} (hk : kind = 2 ∨ kind = 3) {l : List Ex} (hs : ∀ k ∈ l, Sm k) (hn : ∀ k ∈ l, k.kind ≠ kind) (hl : l ≠ []) : Sm (finS kind l) := by
 have hu : ∀ k ∈ uniq l, Sm k := fun k hk => hs k (uniq_mem hk)
 rcases fin_cases kind l with ⟨x, h1, h2⟩ | ⟨h1, h2⟩
 ·rw [h2]
  exact hu x (kept_mem (kind := kind) (by rw [h1]; simp))
 ·rw [h2]
  have hne := kept_ne hk hu (uniq_ne hl)
  refine .row kind _ hk ?_ (fun k hk => hu k (kept_mem hk)) (fun k hk => hn k (uniq_mem (kept_mem hk))) ?_ (kept_kept _ _)
  ·have : (keptS kind (uniq l)).length ≠ 0 := fun h => hne (List.length_eq_zero_iff.1 h)
   omega
  ·exact List.Pairwise.sublist (List.Sublist.map txt List.filter_sublist) (uniq_str l)
theorem flat_sm {kind : Int} (hk2 : kind = 2 ∨ kind = 3) {k : Ex} (h : Sm k) : (∀ x ∈ flatS kind k, Sm x ∧ x.kind ≠ kind) ∧ flatS kind k ≠ [] := by
 unfold flatS
 by_cases hk : k.kind = kind
 ·rw [if_pos hk]
  cases h with
  | name _ h1 h2 => omega
  | row kk lk hkk hlk hsk hnk hok hgk =>
    simp only at hk
    subst hk
    exact ⟨fun x hx => ⟨hsk x hx, hnk x hx⟩, fun h0 => by simp only at h0; rw [h0] at hlk; simp at hlk⟩
 ·rw [if_neg hk]
  exact ⟨fun x hx => by rw [List.mem_singleton] at hx; subst hx; exact ⟨h, hk⟩, by simp⟩
theorem cntL_app : ∀ a b : List Ex, cntL (a ++ b) = cntL a + cntL b
 | [], b => by simp [cntL]
 | x :: a, b => by simp only [List.cons_append, cntL, cntL_app a b]; omega
theorem levL_app : ∀ a b : List Ex, levL (a ++ b) = max (levL a) (levL b)
 | [], b => by simp [levL]
 | x :: a, b => by simp only [List.cons_append, levL, levL_app a b]; omega
theorem cntL_sub {a b : List Ex} (h : a.Sublist b) : cntL a ≤ cntL b := by
 induction h with
 | slnil => exact Nat.le_refl _
 | cons x _ ih => simp only [cntL]; omega
 | cons_cons x _ ih => simp only [cntL]; omega
theorem cntL_nodup : ∀ {a b : List Ex}, a.Nodup → (∀ x ∈ a, x ∈ b) → cntL a ≤ cntL b
 | [], b, _, _ => by simp [cntL]
 | x :: a, b, hn, h => by
   obtain ⟨s, t, rfl⟩ := List.append_of_mem (h x (by simp))
   obtain ⟨n1, n2⟩ := List.nodup_cons.1 hn
   have := cntL_nodup n2 (b := s ++ t) fun y hy => by
    have hy2 := h y (by simp [hy])
    have hne : y ≠ x := fun he => n1 (he ▸ hy)
    simp only [List.mem_append, List.mem_cons] at hy2 ⊢
    rcases hy2 with h1 | h1 | h1
    ·exact .inl h1
    ·exact absurd h1 hne
    ·exact .inr h1
   rw [cntL_app] at this ⊢
   simp only [cntL]; omega
theorem levL_mem {l : List Ex} {k : Ex} (h : k ∈ l) : k.lev ≤ levL l := by
 induction l with
 | nil => simp at h
 | cons x r ih =>
   simp only [levL]
   rcases List.mem_cons.1 h with rfl | h
   ·omega
   ·have := ih h; omega
theorem levL_le2 {l : List Ex} {n : Nat} (h : ∀ k ∈ l, k.lev ≤ n) : levL l ≤ n := by
 induction l with
 | nil => simp [levL]
 | cons x r ih =>
   have h1 := h x (by simp)
   have h2 := ih fun k hk => h k (by simp [hk])
   simp only [levL]; omega
theorem uniq_nodup (l : List Ex) : (uniq l).Nodup := by
 have h := uniq_str l
 have h2 : (uniq l).Pairwise fun x y => cS (txt x) (txt y) < 0 := List.pairwise_map.1 h
 exact List.Pairwise.imp (fun {x y} hxy he => by subst he; exact cS_ord.irr _ hxy) h2
theorem uniq_cnt (l : List Ex) : cntL (uniq l) ≤ cntL l := cntL_nodup (uniq_nodup l) fun _ => uniq_mem
theorem kept_cnt (kind : Int) (l : List Ex) : cntL (keptS kind (uniq l)) ≤ cntL l := Nat.le_trans (cntL_sub List.filter_sublist) (uniq_cnt l)
theorem fin_cnt (kind : Int) (l : List Ex) : (finS kind l).cnt ≤ 1 + cntL l ∧ (finS kind l).lev ≤ levL l + 1 := by
 have h0 := kept_cnt kind l
 rcases fin_cases kind l with ⟨x, h1, h2⟩ | ⟨_, h2⟩
 ·rw [h1] at h0
  simp only [cntL] at h0
  rw [h2]
  have hx : x ∈ l := uniq_mem (kept_mem (kind := kind) (by rw [h1]; simp))
  have := levL_mem hx
  exact ⟨by omega, by omega⟩
 ·rw [h2]
  simp only [Ex.cnt, Ex.lev]
  have : levL (keptS kind (uniq l)) ≤ levL l := levL_le2 fun k hk => levL_mem (uniq_mem (kept_mem hk))
  exact ⟨by omega, by omega⟩
theorem flat_cnt (kind : Int) (k : Ex) : cntL (flatS kind k) ≤ k.cnt ∧ levL (flatS kind k) ≤ k.lev := by
 unfold flatS
 split
 ·cases k with | mk a b c d l => simp only [Ex.cnt, Ex.lev]; omega
 ·simp [cntL, levL]
mutual
theorem simp_sm : ∀ e : Ex, fault e = 0 → Sm (simpS e) ∧ (simpS e).cnt ≤ e.cnt ∧ (simpS e).lev ≤ e.lev
 | .mk kind name later wth kids, hf => by
   obtain ⟨h1, h2⟩ := fault_zero hf
   obtain ⟨k1, k3, o1, o2⟩ := one_zero h1
   simp only at h2 k1 k3 o1 o2
   simp only [simpS]
   by_cases hk : kind = 1
   ·rw [if_pos hk]
    exact ⟨.name _ hk hf, Nat.le_refl _, Nat.le_refl _⟩
   ·rw [if_neg hk]
    have hk2 : kind = 2 ∨ kind = 3 := by omega
    obtain ⟨a, b, c, d⟩ := simpL_sm kind kids hk2 h2
    have hne : kids ≠ [] := fun h0 => by have := (o2 hk).2.2.2; rw [h0] at this; simp at this
    have hc := fin_cnt kind (simpL kind kids)
    refine ⟨fin_sm hk2 (fun k hk => (a k hk).1) (fun k hk => (a k hk).2) (b hne), ?_, ?_⟩
    ·simp only [Ex.cnt]; omega
    ·simp only [Ex.lev]; omega
theorem simpL_sm : ∀ (kind : Int) (l : List Ex), (kind = 2 ∨ kind = 3) → faultL l = 0 → (∀ k ∈ simpL kind l, Sm k ∧ k.kind ≠ kind) ∧ (l ≠ [] → simpL kind l ≠ []) ∧ cntL (simpL kind l) ≤ cntL l ∧ levL (simpL kind l) ≤ levL l
 | kind, [], _, _ => by simp [simpL, cntL, levL]
 | kind, k :: r, hk, hf => by
   obtain ⟨s1, s2, s3⟩ := simp_sm k (faultL_mem hf (by simp))
   have hr : faultL r = 0 := by
    simp only [faultL] at hf
    split at hf
    ·rename_i hx; exact absurd hf hx
    ·exact hf
   obtain ⟨a, _, c, d⟩ := simpL_sm kind r hk hr
   obtain ⟨f1, f2⟩ := flat_sm hk s1
   obtain ⟨g1, g2⟩ := flat_cnt kind (simpS k)
   simp only [simpL]
   refine ⟨fun x hx => (List.mem_append.1 hx).elim (f1 x) (a x), fun _ h0 => f2 (List.append_eq_nil_iff.1 h0).1, ?_, ?_⟩
   ·rw [cntL_app]; simp only [cntL]; omega
   ·rw [levL_app]; simp only [levL]; omega
end
theorem sm_idem {e : Ex} (h : Sm e) : simpS e = e := by
 induction h with
 | name e hk hf => rw [simpS_eq, if_pos hk]
 | row kind l hk hl hs hn ho hg ih =>
   rw [simpS_eq]
   simp only
   rw [if_neg (by omega)]
   have h1 : simpL kind l = l := by
    clear ho hg hl
    induction l with
    | nil => simp [simpL]
    | cons x r ihl =>
      simp only [simpL]
      rw [ih x (by simp), ihl (fun k hk => hs k (by simp [hk])) (fun k hk => hn k (by simp [hk])) (fun k hk => ih k (by simp [hk]))]
      unfold flatS
      rw [if_neg (hn x (by simp))]
      rfl
   rw [h1]
   have h2 : uniq l = l := uniq_self (fun e he => (hs e he).fault) ho
   rcases fin_cases kind l with ⟨x, q1, _⟩ | ⟨_, q2⟩
   ·rw [h2, hg] at q1; rw [q1] at hl; simp at hl
   ·rw [q2, h2, hg]
theorem simp_simp {e : Ex} (h : fault e = 0) : simpS (simpS e) = simpS e := sm_idem (simp_sm e h).1
mutual
def namesA : Ex → List Str
 | .mk kind name _ _ kids => if kind = 1 then [name] else namesAL kids
def namesAL : List Ex → List Str
 | [] => []
 | k :: r => namesA k ++ namesAL r
end
def namesS (e : Ex) : List Str := putAll [] (namesA e)
theorem namesA_eq (e : Ex) : namesA e = if e.kind = 1 then [e.name] else namesAL e.kids := by cases e; simp only [namesA]
theorem putAll_app (a b c : List Str) : putAll a (b ++ c) = putAll (putAll a b) c := List.foldl_append
theorem put_names {a : List Str} (ha : StrC cS a) (e : Ex) : putAll a (namesS e) = putAll a (namesA e) := by
 refine str_unique cS_ord (str_putAll _ _ ha) (str_putAll _ _ ha) fun x => ?_
 rw [mem_putAll, mem_putAll]
 unfold namesS
 rw [mem_putAll]
 simp
mutual
theorem namesA_len : ∀ e : Ex, (namesA e).length ≤ e.cnt
 | .mk kind name _ _ kids => by
   simp only [namesA, Ex.cnt]
   have := namesAL_len kids
   split
   ·simp
   ·omega
theorem namesAL_len : ∀ l : List Ex, (namesAL l).length ≤ cntL l
 | [] => by simp [namesAL]
 | k :: r => by
   have h1 := namesA_len k
   have h2 := namesAL_len r
   simp only [namesAL, List.length_append, cntL]; omega
end
end LicSpec
end
section
/- Rows of rows in order, without repeats; the least ones; two rows as one: over no program. -/
set_option linter.unusedVariables false
namespace Pe
open Go
section
variable {α : Type} {c : α → α → Int} (h : OrdAll c)
include h
end
def lexC {α : Type} (c : α → α → Int) : List α → List α → Int
 | x :: a, y :: b => if c x y = 0 then lexC c a b else c x y
 | [], _ => 0
 | _ :: _, [] => 0
def cR {α : Type} (c : α → α → Int) (a b : List α) : Int := if a.length < b.length then -1 else if b.length < a.length then 1 else lexC c a b
section
variable {α : Type} {c : α → α → Int} (h : OrdAll c) (h0 : ∀ x y, c x y = 0 ↔ x = y)
include h h0
end
section
variable {α : Type} [BEq α] [LawfulBEq α]
variable {c : α → α → Int} (h : OrdAll c) (h0 : ∀ x y, c x y = 0 ↔ x = y)
include h in
end
end Pe
namespace Pe
open Go
theorem ob_assoc {α β γ : Type} (x : Option α) (f : α → Option β) (g : β → Option γ) : ob (ob x f) g = ob x fun a => ob (f a) g := by cases x <;> rfl
theorem loop_all {α R : Type} {f : Int × Unit → Option ((Int × Unit) ⊕ (Unit ⊕ R))} (l : List α) (p : α → Bool) (no : R)
  (h : ∀ k (hk : k < l.length), f ((k : Int), ()) = if p l[k] = true then some (.inl (((k + 1 : Nat) : Int), ())) else some (.inr (.inr no)))
  (he : f ((l.length : Int), ()) = some (.inr (.inl ()))) : loopM f ((0 : Int), ()) = some (if l.all p = true then .inl () else .inr no) := by
 rw [loop_find l (fun x => !p x) (fun _ => .inr no) (.inl ()) (fun k hk => by rw [h k hk]; cases p l[k] <;> rfl) he]
 cases hf : l.findIdx? (fun x => !p x) with
 | some k =>
   obtain ⟨h1, h2, _⟩ := List.findIdx?_eq_some_iff_getElem.1 hf
   have : ¬ l.all p = true := fun hc => by
    have := List.all_eq_true.1 hc l[k] (List.getElem_mem h1)
    simp [this] at h2
   rw [if_neg this]
 | none =>
   rw [List.findIdx?_eq_none_iff] at hf
   have : l.all p = true := List.all_eq_true.2 fun x hx => by have := hf x hx; simpa using this
   rw [if_pos this]
noncomputable def compactG {α : Type} (z : α) (g : α → α → Option (Bool × Unit)) (s : List α) : Option ((List α × Unit) ⊕ Unit) := (br (decide ((len s) < 2)) (some (.inl (s, ()))) (cutM (σ := List α × Unit) (R := _) (loopM (σ := List α × Int × Unit) (R := _) (fun (t1 : List α × Int × Unit) => (br (decide (t1.2.1 < (len t1.1))) (cutM (σ := List α × Int × Unit) (R := _) (ob (idx? t1.1 t1.2.1) fun j2 => (ob (get? t1.1 j2) fun y3 => (ob (idx? t1.1 (IntKind.i64.wrap (t1.2.1 - 1))) fun j4 => (ob (get? t1.1 j4) fun y5 => (ob (α := Bool × Unit) (g y3 y5) fun (r6 : Bool × Unit) => (br r6.1 (ob (tail? t1.1 t1.2.1) fun i7 => (cutM (σ := List α × Int × Unit) (R := _) (loopM (σ := List α × Int × Int × Int × Unit) (R := _) (fun (t8 : List α × Int × Int × Int × Unit) => (br (decide (t8.2.2.1 < (len (List.drop (Int.toNat t8.2.2.2.1) t8.1)))) (ob (idx? (List.drop (Int.toNat t8.2.2.2.1) t8.1) t8.2.2.1) fun k9 => (ob (get? t8.1 ((Int.toNat t8.2.2.2.1) + k9)) fun y10 => (ob (idx? (List.drop (Int.toNat t8.2.2.2.1) t8.1) (IntKind.i64.wrap (t8.2.2.1 - 1))) fun k11 => (ob (get? t8.1 ((Int.toNat t8.2.2.2.1) + k11)) fun y12 => (ob (α := Bool × Unit) (g y10 y12) fun (r13 : Bool × Unit) => (br (!r13.1) (ob (idx? (List.drop (Int.toNat t8.2.2.2.1) t8.1) t8.2.2.1) fun k14 => (ob (get? t8.1 ((Int.toNat t8.2.2.2.1) + k14)) fun y15 => (ob (idx? t8.1 t8.2.1) fun j16 => (ob (get? t8.1 j16) fun y17 => (some (.inl ((t8.1.set j16 y15), (IntKind.i64.wrap (t8.2.1 + 1)), (IntKind.i64.wrap (t8.2.2.1 + 1)), (((Int.toNat t8.2.2.2.1) : Nat) : Int), ()))))))) (some (.inl (t8.1, t8.2.1, (IntKind.i64.wrap (t8.2.2.1 + 1)), (((Int.toNat t8.2.2.2.1) : Nat) : Int), ()))))))))) (some (.inr (.inl (t8.1, t8.2.1, ())))))) (t1.1, t1.2.1, 1, ((i7 : Nat) : Int), ())) fun (t18 : List α × Int × Unit) => (ob (tail? t18.1 t18.2.1) fun i19 => (bif (Nat.ble i19 (List.length t18.1)) then (ob (part? ((List.take i19 t18.1) ++ (List.replicate ((List.length t18.1) - i19) z)) 0 t18.2.1) fun s20 => (some (.inr (.inr (.inr (.inl (s20, ()))))))) else none)))) (some (.inl (t1.1, t1.2.1, ()))))))))) fun (t21 : List α × Int × Unit) => (some (.inl (t21.1, (IntKind.i64.wrap (t21.2.1 + 1)), ())))) (some (.inr (.inl (t1.1, ())))))) (s, 1, ())) fun (t22 : List α × Unit) => (some (.inl (t22.1, ())))))
theorem compactG_eq {α : Type} (z : α) (g : α → α → Option (Bool × Unit)) (s : List α) : compactG z g s = compactM (R := Unit) z (fun a b => ob (g a b) fun r => some r.1) s := by
 unfold compactM outB inB compactG
 simp only [ob_assoc, ob_some_eq]
end Pe
end
section
/- Ways of expressions in plain: what is specified, and what permits what. Over no program's models but for catalogues. -/
set_option maxRecDepth 100000
namespace Pe.Tryz
open Go Go.Proofs Pe LicSpec
def cU (a b : Gt.Use) : Int := if cS a.name b.name = 0 then cS a.with_ b.with_ else cS a.name b.name
instance : BEq Gt.Use := ⟨fun a b => a.name == b.name && a.with_ == b.with_⟩
theorem use_beq (a b : Gt.Use) : (a == b) = (a.name == b.name && a.with_ == b.with_) := rfl
instance : LawfulBEq Gt.Use where
 eq_of_beq := fun {a b} h => by
  rw [use_beq, Bool.and_eq_true] at h
  cases a; cases b
  have h1 := eq_of_beq h.1
  have h2 := eq_of_beq h.2
  simp only at h1 h2
  subst h1; subst h2; rfl
 rfl := fun {a} => by rw [use_beq]; simp
abbrev Way := List Gt.Use
structure GoodW (l : List Way) : Prop where
 str : StrC (cR cU) l
 each : ∀ w ∈ l, StrC cU w
 num : l.length ≤ 300
 len : ∀ w ∈ l, w.length ≤ 40
end Pe.Tryz
end
section
/- The law of expressions in plain, first part: the reference's text, Print of both sides, what is sorted by text. -/
set_option maxRecDepth 100000
namespace Pe.Tryz
open Go Go.Proofs Pe LicSpec
theorem join_snoc (sep x : Str) : ∀ l : List Str, Lib.join (l ++ [x]) sep = (if l = [] then x else Lib.join l sep ++ sep ++ x)
 | [] => by simp [Lib.join_one]
 | y :: r => by
   rw [if_neg (by simp), List.cons_append, Lib.join_cons, Lib.join_cons]
   unfold Lib.joinTail
   simp [List.append_assoc]
theorem take_snoc {α : Type} {l : List α} {k : Nat} (h : k < l.length) : l.take (k + 1) = l.take k ++ [l[k]] := by
 rw [List.take_add_one, List.getElem?_eq_getElem h]; rfl
theorem cntL_take (l : List Ex) (k : Nat) : cntL (l.take k) ≤ cntL l := cntL_sub (List.take_sublist k l)
theorem L48 : ∀ (n : Nat) (e : Ex), e.lev ≤ n → fault e = 0 → e.cnt ≤ 200 → m48 (orcN n) e = some (txt e, ()) := by
 intro n
 induction n with
 | zero => intro e h; have := e.lev_pos; omega
 | succ n ih =>
   intro e hl hf hc
   obtain ⟨h1, h2⟩ := fault_zero hf
   obtain ⟨k1, k3, o1, o2⟩ := one_zero h1
   have hlen := txt_len e hf
   have hlim : lim = 4294967296 := rfl
   unfold m48
   rw [txt_eq]
   by_cases hk : e.kind = 1
   ·obtain ⟨n0, n1, n2⟩ := o1 hk
    have l1 := isName_len n1
    have e1 : (e.kind == 1) = true := by simpa using hk
    rw [e1, if_pos hk]
    simp only [br_true]
    have hw : e.wth.length ≤ 60 := by
     rcases n2 with h | h
     ·rw [h]; simp
     ·exact isName_len h
    rw [cat?_ok (l := e.name) (r := [43]) (by simp; omega)]
    have fin : ∀ a : List UInt8, a.length ≤ 61 → (br (e.wth != []) (ob (cat? ([32, 87, 73, 84, 72, 32] : List UInt8) e.wth) fun s3 => (ob (cat? a s3) fun s4 => (some (s4, ())))) (some (a, ()))) = some (a ++ (if e.wth ≠ [] then tWITH ++ e.wth else []), ()) := by
     intro a ha
     by_cases h0 : e.wth = []
     ·simp [h0, br_false]
     ·have : (e.wth != []) = true := by simpa using h0
      rw [this, cat?_ok (by simp; omega), if_pos h0]
      simp only [br_true, ob_some_eq]
      rw [cat?_ok (by simp; omega)]; rfl
    cases hla : e.later with
    | true =>
      simp only [br_true, ob_some_eq, cutM_inl, if_true]
      exact fin _ (by simp; omega)
    | false =>
      simp only [br_false, ob_some_eq, cutM_inl, Bool.false_eq_true, if_false]
      exact fin _ (by omega)
   ·have e1 : (e.kind == 1) = false := by simpa using hk
    rw [e1, if_neg hk]
    simp only [br_false]
    have e3 : br (e.kind == 3) (some (Sum.inl ([32, 79, 82, 32], ())) : Option ((List UInt8 × Unit) ⊕ (List UInt8 × Unit))) (some (.inl ([32, 65, 78, 68, 32], ()))) = some (.inl ((if e.kind = 3 then tOR else tAND), ())) := by
     by_cases h3 : e.kind = 3
     ·simp [h3, br_true, tOR]
     ·have : (e.kind == 3) = false := by simpa using h3
      simp [h3, this, br_false, tAND]
    rw [e3]
    simp only [cutM_inl]
    have hkl : e.kids.length < e.cnt := cnt_len
    have hcn : e.cnt = 1 + cntL e.kids := by cases e; simp only [Ex.cnt]
    have hsl := sep_len e.kind
    generalize hsep : (if e.kind = 3 then tOR else tAND : Str) = sep at hsl ⊢
    have hj : ∀ k, (Lib.join (txtL e.kind (e.kids.take k)) sep).length ≤ 28000 := by
     intro k
     have a1 := join_len sep hsl (txtL e.kind (e.kids.take k))
     have a2 := txtL_len e.kind (e.kids.take k) (faultL_of fun x hx => faultL_mem h2 (List.mem_of_mem_take hx))
     have a3 := cntL_take e.kids k
     have a4 : 140 * cntL (e.kids.take k) ≤ 140 * 199 := Nat.mul_le_mul_left _ (by omega)
     omega
    have hstart : (([] : List UInt8), (0 : Int), ()) = ((fun (k : Nat) (_ : Unit) => (Lib.join (txtL e.kind (e.kids.take k)) sep, (k : Int), ())) 0 ()) := by simp [txtL, Lib.join_nil]
    rw [hstart]
    rw [loop_st (A := Unit) (fun (k : Nat) (_ : Unit) => (Lib.join (txtL e.kind (e.kids.take k)) sep, (k : Int), ())) e.kids.length (fun _ _ => .inl (Lib.join (txtL e.kind e.kids) sep, ())) (fun _ _ => True) ?h1 0 () (Nat.zero_le _) trivial]
    case h1 =>
     intro k _ hk' _
     simp only
     by_cases hlt : k < e.kids.length
     ·left
      have hmem : e.kids[k] ∈ e.kids := List.getElem_mem hlt
      have hlk := lev_kid hmem
      have hck := cnt_kids hmem
      have hfk := faultL_mem h2 hmem
      have hih := ih e.kids[k] (by omega) hfk (by omega)
      have htl := txt_len _ hfk
      have hjk := hj k
      refine ⟨(), hlt, ?_, trivial, trivial⟩
      have hsn := join_snoc sep (par e.kind e.kids[k]) (txtL e.kind (e.kids.take k))
      have hap : txtL e.kind (e.kids.take (k + 1)) = txtL e.kind (e.kids.take k) ++ [par e.kind e.kids[k]] := by
       rw [take_snoc hlt, txtL_map, txtL_map, List.map_append]; rfl
      rw [hap, hsn]
      have hif : br (decide ((0 : Int) < (k : Int))) (ob (cat? (Lib.join (txtL e.kind (e.kids.take k)) sep) sep) fun s7 => (some (.inl (s7, ())))) (some (.inl (Lib.join (txtL e.kind (e.kids.take k)) sep, ()))) = (some (.inl ((if txtL e.kind (e.kids.take k) = [] then [] else Lib.join (txtL e.kind (e.kids.take k)) sep ++ sep), ())) : Option ((List UInt8 × Unit) ⊕ ((List UInt8 × Int × Unit) ⊕ ((List UInt8 × Unit) ⊕ (List UInt8 × Unit))))) := by
       have hlen : (txtL e.kind (e.kids.take k)).length = k := by rw [txtL_length, List.length_take]; omega
       by_cases h0 : k = 0
       ·subst h0; simp [br_false, txtL, Lib.join_nil]
       ·have : ((0 : Int) < (k : Int)) := by omega
        rw [decide_eq_true this, br_true, cat?_ok (by omega), if_neg (fun hc => by rw [hc] at hlen; simp at hlen; omega)]
        rfl
      have hcond : ∀ (X Y : Option ((List UInt8 × Unit) ⊕ ((List UInt8 × Int × Unit) ⊕ ((List UInt8 × Unit) ⊕ (List UInt8 × Unit))))), ob (br (e.kids[k].kind == e.kind) (some true) (ob (br (e.kids[k].kind == 3) (some (e.kind == 2)) (some false)) fun b11 => (some b11))) (fun b12 => br b12 X Y) = br (decide (e.kids[k].kind = e.kind ∨ e.kids[k].kind = 3)) X Y := by
       intro X Y
       by_cases a1 : e.kids[k].kind = e.kind
       ·simp [a1, br_true, ob_some_eq]
       ·have a1' : (e.kids[k].kind == e.kind) = false := by simpa using a1
        by_cases a2 : e.kids[k].kind = 3
        ·have a3 : e.kind = 2 := by omega
         simp [a2, a3, br_true, br_false, ob_some_eq]
        ·have a2' : (e.kids[k].kind == 3) = false := by simpa using a2
         simp [a1', a2', a1, a2, br_false, ob_some_eq]
      simp only [len_lt, hlt, decide_true, br_true, at?_get hlt, ob_some_eq, Ex.eta, q48, hih, hif, cutM_inl, hcond]
      have hb : (if txtL e.kind (e.kids.take k) = [] then [] else Lib.join (txtL e.kind (e.kids.take k)) sep ++ sep : Str).length ≤ 28010 := by
       split
       ·simp
       ·simp; omega
      have hfin : ∀ x : Str, (if txtL e.kind (e.kids.take k) = [] then [] else Lib.join (txtL e.kind (e.kids.take k)) sep ++ sep : Str) ++ x = (if txtL e.kind (e.kids.take k) = [] then x else Lib.join (txtL e.kind (e.kids.take k)) sep ++ sep ++ x) := by
       intro x
       split
       ·rfl
       ·rfl
      unfold par
      by_cases hp : e.kids[k].kind = e.kind ∨ e.kids[k].kind = 3
      ·rw [decide_eq_true hp, if_pos hp]
       simp only [br_true]
       rw [cat?_ok (by simp; omega)]
       simp only [ob_some_eq]
       rw [cat?_ok (by simp; omega)]
       simp only [ob_some_eq, cutM_inl]
       rw [cat?_ok (by simp; omega)]
       simp only [ob_some_eq, wrap_succ hlt (by omega : e.kids.length ≤ 9223372036854775807), hfin]
      ·rw [decide_eq_false hp, if_neg hp]
       simp only [br_false, cutM_inl]
       rw [cat?_ok (by omega)]
       simp only [ob_some_eq, wrap_succ hlt (by omega : e.kids.length ≤ 9223372036854775807), hfin]
     ·right
      have hke : k = e.kids.length := by omega
      subst hke
      simp only [len_lt, hlt, decide_false, br_false, List.take_length]
    simp only [cutM_inl]
structure Fx (e : Ex) : Prop where
 right : fault e = 0
 cnt : e.cnt ≤ 200
 lev : e.lev ≤ 30
theorem Fx.of {e : Ex} (h : chk e = 0) : Fx e := by obtain ⟨a, b, c⟩ := chk_zero h; exact ⟨c, a, b⟩
theorem Fx.kid {e k : Ex} (h : Fx e) (hk : k ∈ e.kids) : Fx k :=
 ⟨faultL_mem (fault_zero h.right).2 hk, by have := cnt_kids hk; have := h.cnt; omega, by have := lev_kid hk; have := h.lev; omega⟩
theorem Fx.len {e : Ex} (h : Fx e) : (txt e).length ≤ 28000 := by
 have h1 := txt_len e h.right
 have h2 : 140 * e.cnt ≤ 140 * 200 := Nat.mul_le_mul_left _ h.cnt
 omega
theorem Fx.small {e : Ex} (h : Fx e) : Small e := small_fine e h.right h.cnt
theorem Fx.simp {e : Ex} (h : Fx e) : Fx (simpS e) := by
 obtain ⟨a, b, c⟩ := simp_sm e h.right
 exact ⟨a.fault, by have := h.cnt; omega, by have := h.lev; omega⟩
theorem G47 {n : Nat} (hn : 31 ≤ n) {e : Ex} (h : Fx e) : @Eq (Option (List UInt8 × Unit)) ((orcN n).d 47 [.st 4 e] [.str]) (some (txt e, ())) := by
 obtain ⟨n, rfl⟩ : ∃ k, n = k + 1 := ⟨n - 1, by omega⟩
 rw [q47]; exact L47 n e (by have := h.lev; omega) h.right h.cnt
theorem G48 {n : Nat} (hn : 31 ≤ n) {e : Ex} (h : Fx e) : @Eq (Option (List UInt8 × Unit)) ((orcN n).d 48 [.st 4 e] [.str]) (some (txt e, ())) := by
 obtain ⟨n, rfl⟩ : ∃ k, n = k + 1 := ⟨n - 1, by omega⟩
 rw [q48]; exact L48 n e (by have := h.lev; omega) h.right h.cnt
theorem L13 {n : Nat} {e : Ex} (hs : Small e) (hb : e.lev ≤ 100000000) (hn : 222 ≤ n) (hl : e.lev + 10 ≤ n) : m13 (orcN n) e = some (prt e) := by
 obtain ⟨m, rfl⟩ : ∃ m, n = m + 1 := ⟨n - 1, by omega⟩
 have h19 := L19 m e (by omega) hb hs
 unfold m13 prt
 by_cases hc : chk e = 0
 ·have hx := Fx.of hc
  have e1 : (chk e != 0) = false := by simp [hc]
  rw [if_neg (by simp [hc])]
  simp only [Ex.eta, q19, h19, ob_some_eq, e1, br_false, G48 (by omega : 31 ≤ m + 1) hx, dec_len]
  by_cases hx : 4000 < (txt e).length
  ·rw [decide_eq_true hx, if_pos hx]; rfl
  ·rw [decide_eq_false hx, if_neg hx]; rfl
 ·have e1 : (chk e != 0) = true := by simpa using hc
  rw [if_pos hc]
  simp only [Ex.eta, q19, h19, ob_some_eq, e1, br_true]
def cE (a b : Ex) : Int := cS (txt a) (txt b)
def tE (a b : Ex) : Bool := txt a == txt b
theorem cE_on {l : List Ex} (h : ∀ e ∈ l, fault e = 0) : OrdOn l cE :=
 ⟨fun _ _ => cS_ord.irr _, fun _ _ _ _ _ _ => cS_ord.trans _ _ _, fun x hx y hy h1 h2 => txt_inj (h x hx) (h y hy) (cS_ord.eq _ _ h1 h2)⟩
theorem L92 {n : Nat} (hn : 31 ≤ n) {a b : Ex} (ha : Fx a) (hb : Fx b) : m92 (orcN n) a b = some (cE a b, ()) := by
 obtain ⟨n, rfl⟩ : ∃ k, n = k + 2 := ⟨n - 2, by omega⟩
 unfold m92
 simp only [Ex.eta, G47 hn ha, G47 hn hb, ob_some_eq, q93, L93 n]
 rfl
theorem L95 {n : Nat} (hn : 31 ≤ n) {a b : Ex} (ha : Fx a) (hb : Fx b) : m95 (orcN n) a b = some (tE a b, ()) := by
 unfold m95
 simp only [Ex.eta, G47 hn ha, G47 hn hb, ob_some_eq]
 rfl
theorem q91 (n : Nat) (l : List Ex) : @Eq (Option (List Ex)) ((orcN (n + 1)).p 91 (.st 4) 24 [.func (.func 92) [] []] l) (sortO (S := Sx) (orcN n) 92 (.st 4) l) :=
 (show _ = opt1 (sortO (S := Sx) (orcN n) 92 (.st 4) l) by kernel_rfl).trans (opt1_eq _)
theorem sort_ex {n : Nat} (hn : 33 ≤ n) {l : List Ex} (h : ∀ e ∈ l, Fx e) (hl : l.length ≤ lim) : @Eq (Option (List Ex)) (sortO (S := Sx) (orcN n) 92 (.st 4) l) (some (sortC cE l)) := by
 obtain ⟨n, rfl⟩ : ∃ k, n = k + 2 := ⟨n - 2, by omega⟩
 refine sortO_of (S := Sx) (u := .st 4) (c := cE) (fun x hx y hy => ?_) (cE_on fun e he => (h e he).right) hl rfl
 exact (q92 (n + 1) x y).trans (L92 (by omega) (h x hx) (h y hy))
theorem m94_gen (o : Orc Sx) (s : List Ex) : m94 o s = compactG (Ex.mk 0 [] false [] []) (fun a b => o.d 95 [.st 4 a, .st 4 b] [.bool]) s := by
 unfold m94
 simp only [Ex.eta]
 rfl
theorem L94 {n : Nat} (hn : 32 ≤ n) {s : List Ex} (h : ∀ e ∈ s, Fx e) (hl : s.length ≤ 4294967296) : m94 (orcN n) s = some (.inl (cmp? tE s s.length, ())) := by
 obtain ⟨n, rfl⟩ : ∃ k, n = k + 1 := ⟨n - 1, by omega⟩
 refine (m94_gen _ s).trans ((compactG_eq _ _ s).trans ?_)
 refine compactM_eq (fun x hx y hy => ?_) hl
 exact congrArg (fun z => ob (α := Bool × Unit) z fun r => some r.1) ((q95 n x y).trans (L95 (by omega) (h x hx) (h y hy)))
theorem cmp?_map {α β : Type} (f : α → β) (t : β → β → Bool) (s : List α) : ∀ m, (cmp? (fun x y => t (f x) (f y)) s m).map f = cmp? t (s.map f) m
 | 0 => rfl
 | m + 1 => by
   have ih := cmp?_map f t s m
   simp only [cmp?, List.getElem?_map]
   cases s[m]? with
   | none => exact ih
   | some x =>
     cases s[m - 1]? with
     | none => cases Nat.blt 0 m <;> simp [ih]
     | some y =>
       simp only [Option.map_some]
       cases Nat.blt 0 m <;> cases h : t (f x) (f y) <;> simp [ih]
theorem cmp?_mem {α : Type} {t : α → α → Bool} {s : List α} : ∀ (m : Nat) {x : α}, x ∈ cmp? t s m → x ∈ s
 | 0, x, h => by simp [cmp?] at h
 | m + 1, x, h => by
   simp only [cmp?] at h
   cases hs : s[m]? with
   | none => rw [hs] at h; exact cmp?_mem m h
   | some y =>
     rw [hs] at h
     simp only at h
     generalize (Nat.blt 0 m && (match s[m - 1]? with | some z => t y z | none => false)) = b at h
     cases b with
     | true => exact cmp?_mem m h
     | false =>
       rcases List.mem_append.1 h with h | h
       ·exact cmp?_mem m h
       ·rw [List.mem_singleton] at h; subst h; exact List.mem_of_getElem? hs
theorem uniq_prog {l : List Ex} (h : ∀ e ∈ l, fault e = 0) : cmp? tE (sortC cE l) (sortC cE l).length = uniq l := by
 have hasc : AscC cS ((sortC cE l).map txt) := by
  have := sortC_asc (cE_on h)
  exact List.pairwise_map.2 this
 obtain ⟨h1, h2⟩ := cmp?_str cS_ord (t := fun x y => x == y) (fun x y => by simp) hasc (sortC cE l).length (by simp)
 have hm := cmp?_map txt (fun x y => x == y) (sortC cE l) (sortC cE l).length
 have hm' : (cmp? tE (sortC cE l) (sortC cE l).length).map txt = cmp? (fun x y => x == y) ((sortC cE l).map txt) (sortC cE l).length := hm
 refine uniq_of h (fun e he => (sortC_perm cE l).mem_iff.1 (cmp?_mem _ he)) (by rw [hm']; exact h1) fun s hs => ?_
 rw [hm', h2, List.take_of_length_le (by simp)]
 obtain ⟨e, he, rfl⟩ := List.mem_map.1 hs
 exact List.mem_map.2 ⟨e, (sortC_perm cE l).mem_iff.2 he, rfl⟩
theorem wrap5 {kind : Int} (hk : kind = 2 ∨ kind = 3) : IntKind.i64.wrap (5 - kind) = 5 - kind := wrap_id (by omega) (by omega)
theorem L129 {n : Nat} (hn : 31 ≤ n) {e : Ex} (h : Fx e) (kind : Int) : m129 (orcN n) kind e = some (partsS kind e, ()) := by
 unfold m129 partsS
 by_cases hk : e.kind = kind
 ·have e1 : (e.kind != kind) = false := by simp [hk]
  rw [e1, if_pos hk]
  simp only [br_false]
  rw [loop_col e.kids (fun k => some (txt k)) (fun l => .inl (l, ())) ?h1 ?h2]
  case h1 =>
   intro k hk a ha
   have hl : e.kids.length < e.cnt := cnt_len
   have := h.cnt
   simp only [len_lt, hk, decide_true, br_true, at?_get hk, ob_some_eq, Ex.eta, G47 hn (h.kid (List.getElem_mem hk)), wrap_succ hk (by omega : e.kids.length ≤ 9223372036854775807)]
   rw [cat?_ok (by have : lim = 4294967296 := rfl; simp; omega)]
   rfl
  case h2 => intro a; simp [len, br_false]
  rw [cutM_inl, List.filterMap_eq_map']
 ·have e1 : (e.kind != kind) = true := by simpa using hk
  rw [e1, if_neg hk]
  simp only [br_true, Ex.eta, G47 hn h, ob_some_eq]
theorem L98 {n : Nat} (hn : 31 ≤ n) {e : Ex} (h : Fx e) (kind : Int) : m98 (orcN n) e kind = some (partsS kind e, ()) := by
 unfold m98 partsS
 by_cases hk : e.kind = kind
 ·have e1 : (e.kind != kind) = false := by simp [hk]
  rw [e1, if_pos hk]
  simp only [br_false]
  rw [loop_col e.kids (fun k => some (txt k)) (fun l => .inl (l, ())) ?h1 ?h2]
  case h1 =>
   intro k hk a ha
   have hl : e.kids.length < e.cnt := cnt_len
   have := h.cnt
   simp only [len_lt, hk, decide_true, br_true, at?_get hk, ob_some_eq, G48 hn (h.kid (List.getElem_mem hk)), wrap_succ hk (by omega : e.kids.length ≤ 9223372036854775807)]
   rw [cat?_ok (by have : lim = 4294967296 := rfl; simp; omega)]
   rfl
  case h2 => intro a; simp [len, br_false]
  rw [cutM_inl, List.filterMap_eq_map']
 ·have e1 : (e.kind != kind) = true := by simpa using hk
  rw [e1, if_neg hk]
  simp only [br_true, Ex.eta, G48 hn h, ob_some_eq]
theorem parts_len {e : Ex} (h : Fx e) (kind : Int) : (partsS kind e).length ≤ 200 := by
 unfold partsS
 have hl : e.kids.length < e.cnt := cnt_len
 have := h.cnt
 split
 ·simp; omega
 ·simp
theorem L96 {n : Nat} (hn : 33 ≤ n) {kind : Int} (hk : kind = 2 ∨ kind = 3) {k o : Ex} (h : Fx k) (ho : Fx o) : m96 (orcN n) kind k o = some (absd kind k o, ()) := by
 obtain ⟨n, rfl⟩ : ∃ k, n = k + 1 := ⟨n - 1, by omega⟩
 unfold m96 absd
 rw [wrap5 hk]
 by_cases h1 : k.kind = 5 - kind
 ·have e1 : (k.kind != 5 - kind) = false := by simp [h1]
  have e2 : (k.kind == 5 - kind) = true := by simp [h1]
  have hpl := parts_len ho (5 - kind)
  have hpk := parts_len h (5 - kind)
  rw [e1, e2]
  simp only [br_false, Ex.eta, q129, L129 (by omega : 31 ≤ n) h, L129 (by omega : 31 ≤ n) ho, ob_some_eq, Bool.true_and]
  rw [loop_all (partsS (5 - kind) o) (inT (partsS (5 - kind) k)) (false, ()) ?h1 ?h2]
  case h1 =>
   intro j hj
   simp only [len_lt, hj, decide_true, br_true, at?_get hj, ob_some_eq, q86, L86 (by omega : 1 ≤ n) (by omega : (partsS (5 - kind) k).length ≤ 1000000000), wrap_succ hj (by omega : (partsS (5 - kind) o).length ≤ 9223372036854775807)]
   show br (!inT (partsS (5 - kind) k) (partsS (5 - kind) o)[j]) _ _ = _
   cases inT (partsS (5 - kind) k) (partsS (5 - kind) o)[j] <;> rfl
  case h2 => simp [len, br_false]
  cases (partsS (5 - kind) o).all (inT (partsS (5 - kind) k)) <;> rfl
 ·have e1 : (k.kind != 5 - kind) = true := by simpa using h1
  have e2 : (k.kind == 5 - kind) = false := by simpa using h1
  rw [e1, e2]; rfl
theorem L87 {n : Nat} {a b : List Str} (hn : 1 ≤ n) (ha : a.length ≤ 1000000) (hb : b.length ≤ 1000000) : m87 (orcN n) a b = some (a.all (inT b), ()) := by
 obtain ⟨n, rfl⟩ : ∃ k, n = k + 1 := ⟨n - 1, by omega⟩
 unfold m87
 rw [loop_all a (inT b) (false, ()) ?h1 ?h2]
 case h1 =>
  intro j hj
  simp only [len_lt, hj, decide_true, br_true, at?_get hj, ob_some_eq, q88, L88 (orcN n) (by omega : b.length ≤ 1000000000), wrap_succ hj (by omega : a.length ≤ 9223372036854775807)]
  show br (!inT b a[j]) _ _ = _
  cases inT b a[j] <;> rfl
 case h2 => simp [len, br_false]
 cases a.all (inT b) <;> rfl
end Pe.Tryz
end
section
/- The law of expressions in plain, second part: the program's simple expression. -/
set_option maxRecDepth 100000
namespace Pe.Tryz
open Go Go.Proofs Pe LicSpec
theorem L90_flat (o : Orc Sx) {kind : Int} {l : List Ex} (h : ∀ k ∈ l, k.kind ≠ kind) (hl : l.length ≤ 1000000) : m90 o kind l = some (.inl (l, ())) := by
 unfold m90
 rw [loop_col l some (fun l => .inl (l, ())) ?h1 ?h2]
 case h1 =>
  intro k hk a ha
  have hkk : (l[k].kind == kind) = false := by simpa using h _ (List.getElem_mem hk)
  simp only [len_lt, hk, decide_true, br_true, at?_get hk, ob_some_eq, Ex.eta, hkk, br_false, wrap_succ hk (by omega : l.length ≤ 9223372036854775807)]
  rw [cat?_ok (by have : lim = 4294967296 := rfl; simp; omega)]
  rfl
 case h2 => intro a; simp [len, br_false]
 rw [List.filterMap_some]; rfl
theorem L90 {n : Nat} (hn : 1 ≤ n) {kind : Int} {l : List Ex} (h : ∀ k ∈ l, k.kind = kind → ∀ x ∈ k.kids, x.kind ≠ kind) (hl : cntL l ≤ 200) : m90 (orcN n) kind l = some (.inl (l.flatMap (flatS kind), ())) := by
 obtain ⟨n, rfl⟩ : ∃ k, n = k + 1 := ⟨n - 1, by omega⟩
 have hlim : lim = 4294967296 := rfl
 have hll : l.length ≤ cntL l := by
  have : ∀ l : List Ex, l.length ≤ cntL l := by
   intro l
   induction l with
   | nil => simp
   | cons k r ih => have := k.cnt_pos; simp only [cntL, List.length_cons]; omega
  exact this l
 unfold m90
 rw [show (([] : List Ex), (0 : Int), ()) = ((fun (k : Nat) (a : List Ex) => (a, (k : Int), ())) 0 []) from rfl]
 rw [loop_fold (fun (k : Nat) (a : List Ex) => (a, (k : Int), ())) l (fun a k => a ++ flatS kind k) (fun a => .inl (a, ())) (fun k a => a.length + cntL (l.drop k) ≤ 200) ?h1 ?h2 [] (by simpa using hl)]
 case h1 =>
  intro k hk a ha
  have hmem := List.getElem_mem hk
  rw [List.drop_eq_getElem_cons hk] at ha
  simp only [cntL] at ha
  have hkl := cnt_len (e := l[k])
  have hcp := l[k].cnt_pos
  by_cases hkk : l[k].kind = kind
  ·have e1 : (l[k].kind == kind) = true := by simpa using hkk
   have h90 := L90_flat (orcN n) (h _ hmem hkk) (by omega)
   simp only [len_lt, hk, decide_true, br_true, at?_get hk, ob_some_eq, e1, q90, h90, oc_inl, wrap_succ hk (by omega : l.length ≤ 9223372036854775807)]
   rw [cat?_ok (by omega)]
   unfold flatS
   rw [if_pos hkk]
   exact ⟨rfl, by simp; omega⟩
  ·have e1 : (l[k].kind == kind) = false := by simpa using hkk
   simp only [len_lt, hk, decide_true, br_true, at?_get hk, ob_some_eq, e1, br_false, Ex.eta, wrap_succ hk (by omega : l.length ≤ 9223372036854775807)]
   rw [cat?_ok (by simp; omega)]
   unfold flatS
   rw [if_neg hkk]
   exact ⟨rfl, by simp; omega⟩
 case h2 => intro a _; simp [len, br_false]
 rw [cutM_inl]
 have : ∀ (l a : List Ex), l.foldl (fun a k => a ++ flatS kind k) a = a ++ l.flatMap (flatS kind) := by
  intro l
  induction l with
  | nil => intro a; simp
  | cons x r ih => intro a; rw [List.foldl_cons, ih, List.flatMap_cons, List.append_assoc]
 rw [this]; rfl
theorem gone_range {kind : Int} {u : List Ex} (hu : StrC cS (u.map txt)) {i : Nat} (hi : i < u.length) :
  (List.range u.length).foldl (fun b j => b || (decide (i ≠ j) && absd kind u[i] (u[j]?.getD u[i]))) false = gone kind u u[i] := by
 have hf : ∀ (l : List Nat) (p : Nat → Bool) (b : Bool), l.foldl (fun b j => b || p j) b = (b || l.any p) := by
  intro l p
  induction l with
  | nil => intro b; simp
  | cons x r ih => intro b; rw [List.foldl_cons, ih, List.any_cons, Bool.or_assoc]
 rw [hf, Bool.false_or]
 unfold gone
 rw [Bool.eq_iff_iff, List.any_eq_true, List.any_eq_true]
 constructor
 ·rintro ⟨j, h1, h2⟩
  have hj : j < u.length := by simpa using h1
  simp only [Bool.and_eq_true, decide_eq_true_eq] at h2
  rw [List.getElem?_eq_getElem hj] at h2
  refine ⟨u[j], List.getElem_mem hj, ?_⟩
  simp only [Bool.and_eq_true, bne_iff_ne]
  refine ⟨fun he => ?_, h2.2⟩
  have asc := List.pairwise_iff_getElem.1 hu
  rcases Nat.lt_or_gt_of_ne h2.1 with h4 | h4
  ·have := asc i j (by simpa using hi) (by simpa using hj) h4
   simp only [List.getElem_map] at this
   rw [he] at this; exact cS_ord.irr _ this
  ·have := asc j i (by simpa using hj) (by simpa using hi) h4
   simp only [List.getElem_map] at this
   rw [he] at this; exact cS_ord.irr _ this
 ·rintro ⟨o, h1, h2⟩
  obtain ⟨j, hj, rfl⟩ := List.getElem_of_mem h1
  simp only [Bool.and_eq_true, bne_iff_ne] at h2
  refine ⟨j, by simpa using hj, ?_⟩
  simp only [Bool.and_eq_true, decide_eq_true_eq]
  exact ⟨fun he => by subst he; exact h2.1 rfl, by rw [List.getElem?_eq_getElem hj]; exact h2.2⟩
theorem L50 : ∀ (n : Nat) (e : Ex), e.lev + 40 ≤ n → Fx e → m50 (orcN n) e = some (simpS e, ()) := by
 intro n
 induction n with
 | zero => intro e h; omega
 | succ n ih =>
   intro e hl hx
   obtain ⟨h1, h2⟩ := fault_zero hx.right
   obtain ⟨k1, k3, o1, o2⟩ := one_zero h1
   have hlim : lim = 4294967296 := rfl
   have hkl : e.kids.length < e.cnt := cnt_len
   have hcn : e.cnt = 1 + cntL e.kids := by cases e; simp only [Ex.cnt]
   have hc2 := hx.cnt
   unfold m50
   rw [simpS_eq]
   by_cases hk : e.kind = 1
   ·have e1 : (e.kind == 1) = true := by simpa using hk
    rw [e1, if_pos hk, br_true, Ex.eta]
   ·have e1 : (e.kind == 1) = false := by simpa using hk
    have hk2 : e.kind = 2 ∨ e.kind = 3 := by omega
    rw [e1, if_neg hk]
    simp only [br_false]
    rw [loop_col e.kids (fun k => some (simpS k)) (fun l => .inl (l, ())) ?h1 ?h2]
    case h1 =>
     intro k hk a ha
     have hmem := List.getElem_mem hk
     have := lev_kid hmem
     simp only [len_lt, hk, decide_true, br_true, at?_get hk, ob_some_eq, Ex.eta, q50, ih e.kids[k] (by omega) (hx.kid hmem), wrap_succ hk (by omega : e.kids.length ≤ 9223372036854775807)]
     rw [cat?_ok (by simp; omega)]
     rfl
    case h2 => intro a; simp [len, br_false]
    rw [cutM_inl, List.filterMap_eq_map']
    have hsm : ∀ k ∈ e.kids, Sm (simpS k) := fun k hk => (simp_sm k (hx.kid hk).right).1
    have hcm : ∀ l : List Ex, (∀ k ∈ l, fault k = 0) → cntL (l.map simpS) ≤ cntL l := by
     intro l
     induction l with
     | nil => intro _; simp [cntL]
     | cons x r ihl =>
       intro hf
       have := (simp_sm x (hf x (by simp))).2.1
       have := ihl fun k hk => hf k (by simp [hk])
       simp only [List.map_cons, cntL]; omega
    have hcm2 := hcm e.kids fun k hk => (hx.kid hk).right
    have hfl : (e.kids.map simpS).flatMap (flatS e.kind) = simpL e.kind e.kids := by rw [simpL_eq, List.flatMap_map]
    have h90 := L90 (n := n) (by omega) (kind := e.kind) (l := e.kids.map simpS) (fun k hk => by
     obtain ⟨k', hk', rfl⟩ := List.mem_map.1 hk
     intro hkk x hxk
     have := hsm k' hk'
     generalize simpS k' = s at this hkk hxk
     cases this with
     | name _ q _ => omega
     | row kk lk _ _ _ hnk _ _ => simp only at hkk hxk; rw [← hkk]; exact hnk x hxk) (by omega)
    rw [hfl] at h90
    obtain ⟨p1, p2, p3, p4⟩ := simpL_sm e.kind e.kids hk2 h2
    have hpx : ∀ k ∈ simpL e.kind e.kids, Fx k := fun k hk => ⟨(p1 k hk).1.fault, by have := cnt_mem hk; omega, by
     have h5 := levL_mem hk
     have h6 : e.lev = levL e.kids + 1 := by cases e; simp only [Ex.lev]
     have := hx.lev
     omega⟩
    generalize hFL : simpL e.kind e.kids = fl at h90 p1 p2 p3 p4 hpx
    have hfll : fl.length ≤ 200 := by
     have : ∀ l : List Ex, l.length ≤ cntL l := by
      intro l
      induction l with
      | nil => simp
      | cons k r ih => have := k.cnt_pos; simp only [cntL, List.length_cons]; omega
     have := this fl; omega
    have h91 : @Eq (Option (List Ex)) ((orcN (n + 1)).p 91 (.st 4) 24 [.func (.func 92) [] []] fl) (some (sortC cE fl)) := by
     rw [q91]; exact sort_ex (by omega) hpx (by omega)
    have hsl := (sortC_perm cE fl).length_eq
    have h94 : @Eq (Option ((List Ex × Unit) ⊕ Unit)) ((orcN (n + 1)).l 94 sg94 ((sortC cE fl, ()) : List Ex × Unit)) (some (.inl (uniq fl, ()))) := by
     rw [q94, L94 (by omega : 32 ≤ n) (fun e he => hpx e ((sortC_perm cE fl).mem_iff.1 he)) (by omega), uniq_prog fun e he => (hpx e he).right]
    rw [q90, h90]
    simp only [oc_inl]
    refine (congrArg (fun z => ob (α := List Ex) z _) h91).trans ?_
    rw [ob_some_eq]
    refine (congrArg (fun z => oc (α := List Ex × Unit) (β := Unit) z _ _) h94).trans ?_
    rw [oc_inl]
    have hu := uniq_str fl
    have hux : ∀ k ∈ uniq fl, Fx k := fun k hk => hpx k (uniq_mem hk)
    have hun : (uniq fl).length ≤ 200 := by
     have h5 := uniq_cnt fl
     have : ∀ l : List Ex, l.length ≤ cntL l := by
      intro l
      induction l with
      | nil => simp
      | cons k r ih => have := k.cnt_pos; simp only [cntL, List.length_cons]; omega
     have := this (uniq fl); omega
    have hfin : finS e.kind fl = match keptS e.kind (uniq fl) with | [x] => x | l => .mk e.kind [] false [] l := rfl
    rw [hfin]
    unfold keptS
    generalize uniq fl = u at hu hux hun
    rw [show (u, ([] : List Ex), u, (0 : Int), ()) = ((fun (k : Nat) (a : List Ex) => (u, a, u, (k : Int), ())) 0 []) from rfl]
    rw [loop_st (A := List Ex) (fun (k : Nat) (a : List Ex) => (u, a, u, (k : Int), ())) u.length (fun k a => .inl (a ++ (u.drop k).filter (fun x => !gone e.kind u x), ())) (fun k a => a.length ≤ k) ?g1 0 [] (Nat.zero_le _) (Nat.le_refl _)]
    case g1 =>
     intro k a hk' ha
     by_cases hlt : k < u.length
     ·left
      have hin : loopM (σ := List Ex × Bool × Int × Unit) (R := (List Ex × Bool × Unit) ⊕ ((List Ex × Unit) ⊕ ((List Ex × List Ex × List Ex × Int × Unit) ⊕ ((List Ex × Unit) ⊕ (Ex × Unit))))) (fun (t13 : List Ex × Bool × Int × Unit) => (br (decide (t13.2.2.1 < (len u))) (ob (at? u t13.2.2.1) fun y14 => (ob (br t13.2.1 (some true) (ob (br ((k : Int) != t13.2.2.1) (ob (α := Bool × Unit) ((orcN (n + 1)).d 96 [.int .i64 e.kind, .st 4 u[k], .st 4 y14] [.bool]) fun (r15 : Bool × Unit) => (some r15.1)) (some false)) fun b16 => (some b16))) fun b17 => (some (.inl (t13.1, b17, (IntKind.i64.wrap (t13.2.2.1 + 1)), ()))))) (some (.inr (.inl (t13.1, t13.2.1, ())))))) (a, false, 0, ()) = some (.inl (a, gone e.kind u u[k], ())) := by
       rw [show (a, false, (0 : Int), ()) = ((fun (j : Nat) (b : Bool) => (a, b, (j : Int), ())) 0 false) from rfl]
       rw [loop_fold (fun (j : Nat) (b : Bool) => (a, b, (j : Int), ())) (List.range u.length) (fun b j => b || (decide (k ≠ j) && absd e.kind u[k] (u[j]?.getD u[k]))) (fun b => .inl (a, b, ())) (fun _ _ => True) ?i1 ?i2 false trivial]
       case i1 =>
        intro j hj b _
        have hj' : j < u.length := by simpa using hj
        refine ⟨?_, trivial⟩
        have e3 : ((k : Int) != (j : Int)) = decide (k ≠ j) := by
         by_cases hkj : k = j
         ·subst hkj; simp
         ·have : ¬ ((k : Int) = (j : Int)) := by omega
          simp [hkj, this]
        simp only [len_lt, hj', decide_true, br_true, at?_get hj', ob_some_eq, q96, L96 (by omega : 33 ≤ n) hk2 (hux _ (List.getElem_mem hlt)) (hux _ (List.getElem_mem hj')), e3, wrap_succ hj' (by omega : u.length ≤ 9223372036854775807), List.getElem_range, List.getElem?_eq_getElem hj', Option.getD_some]
        cases b <;> cases decide (k ≠ j) <;> rfl
       case i2 => intro b _; simp [len, br_false]
       rw [gone_range hu hlt]
      have hrest : (u.drop k).filter (fun x => !gone e.kind u x) = (bif gone e.kind u u[k] then [] else [u[k]]) ++ (u.drop (k + 1)).filter (fun x => !gone e.kind u x) := by
       rw [List.drop_eq_getElem_cons hlt, List.filter_cons]
       cases gone e.kind u u[k] <;> rfl
      refine ⟨a ++ (bif gone e.kind u u[k] then [] else [u[k]]), hlt, ?_, ?_, ?_⟩
      ·simp only [len_lt, hlt, decide_true, br_true, at?_get hlt, ob_some_eq, Ex.eta]
       rw [hin]
       simp only [cutM_inl, wrap_succ hlt (by omega : u.length ≤ 9223372036854775807)]
       rw [cat?_ok (by simp; omega)]
       cases gone e.kind u u[k] <;> simp [br_true, br_false, ob_some_eq, cutM_inl]
      ·cases gone e.kind u u[k] <;> simp <;> omega
      ·rw [hrest, List.append_assoc]
     ·right
      have hke : k = u.length := by omega
      subst hke
      simp [len, br_false]
    rw [cutM_inl]
    simp only [List.drop_zero, List.nil_append]
    match hkp : u.filter (fun x => !gone e.kind u x) with
    | [] => rfl
    | [x] =>
      have e8 : ((len [x]) == 1) = true := rfl
      have e9 : at? [x] 0 = some x := rfl
      rw [e8, br_true, e9, ob_some_eq, Ex.eta]
    | x :: y :: r =>
      have : ((len (x :: y :: r)) == 1) = false := by unfold len; simp; omega
      rw [this]; rfl
end Pe.Tryz
end
section
/- The law of expressions in plain, third part: the reference's simple expression. -/
set_option maxRecDepth 100000
namespace Pe.Tryz
open Go Go.Proofs Pe LicSpec
theorem len_cntL : ∀ l : List Ex, l.length ≤ cntL l
 | [] => by simp
 | k :: r => by have := k.cnt_pos; have := len_cntL r; simp only [cntL, List.length_cons]; omega
theorem texts_fold (l : List Ex) : l.foldl (fun a k => putS (txt k) a) [] = texts l := by
 unfold texts putAll
 rw [List.foldl_map]
theorem gone_ref {kind : Int} {u : List Ex} (hu : StrC cS (u.map txt)) {i : Nat} (hi : i < u.length) :
  (List.range u.length).foldl (fun b j => b || ((decide (j ≠ i) && (u[i].kind == 5 - kind)) && (partsS (5 - kind) (u[j]?.getD u[i])).all (inT (partsS (5 - kind) u[i])))) false = gone kind u u[i] := by
 rw [← gone_range hu hi]
 congr 1
 funext b j
 unfold absd
 rw [Bool.and_assoc]
 have : decide (j ≠ i) = decide (i ≠ j) := decide_eq_decide.2 ⟨fun h he => h he.symm, fun h he => h he.symm⟩
 rw [this]
theorem L51 : ∀ (n : Nat) (e : Ex), e.lev + 40 ≤ n → Fx e → m51 (orcN n) e = some (simpS e, ()) := by
 intro n
 induction n with
 | zero => intro e h; omega
 | succ n ih =>
   intro e hl hx
   obtain ⟨h1, h2⟩ := fault_zero hx.right
   obtain ⟨k1, k3, o1, o2⟩ := one_zero h1
   have hlim : lim = 4294967296 := rfl
   have hkl : e.kids.length < e.cnt := cnt_len
   have hcn : e.cnt = 1 + cntL e.kids := by cases e; simp only [Ex.cnt]
   have hc2 := hx.cnt
   unfold m51
   rw [simpS_eq]
   by_cases hk : e.kind = 1
   ·have e1 : (e.kind == 1) = true := by simpa using hk
    rw [e1, if_pos hk, br_true, Ex.eta]
   ·have e1 : (e.kind == 1) = false := by simpa using hk
    have hk2 : e.kind = 2 ∨ e.kind = 3 := by omega
    rw [e1, if_neg hk]
    simp only [br_false]
    have hw5 := wrap5 hk2
    -- the row
    rw [show (([] : List Ex), (0 : Int), ()) = ((fun (k : Nat) (a : List Ex) => (a, (k : Int), ())) 0 []) from rfl]
    rw [loop_fold (R := (List Ex × Unit) ⊕ (Ex × Unit)) (fun (k : Nat) (a : List Ex) => (a, (k : Int), ())) e.kids (fun a k => a ++ flatS e.kind (simpS k)) (fun a => .inl (a, ())) (fun k a => a.length + cntL (e.kids.drop k) ≤ 200) ?h1 ?h2 [] (by simp; omega)]
    case h1 =>
     intro k hk a ha
     have hmem := List.getElem_mem hk
     have hlk := lev_kid hmem
     have hs := simp_sm e.kids[k] (hx.kid hmem).right
     have hck := cnt_kids hmem
     rw [List.drop_eq_getElem_cons hk] at ha
     simp only [cntL] at ha
     have hkl2 := cnt_len (e := simpS e.kids[k])
     have hcp := e.kids[k].cnt_pos
     have hih := ih e.kids[k] (by omega) (hx.kid hmem)
     unfold flatS
     by_cases hkk : (simpS e.kids[k]).kind = e.kind
     ·have e2 : ((simpS e.kids[k]).kind == e.kind) = true := by simpa using hkk
      simp only [len_lt, hk, decide_true, br_true, at?_get hk, ob_some_eq, q51, hih, e2, wrap_succ hk (by omega : e.kids.length ≤ 9223372036854775807), if_pos hkk]
      rw [cat?_ok (by omega)]
      exact ⟨rfl, by simp; omega⟩
     ·have e2 : ((simpS e.kids[k]).kind == e.kind) = false := by simpa using hkk
      simp only [len_lt, hk, decide_true, br_true, at?_get hk, ob_some_eq, q51, hih, e2, br_false, wrap_succ hk (by omega : e.kids.length ≤ 9223372036854775807), if_neg hkk, Ex.eta]
      rw [cat?_ok (by simp; omega)]
      exact ⟨rfl, by simp; omega⟩
    case h2 => intro a _; simp [len, br_false]
    have hfl : e.kids.foldl (fun a k => a ++ flatS e.kind (simpS k)) [] = simpL e.kind e.kids := by
     rw [simpL_eq]
     have : ∀ (l a : List Ex), l.foldl (fun a k => a ++ flatS e.kind (simpS k)) a = a ++ l.flatMap fun k => flatS e.kind (simpS k) := by
      intro l
      induction l with
      | nil => intro a; simp
      | cons x r ih => intro a; rw [List.foldl_cons, ih, List.flatMap_cons, List.append_assoc]
     rw [this]; rfl
    rw [cutM_inl, hfl]
    obtain ⟨p1, p2, p3, p4⟩ := simpL_sm e.kind e.kids hk2 h2
    have hpx : ∀ k ∈ simpL e.kind e.kids, Fx k := fun k hk => ⟨(p1 k hk).1.fault, by have := cnt_mem hk; omega, by
     have h5 := levL_mem hk
     have h6 : e.lev = levL e.kids + 1 := by cases e; simp only [Ex.lev]
     have := hx.lev
     omega⟩
    generalize simpL e.kind e.kids = fl at p1 p2 p3 p4 hpx
    have hfll : fl.length ≤ 200 := by have := len_cntL fl; omega
    -- the texts
    rw [show (fl, ([] : List Str), (0 : Int), ()) = ((fun (k : Nat) (a : List Str) => (fl, a, (k : Int), ())) 0 []) from rfl]
    rw [loop_fold (R := (List Ex × List Str × Unit) ⊕ (Ex × Unit)) (fun (k : Nat) (a : List Str) => (fl, a, (k : Int), ())) fl (fun a k => putS (txt k) a) (fun a => .inl (fl, a, ())) (fun k a => a.length ≤ k) ?t1 ?t2 [] (Nat.le_refl _)]
    case t1 =>
     intro k hk a ha
     have h3 : (putS (txt fl[k]) a).length ≤ a.length + 1 := by
      have := putAll_len [txt fl[k]] a
      exact this
     simp only [len_lt, hk, decide_true, br_true, at?_get hk, ob_some_eq, G48 (by omega : 31 ≤ n + 1) (hpx _ (List.getElem_mem hk)), q97, L97 (orcN n) (by omega : a.length ≤ 1000000000), wrap_succ hk (by omega : fl.length ≤ 9223372036854775807)]
     exact ⟨trivial, by omega⟩
    case t2 => intro a _; simp [len, br_false]
    rw [cutM_inl, texts_fold]
    simp only
    -- what is picked
    have htl : (texts fl).length ≤ 200 := by
     have := putAll_len (fl.map txt) []
     unfold texts
     simp at this; omega
    have hpk : loopM (σ := List Ex × List Ex × Int × Unit) (R := (List Ex × Unit) ⊕ (Ex × Unit)) (fun (t12 : List Ex × List Ex × Int × Unit) => (br (decide (t12.2.2.1 < (len (texts fl)))) (cutM (σ := List Ex × List Ex × Unit) (R := (List Ex × List Ex × Int × Unit) ⊕ ((List Ex × Unit) ⊕ (Ex × Unit))) (loopM (σ := List Ex × List Ex × Int × Unit) (R := (List Ex × List Ex × Unit) ⊕ ((List Ex × List Ex × Int × Unit) ⊕ ((List Ex × Unit) ⊕ (Ex × Unit)))) (fun (t13 : List Ex × List Ex × Int × Unit) => (br (decide (t13.2.2.1 < (len t13.1))) (ob (at? t13.1 t13.2.2.1) fun y14 => (ob (α := List UInt8 × Unit) ((orcN (n + 1)).d 48 [.st 4 y14] [.str]) fun (r15 : List UInt8 × Unit) => (ob (at? (texts fl) t12.2.2.1) fun y16 => (br (r15.1 == y16) (ob (at? t13.1 t13.2.2.1) fun y17 => (ob (cat? t13.2.1 [y17]) fun l18 => (some (.inr (.inl (t13.1, l18, ())))))) (some (.inl (t13.1, t13.2.1, (IntKind.i64.wrap (t13.2.2.1 + 1)), ()))))))) (some (.inr (.inl (t13.1, t13.2.1, ())))))) (t12.1, t12.2.1, 0, ())) fun (t19 : List Ex × List Ex × Unit) => (some (.inl (t19.1, t19.2.1, (IntKind.i64.wrap (t12.2.2.1 + 1)), ())))) (some (.inr (.inl (t12.2.1, ())))))) (fl, [], 0, ()) = some (.inl (uniq fl, ())) := by
     rw [show (fl, ([] : List Ex), (0 : Int), ()) = ((fun (k : Nat) (a : List Ex) => (fl, a, (k : Int), ())) 0 []) from rfl]
     rw [loop_st (A := List Ex) (fun (k : Nat) (a : List Ex) => (fl, a, (k : Int), ())) (texts fl).length (fun k a => .inl (a ++ ((texts fl).drop k).filterMap (pickT fl), ())) (fun k a => a.length ≤ k) ?p1 0 [] (Nat.zero_le _) (Nat.le_refl _)]
     case p1 =>
      intro k a hk' ha
      by_cases hlt : k < (texts fl).length
      ·left
       obtain ⟨x, hx1, hx2, hx3⟩ := pickT_some (mem_texts.1 (List.getElem_mem hlt) : (texts fl)[k] ∈ fl.map txt)
       refine ⟨a ++ [x], hlt, ?_, by simp; omega, ?_⟩
       ·simp only [len_lt, hlt, decide_true, br_true]
        have hin : loopM (σ := List Ex × List Ex × Int × Unit) (R := (List Ex × List Ex × Unit) ⊕ ((List Ex × List Ex × Int × Unit) ⊕ ((List Ex × Unit) ⊕ (Ex × Unit)))) (fun (t13 : List Ex × List Ex × Int × Unit) => (br (decide (t13.2.2.1 < (len t13.1))) (ob (at? t13.1 t13.2.2.1) fun y14 => (ob (α := List UInt8 × Unit) ((orcN (n + 1)).d 48 [.st 4 y14] [.str]) fun (r15 : List UInt8 × Unit) => (ob (at? (texts fl) (k : Int)) fun y16 => (br (r15.1 == y16) (ob (at? t13.1 t13.2.2.1) fun y17 => (ob (cat? t13.2.1 [y17]) fun l18 => (some (.inr (.inl (t13.1, l18, ())))))) (some (.inl (t13.1, t13.2.1, (IntKind.i64.wrap (t13.2.2.1 + 1)), ()))))))) (some (.inr (.inl (t13.1, t13.2.1, ())))))) (fl, a, 0, ()) = some (.inl (fl, a ++ [x], ())) := by
         have key : ∀ d j : Nat, fl.length = j + d → (∀ i (hi : i < fl.length), i < j → txt fl[i] ≠ (texts fl)[k]) → loopM (σ := List Ex × List Ex × Int × Unit) (R := (List Ex × List Ex × Unit) ⊕ ((List Ex × List Ex × Int × Unit) ⊕ ((List Ex × Unit) ⊕ (Ex × Unit)))) (fun (t13 : List Ex × List Ex × Int × Unit) => (br (decide (t13.2.2.1 < (len t13.1))) (ob (at? t13.1 t13.2.2.1) fun y14 => (ob (α := List UInt8 × Unit) ((orcN (n + 1)).d 48 [.st 4 y14] [.str]) fun (r15 : List UInt8 × Unit) => (ob (at? (texts fl) (k : Int)) fun y16 => (br (r15.1 == y16) (ob (at? t13.1 t13.2.2.1) fun y17 => (ob (cat? t13.2.1 [y17]) fun l18 => (some (.inr (.inl (t13.1, l18, ())))))) (some (.inl (t13.1, t13.2.1, (IntKind.i64.wrap (t13.2.2.1 + 1)), ()))))))) (some (.inr (.inl (t13.1, t13.2.1, ())))))) (fl, a, (j : Int), ()) = some (.inl (fl, a ++ [x], ())) := by
          intro d
          induction d with
          | zero =>
            intro j hj hno
            exfalso
            obtain ⟨i, hi, he⟩ := List.getElem_of_mem hx2
            exact hno i hi (by omega) (by rw [he]; exact hx3)
          | succ d ihd =>
            intro j hj hno
            have hjl : j < fl.length := by omega
            by_cases he : txt fl[j] = (texts fl)[k]
            ·have hxe : x = fl[j] := by
              have : pickT fl (texts fl)[k] = some fl[j] := by
               unfold pickT
               rw [List.find?_eq_some_iff_getElem]
               refine ⟨by simpa using he, j, hjl, rfl, fun i hi => ?_⟩
               have := hno i (by omega) hi
               simpa using this
              rw [this] at hx1; exact (Option.some.inj hx1).symm
             refine loopM_end ?_
             have e4 : (txt fl[j] == (texts fl)[k]) = true := by simpa using he
             simp only [len_lt, hjl, decide_true, br_true, at?_get hjl, ob_some_eq, G48 (by omega : 31 ≤ n + 1) (hpx _ (List.getElem_mem hjl)), at?_get hlt, e4]
             rw [cat?_ok (by simp; omega), hxe]
             rfl
            ·have e4 : (txt fl[j] == (texts fl)[k]) = false := by simpa using he
             rw [loopM_next (y := (fl, a, ((j + 1 : Nat) : Int), ()))]
             ·refine ihd (j + 1) (by omega) fun i hi hij => ?_
              by_cases h6 : i = j
              ·subst h6; exact he
              ·exact hno i hi (by omega)
             ·simp only [len_lt, hjl, decide_true, br_true, at?_get hjl, ob_some_eq, G48 (by omega : 31 ≤ n + 1) (hpx _ (List.getElem_mem hjl)), at?_get hlt, e4, br_false, wrap_succ hjl (by omega : fl.length ≤ 9223372036854775807)]
         exact key fl.length 0 (by omega) fun i _ hi => by omega
        rw [hin]
        simp only [cutM_inl, wrap_succ hlt (by omega : (texts fl).length ≤ 9223372036854775807)]
       ·rw [List.drop_eq_getElem_cons hlt, List.filterMap_cons, hx1, List.append_assoc]; rfl
      ·right
       have hke : k = (texts fl).length := by omega
       subst hke
       simp [len, br_false]
     rfl
    refine (congrArg (fun z => cutM (σ := List Ex × Unit) (R := Ex × Unit) z _) hpk).trans ?_
    rw [cutM_inl]
    have hu := uniq_str fl
    have hux : ∀ k ∈ uniq fl, Fx k := fun k hk => hpx k (uniq_mem hk)
    have hun : (uniq fl).length ≤ 200 := by have h5 := uniq_cnt fl; have := len_cntL (uniq fl); omega
    have hfin : finS e.kind fl = match keptS e.kind (uniq fl) with | [x] => x | l => .mk e.kind [] false [] l := rfl
    rw [hfin]
    unfold keptS
    generalize uniq fl = u at hu hux hun
    simp only
    rw [show (u, ([] : List Ex), ((0 : Nat) : Int), ()) = ((fun (k : Nat) (a : List Ex) => (u, a, (k : Int), ())) 0 []) from rfl]
    rw [loop_st (A := List Ex) (R := (List Ex × Unit) ⊕ (Ex × Unit)) (fun (k : Nat) (a : List Ex) => (u, a, (k : Int), ())) u.length (fun k a => .inl (a ++ (u.drop k).filter (fun x => !gone e.kind u x), ())) (fun k a => a.length ≤ k) ?g1 0 [] (Nat.zero_le _) (Nat.le_refl _)]
    case g1 =>
     intro k a hk' ha
     by_cases hlt : k < u.length
     ·left
      have hin : loopM (σ := List Ex × List Ex × Bool × Int × Unit) (R := (List Ex × List Ex × Bool × Unit) ⊕ ((List Ex × List Ex × Unit) ⊕ ((List Ex × List Ex × Int × Unit) ⊕ ((List Ex × Unit) ⊕ (Ex × Unit))))) (fun (t22 : List Ex × List Ex × Bool × Int × Unit) => (br (decide (t22.2.2.2.1 < (len t22.1))) (ob (at? t22.1 t22.2.2.2.1) fun y23 => (ob (α := List (List UInt8) × Unit) ((orcN (n + 1)).d 98 [.st 4 y23, .int .i64 (5 - e.kind)] [(.sl .str)]) fun (r24 : List (List UInt8) × Unit) => (ob (at? t22.1 (k : Int)) fun y25 => (ob (α := List (List UInt8) × Unit) ((orcN (n + 1)).d 98 [.st 4 y25, .int .i64 (5 - e.kind)] [(.sl .str)]) fun (r26 : List (List UInt8) × Unit) => (ob (br t22.2.2.1 (some true) (ob (br (t22.2.2.2.1 != (k : Int)) (ob (at? t22.1 (k : Int)) fun y27 => (some (y27.kind == (5 - e.kind)))) (some false)) fun b28 => (ob (br b28 (ob (α := Bool × Unit) ((orcN (n + 1)).d 87 [.sl .str r24.1, .sl .str r26.1] [.bool]) fun (r29 : Bool × Unit) => (some r29.1)) (some false)) fun b30 => (some b30)))) fun b31 => (some (.inl (t22.1, t22.2.1, b31, (IntKind.i64.wrap (t22.2.2.2.1 + 1)), ())))))))) (some (.inr (.inl (t22.1, t22.2.1, t22.2.2.1, ())))))) (u, a, false, 0, ()) = some (.inl (u, a, gone e.kind u u[k], ())) := by
       rw [show (u, a, false, (0 : Int), ()) = ((fun (j : Nat) (b : Bool) => (u, a, b, (j : Int), ())) 0 false) from rfl]
       rw [loop_fold (fun (j : Nat) (b : Bool) => (u, a, b, (j : Int), ())) (List.range u.length) (fun b j => b || ((decide (j ≠ k) && (u[k].kind == 5 - e.kind)) && (partsS (5 - e.kind) (u[j]?.getD u[k])).all (inT (partsS (5 - e.kind) u[k])))) (fun b => .inl (u, a, b, ())) (fun _ _ => True) ?i1 ?i2 false trivial]
       case i1 =>
        intro j hj b _
        have hj' : j < u.length := by simpa using hj
        have fj := hux _ (List.getElem_mem hj')
        have fk := hux _ (List.getElem_mem hlt)
        refine ⟨?_, trivial⟩
        have e3 : ((j : Int) != (k : Int)) = decide (j ≠ k) := by
         by_cases hkj : j = k
         ·subst hkj; simp
         ·have : ¬ ((j : Int) = (k : Int)) := by omega
          simp [hkj, this]
        have l1 := parts_len fj (5 - e.kind)
        have l2 := parts_len fk (5 - e.kind)
        simp only [len_lt, hj', decide_true, br_true, at?_get hj', at?_get hlt, ob_some_eq, q98, L98 (by omega : 31 ≤ n) fj, L98 (by omega : 31 ≤ n) fk, q87, L87 (by omega : 1 ≤ n) (by omega : (partsS (5 - e.kind) u[j]).length ≤ 1000000) (by omega : (partsS (5 - e.kind) u[k]).length ≤ 1000000), e3, wrap_succ hj' (by omega : u.length ≤ 9223372036854775807), List.getElem_range, List.getElem?_eq_getElem hj', Option.getD_some]
        cases b <;> cases decide (j ≠ k) <;> cases (u[k].kind == 5 - e.kind) <;> rfl
       case i2 => intro b _; simp [len, br_false]
       rw [gone_ref hu hlt]
      have hrest : (u.drop k).filter (fun x => !gone e.kind u x) = (bif gone e.kind u u[k] then [] else [u[k]]) ++ (u.drop (k + 1)).filter (fun x => !gone e.kind u x) := by
       rw [List.drop_eq_getElem_cons hlt, List.filter_cons]
       cases gone e.kind u u[k] <;> rfl
      refine ⟨a ++ (bif gone e.kind u u[k] then [] else [u[k]]), hlt, ?_, ?_, ?_⟩
      ·simp only [len_lt, hlt, decide_true, br_true, hw5]
       rw [hin]
       simp only [cutM_inl, at?_get hlt, ob_some_eq, wrap_succ hlt (by omega : u.length ≤ 9223372036854775807)]
       rw [cat?_ok (by simp; omega)]
       cases gone e.kind u u[k] <;> simp [br_true, br_false, ob_some_eq, cutM_inl]
      ·cases gone e.kind u u[k] <;> simp <;> omega
      ·rw [hrest, List.append_assoc]
     ·right
      have hke : k = u.length := by omega
      subst hke
      simp [len, br_false]
    rw [cutM_inl]
    simp only [List.drop_zero, List.nil_append]
    match hkp : u.filter (fun x => !gone e.kind u x) with
    | [] => rfl
    | [x] =>
      have e8 : ((len [x]) == 1) = true := rfl
      have e9 : at? [x] 0 = some x := rfl
      rw [e8, br_true, e9, ob_some_eq, Ex.eta]
    | x :: y :: r =>
      have : ((len (x :: y :: r)) == 1) = false := by unfold len; simp; omega
      rw [this]; rfl
end Pe.Tryz
end
section
/- The law of expressions in plain, last part: Simple and Names of both sides; the law. -/
set_option maxRecDepth 100000
namespace Pe.Tryz
open Go Go.Proofs Pe LicSpec
def simpleS (e : Ex) : Ex × Int × Unit := if chk e ≠ 0 then (.mk 0 [] false [] [], chk e, ()) else (simpS e, 0, ())
theorem L14 {n : Nat} {e : Ex} (hs : Small e) (hn : 222 ≤ n) (hl : e.lev + 10 ≤ n) : m14 (orcN n) e = some (simpleS e) := by
 obtain ⟨m, rfl⟩ : ∃ m, n = m + 1 := ⟨n - 1, by omega⟩
 have h18 := L18 m e (by omega) hs
 unfold m14 simpleS
 by_cases hc : chk e = 0
 ·have hx := Fx.of hc
  have e1 : (chk e != 0) = false := by simp [hc]
  have hl2 := hx.lev
  have hl3 := hx.simp.lev
  rw [if_neg (by simp [hc])]
  simp only [Ex.eta, q18, h18, ob_some_eq, e1, br_false, q50, L50 m e (by omega) hx, q49, L49 m (simpS e) (by omega) hx.simp.small]
 ·have e1 : (chk e != 0) = true := by simpa using hc
  rw [if_pos hc]
  simp only [Ex.eta, q18, h18, ob_some_eq, e1, br_true]
theorem L15 {n : Nat} {e : Ex} (hs : Small e) (hb : e.lev ≤ 100000000) (hn : 222 ≤ n) (hl : e.lev + 10 ≤ n) : m15 (orcN n) e = some (simpleS e) := by
 obtain ⟨m, rfl⟩ : ∃ m, n = m + 1 := ⟨n - 1, by omega⟩
 have h19 := L19 m e (by omega) hb hs
 unfold m15 simpleS
 by_cases hc : chk e = 0
 ·have hx := Fx.of hc
  have e1 : (chk e != 0) = false := by simp [hc]
  have hl2 := hx.lev
  have hl3 := hx.simp.lev
  rw [if_neg (by simp [hc])]
  simp only [Ex.eta, q19, h19, ob_some_eq, e1, br_false]
  have r1 := L51 m e (by omega) hx
  have r2 := L51 m (simpS e) (by omega) hx.simp
  rw [simp_simp hx.right] at r2
  have t1 := G48 (by omega : 31 ≤ m + 1) hx
  have t2 := G48 (by omega : 31 ≤ m + 1) hx.simp
  by_cases he : txt (simpS e) = txt e
  ·have e4 : (txt (simpS e) == txt e) = true := by simpa using he
   refine loopM_end ?_
   simp only [Ex.eta, q51, r1, t1, t2, ob_some_eq, e4, br_true]
  ·have e4 : (txt (simpS e) == txt e) = false := by simpa using he
   rw [loopM_next (y := ((simpS e).kind, (simpS e).name, (simpS e).later, (simpS e).wth, (simpS e).kids, 0, [], false, [], [], ())) (by
    simp only [Ex.eta, q51, r1, t1, t2, ob_some_eq, e4, br_false])]
   refine loopM_end ?_
   simp only [Ex.eta, q51, r2, t2, ob_some_eq, beq_self_eq_true, br_true]
 ·have e1 : (chk e != 0) = true := by simpa using hc
  rw [if_pos hc]
  simp only [Ex.eta, q19, h19, ob_some_eq, e1, br_true]
def namesF (e : Ex) : List Str × Int × Unit := if chk e ≠ 0 then ([], chk e, ()) else (namesS e, 0, ())
theorem namesS_len (e : Ex) : (namesS e).length ≤ e.cnt := by
 have h1 := putAll_len (namesA e) []
 have h2 := namesA_len e
 unfold namesS
 simp at h1; omega
theorem L52 : ∀ (n : Nat) (e : Ex), e.lev + 10 ≤ n → Fx e → m52 (orcN n) e = some (namesS e, ()) := by
 intro n
 induction n with
 | zero => intro e h; omega
 | succ n ih =>
   intro e hl hx
   have hkl : e.kids.length < e.cnt := cnt_len
   have hcn : e.cnt = 1 + cntL e.kids := by cases e; simp only [Ex.cnt]
   have hc2 := hx.cnt
   unfold m52
   by_cases hk : e.kind = 1
   ·have e1 : (e.kind == 1) = true := by simpa using hk
    rw [e1, br_true]
    unfold namesS
    rw [namesA_eq, if_pos hk]; rfl
   ·have e1 : (e.kind == 1) = false := by simpa using hk
    rw [e1, br_false]
    unfold namesS
    rw [namesA_eq, if_neg hk]
    rw [show (([] : List (List UInt8)), (0 : Int), ()) = ((fun (k : Nat) (a : List (List UInt8)) => (a, (k : Int), ())) 0 []) from rfl]
    rw [loop_fold (fun (k : Nat) (a : List (List UInt8)) => (a, (k : Int), ())) e.kids (fun a k => putAll a (namesS k)) (fun a => .inl (a, ())) (fun k a => StrC cS a ∧ a.length ≤ k * 200) ?h1 ?h2 [] ⟨List.Pairwise.nil, by simp⟩]
    case h1 =>
     intro k hk a ha
     have hmem := List.getElem_mem hk
     have hlk := lev_kid hmem
     have hck := cnt_kids hmem
     have hnl := namesS_len e.kids[k]
     have hk2 : k * 200 ≤ 200 * 200 := Nat.mul_le_mul_right _ (by omega)
     have hm := mergedE_eq (n := n + 1) (by omega) ha.1 (d := namesS e.kids[k]) (by have := ha.2; omega)
     unfold mergedE at hm
     simp only [len_lt, hk, decide_true, br_true, at?_get hk, ob_some_eq, Ex.eta, q52, ih e.kids[k] (by omega) (hx.kid hmem), wrap_succ hk (by omega : e.kids.length ≤ 9223372036854775807), hm]
     refine ⟨trivial, str_putAll _ _ ha.1, ?_⟩
     have := putAll_len (namesS e.kids[k]) a
     have := ha.2
     rw [Nat.add_mul]; omega
    case h2 => intro a _; simp [len, br_false]
    rw [cutM_inl]
    have : ∀ (l : List Ex) (a : List Str), StrC cS a → l.foldl (fun a k => putAll a (namesS k)) a = putAll a (namesAL l) := by
     intro l
     induction l with
     | nil => intro a _; simp [namesAL, putAll]
     | cons x r ihl =>
       intro a ha
       rw [List.foldl_cons, ihl _ (str_putAll _ _ ha), put_names ha, namesAL, putAll_app]
    rw [this _ _ List.Pairwise.nil]
theorem L53 : ∀ (n : Nat) (e : Ex) (l : List Str), e.lev + 2 ≤ n → Fx e → l.length + e.cnt ≤ 1000 → m53 (orcN n) e l = some (putAll l (namesA e), ()) := by
 intro n
 induction n with
 | zero => intro e l h; omega
 | succ n ih =>
   intro e l hl hx hll
   have hkl : e.kids.length < e.cnt := cnt_len
   have hcn : e.cnt = 1 + cntL e.kids := by cases e; simp only [Ex.cnt]
   have hc2 := hx.cnt
   unfold m53
   rw [namesA_eq]
   by_cases hk : e.kind = 1
   ·have e1 : (e.kind == 1) = true := by simpa using hk
    rw [e1, br_true, if_pos hk]
    simp only [q97, L97 (orcN n) (by omega : l.length ≤ 1000000000), ob_some_eq]
    rfl
   ·have e1 : (e.kind == 1) = false := by simpa using hk
    rw [e1, br_false, if_neg hk]
    rw [show (l, (0 : Int), ()) = ((fun (k : Nat) (a : List (List UInt8)) => (a, (k : Int), ())) 0 l) from rfl]
    rw [loop_fold (fun (k : Nat) (a : List (List UInt8)) => (a, (k : Int), ())) e.kids (fun a k => putAll a (namesA k)) (fun a => .inl (a, ())) (fun k a => a.length + cntL (e.kids.drop k) ≤ 1000) ?h1 ?h2 l (by simp; omega)]
    case h1 =>
     intro k hk a ha
     have hmem := List.getElem_mem hk
     have hlk := lev_kid hmem
     have hck := cnt_kids hmem
     rw [List.drop_eq_getElem_cons hk] at ha
     simp only [cntL] at ha
     have h5 := putAll_len (namesA e.kids[k]) a
     have h6 := namesA_len e.kids[k]
     simp only [len_lt, hk, decide_true, br_true, at?_get hk, ob_some_eq, q53, ih e.kids[k] a (by omega) (hx.kid hmem) (by omega), wrap_succ hk (by omega : e.kids.length ≤ 9223372036854775807)]
     exact ⟨trivial, by omega⟩
    case h2 => intro a _; simp [len, br_false]
    rw [cutM_inl]
    have : ∀ (l : List Ex) (a : List Str), l.foldl (fun a k => putAll a (namesA k)) a = putAll a (namesAL l) := by
     intro l
     induction l with
     | nil => intro a; simp [namesAL, putAll]
     | cons x r ihl => intro a; rw [List.foldl_cons, ihl, namesAL, putAll_app]
    rw [this]
theorem L16 {n : Nat} {e : Ex} (hs : Small e) (hn : 222 ≤ n) (hl : e.lev + 10 ≤ n) : m16 (orcN n) e = some (namesF e) := by
 obtain ⟨m, rfl⟩ : ∃ m, n = m + 1 := ⟨n - 1, by omega⟩
 have h18 := L18 m e (by omega) hs
 unfold m16 namesF
 by_cases hc : chk e = 0
 ·have hx := Fx.of hc
  have e1 : (chk e != 0) = false := by simp [hc]
  have hl2 := hx.lev
  rw [if_neg (by simp [hc])]
  simp only [Ex.eta, q18, h18, ob_some_eq, e1, br_false, q52, L52 m e (by omega) hx]
 ·have e1 : (chk e != 0) = true := by simpa using hc
  rw [if_pos hc]
  simp only [Ex.eta, q18, h18, ob_some_eq, e1, br_true]
theorem L17 {n : Nat} {e : Ex} (hs : Small e) (hb : e.lev ≤ 100000000) (hn : 222 ≤ n) (hl : e.lev + 10 ≤ n) : m17 (orcN n) e = some (namesF e) := by
 obtain ⟨m, rfl⟩ : ∃ m, n = m + 1 := ⟨n - 1, by omega⟩
 have h19 := L19 m e (by omega) hb hs
 unfold m17 namesF
 by_cases hc : chk e = 0
 ·have hx := Fx.of hc
  have e1 : (chk e != 0) = false := by simp [hc]
  have hl2 := hx.lev
  have hc2 := hx.cnt
  rw [if_neg (by simp [hc])]
  simp only [Ex.eta, q19, h19, ob_some_eq, e1, br_false]
  exact congrArg (fun z => ob (α := List Str × Unit) z fun r2 => some (r2.1, 0, ())) ((q53 m e []).trans (L53 m e [] (by omega) hx (by simp; omega)))
 ·have e1 : (chk e != 0) = true := by simpa using hc
  rw [if_pos hc]
  simp only [Ex.eta, q19, h19, ob_some_eq, e1, br_true]
theorem L3 {n : Nat} {x : Ex} (hs : Small x) (hb : x.lev ≤ 100000000) (hn : x.lev + 300 ≤ n) : m3 (orcN n) x = some (true, ()) := by
 obtain ⟨m, rfl⟩ : ∃ m, n = m + 1 := ⟨n - 1, by omega⟩
 unfold m3
 simp only [Ex.eta]
 rw [G12 hs (by omega) (by omega), q13, L13 hs hb (by omega) (by omega), q14, L14 hs (by omega) (by omega), q15, L15 hs hb (by omega) (by omega), q16, L16 hs (by omega) (by omega), q17, L17 hs hb (by omega) (by omega), q18, L18 m x (by omega) hs, q19, L19 m x (by omega) hb hs]
 have hsim : Small (simpleS x).1 ∧ (simpleS x).1.lev ≤ 30 := by
  unfold simpleS
  by_cases hc : chk x = 0
  ·rw [if_neg (by simp [hc])]
   exact ⟨(Fx.of hc).simp.small, (Fx.of hc).simp.lev⟩
  ·rw [if_pos hc]
   refine ⟨by simp [Small, SmallL], by simp only [Ex.lev, levL]; omega⟩
 have hnm : (namesF x).1.length ≤ 1000000 := by
  unfold namesF
  by_cases hc : chk x = 0
  ·rw [if_neg (by simp [hc])]
   have := namesS_len x
   have := (Fx.of hc).cnt
   show (namesS x).length ≤ _
   omega
  ·rw [if_pos hc]; simp
 simp only [ob_some_eq, beq_self_eq_true, br_true]
 rw [G20 (n := m + 1) (by have := hsim.2; omega) hsim.1]
 simp only [ob_some_eq, br_true, q21, L21 (orcN m) hnm, G22 (by omega : 231 ≤ m + 1)]
end Pe.Tryz
end
