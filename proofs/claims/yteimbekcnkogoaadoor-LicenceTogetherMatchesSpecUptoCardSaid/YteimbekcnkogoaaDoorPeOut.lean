/- From a pure model's answer to a row's contract: a law of plain data that answers true. -/
import Derived.Test.YteimbekcnkogoaaDoorPeIn
import Derived.WideShapes
import Derived.WideKeyArgs
import Derived.ChangeSame
import Derived.RowKit
import Derived.OpenShut
namespace Pe
open Go Go.RowKit Go.WideShapes Go.ChangeShapes
variable {S : Nat → Type} {P : Program} {un : Uni S}

section
variable {H : Type} {enc : TypeId × Value → H}
theorem post_below {f : Func} {s : ChangeSpec} {apart fresh handsOn again : Bool} {W W' : World} {args : Array Value} {v : Value} {ds gs : List (DataW H)} {before pa pv : List MemPlace}
    (hW : DataW.Whole enc P f.params.toList s.vars apart W args.toList ds gs before)
    (hres : ∀ (b : Nat) (sp : Nat → Bool) (hd : Bool), DataW.TrodAll enc P W' b sp hd f.resultTypes.toList (v.resultList f.resultTypes.size) (s.fn H (ds ++ gs)).results [])
    (hargs : ∀ sp : Nat → Bool, (∀ p ∈ before, sp p.block = true) → DataW.TrodAll enc P W' 0 sp true f.params.toList args.toList (s.fn H (ds ++ gs)).args pa)
    (hvars : ∀ sp : Nat → Bool, (∀ p ∈ before, sp p.block = true) → DataW.TrodVars enc P W' sp s.vars (s.fn H (ds ++ gs)).vars pv)
    (hps : before = pa ++ pv) (hb : Below W.heap.size W W')
    (hok : ∀ (j : Nat) (t : TypeId) (r : Value), f.resultTypes[j]? = some t → (v.resultList f.resultTypes.size)[j]? = some r → Value.okWide P W' .any 0 t r) :
    s.post enc P f apart fresh handsOn again W args v W' := by
  have hlt : ∀ p ∈ before, p.block < W.heap.size := fun p hp => hW.lt p hp
  have hold : ∀ p ∈ before, (fun b => decide (b < W.heap.size)) p.block = true := fun p hp => by simpa using hlt p hp
  refine ⟨ds, gs, before, [], pa, pv, hW, hres _ _ _, hargs _ hold, hvars _ hold, World.keptBut_mono (fun p hp => ⟨hp, ?_⟩) (hb.frame (· ∈ before)), fun _ => ?_⟩
  · rw [hps, List.mem_append] at hp
    exact Or.inr hp
  · obtain ⟨_, _, _, _, _, hz, hn⟩ := hW
    refine ⟨hok, _, _, ([] ++ pa) ++ pv, ⟨[] ++ pa, pv, trodAll_append (hargs _ (fun _ _ => rfl)) (hres _ _ _), hvars _ (fun _ _ => rfl), rfl, ?_, ?_⟩, ?_⟩
    · intro b off hp
      have hin : MemPlace.cell b off ∈ before := by rw [hps]; simpa using hp
      rw [hb.frozen (hlt _ hin)]
      exact hz b off hin
    · intro ha
      have := hn ha
      rw [hps] at this
      simpa using this
    · intro p hp _
      rw [hps]
      simpa using hp

/-- The parameters' types and codes. -/
def ParOk (P : Program) (M : U → TypeId → Prop) : List U → List TypeId → Prop
  | [], [] => True
  | u :: us, t :: ts => M u t ∧ (∀ n, u = .st n → ∃ fs, P.underlying t = some (.struct fs)) ∧ P.readableRec t = true ∧ t < P.types.size ∧ ParOk P M us ts
  | _, _ => False

theorem rep_of {M : U → TypeId → Prop} (hM : ∀ u t, M u t → Step P un M u t) {u : U} {t : TypeId} (hm : M u t) (hst : ∀ n, u = .st n → ∃ fs, P.underlying t = some (.struct fs)) {w : World} {r : Reach} {b : Nat} {v : Value} (hv : Value.okWide P w r b t v)
    {D : Dat} {y : El S u} (h : DR un D w [u] (sg y) v.cells.toList) : Rep un [] D w (inj u y) v := by
  have hs := hM u t hm
  cases u with
  | int k =>
    obtain ⟨n, rfl⟩ := okWide_int hs hv
    have h' : DR un D w [.int k] (sg y) [.int k n] := h
    cases h' with
    | int h2 => rfl
  | bool =>
    obtain ⟨n, rfl⟩ := okWide_bool hs hv
    have h' : DR un D w [.bool] (sg y) [.bool n] := h
    cases h' with
    | bool h2 => rfl
  | str =>
    obtain ⟨n, rfl⟩ := okWide_string hs hv
    have h' : DR un D w [.str] (sg y) [.string n] := h
    generalize hx : Value.string n = x at h' ⊢
    cases h' with
    | str h2 => rfl
  | sl u =>
    obtain ⟨e, he, _⟩ := hs
    obtain ⟨a, l, c, rfl⟩ := okWide_slice he hv
    exact h
  | st n =>
    obtain ⟨fs, hfs⟩ := hst n rfl
    obtain ⟨cs, rfl, _⟩ := okWide_struct hfs hv
    exact ⟨cs.toList, rfl, h⟩

theorem rep_all {M : U → TypeId → Prop} (hun : ∀ n t, un.get n (un.put n t) = t) (hM : ∀ u t, M u t → Step P un M u t) {w : World} {r : Reach} {base b : Nat} {spare : Nat → Bool} {held : Bool} :
    ∀ {us : List U} {ts : List TypeId} {vs : List Value} {ds : List (DataW H)} {ps : List MemPlace}, ParOk P M us ts → (∀ (j : Nat) t v, ts[j]? = some t → vs[j]? = some v → Value.okWide P w r b t v) →
      DataW.TrodAll enc P w base spare held ts vs ds ps → ∃ y : ElL S us, RepL un [] (allD w) w (injL us y) vs ∧ Rd un us y ds
  | [], [], [], [], _, _, _, _ => ⟨(), trivial, .nil⟩
  | u :: us, t :: ts, v :: vs, d :: ds, ps, hp, hv, ⟨p, q, h1, h2, _⟩ => by
    obtain ⟨m1, m2, _, _, m3⟩ := hp
    obtain ⟨fuel, h1⟩ := h1
    obtain ⟨y, y1, y2⟩ := in_data hun hM fuel u t _ _ h1 m1
    obtain ⟨z, z1, z2⟩ := rep_all hun hM (us := us) m3 (fun j t v ht hvj => hv (j + 1) t v (by simpa using ht) (by simpa using hvj)) h2
    exact ⟨two y z, ⟨rep_of hM m1 m2 (hv 0 t v rfl rfl) y1, z1⟩, Rd.one_cons y2 z2⟩

theorem trod_again (hl : laidOutB P = true) {M : U → TypeId → Prop} {W W' : World} (hb : Below W.heap.size W W') {sp : Nat → Bool} :
    ∀ {us : List U} {ts : List TypeId} {vs : List Value} {ds : List (DataW H)} {ps : List MemPlace}, ParOk P M us ts → DataW.TrodAll enc P W 0 (fun _ => true) true ts vs ds ps → (∀ p ∈ ps, p.block < W.heap.size ∧ sp p.block = true) →
      DataW.TrodAll enc P W' 0 sp true ts vs ds ps
  | [], [], [], [], _, _, h, _ => h
  | u :: us, t :: ts, v :: vs, d :: ds, ps, hp, ⟨p, q, h1, h2, e⟩, hs => by
    obtain ⟨_, _, m1, m2, m3⟩ := hp
    subst e
    exact ⟨p, q, WideElems.Trod_stays hl m1 m2 h1 (fun x hx => hb.same (hs x (List.mem_append_left _ hx)).1) (fun x hx => (hs x (List.mem_append_left _ hx)).2),
      trod_again hl hb m3 h2 (fun x hx => hs x (List.mem_append_right _ hx)), rfl⟩

/-- THE CONTRACT of a law: where the pure model answers true, the row holds. -/
theorem law_contract {M : U → TypeId → Prop} (hun : ∀ n t, un.get n (un.put n t) = t) (hM : ∀ u t, M u t → Step P un M u t) (hlo : laidOutB P = true) {f : FuncId} {fn : Func} {tb : TypeId} (hb : P.underlying tb = some .bool)
    (hrt : fn.resultTypes = #[tb]) {us : List U} (hps : ParOk P M us fn.params.toList) {s : ChangeSpec} (hv : s.vars = [])
    (hsp : ∀ ds : List (DataW H), ds.length = us.length → s.fn H ds = { results := [.lit (.bool true)], args := ds })
    (W : World) (base : Nat) (args : Array Value) (ds gs : List (DataW H)) (before : List MemPlace)
    (hval : ∀ (j : Nat) t v, fn.params[j]? = some t → args[j]? = some v → Value.okWide P W .any base t v)
    (hW : DataW.Whole enc P fn.params.toList s.vars false W args.toList ds gs before)
    (hlaw : ∀ y : ElL S us, Rd un us y ds → Sat P un f (injL us y) [.bool] (true, ())) :
    Calls P f args W fun e W' => ∃ v, e = .returned v ∧ s.post enc P fn false true false false W args v W' := by
  have hW' := hW
  obtain ⟨p, q, hA0, hV, rfl, hfz, hnd⟩ := hW
  have hA : DataW.TrodAll enc P W 0 (fun _ => true) true fn.params.toList args.toList ds p := hA0
  obtain ⟨y, y1, y2⟩ := rep_all hun hM hps (fun j t v ht hvj => hval j t v (by simpa using ht) (by simpa using hvj)) hA
  have hlen : ds.length = us.length := by
    clear hA0 hW' hV hlaw hval hfz hnd
    have : ∀ {us : List U} {y : ElL S us} {ds : List (DataW H)}, Rd un us y ds → ds.length = us.length := by
      intro us y ds h
      induction h <;> simp_all
    exact this y2
  rw [hv] at hV
  have hgs : gs = [] ∧ q = [] := by
    match gs, hV with
    | [], h => exact ⟨rfl, h⟩
  obtain ⟨rfl, rfl⟩ := hgs
  have hlt : ∀ x ∈ p ++ [], x.block < W.heap.size := fun x hx => hW'.lt x hx
  refine (hlaw y y2 (allD W) W args.toList (fun k o h => h) y1).mono fun e W' ⟨v, h1, h2, h3⟩ => ?_
  have h3' : v = .bool true := h3
  subst h1
  subst h3'
  have hfn : s.fn H (ds ++ []) = { results := [.lit (.bool true)], args := ds } := by rw [List.append_nil]; exact hsp ds hlen
  refine ⟨_, rfl, post_below (pa := p) (pv := []) hW' (fun b sp hd => ?_) (fun sp hs => ?_) (fun sp _ => ?_) rfl h2 (ok_one hrt rfl (okWide_bool_mk hb _))⟩
  · rw [hfn, hrt]
    exact trodAll_cons_mk (shut_bool hb _) trodAll_mk0
  · rw [hfn]
    exact trod_again hlo h2 hps hA (fun x hx => ⟨hlt x (by simpa using hx), hs x (by simpa using hx)⟩)
  · rw [hfn, hv]; rfl
end
end Pe
