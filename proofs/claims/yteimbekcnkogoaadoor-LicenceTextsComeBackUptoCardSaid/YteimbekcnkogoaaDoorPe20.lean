/- A seat's tables, row by row. -/
import Derived.Test.YteimbekcnkogoaaDoorPe19
namespace Pe
open Go Go.RowKit
variable {S : Nat → Type} {P : Program} {un : Uni S}

def Tr.All {α : Type} (p : Nat → α → Prop) : Tr α → Prop
  | .leaf => True
  | .node l k v r => l.All p ∧ p k v ∧ r.All p
theorem Tr.all_get {α : Type} {p : Nat → α → Prop} : ∀ {T : Tr α}, T.All p → ∀ i v, T.get i = some v → p i v
  | .leaf, _, _, _, h => by cases h
  | .node l k u r, ha, i, v, h => by
    obtain ⟨h1, h2, h3⟩ := ha
    unfold Tr.get at h
    cases hb : Nat.beq i k with
    | true => rw [hb] at h; cases h; rw [Nat.eq_of_beq_eq_true hb]; exact h2
    | false =>
      rw [hb] at h
      cases hc : Nat.blt i k with
      | true => rw [hc] at h; exact Tr.all_get h1 i v h
      | false => rw [hc] at h; exact Tr.all_get h3 i v h

def nst : U → Bool
  | .st _ => false
  | _ => true
theorem flat_of (h : ∀ n, (un.codes n).all nst = true) : Flat un := fun n u hu => by
  have := List.all_eq_true.1 (h n) u hu
  cases u <;> first | (cases this; done) | exact ⟨rfl, fun m hm => by cases hm⟩

def Enters (P : Program) (f : FuncId) : Prop := ∀ args w, (callFunc f args).run P w = .ok (.enter f args) w
theorem enters_of {f : FuncId} {fn : Func} (h : P.funcs[f]? = some fn) (hn : (fn.name == "runtime.NumGoroutine") = false) (hb : fn.body.isNone = false) : Enters P f := fun args w => by
  have hn' : ¬ fn.name = "runtime.NumGoroutine" := by simpa using hn
  have hb' : ¬ fn.body = none := by intro hc; rw [hc] at hb; simp at hb
  simp [callFunc, program, Sem.run, h, hn', hb']

def SigOk (P : Program) (f : FuncId) : Sig → Prop
  | .data _ _ => Enters P f
  | .inl fn _ _ => P.funcs[f]? = some fn ∧ Enters P f
  | .eff _ _ _ _ _ _ => Enters P f
  | .effI fn _ _ _ _ _ _ => P.funcs[f]? = some fn ∧ Enters P f
theorem tbOk_of {tb : Tb S} (h1 : tb.ty.All (RowOk P un)) (h2 : tb.sig.All (SigOk P)) : TbOk P un tb :=
  ⟨fun t r h => Tr.all_get h1 t r h, fun f _ _ h => Tr.all_get h2 f _ h, fun f _ _ _ _ _ _ h => Tr.all_get h2 f _ h, fun f _ _ _ _ _ _ _ h => Tr.all_get h2 f _ h, fun f _ _ _ h => Tr.all_get h2 f _ h⟩
end Pe
