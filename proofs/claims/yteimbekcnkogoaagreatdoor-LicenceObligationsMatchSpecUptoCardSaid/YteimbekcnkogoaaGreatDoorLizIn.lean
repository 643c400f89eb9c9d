/- What is handed in to the laws of licences: which types are read as which codes; expressions of bounded bulk are small. -/
import Derived.Test.YteimbekcnkogoaaGreatDoorLizCard
import Derived.Test.YteimbekcnkogoaaGreatDoorLizE
import Derived.Test.YteimbekcnkogoaaGreatDoorPeE
set_option maxRecDepth 100000
namespace Go.Proofs.YteimbekcnkogoaaGreatDoor
open Go Go.RowKit Go.WideShapes Go.ChangeShapes Go.ChangeAt Pe Pe.Tryz

open LicSpec
/-- Which types are read as which codes. -/
def M : U → TypeId → Prop := fun u t => (u = .int .i64 ∧ (t = 3 ∨ t = 3)) ∨ (u = .str ∧ t = 9) ∨ (u = .bool ∧ t = 4) ∨ (u = .st 4 ∧ t = 24) ∨ (u = .sl (.st 4) ∧ t = 22)
theorem mInt : M (.int .i64) 3 := .inl ⟨rfl, .inl rfl⟩
theorem mStr : M .str 9 := .inr (.inl ⟨rfl, rfl⟩)
theorem mBool : M .bool 4 := .inr (.inr (.inl ⟨rfl, rfl⟩))
theorem mEx : M (.st 4) 24 := .inr (.inr (.inr (.inl ⟨rfl, rfl⟩)))
theorem mExs : M (.sl (.st 4)) 22 := .inr (.inr (.inr (.inr ⟨rfl, rfl⟩)))
theorem stepM : ∀ u t, M u t → Step Tryz.prog un M u t := by
 intro u t h
 rcases h with ⟨rfl, rfl | rfl⟩ | ⟨rfl, rfl⟩ | ⟨rfl, rfl⟩ | ⟨rfl, rfl⟩ | ⟨rfl, rfl⟩
 ·exact (by kernel_rfl : Tryz.prog.underlying 3 = some (.int .i64))
 ·exact (by kernel_rfl : Tryz.prog.underlying 3 = some (.int .i64))
 ·exact u9
 ·exact u4
 ·exact ⟨by kernel_rfl, .inl ⟨_, Tryz.underlying24, ⟨by kernel_rfl, by kernel_rfl, mInt, by kernel_rfl, by kernel_rfl, mStr, by kernel_rfl, by kernel_rfl, mBool, by kernel_rfl, by kernel_rfl, mStr, by kernel_rfl, by kernel_rfl, mExs, trivial⟩⟩⟩
 ·exact ⟨24, Tryz.underlying22, by kernel_rfl, by decide, mEx⟩
theorem laidOut : laidOutB Tryz.prog = true := by kernel_rfl

/-- What a list's bulk says of its length. -/
theorem bulk_mem {H : Type} : ∀ {l : List (DataW H)} {i : Nat} {d : DataW H}, l[i]? = some d → Rows.uptoBulk d ≤ Rows.uptoBulkAll l
 | [], i, d, h => by simp at h
 | x :: r, 0, d, h => by simp at h; subst h; simp only [Rows.uptoBulkAll]; omega
 | x :: r, i + 1, d, h => by
   have := bulk_mem (l := r) (i := i) (d := d) (by simpa using h)
   simp only [Rows.uptoBulkAll]; omega
theorem bulk_pos {H : Type} (d : DataW H) : 1 ≤ Rows.uptoBulk d := by
 cases d with
 | lit l => cases l <;> simp [Rows.uptoBulk]
 | _ => simp [Rows.uptoBulk]
theorem bulk_len {H : Type} : ∀ (l : List (DataW H)), l.length ≤ Rows.uptoBulkAll l
 | [] => by simp
 | x :: r => by have := bulk_len r; have := bulk_pos x; simp only [Rows.uptoBulkAll, List.length_cons]; omega

end Go.Proofs.YteimbekcnkogoaaGreatDoor
