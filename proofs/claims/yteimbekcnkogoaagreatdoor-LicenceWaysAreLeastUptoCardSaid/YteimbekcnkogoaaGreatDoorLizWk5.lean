/- The laws of BothAndEither and WeakerIsKept in plain. -/
import Derived.Test.YteimbekcnkogoaaGreatDoorLizH
import Derived.Test.YteimbekcnkogoaaGreatDoorLizJ
set_option maxRecDepth 100000
namespace Pe.Tryz
open Go Go.Proofs Pe LicSpec
theorem wOf_ok {c:Cat} {e:Ex} (h:(wOf c e).2.1=0):∃W,catF c=0∧chk e=0∧unkS c e=[]∧waysS c e=some W∧(wOf c e).1=W:=by
 unfold wOf at h ⊢
 cases h1:catF c != 0 with
 | true=>rw [h1] at h;have h:catF c=0:=h;rw [h] at h1;cases h1
 | false =>
   rw [h1] at h
   simp only [cond_false] at h ⊢
   cases h2:chk e != 0 with
   | true=>rw [h2] at h;have h:chk e=0:=h;rw [h] at h2;cases h2
   | false =>
     rw [h2] at h
     simp only [cond_false] at h ⊢
     by_cases hu:unkS c e=[]
     ·rw [if_neg (by simp [hu])] at h ⊢
      cases hw:waysS c e with
      | none=>rw [hw] at h;cases h
      | some W=>exact ⟨W,bne_false_eq h1,bne_false_eq h2,hu,rfl,rfl⟩
     ·rw [if_pos hu] at h;cases h
theorem permF_of {c:Cat} {e:Ex} {l:Way} (h:(wOf c e).2.1=0) (hu:usesF c l=0):permF c e l=(perm (wOf c e).1 l,0,()):=by
 unfold permF;rw [h,hu];rfl
end Pe.Tryz
