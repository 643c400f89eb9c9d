/- PROVED HERE: a part of the seat's proofs; see the text that holds the claim's theorem. -/
import Derived.Test.YteimbekcnkogoaaGreatDoorNm
import Derived.Test.YteimbekcnkogoaaGreatDoorLizC
section
/- The third law in plain: Together of both sides. -/
set_option maxRecDepth 100000
namespace LicSpec
end LicSpec
namespace Pe.Tryz
open Go Go.Proofs Pe LicSpec
end Pe.Tryz
end
section
/- What is printed is read back. -/
set_option maxRecDepth 100000
namespace LicSpec
open Go
def Nx (S:Str) (q:RS) (u:Str):Prop:=q.no=0∧S.drop (zat S q).at_=u
theorem Nx.zero {S:Str} {q:RS} {u:Str} (h:Nx S q u):skipB u=0:=by
 rw [←h.2];exact zfb _ _
theorem Nx.blanks {S:Str} {q:RS} {u:Str} (h:Nx S q u):Nx S (zat S q) u∧zat S (zat S q)=zat S q∧(zat S q).no=0:=by
 have e:zat S (zat S q)=zat S q:=zqd (by rw [h.2];exact h.zero)
 exact ⟨⟨h.1,by rw [e];exact h.2⟩,e,h.1⟩
end LicSpec
end
section
/- The second law in plain: texts come back. -/
set_option maxRecDepth 100000
namespace LicSpec
end LicSpec
namespace Pe.Tryz
open Go Go.Proofs Pe LicSpec
end Pe.Tryz
end
