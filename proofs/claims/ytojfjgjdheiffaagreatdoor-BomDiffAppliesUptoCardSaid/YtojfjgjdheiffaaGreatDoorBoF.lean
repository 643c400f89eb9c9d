/- PROVED HERE: a part of the seat's proofs; see the text that holds the claim's theorem. -/
import Derived.Test.YtojfjgjdheiffaaGreatDoorNm
import Derived.Sort.Walk0
import Derived.Test.YtojfjgjdheiffaaGreatDoorPeE
import Derived.Test.YtojfjgjdheiffaaGreatDoorBoD
section
/- slices.Concat of two as it is read; what is sorted and zaG repeats; the order of texts: over no program. -/
set_option linter.unusedVariables false
namespace Pe
open Go
structure OrdAll {α:Type} (c:α->α->Int):Prop where
 irr:∀x,¬c x x<0
 trans:∀x y z,c x y<0->c y z<0->c x z<0
 eq:∀x y,¬c x y<0->¬c y x<0->x=y
theorem zgX(a b:List UInt8):Op.bytesLess a b=decide (a<b):=Go.Proofs.bytesLess_eq a b
def cS(x y:List UInt8):Int:=if x<y then -1 else if y<x then 1 else 0
theorem zc4(x y:List UInt8):cS x y<0↔x<y:=by
 unfold cS;by_cases h1:x<y;·simp[h1]
 ·by_cases h2:y<x<;>simp[h1,h2]
theorem zly:OrdAll cS:=⟨λx=>by rw[zc4];exact yBn x,λx y z=>by simp only[zc4];exact yCa,λx y h1 h2=>by rw[zc4] at h1 h2;exact List.le_antisymm (List.not_lt.1 h2) (List.not_lt.1 h1)⟩
end Pe
end
section
/- bom's searches through a graph. -/
set_option maxRecDepth 100000
namespace Pe.Bfs
end Pe.Bfs
namespace Pe
open Bfs
theorem zle{α:Type}{l:List α}{k:Nat}(h:k<l.length):zcX l (k:Int)=some k:=by show (bif Nat.blt k l.length then some k else none)=some k;rw[show Nat.blt k l.length=true from by simpa[yAN] using h];rfl
namespace Bfs
variable{N:List (List Nat)}{from_:Nat}{wo:Int}
end Bfs
namespace Tryz
variable{N:List (List Nat)}{from_:Nat}{wo:Int}
end Tryz
end Pe
end
section
/- The program's graph of a right bill. -/
set_option maxRecDepth 100000
namespace Pe
open Bfs Go
namespace Tryz
def cR(b:Gt.Bill)(k:Nat):List UInt8:=(b.components[k]?.map (·.ref)).getD []
def eF(b:Gt.Bill)(k:Nat):List UInt8:=(b.edges[k]?.map (·.from_)).getD []
def eT(b:Gt.Bill)(k:Nat):List UInt8:=(b.edges[k]?.map (·.to)).getD []
def eS(b:Gt.Bill)(k:Nat):Int:=(b.edges[k]?.map (·.scope)).getD 0
def zbm(b:Gt.Bill)(r:List UInt8):Prop:=∃k,k<b.components.length/\cR b k=r
structure Right (b:Gt.Bill):Prop where
 n:b.components.length<=3000
 m:b.edges.length<=20000
 refs:∀i j,i<j->j<b.components.length->cR b i<cR b j
 root:zbm b b.root
 ends : ∀ k, k < b.edges.length -> zbm b (eF b k) /\ zbm b (eT b k) /\ eF b k ≠ eT b k
 scope:∀k,k<b.edges.length->1<=eS b k/\eS b k<=4
 order:∀i j,i<j->j<b.edges.length->eF b i<eF b j\/(eF b i=eF b j/\(eT b i<eT b j\/(eT b i=eT b j/\eS b i<eS b j)))
theorem zcU{b:Gt.Bill}{k:Nat}(h:k<b.components.length):cR b k=b.components[k].ref:=by unfold cR;rw[yAe h];rfl
theorem zfY{b:Gt.Bill}{k:Nat}(h:k<b.edges.length):eF b k=b.edges[k].from_:=by unfold eF;rw[yAe h];rfl
theorem zfX{b:Gt.Bill}{k:Nat}(h:k<b.edges.length):eT b k=b.edges[k].to:=by unfold eT;rw[yAe h];rfl
theorem zgV{b:Gt.Bill}{k:Nat}(h:k<b.edges.length):eS b k=b.edges[k].scope:=by unfold eS;rw[yAe h];rfl
section
variable{b:Gt.Bill}(hb:Right b)
include hb
end
theorem zeG(x y:El Sx .str):keq un .str x y=true↔x=y:=by show (@BEq.beq (List UInt8) _ x y)=true↔_;exact beq_iff_eq
end Tryz
end Pe
end
