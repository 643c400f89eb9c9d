/- PROVED HERE: a part of the seat's proofs; see the text that holds the claim's theorem. -/
import Derived.Test.YtojfjgjdheiffaaGreatDoorNm
import Derived.Test.YtojfjgjdheiffaaGreatDoorBoF
section
/- Refs of numbers, numbers of Refs. -/
set_option maxRecDepth 100000
namespace Pe
open Bfs Go
namespace Tryz
theorem zsm{x:Int}{n:Nat}(h:x=(n:Int))(hn:n<=4000000000):Go.IntKind.i64.wrap x=(n:Int):=by subst h;exact zaH (by omega) (by omega)
theorem midI{i j:Nat}(h:i+j<=4000000000):Go.IntKind.i64.wrap (zp9 .u64 (Go.IntKind.u64.wrap (Go.IntKind.i64.wrap ((i:Int)+(j:Int)))) 1)=(((i+j) / 2:Nat):Int):=by
 rw[show Go.IntKind.i64.wrap ((i:Int)+(j:Int))=((i+j:Nat):Int) from zsm (by omega) h];have e1:Go.IntKind.u64.wrap (((i+j:Nat):Int))=((i+j:Nat):Int):=by unfold Go.IntKind.wrap;simp[Go.IntKind.bits,Go.IntKind.signed];omega
 rw[e1];unfold zp9;have e2:(2:Int) ^ (min (1:Int).toNat Go.IntKind.u64.bits)=2:=by decide
 rw[e2];exact zsm (by rw[Int.fdiv_eq_ediv_of_nonneg _ (by decide)];omega) (by omega)
end Tryz
end Pe
end
