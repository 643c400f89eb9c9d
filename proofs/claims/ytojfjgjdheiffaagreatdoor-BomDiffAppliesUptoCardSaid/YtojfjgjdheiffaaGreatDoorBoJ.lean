/- PROVED HERE: a part of the seat's proofs; see the text that holds the claim's theorem. -/
import Derived.Test.YtojfjgjdheiffaaGreatDoorNm
import Derived.Test.YtojfjgjdheiffaaGreatDoorBoG
section
/- Find of both sides, and the law of needs. -/
set_option maxRecDepth 100000
namespace Pe.Tryz
open Go Go.Proofs Pe Pe.Bfs
theorem q111(n:Nat)(l:List Gt.Pair): @Eq (Option (List Gt.Pair×Unit)) ((zah (n+1)).d 111 [.sl (.st 10) l] [(.sl (.st 10))]) (bif Nat.ble l.length 1000000000 then some (l,()) else none):=by kernel_rfl
theorem q112(n:Nat)(l:List Gt.Digest): @Eq (Option (List Gt.Digest×Unit)) ((zah (n+1)).d 112 [.sl (.st 6) l] [(.sl (.st 6))]) (bif Nat.ble l.length 1000000000 then some (l,()) else none):=by kernel_rfl
theorem q113(n:Nat)(l:List (List UInt8)): @Eq (Option (List (List UInt8)×Unit)) ((zah (n+1)).d 113 [.sl .str l] [(.sl .str)]) (bif Nat.ble l.length 1000000000 then some (l,()) else none):=by kernel_rfl
structure SmL (c:Gt.Component):Prop where
 quals:c.purl.qualifiers.length<=1000000000
 digs:c.digests.length<=1000000000
 files:c.files.length<=1000000000
theorem L68(n:Nat){c:Gt.Component}(hc:SmL c): @Eq (Option (Gt.Component×Unit)) ((zah (n+2)).d 68 [.st 5 c] [(.st 5)]) (some (c,())):=by
 have ble:∀{k:Nat},k<=1000000000->Nat.ble k 1000000000=true:=λh=>by rw[yAK];exact h
 refine (q68 (n+1) c).trans ?_;unfold m68;rw[q111,ble hc.quals,cond_true,zaa,q112,ble hc.digs,cond_true,zaa,q113,ble hc.files,cond_true,zaa]
theorem zty{R:Type}{f:Int×Unit->Option ((Int×Unit)⊕R)}{n:Nat}(fin:R)(h:∀k,k<n->f ((k:Int),())=some (.inl (((k+1:Nat):Int),())))(he:f ((n:Int),())=some (.inr fin)):zak f ((0:Int),())=some fin:=by
 refine zby (A:=Unit) (λk _=>((k:Int),())) n (λ_ _=>fin) (λ_ _=>True) (λk _ hk _=>?_) 0 () (yAA _) trivial;rcases yAT k n with h1|h1;·exact .inl ⟨(),h1,h k h1,trivial,rfl⟩
 ·have:k=n:=by omega
  subst this;exact .inr he
theorem m69_same(o:Orc Sx){l:List (List UInt8)}(hl:l.length<=1000000000):m69 o l l=some (true,()):=by
 unfold m69;rw[show (len l != len l)=false from by simp,zab];rw[zty (n:=l.length) (.inl ():Unit⊕(Bool×Unit)) (λk hk=>?_) ?_];·rfl
 ·dsimp only;rw[show decide ((l.length:Int)<len l)=false from by simp[len],zab]
 ·dsimp only;rw[show decide ((k:Int)<len l)=true from by simp[len];exact hk,zac,zan hk,zaa,zaa,show (l[k] != l[k])=false from by simp,zab,zaf hk (by omega)]
theorem m70_same(o:Orc Sx){p:Gt.Purl}(hl:p.qualifiers.length<=1000000000):m70 o p p=some (true,()):=by
 have ne:∀l:List UInt8,(l != l)=false:=λl=>by simp
 unfold m70;simp only[ne,zab,zaa,show (len p.qualifiers != len p.qualifiers)=false from by simp];rw[zty (n:=p.qualifiers.length) (.inl ():Unit⊕(Bool×Unit)) (λk hk=>?_) ?_];·rfl
 ·dsimp only;rw[show decide ((p.qualifiers.length:Int)<len p.qualifiers)=false from by simp[len],zab]
 ·dsimp only;rw[show decide ((k:Int)<len p.qualifiers)=true from by simp[len];exact hk,zac,zan hk,zaa,zaa,zaf hk (by omega)];simp only[beq_self_eq_true,Bool.and_self,yBS,zab]
theorem L26(n:Nat){c:Gt.Component}(hc:SmL c): @Eq (Option (Bool×Unit)) ((zah (n+2)).d 26 [.st 5 c,.st 5 c] [.bool]) (some (true,())):=by
 have ne:∀l:List UInt8,(l != l)=false:=λl=>by simp
 refine (q26 (n+1) c c).trans ?_;unfold m26
 rw[show @Eq (Option (Bool×Unit)) ((zah (n+1)).d 69 [.sl .str c.files,.sl .str c.files] [.bool]) (some (true,())) from (q69 n _ _).trans (m69_same _ hc.files),
  show @Eq (Option (Bool×Unit)) ((zah (n+1)).d 70 [.st 11 c.purl,.st 11 c.purl] [.bool]) (some (true,())) from (q70 n _ _).trans (m70_same _ hc.quals)]
 simp only[ne,zab,zaa,yBS,show (len c.digests != len c.digests)=false from by simp];rw[zty (n:=c.digests.length) (.inl ():Unit⊕(Bool×Unit)) (λk hk=>?_) ?_];·rfl
 ·dsimp only;rw[show decide ((c.digests.length:Int)<len c.digests)=false from by simp[len],zab]
 ·dsimp only;rw[show decide ((k:Int)<len c.digests)=true from by simp[len];exact hk,zac,zan hk,zaa,zaa,zaf hk (by have:=hc.digs;omega)];simp only[beq_self_eq_true,Bool.and_self,yBS,zab]
end Pe.Tryz
end
