/- PROVED HERE: a part of the seat's proofs; see the text that holds the claim's theorem. -/
import Derived.Test.YtojfjgjdheiffaaGreatDoorNm
import Derived.Test.YtojfjgjdheiffaaGreatDoorBoG
section
/- Needs and NeededBy of both sides. -/
set_option maxRecDepth 100000
namespace Pe.Tryz
open Go Go.Proofs Pe Pe.Bfs
variable{chk:Gt.Bill->Int}{orc:Orc Sx}
theorem m22_eq'{b:Gt.Bill}(K:GrO chk orc b)(r:List UInt8)(scope:Int) :
  (za5 chk b r scope=0->m22 orc b r scope=some (zbd b (row (outs b scope) (num b r)),0,()))/\(za5 chk b r scope≠0->m22 orc b r scope=some ([],za5 chk b r scope,())):=by
 refine ⟨λhe=>?_,λhe=>?_⟩;·obtain ⟨hb,hr⟩:=zjc K he;obtain ⟨w1,w2,w3,w4,w5⟩:=hb.web scope;have ht:=(hb.num_lt hr).1;unfold m22;rw[(K.h56 r scope).1 he,zaa];dsimp only;rw[show ((0:Int) != 0)=false from rfl,zab,show (zc3 b scope).out=za6 (outs b scope) from rfl,zjl (by rw[w3];exact ht),zaa,K.h59 b scope _ hb (λi hi=>by rw[<-w3];exact w1.lt _ i hi) (w1.rows _),zaa]
 ·obtain ⟨g,k,hg⟩:=(K.h56 r scope).2 he;unfold m22;rw[hg,zaa];dsimp only;rw[show (za5 chk b r scope != 0)=true from by simpa using he,zac]
theorem m24_eq'{b:Gt.Bill}(K:GrO chk orc b)(r:List UInt8)(scope:Int) :
  (za5 chk b r scope=0->m24 orc b r scope=some (zbd b (row (zi4 b scope) (num b r)),0,()))/\(za5 chk b r scope≠0->m24 orc b r scope=some ([],za5 chk b r scope,())):=by
 refine ⟨λhe=>?_,λhe=>?_⟩;·obtain ⟨hb,hr⟩:=zjc K he;obtain ⟨w1,w2,w3,w4,w5⟩:=hb.web scope;have ht:=(hb.num_lt hr).1;unfold m24;rw[(K.h56 r scope).1 he,zaa];dsimp only;rw[show ((0:Int) != 0)=false from rfl,zab,show (zc3 b scope).inn=za6 (zi4 b scope) from rfl,zjl (by rw[w4];exact ht),zaa,K.h59 b scope _ hb (λi hi=>by rw[<-w4];exact w2.lt _ i hi) (w2.rows _),zaa]
 ·obtain ⟨g,k,hg⟩:=(K.h56 r scope).2 he;unfold m24;rw[hg,zaa];dsimp only;rw[show (za5 chk b r scope != 0)=true from by simpa using he,zac]
theorem m23_eq'{b:Gt.Bill}(K:GrO chk orc b)(r:List UInt8)(scope:Int) :
  (za5 chk b r scope=0->m23 orc b r scope=some (zbd b (row (outs b scope) (num b r)),0,()))/\(za5 chk b r scope≠0->m23 orc b r scope=some ([],za5 chk b r scope,())):=by
 refine ⟨λhe=>?_,λhe=>?_⟩;·obtain ⟨hb,hr⟩:=zjc K he;obtain ⟨w1,w2,w3,w4,w5⟩:=hb.web scope;have ht:=(hb.num_lt hr).1;unfold m23;rw[K.h63,zaa];dsimp only;rw[he,show ((0:Int) != 0)=false from rfl,zab,K.h60 b scope hb,zaa,K.h62 b r hb,zaa,hb.place hr];dsimp only;rw[show (zpQ b scope).to=za6 (outs b scope) from rfl,zjl (by rw[w3];exact ht),zaa,K.h64 b scope _ hb (λi hi=>by rw[<-w3];exact w1.lt _ i hi) (w1.rows _),zaa]
 ·unfold m23;rw[K.h63,zaa];dsimp only;rw[show (za5 chk b r scope != 0)=true from by simpa using he,zac]
theorem ztq:∀{l r:List Nat},ofN l=ofN r->l=r:=λ{l r} h=>by unfold ofN at h;have:=congrArg (List.map Int.toNat) h;rwa[List.map_map,List.map_map,show (Int.toNat ∘ λx:Nat=>(x:Int))=id from rfl,List.map_id,List.map_id] at this
theorem zto{n:Nat}{l:List Nat}(hl:zpW cI (ofN l))(hn:∀i∈l,i<n):(List.range n).filter (λj=>decide (j∈l))=l:=by
 refine ztq (znA zrf ?_ hl λx=>?_);·unfold zpW ofN;rw[yA6];refine (List.pairwise_lt_range.filter _).imp λ{a b} h=>?_;simp only[cI];omega
 ·unfold ofN;simp only[yBw,yAO,yBa,decide_eq_true_eq];exact ⟨λ⟨k,⟨_,h1⟩,h2⟩=>⟨k,h1,h2⟩,λ⟨k,h1,h2⟩=>⟨k,⟨hn k h1,h1⟩,h2⟩⟩
theorem Right.inns_str{b:Gt.Bill}(hb:Right b)(scope:Int)(a:Nat):zpW cI (ofN (row (zi4 b scope) a)):=by have hE:=hb.edges scope;unfold zi4;rw[(hE.web_row.2.2 a).2];exact (hE.inn_eq a).2.1
theorem m25_eq'{b:Gt.Bill}(K:GrO chk orc b)(r:List UInt8)(scope:Int) :
  (za5 chk b r scope=0->m25 orc b r scope=some (zbd b (row (zi4 b scope) (num b r)),0,()))/\(za5 chk b r scope≠0->m25 orc b r scope=some ([],za5 chk b r scope,())):=by
 refine ⟨λhe=>?_,λhe=>?_⟩
 rotate_left
 ·unfold m25;rw[K.h63,zaa];dsimp only;rw[show (za5 chk b r scope != 0)=true from by simpa using he,zac]
 obtain ⟨hb,hr⟩:=zjc K he;obtain ⟨w1,w2,w3,w4,w5⟩:=hb.web scope;have ht:=(hb.num_lt hr).1;have hn:=hb.n;have hs:=w2.rows (num b r);have hlt:∀i∈row (zi4 b scope) (num b r),i<b.components.length:=λi hi=>by rw[<-w4];exact w2.lt _ i hi
 have hstr:=hb.inns_str scope (num b r);unfold m25;rw[K.h63,zaa];dsimp only;rw[he,show ((0:Int) != 0)=false from rfl,zab,K.h60 b scope hb,zaa,show len (zpQ b scope).refs=((b.components.length:Nat):Int) from by simp[len,zpQ,zbr],ziK (by omega),zaa,K.h62 b r hb,zaa,hb.place hr];dsimp only;rw[show (zpQ b scope).from_=za6 (zi4 b scope) from rfl,zjl (by rw[w4];exact ht),zaa];generalize row (zi4 b scope) (num b r)=l at *
 rw[show zak (σ:=List Bool×Int×Unit) (R:=(List Bool×Unit)⊕(List (List UInt8)×Int×Unit)) _ (List.replicate b.components.length false,0,())=some (.inl ((List.range b.components.length).map (λj=>decide (j∈l)),())) from
  zby (A:=List Bool) (λk a=>(a,(k:Int),())) l.length (λ_ _=>(.inl ((List.range b.components.length).map (λj=>decide (j∈l)),()):(List Bool×Unit)⊕(List (List UInt8)×Int×Unit)))
   (λk a=>a.length=b.components.length/\∀j,j<b.components.length->a[j]?=some (decide (j∈l.take k))) (λk a hk hI=>?_) 0 (List.replicate b.components.length false) (yAA _) ⟨by simp,λj hj=>by simp[hj]⟩]
 ·rw[zaj];dsimp only;rw[K.h65 _ (by simp;omega),zaa,zqr,zto hstr hlt];dsimp only;rw[K.h64 b scope l hb hlt hs,zaa]
 ·obtain ⟨i1,i2⟩:=hI;by_cases hlk:k<l.length
  ·left;have hx:l[k]<a.length:=by rw[i1];exact hlt _ (yAy hlk)
   refine ⟨a.set l[k] true,hlk,?_,⟨by simp[i1],λj hj=>?_⟩,rfl⟩;·dsimp only;rw[za2,show decide ((k:Int)<((l.length:Nat):Int))=true from by simp;exact hlk,zac,ze1 hlk,zaa,zle hx,zaa,show zdc a l[k]=some a[l[k]] from yAe _,zaa,zaf hlk (by omega)]
   ·have ht1:∀j,j∈l.take (k+1)↔j∈l.take k\/j=l[k]:=λj=>by
     rw[List.take_add_one,yAe hlk,yAp];simp only[Option.toList,yBp]
    by_cases hjk:j=l[k];·subst hjk;rw[yAx hx,decide_eq_true ((ht1 _).2 (.inr rfl))]
    ·rw[yAr (Ne.symm hjk),i2 j hj];congr 1;rw[decide_eq_decide,ht1];exact ⟨.inl,λh=>h.resolve_right hjk⟩
  ·right;have hk':k=l.length:=by omega
   subst hk';dsimp only;rw[za2,show decide (((l.length:Nat):Int)<((l.length:Nat):Int))=false from by simp,zab];have:a=(List.range b.components.length).map (λj=>decide (j∈l)):=by
    apply yAW;intro j;by_cases hj:j<b.components.length;·rw[i2 j hj,List.take_length];simp[hj]
    ·rw[yAZ (by omega),yAZ (by simp;omega)]
   rw[this]
end Pe.Tryz
end
section
/- Find of both sides, and the law of needs. -/
set_option maxRecDepth 100000
namespace Pe.Tryz
open Go Go.Proofs Pe Pe.Bfs
theorem q111(n:Nat)(l:List Gt.Pair): @Eq (Option (List Gt.Pair×Unit)) ((zah (n+1)).d 111 [.sl (.st 10) l] [(.sl (.st 10))]) (bif Nat.ble l.length 1000000000 then some (l,()) else none):=by kernel_rfl
theorem q112(n:Nat)(l:List Gt.Digest): @Eq (Option (List Gt.Digest×Unit)) ((zah (n+1)).d 112 [.sl (.st 6) l] [(.sl (.st 6))]) (bif Nat.ble l.length 1000000000 then some (l,()) else none):=by kernel_rfl
theorem q113(n:Nat)(l:List (List UInt8)): @Eq (Option (List (List UInt8)×Unit)) ((zah (n+1)).d 113 [.sl .str l] [(.sl .str)]) (bif Nat.ble l.length 1000000000 then some (l,()) else none):=by kernel_rfl
structure SmL (c:Gt.Component):Prop where
 quals:c.purl.qualifiers.length<=1000000000
 digs:c.digests.length<=1000000000
 files:c.files.length<=1000000000
theorem L68(n:Nat){c:Gt.Component}(hc:SmL c): @Eq (Option (Gt.Component×Unit)) ((zah (n+2)).d 68 [.st 5 c] [(.st 5)]) (some (c,())):=by
 have ble:∀{k:Nat},k<=1000000000->Nat.ble k 1000000000=true:=λh=>by rw[yAK];exact h
 refine (q68 (n+1) c).trans ?_;unfold m68;rw[q111,ble hc.quals,cond_true,zaa,q112,ble hc.digs,cond_true,zaa,q113,ble hc.files,cond_true,zaa]
theorem ztl{R:Type}{f:Int×Unit->Option ((Int×Unit)⊕R)}{n:Nat}(fin:R)(h:∀k,k<n->f ((k:Int),())=some (.inl (((k+1:Nat):Int),())))(he:f ((n:Int),())=some (.inr fin)):zak f ((0:Int),())=some fin:=by
 refine zby (A:=Unit) (λk _=>((k:Int),())) n (λ_ _=>fin) (λ_ _=>True) (λk _ hk _=>?_) 0 () (yAA _) trivial;rcases yAT k n with h1|h1;·exact .inl ⟨(),h1,h k h1,trivial,rfl⟩
 ·have:k=n:=by omega
  subst this;exact .inr he
theorem m69_same(o:Orc Sx){l:List (List UInt8)}(hl:l.length<=1000000000):m69 o l l=some (true,()):=by
 unfold m69;rw[show (len l != len l)=false from by simp,zab];rw[ztl (n:=l.length) (.inl ():Unit⊕(Bool×Unit)) (λk hk=>?_) ?_];·rfl
 ·dsimp only;rw[show decide ((l.length:Int)<len l)=false from by simp[len],zab]
 ·dsimp only;rw[show decide ((k:Int)<len l)=true from by simp[len];exact hk,zac,zan hk,zaa,zaa,show (l[k] != l[k])=false from by simp,zab,zaf hk (by omega)]
theorem m70_same(o:Orc Sx){p:Gt.Purl}(hl:p.qualifiers.length<=1000000000):m70 o p p=some (true,()):=by
 have ne:∀l:List UInt8,(l != l)=false:=λl=>by simp
 unfold m70;simp only[ne,zab,zaa,show (len p.qualifiers != len p.qualifiers)=false from by simp];rw[ztl (n:=p.qualifiers.length) (.inl ():Unit⊕(Bool×Unit)) (λk hk=>?_) ?_];·rfl
 ·dsimp only;rw[show decide ((p.qualifiers.length:Int)<len p.qualifiers)=false from by simp[len],zab]
 ·dsimp only;rw[show decide ((k:Int)<len p.qualifiers)=true from by simp[len];exact hk,zac,zan hk,zaa,zaa,zaf hk (by omega)];simp only[beq_self_eq_true,Bool.and_self,yBS,zab]
theorem L26(n:Nat){c:Gt.Component}(hc:SmL c): @Eq (Option (Bool×Unit)) ((zah (n+2)).d 26 [.st 5 c,.st 5 c] [.bool]) (some (true,())):=by
 have ne:∀l:List UInt8,(l != l)=false:=λl=>by simp
 refine (q26 (n+1) c c).trans ?_;unfold m26
 rw[show @Eq (Option (Bool×Unit)) ((zah (n+1)).d 69 [.sl .str c.files,.sl .str c.files] [.bool]) (some (true,())) from (q69 n _ _).trans (m69_same _ hc.files),
  show @Eq (Option (Bool×Unit)) ((zah (n+1)).d 70 [.st 11 c.purl,.st 11 c.purl] [.bool]) (some (true,())) from (q70 n _ _).trans (m70_same _ hc.quals)]
 simp only[ne,zab,zaa,yBS,show (len c.digests != len c.digests)=false from by simp];rw[ztl (n:=c.digests.length) (.inl ():Unit⊕(Bool×Unit)) (λk hk=>?_) ?_];·rfl
 ·dsimp only;rw[show decide ((c.digests.length:Int)<len c.digests)=false from by simp[len],zab]
 ·dsimp only;rw[show decide ((k:Int)<len c.digests)=true from by simp[len];exact hk,zac,zan hk,zaa,zaa,zaf hk (by have:=hc.digs;omega)];simp only[beq_self_eq_true,Bool.and_self,yBS,zab]
theorem L20{n:Nat}(hn:200<=n){b:Gt.Bill}(hb:SmB b)(r:List UInt8):∃t:Gt.Component×Bool×Int×Unit,SmL t.1 /\
  @Eq (Option (Gt.Component×Bool×Int×Unit)) ((zah n).d 20 [.st 3 b,.str r] [(.st 5),.bool,(.int .i64)]) (some t)/\ @Eq (Option (Gt.Component×Bool×Int×Unit)) ((zah n).d 21 [.st 3 b,.str r] [(.st 5),.bool,(.int .i64)]) (some t):=by
 obtain ⟨n,rfl⟩:∃k,n=k+200:=⟨n - 200,by omega⟩;have z:SmL (Gt.Component.mk [] (Gt.Purl.mk [] [] [] [] [] []) [] [] []):=⟨by decide,by decide,by decide⟩;by_cases h1:zfo b=0
 ·have hR:=zeo h1;have h67:=m67_eq' (zah (n+198)) (λc r=>L109 (n+195) c r) hR r;have q67': @Eq (Option (Int×Bool×Unit)) ((zah (n+199)).d 67 [.st 3 b,.str r] [(.int .i64),.bool]) (m67 (zah (n+198)) b r):=q67 (n+198) b r;by_cases h3:zbm b r
  ·obtain ⟨hlt,_⟩:=hR.num_lt h3;have hc':=hb.comps _ (yAy hlt);have hc:SmL b.components[num b r]:=⟨hc'.quals,hc'.dl,hc'.fl⟩;refine ⟨(b.components[num b r],true,0,()),hc,(q20 (n+199) b r).trans ?_,(q21 (n+199) b r).trans ?_⟩;·unfold m20;rw[L40 (by omega) hb,zaa];dsimp only;rw[h1,show ((0:Int) != 0)=false from rfl,zab,q67',h67.1 h3,zaa];dsimp only;rw[yBS,zab,zan hlt,zaa,L68 (n+197) hc,zaa]
   ·unfold m21;rw[L54 (by omega) hb,zaa];dsimp only;rw[h1,show ((0:Int) != 0)=false from rfl,zab,L62 (n+198) (by have:=hR.n;omega) r,zaa,hR.place h3];dsimp only;rw[show decide ((0:Int)<=((num b r:Nat):Int))=true from by simp,zac,zan hlt,zaa]
  ·obtain ⟨k,hk⟩:=h67.2 h3;refine ⟨(Gt.Component.mk [] (Gt.Purl.mk [] [] [] [] [] []) [] [] [],false,0,()),z,(q20 (n+199) b r).trans ?_,(q21 (n+199) b r).trans ?_⟩;·unfold m20;rw[L40 (by omega) hb,zaa];dsimp only;rw[h1,show ((0:Int) != 0)=false from rfl,zab,q67',hk,zaa];rfl
   ·unfold m21;rw[L54 (by omega) hb,zaa];dsimp only;rw[h1,show ((0:Int) != 0)=false from rfl,zab,L62 (n+198) (by have:=hR.n;omega) r,zaa,znM h3];rfl
 ·have hne:(zfo b != 0)=true:=by simpa using h1
  refine ⟨(Gt.Component.mk [] (Gt.Purl.mk [] [] [] [] [] []) [] [] [],false,zfo b,()),z,(q20 (n+199) b r).trans ?_,(q21 (n+199) b r).trans ?_⟩;·unfold m20;rw[L40 (by omega) hb,zaa];dsimp only;rw[hne,zac]
  ·unfold m21;rw[L54 (by omega) hb,zaa];dsimp only;rw[hne,zac]
theorem L4{n:Nat}(hn:220<=n){b:Gt.Bill}(hb:SmB b)(r:List UInt8)(scope:Int):m4 (zah n) b r scope=some (true,()):=by
 obtain ⟨n,rfl⟩:∃k,n=k+220:=⟨n - 220,by omega⟩;have K:=grO (n:=n+219) (by omega) hb;have same:∀l:List (List UInt8),l.length<=1000000-> @Eq (Option (Bool×Unit)) ((zah (n+220)).d 18 [.sl .str l,.sl .str l] [.bool]) (some (true,())):=λl hl=>(q18 (n+219) _ _).trans (m18_same _ _ hl);obtain ⟨t,ht,e20,e21⟩:=L20 (n:=n+220) (by omega) hb r;have e22: @Eq (Option (List (List UInt8)×Int×Unit)) ((zah (n+220)).d 22 [.st 3 b,.str r,.int .i64 scope] [(.sl .str),(.int .i64)]) (m22 (zah (n+219)) b r scope):=q22 _ _ _ _;have e23: @Eq (Option (List (List UInt8)×Int×Unit)) ((zah (n+220)).d 23 [.st 3 b,.str r,.int .i64 scope] [(.sl .str),(.int .i64)]) (m23 (zah (n+219)) b r scope):=q23 _ _ _ _;have e24: @Eq (Option (List (List UInt8)×Int×Unit)) ((zah (n+220)).d 24 [.st 3 b,.str r,.int .i64 scope] [(.sl .str),(.int .i64)]) (m24 (zah (n+219)) b r scope):=q24 _ _ _ _;have e25: @Eq (Option (List (List UInt8)×Int×Unit)) ((zah (n+220)).d 25 [.st 3 b,.str r,.int .i64 scope] [(.sl .str),(.int .i64)]) (m25 (zah (n+219)) b r scope):=q25 _ _ _ _;obtain ⟨l1,l2,c,hl1,hl2,f22,f23,f24,f25⟩:∃(l1 l2:List (List UInt8)) (c:Int),l1.length<=1000000/\l2.length<=1000000/\m22 (zah (n+219)) b r scope=some (l1,c,())/\m23 (zah (n+219)) b r scope=some (l1,c,())/\m24 (zah (n+219)) b r scope=some (l2,c,())/\m25 (zah (n+219)) b r scope=some (l2,c,()):=by
  by_cases he:za5 zfo b r scope=0;·obtain ⟨hR,_⟩:=zjc K he;obtain ⟨w1,w2,_⟩:=hR.web scope;exact ⟨_,_,_,by simp only[zbd,yBi];exact w1.rows _,by simp only[zbd,yBi];exact w2.rows _,(m22_eq' K r scope).1 he,(m23_eq' K r scope).1 he,(m24_eq' K r scope).1 he,(m25_eq' K r scope).1 he⟩
  ·exact ⟨[],[],_,by decide,by decide,(m22_eq' K r scope).2 he,(m23_eq' K r scope).2 he,(m24_eq' K r scope).2 he,(m25_eq' K r scope).2 he⟩
 have be:∀x:Int,(x==x)=true:=λx=>by simp
 unfold m4;rw[e20,e21,e22,e23,e24,e25,f22,f23,f24,f25];simp only[zaa];rw[show @Eq (Option (Bool×Unit)) ((zah (n+220)).d 26 [.st 5 t.1,.st 5 t.1] [.bool]) (some (true,())) from L26 (n+218) ht];simp only[zaa,zac,be,show (t.2.1==t.2.1)=true from by simp];rw[same _ hl1,same _ hl2,L19 (by omega)];rfl
end Pe.Tryz
end
