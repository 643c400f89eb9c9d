/- PROVED HERE: a part of the seat's proofs; see the text that holds the claim's theorem. -/
import Derived.Test.YtojfjgjdheiffaaGreatDoorBoC
import Derived.Test.YtojfjgjdheiffaaGreatDoorBoE
import Derived.Test.YtojfjgjdheiffaaGreatDoorBoI
set_option maxRecDepth 100000
section
namespace Pe.Tryz
open Go Go.Proofs Pe
def prB(c:UInt8):Bool:=bif decide ((c.toNat:Int)<33) then true else decide (126<(c.toNat:Int))
def znJ(s:By)(most:Int):Bool:=bif s.any prB then false else (bif s != [] then decide (len s<=most) else false)
theorem s169(o:Orc Sx){s:By}(most:Int)(h:s.length<=1000000000):m169 o s most=some (znJ s most,()):=by
 unfold m169;rw[zaY s.length (λk=>prB (s.getD k 0)) (.inr (false,())) (.inl ()) (λk hk=>?_) ?_,zbU]
 ·unfold znJ;cases s.any prB with
  |true=>rfl|false=>cases hs:s != []<;>rfl
 ·simp[zao,zab]
 ·simp only[zao,hk,decide_true,zan hk,zaa,zai,zaf hk (by omega)];rw[show s.getD k 0=s[k] from by simp[yAj,hk]];simp only[cond_true];show some (bif prB s[k] then _ else _)=_;cases h2:prB s[k]<;>simp
theorem s211(o:Orc Sx){s:By}(most:Int)(h:s.length<=1000000000):m211 o s 33 most=some (znJ s most,()):=by
 unfold m211;rw[zaY s.length (λk=>prB (s.getD k 0)) (.inr (false,())) (.inl ()) (λk hk=>?_) ?_,zbU]
 ·unfold znJ;cases s.any prB with
  |true=>rfl|false =>
    simp only[cond_false,zaj];have:decide (1<=len s)=(s != []):=by
     cases s with
     |nil=>rfl|cons c r=>exact decide_eq_true (by show (1:Int)<=((r.length+1:Nat):Int);omega)
    rw[this];cases hs:s != []<;>rfl
 ·simp[zao,zab]
 ·simp only[zao,hk,decide_true,zan hk,zaa,zai,zaf hk (by omega)];rw[show s.getD k 0=s[k] from by simp[yAj,hk],show IntKind.u8.wrap 33=33 from by decide];simp only[cond_true];show some (bif prB s[k] then _ else _)=_;cases h2:prB s[k]<;>simp
def zmn(s:By):Bool:=bif s.any ctl then false else decide (len s<=100)
theorem s123(o:Orc Sx){s:By}(h:s.length<=1000000000):m123 o s=some (zmn s,()):=by
 unfold m123;rw[zaY s.length (λk=>ctl (s.getD k 0)) (.inr (false,())) (.inl ()) (λk hk=>?_) ?_,zbU];·unfold zmn;cases s.any ctl<;>rfl
 ·simp[zao,zab]
 ·simp only[zao,hk,decide_true,zan hk,zaa,zai,zna,zaf hk (by omega)];cases h2:ctl s[k]<;>simp[br,yAj,hk,h2]
theorem s143(o:Orc Sx){s:By}(h:s.length<=1000000000):m143 o s=some (zmn s,()):=by
 unfold m143;rw[zaY s.length (λk=>ctl (s.getD k 0)) (.inr (false,())) (.inl ()) (λk hk=>?_) ?_,zbU];·unfold zmn;cases s.any ctl<;>rfl
 ·simp[zao,zab]
 ·simp only[zao,hk,decide_true,zan hk,zaa,zai,zna,zaf hk (by omega)];cases h2:ctl s[k]<;>simp[br,yAj,hk,h2]
def zsP(c:UInt8):Int:=if 48<=c.toNat/\c.toNat<=57 then (c.toNat:Int) - 48 else if 97<=c.toNat/\c.toNat<=102 then (c.toNat:Int) - 87 else if 65<=c.toNat/\c.toNat<=70 then (c.toNat:Int) - 55 else -1
def okH(c:UInt8):Bool:=bif (bif decide (48<=(c.toNat:Int)) then decide ((c.toNat:Int)<=57) else false) then true else (bif decide (97<=(c.toNat:Int)) then decide ((c.toNat:Int)<=102) else false)
theorem s275(o:Orc Sx)(c:UInt8):m275 o (c.toNat:Int)=some (zsP c,()):=eq8 (f:=λc=>m275 o (c.toNat:Int)) (g:=λc=>some (zsP c,())) (by kernel_rfl) c
theorem L275(n:Nat)(c:UInt8): @Eq (Option (Int×J)) ((zah (n+1)).d 275 [.int .u8 (c.toNat:Int)] [I6]) (some (zsP c,())):=(q275 n _).trans (s275 _ c)
theorem zr9(c:UInt8):(bif decide (zsP c<0) then true else (bif decide (65<=(c.toNat:Int)) then decide ((c.toNat:Int)<=70) else false))= !okH c :=
 eq8 (f:=λc=>bif decide (zsP c<0) then true else (bif decide (65<=(c.toNat:Int)) then decide ((c.toNat:Int)<=70) else false)) (g:=λc=> !okH c) (by decide+kernel) c
def zqK(s:By)(n:Int):Bool:=bif s.any (λc=> !okH c) then false else len s==n
theorem s233(n:Nat){s:By}(k0:Int)(h:s.length<=1000000000):m233 (zah (n+1)) s k0=some (zqK s k0,()):=by
 unfold m233;rw[zaY s.length (λk=> !okH (s.getD k 0)) (.inr (false,())) (.inl ()) (λk hk=>?_) ?_,zbU s λc=> !okH c];·unfold zqK;cases s.any (λc=> !okH c)<;>rfl
 ·simp[zao,zab]
 ·simp only[zao,hk,decide_true,zan hk,zaa,L275 n,zai,zr9,zaf hk (by omega)];rw[show s.getD k 0=s[k] from by simp[yAj,hk]];cases h2:okH s[k]<;>simp[br]
theorem s262(o:Orc Sx){s:By}(k0:Int)(h:s.length<=1000000000):m262 o s k0=some (zqK s k0,()):=by
 unfold m262;rw[zaY s.length (λk=> !okH (s.getD k 0)) (.inr (false,())) (.inl ()) (λk hk=>?_) ?_,zbU s λc=> !okH c];·unfold zqK;cases s.any (λc=> !okH c)<;>rfl
 ·simp[zao,zab]
 ·simp only[zao,hk,decide_true,zan hk,zaa,zai,zaf hk (by omega)];rw[show s.getD k 0=s[k] from by simp[yAj,hk]];simp only[cond_true];show some (bif !okH s[k] then _ else _)=_;cases h2:okH s[k]<;>simp
def ziu:By:=[115,117,109,54,52]
def ziH:By:=[115,104,97,50,53,54]
def leS(a b:By):Bool:=Op.bytesLess a b||(a==b)
def noD:Gt.Qd:=⟨[],[]⟩
def zsY(l:List Gt.Qd)(k:Nat):Int :=
 bif (bif (l.getD k noD).algo != ziH then (l.getD k noD).algo != ziu else false) then 7 else
 bif !zqK (l.getD k noD).text (bif (l.getD k noD).algo==ziu then 16 else 64) then 2 else
 bif (bif decide (0<(k:Int)) then leS (l.getD k noD).algo (l.getD (k - 1) noD).algo else false) then 10 else 0
def zpU(l:List Gt.Qd):Int:=bif decide (4<len l) then 3 else ff (zsY l) l.length
theorem zpH{α:Type}{l:List α}{k:Nat}(d:α)(hk:k<l.length)(hl:l.length<=1000000000)(h0:0<k):at? l (IntKind.i64.wrap ((k:Int) - 1))=some (l.getD (k - 1) d):=by rw[zaH (by omega) (by omega),show (k:Int) - 1=((k - 1:Nat):Int) from by omega,zan (by omega)];simp[yAj,show k - 1<l.length by omega]
theorem zdw{α:Type}{l:List α}{k:Nat}(d:α)(hk:k<l.length)(hl:l.length<=1000000000)(g:α->Bool)(b:Bool) :
  br (bif b then decide (0<(k:Int)) else false) (ob (at? l (IntKind.i64.wrap ((k:Int) - 1))) λy=>some (g y)) (some false)=some (bif (bif b then decide (0<(k:Int)) else false) then g (l.getD (k - 1) d) else false):=by
 cases b with
 |false=>rfl|true =>
   simp only[cond_true];rcases yCg k with h0|h0;·subst h0;rfl
   ·rw[zpH d hk hl h0,zaa,show decide (0<(k:Int))=true from by grind];rfl
theorem zgF{F:Nat->Int}{n:Nat}:zaE (σ:=J) (some (if ff F n≠0 then (.inr (ff F n,()):J⊕(Int×J)) else .inl ())) (λ_=>some (0,()))=some (ff F n,()):=by
 by_cases h0:ff F n=0;·simp_all[zaj]
 simp_all[zaU]
theorem s170(n:Nat)(l:List Gt.Qd)(ht:∀d∈l,d.text.length<=1000000000):m170 (zah (n+2)) l=some (zpU l,()):=by
 unfold m170 zpU;cases hb:decide (4<len l) with
 |true=>rfl|false =>
   have hl:l.length<=4:=(by have:=of_decide_eq_false hb;unfold len at this;omega);rw[zab,cond_false];rw[zb9 l.length (zsY l) (λc=>(.inr (c,()):J⊕(Int×J))) (.inl ()) (λk hk _=>?_) ?_];·exact zgF
   ·simp[zao,zab]
   ·have hg:l.getD k noD=l[k]:=(by simp[yAj,hk]);have hx:∀m:Int,@Eq (Option (Bool×J)) ((zah (n+2)).d 233 [.str l[k].text,.int .i64 m] [.bool]) (some (zqK l[k].text m,())):=λm=>(q233 (n+1) _ _).trans (s233 n m (ht _ (yAy hk)));simp only[zao,hk,decide_true,zan hk,zaa,zac,zaf hk (by omega)];rw[show br (l[k].algo==[115,117,109,54,52]) (some (.inl ((16:Int),()))) (some (.inl ((64:Int),())))=(some (.inl (bif l[k].algo==ziu then 16 else 64,())):Option ((Int×J)⊕((Int×J)⊕(J⊕(Int×J))))) from by show br (l[k].algo==ziu) _ _=_;cases l[k].algo==ziu<;>rfl,zaj];simp only[zai,zaa,hx];have hbe:=zdw noD hk (by omega) (λy=>leS l[k].algo y.algo) true;simp only[cond_true] at hbe;rw[show (ob (at? l (IntKind.i64.wrap ((k:Int) - 1))) λy6=>some (Op.bytesLess l[k].algo y6.algo||l[k].algo==y6.algo))=(ob (at? l (IntKind.i64.wrap ((k:Int) - 1))) λy=>some (leS l[k].algo y.algo)) from rfl,hbe,zaa];unfold zsY;rw[hg];exact zdK (out:=λc=>(.inr (c,()):J⊕(Int×J))) 7 (by decide) λ_=>zdK (out:=λc=>(.inr (c,()):J⊕(Int×J))) 2 (by decide) λ_=>zpD (out:=λc=>(.inr (c,()):J⊕(Int×J))) (c:=10) (by decide)
theorem s212(n:Nat)(l:List Gt.Qd)(ht:∀d∈l,d.text.length<=1000000000):m212 (zah (n+1)) l=some (zpU l,()):=by
 unfold m212 zpU;cases hb:decide (4<len l) with
 |true=>rfl|false =>
   have hl:l.length<=4:=(by have:=of_decide_eq_false hb;unfold len at this;omega);rw[zab,cond_false];rw[zb9 l.length (zsY l) (λc=>(.inr (c,()):J⊕(Int×J))) (.inl ()) (λk hk _=>?_) ?_];·exact zgF
   ·simp[zao,zab]
   ·have hg:l.getD k noD=l[k]:=(by simp[yAj,hk]);have hx:∀m:Int,@Eq (Option (Bool×J)) ((zah (n+1)).d 262 [.str l[k].text,.int .i64 m] [.bool]) (some (zqK l[k].text m,())):=λm=>(q262 n _ _).trans (s262 _ m (ht _ (yAy hk)));simp only[zao,hk,decide_true,zan hk,zaa,zac,zaf hk (by omega)];unfold zsY;rw[hg];have hbe:=zdw noD hk (by omega) (λy=>leS l[k].algo y.algo) true;simp only[cond_true] at hbe;show zaE (br (l[k].algo==ziH) _ (br (l[k].algo==ziu) _ _)) _=_;rw[show (l[k].algo != ziH)= !(l[k].algo==ziH) from rfl,show (l[k].algo != ziu)= !(l[k].algo==ziu) from rfl];cases h1:l[k].algo==ziH with
    |true =>
      have hs:(l[k].algo==ziu)=false:=by
       have:l[k].algo=ziH:=by simpa using h1
       rw[this];rfl
      rw[hs,zac,zaj];simp only[hx,zaa];rw[show (ob (at? l (IntKind.i64.wrap ((k:Int) - 1))) λy5=>some (Op.bytesLess l[k].algo y5.algo||l[k].algo==y5.algo))=(ob (at? l (IntKind.i64.wrap ((k:Int) - 1))) λy=>some (leS l[k].algo y.algo)) from rfl,hbe,zaa];show _=ffS _ _ (bif !zqK l[k].text 64 then 2 else bif (bif decide (0<(k:Int)) then leS l[k].algo (l.getD (k - 1) noD).algo else false) then 10 else 0);exact zdK (out:=λc=>(.inr (c,()):J⊕(Int×J))) 2 (by decide) λ_=>zdK (out:=λc=>(.inr (c,()):J⊕(Int×J))) 10 (by decide) λ_=>rfl
    |false =>
      cases h2:l[k].algo==ziu with
      |true =>rw[zab,zac,zaj];simp only[hx,zaa];rw[show (ob (at? l (IntKind.i64.wrap ((k:Int) - 1))) λy5=>some (Op.bytesLess l[k].algo y5.algo||l[k].algo==y5.algo))=(ob (at? l (IntKind.i64.wrap ((k:Int) - 1))) λy=>some (leS l[k].algo y.algo)) from rfl,hbe,zaa];show _=ffS _ _ (bif !zqK l[k].text 16 then 2 else bif (bif decide (0<(k:Int)) then leS l[k].algo (l.getD (k - 1) noD).algo else false) then 10 else 0);exact zdK (out:=λc=>(.inr (c,()):J⊕(Int×J))) 2 (by decide) λ_=>zdK (out:=λc=>(.inr (c,()):J⊕(Int×J))) 10 (by decide) λ_=>rfl
      |false=>rfl
end Pe.Tryz
end
section
namespace Pe
theorem zqB{σ A R:Type}{f:σ->Option (σ⊕R)}(mk:Nat->A->σ)(n:Nat)(F:Nat->Int)(out:Nat->Int->R)(fin:R)(I:Nat->A->Prop)
  (h:∀k a,k<n->I k a->ff F k=0->(F k≠0/\f (mk k a)=some (.inr (out k (F k))))\/(F k=0/\∃a',I (k+1) a'/\f (mk k a)=some (.inl (mk (k+1) a'))))
  (he:∀a,I n a->f (mk n a)=some (.inr fin)) (a0:A) (h0:I 0 a0):∃j,zak f (mk 0 a0)=some (if ff F n≠0 then out j (ff F n) else fin):=by
 have key:∀d k a,n - k=d->k<=n->I k a->ff F k=0->∃j,zak f (mk k a)=some (if ff F n≠0 then out j (ff F n) else fin):=by
  intro d;induction d with
  |zero =>
    intro k a hd hk hI hz;obtain rfl:k=n:=by omega
    simp_all[zaD]
  |succ d ih =>
    intro k a hd hk hI hz;rcases h k a (by omega) hI hz with ⟨h1,h2⟩|⟨h1,a',h2,h3⟩;·exact ⟨k,by rw[zm7 (by omega) hz h1,if_pos h1];exact zaD h2⟩
    grind[ff,zaR]
 exact key _ 0 a0 rfl (yAA _) h0 rfl
end Pe
namespace Pe.Tryz
open Go Go.Proofs Pe
theorem znd(x y:By):(bif Op.bytesLess x y then (-1:Int) else bif !(Op.bytesLess x y||(x==y)) then 1 else 0)=cS x y:=by
 rw[zgX];unfold cS;by_cases h1:x<y;·simp[h1]
 ·by_cases h2:y<x
  ·have:(x==y)=false:=by
    cases h:x==y with
    |false=>rfl
    | true=>simp_all[yBn]
   grind
  ·have:x=y:=zly.eq x y (by grind[zc4]) (by grind[zc4]);grind
theorem s110(n:Nat)(x y:By):m110 (zah (n+1)) x y=some (cS x y,()):=by
 have h:∀x,@Eq (Option (Bool×J)) ((zah (n+1)).d 147 [.str x] [.bool]) (some (false,())):=λx=>(q147 n x).trans (by unfold m147;simp);unfold m110;rw[h,h];simp only[zaa,zab,zai];rw[<-znd];cases Op.bytesLess x y with
 |true=>rfl|false=>cases x==y<;>rfl
theorem L110(n:Nat)(x y:By): @Eq (Option (Int×J)) ((zah (n+2)).d 110 [.str x,.str y] [I6]) (some (cS x y,())):=(q110 (n+1) x y).trans (s110 n x y)
theorem s134(o:Orc Sx)(x y:By):m134 o x y=some (cS x y,()):=by
 unfold m134;rw[<-znd];cases Op.bytesLess x y with
 |true=>rfl|false=>cases x==y<;>rfl
theorem L134(n:Nat)(x y:By): @Eq (Option (Int×J)) ((zah (n+1)).d 134 [.str x,.str y] [I6]) (some (cS x y,())):=(q134 n x y).trans (s134 _ x y)
def sgI(x y:Int):Int:=if x<y then -1 else if y<x then 1 else 0
theorem s138(n:Nat)(x y:Int):m138 (zah (n+1)) x y=some (sgI x y,()):=by
 have h:∀x,@Eq (Option (Bool×J)) ((zah (n+1)).d 191 [.int .i64 x] [.bool]) (some (false,())):=λx=>(q191 n x).trans (by grind[m191]);grind[m138,zaa,sgI,br]
theorem s142(o:Orc Sx)(a b c:Int):m142 o [a,b,c]=some (if a≠0 then a else if b≠0 then b else c,()):=by
 unfold m142;rw[zb9 3 (λk=>([a,b,c]:List Int).getD k 0) (λc=>(.inr (c,()):J⊕(Int×J))) (.inl ()) (λk hk _=>?_) ?_];·rw[zgF];simp only[ff];simp;by_cases h1:a=0<;>by_cases h2:b=0<;>simp[h1,h2]
 ·rfl
 ·dsimp only;have hl:k<([a,b,c]:List Int).length:=hk;rw[show decide ((k:Int)<len [a,b,c])=true from by simp[len];omega,zac,zan hl,zaa,zaf hk (by omega),show ([a,b,c]:List Int).getD k 0=[a,b,c][k] from by rw[yAj,yAe hl];rfl];exact zwn (out:=λc=>(.inr (c,()):J⊕(Int×J)))
def zpV(a b:Gt.K6):Int:=if cS a.from_ b.from_≠0 then cS a.from_ b.from_ else if cS a.to b.to≠0 then cS a.to b.to else sgI a.scope b.scope
theorem L100(n:Nat)(a b:Gt.K6): @Eq (Option (Int×J)) ((zah (n+4)).d 100 [.st 7 a,.st 7 b] [I6]) (some (zpV a b,())):=by refine (q100 (n+3) a b).trans ?_;unfold m100;rw[L110 (n+1),zaa,L110 (n+1),zaa,show @Eq (Option (Int×J)) ((zah (n+3)).d 138 [.int .i64 a.scope,.int .i64 b.scope] [I6]) (some (sgI a.scope b.scope,())) from (q138 (n+2) _ _).trans (s138 (n+1) _ _),zaa];rw[show @Eq (Option (Int×J)) ((zah (n+3)).d 142 [.sl I6 [cS a.from_ b.from_,cS a.to b.to,sgI a.scope b.scope]] [I6]) (some (zpV a b,())) from (q142 (n+2) _).trans (s142 _ _ _ _),zaa]
theorem zs4{x y:By}(h:(x != y)=false):cS x y=0:=by
 simp_all[cS]
theorem zs5{x y:By}(h:(x != y)=true):cS x y≠0:=λh0=>by
 have hne:x≠y:=by simpa using h
 refine hne (zly.eq _ _ (by omega) λh2=>?_);rw[zc4] at h2;unfold cS at h0;by_cases h1:x<y;·simp_all
 simp_all
theorem L88(n:Nat)(a b:Gt.K6): @Eq (Option (Int×J)) ((zah (n+2)).d 88 [.st 7 a,.st 7 b] [I6]) (some (zpV a b,())):=by
 refine (q88 (n+1) a b).trans ?_;unfold m88;rw[L134 n,L134 n];unfold zpV;cases h1:a.from_ != b.from_ with
 |true=>rw[if_pos (zs5 h1)];rfl|false =>
   rw[zab,zs4 h1,if_neg (by simp)];cases h2:a.to != b.to with
   |true=>rw[if_pos (zs5 h2)];rfl|false =>
     rw[zab,zs4 h2,if_neg (by simp)];grind[sgI,br]
structure SmC (c:Gt.Kd):Prop where
 ref:c.ref.length<=1000000000
 lic:c.K1.length<=1000000000
 quals:c.purl.Kf.length<=1000000000
 digs:∀d∈c.K7,d.text.length<=1000000000
 files:∀f∈c.files,f.length<=1000000000
 dl:c.K7.length<=1000000000
 fl:c.files.length<=1000000000
def zrG(c:UInt8):Bool:=bif decide ((c.toNat:Int)<32) then true else decide (126<(c.toNat:Int))
def zsT(l:List By)(k:Nat):Int:=bif !znJ (l.getD k []) 200 then 8 else bif (bif decide (0<(k:Int)) then leS (l.getD k []) (l.getD (k - 1) []) else false) then 10 else 0
def zi9(l:List By):Int:=bif decide (100<len l) then 3 else ff (zsT l) l.length
def zAL(s:By):Int:=bif s.any zrG then 2 else bif s != [] then (Kb.licR s).2.2.1 else 0
def zix(c:Gt.Kd):Int:=bif !znJ c.ref 100 then 8 else bif zdS c.purl != 0 then zdS c.purl else bif zpU c.K7 != 0 then zpU c.K7 else bif zAL c.K1 != 0 then zAL c.K1 else zi9 c.files
theorem zm6{l:List By}{k:Nat}(hk:k<l.length)(hl:l.length<=1000000000){R:Type}{out:Int->R}{nxt:Int×J} :
  br (!znJ (l.getD k []) 200) (some (.inr (out 8))) (ob (br (bif true then decide (0<(k:Int)) else false) (ob (at? l (IntKind.i64.wrap ((k:Int) - 1))) λy=>some (leS (l.getD k []) y)) (some false)) λb=>br b (some (.inr (out 10))) (some (.inl nxt)))=ffS out nxt (zsT l k):=by
 rw[zdw [] hk hl (λy=>leS (l.getD k []) y) true,zaa];exact zdK (out:=out) 8 (by decide) λ_=>zdK (out:=out) 10 (by decide) λ_=>rfl
theorem s172(n:Nat)(M:List (By×Bool))(l:List By)(hf:∀f∈l,f.length<=1000000000):m172 (zah (n+1)) M false l=some (.inl (M,zi9 l,())):=by
 unfold m172 zi9;cases hb:decide (100<len l) with
 |true=>rfl|false =>
   have hl:l.length<=100:=(by have:=of_decide_eq_false hb;unfold len at this;omega);rw[zab,cond_false];rw[zb9 l.length (zsT l) (λc=>(.inr (.inl (M,c,())):J⊕((List (By×Bool)×Int×J)⊕J))) (.inl ()) (λk hk _=>?_) ?_]
   ·by_cases h0:ff (zsT l) l.length=0;·rw[if_neg (by simpa using h0),zaj,h0]
    ·rw[if_pos h0,zaU]
   ·simp[zao,zab]
   ·have hg:l.getD k []=l[k]:=(by simp[yAj,hk]);rw[<-zm6 hk (by omega),hg];dsimp only;rw[show decide ((k:Int)<len l)=true from by simp[len];exact hk,zac,zan hk,zaa,show @Eq (Option (Bool×J)) ((zah (n+1)).d 169 [.str l[k],.int .i64 200] [.bool]) (some (znJ l[k] 200,())) from (q169 n _ _).trans (s169 _ _ (hf _ (yAy hk))),zaa,zaf hk (by omega)];rfl
end Pe.Tryz
end
section
namespace Pe.Tryz
open Go Go.Proofs Pe
theorem zmO{R:Type}{f:Int×J->Option ((Int×J)⊕(J⊕R))}{s:By}(yes:R)(hf:∀k (hk:k<s.length),f ((k:Int),())=if zrG s[k]=true then some (.inr (.inr yes)) else some (.inl (((k+1:Nat):Int),())))(he:f ((s.length:Int),())=some (.inr (.inl ()))) :
  zak f ((0:Int),())=some (bif s.any zrG then .inr yes else .inl ()):=by
 rw[zaY s.length (λk=>zrG (s.getD k 0)) (.inr yes) (.inl ()) (λk hk=>?_) he,zbU];rw[hf k hk];simp[yAj,hk]
theorem zmN{c:UInt8}:(bif decide ((c.toNat:Int)<32) then true else decide (126<(c.toNat:Int)))=zrG c:=rfl
abbrev MB:=List (By×Bool)
theorem s124{n:Nat}(hn:130<=n)(M:MB){c:Gt.Kd}(hc:SmC c):m124 (zah n) M false c=some (.inl (M,zix c,())):=by
 obtain ⟨n,rfl⟩:∃k,n=k+130:=⟨n - 130,by omega⟩;unfold m124;rw[show @Eq (Option (Bool×J)) ((zah (n+130)).d 169 [.str c.ref,.int .i64 100] [.bool]) (some (znJ c.ref 100,())) from (q169 (n+129) _ _).trans (s169 _ _ hc.ref),zaa];unfold zix;dsimp only;cases h1: !znJ c.ref 100 with
 |true=>rfl|false =>
   rw[zab,cond_false,show @Eq (Option (Int×J)) ((zah (n+130)).d 117 [.st 11 c.purl] [I6]) (some (zdS c.purl,())) from L117 (n+126) hc.quals,zaa];dsimp only;cases h2:zdS c.purl != 0 with
   |true=>rfl|false =>
     rw[zab,cond_false,show @Eq (Option (Int×J)) ((zah (n+130)).d 170 [.sl (.st 6) c.K7] [I6]) (some (zpU c.K7,())) from (q170 (n+129) _).trans (s170 (n+127) _ hc.digs),zaa];dsimp only;cases h3:zpU c.K7 != 0 with
     |true=>rfl|false =>
       rw[zab,cond_false];rw[zmO (s:=c.K1) (.inl (M,2,())) (λk hk=>?_) ?_]
       ·have hfil: @Eq (Option ((MB×Int×J)⊕J)) ((zah (n+130)).l 172 sg172 ((M,false,c.files,()):MB×Bool×List By×J)) (some (.inl (M,zi9 c.files,()))):=(q172 (n+129) _ _ _).trans (s172 (n+128) M c.files hc.files);unfold zAL;cases h4:c.K1.any zrG with
        |true=>rfl|false =>
          simp only[cond_false,zaj];cases h5:c.K1 != [] with
          |false=>rw[zab,zaj,hfil,zaA];rfl|true =>
            rw[zac,show @Eq (Option (Kb.Ex×Int×Int×J)) ((zah (n+130)).d 171 [.str c.K1] [.st 9,I6,I6]) (some (Kb.licR c.K1)) from G171 (by omega) _,zaa];cases h6:(Kb.licR c.K1).2.2.1 != 0 with
            |true=>rw[zac,zaU];rw[show (bif true then (Kb.licR c.K1).2.2.1 else 0)=(Kb.licR c.K1).2.2.1 from rfl,h6];rfl|false=>rw[zab,zaj,hfil,zaA];rw[show (bif true then (Kb.licR c.K1).2.2.1 else 0)=(Kb.licR c.K1).2.2.1 from rfl,h6];rfl
       ·simp[zao,zab]
       ·simp only[zao,hk,decide_true,zan hk,zaa,zac,zaf hk (by have:=hc.lic;omega)];rw[zai,zaa,zmN,zfq]
theorem s144{n:Nat}(hn:130<=n){c:Gt.Kd}(hc:SmC c):m144 (zah n) c true=some (zix c,()):=by
 obtain ⟨n,rfl⟩:∃k,n=k+130:=⟨n - 130,by omega⟩;unfold m144;rw[show @Eq (Option (Bool×J)) ((zah (n+130)).d 211 [.str c.ref,.int .i64 33,.int .i64 100] [.bool]) (some (znJ c.ref 100,())) from (q211 (n+129) _ _ _).trans (s211 _ _ hc.ref),zaa];unfold zix;dsimp only;cases h1: !znJ c.ref 100 with
 |true=>rfl|false =>
   rw[zab,cond_false,show @Eq (Option (Int×J)) ((zah (n+130)).d 120 [.st 11 c.purl] [I6]) (some (zdS c.purl,())) from L120 (n+126) hc.quals,zaa];dsimp only;cases h2:zdS c.purl != 0 with
   |true=>rfl|false =>
     rw[zab,cond_false,show @Eq (Option (Int×J)) ((zah (n+130)).d 212 [.sl (.st 6) c.K7] [I6]) (some (zpU c.K7,())) from (q212 (n+129) _).trans (s212 (n+128) _ hc.digs),zaa];dsimp only;cases h3:zpU c.K7 != 0 with
     |true=>rfl|false =>
       rw[zab,cond_false];have hfil:(br (decide (100<(len (Gt.Kd.files c)))) (some ((3:Int),())) (zaE (σ:=J) (R:=Int×J) (zak (σ:=Int×J) (R:=J⊕(Int×J)) (λ(t11:Int×J)=>br (decide (t11.1<(len (Gt.Kd.files c)))) (ob (at? (Gt.Kd.files c) t11.1) λy12=>ob (α:=Bool×J) ((zah (n+130)).d 211 [.str y12,.int .i64 33,.int .i64 200] [.bool]) λ(r13:Bool×J)=>br (!r13.1) (some (.inr (.inr (8,())))) (ob (br true (some (decide (0<t11.1))) (some false)) λb14=>ob (br b14 (ob (at? (Gt.Kd.files c) (IntKind.i64.wrap (t11.1 - 1))) λy15=>some ((Op.bytesLess y12 y15)||(y12==y15))) (some false)) λb16=>br b16 (some (.inr (.inr (10,())))) (some (.inl (IntKind.i64.wrap (t11.1+1),()))))) (some (.inr (.inl (()))))) (0,())) λ(_:J)=>some (0,())))=some (zi9 c.files,()):=by
        unfold zi9;cases hb:decide (100<len c.files) with
        |true=>rfl|false =>
          have hl:c.files.length<=100:=(by have:=of_decide_eq_false hb;unfold len at this;omega);rw[zab,cond_false];rw[zb9 c.files.length (zsT c.files) (λc=>(.inr (c,()):J⊕(Int×J))) (.inl ()) (λk hk _=>?_) ?_];·exact zgF
          ·simp[zao,zab]
          ·have hg:c.files.getD k []=c.files[k]:=(by simp[yAj,hk]);rw[<-zm6 hk (by omega),hg];dsimp only;rw[show decide ((k:Int)<len c.files)=true from by simp[len];exact hk,zac,zan hk,zaa,show @Eq (Option (Bool×J)) ((zah (n+130)).d 211 [.str c.files[k],.int .i64 33,.int .i64 200] [.bool]) (some (znJ c.files[k] 200,())) from (q211 (n+129) _ _ _).trans (s211 _ _ (hc.files _ (yAy hk))),zaa,zaf hk (by omega)];rfl
       unfold zAL;cases h5:c.K1 != [] with
       |false =>
         have:c.K1=[]:=by simpa using h5
         rw[zab,zaj,this];exact hfil
       |true =>
         rw[zac,zmO (s:=c.K1) (.inr (2,())) (λk hk=>?_) ?_]
         ·cases h4:c.K1.any zrG with
          |true=>rfl|false =>
            simp only[cond_false,zaj];rw[show @Eq (Option (Kb.Ex×Int×Int×J)) ((zah (n+130)).d 213 [.str c.K1] [.st 9,I6,I6]) (some (Kb.licR c.K1)) from G213 (by omega) _,zaa];cases h6:(Kb.licR c.K1).2.2.1 != 0 with
            |true=>rw[zac,zaU];rw[show (bif true then (Kb.licR c.K1).2.2.1 else 0)=(Kb.licR c.K1).2.2.1 from rfl,h6];rfl|false=>rw[zab,zaj];rw[show (bif true then (Kb.licR c.K1).2.2.1 else 0)=(Kb.licR c.K1).2.2.1 from rfl,h6];exact hfil
         ·simp[zao,zab]
         ·simp only[zao,hk,decide_true,zan hk,zaa,zac,zaf hk (by have:=hc.lic;omega)];rw[zai,zaa,zmN,zfq]
end Pe.Tryz
end
section
namespace Pe.Tryz
open Go Go.Proofs Pe
noncomputable def zfe(b:Gt.Kn)(k:Nat):MB:=(List.range k).foldl (λM j=>zgw (keq un .str) (cR b j) true M) []
theorem zhW(b:Gt.Kn)(k:Nat):zfe b (k+1)=zgw (keq un .str) (cR b k) true (zfe b k):=by unfold zfe;rw[yCo,List.foldl_append];rfl
noncomputable def znV(b:Gt.Kn)(r:By):Bool:=zdh (keq un .str) r false (zfe b b.Ka.length)
def noC:Gt.Kd:=⟨[],⟨[],[],[],[],[],[]⟩,[],[],[]⟩
def noE:Gt.K6:=⟨[],[],0⟩
def zen(b:Gt.Kn)(k:Nat):Int:=bif zix (b.Ka.getD k noC) != 0 then zix (b.Ka.getD k noC) else bif (bif decide (0<(k:Int)) then leS (b.Ka.getD k noC).ref (b.Ka.getD (k - 1) noC).ref else false) then 10 else 0
noncomputable def zre(b:Gt.Kn)(k:Nat):Int:=bif (bif decide ((b.Kh.getD k noE).scope<1) then true else decide (4<(b.Kh.getD k noE).scope)) then 9 else
 bif (bif !znV b (b.Kh.getD k noE).from_ then true else !znV b (b.Kh.getD k noE).to) then 4 else bif (b.Kh.getD k noE).from_==(b.Kh.getD k noE).to then 2 else
 bif (bif decide (0<(k:Int)) then decide (0<=zpV (b.Kh.getD (k - 1) noE) (b.Kh.getD k noE)) else false) then 10 else 0
noncomputable def zfo(b:Gt.Kn):Int:=bif (bif (bif b.name==[] then true else !zmn b.name) then true else !zmn b.Ko) then 8 else
 bif (bif decide (3000<len b.Ka) then true else decide (20000<len b.Kh)) then 3 else
 bif ff (zen b) b.Ka.length != 0 then ff (zen b) b.Ka.length else bif !znV b b.root then 4 else ff (zre b) b.Kh.length
structure SmB (b:Gt.Kn):Prop where
 name:b.name.length<=1000000000
 Ko:b.Ko.length<=1000000000
 comps:∀c∈b.Ka,SmC c
theorem zpz{α:Type}(x y z:Bool)(K:Bool->Option α):(ob (br x (some true) (some y)) λb2=>ob (br b2 (some true) (some z)) K)=K (bif (bif x then true else y) then true else z):=by cases x<;>cases y<;>rfl
theorem zm8{b:Gt.Kn}{k:Nat}(hk:k<b.Kh.length)(hl:b.Kh.length<=1000000000){R:Type}{out:Int->R}{nxt:Int×J} :
  br (bif decide ((b.Kh.getD k noE).scope<1) then true else decide (4<(b.Kh.getD k noE).scope)) (some (.inr (out 9))) (br (bif !znV b (b.Kh.getD k noE).from_ then true else !znV b (b.Kh.getD k noE).to) (some (.inr (out 4))) (br ((b.Kh.getD k noE).from_==(b.Kh.getD k noE).to) (some (.inr (out 2)))
   (ob (br (bif true then decide (0<(k:Int)) else false) (ob (at? b.Kh (IntKind.i64.wrap ((k:Int) - 1))) λy=>some (decide (0<=zpV y (b.Kh.getD k noE)))) (some false)) λc=>br c (some (.inr (out 10))) (some (.inl nxt)))))=ffS out nxt (zre b k):=by
 rw[zdw noE hk hl (λy=>decide (0<=zpV y (b.Kh.getD k noE))) true,zaa];exact zdK (out:=out) 9 (by decide) λ_=>zdK (out:=out) 4 (by decide) λ_=>zdK (out:=out) 2 (by decide) λ_=>zdK (out:=out) 10 (by decide) λ_=>rfl
theorem s125(n:Nat)(b:Gt.Kn)(hl:b.Kh.length<=1000000000):m125 (zah (n+4)) (zfe b b.Ka.length) false b.Kh=some (.inl (zfe b b.Ka.length,ff (zre b) b.Kh.length,())):=by
 unfold m125;rw[zb9 b.Kh.length (zre b) (λc=>(.inr (.inl (zfe b b.Ka.length,c,())):J⊕((MB×Int×J)⊕J))) (.inl ()) (λk hk _=>?_) ?_]
 ·by_cases h0:ff (zre b) b.Kh.length=0;·rw[if_neg (by simpa using h0),zaj,h0]
  ·rw[if_pos h0,zaU]
 ·simp[zao,zab]
 ·have hg:b.Kh.getD k noE=b.Kh[k]:=by simp[yAj,hk]
  rw[<-zm8 hk hl,hg];dsimp only;rw[show decide ((k:Int)<len b.Kh)=true from by simp[len];exact hk,zac,zan hk,zaa,zaf hk (by omega),zai,zaa,zai,zaa];simp only[L100 n,zaa];rfl
theorem s80{n:Nat}(hn:140<=n){b:Gt.Kn}(hb:SmB b):∃M,m80 (zah n) [] false b=some (.inl (M,zfo b,())):=by
 obtain ⟨n,rfl⟩:∃k,n=k+140:=⟨n - 140,by omega⟩;unfold m80
 rw[show @Eq (Option (Bool×J)) ((zah (n+140)).d 123 [.str b.name] [.bool]) (some (zmn b.name,())) from (q123 (n+139) _).trans (s123 _ hb.name),zaa,
  show @Eq (Option (Bool×J)) ((zah (n+140)).d 123 [.str b.Ko] [.bool]) (some (zmn b.Ko,())) from (q123 (n+139) _).trans (s123 _ hb.Ko),zaa]
 rw[zpz];unfold zfo;cases (bif (bif b.name==[] then true else !zmn b.name) then true else !zmn b.Ko) with
 |true=>exact ⟨_,rfl⟩|false =>
   rw[zab,cond_false,zai,zaa];cases hsz:(bif decide (3000<len b.Ka) then true else decide (20000<len b.Kh)) with
   |true=>exact ⟨_,rfl⟩|false =>
     have hN:b.Ka.length<=3000/\b.Kh.length<=20000:=by
      cases h1:decide (3000<len b.Ka) with
      |true=>rw[h1] at hsz;cases hsz|false =>rw[h1] at hsz;have h2:=of_decide_eq_false h1;have h3:=of_decide_eq_false (show decide (20000<len b.Kh)=false from hsz);unfold len at h2 h3;omega
     rw[zab,cond_false]
     have Q8:∃j,zak (σ:=Int×MB×J) (R:=(MB×J)⊕((MB×Int×J)⊕J)) (λ(t6:Int×List (By×(Bool))×J)=>br (decide (t6.1<(len (Gt.Kn.Ka b)))) (ob (at? (Gt.Kn.Ka b) t6.1) λy7=>oc (α:=List (By×(Bool))×Int×J) (β:=J) ((zah (n+140)).l 124 sg124 ((t6.2.1,false,y7,()):List (By×(Bool))×Bool×Gt.Kd×J)) (λ(r8:List (By×(Bool))×Int×J)=>br (r8.2.1 != 0) (some (.inr (.inr (.inl (r8.1,r8.2.1,()))))) (ob (br (!false) (some (decide (0<t6.1))) (some false)) λb10=>ob (br b10 (ob (at? (Gt.Kn.Ka b) (IntKind.i64.wrap (t6.1 - 1))) λy11=>some ((Op.bytesLess (Gt.Kd.ref y7) (Gt.Kd.ref y11))||((Gt.Kd.ref y7)==(Gt.Kd.ref y11)))) (some false)) λb12=>br b12 (some (.inr (.inr (.inl (r8.1,10,()))))) (some (.inl (IntKind.i64.wrap (t6.1+1),zgw (keq un .str) (Gt.Kd.ref y7) true r8.1,()))))) λ(_:J)=>some (.inr (.inr (.inr (()))))) (some (.inr (.inl (t6.2.1,()))))) (0,[],()) =
       some (if ff (zen b) b.Ka.length≠0 then .inr (.inl (zfe b j,ff (zen b) b.Ka.length,())) else .inl (zfe b b.Ka.length,())) :=
      zqB (λk M=>((k:Int),M,())) b.Ka.length (zen b) (λj c=>(.inr (.inl (zfe b j,c,())):(MB×J)⊕((MB×Int×J)⊕J))) (.inl (zfe b b.Ka.length,())) (λk M=>M=zfe b k) (λk M hk hM _=>by
       subst hM;have hg:b.Ka.getD k noC=b.Ka[k]:=by simp[yAj,hk]
       have hst:(λ(t6:Int×List (By×(Bool))×J)=>br (decide (t6.1<(len (Gt.Kn.Ka b)))) (ob (at? (Gt.Kn.Ka b) t6.1) λy7=>oc (α:=List (By×(Bool))×Int×J) (β:=J) ((zah (n+140)).l 124 sg124 ((t6.2.1,false,y7,()):List (By×(Bool))×Bool×Gt.Kd×J)) (λ(r8:List (By×(Bool))×Int×J)=>br (r8.2.1 != 0) (some (.inr (.inr (.inl (r8.1,r8.2.1,()))))) (ob (br (!false) (some (decide (0<t6.1))) (some false)) λb10=>ob (br b10 (ob (at? (Gt.Kn.Ka b) (IntKind.i64.wrap (t6.1 - 1))) λy11=>some ((Op.bytesLess (Gt.Kd.ref y7) (Gt.Kd.ref y11))||((Gt.Kd.ref y7)==(Gt.Kd.ref y11)))) (some false)) λb12=>br b12 (some (.inr (.inr (.inl (r8.1,10,()))))) (some (.inl (IntKind.i64.wrap (t6.1+1),zgw (keq un .str) (Gt.Kd.ref y7) true r8.1,()))))) λ(_:J)=>some (.inr (.inr (.inr (()))))) (some (.inr (.inl (t6.2.1,()))))) ((k:Int),zfe b k,())=ffS (λc=>(.inr (.inl (zfe b k,c,())):(MB×J)⊕((MB×Int×J)⊕J))) (((k+1:Nat):Int),zfe b (k+1),()) (zen b k):=by
        dsimp only;rw[show decide ((k:Int)<len b.Ka)=true from by simp[len];exact hk,zac,zan hk,zaa,show @Eq (Option ((MB×Int×J)⊕J)) ((zah (n+140)).l 124 sg124 ((zfe b k,false,b.Ka[k],()):MB×Bool×Gt.Kd×J)) (some (.inl (zfe b k,zix b.Ka[k],()))) from (q124 (n+139) _ _ _).trans (s124 (by omega) _ (hb.comps _ (yAy hk))),zaA,zaf hk (by omega)];dsimp only;have hbe:=zdw noC hk (by omega) (λy=>leS b.Ka[k].ref y.ref) true
        rw[show (br (!false) (some (decide (0<(k:Int)))) (some false))=some (bif true then decide (0<(k:Int)) else false) from rfl,zaa,
         show (ob (at? b.Ka (IntKind.i64.wrap ((k:Int) - 1))) λy11=>some (Op.bytesLess b.Ka[k].ref y11.ref||b.Ka[k].ref==y11.ref))=(ob (at? b.Ka (IntKind.i64.wrap ((k:Int) - 1))) λy=>some (leS b.Ka[k].ref y.ref)) from rfl,hbe,zaa]
        unfold zen;rw[hg,zhW,zcU hk];cases h1:zix b.Ka[k] != 0 with
        |true =>rw[zac,cond_true];unfold ffS;rw[if_pos (by simpa using h1)]|false =>rw[zab,cond_false];exact zdK (out:=λc=>(.inr (.inl (zfe b k,c,())):(MB×J)⊕((MB×Int×J)⊕J))) 10 (by decide) λ_=>rfl
       by_cases h0:zen b k≠0;·left;exact ⟨h0,hst.trans (by unfold ffS;rw[if_pos h0])⟩
       ·right;exact ⟨by simpa using h0,_,rfl,hst.trans (by unfold ffS;rw[if_neg h0])⟩) (λM hM=>by
       subst hM;dsimp only;rw[show decide ((b.Ka.length:Int)<len b.Ka)=false from by simp[len],zab]) [] rfl
     obtain ⟨j,hj⟩:=Q8;rw[show zak (σ:=Int×MB×J) (R:=(MB×J)⊕((MB×Int×J)⊕J)) _ (0,[],())=_ from hj];by_cases h0:ff (zen b) b.Ka.length=0
     ·rw[if_neg (by simpa using h0),zaj,h0];dsimp only;rw[show ((0:Int) != 0)=false from rfl,cond_false,show zdh (keq un .str) b.root false (zfe b b.Ka.length)=znV b b.root from rfl];cases znV b b.root with
      |false=>exact ⟨_,rfl⟩|true =>refine ⟨zfe b b.Ka.length,?_⟩;rw[yBS,zab,show @Eq (Option ((MB×Int×J)⊕J)) ((zah (n+140)).l 125 sg125 ((zfe b b.Ka.length,false,b.Kh,()):MB×Bool×List Gt.K6×J)) (some (.inl (zfe b b.Ka.length,ff (zre b) b.Kh.length,()))) from (q125 (n+139) _ _ _).trans (s125 (n+135) b (by omega)),zaA];rfl
     ·rw[if_pos h0,zaU,show (ff (zen b) b.Ka.length != 0)=true from by simpa using h0];exact ⟨_,rfl⟩
theorem s102{n:Nat}(hn:140<=n){b:Gt.Kn}(hb:SmB b):m102 (zah n) b true=some (zfo b,()):=by
 obtain ⟨n,rfl⟩:∃k,n=k+140:=⟨n - 140,by omega⟩;unfold m102
 rw[show @Eq (Option (Bool×J)) ((zah (n+140)).d 143 [.str b.name] [.bool]) (some (zmn b.name,())) from (q143 (n+139) _).trans (s143 _ hb.name),zaa,
  show @Eq (Option (Bool×J)) ((zah (n+140)).d 143 [.str b.Ko] [.bool]) (some (zmn b.Ko,())) from (q143 (n+139) _).trans (s143 _ hb.Ko),zaa]
 rw[zpz];unfold zfo;cases (bif (bif b.name==[] then true else !zmn b.name) then true else !zmn b.Ko) with
 |true=>rfl|false =>
   rw[zab,cond_false,zai,zaa];cases hsz:(bif decide (3000<len b.Ka) then true else decide (20000<len b.Kh)) with
   |true=>rfl|false =>
     have hN:b.Ka.length<=3000/\b.Kh.length<=20000:=by
      cases h1:decide (3000<len b.Ka) with
      |true=>rw[h1] at hsz;cases hsz|false =>rw[h1] at hsz;have h2:=of_decide_eq_false h1;have h3:=of_decide_eq_false (show decide (20000<len b.Kh)=false from hsz);unfold len at h2 h3;omega
     rw[zab,cond_false]
     have hM:=zoW (σ:=Int×MB×J) (R:=(MB×J)⊕(Int×J)) (f:=λ(t6:Int×List (By×(Bool))×J)=>br (decide (t6.1<(len (Gt.Kn.Ka b)))) (ob (at? (Gt.Kn.Ka b) t6.1) λy7=>ob (α:=Int×J) ((zah (n+140)).d 144 [.st 5 y7,.bool true] [I6]) λ(r8:Int×J)=>br (r8.1 != 0) (some (.inr (.inr (r8.1,())))) (ob (br true (some (decide (0<t6.1))) (some false)) λb9=>ob (br b9 (ob (at? (Gt.Kn.Ka b) (IntKind.i64.wrap (t6.1 - 1))) λy10=>some ((Op.bytesLess (Gt.Kd.ref y7) (Gt.Kd.ref y10))||((Gt.Kd.ref y7)==(Gt.Kd.ref y10)))) (some false)) λb11=>br b11 (some (.inr (.inr (10,())))) (some (.inl (IntKind.i64.wrap (t6.1+1),zgw (keq un .str) (Gt.Kd.ref y7) true t6.2.1,()))))) (some (.inr (.inl (t6.2.1,())))))
      (λk M=>((k:Int),M,())) b.Ka.length (zen b) (λc=>.inr (c,())) (.inl (zfe b b.Ka.length,())) (λk M=>M=zfe b k) (λk M hk hM _=>by
       subst hM;have hg:b.Ka.getD k noC=b.Ka[k]:=by simp[yAj,hk]
       have hst:(λ(t6:Int×List (By×(Bool))×J)=>br (decide (t6.1<(len (Gt.Kn.Ka b)))) (ob (at? (Gt.Kn.Ka b) t6.1) λy7=>ob (α:=Int×J) ((zah (n+140)).d 144 [.st 5 y7,.bool true] [I6]) λ(r8:Int×J)=>br (r8.1 != 0) (some (.inr (.inr (r8.1,())))) (ob (br true (some (decide (0<t6.1))) (some false)) λb9=>ob (br b9 (ob (at? (Gt.Kn.Ka b) (IntKind.i64.wrap (t6.1 - 1))) λy10=>some ((Op.bytesLess (Gt.Kd.ref y7) (Gt.Kd.ref y10))||((Gt.Kd.ref y7)==(Gt.Kd.ref y10)))) (some false)) λb11=>br b11 (some (.inr (.inr (10,())))) (some (.inl (IntKind.i64.wrap (t6.1+1),zgw (keq un .str) (Gt.Kd.ref y7) true t6.2.1,()))))) (some (.inr (.inl (t6.2.1,()))))) ((k:Int),zfe b k,())=ffS (λc=>(.inr (c,()):(MB×J)⊕(Int×J))) (((k+1:Nat):Int),zfe b (k+1),()) (zen b k):=by
        dsimp only;rw[show decide ((k:Int)<len b.Ka)=true from by simp[len];exact hk,zac,zan hk,zaa,show @Eq (Option (Int×J)) ((zah (n+140)).d 144 [.st 5 b.Ka[k],.bool true] [I6]) (some (zix b.Ka[k],())) from (q144 (n+139) _ _).trans (s144 (by omega) (hb.comps _ (yAy hk))),zaa,zaf hk (by omega)];dsimp only;have hbe:=zdw noC hk (by omega) (λy=>leS b.Ka[k].ref y.ref) true
        rw[show (br true (some (decide (0<(k:Int)))) (some false))=some (bif true then decide (0<(k:Int)) else false) from rfl,zaa,
         show (ob (at? b.Ka (IntKind.i64.wrap ((k:Int) - 1))) λy11=>some (Op.bytesLess b.Ka[k].ref y11.ref||b.Ka[k].ref==y11.ref))=(ob (at? b.Ka (IntKind.i64.wrap ((k:Int) - 1))) λy=>some (leS b.Ka[k].ref y.ref)) from rfl,hbe,zaa]
        unfold zen;rw[hg,zhW,zcU hk];cases h1:zix b.Ka[k] != 0 with
        |true =>rw[zac,cond_true];unfold ffS;rw[if_pos (by simpa using h1)]|false =>rw[zab,cond_false];exact zdK (out:=λc=>(.inr (c,()):(MB×J)⊕(Int×J))) 10 (by decide) λ_=>rfl
       by_cases h0:zen b k≠0;·left;exact ⟨h0,hst.trans (by unfold ffS;rw[if_pos h0])⟩
       ·right;exact ⟨by simpa using h0,_,rfl,hst.trans (by unfold ffS;rw[if_neg h0])⟩) (λM hM=>by
       subst hM;dsimp only;rw[show decide ((b.Ka.length:Int)<len b.Ka)=false from by simp[len],zab]) [] rfl
     rw[show zak (σ:=Int×MB×J) (R:=(MB×J)⊕(Int×J)) _ (0,[],())=_ from hM];by_cases h0:ff (zen b) b.Ka.length=0
     ·rw[if_neg (by simpa using h0),zaj,h0];dsimp only;rw[show ((0:Int) != 0)=false from rfl,cond_false,show zdh (keq un .str) b.root false (zfe b b.Ka.length)=znV b b.root from rfl];cases znV b b.root with
      |false=>rfl|true =>
        rw[yBS,zab];rw[zb9 b.Kh.length (zre b) (λc=>(.inr (c,()):J⊕(Int×J))) (.inl ()) (λk hk _=>?_) ?_];·exact zgF
        ·simp[zao,zab]
        ·have hg:b.Kh.getD k noE=b.Kh[k]:=(by simp[yAj,hk]);rw[<-zm8 hk (by omega),hg];dsimp only;rw[show decide ((k:Int)<len b.Kh)=true from by simp[len];exact hk,zac,zan hk,zaa,zaf hk (by omega),zai,zaa,zai,zaa];simp only[L88 (n+138),zaa];rfl
     ·rw[if_pos h0,zaU,show (ff (zen b) b.Ka.length != 0)=true from by simpa using h0];rfl
theorem L40{n:Nat}(hn:150<=n){b:Gt.Kn}(hb:SmB b): @Eq (Option (Int×J)) ((zah n).d 40 [.st 3 b] [I6]) (some (zfo b,())):=by obtain ⟨n,rfl⟩:∃k,n=k+150:=⟨n - 150,by omega⟩;refine (q40 (n+149) b).trans ?_;unfold m40;obtain ⟨M,hM⟩:=s80 (n:=n+148) (by omega) hb;rw[show @Eq (Option ((MB×Int×J)⊕J)) ((zah (n+149)).l 80 sg80 (([],false,b,()):MB×Bool×Gt.Kn×J)) (some (.inl (M,zfo b,()))) from (q80 (n+148) _ _ _).trans hM,zaA]
theorem L54{n:Nat}(hn:150<=n){b:Gt.Kn}(hb:SmB b): @Eq (Option (Int×J)) ((zah n).d 54 [.st 3 b] [I6]) (some (zfo b,())):=by obtain ⟨n,rfl⟩:∃k,n=k+150:=⟨n - 150,by omega⟩;refine (q54 (n+149) b).trans ?_;unfold m54;rw[show @Eq (Option (Int×J)) ((zah (n+149)).d 102 [.st 3 b,.bool true] [I6]) (some (zfo b,())) from (q102 (n+148) _ _).trans (s102 (by omega) hb),zaa]
theorem zmL(b:Gt.Kn):∀(k:Nat)(r:By),zdh (keq un .str) r false (zfe b k)=true↔∃j,j<k/\cR b j=r
 |0,r=>by simp[zfe,zdh]
 |k+1,r=>by
   rw[zhW];have h1:=zhT (eq:=keq un .str) zeG (cR b k) r true false (zfe b k);rw[show zdh (keq un .str) r false (zgw (keq un .str) (cR b k) true (zfe b k))=_ from h1];cases he:keq un .str r (cR b k) with
   |true =>have:=(zeG _ _).1 he;simp only[cond_true,true_iff];exact ⟨k,by omega,this.symm⟩
   |false =>
     rw[cond_false,zmL b k r];constructor
     ·rintro ⟨j,h2,h3⟩;exact ⟨j,by omega,h3⟩
     ·rintro ⟨j,h2,h3⟩
      by_cases hjk:j=k;·subst hjk;have:=(zeG r (cR b j)).2 h3.symm;rw[he] at this;cases this
      ·exact ⟨j,by omega,h3⟩
theorem zj0(b:Gt.Kn)(r:By):znV b r=true↔zbm b r:=zmL b _ r
theorem zo5{a b:By}(h:leS a b=false):b<a:=by
 unfold leS at h;rw[zgX] at h;simp only[yBl,decide_eq_false_iff_not] at h;have hne:a≠b:=by simpa using h.2
 rcases Classical.em (b<a) with h1|h1;·exact h1
 ·exact absurd (zly.eq a b (by rw[zc4];exact h.1) (by rw[zc4];exact h1)) hne
theorem zqR{a b:Gt.K6}(h:zpV a b<0):a.from_<b.from_\/(a.from_=b.from_/\(a.to<b.to\/(a.to=b.to/\a.scope<b.scope))):=by
 have hz:∀{x y:By},cS x y=0->x=y:=λ{x y} h0=>zly.eq x y (by omega) (by
  intro h2;rw[zc4] at h2;unfold cS at h0;by_cases h1:x<y;·rw[if_pos h1] at h0;omega
  ·rw[if_neg h1,if_pos h2] at h0;omega)
 unfold zpV at h;by_cases h1:cS a.from_ b.from_=0
 ·rw[if_neg (by simpa using h1)] at h;right;refine ⟨hz h1,?_⟩;by_cases h2:cS a.to b.to=0
  ·rw[if_neg (by simpa using h2)] at h;right;refine ⟨hz h2,?_⟩;unfold sgI at h;by_cases h3:a.scope<b.scope;·exact h3
   ·rw[if_neg h3] at h;split at h<;>omega
  ·rw[if_pos h2] at h;left;exact (zc4 _ _).1 h
 ·rw[if_pos h1] at h;left;exact (zc4 _ _).1 h
theorem zc5{b:Bool}{c x:Int}(hc:c≠0)(h:(bif b then c else x)=0):b=false/\x=0:=by
 cases b with
 |true=>exact absurd h hc|false=>exact ⟨rfl,h⟩
theorem zni{a x:Int}(h:(bif a != 0 then a else x)=0):a=0/\x=0:=by
 cases hb:a != 0 with
 |true=>rw[hb] at h;have:a=0:=h;rw[this] at hb;cases hb
 |false=>rw[hb] at h;exact ⟨by simpa using hb,h⟩
theorem zeo{b:Gt.Kn}(h:zfo b=0):Right b:=by
 unfold zfo at h;obtain ⟨_,h⟩:=zc5 (by decide) h;obtain ⟨hsz,h⟩:=zc5 (by decide) h;obtain ⟨hc,h⟩:=zni h;obtain ⟨hr,he⟩:=zc5 (by decide) h;have hN:b.Ka.length<=3000/\b.Kh.length<=20000:=by
  cases h1:decide (3000<len b.Ka) with
  |true=>rw[h1] at hsz;cases hsz|false =>rw[h1] at hsz;have h2:=of_decide_eq_false h1;have h3:=of_decide_eq_false (show decide (20000<len b.Kh)=false from hsz);unfold len at h2 h3;omega
 have hC:∀k,k+1<b.Ka.length->cR b k<cR b (k+1):=λk hk=>by have h1:=zsV hc hk;unfold zen at h1;obtain ⟨_,h1⟩:=zni h1;obtain ⟨h1,_⟩:=zc5 (by decide) h1;rw[show decide (0<((k+1:Nat):Int))=true from by simp,cond_true,yCf] at h1;have:=zo5 h1;rw[zcU hk,zcU (by omega)];simpa[yAj,hk,show k<b.Ka.length by omega] using this
 have hE:∀k,k<b.Kh.length->(1<=eS b k/\eS b k<=4)/\(zbm b (eF b k)/\zbm b (eT b k)/\eF b k≠eT b k)/\(0<k->zpV (b.Kh.getD (k - 1) noE) (b.Kh.getD k noE)<0):=λk hk=>by
  have h1:=zsV he hk;unfold zre at h1;rw[show b.Kh.getD k noE=b.Kh[k] from by simp[yAj,hk]] at h1;obtain ⟨g1,h1⟩:=zc5 (by decide) h1;obtain ⟨g2,h1⟩:=zc5 (by decide) h1;obtain ⟨g3,h1⟩:=zc5 (by decide) h1;obtain ⟨g4,_⟩:=zc5 (by decide) h1;rw[zgV hk,zfY hk,zfX hk];refine ⟨?_,⟨?_,?_,by simpa using g3⟩,λh0=>?_⟩
  ·cases h5:decide (b.Kh[k].scope<1) with
   |true=>rw[h5] at g1;cases g1|false =>rw[h5] at g1;have h6:=of_decide_eq_false h5;have h7:=of_decide_eq_false (show decide (4<b.Kh[k].scope)=false from g1);omega
  ·rw[<-zj0];cases h5:znV b b.Kh[k].from_ with
   |true=>rfl|false=>rw[h5] at g2;cases g2
  ·rw[<-zj0];cases h5:znV b b.Kh[k].from_ with
   |true =>
     rw[h5] at g2;cases h6:znV b b.Kh[k].to with
     |true=>rfl|false=>rw[h6] at g2;cases g2
   |false=>rw[h5] at g2;cases g2
  ·rw[show decide (0<((k:Nat):Int))=true from by simp;omega,cond_true] at g4;have:=of_decide_eq_false g4;rw[show b.Kh.getD k noE=b.Kh[k] from by simp[yAj,hk]];omega
 have tr:∀{x y z:By},x<y->y<z->x<z:=λh h'=>yCa h h';refine ⟨hN.1,hN.2,λi j hij hj=>?_,(zj0 b b.root).1 (by simpa using hr),λk hk=>(hE k hk).2.1,λk hk=>(hE k hk).1,λi j hij hj=>?_⟩
 ·induction j with
  |zero=>omega|succ j ih =>
    rcases yBJ (Nat.le_of_lt_succ hij) with rfl|h1;·exact hC i hj
    ·exact tr (ih h1 (by omega)) (hC j hj)
 ·have st:∀k,k+1<b.Kh.length->eF b k<eF b (k+1)\/(eF b k=eF b (k+1)/\(eT b k<eT b (k+1)\/(eT b k=eT b (k+1)/\eS b k<eS b (k+1)))):=λk hk=>by
   have:=zqR ((hE (k+1) hk).2.2 (by omega));rw[yCf] at this;rw[zfY hk,zfX hk,zgV hk,zfY (show k<b.Kh.length by omega),zfX (show k<b.Kh.length by omega),zgV (show k<b.Kh.length by omega)];simpa[yAj,hk,show k<b.Kh.length by omega] using this
  induction j with
  |zero=>omega|succ j ih =>
    rcases yBJ (Nat.le_of_lt_succ hij) with rfl|h1;·exact st i hj
    ·have a1:=ih h1 (by omega);have a2:=st j hj;rcases a1 with a1|⟨a1,a3⟩
     ·rcases a2 with a2|⟨a2,_⟩;·exact .inl (tr a1 a2)
      ·exact .inl (a2▸a1)
     ·rcases a2 with a2|⟨a2,a4⟩;·exact .inl (a1▸a2)
      ·refine .inr ⟨a1.trans a2,?_⟩;rcases a3 with a3|⟨a3,a5⟩
       ·rcases a4 with a4|⟨a4,_⟩;·exact .inl (tr a3 a4)
        ·exact .inl (a4▸a3)
       ·rcases a4 with a4|⟨a4,a6⟩;·exact .inl (a3▸a4)
        ·exact .inr ⟨a3.trans a4,by omega⟩
end Pe.Tryz
end
