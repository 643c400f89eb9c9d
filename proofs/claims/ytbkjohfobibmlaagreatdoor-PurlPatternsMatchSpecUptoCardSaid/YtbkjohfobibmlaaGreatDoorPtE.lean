/- PROVED HERE: a part of the seat's proofs; see the text that holds the claim's theorem. -/
import Derived.Test.YtbkjohfobibmlaaGreatDoorNm
import Derived.Test.YtbkjohfobibmlaaGreatDoorPtC
section
/- Plain words of names: letters, escapes, small letters, dashes; and the models of the functions that tell them. -/
set_option maxRecDepth 100000
namespace Pe.Tryz
open Go Go.Proofs Pe Pe.Told
theorem all8{p:UInt8->Bool}(h:((List.range 256).all λn=>p (UInt8.ofNat n))=true)(c:UInt8):p c=true:=by have:=yAY.1 h c.toNat (by simpa using c.toNat_lt);simpa using this
theorem eq8{α:Type}[DecidableEq α]{f g:UInt8->α}(h:((List.range 256).all λn=>decide (f (UInt8.ofNat n)=g (UInt8.ofNat n)))=true)(c:UInt8):f c=g c:=by have:=all8 (p:=λc=>decide (f c=g c)) h c;simpa using this
def zcg(c:UInt8):Bool:=c==45||c==95||c==46
def ctl(c:UInt8):Bool:=decide (c<32)||c==127
def low(c:UInt8):UInt8:=bif decide (65<=c)&&decide (c<=90) then c+32 else c
def zka(c:UInt8)(first:Bool):Bool:=decide (97<=c)&&decide (c<=122)||(!first&&(decide (48<=c)&&decide (c<=57)||c==46||c==45||c==95))
def zaY(s:List UInt8):List UInt8:=s.map low
def zdv:Bool->List UInt8->List UInt8|_,[]=>[]|b,c::r=>bif zcg c then (bif b then [] else [45])++zdv true r else c::zdv false r
theorem s110(o:Orc Sx)(c:UInt8):m110 o (c.toNat:Int)=some (zcg c,()):=by simp only[m110,zaa,zav];exact congrArg some (Prod.ext (eq8 (f:=λc=>bif (bif ((c.toNat:Int)==45) then true else ((c.toNat:Int)==95)) then true else ((c.toNat:Int)==46)) (g:=zcg) (by decide+kernel) c) rfl)
theorem s139(o:Orc Sx)(c:UInt8)(f:Bool):m139 o (c.toNat:Int) f=some (zka c f,()):=by
 cases f;·exact eq8 (f:=λc=>m139 o (c.toNat:Int) false) (g:=λc=>some (zka c false,())) (by kernel_rfl) c
 ·exact eq8 (f:=λc=>m139 o (c.toNat:Int) true) (g:=λc=>some (zka c true,())) (by kernel_rfl) c
def zcG(c:UInt8):Bool:=decide (97<=c)&&decide (c<=122)||decide (65<=c)&&decide (c<=90)
theorem s123(o:Orc Sx)(c:UInt8):m123 o (c.toNat:Int)=some (zcG c,()) :=
 eq8 (f:=λc=>m123 o (c.toNat:Int)) (g:=λc=>some (zcG c,())) (by kernel_rfl) c
theorem L110(n:Nat)(c:UInt8): @Eq (Option (Bool×Unit)) ((zal (n+1)).d 110 [.int .u8 (c.toNat:Int)] [.bool]) (some (zcg c,())):=(q110 n _).trans (s110 _ c)
theorem L139(n:Nat)(c:UInt8)(f:Bool): @Eq (Option (Bool×Unit)) ((zal (n+1)).d 139 [.int .u8 (c.toNat:Int),.bool f] [.bool]) (some (zka c f,())):=(q139 n _ _).trans (s139 _ c f)
theorem L123(n:Nat)(c:UInt8): @Eq (Option (Bool×Unit)) ((zal (n+1)).d 123 [.int .u8 (c.toNat:Int)] [.bool]) (some (zcG c,())):=(q123 n _).trans (s123 _ c)
theorem L47(n:Nat)(s:List UInt8)(c:Int): @Eq (Option (Int×Unit)) ((zal (n+1)).d 47 [.str s,.int .u8 c] [.int .i64]) (some (Lib.indexByte s (UInt8.ofNat (Int.toNat c)),())):=znV n s c _ rfl
theorem L63(n:Nat)(s:List UInt8)(c:UInt8): @Eq (Option (Bool×Unit)) ((zal (n+1)).d 63 [.str s,.str [c]] [.bool]) (some (decide (0<=Lib.indexByte s c),())):=by kernel_rfl
theorem L100(n:Nat){s:List UInt8}(c:UInt8)(h:s.length<=4000000000): @Eq (Option (List (List UInt8)×Unit)) ((zal (n+1)).d 100 [.str s,.str [c]] [(.cs .str)]) (some (zb2 c s,())) :=
 zqt n s [c] _ (by show (bif Nat.ble s.length 4000000000 then some (zb2 c s,()) else none)=_;rw[show Nat.ble s.length 4000000000=true by rw[yAX];exact h];rfl)
theorem zfq(s:List UInt8):zdM (zah s)=s:=by simp[zdM,zah,Function.comp_def]
theorem zn9(s:List UInt8):zrS (zah s)=some s:=by
 unfold zrS;have:((zah s).all λn=>decide (0<=n)&&decide (n<256))=true:=by rw[yAY];intro x hx;simp only[zah,yAM] at hx;obtain ⟨c,_,rfl⟩:=hx;have:=c.toNat_lt;simp;omega
 rw[this,zfq];rfl
theorem zl0(a b:List UInt8):zah (a++b)=zah a++zah b:=by simp[zah]
theorem zbi(a:List UInt8):(zah a).length=a.length:=by simp[zah]
theorem zjN{a b:List UInt8}(h:a.length+b.length<=lim):zbf (zah a) (zah b)=some (zah (a++b)):=by rw[zbj (by simpa[zbi] using h),zl0]
theorem zcm{α:Type}(s:List α)(h:s.length<=lim):zbf [] s=some s:=by rw[zbj (by simpa using h)];rfl
theorem zr8(c:UInt8):(bif decide ((c.toNat:Int)<32) then true else ((c.toNat:Int)==127))=ctl c :=
 eq8 (f:=λc=>bif decide ((c.toNat:Int)<32) then true else ((c.toNat:Int)==127)) (g:=ctl) (by decide+kernel) c
theorem zl5(s:List UInt8)(p:UInt8->Bool):((List.range s.length).any λk=>p (s.getD k 0))=s.any p:=by
 rw[yBE];simp only[yBc,yBC];constructor
 ·rintro ⟨k,hk,h⟩
  refine ⟨s[k],yBg hk,?_⟩;simpa[yAE,hk] using h
 ·rintro ⟨x,hx,h⟩
  obtain ⟨k,hk,rfl⟩:=List.getElem_of_mem hx;exact ⟨k,hk,by simpa[yAE,hk] using h⟩
theorem s49(o:Orc Sx){s:List UInt8}(h:s.length<=1000000000):m49 o s=some (s.any ctl,()):=by
 unfold m49;rw[zcF s.length (λk=>ctl (s.getD k 0)) (.inr (true,())) (.inl ()) (λk hk=>?_) ?_,zl5];·cases s.any ctl<;>rfl
 ·simp[zaW,zab]
 ·simp only[zaW,hk,decide_true,zaX hk,zaa,zav,zr8,zaD hk (by omega)];cases h2:ctl s[k]<;>simp[hk,h2]
theorem s65(o:Orc Sx){s:List UInt8}(h:s.length<=1000000000):m65 o s=some (!s.any ctl,()):=by
 unfold m65;rw[zcF s.length (λk=>ctl (s.getD k 0)) (.inr (false,())) (.inl ()) (λk hk=>?_) ?_,zl5];·cases s.any ctl<;>rfl
 ·simp[zaW,zab]
 ·simp only[zaW,hk,decide_true,zaX hk,zaa,zav,zr8,zaD hk (by omega)];cases h2:ctl s[k]<;>simp[hk,h2]
end Pe.Tryz
end
section
/- The models of the functions on texts of names: qualifiers' names, segments, small letters, dashes, escapes, paths. -/
set_option maxRecDepth 100000
namespace Pe.Tryz
open Go Go.Proofs Pe Pe.Told
theorem zi1{α:Type}{X P:Bool}{a b:α}(h:X=P):some (bif X then a else b)=if P=true then some a else some b:=by subst h;cases X<;>rfl
theorem zb6{α:Type}(s:List α)(d:α)(p:α->Bool):((List.range s.length).any λk=>p (s.getD k d))=s.any p:=by
 rw[yBE];simp only[yBc,yBC];constructor
 ·rintro ⟨k,hk,h⟩
  refine ⟨s[k],yBg hk,?_⟩;simpa[yAE,hk] using h
 ·rintro ⟨x,hx,h⟩
  obtain ⟨k,hk,rfl⟩:=List.getElem_of_mem hx;exact ⟨k,hk,by simpa[yAE,hk] using h⟩
theorem zbO{α:Type}{s:List α}{k:Nat}(d:α)(h:k<s.length):s.getD k d=s[k]:=by simp[h]
theorem zaA{σ R:Type}{x:Option (σ⊕R)}{r:σ⊕R}{g:σ->Option R}{y:Option R}(h:x=some r)(h2:zaJ (some r) g=y):zaJ x g=y:=by rw[h,h2]
def zmB(s:List UInt8):Bool:=bif (List.range s.length).any (λk=> !zka (s.getD k 0) ((k:Int)==0)) then false else s != []
theorem s102(n:Nat){s:List UInt8}(h:s.length<=1000000000):m102 (zal (n+1)) s=some (zmB s,()):=by
 unfold m102;rw[zcF s.length (λk=> !zka (s.getD k 0) ((k:Int)==0)) (.inr (false,())) (.inl ()) (λk hk=>?_) ?_];·unfold zmB;cases (List.range s.length).any (λk=> !zka (s.getD k 0) ((k:Int)==0))<;>rfl
 ·simp[zaW,zab]
 ·simp only[zaW,hk,decide_true,zad,zaX hk,zaa,L139,zaD hk (by omega),zbO 0 hk];rw[zth]
theorem s64(o:Orc Sx){s:List UInt8}(h:s.length<=1000000000):m64 o s=some (zmB s,()):=by
 unfold m64;rw[zcF s.length (λk=> !zka (s.getD k 0) ((k:Int)==0)) (.inr (false,())) (.inl ()) (λk hk=>?_) ?_];·unfold zmB;cases (List.range s.length).any (λk=> !zka (s.getD k 0) ((k:Int)==0))<;>rfl
 ·simp[zaW,zab]
 ·simp only[zaW,hk,decide_true,zaX hk,zaa,zaD hk (by omega),zbO 0 hk,zav,cond_true];refine zi1 ?_;generalize s[k]=c;generalize ((k:Int)==0)=f;cases f;·revert c;exact eq8 (by decide+kernel)
  ·revert c;exact eq8 (by decide+kernel)
def zdf(s:List UInt8):List (List UInt8):=bif s==[] then [] else zb2 47 s
theorem s46(n:Nat){s:List UInt8}(h:s.length<=1000000000):m46 (zal (n+1)) s=some (zdf s,()):=by unfold m46 zdf;rw[L100 n 47 (by omega)];cases (s==[])<;>rfl
theorem s68(n:Nat){s:List UInt8}(h:s.length<=1000000000):m68 (zal (n+1)) s=some (zdf s,()):=by unfold m68 zdf;rw[L100 n 47 (by omega)];cases (s==[])<;>rfl
def zfU(dots:Bool)(x:List UInt8):Bool:=bif x==[] then true else bif dots then (bif x==[46] then true else x==[46,46]) else false
def zbc(l:List (List UInt8))(dots:Bool):Bool:=bif l.any (zfU dots) then true else decide (10<len l)
theorem s45(o:Orc Sx){l:List (List UInt8)}(dots:Bool)(h:l.length<=1000000000):m45 o l dots=some (zbc l dots,()):=by
 unfold m45;rw[zcF l.length (λk=>zfU dots (l.getD k [])) (.inr (true,())) (.inl ()) (λk hk=>?_) ?_,zb6];·unfold zbc;cases l.any (zfU dots)<;>rfl
 ·simp[zaW,zab]
 ·simp only[zaW,hk,decide_true,zaX hk,zaa,zaD hk (by omega),zbO [] hk,zav,cond_true];exact zi1 rfl
theorem s62(n:Nat){s:List UInt8}(dots:Bool)(h:s.length<=1000000000)(h2:(zdf s).length<=1000000000):m62 (zal (n+2)) s dots=some (zbc (zdf s) dots,()):=by
 unfold m62;rw[show (zal (n+2)).d 68 [.str s] [(.sl .str)]=_ from (q68 (n+1) s).trans (s68 n h)];simp only[zaa];generalize zdf s=l at h2;rw[zcF l.length (λk=>zfU dots (l.getD k [])) (.inr (true,())) (.inl ()) (λk hk=>?_) ?_,zb6];·unfold zbc;cases l.any (zfU dots)<;>rfl
 ·simp[zaW,zab]
 ·simp only[zaW,hk,decide_true,zaX hk,zaa,zaD hk (by omega),zbO [] hk,zav,cond_true];exact zi1 rfl
end Pe.Tryz
end
section
/- The models: small letters, dashes, paths. -/
set_option maxRecDepth 100000
namespace Pe.Tryz
open Go Go.Proofs Pe Pe.Told
theorem low1(c:UInt8):(bif (bif decide (65<=(c.toNat:Int)) then decide ((c.toNat:Int)<=90) else false) then IntKind.u8.wrap ((IntKind.u8.wrap ((c.toNat:Int)+97)) - 65) else (c.toNat:Int))=((low c).toNat:Int) :=
 eq8 (f:=λc=>(bif (bif decide (65<=(c.toNat:Int)) then decide ((c.toNat:Int)<=90) else false) then IntKind.u8.wrap ((IntKind.u8.wrap ((c.toNat:Int)+97)) - 65) else (c.toNat:Int))) (g:=λc=>((low c).toNat:Int)) (by decide+kernel) c
theorem low2(c:UInt8):(bif (bif decide (65<=(c.toNat:Int)) then decide ((c.toNat:Int)<=90) else false) then IntKind.u8.wrap ((c.toNat:Int)+32) else (c.toNat:Int))=((low c).toNat:Int) :=
 eq8 (f:=λc=>(bif (bif decide (65<=(c.toNat:Int)) then decide ((c.toNat:Int)<=90) else false) then IntKind.u8.wrap ((c.toNat:Int)+32) else (c.toNat:Int))) (g:=λc=>((low c).toNat:Int)) (by decide+kernel) c
def zi8(s:List UInt8)(k:Nat):List Int:=zah ((s.take k).map low++s.drop k)
theorem zgo(s:List UInt8)(k:Nat):(zi8 s k).length=s.length:=by simp[zi8,zah];omega
theorem zkm{s:List UInt8}{k:Nat}(h:k<s.length):zdJ (zi8 s k) k=some ((s[k]).toNat:Int):=by
 unfold zdJ zi8;have hl:((s.take k).map low).length=k:=by simp;omega
 rw[zah,yAg,yAz (by omega),hl];simp[h]
theorem zgn{s:List UInt8}{k:Nat}(h:k<s.length):zi8 s (k+1)=(zi8 s k).set k ((low s[k]).toNat:Int):=by
 apply yAV;intro i;have hl:((s.take k).map low).length=k:=by simp;omega
 have hl2:((s.take (k+1)).map low).length=k+1:=by simp;omega
 rw[List.getElem?_set];by_cases hi:k=i;·subst hi;rw[if_pos rfl,if_pos (by rw[zgo];exact h)];simp only[zi8,zah,yAg];rw[yAk (by omega)];simp[h]
 ·rw[if_neg hi];simp only[zi8,zah,yAg];by_cases hlt:i<k;·rw[yAk (by omega),yAk (by omega)];simp[hlt,show i<k+1 by omega]
  ·rw[yAz (by omega),yAz (by omega),hl,hl2];simp[show k+1+(i - (k+1))=i by omega,show k+(i - k)=i by omega]
theorem ziH{s:List UInt8}{k:Nat}(h:k<s.length)(hc:(bif decide (65<=((s[k]).toNat:Int)) then decide (((s[k]).toNat:Int)<=90) else false)=false):zi8 s (k+1)=zi8 s k:=by
 rw[zgn h,<-low1,hc];have:=zkm h;unfold zdJ at this;apply yAV;intro i;rw[List.getElem?_set];by_cases hi:k=i;·subst hi;rw[if_pos rfl,if_pos (by rw[zgo];exact h),this];rfl
 ·rw[if_neg hi]
theorem zkl(s:List UInt8):zdM (zi8 s s.length)=zaY s:=by simp[zi8,zaY,zfq]
theorem zkk{α:Type}{l:List α}{k:Nat}(h:k<l.length):zdU l (k:Int)=some k:=by show (bif Nat.blt k l.length then some k else none)=_;rw[show Nat.blt k l.length=true by simpa[yA4] using h];rfl
theorem s57(o:Orc Sx){s:List UInt8}(h:s.length<=1000000000):m57 o s=some (zaY s,()):=by
 unfold m57;rw[zcm s (by simp[lim];omega)];simp only[zaa];refine zaA (zec (A:=Unit) (λk _=>((k:Int),zi8 s k,())) s.length (λ_ _=>.inl (zi8 s s.length,())) (λ_ _=>True) (λk _ hk _=>?_) 0 () (yAD _) trivial) ?_
 ·by_cases hlt:k<s.length
  ·left;refine ⟨(),hlt,?_,trivial,rfl⟩;simp only[len,zbi,yCy,hlt,decide_true,zkk (show k<(zi8 s k).length by rw[zgo];exact hlt),zaa,zkm hlt,zav,zaD hlt (by omega)];have:=zgn hlt;rw[<-low1] at this;cases hc:(bif decide (65<=((s[k]).toNat:Int)) then decide (((s[k]).toNat:Int)<=90) else false) with
   |true=>rw[hc] at this;rw[this];rfl|false=>rw[ziH hlt hc];rfl
  ·right;obtain rfl:k=s.length:=by omega
   simp[len,zbi,zab]
 ·simp only[zai,zkl]
def zf1(s:List UInt8)(k:Nat):Bool:=k != 0&&zcg (s.getD (k - 1) 0)
theorem zdO{s:List UInt8}{k:Nat}(h:k<s.length):zf1 s (k+1)=zcg s[k]:=by simp[zf1,h]
theorem zdZ{s:List UInt8}{k:Nat}(h:k<s.length):zdv (zf1 s k) (s.drop k)=(bif zcg s[k] then (bif zf1 s k then [] else [45]) else [s[k]])++zdv (zf1 s (k+1)) (s.drop (k+1)):=by rw[yAI h,zdO h];cases hc:zcg s[k]<;>simp[zdv,hc]
theorem cat1{b:List UInt8}{c:UInt8}(h:b.length+1<=lim):zbf (zah b) [(c.toNat:Int)]=some (zah (b++[c])):=zjN (b:=[c]) h
theorem zuf{b:List UInt8}(h:b.length+1<=lim):zbf (zah b) [45]=some (zah (b++[45])):=zjN (b:=[45]) h
theorem s58(n:Nat){s:List UInt8}(h:s.length<=1000000000):m58 (zal (n+1)) s=some (zdv false s,()):=by
 unfold m58;refine zaA (zec (A:=List UInt8) (λk b=>((k:Int),zah b,())) s.length (λk b=>.inl (zah (b++zdv (zf1 s k) (s.drop k)),())) (λk b=>b.length<=k) (λk b hk hb=>?_) 0 [] (yAD _) (by simp)) ?_
 ·by_cases hlt:k<s.length
  ·left;have hl:b.length+1<=lim:=by simp[lim];omega
   simp only[zaW,hlt,decide_true,zad,zaX hlt,zaa,zaD hlt (by omega),L110];have hcond:∀{β:Type}(g:Bool->Option β),ob (br ((k:Int)==0) (some true) (ob (at? s (IntKind.i64.wrap ((k:Int) - 1))) λc11=>(some (!zcg c11)))) g=g (!zf1 s k):=by
    intro β g;cases k with
    |zero=>rfl|succ k =>
      have hk':k<s.length:=(by omega);have:(((k+1:Nat):Int)==0)=false:=by simp;omega
      rw[this,zbT (by omega) (by omega),show ((k+1:Nat):Int) - 1=(k:Int) by omega];simp only[zab,zaX hk',zaa,zdO hk']
   cases hc:zcg s[k] with
   |false =>
     refine ⟨b++[s[k]],trivial,?_,by simp;omega,?_⟩;·simp only[yAU,zad,cat1 hl,zaa]
     ·rw[zdZ hlt,hc];simp
   |true =>
     cases hp:zf1 s k with
     |false =>
       refine ⟨b++[45],trivial,?_,by simp;omega,?_⟩;·simp only[yA7,zab];refine (hcond _).trans ?_;simp only[hp,yAU,zad,zuf hl,zaa]
       ·rw[<-hp,zdZ hlt,hc,hp];simp
     |true =>
       refine ⟨b,trivial,?_,by omega,?_⟩;·simp only[yA7,zab];refine (hcond _).trans ?_;simp only[hp,yA7,zab]
       ·rw[<-hp,zdZ hlt,hc,hp];simp
  ·right;obtain rfl:k=s.length:=by omega
   simp[zaW,zab,zdv]
 ·simp[zai,zn9,zaa,zf1]
def zsQ(b:List UInt8):Bool:=b.getLast? ==some 45
theorem ziA(b:List UInt8)(c:UInt8):zsQ (b++[c])=(c==45):=by simp[zsQ]
theorem zub(c:UInt8)(h:zcg c=false):(c==45)=false:=by
 cases h2:(c==45) with
 |false=>rfl|true=>rw[show zcg c=true by simp[zcg,h2]] at h;cases h
end Pe.Tryz
end
section
/- What is right of a name: both checks answer the same. -/
set_option maxRecDepth 100000
namespace Pe.Tryz
open Go Go.Proofs Pe Pe.Told
theorem zly{σ R:Type}{f:σ->Option (σ⊕R)}(mk:Nat->σ)(n:Nat)(p:Nat->Bool)(yes no:R)
  (h:∀k,k<n->f (mk k)=if p k=true then some (.inr yes) else some (.inl (mk (k+1))))
  (he:f (mk n)=some (.inr no)):zau f (mk 0)=some (bif (List.range n).any p then yes else no):=by
 refine zec (A:=Unit) (λk _=>mk k) n (λ_ _=>bif (List.range n).any p then yes else no) (λk _=>∀j,j<k->p j=false) (λk _ hk hI=>?_) 0 () (yAD _) (λj hj=>by omega);by_cases hlt:k<n
 ·cases hp:p k with
  |true =>right;have:(List.range n).any p=true:=yBc.2 ⟨k,by simpa using hlt,hp⟩;show f (mk k)=_;rw[h k hlt,hp,this];rfl
  |false =>
    left;refine ⟨(),hlt,by rw[h k hlt,hp];rfl,λj hj=>?_,rfl⟩;by_cases hjk:j=k;·subst hjk;exact hp
    ·exact hI j (by omega)
 ·right;obtain rfl:k=n:=by omega
  have:(List.range k).any p=false:=by rw[yBw];intro x hx;simpa using hI x (by simpa using hx)
  rw[he,this];rfl
theorem ziP{σ R:Type}{A:Bool}{x:R}{y:σ}{g:σ->Option R}:zaJ (some (bif A then .inr x else .inl y)) g=br A (some x) (g y):=by cases A<;>rfl
def big(s:List UInt8):Bool:=decide (200<len s)
def zfF(p:Gt.Purl):List (List UInt8):=[p.space,p.name,p.version,p.sub]
def zgg(q:Gt.Pair):Bool:=bif big q.name then true else big q.value
def zev(p:Gt.Purl):Bool:=bif (zfF p).any big then true else bif p.qualifiers.any zgg then true else decide (10<len p.qualifiers)
theorem zjR{s:List UInt8}(h:big s=false):s.length<=200:=by have:=of_decide_eq_false h;unfold len at this;omega
structure Tiny (p:Gt.Purl):Prop where
 space:p.space.length<=200
 name:p.name.length<=200
 version:p.version.length<=200
 sub:p.sub.length<=200
 quals:p.qualifiers.length<=10
 each:∀q∈p.qualifiers,q.name.length<=200/\q.value.length<=200
theorem zrp{q:Gt.Pair}(h:zgg q=false):q.name.length<=200/\q.value.length<=200:=by
 unfold zgg at h;cases h1:big q.name with
 |true=>rw[h1] at h;cases h|false=>rw[h1] at h;exact ⟨zjR h1,zjR h⟩
theorem tiny{p:Gt.Purl}(h:zev p=false):Tiny p:=by
 unfold zev at h;cases h1:(zfF p).any big with
 |true=>rw[h1] at h;cases h|false =>
   rw[h1] at h;cases h2:p.qualifiers.any zgg with
   |true=>rw[h2] at h;cases h|false =>
     rw[h2] at h;simp only[zfF,yCh,List.any_nil,yCj,yBv] at h1;refine ⟨zjR h1.1,zjR h1.2.1,zjR h1.2.2.1,zjR h1.2.2.2,?_,λq hq=>zrp ?_⟩;·have:=of_decide_eq_false h;unfold len at this;omega
     ·have:=yBw.1 h2 q hq;simpa using this
theorem s61(o:Orc Sx){l:List (List UInt8)}(h:l.length<=1000000000):m61 o l=some (l.any big,()):=by
 unfold m61;rw[zcF l.length (λk=>big (l.getD k [])) (.inr (true,())) (.inl ()) (λk hk=>?_) ?_,zb6];·cases l.any big<;>rfl
 ·simp[zaW,zab]
 ·simp only[zaW,hk,decide_true,zad,zaX hk,zaa,zaD hk (by omega),zbO [] hk];rw[zth];rfl
theorem L61(n:Nat){l:List (List UInt8)}(h:l.length<=1000000000): @Eq (Option (Bool×Unit)) ((zal (n+1)).d 61 [.sl .str l] [.bool]) (some (l.any big,())):=(q61 n _).trans (s61 _ h)
abbrev zeu:Gt.Pair:=⟨[],[]⟩
theorem s44(o:Orc Sx){p:Gt.Purl}(h:p.qualifiers.length<=1000000000):m44 o p=some (zev p,()):=by
 unfold m44;refine zaA (r:=bif (zfF p).any big then .inr (true,()) else .inl ()) ((zly (λk=>(zfF p,(k:Int),())) 4 (λk=>big ((zfF p).getD k [])) (.inr (true,())) (.inl ()) (λk hk=>?_) ?_).trans ?_) ?_;·have hk':k<(zfF p).length:=hk;simp only[show len [p.space,p.name,p.version,p.sub]=((4:Nat):Int) from rfl,yCy,hk,decide_true,zad,zaX hk',zaa,zaD hk (by omega),zbO [] hk'];rw[zth];rfl
 ·rfl
 ·rw[show (List.range 4)=List.range (zfF p).length from rfl,zb6]
 ·rw[ziP];unfold zev;cases (zfF p).any big with
  |true=>rfl|false =>
    simp only[zab,cond_false];rw[zcF p.qualifiers.length (λk=>zgg (p.qualifiers.getD k zeu)) (.inr (true,())) (.inl ()) (λk hk=>?_) ?_,zb6,ziP];·cases p.qualifiers.any zgg<;>rfl
    ·simp[zaW,zab]
    ·simp only[zaW,hk,decide_true,zaX hk,zaa,zaD hk (by omega),zbO zeu hk,zav,cond_true];exact zi1 rfl
theorem L44(n:Nat){p:Gt.Purl}(h:p.qualifiers.length<=1000000000): @Eq (Option (Bool×Unit)) ((zal (n+1)).d 44 [.st 3 p] [.bool]) (some (zev p,())):=(q44 n _).trans (s44 _ h)
def qF(l:List Gt.Pair)(k:Nat):Int :=
 bif !zmB (l.getD k zeu).name then 8 else bif (l.getD k zeu).value==[] then 2 else
 bif decide (0<(k:Int))&&(Op.bytesLess (l.getD k zeu).name (l.getD (k - 1) zeu).name||((l.getD k zeu).name==(l.getD (k - 1) zeu).name)) then 10 else 0
def qE(l:List Gt.Pair):Int:=ff (qF l) l.length
theorem zcn{l:List Gt.Pair}{k:Nat}(hk:k<l.length)(hl:l.length<=1000000000)(G:Gt.Pair->Bool) :
  br (decide (0<(k:Int))) (ob (at? l (IntKind.i64.wrap ((k:Int) - 1))) λy=>some (G y)) (some false)=some (decide (0<(k:Int))&&G (l.getD (k - 1) zeu)):=by
 cases k with
 |zero=>rfl|succ k =>have hk':k<l.length:=(by omega);rw[show decide (0<((k+1:Nat):Int))=true from decide_eq_true (by omega),zbT (by omega) (by omega),show ((k+1:Nat):Int) - 1=(k:Int) by omega];simp only[zad,zaX hk',zaa,yCo,zbO zeu hk',yB3]
theorem L102(n:Nat){s:List UInt8}(h:s.length<=1000000000): @Eq (Option (Bool×Unit)) ((zal (n+2)).d 102 [.str s] [.bool]) (some (zmB s,())):=(q102 (n+1) _).trans (s102 n h)
theorem L64(n:Nat){s:List UInt8}(h:s.length<=1000000000): @Eq (Option (Bool×Unit)) ((zal (n+1)).d 64 [.str s] [.bool]) (some (zmB s,())):=(q64 n _).trans (s64 _ h)
theorem s48(n:Nat){l:List Gt.Pair}(h:l.length<=1000000000)(h2:∀q∈l,q.name.length<=1000000000):m48 (zal (n+2)) l=some (qE l,()):=by
 unfold m48;refine zaA (znu l.length (qF l) (λc=>.inr (c,())) (.inl ()) (λk hk _=>?_) ?_) ?_;·have hn:=h2 l[k] (yBg hk);simp only[zaW,hk,decide_true,zad,zaX hk,zaa,L102 n hn,zcn hk h];rw[zaD hk (by omega)];unfold qF;simp only[zbO zeu hk];refine zqu (out:=λc=>Sum.inr (c,())) 8 (by decide) λ_=>zqu (out:=λc=>Sum.inr (c,())) 2 (by decide) λ_=>zqu (out:=λc=>Sum.inr (c,())) 10 (by decide) λ_=>?_;exact zrw.symm
 ·simp[zaW,zab]
 ·unfold qE;by_cases h0:ff (qF l) l.length=0;·rw[if_neg (by simpa using h0),h0];rfl
  ·rw[if_pos h0];rfl
theorem L48(n:Nat){l:List Gt.Pair}(h:l.length<=1000000000)(h2:∀q∈l,q.name.length<=1000000000): @Eq (Option (Int×Unit)) ((zal (n+3)).d 48 [.sl (.st 2) l] [(.int .i64)]) (some (qE l,())):=(q48 (n+2) _).trans (s48 n h h2)
theorem zjk(sep:ByteArray):∀(k:Nat)(s:ByteArray),∀x∈Lib.splitB sep 0 k s,x.size<=s.size
 |0,s,x,hx=>by simp[Lib.splitB] at hx;subst hx;exact yAj _
 |k+1,s,x,hx=>by
   unfold Lib.splitB at hx;split at hx;·simp at hx;subst hx;exact yAj _
   ·rcases yAn.1 hx with rfl|hx;·rw[ByteArray.size_extract];omega
    ·have:=zjk sep k _ x hx;rw[ByteArray.size_extract] at this;omega
theorem ze4(s:List UInt8):(zdf s).length<=s.length+1:=by
 unfold zdf;cases (s==[]) with
 |true=>simp|false =>simp only[cond_false];unfold zb2;have h1:=Lib.splitB_length_le ⟨#[47]⟩ 0 (Lib.countB ⟨s.toArray⟩ ⟨#[47]⟩) ⟨s.toArray⟩;have h2:=Lib.countB_le ⟨#[47]⟩ (yAj 1) _ ⟨s.toArray⟩ (yAj _);have h3:(ByteArray.mk s.toArray).size=s.length:=rfl;rw[yBs];omega
theorem zm5{s x:List UInt8}(h:x∈zdf s):x.length<=s.length:=by
 unfold zdf at h;cases hs:(s==[]) with
 |true=>rw[hs] at h;cases h|false =>rw[hs] at h;simp only[cond_false] at h;unfold zb2 at h;obtain ⟨y,hy,rfl⟩:=yAM.1 h;have:=zjk _ _ _ y hy;have h3:(ByteArray.mk s.toArray).size=s.length:=rfl;have h4:y.data.toList.length=y.size:=rfl;omega
theorem L46(n:Nat){s:List UInt8}(h:s.length<=1000000000): @Eq (Option (List (List UInt8)×Unit)) ((zal (n+2)).d 46 [.str s] [(.cs .str)]) (some (zdf s,())):=(q46 (n+1) _).trans (s46 n h)
theorem L68(n:Nat){s:List UInt8}(h:s.length<=1000000000): @Eq (Option (List (List UInt8)×Unit)) ((zal (n+2)).d 68 [.str s] [(.sl .str)]) (some (zdf s,())):=(q68 (n+1) _).trans (s68 n h)
theorem L45(n:Nat){l:List (List UInt8)}(dots:Bool)(h:l.length<=1000000000): @Eq (Option (Bool×Unit)) ((zal (n+1)).d 45 [.sl .str l,.bool dots] [.bool]) (some (zbc l dots,())):=(q45 n _ _).trans (s45 _ dots h)
theorem L62(n:Nat){s:List UInt8}(dots:Bool)(h:s.length<=100000000): @Eq (Option (Bool×Unit)) ((zal (n+3)).d 62 [.str s,.bool dots] [.bool]) (some (zbc (zdf s) dots,())):=(q62 (n+2) _ _).trans (s62 n dots (by omega) (by have:=ze4 s;omega))
theorem L49(n:Nat){s:List UInt8}(h:s.length<=1000000000): @Eq (Option (Bool×Unit)) ((zal (n+1)).d 49 [.str s] [.bool]) (some (s.any ctl,())):=(q49 n _).trans (s49 _ h)
theorem L65(n:Nat){s:List UInt8}(h:s.length<=1000000000): @Eq (Option (Bool×Unit)) ((zal (n+1)).d 65 [.str s] [.bool]) (some (!s.any ctl,())):=(q65 n _).trans (s65 _ h)
def zcE(r:Gt.KindRule)(p:Gt.Purl):Bool:=bif (bif p.space != [] then r.space==1 else false) then true else (bif p.space==[] then r.space==3 else false)
def zdC(p:Gt.Purl):Bool:=bif p.name==[] then true else decide (0<=Lib.indexByte p.name 47)
def zr9(p:Gt.Purl):Bool:=(zfF p).any λs=>s.any ctl
def zs7(p:Gt.Purl):Bool:=p.qualifiers.any λq=>q.value.any ctl
def zcr(p:Gt.Purl):Int :=
 bif (zbk p.kind).2.1 != 0 then (zbk p.kind).2.1 else bif zev p then 3 else bif zcE (zbk p.kind).1 p then 2 else bif zbc (zdf p.space) false then 2 else
 bif zdC p then 8 else bif qE p.qualifiers != 0 then qE p.qualifiers else bif zbc (zdf p.sub) true then 2 else bif zr9 p then 8 else bif zs7 p then 8 else 0
theorem s16(n:Nat){p:Gt.Purl}(h:p.qualifiers.length<=1000000000):m16 (zal (n+3)) p=some (zcr p,()):=by
 unfold m16;rw[L43 n,L44 (n+2) h];simp only[zaa];unfold zcr;cases h1:((zbk p.kind).2.1 != 0) with
 |true=>rfl|false =>
   cases hl:zev p with
   |true=>rfl|false =>
     have T:=tiny hl;have t1:=T.space;have t2:=T.name;have t3:=T.sub;have t4:=T.quals;have tp:=ze4 p.space;have ts:=ze4 p.sub;simp only[zab,cond_false,zav,zaa];rw[L46 (n+1) (by omega)];simp only[zaa];rw[L45 (n+2) false (by omega),L47,L48 n (by omega) (λq hq=>by have:=(T.each q hq).1;omega),L46 (n+1) (by omega)];simp only[zaa,zav];rw[L45 (n+2) true (by omega)];simp only[zaa];rw[show zau _ ([p.space,p.name,p.version,p.sub],(0:Int),())=_ from (zly (λk=>(zfF p,(k:Int),())) 4 (λk=>((zfF p).getD k []).any ctl) (.inr (8,())) (.inl ()) (λk hk=>?_) ?_).trans (by rw[show (List.range 4)=List.range (zfF p).length from rfl,zb6 (zfF p) [] (λs=>s.any ctl)]),ziP]
     ·rw[zcF p.qualifiers.length (λk=>(p.qualifiers.getD k zeu).value.any ctl) (.inr (8,())) (.inl ()) (λk hk=>?_) ?_,zb6 p.qualifiers zeu (λq=>q.value.any ctl),ziP];·simp only[zav];have e1:(bif (bif p.space != [] then (zbk p.kind).1.space==1 else false) then true else (bif p.space==[] then (zbk p.kind).1.space==3 else false))=zcE (zbk p.kind).1 p:=rfl;have e2:(bif p.name==[] then true else decide (0<=Lib.indexByte p.name (UInt8.ofNat (Int.toNat 47))))=zdC p:=rfl;rw[e1,e2];unfold zr9 zs7;cases zcE (zbk p.kind).1 p<;>cases zbc (zdf p.space) false<;>cases zdC p<;>cases (qE p.qualifiers != 0)<;>cases zbc (zdf p.sub) true<;>cases (zfF p).any (λs=>s.any ctl)<;>cases p.qualifiers.any (λq=>q.value.any ctl)<;>rfl
      ·simp[zaW,zab]
      ·have:=(T.each _ (yBg hk)).2;simp only[zaW,hk,decide_true,zad,zaX hk,zaa,zaD hk (by omega),zbO zeu hk,L49 (n+2) (show (p.qualifiers[k]).value.length<=1000000000 by omega)];exact zi1 rfl
     ·rfl
     ·have hk':k<(zfF p).length:=hk;have hb:((zfF p)[k]).length<=1000000000:=by
       have:(zfF p)[k]∈zfF p:=yBg hk';have t5:=T.version;simp only[zfF,yAn,yBF,or_false] at this;rcases this with h|h|h|h<;> · simp only[zfF] at h ⊢;rw[h];omega
      simp only[show len [p.space,p.name,p.version,p.sub]=((4:Nat):Int) from rfl,yCy,hk,decide_true,zad,zaX hk',zaa,zaD hk (by omega),zbO [] hk',L49 (n+2) hb];exact zi1 rfl
end Pe.Tryz
end
section
/- The reference's check is the same; the canonical form of both sides. -/
set_option maxRecDepth 100000
namespace Pe.Tryz
open Go Go.Proofs Pe Pe.Told
theorem zuI{α:Type}(l:List α)(p:α->Bool)(a:Bool):l.foldl (λb x=>bif b then !p x else false) a=(bif a then !l.any p else false):=by
 induction l generalizing a with
 |nil=>cases a<;>rfl|cons x r ih=>rw[yBt,ih];cases a<;>cases h:p x<;>simp[h]
theorem ztk{σ R:Type}{out:Int->R}{nxt:σ}{b:Bool}{c:Int}(hc:c≠0):some (bif b then .inr (out c) else .inl nxt)=ffS out nxt (bif b then c else 0):=by
 cases b;·rfl
 ·simp[ffS,hc]
theorem s24(n:Nat){p:Gt.Purl}(h:p.qualifiers.length<=1000000000):m24 (zal (n+3)) p=some (zcr p,()):=by
 unfold m24;rw[L33 n];simp only[zaa];unfold zcr;cases h1:((zbk p.kind).2.1 != 0) with
 |true=>rfl|false =>
   have e67: @Eq (Option (Bool×Unit)) ((zal (n+3)).d 61 [.sl .str [p.space,p.name,p.version,p.sub]] [.bool]) (some ((zfF p).any big,())):=L61 (n+2) (l:=zfF p) (by simp[zfF]);rw[e67];simp only[zab,cond_false,zav,zaa];cases hb:(bif (zfF p).any big then true else decide (10<len p.qualifiers)) with
   |true =>
     have hl:zev p=true:=by
      unfold zev;cases h3:(zfF p).any big with
      |true=>rfl|false=>rw[h3] at hb;simp only[cond_false] at hb ⊢;rw[hb];cases p.qualifiers.any zgg<;>rfl
     rw[hl];rfl
   |false =>
     simp only[zab];rw[zcF p.qualifiers.length (λk=>zgg (p.qualifiers.getD k zeu)) (.inr (3,())) (.inl ()) (λk hk=>?_) ?_,zb6 p.qualifiers zeu zgg,ziP]
     ·have hq:zev p=p.qualifiers.any zgg:=by
       unfold zev;cases h3:(zfF p).any big with
       |true=>rw[h3] at hb;cases hb|false=>rw[h3] at hb;simp only[cond_false] at hb ⊢;rw[hb];cases p.qualifiers.any zgg<;>rfl
      rw[<-hq];cases hl:zev p with
      |true=>rfl|false =>
        have T:=tiny hl;have t1:=T.space;have t2:=T.name;have t3:=T.sub;have t4:=T.quals;have t5:=T.version;simp only[zab,cond_false];rw[L62 n false (by omega),L63,L62 n true (by omega),L65 (n+2) (show p.space.length<=1000000000 by omega),L65 (n+2) (show p.name.length<=1000000000 by omega),L65 (n+2) (show p.version.length<=1000000000 by omega),L65 (n+2) (show p.sub.length<=1000000000 by omega)];simp only[zaa,zav];rw[znu p.qualifiers.length (qF p.qualifiers) (λc=>.inr (c,())) (.inl ()) (λk hk _=>?_) ?_]
        ·refine Eq.trans (b:=br (bif zcE (zbk p.kind).1 p then true else zbc (zdf p.space) false) (some (2,())) (br (zdC p) (some (8,())) (br (qE p.qualifiers != 0) (some (qE p.qualifiers,())) (br (zbc (zdf p.sub) true) (some (2,())) (br (bif zr9 p then true else zs7 p) (some (8,())) (some (0,()))))))) ?_ ?_
         ·congr 1;congr 1;have hcut:∀(X:Option (Int×Unit)),zaJ (some (if ff (qF p.qualifiers) p.qualifiers.length≠0 then Sum.inr (ff (qF p.qualifiers) p.qualifiers.length,()) else Sum.inl ())) (λ(_:Unit)=>X)=br (qE p.qualifiers != 0) (some (qE p.qualifiers,())) X:=by
           intro X;unfold qE;by_cases h0:ff (qF p.qualifiers) p.qualifiers.length=0;·rw[if_neg (by simpa using h0),h0];rfl
           ·rw[if_pos h0,show (ff (qF p.qualifiers) p.qualifiers.length != 0)=true by simpa using h0];rfl
          refine (hcut _).trans ?_;congr 1;congr 1;refine zaA (zgf (λk (b:Bool)=>(b,(k:Int),())) p.qualifiers (λb q=>bif b then !q.value.any ctl else false) (λb=>.inl (b,())) (λ_ _=>True) (λk hk b _=>⟨?_,trivial⟩) (λb _=>?_) _ trivial) ?_;·have:=(T.each _ (yBg hk)).2;simp only[zaW,hk,decide_true,zaX hk,zaa,zaD hk (by omega),L65 (n+2) (show (p.qualifiers[k]).value.length<=1000000000 by omega),zav];rfl
          ·simp[zaW,zab]
          ·rw[zuI p.qualifiers (λq=>q.value.any ctl)];simp only[zai,zr9,zs7,zfF,yCh,List.any_nil,yCj];cases p.space.any ctl<;>cases p.name.any ctl<;>cases p.version.any ctl<;>cases p.sub.any ctl<;>cases p.qualifiers.any (λq=>q.value.any ctl)<;>rfl
         ·cases zcE (zbk p.kind).1 p<;>cases zbc (zdf p.space) false<;>cases zdC p<;>cases (qE p.qualifiers != 0)<;>cases zbc (zdf p.sub) true<;>cases zr9 p<;>cases zs7 p<;>rfl
        ·simp[zaW,zab]
        ·have hn:=(T.each _ (yBg hk)).1;simp only[zaW,hk,decide_true,zad,zaX hk,zaa,L64 (n+2) (show (p.qualifiers[k]).name.length<=1000000000 by omega),zcn hk h];rw[zaD hk (by omega)];unfold qF;simp only[zbO zeu hk];refine zqu (out:=λc=>Sum.inr (c,())) 8 (by decide) λ_=>zqu (out:=λc=>Sum.inr (c,())) 2 (by decide) λ_=>ztk (c:=10) (out:=λc=>Sum.inr (c,())) (by decide)
     ·simp[zaW,zab]
     ·have:([p.qualifiers[k].name,p.qualifiers[k].value]:List (List UInt8)).length<=1000000000:=by simp
      have e67: @Eq (Option (Bool×Unit)) ((zal (n+3)).d 61 [.sl .str [p.qualifiers[k].name,p.qualifiers[k].value]] [.bool]) (some ([p.qualifiers[k].name,p.qualifiers[k].value].any big,())):=L61 (n+2) (l:=[p.qualifiers[k].name,p.qualifiers[k].value]) this;simp only[zaW,hk,decide_true,zad,zaX hk,zaa,zaD hk (by omega),zbO zeu hk,e67];refine zi1 ?_;simp only[yCh,List.any_nil,yCj,zgg];cases big p.qualifiers[k].name<;>rfl
theorem L16(n:Nat){p:Gt.Purl}(h:p.qualifiers.length<=1000000000): @Eq (Option (Int×Unit)) ((zal (n+4)).d 16 [.st 3 p] [(.int .i64)]) (some (zcr p,())):=(q16 (n+3) _).trans (s16 n h)
theorem L24(n:Nat){p:Gt.Purl}(h:p.qualifiers.length<=1000000000): @Eq (Option (Int×Unit)) ((zal (n+4)).d 24 [.st 3 p] [(.int .i64)]) (some (zcr p,())):=(q24 (n+3) _).trans (s24 n h)
def za7(p:Gt.Purl):Gt.Purl :=
 ⟨p.kind,bif (zbk p.kind).1.small then zaY p.space else p.space,
  bif (zbk p.kind).1.dashes then zdv false (bif (zbk p.kind).1.small then zaY p.name else p.name) else (bif (zbk p.kind).1.small then zaY p.name else p.name),p.version,p.qualifiers,p.sub⟩
theorem L57(n:Nat){s:List UInt8}(h:s.length<=1000000000): @Eq (Option (List UInt8×Unit)) ((zal (n+1)).d 57 [.str s] [.str]) (some (zaY s,())):=(q57 n _).trans (s57 _ h)
theorem L58(n:Nat){s:List UInt8}(h:s.length<=1000000000): @Eq (Option (List UInt8×Unit)) ((zal (n+2)).d 58 [.str s] [.str]) (some (zdv false s,())):=(q58 (n+1) _).trans (s58 n h)
theorem zfQ(s:List UInt8):(zaY s).length=s.length:=by simp[zaY]
theorem zhZ:∀(b:Bool)(s:List UInt8),(zdv b s).length<=s.length
 |_,[]=>by simp[zdv]
 |b,c::r=>by have h1:=zhZ true r;have h2:=zhZ false r;unfold zdv;cases zcg c<;>cases b<;>simp<;>omega
theorem s19(n:Nat){p:Gt.Purl}(T:Tiny p):m19 (zal (n+3)) p=some (za7 p,()):=by
 have t1:=T.space;have t2:=T.name;have t4:=T.quals;unfold m19 za7;rw[L43 n,L57 (n+2) (show p.space.length<=1000000000 by omega),L57 (n+2) (show p.name.length<=1000000000 by omega)];simp only[zaa];cases (zbk p.kind).1.small<;>cases (zbk p.kind).1.dashes;·simp only[zab,cond_false,zai];rw[zcm _ (by simp[lim];omega)];rfl
 ·simp only[zad,zab,cond_false,cond_true,zai];rw[L58 (n+1) (by omega)];simp only[zaa,zai];rw[zcm _ (by simp[lim];omega)];rfl
 ·simp only[zad,zab,cond_false,cond_true,zai];rw[zcm _ (by simp[lim];omega)];rfl
 ·simp only[zad,cond_true,zai];rw[L58 (n+1) (by rw[zfQ];omega)];simp only[zaa,zai];rw[zcm _ (by simp[lim];omega)];rfl
theorem zgG{p:Gt.Purl}(T:Tiny p):Tiny (za7 p):=by
 have t1:=T.space;have t2:=T.name;have h1:=zhZ false p.name;have h2:=zhZ false (zaY p.name);have h3:=zfQ p.name;have h4:=zfQ p.space;refine ⟨?_,?_,T.version,T.sub,T.quals,T.each⟩;·unfold za7;cases (zbk p.kind).1.small<;>simp<;>omega
 ·unfold za7;cases (zbk p.kind).1.small<;>cases (zbk p.kind).1.dashes<;>simp<;>omega
theorem L19(n:Nat){p:Gt.Purl}(T:Tiny p): @Eq (Option (Gt.Purl×Unit)) ((zal (n+4)).d 19 [.st 3 p] [(.st 3)]) (some (za7 p,())):=(q19 (n+3) _).trans (s19 n T)
theorem zhc{p:Gt.Purl}(h:zcr p=0):Tiny p:=by
 cases hl:zev p with
 |false=>exact tiny hl|true =>
   unfold zcr at h;cases h1:((zbk p.kind).2.1 != 0) with
   |true=>rw[h1] at h;simp only[cond_true] at h;rw[h] at h1;cases h1|false=>rw[h1,hl] at h;simp at h
end Pe.Tryz
end
section
/- The texts of names: both sides print the same; THE LAW OF CANONICAL FORMS. -/
set_option maxRecDepth 100000
namespace Pe.Tryz
open Go Go.Proofs Pe Pe.Told
end Pe.Tryz
end
section
/- PROVED: THE LAW OF CANONICAL FORMS, plain: check, canonical form, text and key are what is specified. -/
set_option maxRecDepth 100000
namespace Pe.Tryz
open Go Go.Proofs Pe Pe.Told
end Pe.Tryz
end
