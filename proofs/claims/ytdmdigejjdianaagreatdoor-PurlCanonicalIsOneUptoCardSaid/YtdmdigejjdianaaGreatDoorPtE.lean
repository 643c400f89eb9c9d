/- PROVED HERE: a part of the seat's proofs; see the text that holds the claim's theorem. -/
import Derived.Test.YtdmdigejjdianaaGreatDoorNm
import Derived.Test.YtdmdigejjdianaaGreatDoorPtC
section
/- Plain words of names: letters, escapes, small letters, dashes; and the models of the functions that tell them. -/
set_option maxRecDepth 100000
namespace Pe.Tryz
open Go Go.Proofs Pe Pe.Told
theorem all8{p:UInt8->Bool}(h:((List.range 256).all λn=>p (UInt8.ofNat n))=true)(c:UInt8):p c=true:=by have:=yAO.1 h c.toNat (by simpa using c.toNat_lt);simpa using this
theorem eq8{α:Type}[DecidableEq α]{f g:UInt8->α}(h:((List.range 256).all λn=>decide (f (UInt8.ofNat n)=g (UInt8.ofNat n)))=true)(c:UInt8):f c=g c:=by have:=all8 (p:=λc=>decide (f c=g c)) h c;simpa using this
def zbJ(c:UInt8):Bool:=c==45||c==95||c==46
def ctl(c:UInt8):Bool:=decide (c<32)||c==127
def low(c:UInt8):UInt8:=bif decide (65<=c)&&decide (c<=90) then c+32 else c
def zh7(c:UInt8)(first:Bool):Bool:=decide (97<=c)&&decide (c<=122)||(!first&&(decide (48<=c)&&decide (c<=57)||c==46||c==45||c==95))
def zaW(s:List UInt8):List UInt8:=s.map low
def zce:Bool->List UInt8->List UInt8|_,[]=>[]|b,c::r=>bif zbJ c then (bif b then [] else [45])++zce true r else c::zce false r
theorem s53(o:Orc Sx)(c:UInt8):m53 o (c.toNat:Int)=some (zbJ c,()):=by simp only[m53,zaa,zaQ];exact congrArg some (Prod.ext (eq8 (f:=λc=>bif (bif ((c.toNat:Int)==45) then true else ((c.toNat:Int)==95)) then true else ((c.toNat:Int)==46)) (g:=zbJ) (by decide+kernel) c) rfl)
theorem s74(o:Orc Sx)(c:UInt8)(f:Bool):m74 o (c.toNat:Int) f=some (zh7 c f,()):=by
 cases f;·exact eq8 (f:=λc=>m74 o (c.toNat:Int) false) (g:=λc=>some (zh7 c false,())) (by kernel_rfl) c
 ·exact eq8 (f:=λc=>m74 o (c.toNat:Int) true) (g:=λc=>some (zh7 c true,())) (by kernel_rfl) c
theorem L53(n:Nat)(c:UInt8): @Eq (Option (Bool×Unit)) ((zam (n+1)).d 53 [.int .u8 (c.toNat:Int)] [.bool]) (some (zbJ c,())):=(q53 n _).trans (s53 _ c)
theorem L74(n:Nat)(c:UInt8)(f:Bool): @Eq (Option (Bool×Unit)) ((zam (n+1)).d 74 [.int .u8 (c.toNat:Int),.bool f] [.bool]) (some (zh7 c f,())):=(q74 n _ _).trans (s74 _ c f)
theorem L27(n:Nat)(s:List UInt8)(c:Int): @Eq (Option (Int×Unit)) ((zam (n+1)).d 27 [.str s,.int .u8 c] [.int .i64]) (some (Lib.indexByte s (UInt8.ofNat (Int.toNat c)),())):=zk7 n s c _ rfl
theorem L15(n:Nat)(s:List UInt8)(c:UInt8): @Eq (Option (Bool×Unit)) ((zam (n+1)).d 15 [.str s,.str [c]] [.bool]) (some (decide (0<=Lib.indexByte s c),())):=by kernel_rfl
theorem L50(n:Nat){s:List UInt8}(c:UInt8)(h:s.length<=4000000000): @Eq (Option (List (List UInt8)×Unit)) ((zam (n+1)).d 50 [.str s,.str [c]] [(.cs .str)]) (some (zbN c s,())) :=
 zov n s [c] _ (by show (bif Nat.ble s.length 4000000000 then some (zbN c s,()) else none)=_;rw[show Nat.ble s.length 4000000000=true by rw[yAP];exact h];rfl)
theorem zgo(s:List UInt8):zdH (zaj s)=s:=by simp[zdH,zaj,Function.comp_def]
theorem zlj(s:List UInt8):zof (zaj s)=some s:=by
 unfold zof;have:((zaj s).all λn=>decide (0<=n)&&decide (n<256))=true:=by rw[yAO];intro x hx;simp only[zaj,yBd] at hx;obtain ⟨c,_,rfl⟩:=hx;have:=c.toNat_lt;simp;omega
 rw[this,zgo];rfl
theorem zm3(a b:List UInt8):zaj (a++b)=zaj a++zaj b:=by simp[zaj]
theorem zg7(a:List UInt8):(zaj a).length=a.length:=by simp[zaj]
theorem zhN{a b:List UInt8}(h:a.length+b.length<=lim):zbw (zaj a) (zaj b)=some (zaj (a++b)):=by rw[zmY (by simpa[zg7] using h),zm3]
theorem zfe{α:Type}(s:List α)(h:s.length<=lim):zbw [] s=some s:=by rw[zmY (by simpa using h)];rfl
theorem zoq(c:UInt8):(bif decide ((c.toNat:Int)<32) then true else ((c.toNat:Int)==127))=ctl c :=
 eq8 (f:=λc=>bif decide ((c.toNat:Int)<32) then true else ((c.toNat:Int)==127)) (g:=ctl) (by decide+kernel) c
theorem zjH(s:List UInt8)(p:UInt8->Bool):((List.range s.length).any λk=>p (s.getD k 0))=s.any p:=by
 rw[Bool.eq_iff_iff];simp only[yBh,yBm];constructor
 ·rintro ⟨k,hk,h⟩
  refine ⟨s[k],yBb hk,?_⟩;simpa[yAE,hk] using h
 ·rintro ⟨x,hx,h⟩
  obtain ⟨k,hk,rfl⟩:=List.getElem_of_mem hx;exact ⟨k,hk,by simpa[yAE,hk] using h⟩
theorem s29(o:Orc Sx){s:List UInt8}(h:s.length<=1000000000):m29 o s=some (s.any ctl,()):=by
 unfold m29;rw[zch s.length (λk=>ctl (s.getD k 0)) (.inr (true,())) (.inl ()) (λk hk=>?_) ?_,zjH];·cases s.any ctl<;>rfl
 ·simp[zaY,zal]
 ·simp only[zaY,hk,decide_true,za9 hk,zaa,zaQ,zoq,zaF hk (by omega)];cases h2:ctl s[k]<;>simp[yAE,hk,h2]
theorem s17(o:Orc Sx){s:List UInt8}(h:s.length<=1000000000):m17 o s=some (!s.any ctl,()):=by
 unfold m17;rw[zch s.length (λk=>ctl (s.getD k 0)) (.inr (false,())) (.inl ()) (λk hk=>?_) ?_,zjH];·cases s.any ctl<;>rfl
 ·simp[zaY,zal]
 ·simp only[zaY,hk,decide_true,za9 hk,zaa,zaQ,zoq,zaF hk (by omega)];cases h2:ctl s[k]<;>simp[yAE,hk,h2]
end Pe.Tryz
end
section
/- The models of the functions on texts of names: qualifiers' names, segments, small letters, dashes, escapes, paths. -/
set_option maxRecDepth 100000
namespace Pe.Tryz
open Go Go.Proofs Pe Pe.Told
theorem zhc{α:Type}{X P:Bool}{a b:α}(h:X=P):some (bif X then a else b)=if P=true then some a else some b:=by subst h;cases X<;>rfl
theorem zbL{α:Type}(s:List α)(d:α)(p:α->Bool):((List.range s.length).any λk=>p (s.getD k d))=s.any p:=by
 rw[Bool.eq_iff_iff];simp only[yBh,yBm];constructor
 ·rintro ⟨k,hk,h⟩
  refine ⟨s[k],yBb hk,?_⟩;simpa[yAE,hk] using h
 ·rintro ⟨x,hx,h⟩
  obtain ⟨k,hk,rfl⟩:=List.getElem_of_mem hx;exact ⟨k,hk,by simpa[yAE,hk] using h⟩
theorem zbr{α:Type}{s:List α}{k:Nat}(d:α)(h:k<s.length):s.getD k d=s[k]:=by simp[yAE,h]
theorem zjz{σ R:Type}{x:Option (σ⊕R)}{r:σ⊕R}{g:σ->Option R}{y:Option R}(h:x=some r)(h2:zaS (some r) g=y):zaS x g=y:=by rw[h,h2]
def zj6(s:List UInt8):Bool:=bif (List.range s.length).any (λk=> !zh7 (s.getD k 0) ((k:Int)==0)) then false else s != []
theorem s52(n:Nat){s:List UInt8}(h:s.length<=1000000000):m52 (zam (n+1)) s=some (zj6 s,()):=by
 unfold m52;rw[zch s.length (λk=> !zh7 (s.getD k 0) ((k:Int)==0)) (.inr (false,())) (.inl ()) (λk hk=>?_) ?_];·unfold zj6;cases (List.range s.length).any (λk=> !zh7 (s.getD k 0) ((k:Int)==0))<;>rfl
 ·simp[zaY,zal]
 ·simp only[zaY,hk,decide_true,zaN,za9 hk,zaa,L74,zaF hk (by omega),zbr 0 hk];rw[zpj]
theorem s16(o:Orc Sx){s:List UInt8}(h:s.length<=1000000000):m16 o s=some (zj6 s,()):=by
 unfold m16;rw[zch s.length (λk=> !zh7 (s.getD k 0) ((k:Int)==0)) (.inr (false,())) (.inl ()) (λk hk=>?_) ?_];·unfold zj6;cases (List.range s.length).any (λk=> !zh7 (s.getD k 0) ((k:Int)==0))<;>rfl
 ·simp[zaY,zal]
 ·simp only[zaY,hk,decide_true,za9 hk,zaa,zaF hk (by omega),zbr 0 hk,zaQ,cond_true];refine zhc ?_;generalize s[k]=c;generalize ((k:Int)==0)=f;cases f;·revert c;exact eq8 (by decide+kernel)
  ·revert c;exact eq8 (by decide+kernel)
def zem(s:List UInt8):List (List UInt8):=bif s==[] then [] else zbN 47 s
theorem s26(n:Nat){s:List UInt8}(h:s.length<=1000000000):m26 (zam (n+1)) s=some (zem s,()):=by unfold m26 zem;rw[L50 n 47 (by omega)];cases (s==[])<;>rfl
theorem s34(n:Nat){s:List UInt8}(h:s.length<=1000000000):m34 (zam (n+1)) s=some (zem s,()):=by unfold m34 zem;rw[L50 n 47 (by omega)];cases (s==[])<;>rfl
def zfU(dots:Bool)(x:List UInt8):Bool:=bif x==[] then true else bif dots then (bif x==[46] then true else x==[46,46]) else false
def za1(l:List (List UInt8))(dots:Bool):Bool:=bif l.any (zfU dots) then true else decide (10<len l)
theorem s25(o:Orc Sx){l:List (List UInt8)}(dots:Bool)(h:l.length<=1000000000):m25 o l dots=some (za1 l dots,()):=by
 unfold m25;rw[zch l.length (λk=>zfU dots (l.getD k [])) (.inr (true,())) (.inl ()) (λk hk=>?_) ?_,zbL];·unfold za1;cases l.any (zfU dots)<;>rfl
 ·simp[zaY,zal]
 ·simp only[zaY,hk,decide_true,za9 hk,zaa,zaF hk (by omega),zbr [] hk,zaQ,cond_true];exact zhc rfl
theorem s14(n:Nat){s:List UInt8}(dots:Bool)(h:s.length<=1000000000)(h2:(zem s).length<=1000000000):m14 (zam (n+2)) s dots=some (za1 (zem s) dots,()):=by
 unfold m14;rw[show (zam (n+2)).d 34 [.str s] [(.sl .str)]=_ from (q34 (n+1) s).trans (s34 n h)];simp only[zaa];generalize zem s=l at h2;rw[zch l.length (λk=>zfU dots (l.getD k [])) (.inr (true,())) (.inl ()) (λk hk=>?_) ?_,zbL];·unfold za1;cases l.any (zfU dots)<;>rfl
 ·simp[zaY,zal]
 ·simp only[zaY,hk,decide_true,za9 hk,zaa,zaF hk (by omega),zbr [] hk,zaQ,cond_true];exact zhc rfl
end Pe.Tryz
end
section
/- The models: small letters, dashes, paths. -/
set_option maxRecDepth 100000
namespace Pe.Tryz
open Go Go.Proofs Pe Pe.Told
theorem low1(c:UInt8):(bif (bif decide (65<=(c.toNat:Int)) then decide ((c.toNat:Int)<=90) else false) then IntKind.u8.wrap ((IntKind.u8.wrap ((c.toNat:Int)+97)) - 65) else (c.toNat:Int))=((low c).toNat:Int) :=
 eq8 (f:=λc=>(bif (bif decide (65<=(c.toNat:Int)) then decide ((c.toNat:Int)<=90) else false) then IntKind.u8.wrap ((IntKind.u8.wrap ((c.toNat:Int)+97)) - 65) else (c.toNat:Int))) (g:=λc=>((low c).toNat:Int)) (by decide+kernel) c
def zkc(s:List UInt8)(k:Nat):List Int:=zaj ((s.take k).map low++s.drop k)
theorem zie(s:List UInt8)(k:Nat):(zkc s k).length=s.length:=by simp[zkc,zaj];omega
theorem zmM{s:List UInt8}{k:Nat}(h:k<s.length):zdy (zkc s k) k=some ((s[k]).toNat:Int):=by
 unfold zdy zkc;have hl:((s.take k).map low).length=k:=by simp;omega
 rw[zaj,yAg,yAz (by omega),hl];simp[h]
theorem zjm{s:List UInt8}{k:Nat}(h:k<s.length):zkc s (k+1)=(zkc s k).set k ((low s[k]).toNat:Int):=by
 apply yAK;intro i;have hl:((s.take k).map low).length=k:=by simp;omega
 have hl2:((s.take (k+1)).map low).length=k+1:=by simp;omega
 rw[List.getElem?_set];by_cases hi:k=i;·subst hi;rw[if_pos rfl,if_pos (by rw[zie];exact h)];simp only[zkc,zaj,yAg];rw[yAi (by omega)];simp[h]
 ·rw[if_neg hi];simp only[zkc,zaj,yAg];by_cases hlt:i<k;·rw[yAi (by omega),yAi (by omega)];simp[hlt,show i<k+1 by omega]
  ·rw[yAz (by omega),yAz (by omega),hl,hl2];simp[yAt,show k+1+(i - (k+1))=i by omega,show k+(i - k)=i by omega]
theorem zmL{s:List UInt8}{k:Nat}(h:k<s.length)(hc:(bif decide (65<=((s[k]).toNat:Int)) then decide (((s[k]).toNat:Int)<=90) else false)=false):zkc s (k+1)=zkc s k:=by
 rw[zjm h,<-low1,hc];have:=zmM h;unfold zdy at this;apply yAK;intro i;rw[List.getElem?_set];by_cases hi:k=i;·subst hi;rw[if_pos rfl,if_pos (by rw[zie];exact h),this];rfl
 ·rw[if_neg hi]
theorem znX(s:List UInt8):zdH (zkc s s.length)=zaW s:=by simp[zkc,zaW,zgo]
theorem znV{α:Type}{l:List α}{k:Nat}(h:k<l.length):zdF l (k:Int)=some k:=by show (bif Nat.blt k l.length then some k else none)=_;rw[show Nat.blt k l.length=true by simpa[yAV] using h];rfl
theorem s30(o:Orc Sx){s:List UInt8}(h:s.length<=1000000000):m30 o s=some (zaW s,()):=by
 unfold m30;rw[zfe s (by simp[lim];omega)];simp only[zaa];refine zjz (zey (A:=Unit) (λk _=>((k:Int),zkc s k,())) s.length (λ_ _=>.inl (zkc s s.length,())) (λ_ _=>True) (λk _ hk _=>?_) 0 () (yAF _) trivial) ?_
 ·by_cases hlt:k<s.length
  ·left;refine ⟨(),hlt,?_,trivial,rfl⟩;simp only[len,zg7,Int.ofNat_lt,hlt,decide_true,znV (show k<(zkc s k).length by rw[zie];exact hlt),zaa,zmM hlt,zaQ,zaF hlt (by omega)];have:=zjm hlt;rw[<-low1] at this;cases hc:(bif decide (65<=((s[k]).toNat:Int)) then decide (((s[k]).toNat:Int)<=90) else false) with
   |true=>rw[hc] at this;rw[this];rfl|false=>rw[zmL hlt hc];rfl
  ·right;obtain rfl:k=s.length:=by omega
   simp[len,zg7,zal]
 ·simp only[zbC,znX]
def zh3(s:List UInt8)(k:Nat):Bool:=k != 0&&zbJ (s.getD (k - 1) 0)
theorem zhy{s:List UInt8}{k:Nat}(h:k<s.length):zh3 s (k+1)=zbJ s[k]:=by simp[zh3,yAE,h]
theorem zgY{s:List UInt8}{k:Nat}(h:k<s.length):zce (zh3 s k) (s.drop k)=(bif zbJ s[k] then (bif zh3 s k then [] else [45]) else [s[k]])++zce (zh3 s (k+1)) (s.drop (k+1)):=by rw[yBe h,zhy h];cases hc:zbJ s[k]<;>simp[zce,hc]
theorem cat1{b:List UInt8}{c:UInt8}(h:b.length+1<=lim):zbw (zaj b) [(c.toNat:Int)]=some (zaj (b++[c])):=zhN (b:=[c]) h
theorem cat45{b:List UInt8}(h:b.length+1<=lim):zbw (zaj b) [45]=some (zaj (b++[45])):=zhN (b:=[45]) h
theorem s31(n:Nat){s:List UInt8}(h:s.length<=1000000000):m31 (zam (n+1)) s=some (zce false s,()):=by
 unfold m31;refine zjz (zey (A:=List UInt8) (λk b=>((k:Int),zaj b,())) s.length (λk b=>.inl (zaj (b++zce (zh3 s k) (s.drop k)),())) (λk b=>b.length<=k) (λk b hk hb=>?_) 0 [] (yAF _) (by simp)) ?_
 ·by_cases hlt:k<s.length
  ·left;have hl:b.length+1<=lim:=by simp[lim];omega
   simp only[zaY,hlt,decide_true,zaN,za9 hlt,zaa,zaF hlt (by omega),L53];have hcond:∀{β:Type}(g:Bool->Option β),ob (br ((k:Int)==0) (some true) (ob (at? s (IntKind.i64.wrap ((k:Int) - 1))) λc6=>(some (!zbJ c6)))) g=g (!zh3 s k):=by
    intro β g;cases k with
    |zero=>rfl|succ k =>
      have hk':k<s.length:=(by omega);have:(((k+1:Nat):Int)==0)=false:=by simp;omega
      rw[this,zjL (by omega) (by omega),show ((k+1:Nat):Int) - 1=(k:Int) by omega];simp only[zal,za9 hk',zaa,zhy hk']
   cases hc:zbJ s[k] with
   |false =>
     refine ⟨b++[s[k]],trivial,?_,by simp;omega,?_⟩;·simp only[Bool.not_false,zaN,cat1 hl,zaa]
     ·rw[zgY hlt,hc];simp
   |true =>
     cases hp:zh3 s k with
     |false =>
       refine ⟨b++[45],trivial,?_,by simp;omega,?_⟩;·simp only[yCb,zal];refine (hcond _).trans ?_;simp only[hp,Bool.not_false,zaN,cat45 hl,zaa]
       ·rw[<-hp,zgY hlt,hc,hp];simp
     |true =>
       refine ⟨b,trivial,?_,by omega,?_⟩;·simp only[yCb,zal];refine (hcond _).trans ?_;simp only[hp,yCb,zal]
       ·rw[<-hp,zgY hlt,hc,hp];simp
  ·right;obtain rfl:k=s.length:=by omega
   simp[zaY,zal,zce]
 ·simp[zbC,zlj,zaa,zh3]
end Pe.Tryz
end
section
/- What is right of a name: both checks answer the same. -/
set_option maxRecDepth 100000
namespace Pe.Tryz
open Go Go.Proofs Pe Pe.Told
theorem zja{σ R:Type}{f:σ->Option (σ⊕R)}(mk:Nat->σ)(n:Nat)(p:Nat->Bool)(yes no:R)
  (h:∀k,k<n->f (mk k)=if p k=true then some (.inr yes) else some (.inl (mk (k+1))))
  (he:f (mk n)=some (.inr no)):zav f (mk 0)=some (bif (List.range n).any p then yes else no):=by
 refine zey (A:=Unit) (λk _=>mk k) n (λ_ _=>bif (List.range n).any p then yes else no) (λk _=>∀j,j<k->p j=false) (λk _ hk hI=>?_) 0 () (yAF _) (λj hj=>by omega);by_cases hlt:k<n
 ·cases hp:p k with
  |true =>right;have:(List.range n).any p=true:=yBh.2 ⟨k,by simpa using hlt,hp⟩;show f (mk k)=_;rw[h k hlt,hp,this];rfl
  |false =>
    left;refine ⟨(),hlt,by rw[h k hlt,hp];rfl,λj hj=>?_,rfl⟩;by_cases hjk:j=k;·subst hjk;exact hp
    ·exact hI j (by omega)
 ·right;obtain rfl:k=n:=by omega
  have:(List.range k).any p=false:=by rw[yBt];intro x hx;simpa using hI x (by simpa using hx)
  rw[he,this];rfl
theorem zg0{σ R:Type}{A:Bool}{x:R}{y:σ}{g:σ->Option R}:zaS (some (bif A then .inr x else .inl y)) g=br A (some x) (g y):=by cases A<;>rfl
def big(s:List UInt8):Bool:=decide (200<len s)
def zeC(p:Gt.Purl):List (List UInt8):=[p.space,p.name,p.version,p.sub]
def ze2(q:Gt.Pair):Bool:=bif big q.name then true else big q.value
def zdK(p:Gt.Purl):Bool:=bif (zeC p).any big then true else bif p.qualifiers.any ze2 then true else decide (10<len p.qualifiers)
theorem zhR{s:List UInt8}(h:big s=false):s.length<=200:=by have:=of_decide_eq_false h;unfold len at this;omega
structure Tiny (p:Gt.Purl):Prop where
 space:p.space.length<=200
 name:p.name.length<=200
 version:p.version.length<=200
 sub:p.sub.length<=200
 quals:p.qualifiers.length<=10
 each:∀q∈p.qualifiers,q.name.length<=200/\q.value.length<=200
theorem znQ{q:Gt.Pair}(h:ze2 q=false):q.name.length<=200/\q.value.length<=200:=by
 unfold ze2 at h;cases h1:big q.name with
 |true=>rw[h1] at h;cases h|false=>rw[h1] at h;exact ⟨zhR h1,zhR h⟩
theorem tiny{p:Gt.Purl}(h:zdK p=false):Tiny p:=by
 unfold zdK at h;cases h1:(zeC p).any big with
 |true=>rw[h1] at h;cases h|false =>
   rw[h1] at h;cases h2:p.qualifiers.any ze2 with
   |true=>rw[h2] at h;cases h|false =>
     rw[h2] at h;simp only[zeC,yCa,List.any_nil,Bool.or_false,yBc] at h1;refine ⟨zhR h1.1,zhR h1.2.1,zhR h1.2.2.1,zhR h1.2.2.2,?_,λq hq=>znQ ?_⟩;·have:=of_decide_eq_false h;unfold len at this;omega
     ·have:=yBt.1 h2 q hq;simpa using this
theorem s13(o:Orc Sx){l:List (List UInt8)}(h:l.length<=1000000000):m13 o l=some (l.any big,()):=by
 unfold m13;rw[zch l.length (λk=>big (l.getD k [])) (.inr (true,())) (.inl ()) (λk hk=>?_) ?_,zbL];·cases l.any big<;>rfl
 ·simp[zaY,zal]
 ·simp only[zaY,hk,decide_true,zaN,za9 hk,zaa,zaF hk (by omega),zbr [] hk];rw[zpj];rfl
theorem L13(n:Nat){l:List (List UInt8)}(h:l.length<=1000000000): @Eq (Option (Bool×Unit)) ((zam (n+1)).d 13 [.sl .str l] [.bool]) (some (l.any big,())):=(q13 n _).trans (s13 _ h)
abbrev zdJ:Gt.Pair:=⟨[],[]⟩
theorem s24(o:Orc Sx){p:Gt.Purl}(h:p.qualifiers.length<=1000000000):m24 o p=some (zdK p,()):=by
 unfold m24;refine zjz (r:=bif (zeC p).any big then .inr (true,()) else .inl ()) ((zja (λk=>(zeC p,(k:Int),())) 4 (λk=>big ((zeC p).getD k [])) (.inr (true,())) (.inl ()) (λk hk=>?_) ?_).trans ?_) ?_;·have hk':k<(zeC p).length:=hk;simp only[show len [p.space,p.name,p.version,p.sub]=((4:Nat):Int) from rfl,Int.ofNat_lt,hk,decide_true,zaN,za9 hk',zaa,zaF hk (by omega),zbr [] hk'];rw[zpj];rfl
 ·rfl
 ·rw[show (List.range 4)=List.range (zeC p).length from rfl,zbL]
 ·rw[zg0];unfold zdK;cases (zeC p).any big with
  |true=>rfl|false =>
    simp only[zal,cond_false];rw[zch p.qualifiers.length (λk=>ze2 (p.qualifiers.getD k zdJ)) (.inr (true,())) (.inl ()) (λk hk=>?_) ?_,zbL,zg0];·cases p.qualifiers.any ze2<;>rfl
    ·simp[zaY,zal]
    ·simp only[zaY,hk,decide_true,za9 hk,zaa,zaF hk (by omega),zbr zdJ hk,zaQ,cond_true];exact zhc rfl
theorem L24(n:Nat){p:Gt.Purl}(h:p.qualifiers.length<=1000000000): @Eq (Option (Bool×Unit)) ((zam (n+1)).d 24 [.st 6 p] [.bool]) (some (zdK p,())):=(q24 n _).trans (s24 _ h)
def qF(l:List Gt.Pair)(k:Nat):Int :=
 bif !zj6 (l.getD k zdJ).name then 8 else bif (l.getD k zdJ).value==[] then 2 else
 bif decide (0<(k:Int))&&(Op.bytesLess (l.getD k zdJ).name (l.getD (k - 1) zdJ).name||((l.getD k zdJ).name==(l.getD (k - 1) zdJ).name)) then 10 else 0
def qE(l:List Gt.Pair):Int:=ff (qF l) l.length
theorem zb2{l:List Gt.Pair}{k:Nat}(hk:k<l.length)(hl:l.length<=1000000000)(G:Gt.Pair->Bool) :
  br (decide (0<(k:Int))) (ob (at? l (IntKind.i64.wrap ((k:Int) - 1))) λy=>some (G y)) (some false)=some (decide (0<(k:Int))&&G (l.getD (k - 1) zdJ)):=by
 cases k with
 |zero=>rfl|succ k =>have hk':k<l.length:=(by omega);rw[show decide (0<((k+1:Nat):Int))=true from decide_eq_true (by omega),zjL (by omega) (by omega),show ((k+1:Nat):Int) - 1=(k:Int) by omega];simp only[zaN,za9 hk',zaa,Nat.add_sub_cancel,zbr zdJ hk',Bool.true_and]
theorem L52(n:Nat){s:List UInt8}(h:s.length<=1000000000): @Eq (Option (Bool×Unit)) ((zam (n+2)).d 52 [.str s] [.bool]) (some (zj6 s,())):=(q52 (n+1) _).trans (s52 n h)
theorem L16(n:Nat){s:List UInt8}(h:s.length<=1000000000): @Eq (Option (Bool×Unit)) ((zam (n+1)).d 16 [.str s] [.bool]) (some (zj6 s,())):=(q16 n _).trans (s16 _ h)
theorem s28(n:Nat){l:List Gt.Pair}(h:l.length<=1000000000)(h2:∀q∈l,q.name.length<=1000000000):m28 (zam (n+2)) l=some (qE l,()):=by
 unfold m28;refine zjz (zkJ l.length (qF l) (λc=>.inr (c,())) (.inl ()) (λk hk _=>?_) ?_) ?_;·have hn:=h2 l[k] (yBb hk);simp only[zaY,hk,decide_true,zaN,za9 hk,zaa,L52 n hn,zb2 hk h];rw[zaF hk (by omega)];unfold qF;simp only[zbr zdJ hk];refine zm4 (out:=λc=>Sum.inr (c,())) 8 (by decide) λ_=>zm4 (out:=λc=>Sum.inr (c,())) 2 (by decide) λ_=>zm4 (out:=λc=>Sum.inr (c,())) 10 (by decide) λ_=>?_;exact znZ.symm
 ·simp[zaY,zal]
 ·unfold qE;by_cases h0:ff (qF l) l.length=0;·rw[if_neg (by simpa using h0),h0];rfl
  ·rw[if_pos h0];rfl
theorem L28(n:Nat){l:List Gt.Pair}(h:l.length<=1000000000)(h2:∀q∈l,q.name.length<=1000000000): @Eq (Option (Int×Unit)) ((zam (n+3)).d 28 [.sl (.st 5) l] [(.int .i64)]) (some (qE l,())):=(q28 (n+2) _).trans (s28 n h h2)
theorem zhY(s:List UInt8):(zem s).length<=s.length+1:=by
 unfold zem;cases (s==[]) with
 |true=>simp|false =>simp only[cond_false];unfold zbN;have h1:=Lib.splitB_length_le ⟨#[47]⟩ 0 (Lib.countB ⟨s.toArray⟩ ⟨#[47]⟩) ⟨s.toArray⟩;have h2:=Lib.countB_le ⟨#[47]⟩ (yAl 1) _ ⟨s.toArray⟩ (yAl _);have h3:(ByteArray.mk s.toArray).size=s.length:=rfl;rw[yCe];omega
theorem L26(n:Nat){s:List UInt8}(h:s.length<=1000000000): @Eq (Option (List (List UInt8)×Unit)) ((zam (n+2)).d 26 [.str s] [(.cs .str)]) (some (zem s,())):=(q26 (n+1) _).trans (s26 n h)
theorem L25(n:Nat){l:List (List UInt8)}(dots:Bool)(h:l.length<=1000000000): @Eq (Option (Bool×Unit)) ((zam (n+1)).d 25 [.sl .str l,.bool dots] [.bool]) (some (za1 l dots,())):=(q25 n _ _).trans (s25 _ dots h)
theorem L14(n:Nat){s:List UInt8}(dots:Bool)(h:s.length<=100000000): @Eq (Option (Bool×Unit)) ((zam (n+3)).d 14 [.str s,.bool dots] [.bool]) (some (za1 (zem s) dots,())):=(q14 (n+2) _ _).trans (s14 n dots (by omega) (by have:=zhY s;omega))
theorem L29(n:Nat){s:List UInt8}(h:s.length<=1000000000): @Eq (Option (Bool×Unit)) ((zam (n+1)).d 29 [.str s] [.bool]) (some (s.any ctl,())):=(q29 n _).trans (s29 _ h)
theorem L17(n:Nat){s:List UInt8}(h:s.length<=1000000000): @Eq (Option (Bool×Unit)) ((zam (n+1)).d 17 [.str s] [.bool]) (some (!s.any ctl,())):=(q17 n _).trans (s17 _ h)
def zcg(r:Gt.KindRule)(p:Gt.Purl):Bool:=bif (bif p.space != [] then r.space==1 else false) then true else (bif p.space==[] then r.space==3 else false)
def zds(p:Gt.Purl):Bool:=bif p.name==[] then true else decide (0<=Lib.indexByte p.name 47)
def zor(p:Gt.Purl):Bool:=(zeC p).any λs=>s.any ctl
def zpf(p:Gt.Purl):Bool:=p.qualifiers.any λq=>q.value.any ctl
def zbf(p:Gt.Purl):Int :=
 bif (za2 p.kind).2.1 != 0 then (za2 p.kind).2.1 else bif zdK p then 3 else bif zcg (za2 p.kind).1 p then 2 else bif za1 (zem p.space) false then 2 else
 bif zds p then 8 else bif qE p.qualifiers != 0 then qE p.qualifiers else bif za1 (zem p.sub) true then 2 else bif zor p then 8 else bif zpf p then 8 else 0
theorem s10(n:Nat){p:Gt.Purl}(h:p.qualifiers.length<=1000000000):m10 (zam (n+3)) p=some (zbf p,()):=by
 unfold m10;rw[L23 n,L24 (n+2) h];simp only[zaa];unfold zbf;cases h1:((za2 p.kind).2.1 != 0) with
 |true=>rfl|false =>
   cases hl:zdK p with
   |true=>rfl|false =>
     have T:=tiny hl;have t1:=T.space;have t2:=T.name;have t3:=T.sub;have t4:=T.quals;have tp:=zhY p.space;have ts:=zhY p.sub;simp only[zal,cond_false,zaQ,zaa];rw[L26 (n+1) (by omega)];simp only[zaa];rw[L25 (n+2) false (by omega),L27,L28 n (by omega) (λq hq=>by have:=(T.each q hq).1;omega),L26 (n+1) (by omega)];simp only[zaa,zaQ];rw[L25 (n+2) true (by omega)];simp only[zaa];rw[show zav _ ([p.space,p.name,p.version,p.sub],(0:Int),())=_ from (zja (λk=>(zeC p,(k:Int),())) 4 (λk=>((zeC p).getD k []).any ctl) (.inr (8,())) (.inl ()) (λk hk=>?_) ?_).trans (by rw[show (List.range 4)=List.range (zeC p).length from rfl,zbL (zeC p) [] (λs=>s.any ctl)]),zg0]
     ·rw[zch p.qualifiers.length (λk=>(p.qualifiers.getD k zdJ).value.any ctl) (.inr (8,())) (.inl ()) (λk hk=>?_) ?_,zbL p.qualifiers zdJ (λq=>q.value.any ctl),zg0];·simp only[zaQ];have e1:(bif (bif p.space != [] then (za2 p.kind).1.space==1 else false) then true else (bif p.space==[] then (za2 p.kind).1.space==3 else false))=zcg (za2 p.kind).1 p:=rfl;have e2:(bif p.name==[] then true else decide (0<=Lib.indexByte p.name (UInt8.ofNat (Int.toNat 47))))=zds p:=rfl;rw[e1,e2];unfold zor zpf;cases zcg (za2 p.kind).1 p<;>cases za1 (zem p.space) false<;>cases zds p<;>cases (qE p.qualifiers != 0)<;>cases za1 (zem p.sub) true<;>cases (zeC p).any (λs=>s.any ctl)<;>cases p.qualifiers.any (λq=>q.value.any ctl)<;>rfl
      ·simp[zaY,zal]
      ·have:=(T.each _ (yBb hk)).2;simp only[zaY,hk,decide_true,zaN,za9 hk,zaa,zaF hk (by omega),zbr zdJ hk,L29 (n+2) (show (p.qualifiers[k]).value.length<=1000000000 by omega)];exact zhc rfl
     ·rfl
     ·have hk':k<(zeC p).length:=hk;have hb:((zeC p)[k]).length<=1000000000:=by
       have:(zeC p)[k]∈zeC p:=yBb hk';have t5:=T.version;simp only[zeC,yAp,yBD,or_false] at this;rcases this with h|h|h|h<;> · simp only[zeC] at h ⊢;rw[h];omega
      simp only[show len [p.space,p.name,p.version,p.sub]=((4:Nat):Int) from rfl,Int.ofNat_lt,hk,decide_true,zaN,za9 hk',zaa,zaF hk (by omega),zbr [] hk',L29 (n+2) hb];exact zhc rfl
end Pe.Tryz
end
section
/- The reference's check is the same; the canonical form of both sides. -/
set_option maxRecDepth 100000
namespace Pe.Tryz
open Go Go.Proofs Pe Pe.Told
theorem zqv{α:Type}(l:List α)(p:α->Bool)(a:Bool):l.foldl (λb x=>bif b then !p x else false) a=(bif a then !l.any p else false):=by
 induction l generalizing a with
 |nil=>cases a<;>rfl|cons x r ih=>rw[List.foldl_cons,ih];cases a<;>cases h:p x<;>simp[h]
theorem zpl{σ R:Type}{out:Int->R}{nxt:σ}{b:Bool}{c:Int}(hc:c≠0):some (bif b then .inr (out c) else .inl nxt)=ffS out nxt (bif b then c else 0):=by
 cases b;·rfl
 ·simp[ffS,hc]
theorem s5(n:Nat){p:Gt.Purl}(h:p.qualifiers.length<=1000000000):m5 (zam (n+3)) p=some (zbf p,()):=by
 unfold m5;rw[L12 n];simp only[zaa];unfold zbf;cases h1:((za2 p.kind).2.1 != 0) with
 |true=>rfl|false =>
   have e67: @Eq (Option (Bool×Unit)) ((zam (n+3)).d 13 [.sl .str [p.space,p.name,p.version,p.sub]] [.bool]) (some ((zeC p).any big,())):=L13 (n+2) (l:=zeC p) (by simp[zeC]);rw[e67];simp only[zal,cond_false,zaQ,zaa];cases hb:(bif (zeC p).any big then true else decide (10<len p.qualifiers)) with
   |true =>
     have hl:zdK p=true:=by
      unfold zdK;cases h3:(zeC p).any big with
      |true=>rfl|false=>rw[h3] at hb;simp only[cond_false] at hb ⊢;rw[hb];cases p.qualifiers.any ze2<;>rfl
     rw[hl];rfl
   |false =>
     simp only[zal];rw[zch p.qualifiers.length (λk=>ze2 (p.qualifiers.getD k zdJ)) (.inr (3,())) (.inl ()) (λk hk=>?_) ?_,zbL p.qualifiers zdJ ze2,zg0]
     ·have hq:zdK p=p.qualifiers.any ze2:=by
       unfold zdK;cases h3:(zeC p).any big with
       |true=>rw[h3] at hb;cases hb|false=>rw[h3] at hb;simp only[cond_false] at hb ⊢;rw[hb];cases p.qualifiers.any ze2<;>rfl
      rw[<-hq];cases hl:zdK p with
      |true=>rfl|false =>
        have T:=tiny hl;have t1:=T.space;have t2:=T.name;have t3:=T.sub;have t4:=T.quals;have t5:=T.version;simp only[zal,cond_false];rw[L14 n false (by omega),L15,L14 n true (by omega),L17 (n+2) (show p.space.length<=1000000000 by omega),L17 (n+2) (show p.name.length<=1000000000 by omega),L17 (n+2) (show p.version.length<=1000000000 by omega),L17 (n+2) (show p.sub.length<=1000000000 by omega)];simp only[zaa,zaQ];rw[zkJ p.qualifiers.length (qF p.qualifiers) (λc=>.inr (c,())) (.inl ()) (λk hk _=>?_) ?_]
        ·refine Eq.trans (b:=br (bif zcg (za2 p.kind).1 p then true else za1 (zem p.space) false) (some (2,())) (br (zds p) (some (8,())) (br (qE p.qualifiers != 0) (some (qE p.qualifiers,())) (br (za1 (zem p.sub) true) (some (2,())) (br (bif zor p then true else zpf p) (some (8,())) (some (0,()))))))) ?_ ?_
         ·congr 1;congr 1;have hcut:∀(X:Option (Int×Unit)),zaS (some (if ff (qF p.qualifiers) p.qualifiers.length≠0 then Sum.inr (ff (qF p.qualifiers) p.qualifiers.length,()) else Sum.inl ())) (λ(_:Unit)=>X)=br (qE p.qualifiers != 0) (some (qE p.qualifiers,())) X:=by
           intro X;unfold qE;by_cases h0:ff (qF p.qualifiers) p.qualifiers.length=0;·rw[if_neg (by simpa using h0),h0];rfl
           ·rw[if_pos h0,show (ff (qF p.qualifiers) p.qualifiers.length != 0)=true by simpa using h0];rfl
          refine (hcut _).trans ?_;congr 1;congr 1;refine zjz (zmw (λk (b:Bool)=>(b,(k:Int),())) p.qualifiers (λb q=>bif b then !q.value.any ctl else false) (λb=>.inl (b,())) (λ_ _=>True) (λk hk b _=>⟨?_,trivial⟩) (λb _=>?_) _ trivial) ?_;·have:=(T.each _ (yBb hk)).2;simp only[zaY,hk,decide_true,za9 hk,zaa,zaF hk (by omega),L17 (n+2) (show (p.qualifiers[k]).value.length<=1000000000 by omega),zaQ];rfl
          ·simp[zaY,zal]
          ·rw[zqv p.qualifiers (λq=>q.value.any ctl)];simp only[zbC,zor,zpf,zeC,yCa,List.any_nil,Bool.or_false];cases p.space.any ctl<;>cases p.name.any ctl<;>cases p.version.any ctl<;>cases p.sub.any ctl<;>cases p.qualifiers.any (λq=>q.value.any ctl)<;>rfl
         ·cases zcg (za2 p.kind).1 p<;>cases za1 (zem p.space) false<;>cases zds p<;>cases (qE p.qualifiers != 0)<;>cases za1 (zem p.sub) true<;>cases zor p<;>cases zpf p<;>rfl
        ·simp[zaY,zal]
        ·have hn:=(T.each _ (yBb hk)).1;simp only[zaY,hk,decide_true,zaN,za9 hk,zaa,L16 (n+2) (show (p.qualifiers[k]).name.length<=1000000000 by omega),zb2 hk h];rw[zaF hk (by omega)];unfold qF;simp only[zbr zdJ hk];refine zm4 (out:=λc=>Sum.inr (c,())) 8 (by decide) λ_=>zm4 (out:=λc=>Sum.inr (c,())) 2 (by decide) λ_=>zpl (c:=10) (out:=λc=>Sum.inr (c,())) (by decide)
     ·simp[zaY,zal]
     ·have:([p.qualifiers[k].name,p.qualifiers[k].value]:List (List UInt8)).length<=1000000000:=by simp
      have e67: @Eq (Option (Bool×Unit)) ((zam (n+3)).d 13 [.sl .str [p.qualifiers[k].name,p.qualifiers[k].value]] [.bool]) (some ([p.qualifiers[k].name,p.qualifiers[k].value].any big,())):=L13 (n+2) (l:=[p.qualifiers[k].name,p.qualifiers[k].value]) this;simp only[zaY,hk,decide_true,zaN,za9 hk,zaa,zaF hk (by omega),zbr zdJ hk,e67];refine zhc ?_;simp only[yCa,List.any_nil,Bool.or_false,ze2];cases big p.qualifiers[k].name<;>rfl
theorem L10(n:Nat){p:Gt.Purl}(h:p.qualifiers.length<=1000000000): @Eq (Option (Int×Unit)) ((zam (n+4)).d 10 [.st 6 p] [(.int .i64)]) (some (zbf p,())):=(q10 (n+3) _).trans (s10 n h)
theorem L5(n:Nat){p:Gt.Purl}(h:p.qualifiers.length<=1000000000): @Eq (Option (Int×Unit)) ((zam (n+4)).d 5 [.st 6 p] [(.int .i64)]) (some (zbf p,())):=(q5 (n+3) _).trans (s5 n h)
def zaV(p:Gt.Purl):Gt.Purl :=
 ⟨p.kind,bif (za2 p.kind).1.small then zaW p.space else p.space,
  bif (za2 p.kind).1.dashes then zce false (bif (za2 p.kind).1.small then zaW p.name else p.name) else (bif (za2 p.kind).1.small then zaW p.name else p.name),p.version,p.qualifiers,p.sub⟩
theorem L30(n:Nat){s:List UInt8}(h:s.length<=1000000000): @Eq (Option (List UInt8×Unit)) ((zam (n+1)).d 30 [.str s] [.str]) (some (zaW s,())):=(q30 n _).trans (s30 _ h)
theorem L31(n:Nat){s:List UInt8}(h:s.length<=1000000000): @Eq (Option (List UInt8×Unit)) ((zam (n+2)).d 31 [.str s] [.str]) (some (zce false s,())):=(q31 (n+1) _).trans (s31 n h)
theorem zgq(s:List UInt8):(zaW s).length=s.length:=by simp[zaW]
theorem zgl:∀(b:Bool)(s:List UInt8),(zce b s).length<=s.length
 |_,[]=>by simp[zce]
 |b,c::r=>by have h1:=zgl true r;have h2:=zgl false r;unfold zce;cases zbJ c<;>cases b<;>simp<;>omega
theorem s11(n:Nat){p:Gt.Purl}(T:Tiny p):m11 (zam (n+3)) p=some (zaV p,()):=by
 have t1:=T.space;have t2:=T.name;have t4:=T.quals;unfold m11 zaV;rw[L23 n,L30 (n+2) (show p.space.length<=1000000000 by omega),L30 (n+2) (show p.name.length<=1000000000 by omega)];simp only[zaa];cases (za2 p.kind).1.small<;>cases (za2 p.kind).1.dashes;·simp only[zal,cond_false,zbC];rw[zfe _ (by simp[lim];omega)];rfl
 ·simp only[zaN,zal,cond_false,cond_true,zbC];rw[L31 (n+1) (by omega)];simp only[zaa,zbC];rw[zfe _ (by simp[lim];omega)];rfl
 ·simp only[zaN,zal,cond_false,cond_true,zbC];rw[zfe _ (by simp[lim];omega)];rfl
 ·simp only[zaN,cond_true,zbC];rw[L31 (n+1) (by rw[zgq];omega)];simp only[zaa,zbC];rw[zfe _ (by simp[lim];omega)];rfl
theorem zlg{p:Gt.Purl}(T:Tiny p):Tiny (zaV p):=by
 have t1:=T.space;have t2:=T.name;have h1:=zgl false p.name;have h2:=zgl false (zaW p.name);have h3:=zgq p.name;have h4:=zgq p.space;refine ⟨?_,?_,T.version,T.sub,T.quals,T.each⟩;·unfold zaV;cases (za2 p.kind).1.small<;>simp<;>omega
 ·unfold zaV;cases (za2 p.kind).1.small<;>cases (za2 p.kind).1.dashes<;>simp<;>omega
theorem L11(n:Nat){p:Gt.Purl}(T:Tiny p): @Eq (Option (Gt.Purl×Unit)) ((zam (n+4)).d 11 [.st 6 p] [(.st 6)]) (some (zaV p,())):=(q11 (n+3) _).trans (s11 n T)
theorem zef{p:Gt.Purl}(h:zbf p=0):Tiny p:=by
 cases hl:zdK p with
 |false=>exact tiny hl|true =>
   unfold zbf at h;cases h1:((za2 p.kind).2.1 != 0) with
   |true=>rw[h1] at h;simp only[cond_true] at h;rw[h] at h1;cases h1|false=>rw[h1,hl] at h;simp at h
def zk6(p:Gt.Purl):Gt.Purl×Int×Unit:=bif zbf p != 0 then (⟨[],[],[],[],[],[]⟩,zbf p,()) else (zaV p,0,())
theorem L4(n:Nat){p:Gt.Purl}(h:p.qualifiers.length<=1000000000): @Eq (Option (Gt.Purl×Int×Unit)) ((zam (n+5)).d 4 [.st 6 p] [(.st 6),(.int .i64)]) (some (zk6 p)):=by
 rw[q4];unfold m4 zk6;rw[L10 n h];simp only[zaa];cases hc:(zbf p != 0) with
 |true=>rfl|false=>rw[L11 n (zef (by simpa using hc))];rfl
end Pe.Tryz
end
section
/- The texts of names: both sides print the same; THE LAW OF CANONICAL FORMS. -/
set_option maxRecDepth 100000
namespace Pe.Tryz
open Go Go.Proofs Pe Pe.Told
end Pe.Tryz
end
section
/- PROVED: THE LAW OF CANONICAL FORMS, plain: check, canonical form, text and key are what is specified. -/
set_option maxRecDepth 100000
namespace Pe.Tryz
open Go Go.Proofs Pe Pe.Told
end Pe.Tryz
end
