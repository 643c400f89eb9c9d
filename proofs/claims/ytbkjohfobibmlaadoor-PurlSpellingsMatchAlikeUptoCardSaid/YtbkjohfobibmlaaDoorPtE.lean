/- PROVED HERE: a part of the seat's proofs; see the text that holds the claim's theorem. -/
import Derived.Test.YtbkjohfobibmlaaDoorNm
import Derived.Test.YtbkjohfobibmlaaDoorPtC
section
/- Plain words of names: letters, escapes, small letters, dashes; and the models of the functions that tell them. -/
set_option maxRecDepth 100000
namespace Pe.Tryd
open Go Go.Proofs Pe Pe.Told
theorem all8{p:UInt8->Bool}(h:((List.range 256).all λn=>p (UInt8.ofNat n))=true)(c:UInt8):p c=true:=by have:=yAQ.1 h c.toNat (by simpa using c.toNat_lt);simpa using this
theorem eq8{α:Type}[DecidableEq α]{f g:UInt8->α}(h:((List.range 256).all λn=>decide (f (UInt8.ofNat n)=g (UInt8.ofNat n)))=true)(c:UInt8):f c=g c:=by have:=all8 (p:=λc=>decide (f c=g c)) h c;simpa using this
def zbT(c:UInt8):Bool:=c==45||c==95||c==46
def ctl(c:UInt8):Bool:=decide (c<32)||c==127
def low(c:UInt8):UInt8:=bif decide (65<=c)&&decide (c<=90) then c+32 else c
def zi4(c:UInt8)(first:Bool):Bool:=decide (97<=c)&&decide (c<=122)||(!first&&(decide (48<=c)&&decide (c<=57)||c==46||c==45||c==95))
def zaW(s:List UInt8):List UInt8:=s.map low
def zco:Bool->List UInt8->List UInt8|_,[]=>[]|b,c::r=>bif zbT c then (bif b then [] else [45])++zco true r else c::zco false r
theorem s51(o:Orc Sx)(c:UInt8):m51 o (c.toNat:Int)=some (zbT c,()):=by simp only[m51,zaa,zaD];exact congrArg some (Prod.ext (eq8 (f:=λc=>bif (bif ((c.toNat:Int)==45) then true else ((c.toNat:Int)==95)) then true else ((c.toNat:Int)==46)) (g:=zbT) (by decide+kernel) c) rfl)
theorem s71(o:Orc Sx)(c:UInt8)(f:Bool):m71 o (c.toNat:Int) f=some (zi4 c f,()):=by
 cases f;·exact eq8 (f:=λc=>m71 o (c.toNat:Int) false) (g:=λc=>some (zi4 c false,())) (by kernel_rfl) c
 ·exact eq8 (f:=λc=>m71 o (c.toNat:Int) true) (g:=λc=>some (zi4 c true,())) (by kernel_rfl) c
def zjw(c:UInt8):Bool:=decide (97<=c)&&decide (c<=122)||decide (65<=c)&&decide (c<=90)
theorem s65(o:Orc Sx)(c:UInt8):m65 o (c.toNat:Int)=some (zjw c,()) :=
 eq8 (f:=λc=>m65 o (c.toNat:Int)) (g:=λc=>some (zjw c,())) (by kernel_rfl) c
theorem L51(n:Nat)(c:UInt8): @Eq (Option (Bool×Unit)) ((zam (n+1)).d 51 [.int .u8 (c.toNat:Int)] [.bool]) (some (zbT c,())):=(q51 n _).trans (s51 _ c)
theorem L71(n:Nat)(c:UInt8)(f:Bool): @Eq (Option (Bool×Unit)) ((zam (n+1)).d 71 [.int .u8 (c.toNat:Int),.bool f] [.bool]) (some (zi4 c f,())):=(q71 n _ _).trans (s71 _ c f)
theorem L65(n:Nat)(c:UInt8): @Eq (Option (Bool×Unit)) ((zam (n+1)).d 65 [.int .u8 (c.toNat:Int)] [.bool]) (some (zjw c,())):=(q65 n _).trans (s65 _ c)
theorem L27(n:Nat)(s:List UInt8)(c:Int): @Eq (Option (Int×Unit)) ((zam (n+1)).d 27 [.str s,.int .u8 c] [.int .i64]) (some (Lib.indexByte s (UInt8.ofNat (Int.toNat c)),())):=zmv n s c _ rfl
theorem L13(n:Nat)(s:List UInt8)(c:UInt8): @Eq (Option (Bool×Unit)) ((zam (n+1)).d 13 [.str s,.str [c]] [.bool]) (some (decide (0<=Lib.indexByte s c),())):=by kernel_rfl
theorem L48(n:Nat){s:List UInt8}(c:UInt8)(h:s.length<=4000000000): @Eq (Option (List (List UInt8)×Unit)) ((zam (n+1)).d 48 [.str s,.str [c]] [(.cs .str)]) (some (zbQ c s,())) :=
 zqf n s [c] _ (by show (bif Nat.ble s.length 4000000000 then some (zbQ c s,()) else none)=_;rw[show Nat.ble s.length 4000000000=true by rw[yAP];exact h];rfl)
theorem zg2(s:List UInt8):zd0 (zaj s)=s:=by simp[zd0,zaj,Function.comp_def]
theorem zmG(s:List UInt8):zpV (zaj s)=some s:=by
 unfold zpV;have:((zaj s).all λn=>decide (0<=n)&&decide (n<256))=true:=by rw[yAQ];intro x hx;simp only[zaj,yAJ] at hx;obtain ⟨c,_,rfl⟩:=hx;have:=c.toNat_lt;simp;omega
 rw[this,zg2];rfl
theorem zoE(a b:List UInt8):zaj (a++b)=zaj a++zaj b:=by simp[zaj]
theorem zdu(a:List UInt8):(zaj a).length=a.length:=by simp[zaj]
theorem ziJ{a b:List UInt8}(h:a.length+b.length<=lim):zbh (zaj a) (zaj b)=some (zaj (a++b)):=by rw[zbu (by simpa[zdu] using h),zoE]
theorem zfH{α:Type}(s:List α)(h:s.length<=lim):zbh [] s=some s:=by rw[zbu (by simpa using h)];rfl
theorem zqa(c:UInt8):(bif decide ((c.toNat:Int)<32) then true else ((c.toNat:Int)==127))=ctl c :=
 eq8 (f:=λc=>bif decide ((c.toNat:Int)<32) then true else ((c.toNat:Int)==127)) (g:=ctl) (by decide+kernel) c
theorem zkQ(s:List UInt8)(p:UInt8->Bool):((List.range s.length).any λk=>p (s.getD k 0))=s.any p:=by
 rw[yCc];simp only[yA9,yBt];constructor
 ·rintro ⟨k,hk,h⟩
  refine ⟨s[k],yBg hk,?_⟩;simpa[yAF,hk] using h
 ·rintro ⟨x,hx,h⟩
  obtain ⟨k,hk,rfl⟩:=List.getElem_of_mem hx;exact ⟨k,hk,by simpa[yAF,hk] using h⟩
theorem s29(o:Orc Sx){s:List UInt8}(h:s.length<=1000000000):m29 o s=some (s.any ctl,()):=by
 unfold m29;rw[zct s.length (λk=>ctl (s.getD k 0)) (.inr (true,())) (.inl ()) (λk hk=>?_) ?_,zkQ];·cases s.any ctl<;>rfl
 ·simp[zaY,zad]
 ·simp only[zaY,hk,decide_true,za7 hk,zaa,zaD,zqa,zaG hk (by omega)];cases h2:ctl s[k]<;>simp[hk,h2]
theorem s15(o:Orc Sx){s:List UInt8}(h:s.length<=1000000000):m15 o s=some (!s.any ctl,()):=by
 unfold m15;rw[zct s.length (λk=>ctl (s.getD k 0)) (.inr (false,())) (.inl ()) (λk hk=>?_) ?_,zkQ];·cases s.any ctl<;>rfl
 ·simp[zaY,zad]
 ·simp only[zaY,hk,decide_true,za7 hk,zaa,zaD,zqa,zaG hk (by omega)];cases h2:ctl s[k]<;>simp[hk,h2]
end Pe.Tryd
end
section
/- The models of the functions on texts of names: qualifiers' names, segments, small letters, dashes, escapes, paths. -/
set_option maxRecDepth 100000
namespace Pe.Tryd
open Go Go.Proofs Pe Pe.Told
theorem zh1{α:Type}{X P:Bool}{a b:α}(h:X=P):some (bif X then a else b)=if P=true then some a else some b:=by subst h;cases X<;>rfl
theorem zbV{α:Type}(s:List α)(d:α)(p:α->Bool):((List.range s.length).any λk=>p (s.getD k d))=s.any p:=by
 rw[yCc];simp only[yA9,yBt];constructor
 ·rintro ⟨k,hk,h⟩
  refine ⟨s[k],yBg hk,?_⟩;simpa[yAF,hk] using h
 ·rintro ⟨x,hx,h⟩
  obtain ⟨k,hk,rfl⟩:=List.getElem_of_mem hx;exact ⟨k,hk,by simpa[yAF,hk] using h⟩
theorem zbA{α:Type}{s:List α}{k:Nat}(d:α)(h:k<s.length):s.getD k d=s[k]:=by simp[h]
theorem zaS{σ R:Type}{x:Option (σ⊕R)}{r:σ⊕R}{g:σ->Option R}{y:Option R}(h:x=some r)(h2:zaQ (some r) g=y):zaQ x g=y:=by rw[h,h2]
def zlh(s:List UInt8):Bool:=bif (List.range s.length).any (λk=> !zi4 (s.getD k 0) ((k:Int)==0)) then false else s != []
theorem s50(n:Nat){s:List UInt8}(h:s.length<=1000000000):m50 (zam (n+1)) s=some (zlh s,()):=by
 unfold m50;rw[zct s.length (λk=> !zi4 (s.getD k 0) ((k:Int)==0)) (.inr (false,())) (.inl ()) (λk hk=>?_) ?_];·unfold zlh;cases (List.range s.length).any (λk=> !zi4 (s.getD k 0) ((k:Int)==0))<;>rfl
 ·simp[zaY,zad]
 ·simp only[zaY,hk,decide_true,zaf,za7 hk,zaa,L71,zaG hk (by omega),zbA 0 hk];rw[zq7]
theorem s14(o:Orc Sx){s:List UInt8}(h:s.length<=1000000000):m14 o s=some (zlh s,()):=by
 unfold m14;rw[zct s.length (λk=> !zi4 (s.getD k 0) ((k:Int)==0)) (.inr (false,())) (.inl ()) (λk hk=>?_) ?_];·unfold zlh;cases (List.range s.length).any (λk=> !zi4 (s.getD k 0) ((k:Int)==0))<;>rfl
 ·simp[zaY,zad]
 ·simp only[zaY,hk,decide_true,za7 hk,zaa,zaG hk (by omega),zbA 0 hk,zaD,cond_true];refine zh1 ?_;generalize s[k]=c;generalize ((k:Int)==0)=f;cases f;·revert c;exact eq8 (by decide+kernel)
  ·revert c;exact eq8 (by decide+kernel)
def zef(s:List UInt8):List (List UInt8):=bif s==[] then [] else zbQ 47 s
theorem s26(n:Nat){s:List UInt8}(h:s.length<=1000000000):m26 (zam (n+1)) s=some (zef s,()):=by unfold m26 zef;rw[L48 n 47 (by omega)];cases (s==[])<;>rfl
theorem s34(n:Nat){s:List UInt8}(h:s.length<=1000000000):m34 (zam (n+1)) s=some (zef s,()):=by unfold m34 zef;rw[L48 n 47 (by omega)];cases (s==[])<;>rfl
def zgu(dots:Bool)(x:List UInt8):Bool:=bif x==[] then true else bif dots then (bif x==[46] then true else x==[46,46]) else false
def zba(l:List (List UInt8))(dots:Bool):Bool:=bif l.any (zgu dots) then true else decide (10<len l)
theorem s25(o:Orc Sx){l:List (List UInt8)}(dots:Bool)(h:l.length<=1000000000):m25 o l dots=some (zba l dots,()):=by
 unfold m25;rw[zct l.length (λk=>zgu dots (l.getD k [])) (.inr (true,())) (.inl ()) (λk hk=>?_) ?_,zbV];·unfold zba;cases l.any (zgu dots)<;>rfl
 ·simp[zaY,zad]
 ·simp only[zaY,hk,decide_true,za7 hk,zaa,zaG hk (by omega),zbA [] hk,zaD,cond_true];exact zh1 rfl
theorem s12(n:Nat){s:List UInt8}(dots:Bool)(h:s.length<=1000000000)(h2:(zef s).length<=1000000000):m12 (zam (n+2)) s dots=some (zba (zef s) dots,()):=by
 unfold m12;rw[show (zam (n+2)).d 34 [.str s] [(.sl .str)]=_ from (q34 (n+1) s).trans (s34 n h)];simp only[zaa];generalize zef s=l at h2;rw[zct l.length (λk=>zgu dots (l.getD k [])) (.inr (true,())) (.inl ()) (λk hk=>?_) ?_,zbV];·unfold zba;cases l.any (zgu dots)<;>rfl
 ·simp[zaY,zad]
 ·simp only[zaY,hk,decide_true,za7 hk,zaa,zaG hk (by omega),zbA [] hk,zaD,cond_true];exact zh1 rfl
end Pe.Tryd
end
section
/- The models: small letters, dashes, paths. -/
set_option maxRecDepth 100000
namespace Pe.Tryd
open Go Go.Proofs Pe Pe.Told
theorem low1(c:UInt8):(bif (bif decide (65<=(c.toNat:Int)) then decide ((c.toNat:Int)<=90) else false) then IntKind.u8.wrap ((IntKind.u8.wrap ((c.toNat:Int)+97)) - 65) else (c.toNat:Int))=((low c).toNat:Int) :=
 eq8 (f:=λc=>(bif (bif decide (65<=(c.toNat:Int)) then decide ((c.toNat:Int)<=90) else false) then IntKind.u8.wrap ((IntKind.u8.wrap ((c.toNat:Int)+97)) - 65) else (c.toNat:Int))) (g:=λc=>((low c).toNat:Int)) (by decide+kernel) c
def zlr(s:List UInt8)(k:Nat):List Int:=zaj ((s.take k).map low++s.drop k)
theorem zjd(s:List UInt8)(k:Nat):(zlr s k).length=s.length:=by simp[zlr,zaj];omega
theorem zol{s:List UInt8}{k:Nat}(h:k<s.length):zdQ (zlr s k) k=some ((s[k]).toNat:Int):=by
 unfold zdQ zlr;have hl:((s.take k).map low).length=k:=by simp;omega
 rw[zaj,yAg,yAA (by omega),hl];simp[h]
theorem zkw{s:List UInt8}{k:Nat}(h:k<s.length):zlr s (k+1)=(zlr s k).set k ((low s[k]).toNat:Int):=by
 apply yAN;intro i;have hl:((s.take k).map low).length=k:=by simp;omega
 have hl2:((s.take (k+1)).map low).length=k+1:=by simp;omega
 rw[List.getElem?_set];by_cases hi:k=i;·subst hi;rw[if_pos rfl,if_pos (by rw[zjd];exact h)];simp only[zlr,zaj,yAg];rw[yAi (by omega)];simp[h]
 ·rw[if_neg hi];simp only[zlr,zaj,yAg];by_cases hlt:i<k;·rw[yAi (by omega),yAi (by omega)];simp[hlt,show i<k+1 by omega]
  ·rw[yAA (by omega),yAA (by omega),hl,hl2];simp[show k+1+(i - (k+1))=i by omega,show k+(i - k)=i by omega]
theorem zok{s:List UInt8}{k:Nat}(h:k<s.length)(hc:(bif decide (65<=((s[k]).toNat:Int)) then decide (((s[k]).toNat:Int)<=90) else false)=false):zlr s (k+1)=zlr s k:=by
 rw[zkw h,<-low1,hc];have:=zol h;unfold zdQ at this;apply yAN;intro i;rw[List.getElem?_set];by_cases hi:k=i;·subst hi;rw[if_pos rfl,if_pos (by rw[zjd];exact h),this];rfl
 ·rw[if_neg hi]
theorem zpA(s:List UInt8):zd0 (zlr s s.length)=zaW s:=by simp[zlr,zaW,zg2]
theorem zpy{α:Type}{l:List α}{k:Nat}(h:k<l.length):zdY l (k:Int)=some k:=by show (bif Nat.blt k l.length then some k else none)=_;rw[show Nat.blt k l.length=true by simpa[yAZ] using h];rfl
theorem s30(o:Orc Sx){s:List UInt8}(h:s.length<=1000000000):m30 o s=some (zaW s,()):=by
 unfold m30;rw[zfH s (by simp[lim];omega)];simp only[zaa];refine zaS (zf6 (A:=Unit) (λk _=>((k:Int),zlr s k,())) s.length (λ_ _=>.inl (zlr s s.length,())) (λ_ _=>True) (λk _ hk _=>?_) 0 () (yAE _) trivial) ?_
 ·by_cases hlt:k<s.length
  ·left;refine ⟨(),hlt,?_,trivial,rfl⟩;simp only[len,zdu,Int.ofNat_lt,hlt,decide_true,zpy (show k<(zlr s k).length by rw[zjd];exact hlt),zaa,zol hlt,zaD,zaG hlt (by omega)];have:=zkw hlt;rw[<-low1] at this;cases hc:(bif decide (65<=((s[k]).toNat:Int)) then decide (((s[k]).toNat:Int)<=90) else false) with
   |true=>rw[hc] at this;rw[this];rfl|false=>rw[zok hlt hc];rfl
  ·right;obtain rfl:k=s.length:=by omega
   simp[len,zdu,zad]
 ·simp only[zaq,zpA]
def ziZ(s:List UInt8)(k:Nat):Bool:=k != 0&&zbT (s.getD (k - 1) 0)
theorem zit{s:List UInt8}{k:Nat}(h:k<s.length):ziZ s (k+1)=zbT s[k]:=by simp[ziZ,h]
theorem zhO{s:List UInt8}{k:Nat}(h:k<s.length):zco (ziZ s k) (s.drop k)=(bif zbT s[k] then (bif ziZ s k then [] else [45]) else [s[k]])++zco (ziZ s (k+1)) (s.drop (k+1)):=by rw[yA6 h,zit h];cases hc:zbT s[k]<;>simp[zco,hc]
theorem cat1{b:List UInt8}{c:UInt8}(h:b.length+1<=lim):zbh (zaj b) [(c.toNat:Int)]=some (zaj (b++[c])):=ziJ (b:=[c]) h
theorem cat45{b:List UInt8}(h:b.length+1<=lim):zbh (zaj b) [45]=some (zaj (b++[45])):=ziJ (b:=[45]) h
theorem s31(n:Nat){s:List UInt8}(h:s.length<=1000000000):m31 (zam (n+1)) s=some (zco false s,()):=by
 unfold m31;refine zaS (zf6 (A:=List UInt8) (λk b=>((k:Int),zaj b,())) s.length (λk b=>.inl (zaj (b++zco (ziZ s k) (s.drop k)),())) (λk b=>b.length<=k) (λk b hk hb=>?_) 0 [] (yAE _) (by simp)) ?_
 ·by_cases hlt:k<s.length
  ·left;have hl:b.length+1<=lim:=by simp[lim];omega
   simp only[zaY,hlt,decide_true,zaf,za7 hlt,zaa,zaG hlt (by omega),L51];have hcond:∀{β:Type}(g:Bool->Option β),ob (br ((k:Int)==0) (some true) (ob (at? s (IntKind.i64.wrap ((k:Int) - 1))) λc6=>(some (!zbT c6)))) g=g (!ziZ s k):=by
    intro β g;cases k with
    |zero=>rfl|succ k =>
      have hk':k<s.length:=(by omega);have:(((k+1:Nat):Int)==0)=false:=by simp;omega
      rw[this,zdw (by omega) (by omega),show ((k+1:Nat):Int) - 1=(k:Int) by omega];simp only[zad,za7 hk',zaa,zit hk']
   cases hc:zbT s[k] with
   |false =>
     refine ⟨b++[s[k]],trivial,?_,by simp;omega,?_⟩;·simp only[yBn,zaf,cat1 hl,zaa]
     ·rw[zhO hlt,hc];simp
   |true =>
     cases hp:ziZ s k with
     |false =>
       refine ⟨b++[45],trivial,?_,by simp;omega,?_⟩;·simp only[yBr,zad];refine (hcond _).trans ?_;simp only[hp,yBn,zaf,cat45 hl,zaa]
       ·rw[<-hp,zhO hlt,hc,hp];simp
     |true =>
       refine ⟨b,trivial,?_,by omega,?_⟩;·simp only[yBr,zad];refine (hcond _).trans ?_;simp only[hp,yBr,zad]
       ·rw[<-hp,zhO hlt,hc,hp];simp
  ·right;obtain rfl:k=s.length:=by omega
   simp[zaY,zad,zco]
 ·simp[zaq,zmG,zaa,ziZ]
end Pe.Tryd
end
section
/- What is right of a name: both checks answer the same. -/
set_option maxRecDepth 100000
namespace Pe.Tryd
open Go Go.Proofs Pe Pe.Told
theorem zkk{σ R:Type}{f:σ->Option (σ⊕R)}(mk:Nat->σ)(n:Nat)(p:Nat->Bool)(yes no:R)
  (h:∀k,k<n->f (mk k)=if p k=true then some (.inr yes) else some (.inl (mk (k+1))))
  (he:f (mk n)=some (.inr no)):zav f (mk 0)=some (bif (List.range n).any p then yes else no):=by
 refine zf6 (A:=Unit) (λk _=>mk k) n (λ_ _=>bif (List.range n).any p then yes else no) (λk _=>∀j,j<k->p j=false) (λk _ hk hI=>?_) 0 () (yAE _) (λj hj=>by omega);by_cases hlt:k<n
 ·cases hp:p k with
  |true =>right;have:(List.range n).any p=true:=yA9.2 ⟨k,by simpa using hlt,hp⟩;show f (mk k)=_;rw[h k hlt,hp,this];rfl
  |false =>
    left;refine ⟨(),hlt,by rw[h k hlt,hp];rfl,λj hj=>?_,rfl⟩;by_cases hjk:j=k;·subst hjk;exact hp
    ·exact hI j (by omega)
 ·right;obtain rfl:k=n:=by omega
  have:(List.range k).any p=false:=by rw[yBu];intro x hx;simpa using hI x (by simpa using hx)
  rw[he,this];rfl
theorem zhQ{σ R:Type}{A:Bool}{x:R}{y:σ}{g:σ->Option R}:zaQ (some (bif A then .inr x else .inl y)) g=br A (some x) (g y):=by cases A<;>rfl
def big(s:List UInt8):Bool:=decide (200<len s)
def zeY(p:Gt.Purl):List (List UInt8):=[p.space,p.name,p.version,p.sub]
def zfu(q:Gt.Pair):Bool:=bif big q.name then true else big q.value
def zd3(p:Gt.Purl):Bool:=bif (zeY p).any big then true else bif p.qualifiers.any zfu then true else decide (10<len p.qualifiers)
theorem ziN{s:List UInt8}(h:big s=false):s.length<=200:=by have:=of_decide_eq_false h;unfold len at this;omega
structure Tiny (p:Gt.Purl):Prop where
 space:p.space.length<=200
 name:p.name.length<=200
 version:p.version.length<=200
 sub:p.sub.length<=200
 quals:p.qualifiers.length<=10
 each:∀q∈p.qualifiers,q.name.length<=200/\q.value.length<=200
theorem zpt{q:Gt.Pair}(h:zfu q=false):q.name.length<=200/\q.value.length<=200:=by
 unfold zfu at h;cases h1:big q.name with
 |true=>rw[h1] at h;cases h|false=>rw[h1] at h;exact ⟨ziN h1,ziN h⟩
theorem tiny{p:Gt.Purl}(h:zd3 p=false):Tiny p:=by
 unfold zd3 at h;cases h1:(zeY p).any big with
 |true=>rw[h1] at h;cases h|false =>
   rw[h1] at h;cases h2:p.qualifiers.any zfu with
   |true=>rw[h2] at h;cases h|false =>
     rw[h2] at h;simp only[zeY,yB8,List.any_nil,Bool.or_false,yBj] at h1;refine ⟨ziN h1.1,ziN h1.2.1,ziN h1.2.2.1,ziN h1.2.2.2,?_,λq hq=>zpt ?_⟩;·have:=of_decide_eq_false h;unfold len at this;omega
     ·have:=yBu.1 h2 q hq;simpa using this
theorem s11(o:Orc Sx){l:List (List UInt8)}(h:l.length<=1000000000):m11 o l=some (l.any big,()):=by
 unfold m11;rw[zct l.length (λk=>big (l.getD k [])) (.inr (true,())) (.inl ()) (λk hk=>?_) ?_,zbV];·cases l.any big<;>rfl
 ·simp[zaY,zad]
 ·simp only[zaY,hk,decide_true,zaf,za7 hk,zaa,zaG hk (by omega),zbA [] hk];rw[zq7];rfl
theorem L11(n:Nat){l:List (List UInt8)}(h:l.length<=1000000000): @Eq (Option (Bool×Unit)) ((zam (n+1)).d 11 [.sl .str l] [.bool]) (some (l.any big,())):=(q11 n _).trans (s11 _ h)
abbrev zd2:Gt.Pair:=⟨[],[]⟩
theorem s24(o:Orc Sx){p:Gt.Purl}(h:p.qualifiers.length<=1000000000):m24 o p=some (zd3 p,()):=by
 unfold m24;refine zaS (r:=bif (zeY p).any big then .inr (true,()) else .inl ()) ((zkk (λk=>(zeY p,(k:Int),())) 4 (λk=>big ((zeY p).getD k [])) (.inr (true,())) (.inl ()) (λk hk=>?_) ?_).trans ?_) ?_;·have hk':k<(zeY p).length:=hk;simp only[show len [p.space,p.name,p.version,p.sub]=((4:Nat):Int) from rfl,Int.ofNat_lt,hk,decide_true,zaf,za7 hk',zaa,zaG hk (by omega),zbA [] hk'];rw[zq7];rfl
 ·rfl
 ·rw[show (List.range 4)=List.range (zeY p).length from rfl,zbV]
 ·rw[zhQ];unfold zd3;cases (zeY p).any big with
  |true=>rfl|false =>
    simp only[zad,cond_false];rw[zct p.qualifiers.length (λk=>zfu (p.qualifiers.getD k zd2)) (.inr (true,())) (.inl ()) (λk hk=>?_) ?_,zbV,zhQ];·cases p.qualifiers.any zfu<;>rfl
    ·simp[zaY,zad]
    ·simp only[zaY,hk,decide_true,za7 hk,zaa,zaG hk (by omega),zbA zd2 hk,zaD,cond_true];exact zh1 rfl
theorem L24(n:Nat){p:Gt.Purl}(h:p.qualifiers.length<=1000000000): @Eq (Option (Bool×Unit)) ((zam (n+1)).d 24 [.st 3 p] [.bool]) (some (zd3 p,())):=(q24 n _).trans (s24 _ h)
def qF(l:List Gt.Pair)(k:Nat):Int :=
 bif !zlh (l.getD k zd2).name then 8 else bif (l.getD k zd2).value==[] then 2 else
 bif decide (0<(k:Int))&&(Op.bytesLess (l.getD k zd2).name (l.getD (k - 1) zd2).name||((l.getD k zd2).name==(l.getD (k - 1) zd2).name)) then 10 else 0
def qE(l:List Gt.Pair):Int:=ff (qF l) l.length
theorem zcc{l:List Gt.Pair}{k:Nat}(hk:k<l.length)(hl:l.length<=1000000000)(G:Gt.Pair->Bool) :
  br (decide (0<(k:Int))) (ob (at? l (IntKind.i64.wrap ((k:Int) - 1))) λy=>some (G y)) (some false)=some (decide (0<(k:Int))&&G (l.getD (k - 1) zd2)):=by
 cases k with
 |zero=>rfl|succ k =>have hk':k<l.length:=(by omega);rw[show decide (0<((k+1:Nat):Int))=true from decide_eq_true (by omega),zdw (by omega) (by omega),show ((k+1:Nat):Int) - 1=(k:Int) by omega];simp only[zaf,za7 hk',zaa,Nat.add_sub_cancel,zbA zd2 hk',Bool.true_and]
theorem L50(n:Nat){s:List UInt8}(h:s.length<=1000000000): @Eq (Option (Bool×Unit)) ((zam (n+2)).d 50 [.str s] [.bool]) (some (zlh s,())):=(q50 (n+1) _).trans (s50 n h)
theorem L14(n:Nat){s:List UInt8}(h:s.length<=1000000000): @Eq (Option (Bool×Unit)) ((zam (n+1)).d 14 [.str s] [.bool]) (some (zlh s,())):=(q14 n _).trans (s14 _ h)
theorem s28(n:Nat){l:List Gt.Pair}(h:l.length<=1000000000)(h2:∀q∈l,q.name.length<=1000000000):m28 (zam (n+2)) l=some (qE l,()):=by
 unfold m28;refine zaS (zl7 l.length (qF l) (λc=>.inr (c,())) (.inl ()) (λk hk _=>?_) ?_) ?_;·have hn:=h2 l[k] (yBg hk);simp only[zaY,hk,decide_true,zaf,za7 hk,zaa,L50 n hn,zcc hk h];rw[zaG hk (by omega)];unfold qF;simp only[zbA zd2 hk];refine zoF (out:=λc=>Sum.inr (c,())) 8 (by decide) λ_=>zoF (out:=λc=>Sum.inr (c,())) 2 (by decide) λ_=>zoF (out:=λc=>Sum.inr (c,())) 10 (by decide) λ_=>?_;exact zpC.symm
 ·simp[zaY,zad]
 ·unfold qE;by_cases h0:ff (qF l) l.length=0;·rw[if_neg (by simpa using h0),h0];rfl
  ·rw[if_pos h0];rfl
theorem L28(n:Nat){l:List Gt.Pair}(h:l.length<=1000000000)(h2:∀q∈l,q.name.length<=1000000000): @Eq (Option (Int×Unit)) ((zam (n+3)).d 28 [.sl (.st 2) l] [(.int .i64)]) (some (qE l,())):=(q28 (n+2) _).trans (s28 n h h2)
theorem zik(sep:ByteArray):∀(k:Nat)(s:ByteArray),∀x∈Lib.splitB sep 0 k s,x.size<=s.size
 |0,s,x,hx=>by simp[Lib.splitB] at hx;subst hx;exact yAj _
 |k+1,s,x,hx=>by
   unfold Lib.splitB at hx;split at hx;·simp at hx;subst hx;exact yAj _
   ·rcases yAm.1 hx with rfl|hx;·rw[ByteArray.size_extract];omega
    ·have:=zik sep k _ x hx;rw[ByteArray.size_extract] at this;omega
theorem zfb(s:List UInt8):(zef s).length<=s.length+1:=by
 unfold zef;cases (s==[]) with
 |true=>simp|false =>simp only[cond_false];unfold zbQ;have h1:=Lib.splitB_length_le ⟨#[47]⟩ 0 (Lib.countB ⟨s.toArray⟩ ⟨#[47]⟩) ⟨s.toArray⟩;have h2:=Lib.countB_le ⟨#[47]⟩ (yAj 1) _ ⟨s.toArray⟩ (yAj _);have h3:(ByteArray.mk s.toArray).size=s.length:=rfl;rw[yCp];omega
theorem zo5{s x:List UInt8}(h:x∈zef s):x.length<=s.length:=by
 unfold zef at h;cases hs:(s==[]) with
 |true=>rw[hs] at h;cases h|false =>rw[hs] at h;simp only[cond_false] at h;unfold zbQ at h;obtain ⟨y,hy,rfl⟩:=yAJ.1 h;have:=zik _ _ _ y hy;have h3:(ByteArray.mk s.toArray).size=s.length:=rfl;have h4:y.data.toList.length=y.size:=rfl;omega
theorem L26(n:Nat){s:List UInt8}(h:s.length<=1000000000): @Eq (Option (List (List UInt8)×Unit)) ((zam (n+2)).d 26 [.str s] [(.cs .str)]) (some (zef s,())):=(q26 (n+1) _).trans (s26 n h)
theorem L25(n:Nat){l:List (List UInt8)}(dots:Bool)(h:l.length<=1000000000): @Eq (Option (Bool×Unit)) ((zam (n+1)).d 25 [.sl .str l,.bool dots] [.bool]) (some (zba l dots,())):=(q25 n _ _).trans (s25 _ dots h)
theorem L12(n:Nat){s:List UInt8}(dots:Bool)(h:s.length<=100000000): @Eq (Option (Bool×Unit)) ((zam (n+3)).d 12 [.str s,.bool dots] [.bool]) (some (zba (zef s) dots,())):=(q12 (n+2) _ _).trans (s12 n dots (by omega) (by have:=zfb s;omega))
theorem L29(n:Nat){s:List UInt8}(h:s.length<=1000000000): @Eq (Option (Bool×Unit)) ((zam (n+1)).d 29 [.str s] [.bool]) (some (s.any ctl,())):=(q29 n _).trans (s29 _ h)
theorem L15(n:Nat){s:List UInt8}(h:s.length<=1000000000): @Eq (Option (Bool×Unit)) ((zam (n+1)).d 15 [.str s] [.bool]) (some (!s.any ctl,())):=(q15 n _).trans (s15 _ h)
def zcr(r:Gt.KindRule)(p:Gt.Purl):Bool:=bif (bif p.space != [] then r.space==1 else false) then true else (bif p.space==[] then r.space==3 else false)
def zdI(p:Gt.Purl):Bool:=bif p.name==[] then true else decide (0<=Lib.indexByte p.name 47)
def zqb(p:Gt.Purl):Bool:=(zeY p).any λs=>s.any ctl
def zq3(p:Gt.Purl):Bool:=p.qualifiers.any λq=>q.value.any ctl
def zbE(p:Gt.Purl):Int :=
 bif (zbb p.kind).2.1 != 0 then (zbb p.kind).2.1 else bif zd3 p then 3 else bif zcr (zbb p.kind).1 p then 2 else bif zba (zef p.space) false then 2 else
 bif zdI p then 8 else bif qE p.qualifiers != 0 then qE p.qualifiers else bif zba (zef p.sub) true then 2 else bif zqb p then 8 else bif zq3 p then 8 else 0
theorem s8(n:Nat){p:Gt.Purl}(h:p.qualifiers.length<=1000000000):m8 (zam (n+3)) p=some (zbE p,()):=by
 unfold m8;rw[L23 n,L24 (n+2) h];simp only[zaa];unfold zbE;cases h1:((zbb p.kind).2.1 != 0) with
 |true=>rfl|false =>
   cases hl:zd3 p with
   |true=>rfl|false =>
     have T:=tiny hl;have t1:=T.space;have t2:=T.name;have t3:=T.sub;have t4:=T.quals;have tp:=zfb p.space;have ts:=zfb p.sub;simp only[zad,cond_false,zaD,zaa];rw[L26 (n+1) (by omega)];simp only[zaa];rw[L25 (n+2) false (by omega),L27,L28 n (by omega) (λq hq=>by have:=(T.each q hq).1;omega),L26 (n+1) (by omega)];simp only[zaa,zaD];rw[L25 (n+2) true (by omega)];simp only[zaa];rw[show zav _ ([p.space,p.name,p.version,p.sub],(0:Int),())=_ from (zkk (λk=>(zeY p,(k:Int),())) 4 (λk=>((zeY p).getD k []).any ctl) (.inr (8,())) (.inl ()) (λk hk=>?_) ?_).trans (by rw[show (List.range 4)=List.range (zeY p).length from rfl,zbV (zeY p) [] (λs=>s.any ctl)]),zhQ]
     ·rw[zct p.qualifiers.length (λk=>(p.qualifiers.getD k zd2).value.any ctl) (.inr (8,())) (.inl ()) (λk hk=>?_) ?_,zbV p.qualifiers zd2 (λq=>q.value.any ctl),zhQ];·simp only[zaD];have e1:(bif (bif p.space != [] then (zbb p.kind).1.space==1 else false) then true else (bif p.space==[] then (zbb p.kind).1.space==3 else false))=zcr (zbb p.kind).1 p:=rfl;have e2:(bif p.name==[] then true else decide (0<=Lib.indexByte p.name (UInt8.ofNat (Int.toNat 47))))=zdI p:=rfl;rw[e1,e2];unfold zqb zq3;cases zcr (zbb p.kind).1 p<;>cases zba (zef p.space) false<;>cases zdI p<;>cases (qE p.qualifiers != 0)<;>cases zba (zef p.sub) true<;>cases (zeY p).any (λs=>s.any ctl)<;>cases p.qualifiers.any (λq=>q.value.any ctl)<;>rfl
      ·simp[zaY,zad]
      ·have:=(T.each _ (yBg hk)).2;simp only[zaY,hk,decide_true,zaf,za7 hk,zaa,zaG hk (by omega),zbA zd2 hk,L29 (n+2) (show (p.qualifiers[k]).value.length<=1000000000 by omega)];exact zh1 rfl
     ·rfl
     ·have hk':k<(zeY p).length:=hk;have hb:((zeY p)[k]).length<=1000000000:=by
       have:(zeY p)[k]∈zeY p:=yBg hk';have t5:=T.version;simp only[zeY,yAm,yBw,or_false] at this;rcases this with h|h|h|h<;> · simp only[zeY] at h ⊢;rw[h];omega
      simp only[show len [p.space,p.name,p.version,p.sub]=((4:Nat):Int) from rfl,Int.ofNat_lt,hk,decide_true,zaf,za7 hk',zaa,zaG hk (by omega),zbA [] hk',L29 (n+2) hb];exact zh1 rfl
end Pe.Tryd
end
section
/- The reference's check is the same; the canonical form of both sides. -/
set_option maxRecDepth 100000
namespace Pe.Tryd
open Go Go.Proofs Pe Pe.Told
theorem zsm{α:Type}(l:List α)(p:α->Bool)(a:Bool):l.foldl (λb x=>bif b then !p x else false) a=(bif a then !l.any p else false):=by
 induction l generalizing a with
 |nil=>cases a<;>rfl|cons x r ih=>rw[yBA,ih];cases a<;>cases h:p x<;>simp[h]
theorem zq9{σ R:Type}{out:Int->R}{nxt:σ}{b:Bool}{c:Int}(hc:c≠0):some (bif b then .inr (out c) else .inl nxt)=ffS out nxt (bif b then c else 0):=by
 cases b;·rfl
 ·simp[ffS,hc]
theorem s5(n:Nat){p:Gt.Purl}(h:p.qualifiers.length<=1000000000):m5 (zam (n+3)) p=some (zbE p,()):=by
 unfold m5;rw[L10 n];simp only[zaa];unfold zbE;cases h1:((zbb p.kind).2.1 != 0) with
 |true=>rfl|false =>
   have e67: @Eq (Option (Bool×Unit)) ((zam (n+3)).d 11 [.sl .str [p.space,p.name,p.version,p.sub]] [.bool]) (some ((zeY p).any big,())):=L11 (n+2) (l:=zeY p) (by simp[zeY]);rw[e67];simp only[zad,cond_false,zaD,zaa];cases hb:(bif (zeY p).any big then true else decide (10<len p.qualifiers)) with
   |true =>
     have hl:zd3 p=true:=by
      unfold zd3;cases h3:(zeY p).any big with
      |true=>rfl|false=>rw[h3] at hb;simp only[cond_false] at hb ⊢;rw[hb];cases p.qualifiers.any zfu<;>rfl
     rw[hl];rfl
   |false =>
     simp only[zad];rw[zct p.qualifiers.length (λk=>zfu (p.qualifiers.getD k zd2)) (.inr (3,())) (.inl ()) (λk hk=>?_) ?_,zbV p.qualifiers zd2 zfu,zhQ]
     ·have hq:zd3 p=p.qualifiers.any zfu:=by
       unfold zd3;cases h3:(zeY p).any big with
       |true=>rw[h3] at hb;cases hb|false=>rw[h3] at hb;simp only[cond_false] at hb ⊢;rw[hb];cases p.qualifiers.any zfu<;>rfl
      rw[<-hq];cases hl:zd3 p with
      |true=>rfl|false =>
        have T:=tiny hl;have t1:=T.space;have t2:=T.name;have t3:=T.sub;have t4:=T.quals;have t5:=T.version;simp only[zad,cond_false];rw[L12 n false (by omega),L13,L12 n true (by omega),L15 (n+2) (show p.space.length<=1000000000 by omega),L15 (n+2) (show p.name.length<=1000000000 by omega),L15 (n+2) (show p.version.length<=1000000000 by omega),L15 (n+2) (show p.sub.length<=1000000000 by omega)];simp only[zaa,zaD];rw[zl7 p.qualifiers.length (qF p.qualifiers) (λc=>.inr (c,())) (.inl ()) (λk hk _=>?_) ?_]
        ·refine Eq.trans (b:=br (bif zcr (zbb p.kind).1 p then true else zba (zef p.space) false) (some (2,())) (br (zdI p) (some (8,())) (br (qE p.qualifiers != 0) (some (qE p.qualifiers,())) (br (zba (zef p.sub) true) (some (2,())) (br (bif zqb p then true else zq3 p) (some (8,())) (some (0,()))))))) ?_ ?_
         ·congr 1;congr 1;have hcut:∀(X:Option (Int×Unit)),zaQ (some (if ff (qF p.qualifiers) p.qualifiers.length≠0 then Sum.inr (ff (qF p.qualifiers) p.qualifiers.length,()) else Sum.inl ())) (λ(_:Unit)=>X)=br (qE p.qualifiers != 0) (some (qE p.qualifiers,())) X:=by
           intro X;unfold qE;by_cases h0:ff (qF p.qualifiers) p.qualifiers.length=0;·rw[if_neg (by simpa using h0),h0];rfl
           ·rw[if_pos h0,show (ff (qF p.qualifiers) p.qualifiers.length != 0)=true by simpa using h0];rfl
          refine (hcut _).trans ?_;congr 1;congr 1;refine zaS (zft (λk (b:Bool)=>(b,(k:Int),())) p.qualifiers (λb q=>bif b then !q.value.any ctl else false) (λb=>.inl (b,())) (λ_ _=>True) (λk hk b _=>⟨?_,trivial⟩) (λb _=>?_) _ trivial) ?_;·have:=(T.each _ (yBg hk)).2;simp only[zaY,hk,decide_true,za7 hk,zaa,zaG hk (by omega),L15 (n+2) (show (p.qualifiers[k]).value.length<=1000000000 by omega),zaD];rfl
          ·simp[zaY,zad]
          ·rw[zsm p.qualifiers (λq=>q.value.any ctl)];simp only[zaq,zqb,zq3,zeY,yB8,List.any_nil,Bool.or_false];cases p.space.any ctl<;>cases p.name.any ctl<;>cases p.version.any ctl<;>cases p.sub.any ctl<;>cases p.qualifiers.any (λq=>q.value.any ctl)<;>rfl
         ·cases zcr (zbb p.kind).1 p<;>cases zba (zef p.space) false<;>cases zdI p<;>cases (qE p.qualifiers != 0)<;>cases zba (zef p.sub) true<;>cases zqb p<;>cases zq3 p<;>rfl
        ·simp[zaY,zad]
        ·have hn:=(T.each _ (yBg hk)).1;simp only[zaY,hk,decide_true,zaf,za7 hk,zaa,L14 (n+2) (show (p.qualifiers[k]).name.length<=1000000000 by omega),zcc hk h];rw[zaG hk (by omega)];unfold qF;simp only[zbA zd2 hk];refine zoF (out:=λc=>Sum.inr (c,())) 8 (by decide) λ_=>zoF (out:=λc=>Sum.inr (c,())) 2 (by decide) λ_=>zq9 (c:=10) (out:=λc=>Sum.inr (c,())) (by decide)
     ·simp[zaY,zad]
     ·have:([p.qualifiers[k].name,p.qualifiers[k].value]:List (List UInt8)).length<=1000000000:=by simp
      have e67: @Eq (Option (Bool×Unit)) ((zam (n+3)).d 11 [.sl .str [p.qualifiers[k].name,p.qualifiers[k].value]] [.bool]) (some ([p.qualifiers[k].name,p.qualifiers[k].value].any big,())):=L11 (n+2) (l:=[p.qualifiers[k].name,p.qualifiers[k].value]) this;simp only[zaY,hk,decide_true,zaf,za7 hk,zaa,zaG hk (by omega),zbA zd2 hk,e67];refine zh1 ?_;simp only[yB8,List.any_nil,Bool.or_false,zfu];cases big p.qualifiers[k].name<;>rfl
theorem L8(n:Nat){p:Gt.Purl}(h:p.qualifiers.length<=1000000000): @Eq (Option (Int×Unit)) ((zam (n+4)).d 8 [.st 3 p] [(.int .i64)]) (some (zbE p,())):=(q8 (n+3) _).trans (s8 n h)
theorem L5(n:Nat){p:Gt.Purl}(h:p.qualifiers.length<=1000000000): @Eq (Option (Int×Unit)) ((zam (n+4)).d 5 [.st 3 p] [(.int .i64)]) (some (zbE p,())):=(q5 (n+3) _).trans (s5 n h)
def za9(p:Gt.Purl):Gt.Purl :=
 ⟨p.kind,bif (zbb p.kind).1.small then zaW p.space else p.space,
  bif (zbb p.kind).1.dashes then zco false (bif (zbb p.kind).1.small then zaW p.name else p.name) else (bif (zbb p.kind).1.small then zaW p.name else p.name),p.version,p.qualifiers,p.sub⟩
theorem L30(n:Nat){s:List UInt8}(h:s.length<=1000000000): @Eq (Option (List UInt8×Unit)) ((zam (n+1)).d 30 [.str s] [.str]) (some (zaW s,())):=(q30 n _).trans (s30 _ h)
theorem L31(n:Nat){s:List UInt8}(h:s.length<=1000000000): @Eq (Option (List UInt8×Unit)) ((zam (n+2)).d 31 [.str s] [.str]) (some (zco false s,())):=(q31 (n+1) _).trans (s31 n h)
theorem zg4(s:List UInt8):(zaW s).length=s.length:=by simp[zaW]
theorem zgZ:∀(b:Bool)(s:List UInt8),(zco b s).length<=s.length
 |_,[]=>by simp[zco]
 |b,c::r=>by have h1:=zgZ true r;have h2:=zgZ false r;unfold zco;cases zbT c<;>cases b<;>simp<;>omega
theorem s9(n:Nat){p:Gt.Purl}(T:Tiny p):m9 (zam (n+3)) p=some (za9 p,()):=by
 have t1:=T.space;have t2:=T.name;have t4:=T.quals;unfold m9 za9;rw[L23 n,L30 (n+2) (show p.space.length<=1000000000 by omega),L30 (n+2) (show p.name.length<=1000000000 by omega)];simp only[zaa];cases (zbb p.kind).1.small<;>cases (zbb p.kind).1.dashes;·simp only[zad,cond_false,zaq];rw[zfH _ (by simp[lim];omega)];rfl
 ·simp only[zaf,zad,cond_false,cond_true,zaq];rw[L31 (n+1) (by omega)];simp only[zaa,zaq];rw[zfH _ (by simp[lim];omega)];rfl
 ·simp only[zaf,zad,cond_false,cond_true,zaq];rw[zfH _ (by simp[lim];omega)];rfl
 ·simp only[zaf,cond_true,zaq];rw[L31 (n+1) (by rw[zg4];omega)];simp only[zaa,zaq];rw[zfH _ (by simp[lim];omega)];rfl
theorem zii{p:Gt.Purl}(T:Tiny p):Tiny (za9 p):=by
 have t1:=T.space;have t2:=T.name;have h1:=zgZ false p.name;have h2:=zgZ false (zaW p.name);have h3:=zg4 p.name;have h4:=zg4 p.space;refine ⟨?_,?_,T.version,T.sub,T.quals,T.each⟩;·unfold za9;cases (zbb p.kind).1.small<;>simp<;>omega
 ·unfold za9;cases (zbb p.kind).1.small<;>cases (zbb p.kind).1.dashes<;>simp<;>omega
theorem L9(n:Nat){p:Gt.Purl}(T:Tiny p): @Eq (Option (Gt.Purl×Unit)) ((zam (n+4)).d 9 [.st 3 p] [(.st 3)]) (some (za9 p,())):=(q9 (n+3) _).trans (s9 n T)
theorem zgk{p:Gt.Purl}(h:zbE p=0):Tiny p:=by
 cases hl:zd3 p with
 |false=>exact tiny hl|true =>
   unfold zbE at h;cases h1:((zbb p.kind).2.1 != 0) with
   |true=>rw[h1] at h;simp only[cond_true] at h;rw[h] at h1;cases h1|false=>rw[h1,hl] at h;simp at h
def zoA(p:Gt.Purl):Gt.Purl×Int×Unit:=bif zbE p != 0 then (⟨[],[],[],[],[],[]⟩,zbE p,()) else (za9 p,0,())
theorem L4(n:Nat){p:Gt.Purl}(h:p.qualifiers.length<=1000000000): @Eq (Option (Gt.Purl×Int×Unit)) ((zam (n+5)).d 4 [.st 3 p] [(.st 3),(.int .i64)]) (some (zoA p)):=by
 rw[q4];unfold m4 zoA;rw[L8 n h];simp only[zaa];cases hc:(zbE p != 0) with
 |true=>rfl|false=>rw[L9 n (zgk (by simpa using hc))];rfl
end Pe.Tryd
end
section
/- The texts of names: both sides print the same; THE LAW OF CANONICAL FORMS. -/
set_option maxRecDepth 100000
namespace Pe.Tryd
open Go Go.Proofs Pe Pe.Told
end Pe.Tryd
end
section
/- PROVED: THE LAW OF CANONICAL FORMS, plain: check, canonical form, text and key are what is specified. -/
set_option maxRecDepth 100000
namespace Pe.Tryd
open Go Go.Proofs Pe Pe.Told
end Pe.Tryd
end
