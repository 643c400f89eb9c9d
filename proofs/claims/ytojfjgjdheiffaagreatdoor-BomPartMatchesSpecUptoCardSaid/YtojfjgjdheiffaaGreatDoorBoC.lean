/- PROVED HERE: a part of the seat's proofs; see the text that holds the claim's theorem. -/
import Derived.Test.YtojfjgjdheiffaaGreatDoorBoB
set_option maxRecDepth 100000
section
namespace Pe.Tryz
open Go Go.Proofs Pe
theorem all8{p:UInt8->Bool}(h:((List.range 256).all λn=>p (UInt8.ofNat n))=true)(c:UInt8):p c=true:=by have:=yAM.1 h c.toNat (by simpa using c.toNat_lt);simp_all
theorem eq8{α:Type}[DecidableEq α]{f g:UInt8->α}(h:((List.range 256).all λn=>decide (f (UInt8.ofNat n)=g (UInt8.ofNat n)))=true)(c:UInt8):f c=g c:=by have:=all8 (p:=λc=>decide (f c=g c)) h c;grind
def zyt(c:UInt8):Bool:=c==45||c==95||c==46
def ctl(c:UInt8):Bool:=decide (c<32)||c==127
def zB8(c:UInt8):Bool:=decide (97<=c)&&decide (c<=122)||decide (65<=c)&&decide (c<=90)||decide (48<=c)&&decide (c<=57)||c==46||c==45||c==95||c==126
def low(c:UInt8):UInt8:=bif decide (65<=c)&&decide (c<=90) then c+32 else c
def zjP(c:UInt8)(first:Bool):Bool:=decide (97<=c)&&decide (c<=122)||(!first&&(decide (48<=c)&&decide (c<=57)||c==46||c==45||c==95))
def digs:By:=[48,49,50,51,52,53,54,55,56,57,65,66,67,68,69,70]
def zDa(c:UInt8):By:=bif zB8 c then [c] else [37,digs.getD (c / 16).toNat 0,digs.getD (c % 16).toNat 0]
def zCO(s:By):By:=s.flatMap zDa
def zyA(s:By):By:=s.map low
def zyK:Bool->By->By|_,[]=>[]|b,c::r=>bif zyt c then (bif b then [] else [45])++zyK true r else c::zyK false r
theorem s269(o:Orc Sx)(c:UInt8)(f:Bool):m269 o (c.toNat:Int) f=some (zjP c f,()):=by
 cases f;·exact eq8 (f:=λc=>m269 o (c.toNat:Int) false) (g:=λc=>some (zjP c false,())) (by kernel_rfl) c
 ·exact eq8 (f:=λc=>m269 o (c.toNat:Int) true) (g:=λc=>some (zjP c true,())) (by kernel_rfl) c
def letB(c:UInt8):Bool:=decide (97<=c)&&decide (c<=122)||decide (65<=c)&&decide (c<=90)
theorem L269(n:Nat)(c:UInt8)(f:Bool): @Eq (Option (Bool×J)) ((zah (n+1)).d 269 [.int .u8 (c.toNat:Int),.bool f] [.bool]) (some (zjP c f,())):=(q269 n _ _).trans (s269 _ c f)
theorem L153(n:Nat)(s:By)(c:Int): @Eq (Option (Int×J)) ((zah (n+1)).d 153 [.str s,.int .u8 c] [.int .i64]) (some (Lib.indexByte s (UInt8.ofNat (Int.toNat c)),())):=by kernel_rfl
theorem L163(n:Nat)(s:By)(c:UInt8): @Eq (Option (Bool×J)) ((zah (n+1)).d 163 [.str s,.str [c]] [.bool]) (some (decide (0<=Lib.indexByte s c),())):=by kernel_rfl
theorem L216(n:Nat){s:By}(c:UInt8)(h:s.length<=4000000000): @Eq (Option (List By×J)) ((zah (n+1)).d 216 [.str s,.str [c]] [.sl .str]) (some (zbW c s,())) :=
 (by show (bif Nat.ble s.length 4000000000 then some (zbW c s,()) else none)=_;rw[show Nat.ble s.length 4000000000=true by simp_all];rfl)
theorem L219(n:Nat){l:List By}{s:By}(h1:l.length<=1000000)(h2:(Lib.join l s).length<=100000000): @Eq (Option (By×J)) ((zah (n+1)).d 219 [.sl .str l,.str s] [.str]) (some (Lib.join l s,())) :=
 (by show (bif Nat.ble (List.length (α:=By) l) 1000000&&Nat.ble (Lib.join l s).length 100000000 then some (Lib.join l s,()) else none)=_;rw[show Nat.ble l.length 1000000=true by rw[yAK];exact h1,show Nat.ble (Lib.join l s).length 100000000=true by rw[yAK];exact h2];rfl)
theorem zyE(s:By):zjt (zaT s)=s:=by simp[zjt,zaT,Function.comp_def]
theorem zzt(a b:By):zaT (a++b)=zaT a++zaT b:=by simp[zaT]
theorem zys(a:By):(zaT a).length=a.length:=by simp[zaT]
theorem zzc{a b:By}(h:a.length+b.length<=lim):zdJ (zaT a) (zaT b)=some (zaT (a++b)):=by rw[zbc (by simpa[zys] using h),zzt]
theorem ztw{α:Type}(s:List α)(h:s.length<=lim):zdJ [] s=some s:=by grind[zbc]
theorem zna(c:UInt8):(bif decide ((c.toNat:Int)<32) then true else ((c.toNat:Int)==127))=ctl c :=
 eq8 (f:=λc=>bif decide ((c.toNat:Int)<32) then true else ((c.toNat:Int)==127)) (g:=ctl) (by decide+kernel) c
theorem zbU(s:By)(p:UInt8->Bool):((List.range s.length).any λk=>p (s.getD k 0))=s.any p:=by
 rw[yBC];simp only[yBd,yBa];constructor
 ·rintro ⟨k,hk,h⟩
  refine ⟨s[k],yAy hk,?_⟩;simp_all
 ·rintro ⟨x,hx,h⟩
  obtain ⟨k,hk,rfl⟩:=yBH hx;exact ⟨k,hk,by simp_all⟩
theorem s155(o:Orc Sx){s:By}(h:s.length<=1000000000):m155 o s=some (s.any ctl,()):=by
 unfold m155;rw[zaY s.length (λk=>ctl (s.getD k 0)) (.inr (true,())) (.inl ()) (λk hk=>?_) ?_,zbU];·cases s.any ctl<;>rfl
 ·simp[zao,zab]
 ·simp only[zao,hk,decide_true,zan hk,zaa,zai,zna,zaf hk (by omega)];cases h2:ctl s[k]<;>simp[yAj,hk,h2]
theorem s165(o:Orc Sx){s:By}(h:s.length<=1000000000):m165 o s=some (!s.any ctl,()):=by
 unfold m165;rw[zaY s.length (λk=>ctl (s.getD k 0)) (.inr (false,())) (.inl ()) (λk hk=>?_) ?_,zbU];·cases s.any ctl<;>rfl
 ·simp[zao,zab]
 ·simp only[zao,hk,decide_true,zan hk,zaa,zai,zna,zaf hk (by omega)];cases h2:ctl s[k]<;>simp[yAj,hk,h2]
end Pe.Tryz
end
section
namespace Pe.Tryz
open Go Go.Proofs Pe
theorem zio{α:Type}{X P:Bool}{a b:α}(h:X=P):some (bif X then a else b)=if P=true then some a else some b:=by grind
theorem br_eq{α:Type}{X P:Bool}{a b:Option α}(h:X=P):br X a b=br P a b:=by rw[h]
theorem zbE{α:Type}(s:List α)(d:α)(p:α->Bool):((List.range s.length).any λk=>p (s.getD k d))=s.any p:=by
 rw[yBC];simp only[yBd,yBa];constructor
 ·rintro ⟨k,hk,h⟩
  refine ⟨s[k],yAy hk,?_⟩;simp_all
 ·rintro ⟨x,hx,h⟩
  obtain ⟨k,hk,rfl⟩:=yBH hx;exact ⟨k,hk,by simp_all⟩
theorem zbj{α:Type}{s:List α}{k:Nat}(d:α)(h:k<s.length):s.getD k d=s[k]:=by simp[yAj,h]
theorem zps{σ R:Type}{x:Option (σ⊕R)}{r:σ⊕R}{g:σ->Option R}{y:Option R}(h:x=some r)(h2:zaE (some r) g=y):zaE x g=y:=by rw[h,h2]
def zl3(s:By):Bool:=bif (List.range s.length).any (λk=> !zjP (s.getD k 0) ((k:Int)==0)) then false else s != []
theorem s218(n:Nat){s:By}(h:s.length<=1000000000):m218 (zah (n+1)) s=some (zl3 s,()):=by
 unfold m218;rw[zaY s.length (λk=> !zjP (s.getD k 0) ((k:Int)==0)) (.inr (false,())) (.inl ()) (λk hk=>?_) ?_];·unfold zl3;cases (List.range s.length).any (λk=> !zjP (s.getD k 0) ((k:Int)==0))<;>rfl
 ·simp[zao,zab]
 grind[zao,zaa,L269,zan,zaf,zfq]
theorem s164(o:Orc Sx){s:By}(h:s.length<=1000000000):m164 o s=some (zl3 s,()):=by
 unfold m164;rw[zaY s.length (λk=> !zjP (s.getD k 0) ((k:Int)==0)) (.inr (false,())) (.inl ()) (λk hk=>?_) ?_];·unfold zl3;cases (List.range s.length).any (λk=> !zjP (s.getD k 0) ((k:Int)==0))<;>rfl
 ·simp[zao,zab]
 ·simp only[zao,hk,decide_true,zan hk,zaa,zaf hk (by omega),zbj 0 hk,zai,cond_true];refine zio ?_;generalize s[k]=c;generalize ((k:Int)==0)=f;cases f;·revert c;exact eq8 (by decide+kernel)
  ·revert c;exact eq8 (by decide+kernel)
def zjy(s:By):List By:=bif s==[] then [] else zbW 47 s
theorem s152(n:Nat){s:By}(h:s.length<=1000000000):m152 (zah (n+1)) s=some (zjy s,()):=by unfold m152 zjy;rw[L216 n 47 (by omega)];cases (s==[])<;>rfl
theorem s227(n:Nat){s:By}(h:s.length<=1000000000):m227 (zah (n+1)) s=some (zjy s,()):=by unfold m227 zjy;rw[L216 n 47 (by omega)];cases (s==[])<;>rfl
def zkz(dots:Bool)(x:By):Bool:=bif x==[] then true else bif dots then (bif x==[46] then true else x==[46,46]) else false
def zbL(l:List By)(dots:Bool):Bool:=bif l.any (zkz dots) then true else decide (10<len l)
theorem s151(o:Orc Sx){l:List By}(dots:Bool)(h:l.length<=1000000000):m151 o l dots=some (zbL l dots,()):=by
 unfold m151;rw[zaY l.length (λk=>zkz dots (l.getD k [])) (.inr (true,())) (.inl ()) (λk hk=>?_) ?_,zbE];·unfold zbL;cases l.any (zkz dots)<;>rfl
 ·simp[zao,zab]
 ·simp only[zao,hk,decide_true,zan hk,zaa,zaf hk (by omega),zbj [] hk,zai,cond_true];exact zio rfl
theorem s162(n:Nat){s:By}(dots:Bool)(h:s.length<=1000000000)(h2:(zjy s).length<=1000000000):m162 (zah (n+2)) s dots=some (zbL (zjy s) dots,()):=by
 unfold m162;rw[show (zah (n+2)).d 227 [.str s] [LS]=_ from (q227 (n+1) s).trans (s227 n h)];simp only[zaa];generalize zjy s=l at h2;rw[zaY l.length (λk=>zkz dots (l.getD k [])) (.inr (true,())) (.inl ()) (λk hk=>?_) ?_,zbE];·unfold zbL;cases l.any (zkz dots)<;>rfl
 ·simp[zao,zab]
 ·simp only[zao,hk,decide_true,zan hk,zaa,zaf hk (by omega),zbj [] hk,zai,cond_true];exact zio rfl
theorem dig1(c:UInt8):zhN ([48,49,50,51,52,53,54,55,56,57,65,66,67,68,69,70]:By) (IntKind.u8.wrap (Int.tdiv (c.toNat:Int) 16)) (IntKind.u8.wrap ((IntKind.u8.wrap (Int.tdiv (c.toNat:Int) 16))+1))=some [digs.getD (c / 16).toNat 0] :=
 eq8 (f:=λc=>zhN ([48,49,50,51,52,53,54,55,56,57,65,66,67,68,69,70]:By) (IntKind.u8.wrap (Int.tdiv (c.toNat:Int) 16)) (IntKind.u8.wrap ((IntKind.u8.wrap (Int.tdiv (c.toNat:Int) 16))+1))) (g:=λc=>some [digs.getD (c / 16).toNat 0]) (by decide+kernel) c
theorem dig2(c:UInt8):zhN ([48,49,50,51,52,53,54,55,56,57,65,66,67,68,69,70]:By) (Int.tmod (c.toNat:Int) 16) (IntKind.u8.wrap ((Int.tmod (c.toNat:Int) 16)+1))=some [digs.getD (c % 16).toNat 0] :=
 eq8 (f:=λc=>zhN ([48,49,50,51,52,53,54,55,56,57,65,66,67,68,69,70]:By) (Int.tmod (c.toNat:Int) 16) (IntKind.u8.wrap ((Int.tmod (c.toNat:Int) 16)+1))) (g:=λc=>some [digs.getD (c % 16).toNat 0]) (by decide+kernel) c
theorem dig3(c:UInt8):at? ([48,49,50,51,52,53,54,55,56,57,65,66,67,68,69,70]:By) (IntKind.u8.wrap (Int.tdiv (c.toNat:Int) 16))=some (digs.getD (c / 16).toNat 0) :=
 eq8 (f:=λc=>at? ([48,49,50,51,52,53,54,55,56,57,65,66,67,68,69,70]:By) (IntKind.u8.wrap (Int.tdiv (c.toNat:Int) 16))) (g:=λc=>some (digs.getD (c / 16).toNat 0)) (by decide+kernel) c
theorem dig4(c:UInt8):at? ([48,49,50,51,52,53,54,55,56,57,65,66,67,68,69,70]:By) (Int.tmod (c.toNat:Int) 16)=some (digs.getD (c % 16).toNat 0) :=
 eq8 (f:=λc=>at? ([48,49,50,51,52,53,54,55,56,57,65,66,67,68,69,70]:By) (Int.tmod (c.toNat:Int) 16)) (g:=λc=>some (digs.getD (c % 16).toNat 0)) (by decide+kernel) c
theorem zCc(g:UInt8->By):∀(s a:By),s.foldl (λb c=>b++g c) a=a++s.flatMap g
 |[],a=>by simp
 |c::r,a=>by simp[zCc g r,yA5]
theorem zCr(c:UInt8):(zDa c).length<=3:=by unfold zDa;cases zB8 c<;>simp
theorem zCq:∀s:By,(zCO s).length<=3*s.length
 |[]=>by simp[zCO]
 |c::r=>by have:=zCq r;have:=zCr c;simp only[zCO,yBZ,yAI,yAw] at *;omega
end Pe.Tryz
end
section
namespace Pe.Tryz
open Go Go.Proofs Pe
theorem low1(c:UInt8):(bif (bif decide (65<=(c.toNat:Int)) then decide ((c.toNat:Int)<=90) else false) then IntKind.u8.wrap ((IntKind.u8.wrap ((c.toNat:Int)+97)) - 65) else (c.toNat:Int))=((low c).toNat:Int) :=
 eq8 (f:=λc=>bif (bif decide (65<=(c.toNat:Int)) then decide ((c.toNat:Int)<=90) else false) then IntKind.u8.wrap ((IntKind.u8.wrap ((c.toNat:Int)+97)) - 65) else (c.toNat:Int)) (g:=λc=>((low c).toNat:Int)) (by decide+kernel) c
theorem low2(c:UInt8):(bif (bif decide (65<=(c.toNat:Int)) then decide ((c.toNat:Int)<=90) else false) then IntKind.u8.wrap ((c.toNat:Int)+32) else (c.toNat:Int))=((low c).toNat:Int) :=
 eq8 (f:=λc=>bif (bif decide (65<=(c.toNat:Int)) then decide ((c.toNat:Int)<=90) else false) then IntKind.u8.wrap ((c.toNat:Int)+32) else (c.toNat:Int)) (g:=λc=>((low c).toNat:Int)) (by decide+kernel) c
def zzi(s:By)(k:Nat):List Int:=zaT ((s.take k).map low++s.drop k)
theorem zyQ(s:By)(k:Nat):(zzi s k).length=s.length:=by simp[zzi,zaT];omega
theorem zzA{s:By}{k:Nat}(h:k<s.length):zdc (zzi s k) k=some ((s[k]).toNat:Int):=by
 unfold zdc zzi;have hl:((s.take k).map low).length=k:=by simp;omega
 rw[zaT,yAh,yAF (by omega),hl];simp[h]
theorem zyY{s:By}{k:Nat}(h:k<s.length):zzi s (k+1)=(zzi s k).set k ((low s[k]).toNat:Int):=by
 apply yAW;intro i;have hl:((s.take k).map low).length=k:=by simp;omega
 have hl2:((s.take (k+1)).map low).length=k+1:=by simp;omega
 rw[List.getElem?_set];by_cases hi:k=i;·subst hi;rw[if_pos rfl,if_pos (by rw[zyQ];exact h)];simp only[zzi,zaT,yAh];rw[yAk (by omega)];simp[h]
 ·rw[if_neg hi];simp only[zzi,zaT,yAh];by_cases Ks:i<k;·rw[yAk (by omega),yAk (by omega)];simp[Ks,show i<k+1 by omega]
  ·rw[yAF (by omega),yAF (by omega),hl,hl2];simp[yAu,show k+1+(i - (k+1))=i by omega,show k+(i - k)=i by omega]
theorem zzq{s:By}{k:Nat}(h:k<s.length)(hc:(bif decide (65<=((s[k]).toNat:Int)) then decide (((s[k]).toNat:Int)<=90) else false)=false):zzi s (k+1)=zzi s k:=by
 rw[zyY h,<-low1,hc];have:=zzA h;unfold zdc at this;apply yAW;intro i;rw[List.getElem?_set];by_cases hi:k=i;·subst hi;rw[if_pos rfl,if_pos (by rw[zyQ];exact h),this];rfl
 ·rw[if_neg hi]
theorem zzK(s:By):zjt (zzi s s.length)=zyA s:=by simp[zzi,zyA,zyE]
theorem zzJ{α:Type}{l:List α}{k:Nat}(h:k<l.length):zcX l (k:Int)=some k:=by show (bif Nat.blt k l.length then some k else none)=_;rw[show Nat.blt k l.length=true by simpa[yAN] using h];rfl
def zyG(s:By)(k:Nat):Bool:=k != 0&&zyt (s.getD (k - 1) 0)
theorem zyw{s:By}{k:Nat}(h:k<s.length):zyG s (k+1)=zyt s[k]:=by simp[zyG,yAj,h]
theorem zyy{s:By}{k:Nat}(h:k<s.length):zyK (zyG s k) (s.drop k)=(bif zyt s[k] then (bif zyG s k then [] else [45]) else [s[k]])++zyK (zyG s (k+1)) (s.drop (k+1)):=by rw[yAV h,zyw h];cases hc:zyt s[k]<;>simp[zyK,hc]
theorem cat1{b:By}{c:UInt8}(h:b.length+1<=lim):zdJ (zaT b) [(c.toNat:Int)]=some (zaT (b++[c])):=zzc (b:=[c]) h
theorem zA2{b:By}(h:b.length+1<=lim):zdJ (zaT b) [45]=some (zaT (b++[45])):=zzc (b:=[45]) h
def zAM(b:By):Bool:=b.getLast? ==some 45
theorem zyX(b:By)(c:UInt8):zAM (b++[c])=(c==45):=by simp[zAM]
theorem zA1(c:UInt8)(h:zyt c=false):(c==45)=false:=by
 cases h2:(c==45) with
 |false=>rfl|true=>rw[show zyt c=true by simp[zyt,h2]] at h;cases h
end Pe.Tryz
end
section
namespace Pe.Tryz
open Go Go.Proofs Pe
def zlw:By:=[100,111,116,116,101,100]
def zhE:By:=[114,101,118,105,115,101,100]
def zkr:By:=[115,116,97,103,101,100]
def zed:By:=[113,117,97,108,105,102,105,101,100]
def zkL:By:=[112,108,97,105,110]
def zek:List By:=[zlw,zhE,zkr,zed,zkL]
def zqi(k:By):Option Gt.Kl :=
 if zlw=k then some ⟨zlw,2,true,false,1⟩ else if zhE=k then some ⟨zhE,3,true,false,2⟩ else if zkr=k then some ⟨zkr,1,true,true,3⟩
 else if zed=k then some ⟨zed,3,false,false,4⟩ else if zkL=k then some ⟨zkL,2,false,false,5⟩ else none
def zea(k:By):Gt.Kl×Int×J:=match zqi k with
 |some r=>(r,0,())|none=>(⟨[],0,false,false,0⟩,7,())
def zhB:List Gt.Kl:=[⟨zlw,2,true,false,1⟩,⟨zhE,3,true,false,2⟩,⟨zkr,1,true,true,3⟩,⟨zed,3,false,false,4⟩,⟨zkL,2,false,false,5⟩]
def zef(k:By):Int:=match zek.findIdx? (λs=>s==k) with|some i=>(i:Int)|none=> -1
theorem znZ(k:By):zhB.findIdx? (λr=>r.kind==k)=zek.findIdx? (λs=>s==k):=by grind[zhB,zek]
theorem s214(n:Nat)(k:By):m214 (zah (n+1)) k=some (zef k,()):=by
 unfold m214;rw[show @Eq (Option (Gt.Km×J)) ((zah (n+1)).d 215 [] [.st 2]) (m215 (zah n)) from q215 n];unfold m215;rw[zaa]
 rw[show zak (σ:=Int×J) (R:=J⊕(Int×J)) _ (0,())=some (match zhB.findIdx? (λr=>r.kind==k) with|some i=>.inr ((i:Int),())|none=>.inl ()) from
  zei zhB (λr=>r.kind==k) (λi=>(.inr ((i:Int),()):J⊕(Int×J))) (.inl ()) (λi hi=>?_) ?_,znZ]
 ·unfold zef;cases zek.findIdx? λs=>s==k<;>rfl
 ·rfl
 ·dsimp only;have hi':i<5:=hi;rw[show decide ((i:Int)<5)=true from by simp;omega,zac];rw[show at? ([⟨[100,111,116,116,101,100],2,true,false,1⟩,⟨[114,101,118,105,115,101,100],3,true,false,2⟩,⟨[115,116,97,103,101,100],1,true,true,3⟩,⟨[113,117,97,108,105,102,105,101,100],3,false,false,4⟩,⟨[112,108,97,105,110],2,false,false,5⟩]:List Gt.Kl) (i:Int)=some zhB[i] from zan (l:=zhB) hi,zaa,zfq,zaf hi' (by omega)];rfl
theorem s225(n:Nat)(k:By):m225 (zah (n+1)) k=some (zef k,()):=by
 unfold m225;rw[show @Eq (Option (List By×J)) ((zah (n+1)).d 272 [] [LS]) (m272 (zah n)) from q272 n];unfold m272;rw[zaa]
 rw[show zak (σ:=Int×J) (R:=J⊕(Int×J)) _ (0,())=some (match zek.findIdx? (λs=>s==k) with|some i=>.inr ((i:Int),())|none=>.inl ()) from
  zei zek (λs=>s==k) (λi=>(.inr ((i:Int),()):J⊕(Int×J))) (.inl ()) (λi hi=>?_) ?_]
 ·unfold zef;cases zek.findIdx? λs=>s==k<;>rfl
 ·rfl
 ·dsimp only;have hi':i<5:=hi;rw[show decide ((i:Int)<len ([[100,111,116,116,101,100],[114,101,118,105,115,101,100],[115,116,97,103,101,100],[113,117,97,108,105,102,105,101,100],[112,108,97,105,110]]:List By))=true from by simp[len];omega,zac];rw[show at? ([[100,111,116,116,101,100],[114,101,118,105,115,101,100],[115,116,97,103,101,100],[113,117,97,108,105,102,105,101,100],[112,108,97,105,110]]:List By) (i:Int)=some zek[i] from zan (l:=zek) hi,zaa,zfq,zaf hi' (by omega)];rfl
theorem ziR(k:By):(zef k<0/\zqi k=none)\/∃i r,zef k=((i:Nat):Int)/\zhB[i]?=some r/\zqi k=some r:=by
 by_cases h1:zlw=k;·subst h1;exact .inr ⟨0,_,rfl,rfl,rfl⟩
 by_cases h2:zhE=k;·subst h2;exact .inr ⟨1,_,rfl,rfl,rfl⟩
 by_cases h3:zkr=k;·subst h3;exact .inr ⟨2,_,rfl,rfl,rfl⟩
 by_cases h4:zed=k;·subst h4;exact .inr ⟨3,_,rfl,rfl,rfl⟩
 by_cases h5:zkL=k;·subst h5;exact .inr ⟨4,_,rfl,rfl,rfl⟩
 left;refine ⟨?_,by grind[zqi]⟩;have:zek.findIdx? (λs=>s==k)=none:=by
  simp_all[zek]
 grind[zef]
theorem L149(n:Nat)(k:By): @Eq (Option (Gt.Kl×Int×J)) ((zah (n+3)).d 149 [.str k] [.st 8,I6]) (some (zea k)):=by
 refine (q149 (n+2) k).trans ?_;unfold m149;rw[show @Eq (Option (Int×J)) ((zah (n+2)).d 214 [.str k] [I6]) (some (zef k,())) from (q214 (n+1) k).trans (s214 n k),zaa];dsimp only;rcases ziR k with ⟨h1,h2⟩|⟨i,r,h1,h2,h3⟩
 ·grind[zac,zea]
 ·rw[h1,show decide (((i:Nat):Int)<0)=false from by simp,zab,show @Eq (Option (Gt.Km×J)) ((zah (n+2)).d 215 [] [.st 2]) (m215 (zah (n+1))) from q215 (n+1)];unfold m215;rw[zaa,zcV];rw[show ([⟨[100,111,116,116,101,100],2,true,false,1⟩,⟨[114,101,118,105,115,101,100],3,true,false,2⟩,⟨[115,116,97,103,101,100],1,true,true,3⟩,⟨[113,117,97,108,105,102,105,101,100],3,false,false,4⟩,⟨[112,108,97,105,110],2,false,false,5⟩]:List Gt.Kl)[i]?=some r from h2,zaa];grind[zea]
theorem L160(n:Nat)(k:By): @Eq (Option (Gt.Kl×Int×J)) ((zah (n+3)).d 160 [.str k] [.st 8,I6]) (some (zea k)):=by
 refine (q160 (n+2) k).trans ?_;unfold m160;rw[show @Eq (Option (Int×J)) ((zah (n+2)).d 225 [.str k] [I6]) (some (zef k,())) from (q225 (n+1) k).trans (s225 n k),zaa];dsimp only;rcases ziR k with ⟨h1,h2⟩|⟨i,r,h1,h2,h3⟩
 ·grind[zab,zea]
 ·rw[h1,show decide (0<=((i:Nat):Int))=true from by simp,zac,show @Eq (Option (List Gt.Kl×J)) ((zah (n+2)).d 226 [] [.sl (.st 8)]) (m226 (zah (n+1))) from q226 (n+1)];unfold m226;rw[zaa,zcV];rw[show ([⟨[100,111,116,116,101,100],2,true,false,1⟩,⟨[114,101,118,105,115,101,100],3,true,false,2⟩,⟨[115,116,97,103,101,100],1,true,true,3⟩,⟨[113,117,97,108,105,102,105,101,100],3,false,false,4⟩,⟨[112,108,97,105,110],2,false,false,5⟩]:List Gt.Kl)[i]?=some r from h2,zaa];grind[zea]
end Pe.Tryz
end
section
namespace Pe.Tryz
open Go Go.Proofs Pe
theorem zk5{σ R:Type}{f:σ->Option (σ⊕R)}(mk:Nat->σ)(n:Nat)(p:Nat->Bool)(yes no:R)
  (h:∀k,k<n->f (mk k)=if p k=true then some (.inr yes) else some (.inl (mk (k+1))))
  (he:f (mk n)=some (.inr no)):zak f (mk 0)=some (bif (List.range n).any p then yes else no):=by
 refine zby (A:=J) (λk _=>mk k) n (λ_ _=>bif (List.range n).any p then yes else no) (λk _=>∀j,j<k->p j=false) (λk _ hk hI=>?_) 0 () (yAA _) (λj hj=>by omega);by_cases Ks:k<n
 ·cases hp:p k with
  |true =>right;have:(List.range n).any p=true:=yBd.2 ⟨k,by grind,hp⟩;grind
  |false =>
    left;refine ⟨(),Ks,by grind,λj hj=>?_,rfl⟩;grind
 ·right;obtain rfl:k=n:=by omega
  have:(List.range k).any p=false:=by simp_all
  grind
theorem zid{σ R:Type}{A:Bool}{x:R}{y:σ}{g:σ->Option R}:zaE (some (bif A then .inr x else .inl y)) g=br A (some x) (g y):=by cases A<;>rfl
def big(s:By):Bool:=decide (200<len s)
def zga(p:Gt.K3):List By:=[p.Kz,p.name,p.Ko,p.sub]
def zg6(q:Gt.Pair):Bool:=bif big q.name then true else big q.value
def zg5(p:Gt.K3):Bool:=bif (zga p).any big then true else bif p.Kf.any zg6 then true else decide (10<len p.Kf)
theorem zjk{s:By}(h:big s=false):s.length<=200:=by have:=of_decide_eq_false h;grind[len]
structure Tiny (p:Gt.K3):Prop where
 Kz:p.Kz.length<=200
 name:p.name.length<=200
 Ko:p.Ko.length<=200
 sub:p.sub.length<=200
 quals:p.Kf.length<=10
 each:∀q∈p.Kf,q.name.length<=200/\q.value.length<=200
theorem zqC{q:Gt.Pair}(h:zg6 q=false):q.name.length<=200/\q.value.length<=200:=by
 grind[zg6,zjk]
theorem tiny{p:Gt.K3}(h:zg5 p=false):Tiny p:=by
 unfold zg5 at h;cases h1:(zga p).any big with
 |true=>grind|false =>
   rw[h1] at h;cases h2:p.Kf.any zg6 with
   |true=>grind|false =>
     rw[h2] at h;simp only[zga,List.any_cons,List.any_nil,Bool.or_false,yBl] at h1;refine ⟨zjk h1.1,zjk h1.2.1,zjk h1.2.2.1,zjk h1.2.2.2,?_,λq hq=>zqC ?_⟩;·grind[len]
     simp_all
theorem s161(o:Orc Sx){l:List By}(h:l.length<=1000000000):m161 o l=some (l.any big,()):=by
 unfold m161;rw[zaY l.length (λk=>big (l.getD k [])) (.inr (true,())) (.inl ()) (λk hk=>?_) ?_,zbE];·cases l.any big<;>rfl
 ·simp[zao,zab]
 ·simp only[zao,hk,decide_true,zac,zan hk,zaa,zaf hk (by omega),zbj [] hk];rw[zfq];rfl
theorem L161(n:Nat){l:List By}(h:l.length<=1000000000): @Eq (Option (Bool×J)) ((zah (n+1)).d 161 [.sl .str l] [.bool]) (some (l.any big,())):=(q161 n _).trans (s161 _ h)
abbrev zdV:Gt.Pair:=⟨[],[]⟩
theorem s150(o:Orc Sx){p:Gt.K3}(h:p.Kf.length<=1000000000):m150 o p=some (zg5 p,()):=by
 unfold m150;refine zps (r:=bif (zga p).any big then .inr (true,()) else .inl ()) ((zk5 (λk=>(zga p,(k:Int),())) 4 (λk=>big ((zga p).getD k [])) (.inr (true,())) (.inl ()) (λk hk=>?_) ?_).trans ?_) ?_;·have hk':k<(zga p).length:=hk;simp only[show len [p.Kz,p.name,p.Ko,p.sub]=((4:Nat):Int) from rfl,Int.ofNat_lt,hk,decide_true,zac,zan hk',zaa,zaf hk (by omega),zbj [] hk'];rw[zfq];rfl
 ·rfl
 ·rw[show (List.range 4)=List.range (zga p).length from rfl,zbE]
 ·rw[zid];unfold zg5;cases (zga p).any big with
  |true=>rfl|false =>
    simp only[zab,cond_false];rw[zaY p.Kf.length (λk=>zg6 (p.Kf.getD k zdV)) (.inr (true,())) (.inl ()) (λk hk=>?_) ?_,zbE,zid];·cases p.Kf.any zg6<;>rfl
    ·simp[zao,zab]
    ·simp only[zao,hk,decide_true,zan hk,zaa,zaf hk (by omega),zbj zdV hk,zai,cond_true];exact zio rfl
theorem L150(n:Nat){p:Gt.K3}(h:p.Kf.length<=1000000000): @Eq (Option (Bool×J)) ((zah (n+1)).d 150 [.st 11 p] [.bool]) (some (zg5 p,())):=(q150 n _).trans (s150 _ h)
def qF(l:List Gt.Pair)(k:Nat):Int :=
 bif !zl3 (l.getD k zdV).name then 8 else bif (l.getD k zdV).value==[] then 2 else
 bif decide (0<(k:Int))&&(Op.bytesLess (l.getD k zdV).name (l.getD (k - 1) zdV).name||((l.getD k zdV).name==(l.getD (k - 1) zdV).name)) then 10 else 0
def qE(l:List Gt.Pair):Int:=ff (qF l) l.length
theorem before{l:List Gt.Pair}{k:Nat}(hk:k<l.length)(hl:l.length<=1000000000)(G:Gt.Pair->Bool) :
  br (decide (0<(k:Int))) (ob (at? l (IntKind.i64.wrap ((k:Int) - 1))) λy=>some (G y)) (some false)=some (decide (0<(k:Int))&&G (l.getD (k - 1) zdV)):=by
 cases k with
 |zero=>rfl|succ k =>have hk':k<l.length:=(by omega);rw[show decide (0<((k+1:Nat):Int))=true from decide_eq_true (by omega),zaH (by omega) (by omega),show ((k+1:Nat):Int) - 1=(k:Int) by omega];simp_all[zac,zaa,zan]
theorem L218(n:Nat){s:By}(h:s.length<=1000000000): @Eq (Option (Bool×J)) ((zah (n+2)).d 218 [.str s] [.bool]) (some (zl3 s,())):=(q218 (n+1) _).trans (s218 n h)
theorem L164(n:Nat){s:By}(h:s.length<=1000000000): @Eq (Option (Bool×J)) ((zah (n+1)).d 164 [.str s] [.bool]) (some (zl3 s,())):=(q164 n _).trans (s164 _ h)
theorem s154(n:Nat){l:List Gt.Pair}(h:l.length<=1000000000)(h2:∀q∈l,q.name.length<=1000000000):m154 (zah (n+2)) l=some (qE l,()):=by
 unfold m154;refine zps (zb9 l.length (qF l) (λc=>.inr (c,())) (.inl ()) (λk hk _=>?_) ?_) ?_;·have hn:=h2 l[k] (yAy hk);simp only[zao,hk,decide_true,zac,zan hk,zaa,L218 n hn,before hk h];rw[zaf hk (by omega)];unfold qF;simp only[zbj zdV hk];refine zdK (out:=λc=>Sum.inr (c,())) 8 (by decide) λ_=>zdK (out:=λc=>Sum.inr (c,())) 2 (by decide) λ_=>zdK (out:=λc=>Sum.inr (c,())) 10 (by decide) λ_=>?_;exact zqL.symm
 ·simp[zao,zab]
 ·unfold qE;by_cases h0:ff (qF l) l.length=0;·rw[if_neg (by grind),h0];rfl
  ·rw[if_pos h0];rfl
theorem L154(n:Nat){l:List Gt.Pair}(h:l.length<=1000000000)(h2:∀q∈l,q.name.length<=1000000000): @Eq (Option (Int×J)) ((zah (n+3)).d 154 [.sl (.st 10) l] [I6]) (some (qE l,())):=(q154 (n+2) _).trans (s154 n h h2)
theorem zCg(sep:ByteArray):∀(k:Nat)(s:ByteArray),∀x∈Lib.splitB sep 0 k s,x.size<=s.size
 |0,s,x,hx=>by simp[Lib.splitB] at hx;subst hx;exact yAi _
 |k+1,s,x,hx=>by
   unfold Lib.splitB at hx;split at hx;·simp at hx;subst hx;exact yAi _
   ·rcases yAm.1 hx with rfl|hx;·rw[ByteArray.size_extract];omega
    ·have:=zCg sep k _ x hx;rw[ByteArray.size_extract] at this;omega
theorem zjx(s:By):(zjy s).length<=s.length+1:=by
 unfold zjy;cases (s==[]) with
 |true=>simp|false =>simp only[cond_false];unfold zbW;have h1:=Lib.splitB_length_le ⟨#[47]⟩ 0 (Lib.countB ⟨s.toArray⟩ ⟨#[47]⟩) ⟨s.toArray⟩;have h2:=Lib.countB_le ⟨#[47]⟩ (yAi 1) _ ⟨s.toArray⟩ (yAi _);have h3:(ByteArray.mk s.toArray).size=s.length:=rfl;rw[yBi];omega
theorem zCi{s x:By}(h:x∈zjy s):x.length<=s.length:=by
 unfold zjy at h;cases hs:(s==[]) with
 |true=>rw[hs] at h;cases h|false =>rw[hs] at h;simp only[cond_false] at h;unfold zbW at h;obtain ⟨y,hy,rfl⟩:=yBw.1 h;have:=zCg _ _ _ y hy;have h3:(ByteArray.mk s.toArray).size=s.length:=rfl;have h4:y.data.toList.length=y.size:=rfl;omega
theorem L152(n:Nat){s:By}(h:s.length<=1000000000): @Eq (Option (List By×J)) ((zah (n+2)).d 152 [.str s] [LS]) (some (zjy s,())):=(q152 (n+1) _).trans (s152 n h)
theorem L227(n:Nat){s:By}(h:s.length<=1000000000): @Eq (Option (List By×J)) ((zah (n+2)).d 227 [.str s] [LS]) (some (zjy s,())):=(q227 (n+1) _).trans (s227 n h)
theorem L151(n:Nat){l:List By}(dots:Bool)(h:l.length<=1000000000): @Eq (Option (Bool×J)) ((zah (n+1)).d 151 [.sl .str l,.bool dots] [.bool]) (some (zbL l dots,())):=(q151 n _ _).trans (s151 _ dots h)
theorem L162(n:Nat){s:By}(dots:Bool)(h:s.length<=100000000): @Eq (Option (Bool×J)) ((zah (n+3)).d 162 [.str s,.bool dots] [.bool]) (some (zbL (zjy s) dots,())):=(q162 (n+2) _ _).trans (s162 n dots (by omega) (by grind[zjx]))
theorem L155(n:Nat){s:By}(h:s.length<=1000000000): @Eq (Option (Bool×J)) ((zah (n+1)).d 155 [.str s] [.bool]) (some (s.any ctl,())):=(q155 n _).trans (s155 _ h)
theorem L165(n:Nat){s:By}(h:s.length<=1000000000): @Eq (Option (Bool×J)) ((zah (n+1)).d 165 [.str s] [.bool]) (some (!s.any ctl,())):=(q165 n _).trans (s165 _ h)
def zfv(r:Gt.Kl)(p:Gt.K3):Bool:=bif (bif p.Kz != [] then r.Kz==1 else false) then true else (bif p.Kz==[] then r.Kz==3 else false)
def zhO(p:Gt.K3):Bool:=bif p.name==[] then true else decide (0<=Lib.indexByte p.name 47)
def zs0(p:Gt.K3):Bool:=(zga p).any λs=>s.any ctl
def zsZ(p:Gt.K3):Bool:=p.Kf.any λq=>q.value.any ctl
def zdS(p:Gt.K3):Int :=
 bif (zea p.kind).2.1 != 0 then (zea p.kind).2.1 else bif zg5 p then 3 else bif zfv (zea p.kind).1 p then 2 else bif zbL (zjy p.Kz) false then 2 else
 bif zhO p then 8 else bif qE p.Kf != 0 then qE p.Kf else bif zbL (zjy p.sub) true then 2 else bif zs0 p then 8 else bif zsZ p then 8 else 0
theorem s117(n:Nat){p:Gt.K3}(h:p.Kf.length<=1000000000):m117 (zah (n+3)) p=some (zdS p,()):=by
 unfold m117;rw[L149 n,L150 (n+2) h];simp only[zaa];unfold zdS;cases h1:((zea p.kind).2.1 != 0) with
 |true=>rfl|false =>
   cases hl:zg5 p with
   |true=>rfl|false =>
     have T:=tiny hl;have t1:=T.Kz;have t2:=T.name;have t3:=T.sub;have t4:=T.quals;have tp:=zjx p.Kz;have ts:=zjx p.sub;simp only[zab,cond_false,zai,zaa];rw[L152 (n+1) (by omega)];simp only[zaa];rw[L151 (n+2) false (by omega),L153,L154 n (by omega) (λq hq=>by have:=(T.each q hq).1;omega),L152 (n+1) (by omega)];simp only[zaa,zai];rw[L151 (n+2) true (by omega)];simp only[zaa];rw[show zak _ ([p.Kz,p.name,p.Ko,p.sub],(0:Int),())=_ from (zk5 (λk=>(zga p,(k:Int),())) 4 (λk=>((zga p).getD k []).any ctl) (.inr (8,())) (.inl ()) (λk hk=>?_) ?_).trans (by rw[show (List.range 4)=List.range (zga p).length from rfl,zbE (zga p) [] λs=>s.any ctl]),zid]
     ·rw[zaY p.Kf.length (λk=>(p.Kf.getD k zdV).value.any ctl) (.inr (8,())) (.inl ()) (λk hk=>?_) ?_,zbE p.Kf zdV (λq=>q.value.any ctl),zid];·simp only[zai];have e1:(bif (bif p.Kz != [] then (zea p.kind).1.Kz==1 else false) then true else (bif p.Kz==[] then (zea p.kind).1.Kz==3 else false))=zfv (zea p.kind).1 p:=rfl;have e2:(bif p.name==[] then true else decide (0<=Lib.indexByte p.name (UInt8.ofNat (Int.toNat 47))))=zhO p:=rfl;grind[zs0,zsZ]
      ·simp[zao,zab]
      ·have:=(T.each _ (yAy hk)).2;simp only[zao,hk,decide_true,zac,zan hk,zaa,zaf hk (by omega),zbj zdV hk,L155 (n+2) (show (p.Kf[k]).value.length<=1000000000 by omega)];exact zio rfl
     ·rfl
     ·have hk':k<(zga p).length:=hk;have hb:((zga p)[k]).length<=1000000000:=by
       have:(zga p)[k]∈zga p:=yAy hk';have t5:=T.Ko;simp only[zga,yAm,yAX,or_false] at this;grind[zga]
      simp only[show len [p.Kz,p.name,p.Ko,p.sub]=((4:Nat):Int) from rfl,Int.ofNat_lt,hk,decide_true,zac,zan hk',zaa,zaf hk (by omega),zbj [] hk',L155 (n+2) hb];exact zio rfl
end Pe.Tryz
end
section
namespace Pe.Tryz
open Go Go.Proofs Pe
theorem zti{α:Type}(l:List α)(p:α->Bool)(a:Bool):l.foldl (λb x=>bif b then !p x else false) a=(bif a then !l.any p else false):=by
 induction l generalizing a with
 |nil=>cases a<;>rfl|cons x r ih=>rw[yCd,ih];grind
theorem zpD{σ R:Type}{out:Int->R}{nxt:σ}{b:Bool}{c:Int}(hc:c≠0):some (bif b then .inr (out c) else .inl nxt)=ffS out nxt (bif b then c else 0):=by
 grind[ffS]
theorem s120(n:Nat){p:Gt.K3}(h:p.Kf.length<=1000000000):m120 (zah (n+3)) p=some (zdS p,()):=by
 unfold m120;rw[L160 n];simp only[zaa];unfold zdS;cases h1:((zea p.kind).2.1 != 0) with
 |true=>rfl|false =>
   have e67: @Eq (Option (Bool×J)) ((zah (n+3)).d 161 [.sl .str [p.Kz,p.name,p.Ko,p.sub]] [.bool]) (some ((zga p).any big,())):=L161 (n+2) (l:=zga p) (by simp[zga]);rw[e67];simp only[zab,cond_false,zai,zaa];cases hb:(bif (zga p).any big then true else decide (10<len p.Kf)) with
   |true =>
     have hl:zg5 p=true:=by
      unfold zg5;cases h3:(zga p).any big with
      |true=>rfl|false=>simp_all
     rw[hl];rfl
   |false =>
     simp only[zab];rw[zaY p.Kf.length (λk=>zg6 (p.Kf.getD k zdV)) (.inr (3,())) (.inl ()) (λk hk=>?_) ?_,zbE p.Kf zdV zg6,zid]
     ·have hq:zg5 p=p.Kf.any zg6:=by
       unfold zg5;cases h3:(zga p).any big with
       |true=>grind|false=>rw[h3] at hb;simp only[cond_false] at hb ⊢;grind
      rw[<-hq];cases hl:zg5 p with
      |true=>rfl|false =>
        have T:=tiny hl;have t1:=T.Kz;have t2:=T.name;have t3:=T.sub;have t4:=T.quals;have t5:=T.Ko;simp only[zab,cond_false];rw[L162 n false (by omega),L163,L162 n true (by omega),L165 (n+2) (show p.Kz.length<=1000000000 by omega),L165 (n+2) (show p.name.length<=1000000000 by omega),L165 (n+2) (show p.Ko.length<=1000000000 by omega),L165 (n+2) (show p.sub.length<=1000000000 by omega)];simp only[zaa,zai];rw[zb9 p.Kf.length (qF p.Kf) (λc=>.inr (c,())) (.inl ()) (λk hk _=>?_) ?_]
        ·refine Eq.trans (b:=br (bif zfv (zea p.kind).1 p then true else zbL (zjy p.Kz) false) (some (2,())) (br (zhO p) (some (8,())) (br (qE p.Kf != 0) (some (qE p.Kf,())) (br (zbL (zjy p.sub) true) (some (2,())) (br (bif zs0 p then true else zsZ p) (some (8,())) (some (0,()))))))) ?_ ?_
         ·congr 1;congr 1;have Qs:∀(X:Option (Int×J)),zaE (some (if ff (qF p.Kf) p.Kf.length≠0 then Sum.inr (ff (qF p.Kf) p.Kf.length,()) else Sum.inl ())) (λ(_:J)=>X)=br (qE p.Kf != 0) (some (qE p.Kf,())) X:=by
           intro X;unfold qE;by_cases h0:ff (qF p.Kf) p.Kf.length=0;·rw[if_neg (by grind),h0];rfl
           ·rw[if_pos h0,show (ff (qF p.Kf) p.Kf.length != 0)=true by grind];rfl
          refine (Qs _).trans ?_;congr 1;congr 1;refine zps (zcK (λk (b:Bool)=>(b,(k:Int),())) p.Kf (λb q=>bif b then !q.value.any ctl else false) (λb=>.inl (b,())) (λ_ _=>True) (λk hk b _=>⟨?_,trivial⟩) (λb _=>?_) _ trivial) ?_;·have:=(T.each _ (yAy hk)).2;grind[zao,zaa,zai,zan,zaf,L165]
          ·simp[zao,zab]
          ·rw[zti p.Kf λq=>q.value.any ctl];simp only[zaj,zs0,zsZ,zga,List.any_cons,List.any_nil,Bool.or_false];cases p.Kz.any ctl<;>cases p.name.any ctl<;>cases p.Ko.any ctl<;>cases p.sub.any ctl<;>cases p.Kf.any (λq=>q.value.any ctl)<;>rfl
         ·cases zfv (zea p.kind).1 p<;>cases zbL (zjy p.Kz) false<;>cases zhO p<;>cases (qE p.Kf != 0)<;>cases zbL (zjy p.sub) true<;>cases zs0 p<;>cases zsZ p<;>rfl
        ·simp[zao,zab]
        ·have hn:=(T.each _ (yAy hk)).1;simp only[zao,hk,decide_true,zac,zan hk,zaa,L164 (n+2) (show (p.Kf[k]).name.length<=1000000000 by omega),before hk h];rw[zaf hk (by omega)];unfold qF;simp only[zbj zdV hk];refine zdK (out:=λc=>Sum.inr (c,())) 8 (by decide) λ_=>zdK (out:=λc=>Sum.inr (c,())) 2 (by decide) λ_=>zpD (c:=10) (out:=λc=>Sum.inr (c,())) (by decide)
     ·simp[zao,zab]
     ·have:([p.Kf[k].name,p.Kf[k].value]:List By).length<=1000000000:=by simp
      have e67: @Eq (Option (Bool×J)) ((zah (n+3)).d 161 [.sl .str [p.Kf[k].name,p.Kf[k].value]] [.bool]) (some ([p.Kf[k].name,p.Kf[k].value].any big,())):=L161 (n+2) (l:=[p.Kf[k].name,p.Kf[k].value]) this;simp only[zao,hk,decide_true,zac,zan hk,zaa,zaf hk (by omega),zbj zdV hk,e67];simp_all[zio,zg6]
theorem L117(n:Nat){p:Gt.K3}(h:p.Kf.length<=1000000000): @Eq (Option (Int×J)) ((zah (n+4)).d 117 [.st 11 p] [I6]) (some (zdS p,())):=(q117 (n+3) _).trans (s117 n h)
theorem L120(n:Nat){p:Gt.K3}(h:p.Kf.length<=1000000000): @Eq (Option (Int×J)) ((zah (n+4)).d 120 [.st 11 p] [I6]) (some (zdS p,())):=(q120 (n+3) _).trans (s120 n h)
def zyD(p:Gt.K3):Gt.K3 :=
 ⟨p.kind,bif (zea p.kind).1.small then zyA p.Kz else p.Kz,
  bif (zea p.kind).1.dashes then zyK false (bif (zea p.kind).1.small then zyA p.name else p.name) else (bif (zea p.kind).1.small then zyA p.name else p.name),p.Ko,p.Kf,p.sub⟩
theorem zzk(s:By):(zyA s).length=s.length:=by simp[zyA]
theorem zA9:∀(b:Bool)(s:By),(zyK b s).length<=s.length
 |_,[]=>by simp[zyK]
 |b,c::r=>by have h1:=zA9 true r;have h2:=zA9 false r;unfold zyK;cases zyt c<;>cases b<;>simp<;>omega
theorem zBz{p:Gt.K3}(T:Tiny p):Tiny (zyD p):=by
 have t1:=T.Kz;have t2:=T.name;have h1:=zA9 false p.name;have h2:=zA9 false (zyA p.name);have h3:=zzk p.name;have h4:=zzk p.Kz;refine ⟨?_,?_,T.Ko,T.sub,T.quals,T.each⟩;·unfold zyD;cases (zea p.kind).1.small<;>simp<;>omega
 ·unfold zyD;cases (zea p.kind).1.small<;>cases (zea p.kind).1.dashes<;>simp<;>omega
theorem zyC{p:Gt.K3}(h:zdS p=0):Tiny p:=by
 cases hl:zg5 p with
 |false=>exact tiny hl|true =>
   unfold zdS at h;cases h1:((zea p.kind).2.1 != 0) with
   |true=>rw[h1] at h;simp only[cond_true] at h;rw[h] at h1;cases h1|false=>rw[h1,hl] at h;simp at h
end Pe.Tryz
end
section
namespace Pe.Tryz
open Go Go.Proofs Pe
theorem s224(o:Orc Sx)(c:UInt8):m224 o (c.toNat:Int)=some (zyt c,()):=by simp only[m224,zaa,zai];exact congrArg some (Prod.ext (eq8 (f:=λc=>bif (bif ((c.toNat:Int)==45) then true else ((c.toNat:Int)==95)) then true else ((c.toNat:Int)==46)) (g:=zyt) (by decide+kernel) c) rfl)
theorem L224(n:Nat)(c:UInt8): @Eq (Option (Bool×J)) ((zah (n+1)).d 224 [.int .u8 (c.toNat:Int)] [.bool]) (some (zyt c,())):=(q224 n _).trans (s224 _ c)
theorem zzQ(s:By):zAU (zaT s)=some s:=by
 unfold zAU;have:((zaT s).all λn=>decide (0<=n)&&decide (n<256))=true:=by rw[yAM];intro x hx;simp only[zaT,yBw] at hx;obtain ⟨c,_,rfl⟩:=hx;have:=c.toNat_lt;simp;omega
 rw[this,zyE];rfl
theorem s158(o:Orc Sx){s:By}(h:s.length<=1000000000):m158 o s=some (zyA s,()):=by
 unfold m158;rw[ztw s (by simp[lim];omega)];simp only[zaa];refine zps (zby (A:=J) (λk _=>((k:Int),zzi s k,())) s.length (λ_ _=>.inl (zzi s s.length,())) (λ_ _=>True) (λk _ hk _=>?_) 0 () (yAA _) trivial) ?_
 ·by_cases Ks:k<s.length
  ·left;refine ⟨(),Ks,?_,trivial,rfl⟩;simp only[len,zys,Int.ofNat_lt,Ks,decide_true,zzJ (show k<(zzi s k).length by rw[zyQ];exact Ks),zaa,zzA Ks,zai,zaf Ks (by omega)];have:=zyY Ks;rw[<-low1] at this;cases hc:(bif decide (65<=((s[k]).toNat:Int)) then decide (((s[k]).toNat:Int)<=90) else false) with
   |true=>rw[hc] at this;rw[this];rfl|false=>rw[zzq Ks hc];rfl
  ·right;obtain rfl:k=s.length:=by omega
   simp[len,zys,zab]
 ·simp only[zaj,zzK]
theorem s229(o:Orc Sx){s:By}(h:s.length<=1000000000):m229 o s=some (zyA s,()):=by
 unfold m229;rw[ztw s (by simp[lim];omega)];simp only[zaa];refine zps (zby (A:=J) (λk _=>((k:Int),zzi s k,())) s.length (λ_ _=>.inl (zzi s s.length,())) (λ_ _=>True) (λk _ hk _=>?_) 0 () (yAA _) trivial) ?_
 ·by_cases Ks:k<s.length
  ·left;refine ⟨(),Ks,?_,trivial,rfl⟩;simp only[len,zys,Int.ofNat_lt,Ks,decide_true,zzJ (show k<(zzi s k).length by rw[zyQ];exact Ks),zaa,zzA Ks,zai,zaf Ks (by omega)];have:=zyY Ks;rw[<-low2] at this;cases hc:(bif decide (65<=((s[k]).toNat:Int)) then decide (((s[k]).toNat:Int)<=90) else false) with
   |true=>rw[hc] at this;rw[this];rfl|false=>rw[zzq Ks hc];rfl
  ·right;obtain rfl:k=s.length:=by omega
   simp[len,zys,zab]
 ·simp only[zaj,zzK]
theorem s159(n:Nat){s:By}(h:s.length<=1000000000):m159 (zah (n+1)) s=some (zyK false s,()):=by
 unfold m159;refine zps (zby (A:=By) (λk b=>((k:Int),zaT b,())) s.length (λk b=>.inl (zaT (b++zyK (zyG s k) (s.drop k)),())) (λk b=>b.length<=k) (λk b hk hb=>?_) 0 [] (yAA _) (by simp)) ?_
 ·by_cases Ks:k<s.length
  ·left;have hl:b.length+1<=lim:=by simp[lim];omega
   simp only[zao,Ks,decide_true,zac,zan Ks,zaa,zaf Ks (by omega),L224];have hcond:∀{β:Type}(g:Bool->Option β),ob (br ((k:Int)==0) (some true) (ob (at? s (IntKind.i64.wrap ((k:Int) - 1))) λc6=>some (!zyt c6))) g=g (!zyG s k):=by
    intro β g;cases k with
    |zero=>rfl|succ k =>
      have hk':k<s.length:=(by omega);have:(((k+1:Nat):Int)==0)=false:=by simp;omega
      rw[this,zaH (by omega) (by omega),show ((k+1:Nat):Int) - 1=(k:Int) by omega];simp only[zab,zan hk',zaa,zyw hk']
   cases hc:zyt s[k] with
   |false =>
     refine ⟨b++[s[k]],trivial,?_,by simp;omega,?_⟩;·simp only[Bool.not_false,zac,cat1 hl,zaa]
     ·rw[zyy Ks,hc];simp
   |true =>
     cases hp:zyG s k with
     |false =>
       refine ⟨b++[45],trivial,?_,by simp;omega,?_⟩;·simp only[yBS,zab];refine (hcond _).trans ?_;simp only[hp,Bool.not_false,zac,zA2 hl,zaa]
       ·rw[<-hp,zyy Ks,hc,hp];simp
     |true =>
       refine ⟨b,trivial,?_,by omega,?_⟩;·simp only[yBS,zab];refine (hcond _).trans ?_;simp only[hp,yBS,zab]
       ·rw[<-hp,zyy Ks,hc,hp];simp
  ·right;obtain rfl:k=s.length:=by omega
   simp[zao,zab,zyK]
 ·simp[zaj,zzQ,zaa,zyG]
theorem s230(o:Orc Sx){s:By}(h:s.length<=1000000000):m230 o s=some (zyK false s,()):=by
 unfold m230;refine zps (zby (A:=By) (λk b=>(zaT b,(k:Int),())) s.length (λk b=>.inl (zaT (b++zyK (zyG s k) (s.drop k)),())) (λk b=>b.length<=k/\zAM b=zyG s k) (λk b hk hb=>?_) 0 [] (yAA _) ⟨by simp,rfl⟩) ?_
 ·by_cases Ks:k<s.length
  ·left;have hl:b.length+1<=lim:=by have:=hb.1;simp[lim];omega
   simp only[zao,Ks,decide_true,zac,zan Ks,zaa,zaf Ks (by omega),zai];have hcond:∀{β:Type}(g:Bool->Option β),ob (br ((len (zaT b))==0) (some true) (ob (at? (zaT b) (IntKind.i64.wrap ((len (zaT b)) - 1))) λy5=>some (y5 != 45))) g=g (!zyG s k):=by
    intro β g;rw[<-hb.2];rcases List.eq_nil_or_concat b with rfl|⟨b',x,rfl⟩;·rfl
    ·rw[List.concat_eq_append] at hb hl ⊢;have e1:len (zaT (b'++[x]))=((b'.length+1:Nat):Int):=by simp[len,zys]
     have:(((b'.length+1:Nat):Int)==0)=false:=by simp;omega
     have hb1:=hb.1;rw[yAI,List.length_singleton] at hb1;rw[e1,this,zaH (by omega) (by omega),show ((b'.length+1:Nat):Int) - 1=(b'.length:Int) by omega];have e2:at? (zaT (b'++[x])) (b'.length:Int)=some (x.toNat:Int):=(by rw[zcV,zzt,yAF (by simp[zys]),zys];simp[zaT]);simp only[zab,e2,zaa,zyX];rw[show ((x.toNat:Int) != 45)= !(x==45) from eq8 (f:=λx=>(x.toNat:Int) != 45) (g:=λx=> !(x==45)) (by decide+kernel) x]
   have hd:(bif (bif ((s[k].toNat:Int)==45) then true else ((s[k].toNat:Int)==95)) then true else ((s[k].toNat:Int)==46))=zyt s[k] :=
    eq8 (f:=λc=>bif (bif ((c.toNat:Int)==45) then true else ((c.toNat:Int)==95)) then true else ((c.toNat:Int)==46)) (g:=zyt) (by decide+kernel) _
   rw[hd];cases hc:zyt s[k] with
   |false =>
     refine ⟨b++[s[k]],trivial,?_,⟨by simp;exact hb.1,by rw[zyX,zyw Ks,hc,zA1 _ hc]⟩,?_⟩;·simp only[zab,cat1 hl,zaa]
     ·rw[zyy Ks,hc];simp
   |true =>
     cases hp:zyG s k with
     |false =>
       refine ⟨b++[45],trivial,?_,⟨by simp;exact hb.1,by rw[zyX,zyw Ks,hc];rfl⟩,?_⟩;·simp only[zac];refine (hcond _).trans ?_;simp only[hp,Bool.not_false,zac,zA2 hl,zaa]
       ·rw[<-hp,zyy Ks,hc,hp];simp
     |true =>
       refine ⟨b,trivial,?_,⟨by have:=hb.1;omega,by rw[hb.2,hp,zyw Ks,hc]⟩,?_⟩;·simp only[zac];refine (hcond _).trans ?_;simp only[hp,yBS,zab]
       ·rw[<-hp,zyy Ks,hc,hp];simp
  ·right;obtain rfl:k=s.length:=by omega
   simp[zao,zab,zyK]
 ·simp[zaj,zyE,zyG]
theorem L158(n:Nat){s:By}(h:s.length<=1000000000): @Eq (Option (By×J)) ((zah (n+1)).d 158 [.str s] [.str]) (some (zyA s,())):=(q158 n _).trans (s158 _ h)
theorem L229(n:Nat){s:By}(h:s.length<=1000000000): @Eq (Option (By×J)) ((zah (n+1)).d 229 [.str s] [.str]) (some (zyA s,())):=(q229 n _).trans (s229 _ h)
theorem L159(n:Nat){s:By}(h:s.length<=1000000000): @Eq (Option (By×J)) ((zah (n+2)).d 159 [.str s] [.str]) (some (zyK false s,())):=(q159 (n+1) _).trans (s159 n h)
theorem L230(n:Nat){s:By}(h:s.length<=1000000000): @Eq (Option (By×J)) ((zah (n+1)).d 230 [.str s] [.str]) (some (zyK false s,())):=(q230 n _).trans (s230 _ h)
theorem s119(n:Nat){p:Gt.K3}(T:Tiny p):m119 (zah (n+3)) p=some (zyD p,()):=by
 have t1:=T.Kz;have t2:=T.name;have t4:=T.quals;unfold m119 zyD;rw[L149 n,L158 (n+2) (show p.Kz.length<=1000000000 by omega),L158 (n+2) (show p.name.length<=1000000000 by omega)];simp only[zaa];cases (zea p.kind).1.small<;>cases (zea p.kind).1.dashes;·simp only[zab,cond_false,zaj];rw[ztw _ (by simp[lim];omega)];rfl
 ·simp only[zac,zab,cond_false,cond_true,zaj];rw[L159 (n+1) (by omega)];simp only[zaa,zaj];rw[ztw _ (by simp[lim];omega)];rfl
 ·simp only[zac,zab,cond_false,cond_true,zaj];rw[ztw _ (by simp[lim];omega)];rfl
 ·simp only[zac,cond_true,zaj];rw[L159 (n+1) (by rw[zzk];omega)];simp only[zaa,zaj];rw[ztw _ (by simp[lim];omega)];rfl
theorem s166(n:Nat){p:Gt.K3}(T:Tiny p):m166 (zah (n+3)) p=some (zyD p,()):=by
 have t1:=T.Kz;have t2:=T.name;have t4:=T.quals;unfold m166 zyD;rw[L160 n,L229 (n+2) (show p.Kz.length<=1000000000 by omega),L229 (n+2) (show p.name.length<=1000000000 by omega)];simp only[zaa];cases (zea p.kind).1.small<;>cases (zea p.kind).1.dashes;·simp only[zab,cond_false,zaj];rw[ztw _ (by simp[lim];omega)];rfl
 ·simp only[zac,zab,cond_false,cond_true,zaj];rw[L230 (n+2) (by omega)];simp only[zaa,zaj];rw[ztw _ (by simp[lim];omega)];rfl
 ·simp only[zac,zab,cond_false,cond_true,zaj];rw[ztw _ (by simp[lim];omega)];rfl
 ·simp only[zac,cond_true,zaj];rw[L230 (n+2) (by rw[zzk];omega)];simp only[zaa,zaj];rw[ztw _ (by simp[lim];omega)];rfl
theorem L119(n:Nat){p:Gt.K3}(T:Tiny p): @Eq (Option (Gt.K3×J)) ((zah (n+4)).d 119 [.st 11 p] [.st 11]) (some (zyD p,())):=(q119 (n+3) _).trans (s119 n T)
theorem L166(n:Nat){p:Gt.K3}(T:Tiny p): @Eq (Option (Gt.K3×J)) ((zah (n+4)).d 166 [.st 11 p] [.st 11]) (some (zyD p,())):=(q166 (n+3) _).trans (s166 n T)
end Pe.Tryz
end
section
namespace Pe.Tryz
open Go Go.Proofs Pe
theorem s274(o:Orc Sx)(c:UInt8):m274 o (c.toNat:Int)=some (zB8 c,()) :=
 eq8 (f:=λc=>m274 o (c.toNat:Int)) (g:=λc=>some (zB8 c,())) (by kernel_rfl) c
theorem s220(o:Orc Sx)(c:UInt8):m220 o (c.toNat:Int)=some (letB c,()) :=
 eq8 (f:=λc=>m220 o (c.toNat:Int)) (g:=λc=>some (letB c,())) (by kernel_rfl) c
theorem L274(n:Nat)(c:UInt8): @Eq (Option (Bool×J)) ((zah (n+1)).d 274 [.int .u8 (c.toNat:Int)] [.bool]) (some (zB8 c,())):=(q274 n _).trans (s274 _ c)
theorem L220(n:Nat)(c:UInt8): @Eq (Option (Bool×J)) ((zah (n+1)).d 220 [.int .u8 (c.toNat:Int)] [.bool]) (some (letB c,())):=(q220 n _).trans (s220 _ c)
theorem s157(n:Nat){s:By}(h:s.length<=1000000000):m157 (zah (n+1)) s=some (zCO s,()):=by
 unfold m157;refine zps (zcK (λk (b:By)=>((k:Int),zaT b,())) s (λb c=>b++zDa c) (λb=>.inl (zaT b,())) (λk b=>b.length<=3*k) (λk hk b hI=>?_) (λb _=>?_) [] (by simp)) ?_
 ·have hl:=zCr s[k];refine ⟨?_,by simp;omega⟩;simp only[zao,hk,decide_true,zac,zan hk,zaa,zaf hk (by omega),zai,L220,L153];generalize s[k]=c at hl;refine (br_eq (P:=zB8 c) ?_).trans ?_;·clear hl;revert c;exact eq8 (by decide+kernel)
  ·cases hc:zB8 c;·simp only[zab,dig1,dig2,zaa];rw[show zdJ ([37]:By) [digs.getD (c / 16).toNat 0]=some [37,digs.getD (c / 16).toNat 0] from rfl];simp only[zaa];rw[show zdJ [37,digs.getD (c / 16).toNat 0] [digs.getD (c % 16).toNat 0]=some [37,digs.getD (c / 16).toNat 0,digs.getD (c % 16).toNat 0] from rfl];simp only[zaa];rw[zzc (by simp[lim];omega)];simp[zaa,zDa,hc]
   ·simp only[zac];rw[show zdJ (zaT b) [(c.toNat:Int)]=some (zaT (b++[c])) from zzc (b:=[c]) (by simp[lim];omega)];simp[zaa,zDa,hc]
 ·simp[zao,zab]
 ·rw[zCc];simp only[yBb,zaj,zzQ,zaa];rfl
theorem s232(n:Nat){s:By}(h:s.length<=1000000000):m232 (zah (n+1)) s=some (zCO s,()):=by
 unfold m232;refine zps (zcK (λk (b:By)=>(zaT b,(k:Int),())) s (λb c=>b++zDa c) (λb=>.inl (zaT b,())) (λk b=>b.length<=3*k) (λk hk b hI=>?_) (λb _=>?_) [] (by simp)) ?_
 ·have hl:=zCr s[k];refine ⟨?_,by simp;omega⟩;simp only[zao,hk,decide_true,zac,zan hk,zaa,zaf hk (by omega),L274];generalize s[k]=c at hl;cases hc:zB8 c;·simp only[zab,dig3,dig4,zaa];rw[show zdJ (zaT b) [37,((digs.getD (c / 16).toNat 0).toNat:Int),((digs.getD (c % 16).toNat 0).toNat:Int)]=some (zaT (b++[37,digs.getD (c / 16).toNat 0,digs.getD (c % 16).toNat 0])) from zzc (b:=[37,digs.getD (c / 16).toNat 0,digs.getD (c % 16).toNat 0]) (by simp[lim];omega)];simp[zaa,zDa,hc]
  ·simp only[zac];rw[show zdJ (zaT b) [(c.toNat:Int)]=some (zaT (b++[c])) from zzc (b:=[c]) (by simp[lim];omega)];simp[zaa,zDa,hc]
 ·simp[zao,zab]
 ·rw[zCc];simp only[yBb,zaj,zyE];rfl
theorem L157(n:Nat){s:By}(h:s.length<=1000000000): @Eq (Option (By×J)) ((zah (n+2)).d 157 [.str s] [.str]) (some (zCO s,())):=(q157 (n+1) _).trans (s157 n h)
theorem L232(n:Nat){s:By}(h:s.length<=1000000000): @Eq (Option (By×J)) ((zah (n+2)).d 232 [.str s] [.str]) (some (zCO s,())):=(q232 (n+1) _).trans (s232 n h)
def zCk(s:By):By:=Lib.join ((zjy s).map zCO) [47]
theorem zCA{M:Nat}:∀{l:List By},(∀x∈l,x.length<=M)->(Lib.joinTail [47] l).length<=l.length*(M+1)
 |[],_=>by simp[Lib.joinTail]
 |x::r,h=>by have h1:=h x (by simp);have h2:=zCA (l:=r) λy hy=>h y (by simp[hy]);simp only[Lib.joinTail,yAn,yBM,yAI,yAw,List.length_nil] at h2 ⊢;rw[Nat.succ_mul];omega
theorem zC7{M:Nat}:∀{l:List By},(∀x∈l,x.length<=M)->(Lib.join l [47]).length<=l.length*(M+1)
 |[],_=>by simp[Lib.join_nil]
 |x::r,h=>by have h1:=h x (by simp);have h2:=zCA (l:=r) λy hy=>h y (by simp[hy]);rw[Lib.join_cons];simp only[yAI,yAw];rw[Nat.succ_mul];omega
theorem zCa{s:By}(h:s.length<=200):(zCk s).length<=130000:=by have h1:=zjx s;have h2:=zC7 (M:=600) (l:=(zjy s).map zCO) (λx hx=>by obtain ⟨y,hy,rfl⟩:=yBw.1 hx;have:=zCi hy;have:=zCq y;omega);rw[yBi] at h2;have:(zjy s).length*(600+1)<=201*601:=yCi (by omega) (by omega);unfold zCk;omega
theorem zCo{α β:Type}(g:α->β):∀(l:List α)(a:List β),l.foldl (λb x=>b++[g x]) a=a++l.map g
 |[],a=>by simp
 |x::r,a=>by simp[zCo g r,yA5]
theorem s156(n:Nat){s:By}(h:s.length<=200):m156 (zah (n+2)) s=some (zCk s,()):=by
 unfold m156;rw[L152 n (by omega)];simp only[zaa];have hs:=zjx s;refine zps (zcK (λk (b:List By)=>(b,(k:Int),())) (zjy s) (λb x=>b++[zCO x]) (λb=>.inl (b,())) (λk b=>b.length<=k) (λk hk b hI=>?_) (λb _=>?_) [] (by simp)) ?_;·refine ⟨?_,by simpa using hI⟩;have:=zCi (yAy hk);simp only[zao,hk,decide_true,zac,zan hk,zaa,zaf hk (by omega),L157 n (show ((zjy s)[k]).length<=1000000000 by omega)];rw[zbc (by simp[lim];omega)];rfl
 ·simp[zao,zab]
 ·have hp:=zCa h;unfold zCk at hp;rw[zCo];simp only[yBb,zaj];rw[L219 (n+1) (by rw[yBi];omega) (by omega)];rfl
theorem s231(n:Nat){s:By}(h:s.length<=200):m231 (zah (n+2)) s=some (zCk s,()):=by
 unfold m231;rw[L227 n (by omega)];simp only[zaa];have hs:=zjx s;refine zps (zcK (λk (b:List By)=>(b,(k:Int),())) (zjy s) (λb x=>b++[zCO x]) (λb=>.inl (b,())) (λk b=>b.length<=k) (λk hk b hI=>?_) (λb _=>?_) [] (by simp)) ?_;·refine ⟨?_,by simpa using hI⟩;have:=zCi (yAy hk);simp only[zao,hk,decide_true,zac,zan hk,zaa,zaf hk (by omega),L232 n (show ((zjy s)[k]).length<=1000000000 by omega)];rw[zbc (by simp[lim];omega)];rfl
 ·simp[zao,zab]
 ·have hp:=zCa h;unfold zCk at hp;rw[zCo];simp only[yBb,zaj];rw[L219 (n+1) (by rw[yBi];omega) (by omega)];rfl
theorem L156(n:Nat){s:By}(h:s.length<=200): @Eq (Option (By×J)) ((zah (n+3)).d 156 [.str s] [.str]) (some (zCk s,())):=(q156 (n+2) _).trans (s156 n h)
theorem L231(n:Nat){s:By}(h:s.length<=200): @Eq (Option (By×J)) ((zah (n+3)).d 231 [.str s] [.str]) (some (zCk s,())):=(q231 (n+2) _).trans (s231 n h)
def zCP(s:By):By:=bif s != [] then zCk s++[47] else []
def zDp(k s:By):By:=(([112,107,103,58]++k)++[47])++zCP s
def zDg(p:Gt.K3):By:=zDp p.kind p.Kz++zCO p.name
theorem s118(n:Nat){p:Gt.K3}(T:Tiny p)(hk:p.kind.length<=10):m118 (zah (n+3)) p=some (zDg p,()):=by
 have h1:=zCa T.Kz;have h2:=T.name;have h3:=zCq p.name;have h4:=T.Kz;unfold m118 zDg zDp zCP;rw[zbc (by simp[lim];omega)];simp only[zaa];rw[zbc (by simp[lim];omega)];simp only[zaa];cases (p.Kz != []) with
 |true =>simp only[zac,cond_true];rw[L156 n h4];simp only[zaa];rw[zbc (by simp[lim];omega)];simp only[zaa];rw[zbc (by simp[lim];omega)];simp only[zaa,zaj];rw[L157 (n+1) (by omega)];simp only[zaa];rw[zbc (by simp[lim];omega)];rfl|false =>simp only[zab,cond_false,zaj];rw[L157 (n+1) (by omega)];simp only[zaa];rw[zbc (by simp[lim];omega)];simp[zaa]
theorem L118(n:Nat){p:Gt.K3}(T:Tiny p)(hk:p.kind.length<=10): @Eq (Option (By×J)) ((zah (n+4)).d 118 [.st 11 p] [.str]) (some (zDg p,())):=(q118 (n+3) _).trans (s118 n T hk)
theorem zDo{k:By}(h:(zea k).2.1=0):k.length<=10:=by
 unfold zea at h;split at h
 ·rename_i r hr;unfold zqi at hr
  repeat' split at hr
  all_goals first
   |cases hr;done
   |(subst_vars;decide)
 ·cases h
theorem zCh{p:Gt.K3}(h:zdS p=0):p.kind.length<=10:=by
 unfold zdS at h;cases h1:((zea p.kind).2.1 != 0) with
 |true=>rw[h1] at h;simp only[cond_true] at h;rw[h] at h1;cases h1|false=>exact zDo (by simpa using h1)
theorem s167(n:Nat){k s nm:By}(hk:k.length<=10)(hs:s.length<=200)(hn:nm.length<=200):m167 (zah (n+3)) (Gt.K3.mk k s nm [] [] [])=some (zDg (Gt.K3.mk k s nm [] [] []),()):=by
 have h1:=zCa hs;have h3:=zCq nm;unfold m167 zDg zDp zCP;dsimp only;rw[zbc (by simp[lim];omega)];simp only[zaa];rw[zbc (by simp[lim];omega)];simp only[zaa];have fin:∀t:By,zaE (σ:=By×J) (R:=By×J) (zak (σ:=By×Int×J) (R:=(By×J)⊕(By×J)) (λt13=>br (decide (t13.2.1<len ([]:List Gt.Pair))) none (some (.inr (.inl (t13.1,()))))) (t,0,())) (λt22=>some (t22.1,()))=some (t,()):=λt=>by rw[zaD (r:= .inl (t,())) rfl];rfl
 cases (s != []) with
 |true =>simp only[zac,cond_true];rw[L231 n hs];simp only[zaa];rw[zbc (by simp[lim];omega)];simp only[zaa];rw[zbc (by simp[lim];omega)];simp only[zaa,zaj];rw[L232 (n+1) (by omega)];simp only[zaa];rw[zbc (by simp[lim];omega)];simp only[zaa];rw[show (([]:By) != [])=false from rfl];simp only[zab,zaj];rw[zaD (r:= .inl (_,())) rfl];rfl|false =>simp only[zab,cond_false,zaj];rw[L232 (n+1) (by omega)];simp only[zaa];rw[zbc (by simp[lim];omega)];simp only[zaa];rw[show (([]:By) != [])=false from rfl];simp only[zab,zaj];rw[zaD (r:= .inl (_,())) rfl];simp[zaj]
theorem L167(n:Nat){k s nm:By}(hk:k.length<=10)(hs:s.length<=200)(hn:nm.length<=200): @Eq (Option (By×J)) ((zah (n+4)).d 167 [.st 11 (Gt.K3.mk k s nm [] [] [])] [.str]) (some (zDg (Gt.K3.mk k s nm [] [] []),())):=(q167 (n+3) _).trans (s167 n hk hs hn)
def zCZ(p:Gt.K3):By×Int×J:=bif zdS p != 0 then ([],zdS p,()) else (zDg (zyD p),0,())
theorem L121(n:Nat){p:Gt.K3}(h:zdS p=0): @Eq (Option (By×J)) ((zah (n+5)).d 121 [.st 11 p] [.str]) (some (zDg (zyD p),())):=by have T:=zyC h;have T':=zBz T;refine (q121 (n+4) p).trans ?_;unfold m121;rw[L166 n T,zaa];dsimp only;rw[L167 n (k:=(zyD p).kind) (zCh (p:=p) h) T'.Kz T'.name,zaa];rfl
theorem L76(n:Nat){p:Gt.K3}(h:p.Kf.length<=1000000000): @Eq (Option (By×Int×J)) ((zah (n+6)).d 76 [.st 11 p] [.str,I6]) (some (zCZ p)):=by
 refine (q76 (n+5) p).trans ?_;unfold m76 zCZ;rw[L117 (n+1) h,zaa];dsimp only;cases hc:zdS p != 0 with
 |true=>rfl|false =>have h0:zdS p=0:=(by simpa using hc);rw[zab,L119 (n+1) (zyC h0),zaa];dsimp only;rw[L118 (n+1) (zBz (zyC h0)) (show (zyD p).kind.length<=10 from zCh (p:=p) h0),zaa];rfl
theorem L77(n:Nat){p:Gt.K3}(h:p.Kf.length<=1000000000): @Eq (Option (By×Int×J)) ((zah (n+6)).d 77 [.st 11 p] [.str,I6]) (some (zCZ p)):=by
 refine (q77 (n+5) p).trans ?_;unfold m77 zCZ;rw[L120 (n+1) h,zaa];dsimp only;cases hc:zdS p != 0 with
 |true=>rfl|false =>have h0:zdS p=0:=(by simpa using hc);rw[zab,L121 n h0,zaa];rfl
end Pe.Tryz
end
