/- PROVED HERE: a part of the seat's proofs; see the text that holds the claim's theorem. -/
import Derived.Test.YtdmdigejjdianaaGreatDoorNm
import Derived.Test.YtdmdigejjdianaaGreatDoorPtE
section
/- What a name's text is read as: plain lists of bytes. -/
set_option maxRecDepth 100000
namespace Pe.Tryz
open Go Go.Proofs Pe Pe.Told
abbrev B:=List UInt8
section
variable{s l r:B}{c:UInt8}
end
end Pe.Tryz
end
section
/- The canonical form of a right name is right, and its own canonical form. -/
set_option maxRecDepth 100000
namespace Pe.Tryz
open Go Go.Proofs Pe Pe.Told
def zjA(b:UInt8):List B->List B|[]=>[[b]]|x::r=>(b::x)::r
def zeM(c:UInt8):B->List B|[]=>[[]]|b::l=>bif b==c then []::zeM c l else zjA b (zeM c l)
theorem zkp(c:UInt8):∀s:B,Lib.splitK [c] 0 (s.count c) s=zeM c s
 |[]=>rfl|b::l=>by
   have ih:=zkp c l;by_cases h:b=c
   ·subst h;have hix:Lib.index (b::l) [b]=0:=by rw[Lib.index];simp[List.isPrefixOf]
    rw[List.count_cons_self,Lib.splitK,hix];simp[zeM,ih]
   ·have hp:([c]:List UInt8).isPrefixOf (b::l)=false:=(by simp[List.isPrefixOf,Ne.symm h]);have hix:Lib.index (b::l) [c]=if Lib.index l [c]== -1 then -1 else Lib.index l [c]+1:=by rw[Lib.index,hp];simp
    have hb:(b==c)=false:=(by simpa using h);rw[List.count_cons_of_ne h];simp only[zeM,hb,cond_false];rw[<-ih];cases hk:l.count c with
    |zero=>rfl|succ k =>
      rw[Lib.splitK,Lib.splitK,hix];by_cases hm:Lib.index l [c]= -1;·simp[hm,zjA]
      ·have hge:=Lib.index_ge l [c];obtain ⟨j,hj⟩:∃j:Nat,Lib.index l [c]=j:=⟨(Lib.index l [c]).toNat,by omega⟩;rw[if_neg (λe=>hm (beq_iff_eq.1 e)),hj];have e1:((((j:Nat):Int)+1== -1)=false):=(by rw[beq_eq_false_iff_ne];omega);have e2:((((j:Nat):Int)== -1)=false):=(by rw[beq_eq_false_iff_ne];omega);rw[e1,e2];rw[show (((j:Nat):Int)+1).toNat=j+1 by omega,show (((j:Nat):Int)).toNat=j by omega];simp[zjA]
theorem zko(c:UInt8)(s:B):zbN c s=zeM c s:=by unfold zbN;rw[Lib.splitB_data];have e:Lib.countB ⟨s.toArray⟩ ⟨#[c]⟩=s.count c:=Lib.count_one c s;rw[e];exact zkp c s
theorem zo1(c:UInt8):low (low c)=low c:=eq8 (f:=λc=>low (low c)) (g:=low) (by decide+kernel) c
theorem zok(c:UInt8):(low c==47)=(c==47):=eq8 (f:=λc=>(low c==47)) (g:=λc=>(c==47)) (by decide+kernel) c
theorem zmu(c:UInt8):ctl (low c)=ctl c:=eq8 (f:=λc=>ctl (low c)) (g:=ctl) (by decide+kernel) c
theorem znP(c:UInt8):zbJ (low c)=zbJ c:=eq8 (f:=λc=>zbJ (low c)) (g:=zbJ) (by decide+kernel) c
theorem zjP(s:B):zaW (zaW s)=zaW s:=by simp[zaW,zo1]
theorem zdS(s:B):(zaW s==[])=(s==[]):=by cases s<;>rfl
theorem zl2(s:B):(zaW s).any ctl=s.any ctl:=by unfold zaW;rw[List.any_map];congr 1;funext c;exact zmu c
theorem zfK:∀(b:Bool)(s:B),zaW (zce b s)=zce b (zaW s)
 |_,[]=>rfl|b,c::r=>by
   have h1:=zfK true r;have h2:=zfK false r;simp only[zaW,yAk] at h1 h2 ⊢;unfold zce;rw[znP];cases zbJ c with
   |true=>cases b<;>simp[h1,show low 45=45 from rfl]|false=>simp[h2]
theorem zgZ:∀(b:Bool)(s:B),zce b (zce b s)=zce b s
 |_,[]=>rfl|b,c::r=>by
   have h1:=zgZ true r;have h2:=zgZ false r;rw[zce];cases hc:zbJ c with
   |true =>
     cases b with
     |true=>simp only[cond_true,yAZ,h1]|false=>simp only[cond_true,cond_false,yAN,yAZ,zce,show zbJ 45=true from rfl,h1]
   |false=>simp only[cond_false,zce,hc,h2]
theorem zk4(s:B):(zce false s==[])=(s==[]):=by
 cases s with
 |nil=>rfl|cons c r=>unfold zce;cases zbJ c<;>rfl
theorem zil:∀(b:Bool)(s:B)(x:UInt8),x∈zce b s->x=45\/x∈s
 |_,[],x,h=>by cases h
 |b,c::r,x,h=>by
   unfold zce at h;cases hc:zbJ c with
   |true =>
     rw[hc] at h;simp only[cond_true,yAm] at h;rcases h with h|h
     ·left;cases b with
      |true=>cases h|false=>simpa using h
     ·rcases zil true r x h with h|h;·exact .inl h
      ·exact .inr (yAY _ h)
   |false =>
     rw[hc] at h;simp only[cond_false,yAp] at h;rcases h with rfl|h;·exact .inr (List.mem_cons_self ..)
     ·rcases zil false r x h with h|h;·exact .inl h
      ·exact .inr (yAY _ h)
theorem zk5{p:UInt8->Bool}(hp:p 45=false){b:Bool}{s:B}(h:s.any p=false):(zce b s).any p=false:=by
 rw[yBt] at *
 intro x hx;rcases zil b s x hx with rfl|h2;·simp[hp]
 ·exact h x h2
theorem zgO(c:UInt8):∀s:B,decide (0<=Lib.indexByte s c)=s.any (· ==c)
 |[]=>rfl|b::l=>by
   have ih:=zgO c l;have hge:=Lib.indexByte_ge l c;unfold Lib.indexByte;rw[yCa,<-ih];cases hb:(b==c) with
   |true=>simp|false =>
     simp only[Bool.false_or,Bool.false_eq_true,if_false];by_cases h:Lib.indexByte l c= -1;·rw[if_pos (by simpa using h),h]
     ·rw[if_neg (by simpa using h),decide_eq_true (by omega),decide_eq_true (by omega)]
theorem zlL(g:UInt8->UInt8)(b:UInt8)(l:List B):zjA (g b) (l.map (List.map g))=(zjA b l).map (List.map g):=by cases l<;>rfl
theorem zgp:∀s:B,zeM 47 (zaW s)=(zeM 47 s).map zaW
 |[]=>rfl|c::r=>by
   have ih:=zgp r;simp only[zaW,yAk] at ih ⊢;unfold zeM;rw[zok,ih];cases (c==47) with
   |true=>simp[zaW]|false=>exact zlL low c _
theorem zll(s:B):zem (zaW s)=(zem s).map zaW:=by
 unfold zem;rw[zdS];cases (s==[]) with
 |true=>rfl|false=>simp only[cond_false];rw[zko,zko,zgp]
theorem zlw(s:B):za1 (zem (zaW s)) false=za1 (zem s) false:=by
 rw[zll];unfold za1;have:((zem s).map zaW).any (zfU false)=(zem s).any (zfU false):=by rw[List.any_map];congr 1;funext x;simp only[Function.comp_def,zfU,zdS,cond_false]
 have h2:len ((zem s).map zaW)=len (zem s):=by simp[len]
 rw[this];simp only[h2]
theorem zlM{p:Gt.Purl}:zbf p=0↔(za2 p.kind).2.1=0/\zdK p=false/\zcg (za2 p.kind).1 p=false/\za1 (zem p.space) false=false/\zds p=false/\qE p.qualifiers=0/\za1 (zem p.sub) true=false/\zor p=false/\zpf p=false:=by
 unfold zbf;generalize (za2 p.kind).2.1=a;generalize zcg (za2 p.kind).1 p=b;generalize za1 (zem p.space) false=c;generalize za1 (zem p.sub) true=d;generalize qE p.qualifiers=e;by_cases ha:a=0
 ·subst ha;by_cases he:e=0;·subst he;cases zdK p<;>cases b<;>cases c<;>cases zds p<;>cases d<;>cases zor p<;>cases zpf p<;>simp
  ·have:(e != 0)=true:=by simpa using he
   rw[this];cases zdK p<;>cases b<;>cases c<;>cases zds p<;>simp[he]
 ·have:(a != 0)=true:=by simpa using ha
  rw[this];simp[ha]
theorem zhQ{s:B}(h:s.length<=200):big s=false:=decide_eq_false (by unfold len;omega)
theorem zmz{p:Gt.Purl}(T:Tiny p):zdK p=false:=by unfold zdK;rw[show (zeC p).any big=false by simp[zeC,zhQ T.space,zhQ T.name,zhQ T.version,zhQ T.sub]];simp only[cond_false];rw[show p.qualifiers.any ze2=false by rw[yBt];intro q hq;have:=T.each q hq;simp[ze2,zhQ this.1,zhQ this.2]];simp only[cond_false];exact decide_eq_false (by have:=T.quals;unfold len;omega)
theorem zhO(p:Gt.Purl){pr:UInt8->Bool}(h45:pr 45=false)(hl:∀c,pr (low c)=pr c)(h:p.name.any pr=false):(zaV p).name.any pr=false:=by
 have hs:(zaW p.name).any pr=false:=by unfold zaW;rw[List.any_map,<-h];congr 1;funext c;exact hl c
 unfold zaV;cases (za2 p.kind).1.small<;>cases (za2 p.kind).1.dashes;·exact h
 ·exact zk5 h45 h
 ·exact hs
 ·exact zk5 h45 hs
theorem zkf{p:Gt.Purl}(h:zbf p=0):zbf (zaV p)=0:=by
 have T:=zef h;rw[zlM] at h ⊢;obtain ⟨h1,h2,h3,h4,h5,h6,h7,h8,h9⟩:=h;have hsp:((zaV p).space==[])=(p.space==[]):=by
  unfold zaV;cases (za2 p.kind).1.small;·rfl
  ·exact zdS _
 have hna:((zaV p).name==[])=(p.name==[]):=by
  unfold zaV;cases (za2 p.kind).1.small<;>cases (za2 p.kind).1.dashes;·rfl
  ·exact zk4 _
  ·exact zdS _
  ·exact (zk4 _).trans (zdS _)
 refine ⟨h1,zmz (zlg T),?_,?_,?_,h6,h7,?_,h9⟩
 ·have e:zcg (za2 (zaV p).kind).1 (zaV p)=zcg (za2 p.kind).1 p:=by
   unfold zcg;rw[show ((zaV p).space != [])=(p.space != []) from congrArg (!·) hsp,hsp];rfl
  rw[e];exact h3
 ·unfold zaV;cases (za2 p.kind).1.small;·exact h4
  ·exact (zlw _).trans h4
 ·unfold zds at h5 ⊢;rw[hna,zgO];rw[zgO] at h5;cases hn:(p.name==[]) with
  |true=>rw[hn] at h5;cases h5|false =>rw[hn] at h5;exact zhO p rfl (λc=>zok c) h5
 ·unfold zor zeC at h8 ⊢;simp only[yCa,List.any_nil,Bool.or_false,yBc] at h8 ⊢;refine ⟨?_,zhO p rfl zmu h8.2.1,h8.2.2⟩;unfold zaV;cases (za2 p.kind).1.small;·exact h8.1
  ·exact (zl2 _).trans h8.1
theorem zkg(p:Gt.Purl):zaV (zaV p)=zaV p:=by unfold zaV;cases (za2 p.kind).1.small<;>cases (za2 p.kind).1.dashes<;>simp[zjP,zfK,zgZ]
end Pe.Tryz
end
section
/- The law of canonical forms: the canonical form is right, its own canonical form, and the same name. -/
set_option maxRecDepth 100000
namespace Pe.Tryz
open Go Go.Proofs Pe Pe.Told
theorem zdz(x:List UInt8):zpV x x=0:=by
 unfold zpV;have:Op.bytesLess x x=false:=by rw[Go.Proofs.bytesLess_eq];simp
 rw[this];simp
theorem L39(n:Nat)(x y:List UInt8): @Eq (Option (Int×Unit)) ((zam (n+2)).d 39 [.str x,.str y] [(.int .i64)]) (some (zpV x y,())):=(q39 (n+1) _ _).trans (s39 n _ _)
theorem L44(n:Nat)(x:Int): @Eq (Option (Int×Unit)) ((zam (n+2)).d 44 [.int .i64 x,.int .i64 x] [(.int .i64)]) (some (0,())):=by have h:∀x,@Eq (Option (Bool×Unit)) ((zam (n+1)).d 69 [.int .i64 x] [.bool]) (some (false,())):=λx=>(q69 n x).trans (by unfold m69;simp);refine (q44 (n+1) x x).trans ?_;unfold m44;simp only[h,zaa,zal];simp[zal]
theorem L43a(n:Nat): @Eq (Option (Int×Unit)) ((zam (n+1)).d 43 [.sl (.int .i64) [(0:Int),(0:Int),(0:Int)]] [(.int .i64)]) (some (0,())):=by refine (q43 n _).trans ?_;unfold m43;rw[zb8 (y:=((1:Int),())) (by rfl),zb8 (y:=((2:Int),())) (by rfl),zb8 (y:=((3:Int),())) (by rfl),zco (r:= .inl ()) (by rfl)];rfl
theorem L43b(n:Nat): @Eq (Option (Int×Unit)) ((zam (n+1)).d 43 [.sl (.int .i64) [(0:Int),(0:Int)]] [(.int .i64)]) (some (0,())):=by refine (q43 n _).trans ?_;unfold m43;rw[zb8 (y:=((1:Int),())) (by rfl),zb8 (y:=((2:Int),())) (by rfl),zco (r:= .inl ()) (by rfl)];rfl
theorem L48(n:Nat)(a:Gt.Pair): @Eq (Option (Int×Unit)) ((zam (n+3)).d 48 [.st 5 a,.st 5 a] [(.int .i64)]) (some (0,())):=by refine (q48 (n+2) a a).trans ?_;unfold m48;rw[L39 n,zaa,L39 n,zaa];dsimp only;rw[zdz,zdz,L43b (n+1),zaa]
theorem L46(n:Nat)(k:Int)(v:List UInt8): @Eq (Option (Int×Unit)) ((zam (n+3)).d 46 [.int .i64 k,.str v,.str v] [(.int .i64)]) (some (0,())):=by
 refine (q46 (n+2) k v v).trans ?_;unfold m46;have e:(v==v)=true:=by simp
 rw[e];cases (v==[]) with
 |true =>simp only[zaN,zaa];rw[L39 n,zaa,zdz]|false =>simp only[zaN,zal,zaa];rw[L39 n,zaa,zdz]
def zkz(k:List UInt8):Int:=if zfb=k then 0 else if zdm=k then 1 else if zeL=k then 2 else if zbT=k then 3 else if zeT=k then 4 else -1
theorem zqm{a b:List UInt8}(h:¬a=b):(a==b)=false:=by simpa using h
theorem zp5(k:List UInt8):c45 k=some (zkz k,()):=by
 by_cases h1:zfb=k;·subst h1;kernel_rfl
 by_cases h2:zdm=k;·subst h2;kernel_rfl
 by_cases h3:zeL=k;·subst h3;kernel_rfl
 by_cases h4:zbT=k;·subst h4;kernel_rfl
 by_cases h5:zeT=k;·subst h5;kernel_rfl
 have hp:zkz k= -1:=by simp[zkz,h1,h2,h3,h4,h5]
 rw[hp];have e1:=zqm h1;have e2:=zqm h2;have e3:=zqm h3;have e4:=zqm h4;have e5:=zqm h5;simp only[zfb,zdm,zeL,zbT,zeT] at e1 e2 e3 e4 e5;simp[c45,c49,ob,itC,zhe,br,at?,IntKind.wrap,IntKind.bits,IntKind.signed,e1,e2,e3,e4,e5,zaS]
theorem L45(n:Nat)(k:List UInt8):(zam (n+2)).d 45 [.str k] [(.int .i64)]=some (zkz k,()):=zox n k _ (zp5 k)
theorem L21(n:Nat)(c:Gt.Purl)(h:c.qualifiers.length<=1000000000): @Eq (Option (Int×Unit)) ((zam (n+4)).d 21 [.st 6 c,.st 6 c] [(.int .i64)]) (some (0,())):=by
 refine (q21 (n+3) c c).trans ?_;unfold m21;rw[L23 n,zaa,L45 (n+1),zaa,zaa];dsimp only;rw[L44 (n+1),zaa,L39 (n+1),zaa,L39 (n+1),zaa];dsimp only;rw[zdz,zdz,L43a (n+2),zaa];dsimp only;rw[show ((0:Int) != 0)=false from rfl,zal,L46 n,zaa];dsimp only;rw[show ((0:Int) != 0)=false from rfl,zal];have hL:zav (σ:=Int×Unit) (R:=Unit⊕(Int×Unit)) (λ(t10:Int×Unit)=>(br (decide (t10.1<(len (Gt.Purl.qualifiers c)))) (ob (at? (Gt.Purl.qualifiers c) t10.1) λy11=>(br (decide ((len (Gt.Purl.qualifiers c))<=t10.1)) (some (.inr (.inr (1,())))) (ob (at? (Gt.Purl.qualifiers c) t10.1) λy12=>(ob (α:=Int×Unit) ((zam (n+3)).d 48 [.st 5 y11,.st 5 y12] [(.int .i64)]) λ(r13:Int×Unit)=>(br (r13.1 != 0) (some (.inr (.inr (r13.1,())))) (some (.inl ((IntKind.i64.wrap (t10.1+1)),())))))))) (some (.inr (.inl (())))))) (0,())=some (.inl ()):=by
  refine zmv (R:=Unit⊕(Int×Unit)) c.qualifiers.length (λ_=>.inl ()) (λk hk=>?_) 0 (yAF _);by_cases hlt:k<c.qualifiers.length;·left;refine ⟨hlt,?_,rfl⟩;dsimp only;rw[decide_eq_true (zaY.mpr hlt),zaN,za9 hlt,zaa,decide_eq_false (by simp only[len];omega),zal,zaa,zaF hlt (by omega)];refine (congrArg (λy:Option (Int×Unit)=>ob y _) (L48 n c.qualifiers[k])).trans ?_;rfl
  ·right;have:k=c.qualifiers.length:=by omega
   subst this;dsimp only;rw[decide_eq_false (by simp[len]),zal]
 rw[hL,zbC,decide_eq_false (by omega),zal,zaa];rw[L39 (n+1),zaa];dsimp only;rw[zdz,L43b (n+2),zaa]
theorem L20(n:Nat){a b:Gt.Purl}(ha:zbf a=0)(hb:zbf b=0)(h1:a.qualifiers.length<=1000000000)(h2:b.qualifiers.length<=1000000000): @Eq (Option (Int×Unit)) ((zam (n+5)).d 20 [.st 6 a,.st 6 b] [(.int .i64)]) (some (0,())):=by refine (q20 (n+4) a b).trans ?_;unfold m20;rw[L10 n h1,zaa];dsimp only;rw[ha,show ((0:Int) != 0)=false from rfl,zal,L10 n h2,zaa];dsimp only;rw[hb]
theorem L7(n:Nat){a b:Gt.Purl}(ha:zbf a=0)(hb:zbf b=0)(e:zaV a=zaV b)(hq:(zaV b).qualifiers.length<=1000000000)(h1:a.qualifiers.length<=1000000000)(h2:b.qualifiers.length<=1000000000): @Eq (Option (Int×Int×Unit)) ((zam (n+6)).d 7 [.st 6 a,.st 6 b] [(.int .i64),(.int .i64)]) (some (0,0,())):=by refine (q7 (n+5) a b).trans ?_;unfold m7;rw[L20 n ha hb h1 h2,zaa];dsimp only;rw[show ((0:Int) != 0)=false from rfl,zal,L11 (n+1) (zef ha),zaa,L11 (n+1) (zef hb),zaa,e];dsimp only;rw[L21 (n+1) _ hq,zaa]
theorem L8(n:Nat){a b:Gt.Purl}(ha:zbf a=0)(hb:zbf b=0)(e:zaV a=zaV b)(hq:(zaV b).qualifiers.length<=1000000000)(h1:a.qualifiers.length<=1000000000)(h2:b.qualifiers.length<=1000000000): @Eq (Option (Bool×Int×Unit)) ((zam (n+7)).d 8 [.st 6 a,.st 6 b] [.bool,(.int .i64)]) (some (true,0,())):=by refine (q8 (n+6) a b).trans ?_;unfold m8;rw[L7 n ha hb e hq h1 h2,zaa];rfl
theorem L22(n:Nat){q:List Gt.Pair}(h:q.length<=1000000000): @Eq (Option (Bool×Unit)) ((zam (n+1)).d 22 [.sl (.st 5) q,.sl (.st 5) q] [.bool]) (some (true,())):=by
 refine (q22 n q q).trans ?_;unfold m22;have hL:zav (σ:=Int×Unit) (R:=Unit⊕(Bool×Unit)) (λ(t1:Int×Unit)=>(br (decide (t1.1<(len q))) (ob (at? q t1.1) λy2=>(ob (at? q t1.1) λy3=>(br (!(((Gt.Pair.name y2)==(Gt.Pair.name y3))&&(((Gt.Pair.value y2)==(Gt.Pair.value y3))&&true))) (some (.inr (.inr (false,())))) (some (.inl ((IntKind.i64.wrap (t1.1+1)),())))))) (some (.inr (.inl (())))))) (0,())=some (.inl ()):=by
  refine zmv (R:=Unit⊕(Bool×Unit)) q.length (λ_=>.inl ()) (λk hk=>?_) 0 (yAF _);by_cases hlt:k<q.length;·left;refine ⟨hlt,?_,rfl⟩;dsimp only;rw[decide_eq_true (zaY.mpr hlt),zaN,za9 hlt,zaa,zaa,zaF hlt (by omega)];simp[zal]
  ·right;have:k=q.length:=by omega
   subst this;dsimp only;rw[decide_eq_false (by simp[len]),zal]
 rw[hL];simp[zal,zbC]
theorem L9(n:Nat){a:Gt.Purl}(h:a.qualifiers.length<=1000000000): @Eq (Option (Bool×Unit)) ((zam (n+2)).d 9 [.st 6 a,.st 6 a] [.bool]) (some (true,())):=by refine (q9 (n+1) a a).trans ?_;unfold m9;simp only[beq_self_eq_true,zaN,zaa];rw[L22 n h,zaa,zaa]
theorem L3(n:Nat){p:Gt.Purl}(h:p.qualifiers.length<=1000000000):m3 (zam (n+7)) p=some (true,()):=by
 unfold m3;rw[L4 (n+2) h,zaa];unfold zk6;cases hc:(zbf p != 0) with
 |true =>rw[cond_true];dsimp only;rw[hc,zaN,L5 (n+3) h,zaa];dsimp only;rw[show (zbf p==zbf p)=true by simp,zaN,told n];rfl|false =>have h0:zbf p=0:=(by simpa using hc);have hq:(zaV p).qualifiers.length<=1000000000:=h;have h1:=zkf h0;have h2:=zkg p;have hq2:(zaV (zaV p)).qualifiers.length<=1000000000:=h;rw[cond_false];dsimp only;rw[show ((0:Int) != 0)=false from rfl,zal,L4 (n+2) hq,zaa,L7 (n+1) h1 h0 h2 hq hq h,zaa,L8 n h0 h1 h2.symm hq2 h hq,zaa];unfold zk6;rw[h1,show ((0:Int) != 0)=false from rfl,cond_false,h2];dsimp only;rw[show ((0:Int)==0)=true from rfl];simp only[zaN];rw[L9 (n+5) hq,zaa,zaa];simp only[zaN];rw[L10 (n+3) hq,zaa,zaa,h1];simp only[show ((0:Int)==0)=true from rfl,zaN,zaa];rw[told n,zaa,zaa]
end Pe.Tryz
end
