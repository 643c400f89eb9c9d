/- PROVED HERE: a part of the seat's proofs; see the text that holds the claim's theorem. -/
import Derived.Test.YtbkjohfobibmlaaGreatDoorNm
import Derived.Test.YtbkjohfobibmlaaGreatDoorPtE
import Derived.Test.YtbkjohfobibmlaaGreatDoorPtC
section
/- What a name's text is read as: plain lists of bytes. -/
set_option maxRecDepth 100000
namespace Pe.Tryz
open Go Go.Proofs Pe Pe.Told
abbrev B:=List UInt8
def P(s l:B):Nat:=s.length - l.length
section
variable{s l r:B}{c:UInt8}
theorem zel(h:l <:+ s):P s l+l.length=s.length:=by have:=h.length_le;unfold P;omega
theorem zpc(h:l <:+ s)(k:Nat):s[P s l+k]?=l[k]? :=by
 obtain ⟨X,rfl⟩:=h;have:P (X++l) l=X.length:=by simp[P]
 rw[this,yAz (by omega),yAS]
theorem zde(h:l <:+ s)(k:Nat):at? s ((P s l+k:Nat):Int)=l[k]? :=by rw[zhg,zpc h]
theorem zft(h:l <:+ s):at? s ((P s l:Nat):Int)=l[0]? :=zde h 0
theorem zfS(h:l <:+ s)(k:Nat):decide (((P s l+k:Nat):Int)<len s)=decide (k<l.length):=by have:=zel h;unfold len;congr 1;apply propext;omega
theorem zgM(h:l <:+ s):decide (((P s l:Nat):Int)<len s)=(l != []):=by have:=zfS h 0;rw[yBl] at this;rw[this];cases l<;>rfl
theorem ztI(h:l <:+ s):decide (len s<=((P s l:Nat):Int))=(l==[]):=by
 have h1:=zel h;unfold len;cases l with
 |nil=>rw[decide_eq_true (by simp at h1;omega)];rfl|cons c r=>rw[decide_eq_false (by simp at h1;omega)];rfl
theorem zgN(h:l <:+ s):(((P s l:Nat):Int)==len s)=(l==[]):=by
 have h1:=zel h;unfold len;cases l with
 |nil=>rw[show ((P s []:Nat):Int)=(s.length:Int) by simp at h1;omega];simp|cons c r =>
   have:((P s (c::r):Nat):Int)≠(s.length:Int):=by simp at h1;omega
   simp[this]
theorem za4(h:c::r <:+ s):r <:+ s:=(yAP c r).trans h
theorem zbt(h:c::r <:+ s):P s r=P s (c::r)+1:=by have h1:=zel h;have h2:=zel (za4 h);simp at h1;omega
theorem zuN(s l:B):P s l<=s.length:=Nat.sub_le _ _
theorem zsm(hs:s.length<=3000)(l:B)(k:Nat)(hk:k<=10):IntKind.i64.wrap (((P s l:Nat):Int)+(k:Int))=((P s l+k:Nat):Int):=by have:=zuN s l;rw[zbT (by omega) (by omega)];omega
theorem zbD(hs:s.length<=3000)(l:B):IntKind.i64.wrap (((P s l:Nat):Int)+1)=((P s l+1:Nat):Int):=zsm hs l 1 (by decide)
theorem zjd(hs:s.length<=3000)(l:B):IntKind.i64.wrap (((P s l:Nat):Int)+2)=((P s l+2:Nat):Int):=zsm hs l 2 (by decide)
theorem zrO(hs:s.length<=3000)(l:B):IntKind.i64.wrap (((P s l:Nat):Int)+3)=((P s l+3:Nat):Int):=zsm hs l 3 (by decide)
theorem zhO(h:l <:+ s)(h2:r <:+ l):zbu s ((P s l:Nat):Int) ((P s r:Nat):Int)=some (l.take (l.length - r.length)):=by
 have h1:=zel h;have h3:=zel (h2.trans h);have h4:=h2.length_le;rw[zdQ (by omega) (by omega)];obtain ⟨X,rfl⟩:=h;have:P (X++l) l=X.length:=by simp[P]
 rw[this,yBD,show P (X++l) r - X.length=l.length - r.length by omega]
end
def zc5(c:UInt8):Int:=bif decide (48<=c)&&decide (c<=57) then ((c - 48).toNat:Int) else bif decide (97<=c)&&decide (c<=102) then ((c - 97).toNat:Int)+10 else bif decide (65<=c)&&decide (c<=70) then ((c - 65).toNat:Int)+10 else -1
def zkL(c:UInt8):Bool:=decide (c<33)||decide (126<c)||c==47||c==64||c==63||c==35||c==38||c==61
def ztY(c d:UInt8):UInt8:=UInt8.ofNat (16*(zc5 c).toNat+(zc5 d).toNat)
theorem zmK(c:UInt8): -1<=zc5 c/\zc5 c<=15:=by have:=all8 (p:=λc=>decide (-1<=zc5 c)&&decide (zc5 c<=15)) (by decide+kernel) c;simpa using this
theorem zp4(c d:UInt8)(h1:¬zc5 c<0)(h2:¬zc5 d<0):IntKind.u8.wrap (IntKind.i64.wrap (IntKind.i64.wrap (16*zc5 c)+zc5 d))=((ztY c d).toNat:Int):=by
 have a:=zmK c;have b:=zmK d;obtain ⟨x,hx⟩:∃x:Nat,zc5 c=x:=⟨(zc5 c).toNat,by omega⟩;obtain ⟨y,hy⟩:∃y:Nat,zc5 d=y:=⟨(zc5 d).toNat,by omega⟩;have hx2:x<16:=by omega
 have hy2:y<16:=by omega
 unfold ztY;rw[hx,hy];have key:∀x:Fin 16,∀y:Fin 16,IntKind.u8.wrap (IntKind.i64.wrap (IntKind.i64.wrap (16*((x.val:Nat):Int))+((y.val:Nat):Int)))=((UInt8.ofNat (16*((x.val:Nat):Int).toNat+((y.val:Nat):Int).toNat)).toNat:Int):=by decide+kernel
 exact key ⟨x,hx2⟩ ⟨y,hy2⟩
inductive Oct where
 |stop
 |bad (e:B)
 |byte (c:UInt8) (r:B)
def zen:B->Oct
 |[]=>.stop|c::r=>bif c==37 then (match r with
    |[]=>.bad []|d::r1=>bif decide (zc5 d<0) then .bad (d::r1) else (match r1 with
      |[]=>.bad []|e::r2=>bif decide (zc5 e<0) then .bad (e::r2) else .byte (ztY d e) r2)) else bif zkL c then .stop else .byte c r
theorem zf7{l:B}:(∀e,zen l= .bad e->e <:+ l)/\∀c r,zen l= .byte c r->r <:+ l/\r.length<l.length:=by
 unfold zen;split;·exact ⟨λe h=>(by cases h),λc r h=>(by cases h)⟩
 ·rename_i c r;cases h0:(c==37) with
  |false =>
    simp only[cond_false];cases zkL c with
    |true=>exact ⟨λe h=>(by cases h),λc r h=>(by cases h)⟩|false=>exact ⟨λe h=>(by cases h),λc r h=>by cases h;exact ⟨yAP _ _,by simp⟩⟩
  |true =>
    simp only[cond_true];split;·exact ⟨λe h=>by cases h;exact yBQ,λc r h=>(by cases h)⟩
    ·rename_i d r1;cases decide (zc5 d<0) with
     |true=>exact ⟨λe h=>by cases h;exact yAP _ _,λc r h=>(by cases h)⟩|false =>
       simp only[cond_false];split;·exact ⟨λe h=>by cases h;exact yBQ,λc r h=>(by cases h)⟩
       ·rename_i e r2;cases decide (zc5 e<0) with
        |true=>exact ⟨λe h=>by cases h;exact (yAP _ _).trans (yAP _ _),λc r h=>(by cases h)⟩|false=>exact ⟨λe h=>(by cases h),λc r h=>by cases h;exact ⟨(yAP _ _).trans ((yAP _ _).trans (yAP _ _)),by simp;omega⟩⟩
def zj6:B->B->B⊕B|[],l=>.inl l|p::ps,d::l=>bif low d==p then zj6 ps l else .inr (d::l)|_::_,[]=>.inr []
def zex(l:B):B×B×Option B :=
 match l.takeWhile zcG,l.dropWhile zcG with
 |k::ks,c::r=>bif c==47 then (zaY (k::ks),r,none) else ([],c::r,some (c::r))|_,r=>([],r,some r)
end Pe.Tryz
end
section
/- The canonical form of a right name is right, and its own canonical form. -/
set_option maxRecDepth 100000
namespace Pe.Tryz
open Go Go.Proofs Pe Pe.Told
def zlY(b:UInt8):List B->List B|[]=>[[b]]|x::r=>(b::x)::r
def zfO(c:UInt8):B->List B|[]=>[[]]|b::l=>bif b==c then []::zfO c l else zlY b (zfO c l)
theorem zm2(c:UInt8):∀s:B,Lib.splitK [c] 0 (s.count c) s=zfO c s
 |[]=>rfl|b::l=>by
   have ih:=zm2 c l;by_cases h:b=c
   ·subst h;have hix:Lib.index (b::l) [b]=0:=by rw[Lib.index];simp[List.isPrefixOf]
    rw[List.count_cons_self,Lib.splitK,hix];simp[zfO,ih]
   ·have hp:([c]:List UInt8).isPrefixOf (b::l)=false:=(by simp[List.isPrefixOf,Ne.symm h]);have hix:Lib.index (b::l) [c]=if Lib.index l [c]== -1 then -1 else Lib.index l [c]+1:=by rw[Lib.index,hp];simp
    have hb:(b==c)=false:=(by simpa using h);rw[List.count_cons_of_ne h];simp only[zfO,hb,cond_false];rw[<-ih];cases hk:l.count c with
    |zero=>rfl|succ k =>
      rw[Lib.splitK,Lib.splitK,hix];by_cases hm:Lib.index l [c]= -1;·simp[hm,zlY]
      ·have hge:=Lib.index_ge l [c];obtain ⟨j,hj⟩:∃j:Nat,Lib.index l [c]=j:=⟨(Lib.index l [c]).toNat,by omega⟩;rw[if_neg (λe=>hm (beq_iff_eq.1 e)),hj];have e1:((((j:Nat):Int)+1== -1)=false):=(by rw[beq_eq_false_iff_ne];omega);have e2:((((j:Nat):Int)== -1)=false):=(by rw[beq_eq_false_iff_ne];omega);rw[e1,e2];rw[show (((j:Nat):Int)+1).toNat=j+1 by omega,show (((j:Nat):Int)).toNat=j by omega];simp[zlY]
theorem zm1(c:UInt8)(s:B):zb2 c s=zfO c s:=by unfold zb2;rw[Lib.splitB_data];have e:Lib.countB ⟨s.toArray⟩ ⟨#[c]⟩=s.count c:=Lib.count_one c s;rw[e];exact zm2 c s
theorem zr0(c:UInt8):(low c==47)=(c==47):=eq8 (f:=λc=>(low c==47)) (g:=λc=>(c==47)) (by decide+kernel) c
theorem zpM(c:UInt8):ctl (low c)=ctl c:=eq8 (f:=λc=>ctl (low c)) (g:=ctl) (by decide+kernel) c
theorem zeF(s:B):(zaY s==[])=(s==[]):=by cases s<;>rfl
theorem zo8(s:B):(zaY s).any ctl=s.any ctl:=by unfold zaY;rw[List.any_map];congr 1;funext c;exact zpM c
theorem znT(s:B):(zdv false s==[])=(s==[]):=by
 cases s with
 |nil=>rfl|cons c r=>unfold zdv;cases zcg c<;>rfl
theorem zkw:∀(b:Bool)(s:B)(x:UInt8),x∈zdv b s->x=45\/x∈s
 |_,[],x,h=>by cases h
 |b,c::r,x,h=>by
   unfold zdv at h;cases hc:zcg c with
   |true =>
     rw[hc] at h;simp only[cond_true,yAo] at h;rcases h with h|h
     ·left;cases b with
      |true=>cases h|false=>simpa using h
     ·rcases zkw true r x h with h|h;·exact .inl h
      ·exact .inr (yA5 _ h)
   |false =>
     rw[hc] at h;simp only[cond_false,yAn] at h;rcases h with rfl|h;·exact .inr (List.mem_cons_self ..)
     ·rcases zkw false r x h with h|h;·exact .inl h
      ·exact .inr (yA5 _ h)
theorem znU{p:UInt8->Bool}(hp:p 45=false){b:Bool}{s:B}(h:s.any p=false):(zdv b s).any p=false:=by
 rw[yBw] at *
 intro x hx;rcases zkw b s x hx with rfl|h2;·simp[hp]
 ·exact h x h2
theorem zgl(c:UInt8):∀s:B,decide (0<=Lib.indexByte s c)=s.any (· ==c)
 |[]=>rfl|b::l=>by
   have ih:=zgl c l;have hge:=Lib.indexByte_ge l c;unfold Lib.indexByte;rw[yCh,<-ih];cases hb:(b==c) with
   |true=>simp|false =>
     simp only[yB2,Bool.false_eq_true,if_false];by_cases h:Lib.indexByte l c= -1;·rw[if_pos (by simpa using h),h]
     ·rw[if_neg (by simpa using h),decide_eq_true (by omega),decide_eq_true (by omega)]
theorem zoI(g:UInt8->UInt8)(b:UInt8)(l:List B):zlY (g b) (l.map (List.map g))=(zlY b l).map (List.map g):=by cases l<;>rfl
theorem zh4:∀s:B,zfO 47 (zaY s)=(zfO 47 s).map zaY
 |[]=>rfl|c::r=>by
   have ih:=zh4 r;simp only[zaY,yAl] at ih ⊢;unfold zfO;rw[zr0,ih];cases (c==47) with
   |true=>simp[zaY]|false=>exact zoI low c _
theorem zob(s:B):zdf (zaY s)=(zdf s).map zaY:=by
 unfold zdf;rw[zeF];cases (s==[]) with
 |true=>rfl|false=>simp only[cond_false];rw[zm1,zm1,zh4]
theorem zoq(s:B):zbc (zdf (zaY s)) false=zbc (zdf s) false:=by
 rw[zob];unfold zbc;have:((zdf s).map zaY).any (zfU false)=(zdf s).any (zfU false):=by rw[List.any_map];congr 1;funext x;simp only[Function.comp_def,zfU,zeF,cond_false]
 have h2:len ((zdf s).map zaY)=len (zdf s):=by simp[len]
 rw[this];simp only[h2]
theorem zjL{p:Gt.Purl}:zcr p=0↔(zbk p.kind).2.1=0/\zev p=false/\zcE (zbk p.kind).1 p=false/\zbc (zdf p.space) false=false/\zdC p=false/\qE p.qualifiers=0/\zbc (zdf p.sub) true=false/\zr9 p=false/\zs7 p=false:=by
 unfold zcr;generalize (zbk p.kind).2.1=a;generalize zcE (zbk p.kind).1 p=b;generalize zbc (zdf p.space) false=c;generalize zbc (zdf p.sub) true=d;generalize qE p.qualifiers=e;by_cases ha:a=0
 ·subst ha;by_cases he:e=0;·subst he;cases zev p<;>cases b<;>cases c<;>cases zdC p<;>cases d<;>cases zr9 p<;>cases zs7 p<;>simp
  ·have:(e != 0)=true:=by simpa using he
   rw[this];cases zev p<;>cases b<;>cases c<;>cases zdC p<;>simp[he]
 ·have:(a != 0)=true:=by simpa using ha
  rw[this];simp[ha]
theorem zjQ{s:B}(h:s.length<=200):big s=false:=decide_eq_false (by unfold len;omega)
theorem zpQ{p:Gt.Purl}(T:Tiny p):zev p=false:=by unfold zev;rw[show (zfF p).any big=false by simp[zfF,zjQ T.space,zjQ T.name,zjQ T.version,zjQ T.sub]];simp only[cond_false];rw[show p.qualifiers.any zgg=false by rw[yBw];intro q hq;have:=T.each q hq;simp[zgg,zjQ this.1,zjQ this.2]];simp only[cond_false];exact decide_eq_false (by have:=T.quals;unfold len;omega)
theorem zjO(p:Gt.Purl){pr:UInt8->Bool}(h45:pr 45=false)(hl:∀c,pr (low c)=pr c)(h:p.name.any pr=false):(za7 p).name.any pr=false:=by
 have hs:(zaY p.name).any pr=false:=by unfold zaY;rw[List.any_map,<-h];congr 1;funext c;exact hl c
 unfold za7;cases (zbk p.kind).1.small<;>cases (zbk p.kind).1.dashes;·exact h
 ·exact znU h45 h
 ·exact hs
 ·exact znU h45 hs
theorem zmO{p:Gt.Purl}(h:zcr p=0):zcr (za7 p)=0:=by
 have T:=zhc h;rw[zjL] at h ⊢;obtain ⟨h1,h2,h3,h4,h5,h6,h7,h8,h9⟩:=h;have hsp:((za7 p).space==[])=(p.space==[]):=by
  unfold za7;cases (zbk p.kind).1.small;·rfl
  ·exact zeF _
 have hna:((za7 p).name==[])=(p.name==[]):=by
  unfold za7;cases (zbk p.kind).1.small<;>cases (zbk p.kind).1.dashes;·rfl
  ·exact znT _
  ·exact zeF _
  ·exact (znT _).trans (zeF _)
 refine ⟨h1,zpQ (zgG T),?_,?_,?_,h6,h7,?_,h9⟩
 ·have e:zcE (zbk (za7 p).kind).1 (za7 p)=zcE (zbk p.kind).1 p:=by
   unfold zcE;rw[show ((za7 p).space != [])=(p.space != []) from congrArg (!·) hsp,hsp];rfl
  rw[e];exact h3
 ·unfold za7;cases (zbk p.kind).1.small;·exact h4
  ·exact (zoq _).trans h4
 ·unfold zdC at h5 ⊢;rw[hna,zgl];rw[zgl] at h5;cases hn:(p.name==[]) with
  |true=>rw[hn] at h5;cases h5|false =>rw[hn] at h5;exact zjO p rfl (λc=>zr0 c) h5
 ·unfold zr9 zfF at h8 ⊢;simp only[yCh,List.any_nil,yCj,yBv] at h8 ⊢;refine ⟨?_,zjO p rfl zpM h8.2.1,h8.2.2⟩;unfold za7;cases (zbk p.kind).1.small;·exact h8.1
  ·exact (zo8 _).trans h8.1
end Pe.Tryz
end
section
/- What is printed of a right canonical name is read as that name. -/
set_option maxRecDepth 100000
namespace Pe.Tryz
open Go Go.Proofs Pe Pe.Told
theorem zf8{c:UInt8}{r:B}(h:(c==37)=false):zen (c::r)=bif zkL c then .stop else .byte c r:=by unfold zen;simp only[h,cond_false]
end Pe.Tryz
end
section
/- Names that come zmb: next to each other in a sorted list; at the place of an insertion. -/
set_option maxRecDepth 100000
namespace Pe.Tryz
open Go Go.Proofs Pe Pe.Told
def rIs(c:UInt8)(l:B):Bool×B:=match l with
 |[]=>(false,[])|d::r=>bif d==c then (true,r) else (false,d::r)
def fin{α:Type}(x:α×B×Option B):B:=match x.2.2 with
 |none=>x.2.1|some e=>e
def zlT{α:Type}(x:α×B×Option B):Bool:=x.2.2.isSome
theorem zt3{α:Type}{x:α×B×Option B}(h:x.2.2=none):fin x=x.2.1/\zlT x=false:=by unfold fin zlT;rw[h];exact ⟨rfl,rfl⟩
theorem zs3{α:Type}{x:α×B×Option B}{e:B}(h:x.2.2=some e):fin x=e/\zlT x=true:=by unfold fin zlT;rw[h];exact ⟨rfl,rfl⟩
end Pe.Tryz
end
section
/- The program's reader: what its functions answer. -/
set_option maxRecDepth 100000
namespace Pe.Tryz
open Go Go.Proofs Pe Pe.Told
abbrev RP:=Gt.Rd_
abbrev ER(α:Type):=Option (((RP×Unit)×α)⊕Unit)
def zhY(s:B)(e:Option B):Int:=match e with
 |none=> -1|some x=>((P s x:Nat):Int)
theorem zqd(s:B)(e:Option B):decide (zhY s e<0)=e.isNone:=by
 cases e with
 |none=>rfl|some x=>exact decide_eq_false (by unfold zhY;simp only;omega)
theorem zs5(s:B)(e:Option B):decide (0<=zhY s e)=e.isSome:=by
 cases e with
 |none=>rfl|some x=>exact decide_eq_true (by unfold zhY;simp only;omega)
theorem G106(n:Nat)(s:B)(a b:Int): @Eq (ER Unit) ((zal (n+1)).e 106 [.ptr 0 0,.int .i64 b] [98] [(.st 12)] ((Gt.Rd_.mk s a (-1),()):RP×Unit) [] [] 0) (some (.inl ((Gt.Rd_.mk s a b,()),()))):=by rw[q106];rfl
theorem G90e(n:Nat)(s:B)(a b:Int)(e:Option B): @Eq (ER Unit) ((zal (n+1)).e 106 [.ptr 0 0,.int .i64 b] [98] [(.st 12)] ((Gt.Rd_.mk s a (zhY s e),()):RP×Unit) [] [] 0) (some (.inl ((Gt.Rd_.mk s a (bif e.isNone then b else zhY s e),()),()))):=by rw[q106];unfold m106;dsimp only;rw[zqd];cases e<;>rfl
theorem s156(o:Orc Sx)(c:UInt8):m156 o (c.toNat:Int)=some (zc5 c,()) :=
 eq8 (f:=λc=>m156 o (c.toNat:Int)) (g:=λc=>some (zc5 c,())) (by kernel_rfl) c
theorem L156(n:Nat)(c:UInt8): @Eq (Option (Int×Unit)) ((zal (n+1)).d 156 [.int .u8 (c.toNat:Int)] [(.int .i64)]) (some (zc5 c,())):=(q156 n _).trans (s156 _ c)
theorem eq37(c:UInt8):((c.toNat:Int)==37)=(c==37):=eq8 (f:=λc=>((c.toNat:Int)==37)) (g:=λc=>(c==37)) (by decide+kernel) c
theorem ne37(c:UInt8):((c.toNat:Int) != 37)= !(c==37):=congrArg (!·) (eq37 c)
theorem zo4(c:UInt8):(bif (bif decide ((c.toNat:Int)<33) then true else decide (126<(c.toNat:Int))) then true else decide (0<=Lib.indexByte [47,64,63,35,38,61] (UInt8.ofNat (Int.toNat (c.toNat:Int)))))=zkL c :=
 eq8 (f:=λc=>bif (bif decide ((c.toNat:Int)<33) then true else decide (126<(c.toNat:Int))) then true else decide (0<=Lib.indexByte [47,64,63,35,38,61] (UInt8.ofNat (Int.toNat (c.toNat:Int))))) (g:=zkL) (by decide+kernel) c
theorem zmJ(c:UInt8):IntKind.i64.wrap ((IntKind.i64.wrap (16*0))+zc5 c)=zc5 c:=by have:=zmK c;rw[show IntKind.i64.wrap (16*0)=0 from rfl,Int.zero_add,zbT (by omega) (by omega)]
def zsK(s l:B):(RP×Unit)×(Int×Bool×Unit):=match zen l with
 | .stop=>((Gt.Rd_.mk s ((P s l:Nat):Int) (-1),()),(0,false,()))| .bad e=>((Gt.Rd_.mk s ((P s l:Nat):Int) ((P s e:Nat):Int),()),(0,false,()))| .byte c r=>((Gt.Rd_.mk s ((P s r:Nat):Int) (-1),()),((c.toNat:Int),true,()))
theorem zlm{s l:B}(h:zen l= .stop):zsK s l=((Gt.Rd_.mk s ((P s l:Nat):Int) (-1),()),(0,false,())):=by unfold zsK;rw[h]
theorem zf6{s l e:B}(h:zen l= .bad e):zsK s l=((Gt.Rd_.mk s ((P s l:Nat):Int) ((P s e:Nat):Int),()),(0,false,())):=by unfold zsK;rw[h]
theorem zir{s l r:B}{c:UInt8}(h:zen l= .byte c r):zsK s l=((Gt.Rd_.mk s ((P s r:Nat):Int) (-1),()),((c.toNat:Int),true,())):=by unfold zsK;rw[h]
theorem oct1{d:UInt8}{r:B}(hd:decide (zc5 d<0)=true):zen (37::d::r)= .bad (d::r):=by unfold zen;simp only[show ((37:UInt8)==37)=true from rfl,cond_true,hd]
theorem oct2{d:UInt8}(hd:decide (zc5 d<0)=false):zen [37,d]= .bad []:=by unfold zen;simp only[show ((37:UInt8)==37)=true from rfl,cond_true,cond_false,hd]
theorem oct3{d e:UInt8}{r:B}(hd:decide (zc5 d<0)=false)(he:decide (zc5 e<0)=true):zen (37::d::e::r)= .bad (e::r):=by unfold zen;simp only[show ((37:UInt8)==37)=true from rfl,cond_true,cond_false,hd,he]
theorem oct4{d e:UInt8}{r:B}(hd:decide (zc5 d<0)=false)(he:decide (zc5 e<0)=false):zen (37::d::e::r)= .byte (ztY d e) r:=by unfold zen;simp only[show ((37:UInt8)==37)=true from rfl,cond_true,cond_false,hd,he]
theorem G140(n:Nat){s l:B}(h:l <:+ s)(hs:s.length<=3000) :
  @Eq (ER (Int×Bool×Unit)) ((zal (n+2)).e 140 [.ptr 0 0] [98] [(.st 12)] ((Gt.Rd_.mk s ((P s l:Nat):Int) (-1),()):RP×Unit) [(.int .u8),.bool] [] 0) (some (.inl (zsK s l))):=by
 rw[q140];unfold m140;dsimp only;rw[ztI h];cases l with
 |nil=>rfl|cons c r =>
   rw[show ((c::r)==([]:B))=false from rfl,zab,zft h];simp only[yAC,zaa];rw[ne37];cases h37:(c==37) with
   |false =>
     simp only[yAU,zad,L47,zaa,zav,zo4];cases hst:zkL c with
     |true=>rw[zlm (by rw[zf8 h37,hst];rfl)];rfl|false =>rw[zir (r:=r) (c:=c) (by rw[zf8 h37,hst];rfl)];simp only[cond_false];rw[zbD hs,zbt h]
   |true =>
     obtain rfl:c=37:=by simpa using h37
     simp only[yA7,zab];have e1:=zbt h;have h1:=za4 h;cases r with
     |nil =>rw[zf6 (show zen [37]= .bad [] from rfl)];refine zaA (zao (r:= .inr (.inl ((Gt.Rd_.mk s ((P s [37]:Nat):Int) ((P s []:Nat):Int),()),(0,false,())))) ?_) rfl;dsimp only;rw[show decide ((1:Int)<=2)=true from rfl,zad,zbD hs,zfS h 1];simp only[yAi,yAZ,Nat.lt_irrefl,decide_false,yAH,zab,zai];rw[show decide ((-1:Int)<0)=true from rfl,zad,G106,zaH,e1]|cons d r1 =>
       have e2:=zbt h1;have h2:=za4 h1;cases hd:decide (zc5 d<0) with
       |true =>rw[zf6 (oct1 hd)];refine zaA (zao (r:= .inr (.inl ((Gt.Rd_.mk s ((P s (37::d::r1):Nat):Int) ((P s (d::r1):Nat):Int),()),(0,false,())))) ?_) rfl;dsimp only;rw[show decide ((1:Int)<=2)=true from rfl,zad,zbD hs,zfS h 1,zde h 1];simp only[yAi,show 1<r1.length+1+1 from by omega,decide_true,zad,yAN,yAC,zaa,L156,zai,hd];rw[G106,zaH,e1]|false =>
         have st1:∀{R:Type}(X:Option R)(Y:Option R),br (decide (zc5 d<0)) X Y=Y:=λX Y=>by rw[hd];rfl
         cases r1 with
         |nil =>
           rw[zf6 (oct2 hd)];refine zaA ((zay (y:=(zc5 d,2,s,((P s [37,d]:Nat):Int), -1,())) ?_).trans (zao (r:= .inr (.inl ((Gt.Rd_.mk s ((P s [37,d]:Nat):Int) ((P s []:Nat):Int),()),(0,false,())))) ?_)) rfl;·dsimp only;rw[show decide ((1:Int)<=2)=true from rfl,zad,zbD hs,zfS h 1,zde h 1];simp only[yAi,yAZ,show 1<0+1+1 from by omega,decide_true,zad,yAN,yAC,zaa,L156,zai,hd,zab,zmJ];rfl
           ·dsimp only;rw[show decide ((2:Int)<=2)=true from rfl,zad,zjd hs,zfS h 2];simp only[yAi,yAZ,show ¬2<0+1+1 from by omega,decide_false,zab,zai];rw[show decide ((-1:Int)<0)=true from rfl,zad,G106,zaH,e2,e1]
         |cons e r2 =>
           have e3:=zbt h2;cases he:decide (zc5 e<0) with
           |true =>
             rw[zf6 (oct3 hd he)];refine zaA ((zay (y:=(zc5 d,2,s,((P s (37::d::e::r2):Nat):Int), -1,())) ?_).trans (zao (r:= .inr (.inl ((Gt.Rd_.mk s ((P s (37::d::e::r2):Nat):Int) ((P s (e::r2):Nat):Int),()),(0,false,())))) ?_)) rfl;·dsimp only;rw[show decide ((1:Int)<=2)=true from rfl,zad,zbD hs,zfS h 1,zde h 1];simp only[yAi,show 1<r2.length+1+1+1 from by omega,decide_true,zad,yAN,yAC,zaa,L156,zai,hd,zab,zmJ];rfl
             ·dsimp only;rw[show decide ((2:Int)<=2)=true from rfl,zad,zjd hs,zfS h 2,zde h 2];simp only[yAi,show 2<r2.length+1+1+1 from by omega,decide_true,zad,yAN,yAC,zaa,L156,zai,he];rw[G106,zaH,e2,e1]
           |false =>
             rw[zir (oct4 hd he)];refine zaA ((zay (y:=(zc5 d,2,s,((P s (37::d::e::r2):Nat):Int), -1,())) ?_).trans ((zay (y:=(IntKind.i64.wrap ((IntKind.i64.wrap (16*zc5 d))+zc5 e),3,s,((P s (37::d::e::r2):Nat):Int), -1,())) ?_).trans (zao (r:= .inl (IntKind.i64.wrap ((IntKind.i64.wrap (16*zc5 d))+zc5 e),s,((P s (37::d::e::r2):Nat):Int), -1,())) ?_))) ?_;·dsimp only;rw[show decide ((1:Int)<=2)=true from rfl,zad,zbD hs,zfS h 1,zde h 1];simp only[yAi,show 1<r2.length+1+1+1 from by omega,decide_true,zad,yAN,yAC,zaa,L156,zai,hd,zab,zmJ];rfl
             ·dsimp only;rw[show decide ((2:Int)<=2)=true from rfl,zad,zjd hs,zfS h 2,zde h 2];simp only[yAi,show 2<r2.length+1+1+1 from by omega,decide_true,zad,yAN,yAC,zaa,L156,zai,he,zab];rfl
             ·rfl
             ·simp only[zai];rw[zrO hs,zp4 d e (of_decide_eq_false hd) (of_decide_eq_false he),e3,e2,e1]
def pk(l:B):Int:=match l with
 |[]=>0|c::_=>(c.toNat:Int)
def hdB(c:UInt8)(l:B):Bool:=match l with
 |[]=>false|d::_=>d==c
theorem zqM{s l:B}(h:l <:+ s):br (decide (((P s l:Nat):Int)<len s)) (ob (at? s ((P s l:Nat):Int)) λc=>some (((UInt8.toNat c:Nat):Int),())) (some (0,()))=some (pk l,()):=by rw[zgM h,zft h];cases l<;>rfl
theorem ztM(l:B):(pk l==47)=hdB 47 l:=by
 cases l with
 |nil=>rfl|cons c r=>exact eq8 (f:=λc=>((c.toNat:Int)==47)) (g:=λc=>(c==47)) (by decide+kernel) c
theorem pk64(l:B):(pk l==64)=hdB 64 l:=by
 cases l with
 |nil=>rfl|cons c r=>exact eq8 (f:=λc=>((c.toNat:Int)==64)) (g:=λc=>(c==64)) (by decide+kernel) c
theorem zbh{c:UInt8}{l:B}(h:hdB c l=true):∃r,l=c::r:=by
 cases l with
 |nil=>cases h
 | cons d r=>obtain rfl:d=c:=by simpa[hdB] using h
             exact ⟨r,rfl⟩
theorem zgD{R σ:Type}{f:σ->Option (σ⊕R)}(mk:Nat->σ)(out:Nat->R)(s:B)(p:UInt8->Bool)(k0:Nat)
  (h:∀c r,c::r <:+ s->k0<=P s (c::r)->f (mk (P s (c::r)))=bif p c then some (.inl (mk (P s r))) else some (.inr (out (P s (c::r)))))
  (he:f (mk (P s []))=some (.inr (out (P s [])))):∀l,l <:+ s->k0<=P s l->zau f (mk (P s l))=some (out (P s (l.dropWhile p)))
 |[],_,_=>zao he|c::r,hl,hk=>by
   have h1:=h c r hl hk;rw[List.dropWhile_cons];cases hc:p c with
   |false=>rw[hc] at h1;rw[zao h1];rfl|true =>rw[hc] at h1;rw[zay h1,zgD mk out s p k0 h he r (za4 hl) (by rw[zbt hl];omega)];rfl
end Pe.Tryz
end
section
/- The program's reader zsA names; Read of the program. -/
set_option maxRecDepth 100000
namespace Pe.Tryz
open Go Go.Proofs Pe Pe.Told
theorem znh:∀{ps l r:B},zj6 ps l= .inl r->ps.length<=l.length/\l.drop ps.length=r
 |[],l,r,h=>by cases h;exact ⟨by simp,rfl⟩
 |p::ps,[],r,h=>by cases h
 |p::ps,d::l,r,h=>by
   unfold zj6 at h;cases hd:(low d==p) with
   |false=>rw[hd] at h;cases h|true =>rw[hd] at h;obtain ⟨h1,h2⟩:=znh (ps:=ps) (l:=l) (r:=r) h;exact ⟨by simpa using h1,by simpa using h2⟩
theorem zng{R σ:Type}{f:σ->Option (σ⊕R)}(mk:Nat->σ)(bad:Nat->R)(ok:R)(s pat:B)
  (h:∀k p,pat[k]?=some p->k<=s.length->f (mk k)=match s[k]? with
   |none=>some (.inr (bad k))|some d=>bif low d==p then some (.inl (mk (k+1))) else some (.inr (bad k)))
  (he:f (mk pat.length)=some (.inr ok)):∀ps l k,pat.drop k=ps->s.drop k=l->k<=s.length->k<=pat.length->zau f (mk k)=some (match zj6 ps l with | .inl _=>ok | .inr e=>bad (P s e))
 |[],l,k,hp,hl,hk,hk2=>by have h0:=congrArg List.length hp;simp only[yAQ,yAZ] at h0;obtain rfl:k=pat.length:=(by omega);exact zao he
 |p::ps,l,k,hp,hl,hk,hk2=>by
   have h0:pat[k]?=some p:=(by have:=congrArg (·[0]?) hp;simpa[yAt] using this);have h0b:=congrArg List.length hp;simp only[yAQ,yAi] at h0b;have h1:=h k p h0 hk;have h2:=congrArg (·[0]?) hl;have h3:=congrArg List.length hl;simp only[yAt,yBl] at h2;rw[yAQ] at h3;rw[h2] at h1;cases l with
   |nil =>simp only[List.getElem?_nil] at h1;simp only[yAZ] at h3;rw[zao h1];simp only[zj6];congr 2;simp[P];omega|cons d r =>
     simp only[yAC] at h1;simp only[yAi] at h3;unfold zj6;cases hd:(low d==p) with
     |false =>rw[hd] at h1;rw[zao h1];simp only[cond_false];congr 2;simp[P];omega|true =>
       rw[hd] at h1;rw[zay h1];have hp':pat.drop (k+1)=ps:=by rw[<-yBj,hp];rfl
       have hl':s.drop (k+1)=r:=(by rw[<-yBj,hl];rfl);exact zng mk bad ok s pat h he ps r (k+1) hp' hl' (by omega) (by omega)
theorem take_one{l:B}{k:Nat}{d:UInt8}(h:l[k]?=some d):zbu l ((k:Nat):Int) ((k+1:Nat):Int)=some [d]:=by have hk:k<l.length:=(yAc.1 h).1;rw[zdQ (by omega) (by omega),yAS,yAI hk,(yAc.1 h).2];rfl
theorem zje{s l:B}{p:UInt8->Bool}(h:l <:+ s):zbu s ((P s l:Nat):Int) ((P s (l.dropWhile p):Nat):Int)=some (l.takeWhile p):=by have e:l.takeWhile p++l.dropWhile p=l:=List.takeWhile_append_dropWhile;rw[zhO h ⟨l.takeWhile p,e⟩];congr 1;have h3:=congrArg List.length e;rw[yAr] at h3;rw[show l.length - (l.dropWhile p).length=(l.takeWhile p).length by omega];exact (congrArg (List.take (l.takeWhile p).length) e.symm).trans (yBe ..)
end Pe.Tryz
end
