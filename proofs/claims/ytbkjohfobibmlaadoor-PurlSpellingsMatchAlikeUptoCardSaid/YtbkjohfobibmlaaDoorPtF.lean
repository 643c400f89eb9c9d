/- PROVED HERE: a part of the seat's proofs; see the text that holds the claim's theorem. -/
import Derived.Test.YtbkjohfobibmlaaDoorNm
import Derived.Test.YtbkjohfobibmlaaDoorPtE
import Derived.Test.YtbkjohfobibmlaaDoorPtC
section
/- What a name's text is read as: plain lists of bytes. -/
set_option maxRecDepth 100000
namespace Pe.Tryd
open Go Go.Proofs Pe Pe.Told
abbrev B:=List UInt8
def P(s l:B):Nat:=s.length - l.length
section
variable{s l r:B}{c:UInt8}
theorem zlC(h:l <:+ s):P s l+l.length=s.length:=by have:=h.length_le;unfold P;omega
theorem zqx(h:l <:+ s)(k:Nat):s[P s l+k]?=l[k]? :=by
 obtain ⟨X,rfl⟩:=h;have:P (X++l) l=X.length:=by simp[P]
 rw[this,yAA (by omega),yAL]
theorem zg7(h:l <:+ s)(k:Nat):at? s ((P s l+k:Nat):Int)=l[k]? :=by rw[zh3,zqx h]
theorem zk0(h:l <:+ s):at? s ((P s l:Nat):Int)=l[0]? :=zg7 h 0
theorem zfa(h:l <:+ s)(k:Nat):decide (((P s l+k:Nat):Int)<len s)=decide (k<l.length):=by have:=zlC h;unfold len;congr 1;apply propext;omega
theorem zfU(h:l <:+ s):decide (((P s l:Nat):Int)<len s)=(l != []):=by have:=zfa h 0;rw[yBl] at this;rw[this];cases l<;>rfl
theorem zrp(h:l <:+ s):decide (len s<=((P s l:Nat):Int))=(l==[]):=by
 have h1:=zlC h;unfold len;cases l with
 |nil=>rw[decide_eq_true (by simp at h1;omega)];rfl|cons c r=>rw[decide_eq_false (by simp at h1;omega)];rfl
theorem zqy(h:l <:+ s):(((P s l:Nat):Int)==len s)=(l==[]):=by
 have h1:=zlC h;unfold len;cases l with
 |nil=>rw[show ((P s []:Nat):Int)=(s.length:Int) by simp at h1;omega];simp|cons c r =>
   have:((P s (c::r):Nat):Int)≠(s.length:Int):=by simp at h1;omega
   simp[this]
theorem zcs(h:c::r <:+ s):r <:+ s:=(yAR c r).trans h
theorem zdv(h:c::r <:+ s):P s r=P s (c::r)+1:=by have h1:=zlC h;have h2:=zlC (zcs h);simp at h1;omega
theorem P_le(s l:B):P s l<=s.length:=Nat.sub_le _ _
theorem zqm(hs:s.length<=3000)(l:B)(k:Nat)(hk:k<=10):IntKind.i64.wrap (((P s l:Nat):Int)+(k:Int))=((P s l+k:Nat):Int):=by have:=P_le s l;rw[zdw (by omega) (by omega)];omega
theorem zdT(hs:s.length<=3000)(l:B):IntKind.i64.wrap (((P s l:Nat):Int)+1)=((P s l+1:Nat):Int):=zqm hs l 1 (by decide)
theorem zno(hs:s.length<=3000)(l:B):IntKind.i64.wrap (((P s l:Nat):Int)+2)=((P s l+2:Nat):Int):=zqm hs l 2 (by decide)
theorem zrk(hs:s.length<=3000)(l:B):IntKind.i64.wrap (((P s l:Nat):Int)+3)=((P s l+3:Nat):Int):=zqm hs l 3 (by decide)
theorem ziU(h:l <:+ s)(h2:r <:+ l):zbX s ((P s l:Nat):Int) ((P s r:Nat):Int)=some (l.take (l.length - r.length)):=by
 have h1:=zlC h;have h3:=zlC (h2.trans h);have h4:=h2.length_le;rw[zho (by omega) (by omega)];obtain ⟨X,rfl⟩:=h;have:P (X++l) l=X.length:=by simp[P]
 rw[this,yBs,show P (X++l) r - X.length=l.length - r.length by omega]
end
def zdO(c:UInt8):Int:=bif decide (48<=c)&&decide (c<=57) then ((c - 48).toNat:Int) else bif decide (97<=c)&&decide (c<=102) then ((c - 97).toNat:Int)+10 else bif decide (65<=c)&&decide (c<=70) then ((c - 65).toNat:Int)+10 else -1
def zmH(c:UInt8):Bool:=decide (c<33)||decide (126<c)||c==47||c==64||c==63||c==35||c==38||c==61
def hexB(c d:UInt8):UInt8:=UInt8.ofNat (16*(zdO c).toNat+(zdO d).toNat)
theorem zlq(c:UInt8): -1<=zdO c/\zdO c<=15:=by have:=all8 (p:=λc=>decide (-1<=zdO c)&&decide (zdO c<=15)) (by decide+kernel) c;simpa using this
theorem zqX(c d:UInt8)(h1:¬zdO c<0)(h2:¬zdO d<0):IntKind.u8.wrap (IntKind.i64.wrap (IntKind.i64.wrap (16*zdO c)+zdO d))=((hexB c d).toNat:Int):=by
 have a:=zlq c;have b:=zlq d;obtain ⟨x,hx⟩:∃x:Nat,zdO c=x:=⟨(zdO c).toNat,by omega⟩;obtain ⟨y,hy⟩:∃y:Nat,zdO d=y:=⟨(zdO d).toNat,by omega⟩;have hx2:x<16:=by omega
 have hy2:y<16:=by omega
 unfold hexB;rw[hx,hy];have key:∀x:Fin 16,∀y:Fin 16,IntKind.u8.wrap (IntKind.i64.wrap (IntKind.i64.wrap (16*((x.val:Nat):Int))+((y.val:Nat):Int)))=((UInt8.ofNat (16*((x.val:Nat):Int).toNat+((y.val:Nat):Int).toNat)).toNat:Int):=by decide+kernel
 exact key ⟨x,hx2⟩ ⟨y,hy2⟩
inductive Oct where
 |stop
 |bad (e:B)
 |byte (c:UInt8) (r:B)
def zhq:B->Oct
 |[]=>.stop|c::r=>bif c==37 then (match r with
    |[]=>.bad []|d::r1=>bif decide (zdO d<0) then .bad (d::r1) else (match r1 with
      |[]=>.bad []|e::r2=>bif decide (zdO e<0) then .bad (e::r2) else .byte (hexB d e) r2)) else bif zmH c then .stop else .byte c r
theorem zlZ{l:B}:(∀e,zhq l= .bad e->e <:+ l)/\∀c r,zhq l= .byte c r->r <:+ l/\r.length<l.length:=by
 unfold zhq;split;·exact ⟨λe h=>(by cases h),λc r h=>(by cases h)⟩
 ·rename_i c r;cases h0:(c==37) with
  |false =>
    simp only[cond_false];cases zmH c with
    |true=>exact ⟨λe h=>(by cases h),λc r h=>(by cases h)⟩|false=>exact ⟨λe h=>(by cases h),λc r h=>by cases h;exact ⟨yAR _ _,by simp⟩⟩
  |true =>
    simp only[cond_true];split;·exact ⟨λe h=>by cases h;exact yCd,λc r h=>(by cases h)⟩
    ·rename_i d r1;cases decide (zdO d<0) with
     |true=>exact ⟨λe h=>by cases h;exact yAR _ _,λc r h=>(by cases h)⟩|false =>
       simp only[cond_false];split;·exact ⟨λe h=>by cases h;exact yCd,λc r h=>(by cases h)⟩
       ·rename_i e r2;cases decide (zdO e<0) with
        |true=>exact ⟨λe h=>by cases h;exact (yAR _ _).trans (yAR _ _),λc r h=>(by cases h)⟩|false=>exact ⟨λe h=>(by cases h),λc r h=>by cases h;exact ⟨(yAR _ _).trans ((yAR _ _).trans (yAR _ _)),by simp;omega⟩⟩
def zpZ:B->B->B⊕B|[],l=>.inl l|p::ps,d::l=>bif low d==p then zpZ ps l else .inr (d::l)|_::_,[]=>.inr []
def zhB(l:B):B×B×Option B :=
 match l.takeWhile zjw,l.dropWhile zjw with
 |k::ks,c::r=>bif c==47 then (zaW (k::ks),r,none) else ([],c::r,some (c::r))|_,r=>([],r,some r)
end Pe.Tryd
end
section
/- The canonical form of a right name is right, and its own canonical form. -/
set_option maxRecDepth 100000
namespace Pe.Tryd
open Go Go.Proofs Pe Pe.Told
def zkJ(b:UInt8):List B->List B|[]=>[[b]]|x::r=>(b::x)::r
def ze8(c:UInt8):B->List B|[]=>[[]]|b::l=>bif b==c then []::ze8 c l else zkJ b (ze8 c l)
theorem zlJ(c:UInt8):∀s:B,Lib.splitK [c] 0 (s.count c) s=ze8 c s
 |[]=>rfl|b::l=>by
   have ih:=zlJ c l;by_cases h:b=c
   ·subst h;have hix:Lib.index (b::l) [b]=0:=by rw[Lib.index];simp[List.isPrefixOf]
    rw[List.count_cons_self,Lib.splitK,hix];simp[ze8,ih]
   ·have hp:([c]:List UInt8).isPrefixOf (b::l)=false:=(by simp[List.isPrefixOf,Ne.symm h]);have hix:Lib.index (b::l) [c]=if Lib.index l [c]== -1 then -1 else Lib.index l [c]+1:=by rw[Lib.index,hp];simp
    have hb:(b==c)=false:=(by simpa using h);rw[List.count_cons_of_ne h];simp only[ze8,hb,cond_false];rw[<-ih];cases hk:l.count c with
    |zero=>rfl|succ k =>
      rw[Lib.splitK,Lib.splitK,hix];by_cases hm:Lib.index l [c]= -1;·simp[hm,zkJ]
      ·have hge:=Lib.index_ge l [c];obtain ⟨j,hj⟩:∃j:Nat,Lib.index l [c]=j:=⟨(Lib.index l [c]).toNat,by omega⟩;rw[if_neg (λe=>hm (beq_iff_eq.1 e)),hj];have e1:((((j:Nat):Int)+1== -1)=false):=(by rw[beq_eq_false_iff_ne];omega);have e2:((((j:Nat):Int)== -1)=false):=(by rw[beq_eq_false_iff_ne];omega);rw[e1,e2];rw[show (((j:Nat):Int)+1).toNat=j+1 by omega,show (((j:Nat):Int)).toNat=j by omega];simp[zkJ]
theorem zlI(c:UInt8)(s:B):zbQ c s=ze8 c s:=by unfold zbQ;rw[Lib.splitB_data];have e:Lib.countB ⟨s.toArray⟩ ⟨#[c]⟩=s.count c:=Lib.count_one c s;rw[e];exact zlJ c s
theorem zqN(c:UInt8):low (low c)=low c:=eq8 (f:=λc=>low (low c)) (g:=low) (by decide+kernel) c
theorem zp3(c:UInt8):(low c==47)=(c==47):=eq8 (f:=λc=>(low c==47)) (g:=λc=>(c==47)) (by decide+kernel) c
theorem zn1(c:UInt8):ctl (low c)=ctl c:=eq8 (f:=λc=>ctl (low c)) (g:=ctl) (by decide+kernel) c
theorem zps(c:UInt8):zbT (low c)=zbT c:=eq8 (f:=λc=>zbT (low c)) (g:=zbT) (by decide+kernel) c
theorem zkY(s:B):zaW (zaW s)=zaW s:=by simp[zaW,zqN]
theorem zeb(s:B):(zaW s==[])=(s==[]):=by cases s<;>rfl
theorem znw(s:B):(zaW s).any ctl=s.any ctl:=by unfold zaW;rw[List.any_map];congr 1;funext c;exact zn1 c
theorem zgi:∀(b:Bool)(s:B),zaW (zco b s)=zco b (zaW s)
 |_,[]=>rfl|b,c::r=>by
   have h1:=zgi true r;have h2:=zgi false r;simp only[zaW,yAk] at h1 h2 ⊢;unfold zco;rw[zps];cases zbT c with
   |true=>cases b<;>simp[h1,show low 45=45 from rfl]|false=>simp[h2]
theorem zhP:∀(b:Bool)(s:B),zco b (zco b s)=zco b s
 |_,[]=>rfl|b,c::r=>by
   have h1:=zhP true r;have h2:=zhP false r;rw[zco];cases hc:zbT c with
   |true =>
     cases b with
     |true=>simp only[cond_true,yA3,h1]|false=>simp only[cond_true,cond_false,yAS,yA3,zco,show zbT 45=true from rfl,h1]
   |false=>simp only[cond_false,zco,hc,h2]
theorem zmt(s:B):(zco false s==[])=(s==[]):=by
 cases s with
 |nil=>rfl|cons c r=>unfold zco;cases zbT c<;>rfl
theorem zjm:∀(b:Bool)(s:B)(x:UInt8),x∈zco b s->x=45\/x∈s
 |_,[],x,h=>by cases h
 |b,c::r,x,h=>by
   unfold zco at h;cases hc:zbT c with
   |true =>
     rw[hc] at h;simp only[cond_true,yAo] at h;rcases h with h|h
     ·left;cases b with
      |true=>cases h|false=>simpa using h
     ·rcases zjm true r x h with h|h;·exact .inl h
      ·exact .inr (yA2 _ h)
   |false =>
     rw[hc] at h;simp only[cond_false,yAm] at h;rcases h with rfl|h;·exact .inr (List.mem_cons_self ..)
     ·rcases zjm false r x h with h|h;·exact .inl h
      ·exact .inr (yA2 _ h)
theorem zmu{p:UInt8->Bool}(hp:p 45=false){b:Bool}{s:B}(h:s.any p=false):(zco b s).any p=false:=by
 rw[yBu] at *
 intro x hx;rcases zjm b s x hx with rfl|h2;·simp[hp]
 ·exact h x h2
theorem zhE(c:UInt8):∀s:B,decide (0<=Lib.indexByte s c)=s.any (· ==c)
 |[]=>rfl|b::l=>by
   have ih:=zhE c l;have hge:=Lib.indexByte_ge l c;unfold Lib.indexByte;rw[yB8,<-ih];cases hb:(b==c) with
   |true=>simp|false =>
     simp only[Bool.false_or,Bool.false_eq_true,if_false];by_cases h:Lib.indexByte l c= -1;·rw[if_pos (by simpa using h),h]
     ·rw[if_neg (by simpa using h),decide_eq_true (by omega),decide_eq_true (by omega)]
theorem znb(g:UInt8->UInt8)(b:UInt8)(l:List B):zkJ (g b) (l.map (List.map g))=(zkJ b l).map (List.map g):=by cases l<;>rfl
theorem zg3:∀s:B,ze8 47 (zaW s)=(ze8 47 s).map zaW
 |[]=>rfl|c::r=>by
   have ih:=zg3 r;simp only[zaW,yAk] at ih ⊢;unfold ze8;rw[zp3,ih];cases (c==47) with
   |true=>simp[zaW]|false=>exact znb low c _
theorem zmJ(s:B):zef (zaW s)=(zef s).map zaW:=by
 unfold zef;rw[zeb];cases (s==[]) with
 |true=>rfl|false=>simp only[cond_false];rw[zlI,zlI,zg3]
theorem zmW(s:B):zba (zef (zaW s)) false=zba (zef s) false:=by
 rw[zmJ];unfold zba;have:((zef s).map zaW).any (zgu false)=(zef s).any (zgu false):=by rw[List.any_map];congr 1;funext x;simp only[Function.comp_def,zgu,zeb,cond_false]
 have h2:len ((zef s).map zaW)=len (zef s):=by simp[len]
 rw[this];simp only[h2]
theorem znc{p:Gt.Purl}:zbE p=0↔(zbb p.kind).2.1=0/\zd3 p=false/\zcr (zbb p.kind).1 p=false/\zba (zef p.space) false=false/\zdI p=false/\qE p.qualifiers=0/\zba (zef p.sub) true=false/\zqb p=false/\zq3 p=false:=by
 unfold zbE;generalize (zbb p.kind).2.1=a;generalize zcr (zbb p.kind).1 p=b;generalize zba (zef p.space) false=c;generalize zba (zef p.sub) true=d;generalize qE p.qualifiers=e;by_cases ha:a=0
 ·subst ha;by_cases he:e=0;·subst he;cases zd3 p<;>cases b<;>cases c<;>cases zdI p<;>cases d<;>cases zqb p<;>cases zq3 p<;>simp
  ·have:(e != 0)=true:=by simpa using he
   rw[this];cases zd3 p<;>cases b<;>cases c<;>cases zdI p<;>simp[he]
 ·have:(a != 0)=true:=by simpa using ha
  rw[this];simp[ha]
theorem ziM{s:B}(h:s.length<=200):big s=false:=decide_eq_false (by unfold len;omega)
theorem zn5{p:Gt.Purl}(T:Tiny p):zd3 p=false:=by unfold zd3;rw[show (zeY p).any big=false by simp[zeY,ziM T.space,ziM T.name,ziM T.version,ziM T.sub]];simp only[cond_false];rw[show p.qualifiers.any zfu=false by rw[yBu];intro q hq;have:=T.each q hq;simp[zfu,ziM this.1,ziM this.2]];simp only[cond_false];exact decide_eq_false (by have:=T.quals;unfold len;omega)
theorem ziK(p:Gt.Purl){pr:UInt8->Bool}(h45:pr 45=false)(hl:∀c,pr (low c)=pr c)(h:p.name.any pr=false):(za9 p).name.any pr=false:=by
 have hs:(zaW p.name).any pr=false:=by unfold zaW;rw[List.any_map,<-h];congr 1;funext c;exact hl c
 unfold za9;cases (zbb p.kind).1.small<;>cases (zbb p.kind).1.dashes;·exact h
 ·exact zmu h45 h
 ·exact hs
 ·exact zmu h45 hs
theorem zlv{p:Gt.Purl}(h:zbE p=0):zbE (za9 p)=0:=by
 have T:=zgk h;rw[znc] at h ⊢;obtain ⟨h1,h2,h3,h4,h5,h6,h7,h8,h9⟩:=h;have hsp:((za9 p).space==[])=(p.space==[]):=by
  unfold za9;cases (zbb p.kind).1.small;·rfl
  ·exact zeb _
 have hna:((za9 p).name==[])=(p.name==[]):=by
  unfold za9;cases (zbb p.kind).1.small<;>cases (zbb p.kind).1.dashes;·rfl
  ·exact zmt _
  ·exact zeb _
  ·exact (zmt _).trans (zeb _)
 refine ⟨h1,zn5 (zii T),?_,?_,?_,h6,h7,?_,h9⟩
 ·have e:zcr (zbb (za9 p).kind).1 (za9 p)=zcr (zbb p.kind).1 p:=by
   unfold zcr;rw[show ((za9 p).space != [])=(p.space != []) from congrArg (!·) hsp,hsp];rfl
  rw[e];exact h3
 ·unfold za9;cases (zbb p.kind).1.small;·exact h4
  ·exact (zmW _).trans h4
 ·unfold zdI at h5 ⊢;rw[hna,zhE];rw[zhE] at h5;cases hn:(p.name==[]) with
  |true=>rw[hn] at h5;cases h5|false =>rw[hn] at h5;exact ziK p rfl (λc=>zp3 c) h5
 ·unfold zqb zeY at h8 ⊢;simp only[yB8,List.any_nil,Bool.or_false,yBj] at h8 ⊢;refine ⟨?_,ziK p rfl zn1 h8.2.1,h8.2.2⟩;unfold za9;cases (zbb p.kind).1.small;·exact h8.1
  ·exact (znw _).trans h8.1
theorem zlw(p:Gt.Purl):za9 (za9 p)=za9 p:=by unfold za9;cases (zbb p.kind).1.small<;>cases (zbb p.kind).1.dashes<;>simp[zkY,zgi,zhP]
end Pe.Tryd
end
section
/- What is printed of a right canonical name is read as that name. -/
set_option maxRecDepth 100000
namespace Pe.Tryd
open Go Go.Proofs Pe Pe.Told
theorem zj9{c:UInt8}{r:B}(h:(c==37)=false):zhq (c::r)=bif zmH c then .stop else .byte c r:=by unfold zhq;simp only[h,cond_false]
end Pe.Tryd
end
section
/- Names that come zkV: next to each other in a sorted list; at the place of an insertion. -/
set_option maxRecDepth 100000
namespace Pe.Tryd
open Go Go.Proofs Pe Pe.Told
end Pe.Tryd
end
section
/- The program's reader: what its functions answer. -/
set_option maxRecDepth 100000
namespace Pe.Tryd
open Go Go.Proofs Pe Pe.Told
abbrev RP:=Gt.Rd_
abbrev ER(α:Type):=Option (((RP×Unit)×α)⊕Unit)
def zgY(s:B)(e:Option B):Int:=match e with
 |none=> -1|some x=>((P s x:Nat):Int)
theorem zor(s:B)(e:Option B):decide (zgY s e<0)=e.isNone:=by
 cases e with
 |none=>rfl|some x=>exact decide_eq_false (by unfold zgY;simp only;omega)
theorem zq2(s:B)(e:Option B):decide (0<=zgY s e)=e.isSome:=by
 cases e with
 |none=>rfl|some x=>exact decide_eq_true (by unfold zgY;simp only;omega)
theorem G62(n:Nat)(s:B)(a b:Int): @Eq (ER Unit) ((zam (n+1)).e 62 [.ptr 0 0,.int .i64 b] [74] [(.st 6)] ((Gt.Rd_.mk s a (-1),()):RP×Unit) [] [] 0) (some (.inl ((Gt.Rd_.mk s a b,()),()))):=by rw[q62];rfl
theorem G90e(n:Nat)(s:B)(a b:Int)(e:Option B): @Eq (ER Unit) ((zam (n+1)).e 62 [.ptr 0 0,.int .i64 b] [74] [(.st 6)] ((Gt.Rd_.mk s a (zgY s e),()):RP×Unit) [] [] 0) (some (.inl ((Gt.Rd_.mk s a (bif e.isNone then b else zgY s e),()),()))):=by rw[q62];unfold m62;dsimp only;rw[zor];cases e<;>rfl
theorem s86(o:Orc Sx)(c:UInt8):m86 o (c.toNat:Int)=some (zdO c,()) :=
 eq8 (f:=λc=>m86 o (c.toNat:Int)) (g:=λc=>some (zdO c,())) (by kernel_rfl) c
theorem L86(n:Nat)(c:UInt8): @Eq (Option (Int×Unit)) ((zam (n+1)).d 86 [.int .u8 (c.toNat:Int)] [(.int .i64)]) (some (zdO c,())):=(q86 n _).trans (s86 _ c)
theorem eq37(c:UInt8):((c.toNat:Int)==37)=(c==37):=eq8 (f:=λc=>((c.toNat:Int)==37)) (g:=λc=>(c==37)) (by decide+kernel) c
theorem ne37(c:UInt8):((c.toNat:Int) != 37)= !(c==37):=congrArg (!·) (eq37 c)
theorem zqv(c:UInt8):(bif (bif decide ((c.toNat:Int)<33) then true else decide (126<(c.toNat:Int))) then true else decide (0<=Lib.indexByte [47,64,63,35,38,61] (UInt8.ofNat (Int.toNat (c.toNat:Int)))))=zmH c :=
 eq8 (f:=λc=>bif (bif decide ((c.toNat:Int)<33) then true else decide (126<(c.toNat:Int))) then true else decide (0<=Lib.indexByte [47,64,63,35,38,61] (UInt8.ofNat (Int.toNat (c.toNat:Int))))) (g:=zmH) (by decide+kernel) c
theorem zlp(c:UInt8):IntKind.i64.wrap ((IntKind.i64.wrap (16*0))+zdO c)=zdO c:=by have:=zlq c;rw[show IntKind.i64.wrap (16*0)=0 from rfl,Int.zero_add,zdw (by omega) (by omega)]
def zqJ(s l:B):(RP×Unit)×(Int×Bool×Unit):=match zhq l with
 | .stop=>((Gt.Rd_.mk s ((P s l:Nat):Int) (-1),()),(0,false,()))| .bad e=>((Gt.Rd_.mk s ((P s l:Nat):Int) ((P s e:Nat):Int),()),(0,false,()))| .byte c r=>((Gt.Rd_.mk s ((P s r:Nat):Int) (-1),()),((c.toNat:Int),true,()))
theorem zj8{s l:B}(h:zhq l= .stop):zqJ s l=((Gt.Rd_.mk s ((P s l:Nat):Int) (-1),()),(0,false,())):=by unfold zqJ;rw[h]
theorem zfl{s l e:B}(h:zhq l= .bad e):zqJ s l=((Gt.Rd_.mk s ((P s l:Nat):Int) ((P s e:Nat):Int),()),(0,false,())):=by unfold zqJ;rw[h]
theorem zhp{s l r:B}{c:UInt8}(h:zhq l= .byte c r):zqJ s l=((Gt.Rd_.mk s ((P s r:Nat):Int) (-1),()),((c.toNat:Int),true,())):=by unfold zqJ;rw[h]
theorem oct1{d:UInt8}{r:B}(hd:decide (zdO d<0)=true):zhq (37::d::r)= .bad (d::r):=by unfold zhq;simp only[show ((37:UInt8)==37)=true from rfl,cond_true,hd]
theorem oct2{d:UInt8}(hd:decide (zdO d<0)=false):zhq [37,d]= .bad []:=by unfold zhq;simp only[show ((37:UInt8)==37)=true from rfl,cond_true,cond_false,hd]
theorem oct3{d e:UInt8}{r:B}(hd:decide (zdO d<0)=false)(he:decide (zdO e<0)=true):zhq (37::d::e::r)= .bad (e::r):=by unfold zhq;simp only[show ((37:UInt8)==37)=true from rfl,cond_true,cond_false,hd,he]
theorem oct4{d e:UInt8}{r:B}(hd:decide (zdO d<0)=false)(he:decide (zdO e<0)=false):zhq (37::d::e::r)= .byte (hexB d e) r:=by unfold zhq;simp only[show ((37:UInt8)==37)=true from rfl,cond_true,cond_false,hd,he]
theorem G77(n:Nat){s l:B}(h:l <:+ s)(hs:s.length<=3000) :
  @Eq (ER (Int×Bool×Unit)) ((zam (n+2)).e 77 [.ptr 0 0] [74] [(.st 6)] ((Gt.Rd_.mk s ((P s l:Nat):Int) (-1),()):RP×Unit) [(.int .u8),.bool] [] 0) (some (.inl (zqJ s l))):=by
 rw[q77];unfold m77;dsimp only;rw[zrp h];cases l with
 |nil=>rfl|cons c r =>
   rw[show ((c::r)==([]:B))=false from rfl,zad,zk0 h];simp only[yAT,zaa];rw[ne37];cases h37:(c==37) with
   |false =>
     simp only[yBn,zaf,L27,zaa,zaD,zqv];cases hst:zmH c with
     |true=>rw[zj8 (by rw[zj9 h37,hst];rfl)];rfl|false =>rw[zhp (r:=r) (c:=c) (by rw[zj9 h37,hst];rfl)];simp only[cond_false];rw[zdT hs,zdv h]
   |true =>
     obtain rfl:c=37:=by simpa using h37
     simp only[yBr,zad];have e1:=zdv h;have h1:=zcs h;cases r with
     |nil =>rw[zfl (show zhq [37]= .bad [] from rfl)];refine zaS (zax (r:= .inr (.inl ((Gt.Rd_.mk s ((P s [37]:Nat):Int) ((P s []:Nat):Int),()),(0,false,())))) ?_) rfl;dsimp only;rw[show decide ((1:Int)<=2)=true from rfl,zaf,zdT hs,zfa h 1];simp only[yAn,yBd,Nat.lt_irrefl,decide_false,yAG,zad,zaq];rw[show decide ((-1:Int)<0)=true from rfl,zaf,G62,zbI,e1]|cons d r1 =>
       have e2:=zdv h1;have h2:=zcs h1;cases hd:decide (zdO d<0) with
       |true =>rw[zfl (oct1 hd)];refine zaS (zax (r:= .inr (.inl ((Gt.Rd_.mk s ((P s (37::d::r1):Nat):Int) ((P s (d::r1):Nat):Int),()),(0,false,())))) ?_) rfl;dsimp only;rw[show decide ((1:Int)<=2)=true from rfl,zaf,zdT hs,zfa h 1,zg7 h 1];simp only[yAn,show 1<r1.length+1+1 from by omega,decide_true,zaf,yBc,yAT,zaa,L86,zaq,hd];rw[G62,zbI,e1]|false =>
         have st1:∀{R:Type}(X:Option R)(Y:Option R),br (decide (zdO d<0)) X Y=Y:=λX Y=>by rw[hd];rfl
         cases r1 with
         |nil =>
           rw[zfl (oct2 hd)];refine zaS ((za8 (y:=(zdO d,2,s,((P s [37,d]:Nat):Int), -1,())) ?_).trans (zax (r:= .inr (.inl ((Gt.Rd_.mk s ((P s [37,d]:Nat):Int) ((P s []:Nat):Int),()),(0,false,())))) ?_)) rfl;·dsimp only;rw[show decide ((1:Int)<=2)=true from rfl,zaf,zdT hs,zfa h 1,zg7 h 1];simp only[yAn,yBd,show 1<0+1+1 from by omega,decide_true,zaf,yBc,yAT,zaa,L86,zaq,hd,zad,zlp];rfl
           ·dsimp only;rw[show decide ((2:Int)<=2)=true from rfl,zaf,zno hs,zfa h 2];simp only[yAn,yBd,show ¬2<0+1+1 from by omega,decide_false,zad,zaq];rw[show decide ((-1:Int)<0)=true from rfl,zaf,G62,zbI,e2,e1]
         |cons e r2 =>
           have e3:=zdv h2;cases he:decide (zdO e<0) with
           |true =>
             rw[zfl (oct3 hd he)];refine zaS ((za8 (y:=(zdO d,2,s,((P s (37::d::e::r2):Nat):Int), -1,())) ?_).trans (zax (r:= .inr (.inl ((Gt.Rd_.mk s ((P s (37::d::e::r2):Nat):Int) ((P s (e::r2):Nat):Int),()),(0,false,())))) ?_)) rfl;·dsimp only;rw[show decide ((1:Int)<=2)=true from rfl,zaf,zdT hs,zfa h 1,zg7 h 1];simp only[yAn,show 1<r2.length+1+1+1 from by omega,decide_true,zaf,yBc,yAT,zaa,L86,zaq,hd,zad,zlp];rfl
             ·dsimp only;rw[show decide ((2:Int)<=2)=true from rfl,zaf,zno hs,zfa h 2,zg7 h 2];simp only[yAn,show 2<r2.length+1+1+1 from by omega,decide_true,zaf,yBc,yAT,zaa,L86,zaq,he];rw[G62,zbI,e2,e1]
           |false =>
             rw[zhp (oct4 hd he)];refine zaS ((za8 (y:=(zdO d,2,s,((P s (37::d::e::r2):Nat):Int), -1,())) ?_).trans ((za8 (y:=(IntKind.i64.wrap ((IntKind.i64.wrap (16*zdO d))+zdO e),3,s,((P s (37::d::e::r2):Nat):Int), -1,())) ?_).trans (zax (r:= .inl (IntKind.i64.wrap ((IntKind.i64.wrap (16*zdO d))+zdO e),s,((P s (37::d::e::r2):Nat):Int), -1,())) ?_))) ?_;·dsimp only;rw[show decide ((1:Int)<=2)=true from rfl,zaf,zdT hs,zfa h 1,zg7 h 1];simp only[yAn,show 1<r2.length+1+1+1 from by omega,decide_true,zaf,yBc,yAT,zaa,L86,zaq,hd,zad,zlp];rfl
             ·dsimp only;rw[show decide ((2:Int)<=2)=true from rfl,zaf,zno hs,zfa h 2,zg7 h 2];simp only[yAn,show 2<r2.length+1+1+1 from by omega,decide_true,zaf,yBc,yAT,zaa,L86,zaq,he,zad];rfl
             ·rfl
             ·simp only[zaq];rw[zrk hs,zqX d e (of_decide_eq_false hd) (of_decide_eq_false he),e3,e2,e1]
def pk(l:B):Int:=match l with
 |[]=>0|c::_=>(c.toNat:Int)
def hdB(c:UInt8)(l:B):Bool:=match l with
 |[]=>false|d::_=>d==c
theorem zoS{s l:B}(h:l <:+ s):br (decide (((P s l:Nat):Int)<len s)) (ob (at? s ((P s l:Nat):Int)) λc=>some (((UInt8.toNat c:Nat):Int),())) (some (0,()))=some (pk l,()):=by rw[zfU h,zk0 h];cases l<;>rfl
theorem zrt(l:B):(pk l==47)=hdB 47 l:=by
 cases l with
 |nil=>rfl|cons c r=>exact eq8 (f:=λc=>((c.toNat:Int)==47)) (g:=λc=>(c==47)) (by decide+kernel) c
theorem pk64(l:B):(pk l==64)=hdB 64 l:=by
 cases l with
 |nil=>rfl|cons c r=>exact eq8 (f:=λc=>((c.toNat:Int)==64)) (g:=λc=>(c==64)) (by decide+kernel) c
theorem zbM{c:UInt8}{l:B}(h:hdB c l=true):∃r,l=c::r:=by
 cases l with
 |nil=>cases h
 | cons d r=>obtain rfl:d=c:=by simpa[hdB] using h
             exact ⟨r,rfl⟩
theorem zie{R σ:Type}{f:σ->Option (σ⊕R)}(mk:Nat->σ)(out:Nat->R)(s:B)(p:UInt8->Bool)(k0:Nat)
  (h:∀c r,c::r <:+ s->k0<=P s (c::r)->f (mk (P s (c::r)))=bif p c then some (.inl (mk (P s r))) else some (.inr (out (P s (c::r)))))
  (he:f (mk (P s []))=some (.inr (out (P s [])))):∀l,l <:+ s->k0<=P s l->zav f (mk (P s l))=some (out (P s (l.dropWhile p)))
 |[],_,_=>zax he|c::r,hl,hk=>by
   have h1:=h c r hl hk;rw[List.dropWhile_cons];cases hc:p c with
   |false=>rw[hc] at h1;rw[zax h1];rfl|true =>rw[hc] at h1;rw[za8 h1,zie mk out s p k0 h he r (zcs hl) (by rw[zdv hl];omega)];rfl
end Pe.Tryd
end
section
/- The program's reader zqA names; Read of the program. -/
set_option maxRecDepth 100000
namespace Pe.Tryd
open Go Go.Proofs Pe Pe.Told
theorem zlU:∀{ps l r:B},zpZ ps l= .inl r->ps.length<=l.length/\l.drop ps.length=r
 |[],l,r,h=>by cases h;exact ⟨by simp,rfl⟩
 |p::ps,[],r,h=>by cases h
 |p::ps,d::l,r,h=>by
   unfold zpZ at h;cases hd:(low d==p) with
   |false=>rw[hd] at h;cases h|true =>rw[hd] at h;obtain ⟨h1,h2⟩:=zlU (ps:=ps) (l:=l) (r:=r) h;exact ⟨by simpa using h1,by simpa using h2⟩
theorem zlT{R σ:Type}{f:σ->Option (σ⊕R)}(mk:Nat->σ)(bad:Nat->R)(ok:R)(s pat:B)
  (h:∀k p,pat[k]?=some p->k<=s.length->f (mk k)=match s[k]? with
   |none=>some (.inr (bad k))|some d=>bif low d==p then some (.inl (mk (k+1))) else some (.inr (bad k)))
  (he:f (mk pat.length)=some (.inr ok)):∀ps l k,pat.drop k=ps->s.drop k=l->k<=s.length->k<=pat.length->zav f (mk k)=some (match zpZ ps l with | .inl _=>ok | .inr e=>bad (P s e))
 |[],l,k,hp,hl,hk,hk2=>by have h0:=congrArg List.length hp;simp only[yAW,yBd] at h0;obtain rfl:k=pat.length:=(by omega);exact zax he
 |p::ps,l,k,hp,hl,hk,hk2=>by
   have h0:pat[k]?=some p:=(by have:=congrArg (·[0]?) hp;simpa[yAr] using this);have h0b:=congrArg List.length hp;simp only[yAW,yAn] at h0b;have h1:=h k p h0 hk;have h2:=congrArg (·[0]?) hl;have h3:=congrArg List.length hl;simp only[yAr,yBl] at h2;rw[yAW] at h3;rw[h2] at h1;cases l with
   |nil =>simp only[List.getElem?_nil] at h1;simp only[yBd] at h3;rw[zax h1];simp only[zpZ];congr 2;simp[P];omega|cons d r =>
     simp only[yAT] at h1;simp only[yAn] at h3;unfold zpZ;cases hd:(low d==p) with
     |false =>rw[hd] at h1;rw[zax h1];simp only[cond_false];congr 2;simp[P];omega|true =>
       rw[hd] at h1;rw[za8 h1];have hp':pat.drop (k+1)=ps:=by rw[<-yBm,hp];rfl
       have hl':s.drop (k+1)=r:=(by rw[<-yBm,hl];rfl);exact zlT mk bad ok s pat h he ps r (k+1) hp' hl' (by omega) (by omega)
theorem take_one{l:B}{k:Nat}{d:UInt8}(h:l[k]?=some d):zbX l ((k:Nat):Int) ((k+1:Nat):Int)=some [d]:=by have hk:k<l.length:=(yAc.1 h).1;rw[zho (by omega) (by omega),yAL,yA6 hk,(yAc.1 h).2];rfl
theorem zmD{s l:B}{p:UInt8->Bool}(h:l <:+ s):zbX s ((P s l:Nat):Int) ((P s (l.dropWhile p):Nat):Int)=some (l.takeWhile p):=by have e:l.takeWhile p++l.dropWhile p=l:=List.takeWhile_append_dropWhile;rw[ziU h ⟨l.takeWhile p,e⟩];congr 1;have h3:=congrArg List.length e;rw[yAx] at h3;rw[show l.length - (l.dropWhile p).length=(l.takeWhile p).length by omega];exact (congrArg (List.take (l.takeWhile p).length) e.symm).trans (yA8 ..)
end Pe.Tryd
end
