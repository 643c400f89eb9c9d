/- PROVED HERE: a part of the seat's proofs; see the text that holds the claim's theorem. -/
import Derived.Test.YtbkjohfobibmlaaGreatDoorNm
import Derived.Test.YtbkjohfobibmlaaGreatDoorPtF
import Derived.Test.YtbkjohfobibmlaaGreatDoorPtH
section
/- The reference's reader: what its functions answer. -/
set_option maxRecDepth 100000
namespace Pe.Tryz
open Go Go.Proofs Pe Pe.Told
abbrev RR:=Gt.Rr_
abbrev ERR(α:Type):=Option (((RR×Unit)×α)⊕Unit)
theorem ne8(d c:UInt8):((d.toNat:Int) != (c.toNat:Int))= !(d==c):=by
 cases h:(d==c) with
 | true=>obtain rfl:d=c:=by simpa using h
         simp
 |false =>have h1:d≠c:=(by simpa using h);have h2:d.toNat≠c.toNat:=λe=>h1 (UInt8.toNat_inj.1 e);show (!((d.toNat:Int)==(c.toNat:Int)))=_;rw[show ((d.toNat:Int)==(c.toNat:Int))=false by rw[beq_eq_false_iff_ne];omega]
def isE(c:UInt8)(l:B)(b:Bool):Bool×B:=bif b then (false,l) else rIs c l
theorem G54(n:Nat){s l:B}{b:Bool}{ci:Int}(c:UInt8)(hc:ci=(c.toNat:Int))(h:l <:+ s)(hs:s.length<=3000) :
  @Eq (ERR (Bool×Unit)) ((zal (n+1)).e 54 [.ptr 0 0,.int .u8 ci] [102] [(.st 6)] ((Gt.Rr_.mk s ((P s l:Nat):Int) b,()):RR×Unit) [.bool] [] 0) (some (.inl ((Gt.Rr_.mk s ((P s (isE c l b).2:Nat):Int) b,()),((isE c l b).1,())))):=by
 subst hc;rw[q54];unfold m54 isE;dsimp only;cases b with
 |true=>rfl|false =>
   simp only[zab,zaa,cond_false];rw[zgN h];cases l with
   |nil=>rfl|cons d r =>
     rw[show ((d::r)==([]:B))=false from rfl,zab,zft h];simp only[yAC,zaa,ne8,rIs];cases (d==c) with
     |true=>simp only[yA7,zab,cond_true];rw[zbD hs,<-zbt h]|false=>rfl
theorem G107(n:Nat)(s:B)(a:Int)(b ok:Bool): @Eq (ERR Unit) ((zal (n+1)).e 107 [.ptr 0 0,.bool ok] [102] [(.st 6)] ((Gt.Rr_.mk s a b,()):RR×Unit) [] [] 0) (some (.inl ((Gt.Rr_.mk s a (b|| !ok),()),()))):=by rw[q107];cases ok<;>cases b<;>rfl
theorem s142(o:Orc Sx)(c:UInt8):m142 o (c.toNat:Int)=some (zc5 c,()) :=
 eq8 (f:=λc=>m142 o (c.toNat:Int)) (g:=λc=>some (zc5 c,())) (by kernel_rfl) c
theorem L142(n:Nat)(c:UInt8): @Eq (Option (Int×Unit)) ((zal (n+1)).d 142 [.int .u8 (c.toNat:Int)] [(.int .i64)]) (some (zc5 c,())):=(q142 n _).trans (s142 _ c)
theorem zhp{s l:B}(h:l <:+ s)(k:Nat):(((P s l+k:Nat):Int)==len s)=(k==l.length):=by have:=zel h;unfold len;rw[yBE,beq_iff_eq,beq_iff_eq];omega
end Pe.Tryz
end
section
/- The reference's reader of patterns: one byte. -/
set_option maxRecDepth 100000
namespace Pe.Tryz
open Go Go.Proofs Pe Pe.Told
def zsJ(s l:B):(RR×Unit)×(Int×Unit):=match zen l with
 | .stop=>((Gt.Rr_.mk s ((P s l:Nat):Int) false,()),(0,()))| .bad e=>((Gt.Rr_.mk s ((P s e:Nat):Int) true,()),(0,()))| .byte c r=>((Gt.Rr_.mk s ((P s r:Nat):Int) false,()),((c.toNat:Int),()))
theorem zli{s l:B}(h:zen l= .stop):zsJ s l=((Gt.Rr_.mk s ((P s l:Nat):Int) false,()),(0,())):=by unfold zsJ;rw[h]
theorem zf5{s l e:B}(h:zen l= .bad e):zsJ s l=((Gt.Rr_.mk s ((P s e:Nat):Int) true,()),(0,())):=by unfold zsJ;rw[h]
theorem ziq{s l r:B}{c:UInt8}(h:zen l= .byte c r):zsJ s l=((Gt.Rr_.mk s ((P s r:Nat):Int) false,()),((c.toNat:Int),())):=by unfold zsJ;rw[h]
theorem G109(n:Nat){s l:B}(h:l <:+ s)(hs:s.length<=3000)(hne:l≠[]) :
  @Eq (ERR (Int×Unit)) ((zal (n+2)).e 109 [.ptr 0 0] [102] [(.st 6)] ((Gt.Rr_.mk s ((P s l:Nat):Int) false,()):RR×Unit) [(.int .u8)] [] 0) (some (.inl (zsJ s l))):=by
 rw[show @Eq (ERR (Int×Unit)) ((zal (n+2)).e 109 [.ptr 0 0] [102] [(.st 6)] ((Gt.Rr_.mk s ((P s l:Nat):Int) false,()):RR×Unit) [(.int .u8)] [] 0) _ from q109 (n+1) _];unfold m109;dsimp only;rw[zft h];cases l with
 |nil=>exact absurd rfl hne|cons c r =>
   simp only[yAC,zaa];rw[eq37];cases h37:(c==37) with
   |false =>
     rw[zab,zai];dsimp only;simp only[L47,zaa,zav,zo4];cases hst:zkL c with
     |true=>rw[zli (by rw[zf8 h37,hst];rfl)];rfl|false =>rw[ziq (r:=r) (c:=c) (by rw[zf8 h37,hst];rfl)];simp only[cond_false];rw[zbD hs,zbt h]
   |true =>
     obtain rfl:c=37:=by simpa using h37
     have e1:=zbt h;have h1:=za4 h;rw[zad];cases r with
     |nil =>rw[zf5 (show zen [37]= .bad [] from rfl)];refine zaA (r:= .inr (.inl ((Gt.Rr_.mk s ((P s []:Nat):Int) true,()),(0,())))) ?_ rfl;refine zaA (zao (r:= .inr (.inr (.inl ((Gt.Rr_.mk s ((P s []:Nat):Int) true,()),(0,()))))) ?_) rfl;dsimp only;rw[show decide ((1:Int)<=2)=true from rfl,zad,zbD hs,zhp h 1];simp only[yAi,yAZ,yAH,beq_self_eq_true,zad,zaa];rw[e1]|cons d r1 =>
       have e2:=zbt h1;have h2:=za4 h1;cases hd:decide (zc5 d<0) with
       |true =>rw[zf5 (oct1 hd)];refine zaA (r:= .inr (.inl ((Gt.Rr_.mk s ((P s (d::r1):Nat):Int) true,()),(0,())))) ?_ rfl;refine zaA (zao (r:= .inr (.inr (.inl ((Gt.Rr_.mk s ((P s (d::r1):Nat):Int) true,()),(0,()))))) ?_) rfl;dsimp only;rw[show decide ((1:Int)<=2)=true from rfl,zad,zbD hs,zhp h 1,show (1==(37::d::r1:B).length)=false by simp,zab,zde h 1];simp only[yAN,yAC,zaa,L142,hd,zad];rw[e1]|false =>
         cases r1 with
         |nil =>
           rw[zf5 (oct2 hd)];refine zaA (r:= .inr (.inl ((Gt.Rr_.mk s ((P s []:Nat):Int) true,()),(0,())))) ?_ rfl;refine zaA ((zay (y:=(2,s,((P s [37,d]:Nat):Int),false,())) ?_).trans (zao (r:= .inr (.inr (.inl ((Gt.Rr_.mk s ((P s []:Nat):Int) true,()),(0,()))))) ?_)) rfl;·dsimp only;rw[show decide ((1:Int)<=2)=true from rfl,zad,zbD hs,zhp h 1,show (1==([37,d]:B).length)=false by rfl,zab,zde h 1];simp only[yAN,yAC,zaa,L142,hd,zab];rfl
           ·dsimp only;rw[show decide ((2:Int)<=2)=true from rfl,zad,zjd hs,zhp h 2];simp only[yAi,yAZ,yAH,beq_self_eq_true,zad,zaa];rw[e2,e1]
         |cons e r2 =>
           have e3:=zbt h2;cases he:decide (zc5 e<0) with
           |true =>
             rw[zf5 (oct3 hd he)];refine zaA (r:= .inr (.inl ((Gt.Rr_.mk s ((P s (e::r2):Nat):Int) true,()),(0,())))) ?_ rfl;refine zaA ((zay (y:=(2,s,((P s (37::d::e::r2):Nat):Int),false,())) ?_).trans (zao (r:= .inr (.inr (.inl ((Gt.Rr_.mk s ((P s (e::r2):Nat):Int) true,()),(0,()))))) ?_)) rfl;·dsimp only;rw[show decide ((1:Int)<=2)=true from rfl,zad,zbD hs,zhp h 1,show (1==(37::d::e::r2:B).length)=false by simp,zab,zde h 1];simp only[yAN,yAC,zaa,L142,hd,zab];rfl
             ·dsimp only;rw[show decide ((2:Int)<=2)=true from rfl,zad,zjd hs,zhp h 2,show (2==(37::d::e::r2:B).length)=false by simp,zab,zde h 2];simp only[yAN,yAC,zaa,L142,he,zad];rw[e2,e1]
           |false =>
             rw[ziq (oct4 hd he)];refine zaA (r:= .inr (.inl ((Gt.Rr_.mk s ((P s r2:Nat):Int) false,()),(((ztY d e).toNat:Int),())))) ?_ rfl;refine zaA ((zay (y:=(2,s,((P s (37::d::e::r2):Nat):Int),false,())) ?_).trans ((zay (y:=(3,s,((P s (37::d::e::r2):Nat):Int),false,())) ?_).trans (zao (r:= .inl (s,((P s (37::d::e::r2):Nat):Int),false,())) ?_))) ?_;·dsimp only;rw[show decide ((1:Int)<=2)=true from rfl,zad,zbD hs,zhp h 1,show (1==(37::d::e::r2:B).length)=false by simp,zab,zde h 1];simp only[yAN,yAC,zaa,L142,hd,zab];rfl
             ·dsimp only;rw[show decide ((2:Int)<=2)=true from rfl,zad,zjd hs,zhp h 2,show (2==(37::d::e::r2:B).length)=false by simp,zab,zde h 2];simp only[yAN,yAC,zaa,L142,he,zab];rfl
             ·rfl
             ·rw[zai];dsimp only;have hP:=zuN s (37::d::e::r2);have w3:=zrO hs (37::d::e::r2);rw[w3];have w1:IntKind.i64.wrap (((P s (37::d::e::r2)+3:Nat):Int) - 2)=((P s (37::d::e::r2)+1:Nat):Int):=by rw[zbT (by omega) (by omega)];omega
              have w2:IntKind.i64.wrap (((P s (37::d::e::r2)+3:Nat):Int) - 1)=((P s (37::d::e::r2)+2:Nat):Int):=(by rw[zbT (by omega) (by omega)];omega);rw[w1,w2,zde h 1,zde h 2];simp only[yAN,yAC,zaa,L142];rw[zp4 d e (by simpa using hd) (by simpa using he),e3,e2,e1]
end Pe.Tryz
end
section
/- The reference's reader of patterns: the atoms of a part. -/
set_option maxRecDepth 100000
namespace Pe.Tryz
open Go Go.Proofs Pe Pe.Told
abbrev zl8:=Gt.Ra_
def atm(n:zbq):zl8:=⟨n.kind==2,n.b⟩
def zqK(sg:Bool)(l0:B):Nat->List zl8->Bool->B->(List zl8×B×Option B)⊕(Bool×B×Option B)
 |0,acc,_,l=>.inl (acc,l,none)
 | k+1,acc,ps,l=>bif l==[] then .inl (acc,l,none) else bif hdB 42 l then
    (bif ps then (bif (bif !sg then true else decide (l.length+1<l0.length)) then .inr (false,l,some l) else bif hdB 47 l.tail then .inr (true,l.tail,none) else .inr (false,l,some l))
     else zqK sg l0 k (acc++[⟨true,0⟩]) true l.tail)
  else match zen l with
   | .stop=>.inl (acc,l,none)| .bad e=>.inl (acc,l,some e)| .byte c r=>zqK sg l0 k (acc++[⟨false,(c.toNat:Int)⟩]) false r
def mapR:(List zbq×B×Option B)⊕(Bool×B×Option B)->(List zl8×B×Option B)⊕(Bool×B×Option B)| .inl (a,l,e)=>.inl (a.map atm,l,e)| .inr z=>.inr z
theorem ztH(r:B):((42::r:B).take 2==[42,47])=hdB 47 r:=by
 cases r with
 |nil=>rfl|cons c t=>simp[hdB]
theorem zsy(sg sp:Bool)(l0:B)(hsg:sg=sp\/(sp=true/\(47:UInt8)∉l0)):∀(k:Nat)(acc:List zbq)(l:B),l.length<k->l <:+ l0->(0<acc.length↔l.length<l0.length) ->
  zqK sg l0 k (acc.map atm) false l=mapR (zhW sp k acc l)
 |0,_,_,hk,_,_=>by omega
 |k+1,acc,l,hk,hl,ha=>by
   unfold zhW zqK;cases l with
   |nil=>rfl|cons c r =>
     rw[show ((c::r)==([]:B))=false from rfl,cond_false];simp only[yAi] at hk ha;cases h42:hdB 42 (c::r) with
     |true =>
       simp only[cond_true,cond_false,yBb];obtain rfl:c=42:=by simpa[hdB] using h42
       have hr:r <:+ l0:=(yAP _ _).trans hl;have hrl:=hl.length_le;simp only[yAi] at hrl;cases k with
       |zero=>omega|succ k =>
         cases h2:hdB 42 r with
         |true =>
           obtain ⟨t,rfl⟩:=zbh h2;rw[cond_true,ztH];unfold zqK;rw[show ((42::t)==([]:B))=false from rfl,cond_false,h2,cond_true,cond_true,yBb];have hc:decide ((42::t:B).length+1<l0.length)=decide (0<len acc):=by simp only[yAi] at ha ⊢;refine decide_eq_decide.2 ?_;unfold len;omega
           rw[hc];rcases hsg with rfl|⟨rfl,hno⟩;·cases sg<;>cases decide (0<len acc)<;>cases hdB 47 t<;>rfl
           ·have h47:hdB 47 t=false:=by
             cases t with
             |nil=>rfl|cons x u =>simp only[hdB,beq_eq_false_iff_ne];intro e;subst e;exact hno (hr.subset (by simp))
            rw[h47];cases sg<;>cases decide (0<len acc)<;>rfl
         |false =>rw[cond_false];have ih:=zsy sg sp l0 hsg (k+1) (acc++[⟨2,0⟩]) r (by omega) hr ⟨λ_=>by omega,λ_=>by simp⟩;rw[<-ih];rw[List.map_append];show zqK sg l0 (k+1) (acc.map atm++[⟨true,0⟩]) true r=zqK sg l0 (k+1) (acc.map atm++[⟨true,0⟩]) false r;unfold zqK;rw[h2];rfl
     |false =>
       simp only[cond_false];have ho:=zf7 (l:=c::r);cases hc:zen (c::r) with
       |stop=>rfl|bad e=>rfl|byte d t =>obtain ⟨g1,g2⟩:=ho.2 d t hc;have hrl:=hl.length_le;simp only[yAi] at g2 hrl;dsimp only;refine Eq.trans ?_ (zsy sg sp l0 hsg k (acc++[Gt.Nd_.mk 1 (d.toNat:Int)]) t (by omega) (g1.trans hl) ⟨λ_=>by omega,λ_=>by simp⟩);rw[List.map_append];rfl
end Pe.Tryz
end
section
/- The reference's reader of patterns: what globs returns. -/
set_option maxRecDepth 100000
namespace Pe.Tryz
open Go Go.Proofs Pe Pe.Told
def zgT(s l0 l:B):Bool:=bif decide (l.length<l0.length) then (s.getD (P s l - 1) 0==42) else false
theorem zkn{s l:B}(h:l <:+ s)(k:Nat):s.getD (P s l+k) 0=l.getD k 0:=by rw[yAE,zpc h,yAE]
theorem zom{s l0 t:B}(h0:l0 <:+ s)(h:42::t <:+ l0):zgT s l0 t=true:=by have h1:=h.length_le;have h2:=h.trans h0;simp only[yAi] at h1;unfold zgT;rw[decide_eq_true (by omega),cond_true,zbt h2,yCo];have:=zkn h2 0;rw[yBl] at this;rw[this];rfl
theorem hex42{c:UInt8}(h:decide (zc5 c<0)=false):(c==42)=false:=by have:=all8 (p:=λc=>decide (zc5 c<0)|| !(c==42)) (by decide+kernel) c;rw[h] at this;simpa using this
theorem zon{s l0 l r:B}{c:UInt8}(h0:l0 <:+ s)(h:l <:+ l0)(h42:hdB 42 l=false)(hc:zen l= .byte c r):zgT s l0 r=false:=by
 unfold zgT;cases decide (r.length<l0.length) with
 |false=>rfl|true =>
   rw[cond_true];have hs:=h.trans h0;cases l with
   |nil=>cases hc|cons x y =>
     unfold zen at hc;dsimp only at hc;cases h37:(x==37) with
     |false =>
       rw[h37] at hc;simp only[cond_false] at hc;cases hst:zkL x with
       |true=>rw[hst] at hc;cases hc|false =>rw[hst] at hc;cases hc;rw[zbt hs,yCo];have:=zkn hs 0;rw[yBl] at this;rw[this];exact h42
     |true =>
       rw[h37] at hc;simp only[cond_true] at hc
       match y,hc with
       |[],hc=>cases hc|d::r1,hc =>
         dsimp only at hc;cases hd:decide (zc5 d<0) with
         |true=>rw[hd] at hc;cases hc|false =>
           rw[hd] at hc;simp only[cond_false] at hc
           match r1,hc with
           |[],hc=>cases hc|e::r2,hc =>
             dsimp only at hc;cases he:decide (zc5 e<0) with
             |true=>rw[he] at hc;cases hc|false =>
               rw[he] at hc;cases hc;have e1:=zbt hs;have e2:=zbt (za4 hs);have e3:=zbt (za4 (za4 hs));have:=zkn hs 2;have e4:P s r - 1=P s (x::d::e::r)+2:=by omega
               rw[e4,this];exact hex42 he
theorem zmm{R σ:Type}{f:σ->Option (σ⊕R)}(sg:Bool)(mk:List zl8->B->σ)(out:(List zl8×B×Option B)⊕(Bool×B×Option B)->R)(s l0:B)(h0:l0 <:+ s)
  (h:∀acc l,l <:+ l0->acc.length+l.length<=3000->f (mk acc l)=bif l==[] then some (.inr (out (.inl (acc,l,none)))) else bif hdB 42 l then
   (bif zgT s l0 l then (bif (bif !sg then true else decide (l.length+1<l0.length)) then some (.inr (out (.inr (false,l,some l)))) else bif hdB 47 l.tail then some (.inr (out (.inr (true,l.tail,none)))) else some (.inr (out (.inr (false,l,some l)))))
    else some (.inl (mk (acc++[⟨true,0⟩]) l.tail)))
  else match zen l with
   | .stop=>some (.inr (out (.inl (acc,l,none))))| .bad e=>some (.inr (out (.inl (acc,l,some e))))| .byte c r=>some (.inl (mk (acc++[⟨false,(c.toNat:Int)⟩]) r))) :
  ∀k acc l,l.length<k->l <:+ l0->acc.length+l.length<=3000->zau f (mk acc l)=some (out (zqK sg l0 k acc (zgT s l0 l) l))
 |0,_,_,hk,_,_=>by omega
 |k+1,acc,l,hk,hl,hb=>by
   have h1:=h acc l hl hb;unfold zqK;cases l with
   |nil=>exact zao h1|cons c r =>
     rw[show ((c::r)==([]:B))=false from rfl,cond_false] at h1 ⊢;simp only[yAi] at hk hb;cases h42:hdB 42 (c::r) with
     |true =>
       rw[h42] at h1;obtain rfl:c=42:=by simpa[hdB] using h42
       simp only[cond_true,yBb] at h1 ⊢;cases hp:zgT s l0 (42::r) with
       |true =>
         rw[hp] at h1;simp only[cond_true] at h1 ⊢;cases hc:(bif !sg then true else decide ((42::r:B).length+1<l0.length)) with
         |true=>rw[hc] at h1;exact zao h1|false =>
           rw[hc] at h1;cases h47:hdB 47 r with
           |true=>rw[h47] at h1;exact zao h1|false=>rw[h47] at h1;exact zao h1
       |false =>rw[hp] at h1;simp only[cond_false] at h1 ⊢;rw[zay h1,zmm sg mk out s l0 h0 h k _ r (by omega) ((yAP _ _).trans hl) (by simp;omega),zom h0 hl]
     |false =>
       rw[h42] at h1;simp only[cond_false] at h1 ⊢;have ho:=zf7 (l:=c::r);cases hc:zen (c::r) with
       |stop=>rw[hc] at h1;exact zao h1|bad e=>rw[hc] at h1;exact zao h1|byte d t =>rw[hc] at h1;obtain ⟨g1,g2⟩:=ho.2 d t hc;simp only[yAi] at g2;rw[zay h1,zmm sg mk out s l0 h0 h k _ t (by omega) (g1.trans hl) (by simp;omega),zon h0 hl h42 hc]
end Pe.Tryz
end
section
/- The reference's globs. -/
set_option maxRecDepth 100000
namespace Pe.Tryz
open Go Go.Proofs Pe Pe.Told
def rgOut(s:B):(List zl8×B×Option B)⊕(Bool×B×Option B)->(List zl8×B×Int×Bool×Unit)⊕(((RR×Unit)×(List zl8×Bool×Unit))⊕Unit)| .inl (acc,l,e)=>.inl (acc,s,((P s (e.getD l):Nat):Int),e.isSome,())| .inr (deep,l,e)=>.inr (.inl ((Gt.Rr_.mk s ((P s l:Nat):Int) e.isSome,()),([],deep,())))
theorem zpB(c:UInt8):((c.toNat:Int)==42)=(c==42):=eq8 (f:=λc=>((c.toNat:Int)==42)) (g:=λc=>(c==42)) (by decide+kernel) c
theorem zki(sp:Bool):∀(k:Nat)(acc:List zbq)(l:B),match zhW sp k acc l with
  | .inl (a,r,_)=>acc.length<=a.length/\(a.length=acc.length->r=l)| .inr (_,r,e)=>e.getD r=r
 |0,acc,l=>⟨yAj _,λ_=>rfl⟩|k+1,acc,l=>by
   unfold zhW;cases h42:hdB 42 l with
   |true =>
     simp only[cond_true];cases hdB 42 l.tail with
     |true =>simp only[cond_true];cases (bif (bif !sp then true else decide (0<len acc)) then true else !(l.tail.take 2==[42,47]))<;>rfl|false =>
       simp only[cond_false];have ih:=zki sp k (acc++[⟨2,0⟩]) l.tail;revert ih;cases zhW sp k (acc++[⟨2,0⟩]) l.tail with
       |inl z=>obtain ⟨a,r,e⟩:=z;intro ih;have:=ih.1;simp at this;exact ⟨by omega,λh=>by omega⟩
       |inr z=>exact id
   |false =>
     simp only[cond_false];cases hc:zen l with
     |stop=>exact ⟨yAj _,λ_=>rfl⟩|bad e=>exact ⟨yAj _,λ_=>rfl⟩|byte c t =>
       dsimp only;have ih:=zki sp k (acc++[⟨1,(c.toNat:Int)⟩]) t;revert ih;cases zhW sp k (acc++[⟨1,(c.toNat:Int)⟩]) t with
       |inl z=>obtain ⟨a,r,e⟩:=z;intro ih;have:=ih.1;simp at this;exact ⟨by omega,λh=>by omega⟩
       |inr z=>exact id
theorem G53(n:Nat){s l:B}(h0:l <:+ s)(hs:s.length<=3000)(sg sp:Bool)(hsg:sg=sp\/(sp=true/\(47:UInt8)∉l)) :
  @Eq (ERR (List zl8×Bool×Unit)) ((zal (n+3)).e 53 [.ptr 0 0,.bool sg] [102] [(.st 6)] ((Gt.Rr_.mk s ((P s l:Nat):Int) false,()):RR×Unit) [(.sl (.st 4)),.bool] [] 0)
   (some (.inl ((Gt.Rr_.mk s ((P s ((zaf sp l).2.2.2.getD (zaf sp l).2.2.1):Nat):Int) (zaf sp l).2.2.2.isSome,()),((zaf sp l).1.map atm,(zaf sp l).2.1,())))):=by
 rw[show @Eq (ERR (List zl8×Bool×Unit)) ((zal (n+3)).e 53 [.ptr 0 0,.bool sg] [102] [(.st 6)] ((Gt.Rr_.mk s ((P s l:Nat):Int) false,()):RR×Unit) [(.sl (.st 4)),.bool] [] 0) _ from q53 (n+2) _ _];unfold m53;dsimp only;have hPle:∀x:B,x <:+ l->(((P s l:Nat):Int)<((P s x:Nat):Int))=(x.length<l.length):=λx hx=>by have a:=zel h0;have b:=zel (hx.trans h0);have c:=hx.length_le;exact propext ⟨λh=>by omega,λh=>by omega⟩
 have hpv0:zgT s l l=false:=by unfold zgT;rw[decide_eq_false (by omega)];rfl
 refine zaA (zmm sg (λacc x=>(acc,s,((P s x:Nat):Int),false,())) (rgOut s) s l h0 (λacc x hx hb=>?_) (l.length+1) [] l (yBX _) (yBp _) (by have:=h0.length_le;simp;omega)) ?_
 ·have hxs:=hx.trans h0;dsimp only;rw[yAU,zad,zgN hxs,zaa,zaa];cases hnil:(x==[]) with
  |true =>
    obtain rfl:x=[]:=by simpa using hnil
    rfl
  |false =>
    cases x with
    |nil=>cases hnil|cons c r =>
      have hr:=za4 hxs;have hPr:=zbt hxs;simp only[yAi] at hb;rw[yAU,zad,cond_false,zft hxs];simp only[yAC,zaa];rw[zpB,show hdB 42 (c::r)=(c==42) from rfl];cases h42:(c==42) with
      |true =>
        obtain rfl:c=42:=by simpa using h42
        rw[zad,cond_true,yBb];have hpv:(ob (br (decide (((P s l:Nat):Int)<((P s (42::r):Nat):Int))) (ob (at? s (IntKind.i64.wrap (((P s (42::r):Nat):Int) - 1))) λc6=>(some ((UInt8.toNat c6:Int)==42))) (some false)) λb=>some b)=some (zgT s l (42::r)):=by
         rw[show decide (((P s l:Nat):Int)<((P s (42::r):Nat):Int))=decide ((42::r:B).length<l.length) from decide_eq_decide.2 (iff_of_eq (hPle _ hx))];unfold zgT;cases hd:decide ((42::r:B).length<l.length) with
         |false=>rfl|true =>have hd:=of_decide_eq_true hd;have a:=zel h0;have b:=zel hxs;rw[zad,cond_true,zbT (by omega) (by omega),show ((P s (42::r):Nat):Int) - 1=((P s (42::r) - 1:Nat):Int) by omega,zaX (by omega),zaa,zpB,zaa];rw[yAE,yAh (by omega)];rfl
        have hpv2:br (decide (((P s l:Nat):Int)<((P s (42::r):Nat):Int))) (ob (at? s (IntKind.i64.wrap (((P s (42::r):Nat):Int) - 1))) λc6=>(some ((UInt8.toNat c6:Int)==42))) (some false)=some (zgT s l (42::r)):=(by rw[<-hpv];cases br (decide (((P s l:Nat):Int)<((P s (42::r):Nat):Int))) (ob (at? s (IntKind.i64.wrap (((P s (42::r):Nat):Int) - 1))) λc6=>(some ((UInt8.toNat c6:Int)==42))) (some false)<;>rfl);rw[hpv2,zaa];cases zgT s l (42::r) with
        |false=>rw[zab,cond_false,zbj (by simp[lim];omega),zaa,zbD hs,<-hPr]|true =>
          rw[zad,cond_true,zav,zaa];have hdc:decide (IntKind.i64.wrap (((P s l:Nat):Int)+1)<((P s (42::r):Nat):Int))=decide ((42::r:B).length+1<l.length):=by rw[zbD hs];have a:=zel h0;have b:=zel hxs;exact decide_eq_decide.2 ⟨λh=>by omega,λh=>by omega⟩
          rw[hdc];cases (bif !sg then true else decide ((42::r:B).length+1<l.length)) with
          |true=>rfl|false =>
            have hG: @Eq (ERR (Bool×Unit)) ((zal (n+2)).e 54 [.ptr 0 0,.int .u8 47] [102] [(.st 6)] ((Gt.Rr_.mk s ((P s r:Nat):Int) false,()):RR×Unit) [.bool] [] 0) (some (.inl ((Gt.Rr_.mk s ((P s (isE 47 r false).2:Nat):Int) false,()),((isE 47 r false).1,())))):=G54 (n+1) 47 rfl hr hs;rw[zab,cond_false,zbD hs,<-hPr,hG,zaH];dsimp only;cases h47:hdB 47 r with
            |true =>obtain ⟨t,rfl⟩:=zbh h47;have e5:=zbt hr;have hi:isE 47 (47::t) false=(true,t):=rfl;rw[hi];simp only[yA7,zab,cond_true];have a:=zuN s t;rw[zbT (by omega) (by omega),show ((P s t:Nat):Int) - 1=((P s (47::t):Nat):Int) by omega];rfl
            |false =>
              have hi:isE 47 r false=(false,r):=by
               cases r with
               |nil=>rfl|cons d t=>simp only[hdB] at h47;simp only[isE,rIs,cond_false,h47]
              rw[hi];simp only[yAU,zad,cond_false];have a:=zuN s r;rw[zbT (by omega) (by omega),show ((P s r:Nat):Int) - 1=((P s (42::r):Nat):Int) by omega];rfl
      |false =>
        rw[zab,cond_false,G109 n hxs hs (by simp),zaH];cases hc:zen (c::r) with
        |stop =>rw[zli hc];simp only[zab,zaa,beq_self_eq_true,zad];rfl|bad e=>rw[zf5 hc];rfl|byte d t =>rw[ziq hc];have g:=(zf7 (l:=c::r)).2 d t hc;have a:=zel hxs;have b:=zel (g.1.trans hxs);simp only[yAi] at g a;simp only[zab,zaa];rw[show (((P s t:Nat):Int)==((P s (c::r):Nat):Int))=false by rw[beq_eq_false_iff_ne];have:=g.2;omega,zab,zbj (by simp[lim];omega)];rfl
 ·rw[hpv0,show ([]:List zl8)=([]:List zbq).map atm from rfl,zsy sg sp l hsg (l.length+1) [] l (yBX _) (yBp _) ⟨λh=>by simp at h,λh=>by omega⟩];have hsf:=zhV sp (l.length+1) [] l;have hen:=zki sp (l.length+1) [] l;unfold zaf;revert hsf hen;cases zhW sp (l.length+1) [] l with
  |inr z =>obtain ⟨d,r,e⟩:=z;intro hsf hen;dsimp only at hen ⊢;rw[hen];rfl
  |inl z =>
    obtain ⟨acc,r,e⟩:=z;intro hsf hen;dsimp only at hsf hen ⊢;simp only[yAZ,yAH] at hsf hen;show zaJ (some (.inl (acc.map atm,s,((P s (e.getD r):Nat):Int),e.isSome,()))) _=_;rw[zai];dsimp only;rw[G107,zaH];dsimp only;have hg:(bif len acc==0 then some (e.getD r) else e).getD r=e.getD r:=by cases (len acc==0)<;>rfl
    have hb:(e.isSome|| !decide (((P s l:Nat):Int)<((P s (e.getD r):Nat):Int)))=(bif len acc==0 then some (e.getD r) else e).isSome:=by
     cases e with
     |some x=>cases (len acc==0)<;>rfl|none =>
       have h1:decide (((P s l:Nat):Int)<((P s r:Nat):Int))=decide (r.length<l.length):=decide_eq_decide.2 (iff_of_eq (hPle r hsf.1));show (false|| !decide (((P s l:Nat):Int)<((P s r:Nat):Int)))=_;rw[h1];cases hz:(len acc==0) with
       |true =>
         have h0:acc.length=0:=by have:len acc=0:=by simpa using hz
                                  unfold len at this;omega
         rw[hen.2 h0,decide_eq_false (by omega)];rfl
       |false =>
         have h0:acc.length≠0:=λh0=>by rw[show len acc=0 by unfold len;omega] at hz;simp at hz
         rw[decide_eq_true (by have:=hsf.2.2;omega)];rfl
    rw[hb,hg]
end Pe.Tryz
end
section
/- The reference's kind. -/
set_option maxRecDepth 100000
namespace Pe.Tryz
open Go Go.Proofs Pe Pe.Told
def st(p:UInt8)(l:B)(b:Bool):B×Bool:=bif b then (l,true) else match l with
 |[]=>([],true)|d::r=>bif low d==p then (r,false) else (d::r,true)
theorem zm0{p:UInt8}{l:B}{b:Bool}:(st p l b).1 <:+ l:=by
 unfold st;cases b with
 |true=>exact yBp _|false =>
   cases l with
   |nil=>exact yBp _|cons d r =>
     simp only[cond_false];cases (low d==p) with
     |true=>exact yAP _ _|false=>exact yBp _
theorem zrV(ps:B):∀l:B,ps.foldl (λ(q:B×Bool) p=>st p q.1 q.2) (l,true)=(l,true):=by
 induction ps with
 |nil=>intro l;rfl
 |cons p ps ih=>intro l;exact ih l
theorem zrU:∀(ps l:B),ps.foldl (λ(q:B×Bool) p=>st p q.1 q.2) (l,false)=match zj6 ps l with
  | .inl r=>(r,false)| .inr e=>(e,true)
 |[],l=>rfl|p::ps,[]=>zrV ps []|p::ps,d::l=>by
   show ps.foldl _ (bif low d==p then (l,false) else (d::l,true))=match (bif low d==p then zj6 ps l else .inr (d::l)) with
    | .inl r=>(r,false)| .inr e=>(e,true)
   cases (low d==p) with
   |true=>exact zrU ps l|false=>exact zrV ps (d::l)
theorem st_t{p:UInt8}(hp:∀d,(d==p)=true->(low d==p)=true){l:B}{b:Bool}(h:(isE p l b).1=true):st p l b=((isE p l b).2,b):=by
 unfold st isE rIs at *
 cases b with
 |true=>cases h|false =>
   cases l with
   |nil=>cases h|cons d r =>
     simp only[cond_false] at *
     cases hd:(d==p) with
     |false=>rw[hd] at h;cases h|true=>rw[hp d hd];rfl
theorem st_f{p q:UInt8}(hp:∀d,(low d==p)=((d==p)||(d==q))){l:B}{b:Bool}(h:(isE p l b).1=false):(isE p l b).2=l/\st p l b=((isE q l b).2,b|| !(isE q l b).1):=by
 unfold st isE rIs at *
 cases b with
 |true=>exact ⟨rfl,rfl⟩|false =>
   cases l with
   |nil=>exact ⟨rfl,rfl⟩|cons d r =>
     simp only[cond_false] at *
     cases hd:(d==p) with
     |true=>rw[hd] at h;cases h|false =>refine ⟨rfl,?_⟩;rw[hp d,hd,yB2];cases (d==q)<;>rfl
theorem st_58(l:B)(b:Bool):st 58 l b=((isE 58 l b).2,b|| !(isE 58 l b).1):=by
 have hp:∀d,(low d==58)=(d==58):=λd=>eq8 (f:=λd=>(low d==58)) (g:=λd=>(d==58)) (by decide+kernel) d;unfold st isE rIs;cases b with
 |true=>rfl|false =>
   cases l with
   |nil=>rfl|cons d r =>simp only[cond_false,hp d];cases (d==58)<;>rfl
theorem ztS(d:UInt8):(low d==112)=((d==112)||(d==80)):=eq8 (f:=λd=>(low d==112)) (g:=λd=>((d==112)||(d==80))) (by decide+kernel) d
theorem ztT(d:UInt8):(low d==107)=((d==107)||(d==75)):=eq8 (f:=λd=>(low d==107)) (g:=λd=>((d==107)||(d==75))) (by decide+kernel) d
theorem ztU(d:UInt8):(low d==103)=((d==103)||(d==71)):=eq8 (f:=λd=>(low d==103)) (g:=λd=>((d==103)||(d==71))) (by decide+kernel) d
theorem zmf(n:Nat){s l:B}{b:Bool}(h:l <:+ s)(hs:s.length<=3000)(p q:UInt8){pi qi:Int}(hpi:pi=(p.toNat:Int))(hqi:qi=(q.toNat:Int))(hp:∀d,(low d==p)=((d==p)||(d==q))){R:Type}(K:B->Int->Bool->Option R)(X:Option R) :
  oc (α:=((RR×Unit)×(Bool×Unit))) (β:=Unit) ((zal (n+1)).e 54 [.ptr 0 0,.int .u8 pi] [102] [(.st 6)] ((Gt.Rr_.mk s ((P s l:Nat):Int) b,()):RR×Unit) [.bool] [] 0) (λr4=>br r4.2.1 (oc (α:=((RR×Unit)×Unit)) (β:=Unit) ((zal (n+1)).e 107 [.ptr 0 0,.bool true] [102] [(.st 6)] ((r4.1.1,()):RR×Unit) [] [] 0) (λr5=>K r5.1.1.s r5.1.1.at_ r5.1.1.bad) λ_=>X) (oc (α:=((RR×Unit)×(Bool×Unit))) (β:=Unit) ((zal (n+1)).e 54 [.ptr 0 0,.int .u8 qi] [102] [(.st 6)] ((r4.1.1,()):RR×Unit) [.bool] [] 0) (λr7=>oc (α:=((RR×Unit)×Unit)) (β:=Unit) ((zal (n+1)).e 107 [.ptr 0 0,.bool r7.2.1] [102] [(.st 6)] ((r7.1.1,()):RR×Unit) [] [] 0) (λr8=>K r8.1.1.s r8.1.1.at_ r8.1.1.bad) λ_=>X) λ_=>X)) (λ_=>X)=K s ((P s (st p l b).1:Nat):Int) (st p l b).2:=by
 rw[G54 n p hpi h hs,zaH];dsimp only;cases hi:(isE p l b).1 with
 |true =>rw[st_t (λd hd=>by rw[hp d,hd];rfl) hi,zad,G107,zaH];cases b<;>rfl|false =>obtain ⟨e1,e2⟩:=st_f hp hi;rw[e1,e2,zab,G54 n q hqi h hs,zaH];dsimp only;rw[G107,zaH]
end Pe.Tryz
end
section
/- The reference's kind, 2. -/
set_option maxRecDepth 100000
namespace Pe.Tryz
open Go Go.Proofs Pe Pe.Told
theorem s108(o:Orc Sx){s:List UInt8}(h:s.length<=1000000000):m108 o s=some (zaY s,()):=by
 unfold m108;rw[zcm s (by simp[lim];omega)];simp only[zaa];refine zaA (zec (A:=Unit) (λk _=>((k:Int),zi8 s k,())) s.length (λ_ _=>.inl (zi8 s s.length,())) (λ_ _=>True) (λk _ hk _=>?_) 0 () (yAD _) trivial) ?_
 ·by_cases hlt:k<s.length
  ·left;refine ⟨(),hlt,?_,trivial,rfl⟩;simp only[len,zbi,yCy,hlt,decide_true,zkk (show k<(zi8 s k).length by rw[zgo];exact hlt),zaa,zkm hlt,zav,zaD hlt (by omega)];have:=zgn hlt;rw[<-low2] at this;cases hc:(bif decide (65<=((s[k]).toNat:Int)) then decide (((s[k]).toNat:Int)<=90) else false) with
   |true=>rw[hc] at this;rw[this];rfl|false=>rw[ziH hlt hc];rfl
  ·right;obtain rfl:k=s.length:=by omega
   simp[len,zbi,zab]
 ·simp only[zai,zkl]
theorem L108(n:Nat){s:List UInt8}(h:s.length<=1000000000): @Eq (Option (List UInt8×Unit)) ((zal (n+1)).d 108 [.str s] [.str]) (some (zaY s,())):=(q108 n _).trans (s108 _ h)
def zds(k:B):B:=bif k==[42] then [] else k
theorem let42(c:UInt8):(!(zcG c)|| !(low c==42))=true:=eq8 (f:=λc=>(!(zcG c)|| !(low c==42))) (g:=λ_=>true) (by decide+kernel) c
theorem zme{k:UInt8}{ks:B}(h:zcG k=true/\∀x∈ks,zcG x=true):zds (zaY (k::ks))=zaY (k::ks):=by
 unfold zds;have h1:=let42 k;rw[h.1] at h1;have h2:(low k==42)=false:=by simpa using h1
 have:(zaY (k::ks)==[42])=false:=by
  rw[beq_eq_false_iff_ne];intro e;have e2:low k=42:=by have:=congrArg (λz:B=>z.head?) e;simpa[zaY] using this
  rw[e2] at h2;cases h2
 rw[this];rfl
theorem G54b(n:Nat){s l:B}(c:Int) :
  @Eq (ERR (Bool×Unit)) ((zal (n+1)).e 54 [.ptr 0 0,.int .u8 c] [102] [(.st 6)] ((Gt.Rr_.mk s ((P s l:Nat):Int) true,()):RR×Unit) [.bool] [] 0) (some (.inl ((Gt.Rr_.mk s ((P s l:Nat):Int) true,()),(false,())))):=by
 rw[q54];rfl
theorem G52(n:Nat){s:B}(hs:s.length<=3000):∃z:B,@Eq (ERR (B×Unit)) ((zal (n+2)).e 52 [.ptr 0 0] [102] [(.st 6)] ((Gt.Rr_.mk s 0 false,()):RR×Unit) [.str] [] 0) (some (.inl ((Gt.Rr_.mk s ((P s (fin (zas s)):Nat):Int) (zlT (zas s)),()),(z,()))))/\((zas s).2.2=none->z=zds (zas s).1)/\fin (zas s) <:+ s:=by
 rw[q52];unfold m52;dsimp only;have hp:=zrU [112,107,103,58] s;simp only[yBt,List.foldl_nil] at hp;rcases h1:st 112 s false with ⟨l1,b1⟩;rw[h1] at hp;have s1:l1 <:+ s:=by have:=zm0 (p:=112) (l:=s) (b:=false);rw[h1] at this;exact this
 rcases h2:st 107 l1 b1 with ⟨l2,b2⟩;simp only[h2] at hp;have s2:l2 <:+ s:=by have:=zm0 (p:=107) (l:=l1) (b:=b1);rw[h2] at this;exact this.trans s1
 rcases h3:st 103 l2 b2 with ⟨l3,b3⟩;simp only[h3] at hp;have s3:l3 <:+ s:=by have:=zm0 (p:=103) (l:=l2) (b:=b2);rw[h3] at this;exact this.trans s2
 rcases h4:st 58 l3 b3 with ⟨l4,b4⟩;rw[h4] at hp;have s4:l4 <:+ s:=by have:=zm0 (p:=58) (l:=l3) (b:=b3);rw[h4] at this;exact this.trans s3
 rw[st_58] at h4;have hz:((P s s:Nat):Int)=0:=by simp[P]
 have hfalse:b4=false->zas s=zef l4/\l4.dropWhile zcG <:+ s/\decide (((P s l4:Nat):Int)<((P s (l4.dropWhile zcG):Nat):Int))= !(l4.takeWhile zcG==[])/\(l4.takeWhile zcG).length<=1000000000:=by
  intro hb;subst hb;have he:zj6 [112,107,103,58] s= .inl l4:=by
   cases hq:zj6 [112,107,103,58] s with
   |inl r=>rw[hq] at hp;cases hp;rfl|inr e=>rw[hq] at hp;cases hp
  have hh:zas s=zef l4:=by unfold zas;rw[he]
  have hd:l4.dropWhile zcG <:+ s:=(List.dropWhile_suffix zcG).trans s4;have hdec:decide (((P s l4:Nat):Int)<((P s (l4.dropWhile zcG):Nat):Int))= !(l4.takeWhile zcG==[]):=by
   have e:l4.takeWhile zcG++l4.dropWhile zcG=l4:=List.takeWhile_append_dropWhile;have e2:=congrArg List.length e;rw[yAr] at e2;have p1:=zel s4;have p2:=zel hd;cases htw:l4.takeWhile zcG with
   |nil=>rw[htw] at e2;exact decide_eq_false (by simp at e2;omega)|cons k ks=>rw[htw] at e2;exact decide_eq_true (by simp at e2;omega)
  have hlen:(l4.takeWhile zcG).length<=1000000000:=by have:=(List.takeWhile_prefix zcG (l:=l4)).length_le;have:=s4.length_le;omega
  exact ⟨hh,hd,hdec,hlen⟩
 refine ⟨zaY (bif b4 then [] else bif hdB 42 l4 then [] else l4.takeWhile zcG),?_,?_,?_⟩
 ·refine zaA ((zay (y:=(1,s,((P s l1:Nat):Int),b1,())) ?_).trans ((zay (y:=(2,s,((P s l2:Nat):Int),b2,())) ?_).trans ((zay (y:=(3,s,((P s l3:Nat):Int),b3,())) ?_).trans (zao (r:= .inl (s,((P s l3:Nat):Int),b3,())) rfl)))) ?_;·dsimp only;have this:=zmf n (b:=false) (yBp s) hs 112 80 (pi:=112) (qi:=80) rfl rfl ztS (R:=((Int×B×Int×Bool×Unit)⊕((B×Int×Bool×Unit)⊕(((RR×Unit)×(B×Unit))⊕Unit)))) (λx a b=>some (.inl (1,x,a,b,()))) (some (.inr (.inr (.inr ()))));rw[hz,h1] at this;exact this
  ·dsimp only;have this:=zmf n (b:=b1) s1 hs 107 75 (pi:=107) (qi:=75) rfl rfl ztT (R:=((Int×B×Int×Bool×Unit)⊕((B×Int×Bool×Unit)⊕(((RR×Unit)×(B×Unit))⊕Unit)))) (λx a b=>some (.inl (2,x,a,b,()))) (some (.inr (.inr (.inr ()))));rw[h2] at this;exact this
  ·dsimp only;have this:=zmf n (b:=b2) s2 hs 103 71 (pi:=103) (qi:=71) rfl rfl ztU (R:=((Int×B×Int×Bool×Unit)⊕((B×Int×Bool×Unit)⊕(((RR×Unit)×(B×Unit))⊕Unit)))) (λx a b=>some (.inl (3,x,a,b,()))) (some (.inr (.inr (.inr ()))));rw[h3] at this;exact this
  simp only[zai];rw[G54 (ci:=58) n 58 rfl s3 hs,zaH];dsimp only;rw[G107,zaH];dsimp only;have h4a:(isE 58 l3 b3).2=l4:=(Prod.ext_iff.1 h4).1;have h4b:(b3|| !(isE 58 l3 b3).1)=b4:=(Prod.ext_iff.1 h4).2;rw[h4a,h4b];cases hb:b4 with
  |true =>
    subst hb;have he:zj6 [112,107,103,58] s= .inr l4:=by
     cases hq:zj6 [112,107,103,58] s with
     |inl r=>rw[hq] at hp;cases hp|inr e=>rw[hq] at hp;cases hp;rfl
    have hh:zas s=([],s,some l4):=(by unfold zas;rw[he]);rw[hh,yA7,zab];refine zaA (zao (r:= .inl (s,((P s l4:Nat):Int),true,())) rfl) ?_;simp only[zai,cond_true];rw[zdQ (yAj _) (zuN s l4),zaa,Nat.sub_self,yCr,L108 n (show ([]:B).length<=1000000000 by simp),zaa,G107,zaH,decide_eq_false (Int.lt_irrefl _)];dsimp only;rw[show (true|| !false)=true from rfl,G54b,zaH,G107,zaH];rfl
  |false =>
    subst hb;obtain ⟨hh,hd,hdec,hlen⟩:=hfalse rfl;rw[hh];simp only[cond_false];rw[yAU,zad,G54 (ci:=42) n 42 rfl s4 hs,zaH];dsimp only;cases h42:hdB 42 l4 with
    |true =>
      obtain ⟨t,rfl⟩:=zbh h42;have ht:=za4 s4;rw[show isE 42 (42::t) false=(true,t) from rfl,zad,G54 (ci:=47) n 47 rfl ht hs,zaH];dsimp only;rw[G107,zaH];dsimp only;unfold zef isE rIs;rw[h42];cases t with
      |nil=>rfl|cons c r =>simp only[cond_true,cond_false,yBb,yB2];cases (c==47)<;>rfl
    |false =>
     rw[show isE 42 l4 false=(false,l4) by
      unfold isE rIs;cases l4 with
      |nil=>rfl|cons c r=>simp only[hdB] at h42;simp[h42],zab]
     have hkT:zef l4=zex l4:=(by unfold zef;rw[h42];rfl);rw[hkT];simp only[cond_false];refine zaA (zgD (R:=(B×Int×Bool×Unit)⊕(((RR×Unit)×(B×Unit))⊕Unit)) (λk=>(s,((k:Nat):Int),false,())) (λk=>.inl (s,((k:Nat):Int),false,())) s zcG 0 ?_ ?_ l4 s4 (yAD _)) ?_;·intro c t ht _;dsimp only;simp only[yAU,zad,zaa];rw[zgN ht,show ((c::t)==([]:B))=false from rfl];simp only[yAU,zad];rw[zft ht];simp only[yAC,zaa,zav];rw[show (bif (bif decide (97<=(c.toNat:Int)) then decide ((c.toNat:Int)<=122) else false) then true else bif decide (65<=(c.toNat:Int)) then decide ((c.toNat:Int)<=90) else false)=zcG c from eq8 (f:=λc=>bif (bif decide (97<=(c.toNat:Int)) then decide ((c.toNat:Int)<=122) else false) then true else bif decide (65<=(c.toNat:Int)) then decide ((c.toNat:Int)<=90) else false) (g:=zcG) (by decide+kernel) c];rw[zbD hs,<-zbt ht];cases zcG c<;>rfl
     ·dsimp only;simp only[yAU,zad,zaa];rw[zgN (l:=[]) yBQ];rfl
     ·simp only[zai];rw[zje (p:=zcG) s4,zaa,L108 n hlen,zaa,G107,zaH,hdec];dsimp only;rw[G54 (ci:=47) n 47 rfl hd hs,zaH];dsimp only;rw[G107,zaH];dsimp only;unfold zex isE rIs;cases l4.takeWhile zcG with
      |nil=>cases l4.dropWhile zcG<;>rfl|cons k ks =>
        cases l4.dropWhile zcG with
        |nil=>rfl|cons c r =>simp only[show ((k::ks:B)==[])=false from rfl,yAU,yA7,yCj,cond_false,yB2];cases (c==47)<;>rfl
 ·intro h;cases hb:b4 with
  |true =>
    subst hb;have he:zj6 [112,107,103,58] s= .inr l4:=by
     cases hq:zj6 [112,107,103,58] s with
     |inl r=>rw[hq] at hp;cases hp|inr e=>rw[hq] at hp;cases hp;rfl
    have hh:zas s=([],s,some l4):=(by unfold zas;rw[he]);rw[hh] at h;cases h
  |false =>
    obtain ⟨hh,hd,hdec,hlen⟩:=hfalse hb;rw[hh] at h ⊢;simp only[cond_false];cases h42:hdB 42 l4 with
    |true =>
     unfold zef at h ⊢;rw[h42] at h ⊢;simp only[cond_true] at h ⊢;cases htl:l4.tail with
     |nil=>rw[htl] at h;cases h|cons c r =>
      rw[htl] at h;simp only at h ⊢;cases hc:(c==47) with
      |false=>rw[hc] at h;cases h|true=>rfl
    |false =>
    have hkT:zef l4=zex l4:=(by unfold zef;rw[h42];rfl);rw[hkT] at h ⊢;simp only[cond_false];unfold zex at h ⊢;cases htw:l4.takeWhile zcG with
    |nil=>rw[htw] at h;cases hdw:l4.dropWhile zcG<;>rw[hdw] at h<;>cases h|cons k ks =>
      rw[htw] at h;cases hdw:l4.dropWhile zcG with
      |nil=>rw[hdw] at h;cases h|cons c r =>
        rw[hdw] at h;simp only at h ⊢;cases hc:(c==47) with
        |false=>rw[hc] at h;cases h|true =>have h2:(k::ks).all zcG=true:=(by rw[<-htw];exact List.all_takeWhile);exact (zme (by simpa using h2)).symm
 ·cases hb:b4 with
  |true =>
    subst hb;have he:zj6 [112,107,103,58] s= .inr l4:=by
     cases hq:zj6 [112,107,103,58] s with
     |inl r=>rw[hq] at hp;cases hp|inr e=>rw[hq] at hp;cases hp;rfl
    have hh:zas s=([],s,some l4):=(by unfold zas;rw[he]);rw[hh];exact s4
  |false =>
    obtain ⟨hh,hd,hdec,hlen⟩:=hfalse hb;rw[hh];cases h42:hdB 42 l4 with
    |true =>
     obtain ⟨t,rfl⟩:=zbh h42;have ht:=za4 s4;unfold fin zef;rw[h42];cases t with
     |nil=>exact ht|cons c r =>
       simp only[cond_true,yBb];cases (c==47) with
       |false=>exact ht|true=>exact za4 ht
    |false =>
    have hkT:zef l4=zex l4:=(by unfold zef;rw[h42];rfl);rw[hkT];unfold fin zex;cases l4.takeWhile zcG with
    |nil=>cases hdw:l4.dropWhile zcG<;>rw[hdw] at hd<;>exact hd|cons k ks =>
      cases hdw:l4.dropWhile zcG with
      |nil=>rw[hdw] at hd;exact hd|cons c r =>
        rw[hdw] at hd;simp only;cases (c==47) with
        |false=>exact hd|true=>exact za4 hd
end Pe.Tryz
end
section
/- The reference's pattern is read. -/
set_option maxRecDepth 100000
namespace Pe.Tryz
open Go Go.Proofs Pe Pe.Told
abbrev zaQ:=List zl8
def zj5:Nat->List zaQ->List Bool->B->List zaQ×List Bool×zaQ×B×Bool
 |0,sg,dp,l=>(sg,dp,[],l,false)|k+1,sg,dp,l=>match (zaf true l).2.2.2 with
   |some e=>(sg,dp,(zaf true l).1.map atm,e,true)
   | none=>bif hdB 47 (zaf true l).2.2.1 then zj5 k (sg++[(zaf true l).1.map atm]) (dp++[(zaf true l).2.1]) (zaf true l).2.2.1.tail
     else (sg,dp,(zaf true l).1.map atm,(zaf true l).2.2.1,false)
theorem zne{R σ:Type}{f:σ->Option (σ⊕R)}(mk:List zaQ->List Bool->B->σ)(out:List zaQ×List Bool×zaQ×B×Bool->R)(s:B)
  (h:∀sg dp l,l <:+ s->sg.length+l.length<=4000->dp.length+l.length<=4000->f (mk sg dp l)=match (zaf true l).2.2.2 with
   |some e=>some (.inr (out (sg,dp,(zaf true l).1.map atm,e,true)))
   | none=>bif hdB 47 (zaf true l).2.2.1 then some (.inl (mk (sg++[(zaf true l).1.map atm]) (dp++[(zaf true l).2.1]) (zaf true l).2.2.1.tail))
     else some (.inr (out (sg,dp,(zaf true l).1.map atm,(zaf true l).2.2.1,false)))) :
  ∀k sg dp l,l.length<k->l <:+ s->sg.length+l.length<=4000->dp.length+l.length<=4000->zau f (mk sg dp l)=some (out (zj5 k sg dp l))
 |0,_,_,_,hk,_,_,_=>by omega
 |k+1,sg,dp,l,hk,hl,h1,h2=>by
   have hf:=h sg dp l hl h1 h2;obtain ⟨i1,i2,i3,i4⟩:=zbg true l;unfold zj5;cases he:(zaf true l).2.2.2 with
   |some e=>rw[he] at hf;rw[zao hf]|none =>
     rw[he] at hf;dsimp only at hf ⊢;cases hb:hdB 47 (zaf true l).2.2.1 with
     |false=>rw[hb] at hf;rw[zao hf];rfl|true =>
       rw[hb] at hf;have h5:=(i4 he).1;have h6:(zaf true l).2.2.1.tail.length+1<=l.length:=by rw[yCw];omega
       rw[zay hf,zne mk out s h k _ _ _ (by omega) ((List.tail_suffix _).trans (i1.trans hl)) (by simp only[yAr,yAi,yAZ];omega) (by simp only[yAr,yAi,yAZ];omega)];rfl
theorem zq0{s l:B}(h:l <:+ s):zbu s ((P s l:Nat):Int) (len s)=some l:=by have h1:=zel h;have:=zhO h (yBQ (l:=l));rw[show ((P s ([]:B):Nat):Int)=len s by unfold P len;simp] at this;simpa using this
theorem idx47(l:B):decide (0<=Lib.indexByte l (UInt8.ofNat (Int.toNat 47)))=true\/(47:UInt8)∉l:=by
 cases hm:decide (0<=Lib.indexByte l (UInt8.ofNat (Int.toNat 47))) with
 |true=>exact .inl rfl|false =>right;rw[zgl] at hm;intro hc;rw[yBw] at hm;exact hm 47 hc rfl
theorem zr1(c:UInt8)(l:B):isE c l false=bif hdB c l then (true,l.tail) else (false,l):=by
 unfold isE rIs;cases l with
 |nil=>rfl|cons d r=>simp only[cond_false,hdB,yBb]
theorem zoC(n:Nat){s l:B}(h:l <:+ s)(hs:s.length<=3000) :
  @Eq (ERR (List zl8×Bool×Unit)) ((zal (n+3)).e 53 [.ptr 0 0,.bool (decide (0<=Lib.indexByte l (UInt8.ofNat (Int.toNat 47))))] [102] [(.st 6)] ((Gt.Rr_.mk s ((P s l:Nat):Int) false,()):RR×Unit) [(.sl (.st 4)),.bool] [] 0)
   (some (.inl ((Gt.Rr_.mk s ((P s ((zaf true l).2.2.2.getD (zaf true l).2.2.1):Nat):Int) (zaf true l).2.2.2.isSome,()),((zaf true l).1.map atm,(zaf true l).2.1,())))) :=
 G53 n h hs _ true ((idx47 l).imp id λh=>⟨rfl,h⟩)
end Pe.Tryz
end
section
/- The reference's readPattern. -/
set_option maxRecDepth 100000
namespace Pe.Tryz
open Go Go.Proofs Pe Pe.Told
theorem zul(k:List UInt8):c56 k=some (zdy k,()):=by
 by_cases h1:zeV=k;·subst h1;kernel_rfl
 by_cases h2:zdg=k;·subst h2;kernel_rfl
 by_cases h3:zeE=k;·subst h3;kernel_rfl
 by_cases h4:zbF=k;·subst h4;kernel_rfl
 by_cases h5:zeM=k;·subst h5;kernel_rfl
 have hp:zdy k= -1:=by simp[zdy,h1,h2,h3,h4,h5]
 rw[hp];have e1:=zjS h1;have e2:=zjS h2;have e3:=zjS h3;have e4:=zjS h4;have e5:=zjS h5;simp only[zeV,zdg,zeE,zbF,zeM] at e1 e2 e3 e4 e5;simp[c56,c40,ob,itC,ziC,br,at?,len,IntKind.wrap,IntKind.bits,IntKind.signed,e1,e2,e3,e4,e5,zaJ]
theorem L56(n:Nat)(k:List UInt8):(zal (n+2)).d 56 [.str k] [(.int .i64)]=some (zdy k,()):=zsc n k _ (zul k)
abbrev zqP:=Gt.Rp_
def zfY:zqP:=⟨[],[],[],[],false,[]⟩
def zii(x:List zaQ×List Bool×zaQ×B×Bool):B×Bool×Bool×zaQ:=bif x.2.2.2.2 then (x.2.2.2.1,true,false,[]) else bif hdB 64 x.2.2.2.1 then
    ((zaf false x.2.2.2.1.tail).2.2.2.getD (zaf false x.2.2.2.1.tail).2.2.1,(zaf false x.2.2.2.1.tail).2.2.2.isSome,true,(zaf false x.2.2.2.1.tail).1.map atm)
 else (x.2.2.2.1,false,false,[])
def zpp(s k:B)(x:List zaQ×List Bool×zaQ×B×Bool):zqP×Int×Int×Unit :=
 bif (bif (zii x).2.1 then true else !((zii x).1==[])) then (zfY,((P s (zii x).1:Nat):Int),6,())
 else bif (bif k != [] then decide (zdy k<0) else false) then (zfY,0,7,()) else bif decide (10<len x.1) then (zfY,0,3,())
 else (⟨k,x.1,x.2.1,x.2.2.1,(zii x).2.2.1,(zii x).2.2.2⟩,0,0,())
def zpo(s:B):zqP×Int×Int×Unit:=bif decide (3000<len s) then (zfY,0,3,()) else match (zas s).2.2 with
 |some e=>(zfY,((P s e:Nat):Int),6,())|none=>zpp s (zds (zas s).1) (zj5 ((zas s).2.1.length+1) [] [] (zas s).2.1)
theorem zk7:∀(k:Nat)(sg:List zaQ)(dp:List Bool)(l:B),(zj5 k sg dp l).2.2.2.1 <:+ l
 |0,_,_,_=>yBp _|k+1,sg,dp,l=>by
   obtain ⟨i1,i2,_,_⟩:=zbg true l;unfold zj5;cases he:(zaf true l).2.2.2 with
   |some e=>exact i2 e he|none =>
     dsimp only;cases hdB 47 (zaf true l).2.2.1 with
     |false=>exact i1|true=>exact (zk7 k _ _ _).trans ((List.tail_suffix _).trans i1)
theorem L18(n:Nat)(s:B): @Eq (Option (zqP×Int×Int×Unit)) ((zal (n+4)).d 18 [.str s] [(.st 5),(.int .i64),(.int .i64)]) (some (zpo s)):=by
 refine (q18 (n+3) _).trans ?_;unfold m18 zpo;cases hl:decide (3000<len s) with
 |true=>rfl|false =>
   have hs:s.length<=3000:=(by have:=of_decide_eq_false hl;unfold len at this;omega);obtain ⟨z,h1,h2,h3⟩:=G52 (n+1) hs;rw[zab,cond_false];refine (congrArg (λy=>oc y _ _) h1).trans ((zaH _ _ _).trans ?_);dsimp only;cases he:(zas s).2.2 with
   |some e =>obtain ⟨f1,f2⟩:=zs3 he;rw[f1,f2];refine zaA (zao (r:= .inl (s,((P s e:Nat):Int),true,z,[],[],[],false,[],())) rfl) ?_;simp only[zai];rw[G54b,zaH];dsimp only;rw[zab];simp only[zai,zad,zaa];rfl
   |none =>
     obtain ⟨f1,f2⟩:=zt3 he;rw[f1] at h3;rw[f1,f2,h2 he];refine zaA (zne (R:=(B×Int×Bool×B×List zaQ×List Bool×zaQ×Bool×zaQ×Unit)⊕(zqP×Int×Int×Unit)) (λsg dp l=>(s,((P s l:Nat):Int),false,zds (zas s).1,sg,dp,[],false,[],())) (λx=>.inl (s,((P s x.2.2.2.1:Nat):Int),x.2.2.2.2,zds (zas s).1,x.1,x.2.1,x.2.2.1,false,[],())) s ?_ ((zas s).2.1.length+1) [] [] (zas s).2.1 (by omega) h3 (by have:=h3.length_le;simp<;>omega) (by have:=h3.length_le;simp<;>omega)) ?_
     ·intro sg dp l h g1 g2;dsimp only;obtain ⟨i1,i2,i3,i4⟩:=zbg true l;rw[yAU,zad,zq0 h,zaa,L47 (n+2),zaa];dsimp only;refine (congrArg (λy=>oc y _ _) (zoC n h hs)).trans ((zaH _ _ _).trans ?_);dsimp only;cases he2:(zaf true l).2.2.2 with
      |some e =>simp only[yBV,Option.isSome_some];rw[G54b,zaH];dsimp only;rw[zab]|none =>
        dsimp only[Option.getD_none,Option.isSome_none];rw[G54 (ci:=47) (n+2) 47 rfl (i1.trans h) hs,zaH];dsimp only;rw[zr1];cases hb:hdB 47 (zaf true l).2.2.1 with
        |false=>rfl|true =>have:=(i4 he2).1;simp only[cond_true,zad];rw[zbj (by simp[lim]<;>omega),zaa,zbj (by simp[lim]<;>omega),zaa]
     ·simp only[zai];have hx:=(zk7 ((zas s).2.1.length+1) [] [] (zas s).2.1).trans h3;generalize zj5 ((zas s).2.1.length+1) [] [] (zas s).2.1=x at hx ⊢;obtain ⟨sg,dp,nm,r,b⟩:=x;dsimp only at hx ⊢;unfold zpp zii;dsimp only
      have fin1:∀(y:B)(b vd:Bool)(ver:zaQ),y <:+ s->(ob (br b (some true) (ob (α:=Bool×Unit) (some ((((P s y:Nat):Int)==(len s)),())) λ(r18:Bool×Unit)=>(some (!r18.1)))) λb19=>(br b19 (some ((Gt.Rp_.mk [] [] [] [] false []),((P s y:Nat):Int),(6:Int),())) (ob (br (zds (zas s).1 != []) (ob (α:=Int×Unit) ((zal (n+3)).d 56 [.str (zds (zas s).1)] [(.int .i64)]) λ(r20:Int×Unit)=>(some (decide (r20.1<0)))) (some false)) λb21=>(br b21 (some ((Gt.Rp_.mk [] [] [] [] false []),0,7,())) (br (decide (10<(len sg))) (some ((Gt.Rp_.mk [] [] [] [] false []),0,3,())) (some ((Gt.Rp_.mk (zds (zas s).1) sg dp nm vd ver),0,0,())))))))=some (bif (bif b then true else !(y==[])) then (zfY,((P s y:Nat):Int),6,())
        else bif (bif zds (zas s).1 != [] then decide (zdy (zds (zas s).1)<0) else false) then (zfY,0,7,()) else bif decide (10<len sg) then (zfY,0,3,())
        else (⟨zds (zas s).1,sg,dp,nm,vd,ver⟩,0,0,())):=by
       intro y b vd ver hy;rw[zgN hy,L56 (n+1),zaa,zaa,zav,zaa];cases (bif b then true else !(y==[])) with
       |true=>rfl|false =>
         rw[zab,zav,zaa];cases (bif zds (zas s).1 != [] then decide (zdy (zds (zas s).1)<0) else false) with
         |true=>rfl|false =>rw[zab];cases decide (10<len sg)<;>rfl
      cases b with
      |true =>rw[G54b,zaH];dsimp only;rw[zab];simp only[zai,cond_true];exact fin1 r true false [] hx|false =>
        rw[G54 (ci:=64) (n+2) 64 rfl hx hs,zaH];dsimp only;rw[zr1];cases hb:hdB 64 r with
        |false =>simp only[cond_false,zab,zai];exact fin1 r false false [] hx|true =>
          have ht:=(List.tail_suffix r).trans hx;obtain ⟨i1,i2,_,_⟩:=zbg false r.tail;simp only[cond_true,cond_false,zad];rw[G53 n ht hs false false (.inl rfl),zaH];dsimp only;simp only[zai];refine fin1 _ _ true _ ?_;cases he3:(zaf false r.tail).2.2.2 with
          |some e=>exact (i2 e he3).trans ht|none=>exact i1.trans ht
end Pe.Tryz
end
section
/- One reading for both. -/
set_option maxRecDepth 100000
namespace Pe.Tryz
open Go Go.Proofs Pe Pe.Told
abbrev Seg:=List zbq×Bool
def zcq:Nat->List Seg->B->List Seg×List zbq×B×Bool
 |0,gs,l=>(gs,[],l,false)|k+1,gs,l=>match (zaf true l).2.2.2 with
   |some e=>(gs,(zaf true l).1,e,true)
   | none=>bif hdB 47 (zaf true l).2.2.1 then zcq k (gs++[((zaf true l).1,(zaf true l).2.1)]) (zaf true l).2.2.1.tail
     else (gs,(zaf true l).1,(zaf true l).2.2.1,false)
def zmj(g:Seg):zaQ:=g.1.map atm
def zoc(g:Seg):List zbq:=bif g.2 then [⟨4,0⟩] else g.1++[⟨3,0⟩]
theorem zk6:∀(k:Nat)(gs:List Seg)(l:B),zj5 k (gs.map zmj) (gs.map (·.2)) l=((zcq k gs l).1.map zmj,(zcq k gs l).1.map (·.2),(zcq k gs l).2.1.map atm,(zcq k gs l).2.2.1,(zcq k gs l).2.2.2)
 |0,_,_=>rfl|k+1,gs,l=>by
   unfold zj5 zcq;cases he:(zaf true l).2.2.2 with
   |some e=>rfl|none =>
     dsimp only;cases hb:hdB 47 (zaf true l).2.2.1 with
     |false=>rfl|true =>simp only[cond_true];have:=zk6 k (gs++[((zaf true l).1,(zaf true l).2.1)]) (zaf true l).2.2.1.tail;rw[<-this];simp[zmj]
theorem zmH(sp:Bool):∀(k:Nat)(acc:List zbq)(l:B)(d:Bool)(r:B),zhW sp k acc l= .inr (d,r,none)->d=true/\hdB 47 r=true
 |0,acc,l,d,r,h=>by cases h
 |k+1,acc,l,d,r,h=>by
   unfold zhW at h;cases h42:hdB 42 l with
   |true =>
     rw[h42] at h;simp only[cond_true] at h;cases h2:hdB 42 l.tail with
     |true =>
       rw[h2] at h;simp only[cond_true] at h;obtain ⟨u,hu⟩:=zbh h2;rw[hu,ztH] at h;simp only[yBb] at h;cases hc:(bif (bif !sp then true else decide (0<len acc)) then true else !(hdB 47 u)) with
       |true=>rw[hc] at h;cases h|false =>
         rw[hc] at h;simp only[cond_false,Sum.inr.injEq,Prod.mk.injEq] at h;obtain ⟨rfl,rfl,_⟩:=h;refine ⟨rfl,?_⟩;cases hq:(bif !sp then true else decide (0<len acc)) with
         |true=>rw[hq] at hc;cases hc|false=>rw[hq] at hc;simpa using hc
     |false =>rw[h2] at h;exact zmH sp k _ _ d r h
   |false =>
     rw[h42] at h;simp only[cond_false] at h;cases ho:zen l with
     |stop=>rw[ho] at h;cases h|bad e=>rw[ho] at h;cases h|byte c t=>rw[ho] at h;exact zmH sp k _ _ d r h
theorem zoA{sp:Bool}{l:B}(h:(zaf sp l).2.2.2=none)(hd:(zaf sp l).2.1=true):(zaf sp l).1=[]/\hdB 47 (zaf sp l).2.2.1=true:=by
 have ht:=zmH sp (l.length+1) [] l;unfold zaf at h hd ⊢;revert ht h hd;cases zhW sp (l.length+1) [] l with
 |inl z=>intro _ hd _;cases hd
 |inr z =>obtain ⟨d,r,e⟩:=z;intro h hd ht;dsimp only at h hd ⊢;subst h;exact ⟨rfl,(ht d r rfl).2⟩
theorem zlf:∀(k:Nat)(gs:List Seg)(l:B),l.length<k->zfg k (gs.flatMap zoc) gs.length l=(bif (zcq k gs l).2.2.2 then ((zcq k gs l).1.flatMap zoc,(zcq k gs l).1.length,some (zcq k gs l).2.2.1) else
   ((zfm ((zcq k gs l).1.flatMap zoc++(zcq k gs l).2.1) (zcq k gs l).2.2.1).1,(zcq k gs l).1.length,(zfm ((zcq k gs l).1.flatMap zoc++(zcq k gs l).2.1) (zcq k gs l).2.2.1).2))
 |0,_,_,h=>by omega
 |k+1,gs,l,hk=>by
   obtain ⟨i1,i2,i3,i4⟩:=zbg true l;unfold zfg zcq;cases he:(zaf true l).2.2.2 with
   |some e=>rfl|none =>
     dsimp only;have h5:=(i4 he).1;cases hb:hdB 47 (zaf true l).2.2.1 with
     |false =>
       have hd:(zaf true l).2.1=false:=by
        cases hd:(zaf true l).2.1 with
        |false=>rfl|true=>rw[(zoA he hd).2] at hb;cases hb
       rw[hd];rfl
     |true =>
       simp only[cond_true];have h6:(zaf true l).2.2.1.tail.length<k:=by rw[yCw];omega
       have:=zlf k (gs++[((zaf true l).1,(zaf true l).2.1)]) (zaf true l).2.2.1.tail h6;rw[<-this];cases hd:(zaf true l).2.1<;>simp[zoc]
end Pe.Tryz
end
section
/- Both readers answer alike. -/
set_option maxRecDepth 100000
namespace Pe.Tryz
open Go Go.Proofs Pe Pe.Told
theorem zp5{s:B}(h:(zas s).2.2=none):((zas s).1==[])=false:=by
 unfold zas at h ⊢;cases hp:zj6 [112,107,103,58] s with
 |inr e=>rw[hp] at h;cases h|inl l =>
   rw[hp] at h;dsimp only at h ⊢;unfold zef at h ⊢;cases h42:hdB 42 l with
   |true =>
     rw[h42] at h;simp only[cond_true] at h ⊢;cases htl:l.tail with
     |nil=>rw[htl] at h;cases h|cons c r =>
       rw[htl] at h;dsimp only at h ⊢;cases hc:(c==47) with
       |false=>rw[hc] at h;cases h|true=>rfl
   |false =>
     rw[h42] at h;simp only[cond_false] at h ⊢;unfold zex at h ⊢;cases htw:l.takeWhile zcG with
     |nil=>rw[htw] at h;cases hdw:l.dropWhile zcG<;>rw[hdw] at h<;>cases h|cons k ks =>
       rw[htw] at h;cases hdw:l.dropWhile zcG with
       |nil=>rw[hdw] at h;cases h|cons c r =>
         rw[hdw] at h;dsimp only at h ⊢;cases hc:(c==47) with
         |false=>rw[hc] at h;cases h|true=>rfl
def zqO:Option (List zbq)->List zbq|none=>[⟨6,0⟩]|some its=>⟨5,0⟩::its
def zhu(k:B)(gs:List Seg)(nm:List zbq)(vr:Option (List zbq)):Gt.Pt_:=⟨k,gs.flatMap zoc++nm++zqO vr,(gs.length:Int)⟩
def zfu(k:B)(gs:List Seg)(nm:List zbq)(vr:Option (List zbq)):zqP:=⟨zds k,gs.map zmj,gs.map (·.2),nm.map atm,vr.isSome,(vr.getD []).map atm⟩
def zqS(r:B):Option (List zbq):=bif hdB 64 r then some (zaf false r.tail).1 else none
def zhn(s:B):List Seg×List zbq×B×Bool:=zcq ((zas s).2.1.length+1) [] (zas s).2.1
theorem zpX{k:B}(h:(k==[])=false):(bif zds k != [] then decide (zdy (zds k)<0) else false)=(bif k != [42] then (zfX k).isNone else false):=by
 unfold zds;cases hk:(k==[42]) with
 |true=>rw[show (k != [42])=false by rw[bne,hk];rfl];rfl|false =>rw[show (k != [42])=true by rw[bne,hk];rfl];simp only[cond_false,cond_true];rw[show (k != [])=true by rw[bne,h];rfl,zjt];rfl
theorem zk8(s:B):(∃a e:Int,e≠0/\zd7 s=(znk,a,e,())/\zpo s=(zfY,a,e,())) \/
  (s.length<=3000/\(zas s).2.2=none/\(zhn s).2.2.2=false/\(zhn s).1.length<=10/\zd7 s=(zhu (zas s).1 (zhn s).1 (zhn s).2.1 (zqS (zhn s).2.2.1),0,0,())/\zpo s=(zfu (zas s).1 (zhn s).1 (zhn s).2.1 (zqS (zhn s).2.2.1),0,0,())):=by
 unfold zd7 zpo;cases hl:decide (3000<len s) with
 |true=>exact .inl ⟨0,3,by omega,rfl,rfl⟩|false =>
   have hs:s.length<=3000:=(by have:=of_decide_eq_false hl;unfold len at this;omega);simp only[cond_false];cases he:(zas s).2.2 with
   |some e =>
     have:zio s=(⟨(zas s).1,[],0⟩,some e):=by unfold zio;rw[he]
     rw[this];exact .inl ⟨_,6,by omega,rfl,rfl⟩
   |none =>
     have hk:=zp5 he;have hx:=zk6 ((zas s).2.1.length+1) [] (zas s).2.1;have hy:=zlf ((zas s).2.1.length+1) [] (zas s).2.1 (by omega);simp only[yBh,List.flatMap_nil,yAZ] at hx hy;have hp:zio s=(⟨(zas s).1,(zfg ((zas s).2.1.length+1) [] 0 (zas s).2.1).1,((zfg ((zas s).2.1.length+1) [] 0 (zas s).2.1).2.1:Int)⟩,(zfg ((zas s).2.1.length+1) [] 0 (zas s).2.1).2.2):=(by unfold zio;rw[he]);rw[hp,hx,hy];change _\/(_/\_/\_);unfold zhn;generalize zcq ((zas s).2.1.length+1) [] (zas s).2.1=x;obtain ⟨gs,nm,r,b⟩:=x;dsimp only;unfold zpp zii;dsimp only;rw[zpX hk];cases b with
     |true=>exact .inl ⟨_,6,by omega,rfl,rfl⟩|false =>
       have fin2:∀(vr:Option (List zbq)),(∃a e:Int,e≠0/\(bif (bif (zas s).1 != [42] then (zfX (zas s).1).isNone else false) then (znk,(0:Int),(7:Int),()) else bif decide (10<(gs.length:Int)) then (znk,0,3,()) else (zhu (zas s).1 gs nm vr,0,0,()))=(znk,a,e,())/\(bif (bif (zas s).1 != [42] then (zfX (zas s).1).isNone else false) then (zfY,(0:Int),(7:Int),()) else bif decide (10<len (gs.map zmj)) then (zfY,0,3,()) else (zfu (zas s).1 gs nm vr,0,0,()))=(zfY,a,e,())) \/
         (gs.length<=10/\(bif (bif (zas s).1 != [42] then (zfX (zas s).1).isNone else false) then (znk,(0:Int),(7:Int),()) else bif decide (10<(gs.length:Int)) then (znk,0,3,()) else (zhu (zas s).1 gs nm vr,0,0,()))=(zhu (zas s).1 gs nm vr,0,0,())/\(bif (bif (zas s).1 != [42] then (zfX (zas s).1).isNone else false) then (zfY,(0:Int),(7:Int),()) else bif decide (10<len (gs.map zmj)) then (zfY,0,3,()) else (zfu (zas s).1 gs nm vr,0,0,()))=(zfu (zas s).1 gs nm vr,0,0,())):=by
        intro vr;rw[show len (gs.map zmj)=(gs.length:Int) by simp[len]];cases (bif (zas s).1 != [42] then (zfX (zas s).1).isNone else false) with
        |true=>exact .inl ⟨0,7,by omega,rfl,rfl⟩|false =>
          cases hd:decide (10<(gs.length:Int)) with
          |true=>exact .inl ⟨0,3,by omega,rfl,rfl⟩|false=>exact .inr ⟨by have:=of_decide_eq_false hd;omega,rfl,rfl⟩
       unfold zfm zqS;cases hr:(r==[]) with
       |true =>
         obtain rfl:r=[]:=by simpa using hr
         rcases fin2 none with h|⟨h1,h2,h3⟩;·exact .inl h
         ·exact .inr ⟨hs,rfl,rfl,h1,h2,h3⟩
       |false =>
         cases h64:hdB 64 r with
         |false =>simp only[cond_false,hr];exact .inl ⟨_,6,by omega,rfl,rfl⟩|true =>
           simp only[cond_true,cond_false];cases he3:(zaf false r.tail).2.2.2 with
           |some e=>exact .inl ⟨_,6,by omega,rfl,rfl⟩|none =>
             cases hr3:((zaf false r.tail).2.2.1==[]) with
             |false =>simp only[Option.getD_none,Option.isSome_none,cond_false,hr3];exact .inl ⟨_,6,by omega,rfl,rfl⟩|true =>
               have hf:=fin2 (some (zaf false r.tail).1);have hN:zhu (zas s).1 gs nm (some (zaf false r.tail).1)=⟨(zas s).1,(gs.flatMap zoc++nm++[⟨5,0⟩])++(zaf false r.tail).1,(gs.length:Int)⟩:=(by simp[zhu,zqO]);rw[hN] at hf;dsimp only[Option.getD_none,Option.isSome_none];rw[hr3];rcases hf with h|⟨h1,h2,h3⟩;·exact .inl h
               ·refine .inr ⟨hs,by first|trivial|rfl,by first|trivial|rfl,h1,?_,h3⟩;rw[cond_true,hN];exact h2
end Pe.Tryz
end
section
/- CheckPattern of both; what items hold. -/
set_option maxRecDepth 100000
namespace Pe.Tryz
open Go Go.Proofs Pe Pe.Told
theorem L7(n:Nat)(s:B): @Eq (Option (Int×Int×Unit)) ((zal (n+6)).d 7 [.str s] [(.int .i64),(.int .i64)]) (some ((zd7 s).2.1,(zd7 s).2.2.1,())):=by refine (q7 (n+5) _).trans ?_;unfold m7;rw[L17 n,zaa]
theorem L8(n:Nat)(s:B): @Eq (Option (Int×Int×Unit)) ((zal (n+5)).d 8 [.str s] [(.int .i64),(.int .i64)]) (some ((zpo s).2.1,(zpo s).2.2.1,())):=by refine (q8 (n+4) _).trans ?_;unfold m8;rw[L18 n,zaa]
theorem zoJ(s:B):((zd7 s).2.1,(zd7 s).2.2.1,())=((zpo s).2.1,(zpo s).2.2.1,()):=by rcases zk8 s with ⟨a,e,_,h1,h2⟩|⟨_,_,_,_,h1,h2⟩<;>rw[h1,h2]
def zdI(x:zbq):Prop:=(x.kind=1/\∃c:UInt8,x.b=(c.toNat:Int))\/x=⟨2,0⟩
theorem zkh(sp:Bool):∀(k:Nat)(acc:List zbq)(l:B)(a:List zbq)(r:B)(e:Option B),(∀x∈acc,zdI x)->zhW sp k acc l= .inl (a,r,e)->∀x∈a,zdI x
 |0,acc,l,a,r,e,ha,h=>by cases h;exact ha
 |k+1,acc,l,a,r,e,ha,h=>by
   unfold zhW at h;cases h42:hdB 42 l with
   |true =>
     rw[h42] at h;simp only[cond_true] at h;cases h2:hdB 42 l.tail with
     |true =>
       rw[h2] at h;simp only[cond_true] at h;cases hc:(bif (bif !sp then true else decide (0<len acc)) then true else !(l.tail.take 2==[42,47])) with
       |true=>rw[hc] at h;cases h|false=>rw[hc] at h;cases h
     |false =>
       rw[h2] at h;refine zkh sp k _ _ a r e ?_ h;intro x hx;rcases yAo.1 hx with hx|hx;·exact ha x hx
       ·exact .inr (by simpa using hx)
   |false =>
     rw[h42] at h;simp only[cond_false] at h;cases ho:zen l with
     |stop=>rw[ho] at h;cases h;exact ha|bad e=>rw[ho] at h;cases h;exact ha|byte c t =>
       rw[ho] at h;refine zkh sp k _ _ a r e ?_ h;intro x hx;rcases yAo.1 hx with hx|hx;·exact ha x hx
       ·obtain rfl:x=⟨1,(c.toNat:Int)⟩:=by simpa using hx
        exact .inl ⟨rfl,c,rfl⟩
theorem zeh(sp:Bool)(l:B):∀x∈(zaf sp l).1,zdI x:=by
 have h:=zkh sp (l.length+1) [] l;unfold zaf;revert h;cases zhW sp (l.length+1) [] l with
 |inl z =>obtain ⟨a,r,e⟩:=z;intro h;exact h a r e (by simp) rfl
 |inr z=>intro _ x hx;cases hx
theorem zh3:∀(k:Nat)(gs:List Seg)(l:B),(∀g∈gs,∀x∈g.1,zdI x)->(∀g∈(zcq k gs l).1,∀x∈g.1,zdI x)/\∀x∈(zcq k gs l).2.1,zdI x
 |0,gs,l,h=>⟨h,λx hx=>by cases hx⟩|k+1,gs,l,h=>by
   unfold zcq;cases (zaf true l).2.2.2 with
   |some e=>exact ⟨h,zeh true l⟩|none =>
     dsimp only;cases hdB 47 (zaf true l).2.2.1 with
     |false=>exact ⟨h,zeh true l⟩|true =>
       refine zh3 k _ _ λg hg=>?_;rcases yAo.1 hg with hg|hg;·exact h g hg
       ·obtain rfl:g=((zaf true l).1,(zaf true l).2.1):=by simpa using hg
        exact zeh true l
end Pe.Tryz
end
section
/- Globs: what one matches. Sets of numbers. -/
set_option maxRecDepth 100000
namespace Pe.Tryz
open Go Go.Proofs Pe Pe.Told
def gM:zaQ->B->Bool|[],s=>s==[]|a::r,[]=>a.any&&gM r []|a::r,c::t=>bif a.any then gM r (c::t)||(!(c==47)&&gM (a::r) t) else ((c.toNat:Int)==a.c)&&gM r t
termination_by l s=>l.length+s.length
abbrev eqi:Int->Int->Bool:=keq un (.int .i64)
abbrev lti:Int->Int->Bool:=klt un (.int .i64)
theorem zt6(x y:Int):eqi x y=(x==y):=by kernel_rfl
theorem zpL(x y:Int):lti x y=decide (x<y):=by kernel_rfl
theorem zgj:KOrd eqi lti where
 eq_iff x y:=by rw[zt6];simp
 irr x:=by rw[zpL];simp
 tr x y z h1 h2:=by rw[zpL] at *;simp at *;omega
 tot x y h1 h2:=by rw[zpL] at *;simp at *;omega
end Pe.Tryz
end
section
/- Globs, steps of what one matches. -/
set_option maxRecDepth 100000
namespace Pe.Tryz
open Go Go.Proofs Pe Pe.Told
theorem znH(s:B):gM [] s=(s==[]):=by unfold gM;rfl
theorem zjE(a:zl8)(r:zaQ):gM (a::r) []=(a.any&&gM r []):=by conv=>lhs;unfold gM
theorem zfE(a:zl8)(r:zaQ)(c:UInt8)(t:B):gM (a::r) (c::t)=bif a.any then gM r (c::t)||(!(c==47)&&gM (a::r) t) else ((c.toNat:Int)==a.c)&&gM r t:=by conv=>lhs;unfold gM
def vM(l:zaQ)(s:B)(i k:Nat):Bool:=gM (l.drop i) (s.drop k)
theorem ztE{l:zaQ}{s:B}{k:Nat}(h:k<s.length):vM l s l.length k=false:=by unfold vM;rw[yBz,znH,yAI h];rfl
theorem zsq(l:zaQ)(s:B):vM l s l.length s.length=true:=by unfold vM;rw[yBz,yBz,znH];rfl
theorem zsp{l:zaQ}{s:B}{i:Nat}(h:i<l.length):vM l s i s.length=(l[i].any&&vM l s (i+1) s.length):=by unfold vM;rw[yBz,yAI h,zjE]
theorem ztF{l:zaQ}{s:B}{i k:Nat}(h:i<l.length)(hk:k<s.length)(ha:l[i].any=true):vM l s i k=(vM l s (i+1) k||(!(s[k]==47)&&vM l s i (k+1))):=by unfold vM;rw[yAI h,yAI hk,zfE,ha,cond_true]
theorem ztD{l:zaQ}{s:B}{i k:Nat}(h:i<l.length)(hk:k<s.length)(ha:l[i].any=false):vM l s i k=(((s[k].toNat:Int)==l[i].c)&&vM l s (i+1) (k+1)):=by unfold vM;rw[yAI h,yAI hk,zfE,ha,cond_false]
end Pe.Tryz
end
section
/- fits: a set's truth through the inner rounds. -/
set_option maxRecDepth 100000
namespace Pe.Tryz
open Go Go.Proofs Pe Pe.Told
abbrev IM:=List (Int×Bool)
def eM(l:zaQ)(s:B)(k:Nat)(at':IM)(i:Nat):Prop:=∃j:Nat,i<=j/\(j:Int)∈zaw at'/\vM l s j k=true
theorem zqh{l:zaQ}{s:B}{k:Nat}{a:IM}{i:Nat}(h:(i:Int)∉zaw a):eM l s k a i↔eM l s k a (i+1):=by
 constructor
 ·rintro ⟨j,h1,h2,h3⟩
  have:j≠i:=λe=>h (e▸h2);exact ⟨j,by omega,h2,h3⟩
 ·rintro ⟨j,h1,h2,h3⟩;exact ⟨j,by omega,h2,h3⟩
theorem zqi{l:zaQ}{s:B}{k:Nat}{a:IM}{i:Nat}(h:(i:Int)∈zaw a):eM l s k a i↔vM l s i k=true\/eM l s k a (i+1):=by
 constructor
 ·rintro ⟨j,h1,h2,h3⟩
  by_cases e:j=i;·exact .inl (e▸h3)
  ·exact .inr ⟨j,by omega,h2,h3⟩
 ·rintro (h3|⟨j,h1,h2,h3⟩)
  ·exact ⟨i,yAj _,h,h3⟩
  ·exact ⟨j,by omega,h2,h3⟩
theorem zjI{l:zaQ}{s:B}{k:Nat}{a:IM}(ha:IsSet lti a){i m:Nat}:eM l s k (zfd eqi lti (m:Int) a) i↔(i<=m/\vM l s m k=true)\/eM l s k a i:=by
 unfold eM;constructor
 ·rintro ⟨j,h1,h2,h3⟩
  rcases (zcp zgj _ _ ha).1 h2 with e|h
  ·obtain rfl:j=m:=by omega
   exact .inl ⟨h1,h3⟩
  ·exact .inr ⟨j,h1,h,h3⟩
 ·rintro (⟨h1,h3⟩|⟨j,h1,h2,h3⟩)
  ·exact ⟨m,h1,(zcp zgj _ _ ha).2 (.inl rfl),h3⟩
  ·exact ⟨j,h1,(zcp zgj _ _ ha).2 (.inr h2),h3⟩
end Pe.Tryz
end
