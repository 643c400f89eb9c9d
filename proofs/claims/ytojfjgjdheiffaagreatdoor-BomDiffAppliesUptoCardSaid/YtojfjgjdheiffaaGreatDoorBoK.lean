/- PROVED HERE: a part of the seat's proofs; see the text that holds the claim's theorem. -/
import Derived.Test.YtojfjgjdheiffaaGreatDoorNm
import Derived.Test.YtojfjgjdheiffaaGreatDoorBoG
import Derived.Test.YtojfjgjdheiffaaGreatDoorBoJ
section
/- Sorted rows: one that is put in, and the reference's merging of components and of edges. -/
set_option maxRecDepth 100000
namespace Pe
open Go
theorem zuf{α:Type}{R:α->α->Prop}{l:List α}{p:Nat}{x:α}(hl:l.Pairwise R)(h1:∀y∈l.take p,R y x)(h2:∀y∈l.drop p,R x y):(l.take p++[x]++l.drop p).Pairwise R:=by
 rw[<-List.take_append_drop p l] at hl;obtain ⟨k1,k2,k3⟩:=List.pairwise_append.1 hl;rw[yA5,List.pairwise_append];refine ⟨k1,yBU.2 ⟨h2,k2⟩,λy hy z hz=>?_⟩;rcases yAm.1 hz with rfl|hz;·exact h1 y hy
 grind
theorem zuc{α:Type}{l:List α}{p:Nat}{x y:α}:y∈l.take p++[x]++l.drop p↔y∈l\/y=x:=by
 conv=>rhs;rw[<-List.take_append_drop p l]
 simp only[yAp,yBp];grind
theorem ztK{α:Type}{R:α->α->Prop}{l:List α}(p:Nat)(hl:l.Pairwise R):(l.eraseIdx p).Pairwise R:=hl.sublist (List.eraseIdx_sublist l p)
namespace Tryz
def rC(x y:Gt.Component):Prop:=x.ref<y.ref
def rE(x y:Gt.Edge):Prop:=zpV x y<0
theorem zu3(a b:Int):sgI a b<0↔a<b:=by grind[sgI]
theorem ztx{x y:List UInt8}:cS x y=0↔x=y:=by
 constructor
 ·grind[zs5]
 simp_all[cS]
theorem zug(x y:Gt.Edge):rE x y↔x.from_<y.from_\/(x.from_=y.from_/\(x.to<y.to\/(x.to=y.to/\x.scope<y.scope))):=by
 unfold rE zpV;by_cases h1:cS x.from_ y.from_=0
 ·have e1:=ztx.1 h1;rw[if_neg (by grind)];have n1:¬x.from_<y.from_:=by simp_all
  by_cases h2:cS x.to y.to=0
  ·have e2:=ztx.1 h2;rw[if_neg (by grind),zu3];simp_all[yBn]
  ·rw[if_pos h2,zc4];refine ⟨λh=>.inr ⟨e1,.inl h⟩,λh=>?_⟩;rcases h with h|⟨_,h|⟨h,_⟩⟩;·grind
   ·exact h
   simp_all[ztx]
 simp_all[zc4,ztx]
theorem zuk(x y:Gt.Edge)(h:rE x y):¬rE y x:=by
 rw[zug] at h ⊢;have ir:=yBn (α:=UInt8)
 rintro (k|⟨k1,k|⟨k2,k⟩⟩)
 ·rcases h with h|⟨h1,_⟩;·exact ir _ (yCa h k)
  grind
 ·rcases h with h|⟨h1,h|⟨h2,_⟩⟩;·grind
  ·exact ir _ (yCa h k)
  grind
 grind
theorem zu4{x y z:Gt.Edge}(h:rE x y)(k:rE y z):rE x z:=by
 rw[zug] at *
 rcases h with h|⟨h1,h|⟨h2,h⟩⟩
 ·rcases k with k|⟨k1,_⟩;·exact .inl (yCa h k)
  grind
 ·rcases k with k|⟨k1,k|⟨k2,_⟩⟩;·grind
  ·exact .inr ⟨h1.trans k1,.inl (yCa h k)⟩
  ·exact .inr ⟨h1.trans k1,.inl (k2▸h)⟩
 ·rcases k with k|⟨k1,k|⟨k2,k⟩⟩;·grind
  ·exact .inr ⟨h1.trans k1,.inl (h2▸k)⟩
  ·exact .inr ⟨h1.trans k1,.inr ⟨h2.trans k2,by omega⟩⟩
theorem zuT{x y:Gt.Edge}(h:¬rE x y)(hn:x≠y):rE y x:=by
 rw[zug] at *
 have tot:∀{a b:List UInt8},¬a<b->a≠b->b<a:=λ{a b} h1 h2=>by
  by_cases hb:b<a;·exact hb
  ·exact absurd (zly.eq a b (by grind) (by grind)) h2
 by_cases e1:x.from_=y.from_
 ·by_cases e2:x.to=y.to;·have e3:x.scope≠y.scope:=λe3=>hn (by cases x;simp_all);have h3:¬x.scope<y.scope:=λh3=>h (.inr ⟨e1,.inr ⟨e2,h3⟩⟩);exact .inr ⟨e1.symm,.inr ⟨e2.symm,by omega⟩⟩
  ·exact .inr ⟨e1.symm,.inl (tot (λh3=>h (.inr ⟨e1,.inl h3⟩)) e2)⟩
 grind
theorem zuV{x y:Gt.Component}(h:¬rC x y)(hn:x.ref≠y.ref):rC y x:=by
 unfold rC at *
 by_cases hb:y.ref<x.ref;·exact hb
 ·exact absurd (zly.eq _ _ (by grind) (by grind)) hn
end Tryz
end Pe
end
section
/- The reference's merging of edges. -/
set_option maxRecDepth 100000
namespace Pe.Tryz
open Go Pe
theorem zuL{a b:Int}(h:sgI a b=0):a=b:=by grind[sgI]
theorem zt8{x y:Gt.Edge}(h:zpV x y=0):x=y:=by
 unfold zpV at h;split at h;·grind
 ·rename_i h1;have e1:=ztx.1 (by simpa using h1);split at h;·grind
  ·rename_i h2;have e2:=ztx.1 (by simpa using h2);have e3:=zuL h;cases x;simp_all
end Pe.Tryz
end
section
/- Changes of a bill: what is known of one by itself; where things are. -/
set_option maxRecDepth 100000
namespace Pe
open Go
theorem zuF{α R':Type}{f:Int×Int×Unit->Option ((Int×Int×Unit)⊕((Int×Unit)⊕R'))}(l:List α)(P:α->Prop)[DecidablePred P]
  (mono:∀i j (hi:i<l.length) (hj:j<l.length),i<j->P l[j]->P l[i])
  (h:∀(lo hi:Nat)(_:lo<hi)(_:hi<=l.length)(hm:(lo+hi) / 2<l.length),f ((lo:Int),(hi:Int),())=some (.inl (if P l[(lo+hi) / 2] then ((((lo+hi) / 2+1:Nat):Int),(hi:Int),()) else ((lo:Int),(((lo+hi) / 2:Nat):Int),()))))
  (he:∀lo:Nat,f ((lo:Int),(lo:Int),())=some (.inr (.inl ((lo:Int),())))) :
  zak f (0,(l.length:Int),())=some (.inl (((l.findIdx λx=> !decide (P x):Nat):Int),())):=by
 have key:∀(d lo hi:Nat),hi - lo<=d->lo<=hi->hi<=l.length->(∀k (hk:k<l.length),k<lo->P l[k])->(∀k (hk:k<l.length),hi<=k->¬P l[k]) ->
   ∃p:Nat,p<=l.length/\(∀k (hk:k<l.length),k<p->P l[k])/\(∀k (hk:k<l.length),p<=k->¬P l[k])/\zak f ((lo:Int),(hi:Int),())=some (.inl ((p:Int),())):=by
  intro d;induction d with
  |zero =>
    grind[zaD]
  |succ d ih =>
    intro lo hi hd hlh hhn h1 h2;rcases yBJ hlh with rfl|hlt;·grind[zaD]
    ·have hm:(lo+hi) / 2<l.length:=(by omega);have hs:=h lo hi hlt hhn hm;by_cases hc:P l[(lo+hi) / 2]
     ·rw[if_pos hc] at hs;obtain ⟨p,q1,q2,q3,q4⟩:=ih ((lo+hi) / 2+1) hi (by omega) (by omega) hhn (λk hk hkl=>by
       rcases yAT k ((lo+hi) / 2) with h3|h3;·grind
       ·have:k=(lo+hi) / 2:=by omega
        grind) h2
      exact ⟨p,q1,q2,q3,(zaR hs).trans q4⟩
     ·rw[if_neg hc] at hs;obtain ⟨p,q1,q2,q3,q4⟩:=ih lo ((lo+hi) / 2) (by omega) (by omega) (by omega) h1 (λk hk hkl hp=>by
       rcases yAT ((lo+hi) / 2) k with h3|h3;·grind
       ·have:k=(lo+hi) / 2:=by omega
        grind)
      exact ⟨p,q1,q2,q3,(zaR hs).trans q4⟩
 obtain ⟨p,q1,q2,q3,q4⟩:=key l.length 0 l.length (by omega) (yAA _) (yAi _) (λk hk h=>by omega) (λk hk h=>by omega);rw[show ((0:Nat):Int)=0 from rfl] at q4;rw[q4];have:(l.findIdx λx=> !decide (P x))=p:=by
  rcases yBJ q1 with rfl|hp;·rw[List.findIdx_eq_length];intro x hx;obtain ⟨k,hk,rfl⟩:=yBH hx;grind
  ·rw[List.findIdx_eq hp];exact ⟨by simpa using q3 p hp (yAi _),λj hj=>by grind⟩
 rw[this]
theorem zui{α:Type}(P:α->Prop)[DecidablePred P](l:List α):∀y∈l.take (l.findIdx λx=> !decide (P x)),P y:=λy hy=>by obtain ⟨k,hk,rfl⟩:=yBH hy;rw[yAY] at hk;grind
theorem zuj{α:Type}(P:α->Prop)[DecidablePred P]{l:List α}(mono:l.Pairwise λx y=>P y->P x):∀y∈l.drop (l.findIdx λx=> !decide (P x)),¬P y:=λy hy hp=>by
 obtain ⟨k,hk,rfl⟩:=yBH hy;rw[yAL] at hk;rw[List.getElem_drop] at hp;have hlt:(l.findIdx λx=> !decide (P x))<l.length:=by omega
 have h0:=List.findIdx_getElem (p:=λx=> !decide (P x)) (xs:=l) (w:=hlt);have h0:¬P l[l.findIdx λx=> !decide (P x)]:=by grind
 rcases yCg k with rfl|hk0;·grind
 ·exact h0 (yAH.1 mono _ _ hlt (by omega) (by omega) hp)
theorem zu0{α:Type}(P:α->Bool)(l:List α):l.findIdx P<=l.length:=List.findIdx_le_length
namespace Tryz
def ztB:List UInt8:=[110,97,109,101]
def ztA:List UInt8:=[118,101,114,115,105,111,110]
def ztG:List UInt8:=[114,111,111,116]
def ztn(c:Gt.BillChange):Bool :=
 bif c.kind==1 then (len c.component==0&&len c.edge==0)&&((c.ref==ztB||c.ref==ztA)||c.ref==ztG) else
 bif c.kind==2 then ((!(c.ref==[])&&c.text==[])&&len c.component==0)&&len c.edge==0 else
 bif c.kind==3||c.kind==4 then ((!(c.ref==[])&&c.text==[])&&len c.component==1)&&len c.edge==0 else
 ((c.ref==[]&&c.text==[])&&len c.component==0)&&len c.edge==1
theorem m126_eq'(orc:Orc Sx)(c:Gt.BillChange):m126 orc c=some (ztn c,()):=by
 unfold m126 ztn;rw[show ([110,97,109,101]:List UInt8)=ztB from rfl,show ([118,101,114,115,105,111,110]:List UInt8)=ztA from rfl,show ([114,111,111,116]:List UInt8)=ztG from rfl,show (c.ref != [])= !(c.ref==[]) from rfl];cases h1:c.kind==1 with
 |true =>generalize (len c.component==0)=A;generalize (len c.edge==0)=B;generalize (c.ref==ztB)=n1;generalize (c.ref==ztA)=n2;generalize (c.ref==ztG)=n3;cases A<;>cases B<;>cases n1<;>cases n2<;>cases n3<;>rfl|false =>
   generalize (c.ref==[])=A;generalize (c.text==[])=B;generalize (len c.component==0)=C;generalize (len c.component==1)=C';generalize (len c.edge==0)=D;generalize (len c.edge==1)=D';cases h2:c.kind==2 with
   |true=>cases A<;>cases B<;>cases C<;>cases D<;>rfl|false =>
     cases h3:c.kind==3 with
     |true=>cases A<;>cases B<;>cases C'<;>cases D<;>rfl|false =>
       cases h4:c.kind==4 with
       |true=>cases A<;>cases B<;>cases C'<;>cases D<;>rfl|false=>cases A<;>cases B<;>cases C<;>cases D'<;>rfl
def zum(c:Gt.BillChange):Bool:=bif decide (c.kind<1) then true else decide (6<c.kind)
def zue(c:Gt.BillChange):Int:=bif zum c then 7 else bif ztn c then 0 else 2
end Tryz
end Pe
end
section
/- Changes of components, on both sides. -/
set_option maxRecDepth 100000
namespace Pe.Tryz
open Go Go.Proofs Pe Pe.Bfs
noncomputable def pC(l:List Gt.Component)(r:List UInt8):Nat:=l.findIdx λx=> !decide (x.ref<r)
def inC(l:List Gt.Component)(r:List UInt8):Bool:=l.any λx=>x.ref==r
theorem zuq{l:List Gt.Component}(h:l.Pairwise rC)(r:List UInt8):l.Pairwise λx y=>y.ref<r->x.ref<r:=h.imp λ{_ _} h k=>yCa h k
theorem zvi(l:List Gt.Component)(r:List UInt8):pC l r<=l.length:=zu0 _ _
theorem zuu(l:List Gt.Component)(r:List UInt8):∀y∈l.take (pC l r),y.ref<r:=zui (λx:Gt.Component=>x.ref<r) l
theorem zuv{l:List Gt.Component}(h:l.Pairwise rC)(r:List UInt8):∀y∈l.drop (pC l r),¬y.ref<r:=zuj (λx:Gt.Component=>x.ref<r) (zuq h r)
theorem zuZ{l:List Gt.Component}(h:l.Pairwise rC){r:List UInt8}{k:Nat}(hk:k<l.length)(he:l[k].ref=r):k=pC l r:=by
 rcases yBL k (pC l r) with h1|h1|h1;·exfalso;have:=zuu l r l[k] (by rw[List.mem_take_iff_getElem];exact ⟨k,by omega,rfl⟩);simp_all[yBn]
 ·exact h1
 ·exfalso;have hp:pC l r<l.length:=by omega
  have h2:=yAH.1 h (pC l r) k hp hk h1;grind[rC,pC]
theorem ztM{l:List Gt.Component}(h:l.Pairwise rC)(r:List UInt8):inC l r=true↔∃hp:pC l r<l.length,l[pC l r].ref=r:=by
 unfold inC;rw[yBd];constructor
 ·rintro ⟨x,hx,he⟩
  obtain ⟨k,hk,rfl⟩:=yBH hx;grind[zuZ]
 ·rintro ⟨hp,he⟩
  exact ⟨_,yAy hp,by grind⟩
theorem m67_s(orc:Orc Sx)(h109:∀(c:Gt.Component) r,orc.d 109 [.st 5 c,.str r] [.int .i64]=(some (cS c.ref r,()):Option (Int×Unit))){b:Gt.Bill}(hb:b.components.Pairwise rC)(hn:b.components.length<=1000000)(r:List UInt8) :
  m67 orc b r=some ((pC b.components r:Int),inC b.components r,()):=by
 unfold m67;rw[show len b.components=((b.components.length:Nat):Int) from rfl,zuF (R':=Int×Bool×Unit) (f:=_) b.components (λx=>x.ref<r) (λi j hi hj hij h=>yCa (yAH.1 hb i j hi hj hij) h) (λlo hi hlt hh hm=>?_) (λlo=>?_)]
 ·rw[zaj];dsimp only;rw[show (List.findIdx (λx:Gt.Component=> !decide (x.ref<r)) b.components)=pC b.components r from rfl];rcases yAT (pC b.components r) b.components.length with hp|hp
  ·rw[show decide ((pC b.components r:Int)<((b.components.length:Nat):Int))=true from by grind,zac,zan hp,zaa,h109,zaa,zaa,zaa];dsimp only;have:(cS b.components[pC b.components r].ref r==0)=inC b.components r:=by
    rw[yBC,ztM hb];simp_all[ztx]
   rw[this]
  ·rw[show decide ((pC b.components r:Int)<((b.components.length:Nat):Int))=false from by simp;omega,zab,zaa,zaa];have:inC b.components r=false:=by
    cases h:inC b.components r with
    |false=>rfl|true=>obtain ⟨h1,_⟩:=(ztM hb r).1 h;omega
   rw[this]
 ·dsimp only;rw[show decide ((lo:Int)<(hi:Int))=true from by simp;omega,zac,midI (by omega),zan hm,zaa,h109,zaa];by_cases hc:b.components[(lo+hi) / 2].ref<r;·rw[if_pos hc,show decide (cS b.components[(lo+hi) / 2].ref r<0)=true from by simp_all[zc4],zac,zaH (by omega) (by omega)];rfl
  ·rw[if_neg hc,show decide (cS b.components[(lo+hi) / 2].ref r<0)=false from by simp_all[zc4],zab]
 ·dsimp only;rw[show decide ((lo:Int)<(lo:Int))=false from by simp,zab]
def zC:Gt.Component:=Gt.Component.mk [] (Gt.Purl.mk [] [] [] [] [] []) [] [] []
def xC(c:Gt.BillChange):Gt.Component:=c.component.getD 0 zC
def mkC(b:Gt.Bill)(l:List Gt.Component):Gt.Bill:=Gt.Bill.mk b.name b.version b.root l b.edges
noncomputable def zvc(b:Gt.Bill)(c:Gt.BillChange):Gt.Bill×Int :=
 bif c.kind==3 then (bif inC b.components c.ref then (b,5) else bif (xC c).ref==c.ref then (mkC b (b.components.take (pC b.components c.ref)++[xC c]++b.components.drop (pC b.components c.ref)),0) else (b,2)) else
 bif !inC b.components c.ref then (b,4) else
 bif c.kind==2 then (mkC b (b.components.eraseIdx (pC b.components c.ref)),0) else
 bif (xC c).ref==c.ref then (mkC b (b.components.set (pC b.components c.ref) (xC c)),0) else (b,2)
abbrev BT:=List UInt8×List UInt8×List UInt8×List Gt.Component×List Gt.Edge×Int×Unit
def zry(p:Gt.Bill×Int):BT:=(p.1.name,p.1.version,p.1.root,p.1.components,p.1.edges,p.2,())
structure ApO (orc:Orc Sx) (b:Gt.Bill) (c:Gt.BillChange):Prop where
 h67:orc.d 67 [.st 3 b,.str c.ref] [(.int .i64),.bool]=(some ((pC b.components c.ref:Int),inC b.components c.ref,()):Option (Int×Bool×Unit))
 h68:orc.d 68 [.st 5 (xC c)] [(.st 5)]=(some (xC c,()):Option (Gt.Component×Unit))
 h173:∀(l:List Gt.Component)(k:Nat),k<l.length->orc.l 173 sg173 ((l,(k:Int),((k+1:Nat):Int),()):List Gt.Component×Int×Int×Unit)=(some (.inl (l.eraseIdx k,())):Option ((List Gt.Component×Unit)⊕Unit))
 h174:∀(l:List Gt.Component)(k:Nat)(x:Gt.Component),k<=l.length->l.length<=1000000->orc.l 174 sg174 ((l,(k:Int),[x],()):List Gt.Component×Int×List Gt.Component×Unit)=(some (.inl (l.take k++[x]++l.drop k,())):Option ((List Gt.Component×Unit)⊕Unit))
theorem zuK{c:Gt.BillChange}(h:c.component.length=1):at? c.component 0=some (xC c):=by
 unfold xC
 match hc:c.component,h with
 |[x],_=>rfl
theorem m128_eq'{orc:Orc Sx}{b:Gt.Bill}{c:Gt.BillChange}(K:ApO orc b c)(hb:b.components.Pairwise rC)(hn:b.components.length<=1000000)(hx:c.kind≠2->c.component.length=1) :
  m128 orc b.name b.version b.root b.components b.edges c=some (.inl (zry (zvc b c))):=by
 have hp:=zvi b.components c.ref;have hw:IntKind.i64.wrap ((pC b.components c.ref:Int)+1)=((pC b.components c.ref+1:Nat):Int):=zaH (by omega) (by omega);unfold m128 zvc;rw[show Gt.Bill.mk b.name b.version b.root b.components b.edges=b from rfl,K.h67,zaa];dsimp only;rw[show (c.kind != 3)= !(c.kind==3) from rfl];cases h3:c.kind==3 with
 |true =>
   have hk:c.kind=3:=(by grind);have hc1:=hx (by omega);rw[yBS,zab,zaa,zab,zac,zaa,cond_true,show (c.kind==2)=false from by rw[hk];rfl];cases hi:inC b.components c.ref with
   |true=>rfl|false =>
     rw[zab,zab,cond_false,zuK hc1,zaa,zaa,show ((xC c).ref != c.ref)= !((xC c).ref==c.ref) from rfl];cases hr:(xC c).ref==c.ref with
     |false=>rfl|true=>rw[yBS,zab,K.h68,zaa,zab,K.h174 _ _ _ hp hn,zaA];rfl
 |false =>
   rw[Bool.not_false,zac,zaa,cond_false];cases hi:inC b.components c.ref with
   |false=>rfl|true =>
     obtain ⟨hlt,_⟩:=(ztM hb c.ref).1 hi;rw[yBS,zab,zab,zaa,zab,cond_false];cases h2:c.kind==2 with
     |true=>rw[zac,hw,K.h173 _ _ hlt,zaA];rfl|false =>
       have hc1:=hx (by grind);rw[zab,zuK hc1,zaa,zaa,show ((xC c).ref != c.ref)= !((xC c).ref==c.ref) from rfl,cond_false];cases hr:(xC c).ref==c.ref with
       |false=>rfl|true =>rw[yBS,zab,K.h68,zaa,zac,zle hlt,zaa,show zdc b.components (pC b.components c.ref)=some b.components[pC b.components c.ref] from yAe _,zaa];rfl
end Pe.Tryz
end
section
/- Changes of edges, on both sides. -/
set_option maxRecDepth 100000
namespace Pe.Tryz
open Go Go.Proofs Pe Pe.Bfs
def ztJ(x y:Gt.Edge):Bool:=(x.from_==y.from_)&&((x.to==y.to)&&((x.scope==y.scope)&&true))
theorem ztr{x y:Gt.Edge}:ztJ x y=true↔x=y:=by unfold ztJ;cases x;cases y;simp
theorem zuC(x:Gt.Edge):zpV x x=0:=by simp_all[zpV,ztx,sgI]
noncomputable def pE(l:List Gt.Edge)(e:Gt.Edge):Nat:=l.findIdx λx=> !decide (zpV x e<0)
def inE(l:List Gt.Edge)(e:Gt.Edge):Bool:=l.any λx=>ztJ x e
theorem pE_le(l:List Gt.Edge)(e:Gt.Edge):pE l e<=l.length:=zu0 _ _
theorem zus(l:List Gt.Edge)(e:Gt.Edge):∀y∈l.take (pE l e),rE y e:=zui (λx:Gt.Edge=>zpV x e<0) l
theorem zut{l:List Gt.Edge}(h:l.Pairwise rE)(e:Gt.Edge):∀y∈l.drop (pE l e),¬rE y e:=zuj (λx:Gt.Edge=>zpV x e<0) (h.imp λ{_ _} h k=>zu4 h k)
theorem zuU(x:Gt.Edge):¬rE x x:=λh=>zuk _ _ h h
theorem zuY{l:List Gt.Edge}(h:l.Pairwise rE){e:Gt.Edge}{k:Nat}(hk:k<l.length)(he:l[k]=e):k=pE l e:=by
 rcases yBL k (pE l e) with h1|h1|h1;·exfalso;have:=zus l e l[k] (by rw[List.mem_take_iff_getElem];exact ⟨k,by omega,rfl⟩);grind[zuU]
 ·exact h1
 ·exfalso;have hp:pE l e<l.length:=by omega
  have h2:=yAH.1 h (pE l e) k hp hk h1;rw[he] at h2;exact zut h e l[pE l e] (by rw[List.mem_drop_iff_getElem];exact ⟨0,by omega,by simp⟩) h2
theorem ztZ{l:List Gt.Edge}(h:l.Pairwise rE)(e:Gt.Edge):inE l e=true↔∃hp:pE l e<l.length,l[pE l e]=e:=by
 unfold inE;rw[yBd];constructor
 ·rintro ⟨x,hx,he⟩
  obtain ⟨k,hk,rfl⟩:=yBH hx;have he:=ztr.1 he;grind[zuY]
 ·rintro ⟨hp,he⟩
  exact ⟨_,yAy hp,ztr.2 he⟩
theorem zuz{l:List Gt.Edge}{e:Gt.Edge}:inE l e=true↔e∈l:=by simp_all[inE,ztr]
def zE:Gt.Edge:=Gt.Edge.mk [] [] 0
def xE(c:Gt.BillChange):Gt.Edge:=c.edge.getD 0 zE
def mkE(b:Gt.Bill)(l:List Gt.Edge):Gt.Bill:=Gt.Bill.mk b.name b.version b.root b.components l
noncomputable def zuE(b:Gt.Bill)(c:Gt.BillChange):Gt.Bill×Int :=
 bif c.kind==5 then (bif inE b.edges (xE c) then (mkE b (b.edges.eraseIdx (pE b.edges (xE c))),0) else (b,4)) else
 (bif inE b.edges (xE c) then (b,5) else (mkE b (b.edges.take (pE b.edges (xE c))++[xE c]++b.edges.drop (pE b.edges (xE c))),0))
theorem zu2{c:Gt.BillChange}(h:c.edge.length=1):at? c.edge 0=some (xE c):=by
 unfold xE
 match hc:c.edge,h with
 |[x],_=>rfl
structure ApE (orc:Orc Sx):Prop where
 h100:∀x y:Gt.Edge,orc.d 100 [.st 7 x,.st 7 y] [(.int .i64)]=(some (zpV x y,()):Option (Int×Unit))
 h176:∀(l:List Gt.Edge)(k:Nat),k<l.length->orc.l 176 sg176 ((l,(k:Int),((k+1:Nat):Int),()):List Gt.Edge×Int×Int×Unit)=(some (.inl (l.eraseIdx k,())):Option ((List Gt.Edge×Unit)⊕Unit))
 h177:∀(l:List Gt.Edge)(k:Nat)(x:Gt.Edge),k<=l.length->l.length<=1000000->orc.l 177 sg177 ((l,(k:Int),[x],()):List Gt.Edge×Int×List Gt.Edge×Unit)=(some (.inl (l.take k++[x]++l.drop k,())):Option ((List Gt.Edge×Unit)⊕Unit))
theorem m129_eq'{orc:Orc Sx}{b:Gt.Bill}{c:Gt.BillChange}(K:ApE orc)(hb:b.edges.Pairwise rE)(hn:b.edges.length<=1000000)(hx:c.edge.length=1)(hk:c.kind=5\/c.kind=6) :
  m129 orc b.name b.version b.root b.components b.edges c=some (.inl (zry (zuE b c))):=by
 have hp:=pE_le b.edges (xE c);have hw:IntKind.i64.wrap ((pE b.edges (xE c):Int)+1)=((pE b.edges (xE c)+1:Nat):Int):=zaH (by omega) (by omega);unfold m129;rw[zu2 hx,zaa,show len b.edges=((b.edges.length:Nat):Int) from rfl,zuF (R':=Int×Bool×Unit) (f:=_) b.edges (λx=>zpV x (xE c)<0) (λi j hi hj hij h=>zu4 (yAH.1 hb i j hi hj hij) h) (λlo hi hlt hh hm=>?_) (λlo=>?_)]
 ·rw[zaj];dsimp only;rw[show (List.findIdx (λx:Gt.Edge=> !decide (zpV x (xE c)<0)) b.edges)=pE b.edges (xE c) from rfl];have hfound:(ob (br (decide ((pE b.edges (xE c):Int)<((b.edges.length:Nat):Int))) (ob (at? b.edges (pE b.edges (xE c):Int)) λy7=>(ob (α:=Int×Unit) (orc.d 100 [.st 7 y7,.st 7 (xE c)] [(.int .i64)]) λ(r8:Int×Unit)=>(some (r8.1==0)))) (some false)) λb9=>(some ((pE b.edges (xE c):Int),b9,())):Option (Int×Bool×Unit))=some ((pE b.edges (xE c):Int),inE b.edges (xE c),()):=by
   rcases yAT (pE b.edges (xE c)) b.edges.length with hp|hp
   ·rw[show decide ((pE b.edges (xE c):Int)<((b.edges.length:Nat):Int))=true from by grind,zac,zan hp,zaa,K.h100,zaa,zaa];have:(zpV b.edges[pE b.edges (xE c)] (xE c)==0)=inE b.edges (xE c):=by
     rw[yBC,ztZ hb];simp only[beq_iff_eq];grind[zt8,zuC]
    rw[this]
   ·rw[show decide ((pE b.edges (xE c):Int)<((b.edges.length:Nat):Int))=false from by simp;omega,zab,zaa];have:inE b.edges (xE c)=false:=by
     cases h:inE b.edges (xE c) with
     |false=>rfl|true=>obtain ⟨h1,_⟩:=(ztZ hb _).1 h;omega
    rw[this]
  rw[hfound,zaa];dsimp only;unfold zuE;rcases hk with hk|hk
  ·rw[hk,show ((5:Int)==5)=true from rfl,zac,zaa,cond_true];cases hi:inE b.edges (xE c) with
   |false=>rfl|true =>obtain ⟨hlt,_⟩:=(ztZ hb _).1 hi;rw[yBS,zab,show ((5:Int)==6)=false from rfl,zab,zaa,zab,zac,hw,K.h176 _ _ hlt,zaA];rfl
  ·rw[hk,show ((6:Int)==5)=false from rfl,zab,zaa,zab,show ((6:Int)==6)=true from rfl,zac,zaa,cond_false];cases hi:inE b.edges (xE c) with
   |true=>rfl|false=>rw[zab,zab,zaa,K.h177 _ _ _ hp hn,zaA];rfl
 ·dsimp only;rw[show decide ((lo:Int)<(hi:Int))=true from by simp;omega,zac,midI (by omega),zan hm,zaa,K.h100,zaa];by_cases hc:zpV b.edges[(lo+hi) / 2] (xE c)<0;·rw[if_pos hc,show decide (zpV b.edges[(lo+hi) / 2] (xE c)<0)=true from decide_eq_true hc,zac,zaH (by omega) (by omega)];rfl
  ·rw[if_neg hc,show decide (zpV b.edges[(lo+hi) / 2] (xE c)<0)=false from decide_eq_false hc,zab]
 ·dsimp only;rw[show decide ((lo:Int)<(lo:Int))=false from by simp,zab]
theorem zuh{l:List Gt.Edge}(h:l.Pairwise rE){e:Gt.Edge}(hn:inE l e=false):(l.take (pE l e)++[e]++l.drop (pE l e)).Pairwise rE :=
 zuf h (zus l e) λy hy=>zuT (zut h e y hy) λhe=>by have:=zuz.2 (he▸List.mem_of_mem_drop hy:e∈l);grind
end Pe.Tryz
end
section
/- One change, on both sides. -/
set_option maxRecDepth 100000
namespace Pe.Tryz
open Go Go.Proofs Pe Pe.Bfs
def mkH(b:Gt.Bill)(n v r:List UInt8):Gt.Bill:=Gt.Bill.mk n v r b.components b.edges
def ztD(b:Gt.Bill)(c:Gt.BillChange):Gt.Bill :=
 bif c.ref==ztB then mkH b c.text b.version b.root else
 bif c.ref==ztA then mkH b b.name c.text b.root else
 bif c.ref==ztG then mkH b b.name b.version c.text else b
noncomputable def chg(b:Gt.Bill)(c:Gt.BillChange):Gt.Bill×Int :=
 bif zue c != 0 then (b,zue c) else bif c.kind==1 then (ztD b c,0) else bif decide (c.kind<=4) then zvc b c else zuE b c
theorem zup{c:Gt.BillChange}(h:zue c=0):(1<=c.kind/\c.kind<=6)/\ztn c=true:=by
 unfold zue at h;cases hr:zum c with
 |true=>grind|false =>
   rw[hr,cond_false] at h;cases hf:ztn c with
   |false=>grind|true =>
     refine ⟨?_,rfl⟩;grind[zum]
theorem zuw{α:Type}{l:List α}(h:(len l==1)=true):l.length=1:=by
 grind[len]
theorem ztu{c:Gt.BillChange}(h:ztn c=true)(hk:c.kind=3\/c.kind=4):c.component.length=1:=by
 unfold ztn at h;have:(c.kind==1)=false/\(c.kind==2)=false/\(c.kind==3||c.kind==4)=true:=by rcases hk with hk|hk<;>rw[hk]<;>exact ⟨rfl,rfl,rfl⟩
 rw[this.1,this.2.1,this.2.2] at h;simp only[cond_false,cond_true,yAd] at h;exact zuw h.1.2
theorem ztN{c:Gt.BillChange}(h:ztn c=true)(hk:c.kind=5\/c.kind=6):c.edge.length=1:=by
 unfold ztn at h;have:(c.kind==1)=false/\(c.kind==2)=false/\(c.kind==3||c.kind==4)=false:=by rcases hk with hk|hk<;>rw[hk]<;>exact ⟨rfl,rfl,rfl⟩
 rw[this.1,this.2.1,this.2.2] at h;simp_all[zuw]
theorem m127_eq'(orc:Orc Sx)(b:Gt.Bill)(c:Gt.BillChange):m127 orc b.name b.version b.root b.components b.edges c =
  some (.inl ((ztD b c).name,(ztD b c).version,(ztD b c).root,(ztD b c).components,(ztD b c).edges,())):=by
 unfold m127 ztD;rw[show ([110,97,109,101]:List UInt8)=ztB from rfl,show ([118,101,114,115,105,111,110]:List UInt8)=ztA from rfl,show ([114,111,111,116]:List UInt8)=ztG from rfl];cases c.ref==ztB with
 |true=>rfl|false =>
   cases c.ref==ztA with
   |true=>rfl|false =>
     cases c.ref==ztG with
     |true=>rfl|false=>rfl
structure ApS (orc:Orc Sx) (b:Gt.Bill) (c:Gt.BillChange):Prop where
 h126:orc.d 126 [.st 4 c] [.bool]=(some (ztn c,()):Option (Bool×Unit))
 h127:orc.l 127 sg127 ((b.name,b.version,b.root,b.components,b.edges,c,()):List UInt8×List UInt8×List UInt8×List (Gt.Component)×List (Gt.Edge)×Gt.BillChange×Unit)=(some (.inl ((ztD b c).name,(ztD b c).version,(ztD b c).root,(ztD b c).components,(ztD b c).edges,())):Option ((List UInt8×List UInt8×List UInt8×List (Gt.Component)×List (Gt.Edge)×Unit)⊕Unit))
 h128:(c.kind≠2->c.component.length=1)->orc.l 128 sg128 ((b.name,b.version,b.root,b.components,b.edges,c,()):List UInt8×List UInt8×List UInt8×List (Gt.Component)×List (Gt.Edge)×Gt.BillChange×Unit)=(some (.inl (zry (zvc b c))):Option (BT⊕Unit))
 h129:c.edge.length=1->c.kind=5\/c.kind=6->orc.l 129 sg129 ((b.name,b.version,b.root,b.components,b.edges,c,()):List UInt8×List UInt8×List UInt8×List (Gt.Component)×List (Gt.Edge)×Gt.BillChange×Unit)=(some (.inl (zry (zuE b c))):Option (BT⊕Unit))
theorem zvd(c:Gt.BillChange):(ob (br (decide (c.kind<1)) (some true) (some (decide (6<c.kind)))))=λK=>(K (zum c):Option (BT⊕Unit)):=funext λK=>by unfold zum;cases decide (c.kind<1)<;>rfl
theorem m82_eq'{orc:Orc Sx}{b:Gt.Bill}{c:Gt.BillChange}(K:ApS orc b c):m82 orc b.name b.version b.root b.components b.edges c=some (.inl (zry (chg b c))):=by
 unfold m82;rw[zvd];dsimp only;unfold chg;cases h0:zue c != 0 with
 |true =>
   rw[cond_true];unfold zue at h0 ⊢;cases hr:zum c with
   |true=>rfl|false =>
     rw[zab,K.h126,zaa];rw[hr,cond_false] at h0;cases hf:ztn c with
     |true=>grind|false=>rfl
 |false =>
   have h0:zue c=0:=(by grind);obtain ⟨hk,hf⟩:=zup h0;have hr:zum c=false:=by simp_all[zum]
   rw[cond_false,hr,zab,K.h126,zaa,hf];dsimp only;rw[yBS,zab];cases h1:c.kind==1 with
   |true=>rw[zac,K.h127,zaA,cond_true];rfl|false =>
     have h1:c.kind≠1:=(by grind);rw[zab,cond_false];cases h4:decide (c.kind<=4) with
     |true =>have h4:=of_decide_eq_true h4;rw[zac,K.h128 (λh2=>ztu hf (by omega)),zaA,cond_true]
     |false =>have h4:=of_decide_eq_false h4;rw[zab,K.h129 (ztN hf (by omega)) (by omega),zaA,cond_false]
theorem zt4{l:List Gt.Component}(h:l.Pairwise rC){x:Gt.Component}(hn:inC l x.ref=false):(l.take (pC l x.ref)++[x]++l.drop (pC l x.ref)).Pairwise rC :=
 zuf h (zuu l x.ref) λy hy=>zuV (zuv h x.ref y hy) λhe=>by have:inC l x.ref=true:=yBd.2 ⟨y,List.mem_of_mem_drop hy,by grind⟩;grind
end Pe.Tryz
end
section
/- What the functions of a change answer; what stays true. -/
set_option maxRecDepth 100000
namespace Pe.Tryz
open Go Go.Proofs Pe Pe.Bfs
theorem q81(n:Nat)(l:List Gt.Edge): @Eq (Option ((List Gt.Edge×Unit)⊕Unit)) ((zah (n+1)).l 81 sg81 ((l,()):List Gt.Edge×Unit)) (bif Nat.ble l.length 1000000 then some (.inl (l,())) else none):=by kernel_rfl
theorem q173(n:Nat)(l:List Gt.Component)(k j:Int): @Eq (Option ((List Gt.Component×Unit)⊕Unit)) ((zah (n+1)).l 173 sg173 ((l,k,j,()):List Gt.Component×Int×Int×Unit)) (zt1 l k j):=by kernel_rfl
theorem q174(n:Nat)(l:List Gt.Component)(k:Int)(v:List Gt.Component): @Eq (Option ((List Gt.Component×Unit)⊕Unit)) ((zah (n+1)).l 174 sg174 ((l,k,v,()):List Gt.Component×Int×List Gt.Component×Unit)) (ztY l k v):=by kernel_rfl
theorem q176(n:Nat)(l:List Gt.Edge)(k j:Int): @Eq (Option ((List Gt.Edge×Unit)⊕Unit)) ((zah (n+1)).l 176 sg176 ((l,k,j,()):List Gt.Edge×Int×Int×Unit)) (zt0 l k j):=by kernel_rfl
theorem q177(n:Nat)(l:List Gt.Edge)(k:Int)(v:List Gt.Edge): @Eq (Option ((List Gt.Edge×Unit)⊕Unit)) ((zah (n+1)).l 177 sg177 ((l,k,v,()):List Gt.Edge×Int×List Gt.Edge×Unit)) (ztX l k v):=by kernel_rfl
theorem h173(n:Nat)(l:List Gt.Component)(k:Nat)(hk:k<l.length): @Eq (Option ((List Gt.Component×Unit)⊕Unit)) ((zah (n+1)).l 173 sg173 ((l,(k:Int),((k+1:Nat):Int),()):List Gt.Component×Int×Int×Unit)) (some (.inl (l.eraseIdx k,()))):=by rw[q173];unfold zt1;rw[show decide ((0:Int)<=(k:Int))=true from by simp,show decide (((k+1:Nat):Int)=(k:Int)+1)=true from by simp,show Int.toNat (k:Int)=k from rfl,show Nat.blt k l.length=true from by simp_all];rfl
theorem h176(n:Nat)(l:List Gt.Edge)(k:Nat)(hk:k<l.length): @Eq (Option ((List Gt.Edge×Unit)⊕Unit)) ((zah (n+1)).l 176 sg176 ((l,(k:Int),((k+1:Nat):Int),()):List Gt.Edge×Int×Int×Unit)) (some (.inl (l.eraseIdx k,()))):=by rw[q176];unfold zt0;rw[show decide ((0:Int)<=(k:Int))=true from by simp,show decide (((k+1:Nat):Int)=(k:Int)+1)=true from by simp,show Int.toNat (k:Int)=k from rfl,show Nat.blt k l.length=true from by simp_all];rfl
theorem h174(n:Nat)(l:List Gt.Component)(k:Nat)(x:Gt.Component)(hk:k<=l.length)(hl:l.length<=1000000): @Eq (Option ((List Gt.Component×Unit)⊕Unit)) ((zah (n+1)).l 174 sg174 ((l,(k:Int),[x],()):List Gt.Component×Int×List Gt.Component×Unit)) (some (.inl (l.take k++[x]++l.drop k,()))):=by rw[q174];unfold ztY;simp only[show decide ((0:Int)<=(k:Int))=true from by simp,show Int.toNat (k:Int)=k from rfl,show Nat.ble k l.length=true from by simp_all,show Nat.ble l.length 1000000=true from by simp_all];rfl
theorem h177(n:Nat)(l:List Gt.Edge)(k:Nat)(x:Gt.Edge)(hk:k<=l.length)(hl:l.length<=1000000): @Eq (Option ((List Gt.Edge×Unit)⊕Unit)) ((zah (n+1)).l 177 sg177 ((l,(k:Int),[x],()):List Gt.Edge×Int×List Gt.Edge×Unit)) (some (.inl (l.take k++[x]++l.drop k,()))):=by rw[q177];unfold ztX;simp only[show decide ((0:Int)<=(k:Int))=true from by simp,show Int.toNat (k:Int)=k from rfl,show Nat.ble k l.length=true from by simp_all,show Nat.ble l.length 1000000=true from by simp_all];rfl
structure Going (k:Nat) (b:Gt.Bill):Prop where
 refs:b.components.Pairwise rC
 edges:b.edges.Pairwise rE
 n:b.components.length<=3000+k
 m:b.edges.length<=20000+k
 small:SmB b
structure SmK (c:Gt.BillChange):Prop where
 text:c.text.length<=1000000000
 comps:∀x∈c.component,SmC x
theorem Right.going{b:Gt.Bill}(h:Right b)(hs:SmB b):Going 0 b:=by
 refine ⟨yAH.2 λi j hi hj hij=>?_,yAH.2 λi j hi hj hij=>?_,h.n,h.m,hs⟩;·have:=h.refs i j hij hj;rw[zcU hi,zcU hj] at this;exact this
 ·have:=h.order i j hij hj;simp_all[zfY,zfX,zgV,zug]
theorem SmC.toL{c:Gt.Component}(h:SmC c):SmL c:=⟨h.quals,h.dl,h.fl⟩
theorem zuR{c:Gt.BillChange}(h:c.component.length=1):xC c∈c.component:=by
 simp_all[xC]
theorem xC_sm{c:Gt.BillChange}(h:SmK c):SmL (xC c):=by
 have h:=h.comps;unfold xC
 match hc:c.component,h with
 |[],_=>exact ⟨by decide,by decide,by decide⟩|x::_,h=>grind[SmC.toL]
theorem Going.head{k:Nat}{b:Gt.Bill}(h:Going k b){c:Gt.BillChange}(hc:SmK c):Going (k+1) (ztD b c):=by
 have h1:=h.n;have h2:=h.m;have mk:∀n v r:List UInt8,n.length<=1000000000->v.length<=1000000000->Going (k+1) (mkH b n v r):=λn v r hn hv=>⟨h.refs,h.edges,by show b.components.length<=_;omega,by show b.edges.length<=_;omega,hn,hv,h.small.comps⟩;unfold ztD;cases c.ref==ztB with
 |true=>grind[SmK.text,SmB.version,small]|false =>
   cases c.ref==ztA with
   |true=>grind[SmB.name,small,SmK.text]|false =>
     cases c.ref==ztG with
     |true=>grind[SmB.name,small,SmB.version]|false=>exact mk _ _ b.root h.small.name h.small.version
theorem Going.next{k:Nat}{b:Gt.Bill}(h:Going k b):Going (k+1) b:=⟨h.refs,h.edges,by have:=h.n;omega,by have:=h.m;omega,h.small⟩
theorem Going.withC{k:Nat}{b:Gt.Bill}(h:Going k b){l:List Gt.Component}(h1:l.Pairwise rC)(h2:l.length<=b.components.length+1)(h3:∀c∈l,SmC c):Going (k+1) (mkC b l) :=
 ⟨h1,h.edges,by have:=h.n;show l.length<=_;omega,by have:=h.m;show b.edges.length<=_;omega,h.small.name,h.small.version,h3⟩
theorem Going.withE{k:Nat}{b:Gt.Bill}(h:Going k b){l:List Gt.Edge}(h1:l.Pairwise rE)(h2:l.length<=b.edges.length+1):Going (k+1) (mkE b l) :=
 ⟨h.refs,h1,by have:=h.n;show b.components.length<=_;omega,by have:=h.m;show l.length<=_;omega,h.small.name,h.small.version,h.small.comps⟩
theorem zuM{l:List Gt.Component}(h:l.Pairwise rC){p:Nat}(hp:p<l.length){x:Gt.Component}(hr:x.ref=l[p].ref):(l.set p x).Pairwise rC:=by
 have ref:∀i (hi:i<(l.set p x).length) (hi':i<l.length),(l.set p x)[i].ref=l[i].ref:=λi hi hi'=>by
  grind
 rw[yAH];intro i j hi hj hij;have hi':i<l.length:=by grind
 have hj':j<l.length:=by grind
 unfold rC;rw[ref i hi hi',ref j hj hj'];exact yAH.1 h i j hi' hj' hij
theorem zur{α:Type}{l:List α}{p:Nat}{x:α}:(l.take p++[x]++l.drop p).length=l.length+1:=by simp only[yAI,yAY,yAL,List.length_singleton];omega
theorem Going.comp{k:Nat}{b:Gt.Bill}(h:Going k b){c:Gt.BillChange}(hc:SmK c)(hx:c.kind≠2->c.component.length=1):Going (k+1) (zvc b c).1:=by
 unfold zvc;cases h3:c.kind==3 with
 |true =>
   have h3:c.kind=3:=(by grind);cases hi:inC b.components c.ref with
   |true=>exact h.next|false =>
     cases hr:(xC c).ref==c.ref with
     |false=>exact h.next|true =>
       have hr:(xC c).ref=c.ref:=(by grind);refine h.withC (by grind[zt4,refs]) (by rw[zur];exact yAi _) λy hy=>?_;rcases zuc.1 hy with hy|rfl;·exact h.small.comps y hy
       grind[SmK.comps,zuR]
 |false =>
   cases hi:inC b.components c.ref with
   |false=>exact h.next|true =>
     obtain ⟨hp,he⟩:=(ztM h.refs c.ref).1 hi;cases h2:c.kind==2 with
     |true=>exact h.withC (ztK _ h.refs) (Nat.le_succ_of_le (List.length_eraseIdx_le _ _)) λy hy=>h.small.comps y (List.mem_of_mem_eraseIdx hy)|false =>
       have h2:c.kind≠2:=(by grind);cases hr:(xC c).ref==c.ref with
       |false=>exact h.next|true =>
         have hr:(xC c).ref=c.ref:=(by grind);refine h.withC (zuM h.refs hp (hr.trans he.symm)) (by grind) λy hy=>?_;rcases List.mem_or_eq_of_mem_set hy with hy|rfl;·exact h.small.comps y hy
         grind[SmK.comps,zuR]
theorem Going.edge{k:Nat}{b:Gt.Bill}(h:Going k b){c:Gt.BillChange}:Going (k+1) (zuE b c).1:=by
 unfold zuE;cases c.kind==5 with
 |true =>
   grind[withE,edges,next]
 |false =>
   cases hi:inE b.edges (xE c) with
   |true=>exact h.next|false=>exact h.withE (zuh h.edges hi) (by rw[zur];exact yAi _)
theorem Going.chg{k:Nat}{b:Gt.Bill}(h:Going k b){c:Gt.BillChange}(hc:SmK c):Going (k+1) (chg b c).1:=by
 unfold Tryz.chg;cases h0:zue c != 0 with
 |true=>exact h.next|false =>
   have h0:zue c=0:=(by grind);obtain ⟨hk,hf⟩:=zup h0;rw[cond_false];cases h1:c.kind==1 with
   |true=>grind[head]|false =>
     have h1:c.kind≠1:=(by grind);rw[cond_false];grind[comp,ztu,edge]
theorem L82{n k:Nat}(hk:k<=30000){b:Gt.Bill}(h:Going k b){c:Gt.BillChange}(hc:SmK c) :
  @Eq (Option (BT⊕Unit)) ((zah (n+12)).l 82 sg82 ((b.name,b.version,b.root,b.components,b.edges,c,()):List UInt8×List UInt8×List UInt8×List (Gt.Component)×List (Gt.Edge)×Gt.BillChange×Unit)) (some (.inl (zry (chg b c)))):=by
 have h1:=h.n;have h2:=h.m;refine (q82 (n+11) _ _ _ _ _ _).trans (m82_eq' ⟨(q126 (n+10) c).trans (m126_eq' _ c),(q127 (n+10) _ _ _ _ _ _).trans (m127_eq' _ b c),λhx=>?_,λhx hk=>?_⟩)
 ·refine (q128 (n+10) _ _ _ _ _ _).trans (m128_eq' ⟨?_,?_,h173 (n+9),h174 (n+9)⟩ h.refs (by omega) hx);·exact (q67 (n+9) b c.ref).trans (m67_s _ (λc r=>L109 (n+6) c r) h.refs (by omega) c.ref)
  grind[L68,xC_sm]
 ·exact (q129 (n+10) _ _ _ _ _ _).trans (m129_eq' ⟨λx y=>L100 (n+6) x y,h176 (n+9),h177 (n+9)⟩ h.edges (by omega) hx hk)
end Pe.Tryz
end
section
/- The small bill, reckoned. -/
set_option maxRecDepth 100000
namespace Pe.Tryz
open Go Go.Proofs Pe Pe.Bfs
theorem ztp{α β:Type}{x:Option α}{v:α}{K:α->Option β}{r:Option β}(h:x=some v)(k:K v=r):ob x K=r:=by rw[h];exact k
theorem zuG{α:Type}{b:Bool}{x y r:Option α}(h:b=true)(k:x=r):br b x y=r:=by rw[h];exact k
theorem zuH{α:Type}{b:Bool}{x y r:Option α}(h:b=false)(k:y=r):br b x y=r:=by rw[h];exact k
def ctF{σ R:Type}(K:σ->Option R):σ⊕R->Option R| .inl s=>K s| .inr r=>some r
theorem ztz{σ R:Type}{x:Option (σ⊕R)}{z:σ⊕R}{K:σ->Option R}{r:Option R}(h:x=some z)(k:ctF K z=r):zaE x K=r:=by rw[h];cases z<;>exact k
theorem ztq{σ R:Type}{f:σ->Option (σ⊕R)}{s:σ}{z:σ⊕R}{r:Option R}(h:f s=some z)(k:ctF (zak f) z=r):zak f s=r:=by
 cases z with
 |inl y=>exact (zaR h).trans k|inr q=>exact (zaD h).trans k
theorem ev_oc{α β R:Type}{x:Option (α⊕β)}{a:α}{f:α->Option R}{g:β->Option R}{r:Option R}(h:x=some (.inl a))(k:f a=r):oc x f g=r:=by rw[h];exact k
theorem ztQ{σ R:Type}{K:σ->Option R}{s:σ}{r:Option R}(k:K s=r):ctF K (.inl s)=r:=k
theorem ztP{σ R:Type}{K:σ->Option R}{q:R}{r:Option R}(k:some q=r):ctF K (.inr q)=r:=k
def zuo:Gt.Gf:=Gt.Gf.mk zkn 0 [[1],[2],[]] [[],[0],[1]]
theorem t122(n:Nat):m122 (zah (n+1)) zkn 1=some (zuo,()):=by
 unfold m122
 repeat' first
  |with_reducible apply ztz
  |with_reducible apply ztq
  |with_reducible apply ztQ
  |with_reducible apply ztP
  |with_reducible apply ztp
  |with_reducible refine zuG (by with_unfolding_all rfl) ?_
  |with_reducible refine zuH (by with_unfolding_all rfl) ?_
  |refine ev_oc ((q168 n _).trans (show _=some (.inl (_,())) from rfl)) ?_
  |exact rfl
theorem t58(n:Nat):m58 (zah n) [[],[0],[1]] 2 (-1)=some ([2,1,0],()):=by
 unfold m58
 repeat' first
  |with_reducible apply ztz
  |with_reducible apply ztq
  |with_reducible apply ztQ
  |with_reducible apply ztP
  |with_reducible apply ztp
  |with_reducible refine zuG (by with_unfolding_all rfl) ?_
  |with_reducible refine zuH (by with_unfolding_all rfl) ?_
  |exact rfl
theorem t58'(n:Nat):m58 (zah n) [[1],[2],[]] 0 1=some ([0, -1, -1],()):=by
 unfold m58
 repeat' first
  |with_reducible apply ztz
  |with_reducible apply ztq
  |with_reducible apply ztQ
  |with_reducible apply ztP
  |with_reducible apply ztp
  |with_reducible refine zuG (by with_unfolding_all rfl) ?_
  |with_reducible refine zuH (by with_unfolding_all rfl) ?_
  |exact rfl
theorem t57(n:Nat):m57 (zah (n+1)) zuo 2=some ([0,1,2],()):=by
 unfold m57
 repeat' first
  |with_reducible apply ztz
  |with_reducible apply ztq
  |with_reducible apply ztQ
  |with_reducible apply ztP
  |with_reducible apply ztp
  |with_reducible refine zuG (by with_unfolding_all rfl) ?_
  |with_reducible refine zuH (by with_unfolding_all rfl) ?_
  |refine ztp ((q58 n _ _ _).trans (t58 n)) ?_
  |exact rfl
theorem t59(n:Nat):m59 (zah n) zuo [1]=some ([[98]],()):=by
 unfold m59
 repeat' first
  |with_reducible apply ztz
  |with_reducible apply ztq
  |with_reducible apply ztQ
  |with_reducible apply ztP
  |with_reducible apply ztp
  |with_reducible refine zuG (by with_unfolding_all rfl) ?_
  |with_reducible refine zuH (by with_unfolding_all rfl) ?_
  |exact rfl
theorem t14(n:Nat):m14 (zah (n+200)) zkn [99] 1=some ([[98]],0,()):=by
 have h79:m79 (zah (n+198)) zkn 1=some (zuo,0,()):=by
  unfold m79
  repeat' first
   |with_reducible apply ztz
   |with_reducible apply ztq
   |with_reducible apply ztQ
   |with_reducible apply ztP
   |with_reducible apply ztp
   |with_reducible refine zuG (by with_unfolding_all rfl) ?_
   |with_reducible refine zuH (by with_unfolding_all rfl) ?_
   |refine ztp ((L40 (by omega) zrj).trans (congrArg (λx:Int=>some (x,())) zp2)) ?_|refine ztp ((q122 (n+197) _ _).trans (t122 (n+196))) ?_|exact rfl
 have h67:m67 (zah (n+198)) zkn [99]=some (2,true,()):=m67_s _ (λc r=>L109 (n+195) c r) (show List.Pairwise (λx y:Gt.Component=>x.ref<y.ref) zkn.components by decide) (by decide) [99];have h56:m56 (zah (n+199)) zkn [99] 1=some (zuo,2,0,()):=by
  unfold m56
  repeat' first
   |with_reducible apply ztz
   |with_reducible apply ztq
   |with_reducible apply ztQ
   |with_reducible apply ztP
   |with_reducible apply ztp
   |with_reducible refine zuG (by with_unfolding_all rfl) ?_
   |with_reducible refine zuH (by with_unfolding_all rfl) ?_
   |refine ztp ((q79 (n+198) _ _).trans h79) ?_
   |refine ztp ((q67 (n+198) _ _).trans h67) ?_
   |exact rfl
 unfold m14
 repeat' first
  |with_reducible apply ztz
  |with_reducible apply ztq
  |with_reducible apply ztQ
  |with_reducible apply ztP
  |with_reducible apply ztp
  |with_reducible refine zuG (by with_unfolding_all rfl) ?_
  |with_reducible refine zuH (by with_unfolding_all rfl) ?_
  |refine ztp ((q56 (n+199) _ _ _).trans h56) ?_
  |refine ztp ((q57 (n+199) _ _).trans (t57 (n+198))) ?_
  |refine ztp ((q58 (n+199) _ _ _).trans (t58' (n+199))) ?_
  |refine ztp ((q59 (n+199) _ _).trans (t59 (n+199))) ?_
  |exact rfl
theorem L19c{n:Nat}(hn:210<=n): @Eq (Option (Bool×Unit)) ((zah n).d 19 [] [.bool]) (some (true,())):=by
 obtain ⟨n,rfl⟩:∃k,n=k+210:=⟨n - 210,by omega⟩;refine (q19 (n+209)).trans ?_;have h66:∀s:List UInt8,@Eq (Option (Gt.Component×Unit)) ((zah (n+209)).d 66 [.str s] [(.st 5)]) (some (cT s,())):=λs=>(q66 (n+208) s).trans rfl;have h18:m18 (zah (n+208)) [[98]] [[98]]=some (true,()):=by
  unfold m18
  repeat' first
   |with_reducible apply ztz
   |with_reducible apply ztq
   |with_reducible apply ztQ
   |with_reducible apply ztP
   |with_reducible apply ztp
   |with_reducible refine zuG (by with_unfolding_all rfl) ?_
   |with_reducible refine zuH (by grind) ?_
   |exact rfl
 unfold m19
 repeat' first
  |with_reducible apply ztz
  |with_reducible apply ztq
  |with_reducible apply ztQ
  |with_reducible apply ztP
  |with_reducible apply ztp
  |with_reducible refine zuG (by with_unfolding_all rfl) ?_
  |with_reducible refine zuH (by with_unfolding_all rfl) ?_
  |refine ztp (h66 _) ?_
  |refine ztp ((q14 (n+208) _ _ _).trans (t14 (n+8))) ?_
  |refine ztp ((q18 (n+208) _ _).trans h18) ?_
  |exact rfl
end Pe.Tryz
end
section
/- Apply on both sides, and the law of applying. -/
set_option maxRecDepth 100000
namespace Pe.Tryz
open Go Go.Proofs Pe Pe.Bfs
noncomputable def apl:List Gt.BillChange->Nat->Gt.Bill->Gt.Bill⊕(Nat×Int)|[],_,b=>.inl b|c::t,k,b=>bif (chg b c).2==0 then apl t (k+1) (chg b c).1 else .inr (k,(chg b c).2)
theorem ztF:∀(t:List Gt.BillChange)(k:Nat)(b b':Gt.Bill),(∀c∈t,SmK c)->Going k b->apl t k b= .inl b'->Going (k+t.length) b'
 |[],k,b,b',_,h,e=>by
   grind[apl]
 |c::t,k,b,b',hs,h,e=>by
   unfold apl at e;cases h0:(chg b c).2==0 with
   |false=>grind|true =>rw[h0,cond_true] at e;have:=ztF t (k+1) _ b' (λx hx=>hs x (by simp[hx])) (h.chg (hs c (by simp))) e;rw[show k+(c::t).length=k+1+t.length from by simp only[yAw];omega];exact this
theorem ztU{σ R:Type}{f:σ->Option (σ⊕R)}{l:List Gt.BillChange}(hs:∀c∈l,SmK c)(st:Nat->Gt.Bill->σ)(done:Gt.Bill->R)(fail:Nat->Int->R)
  (h:∀k (hk:k<l.length) b,Going k b->f (st k b)=some (bif (chg b l[k]).2==0 then .inl (st (k+1) (chg b l[k]).1) else .inr (fail k (chg b l[k]).2)))
  (he:∀b,Going l.length b->f (st l.length b)=some (.inr (done b))) :
  ∀(t:List Gt.BillChange)(k:Nat)(b:Gt.Bill),l.drop k=t->k<=l.length->Going k b->zak f (st k b)=some (match apl t k b with | .inl b'=>done b' | .inr p=>fail p.1 p.2)
 |[],k,b,ht,hk,hg=>by
   have:k=l.length:=by have:=List.drop_eq_nil_iff.1 ht;omega
   subst this;exact zaD (he b hg)
 |c::t,k,b,ht,hk,hg=>by
   have hlt:k<l.length:=by
    rcases yAT k l.length with h1|h1;·exact h1
    simp_all[yBm]
   rw[yAV hlt] at ht;obtain ⟨hc,ht⟩:=List.cons.inj ht;have hf:=h k hlt b hg;rw[hc] at hf;unfold apl;cases h0:(chg b c).2==0 with
   |false=>grind[zaD]|true =>rw[h0] at hf;exact (zaR hf).trans (ztU hs st done fail h he t (k+1) _ ht hlt (hg.chg (hc▸hs _ (yAy hlt))))
theorem zt2{σ τ R:Type}{f:σ->Option (σ⊕(τ⊕R))}{s:σ}{r:τ⊕R}{K:τ->Option R}{res:Option R}(h:zak f s=some r)(hk:zaE (some r) K=res):zaE (zak f s) K=res:=by grind
def zB:Gt.Bill:=Gt.Bill.mk [] [] [] [] []
noncomputable def zun(b:Gt.Bill)(l:List Gt.BillChange):Gt.Bill×Int×Int×Unit :=
 bif zfo b != 0 then (zB,0,zfo b,()) else bif decide (30000<len l) then (zB,0,3,()) else
 match apl l 0 b with
 | .inr p=>(zB,p.1,p.2,())| .inl b'=>bif zfo b' != 0 then (zB,len l,zfo b',()) else (b',0,0,())
theorem SmC.l68(n:Nat){c:Gt.Component}(h:SmC c): @Eq (Option (Gt.Component×Unit)) ((zah (n+2)).d 68 [.st 5 c] [(.st 5)]) (some (c,())):=L68 n h.toL
abbrev S5:=List UInt8×List UInt8×List UInt8×List Gt.Component×List Gt.Edge×Unit
abbrev S10:=List UInt8×List UInt8×List UInt8×List Gt.Component×List Gt.Edge×S5
def cells(b:Gt.Bill):S5:=(b.name,b.version,b.root,b.components,b.edges,())
theorem L41{n:Nat}(hn:200<=n){b:Gt.Bill}(hb:SmB b){l:List Gt.BillChange}(hl:∀c∈l,SmK c):m41 (zah n) b l=some (zun b l):=by
 obtain ⟨n,rfl⟩:∃k,n=k+200:=⟨n - 200,by omega⟩;unfold m41 zun;rw[L40 (by omega) hb,zaa];dsimp only;cases h0:zfo b != 0 with
 |true=>rfl|false =>
   have h0:zfo b=0:=(by grind);have hR:=zeo h0;have hm:=hR.m;have hn':=hR.n;rw[zab,cond_false];cases h1:decide (30000<len l) with
   |true=>rfl|false =>
     have h1:l.length<=30000:=(by grind[len]);rw[zab,cond_false,q81,show Nat.ble b.edges.length 1000000=true from by rw[yAK];omega,cond_true,zaA];dsimp only;refine zt2 (zby (A:=Unit) (σ:=Int×S5) (R:=S5⊕(Gt.Bill×Int×Int×Unit)) (λk _=>((k:Int),b.name,b.version,b.root,b.components.take k,b.edges,())) b.components.length (λ_ _=>.inl (cells b)) (λ_ _=>True) (λk _ hk _=>?_) 0 () (yAA _) trivial) ?_
     rotate_left
     ·rw[zaj];refine zt2 (ztU (σ:=Int×S10) (R:=S10⊕(Gt.Bill×Int×Int×Unit)) hl (λk b=>((k:Int),[],[],[],[],[],cells b)) (λb=>.inl ([],[],[],[],[],cells b)) (λk e=>.inr (zB,(k:Int),e,())) (λk hk b hg=>?_) (λb hg=>?_) l 0 b rfl (yAA _) (hR.going hb)) ?_
      rotate_left 2
      ·cases ha:apl l 0 b with
       |inr p=>rfl|inl b' =>have hg:=ztF l 0 b b' hl (hR.going hb) ha;dsimp only;rw[zaj];dsimp only[cells];rw[show @Eq (Option (Int×Unit)) ((zah (n+200)).d 40 [.st 3 (Gt.Bill.mk b'.name b'.version b'.root b'.components b'.edges)] [(.int .i64)]) (some (zfo b',())) from L40 (by omega) hg.small,zaa];dsimp only;cases zfo b' != 0<;>rfl
      ·dsimp only[cells];rw[show decide ((k:Int)<len l)=true from by grind[len],zac,zan hk,zaa,L82 (n:=n+188) (by omega) hg (hl _ (yAy hk)),zaA,zaf hk (by omega)];show br ((chg b l[k]).2 != 0) _ _=_;rw[show ((chg b l[k]).2 != 0)= !((chg b l[k]).2==0) from rfl];cases (chg b l[k]).2==0<;>rfl
      ·dsimp only[cells];rw[show decide (((l.length:Nat):Int)<len l)=false from by simp[len],zab]
     ·by_cases hlk:k<b.components.length
      ·left;refine ⟨(),hlk,?_,trivial,rfl⟩;have e1:b.components.take (k+1)=b.components.take k++[b.components[k]]:=by rw[yCk,yAe hlk];rfl
       have hl1:(b.components.take k).length<=3000:=(by rw[yAY];omega);dsimp only;rw[show decide ((k:Int)<len b.components)=true from by grind[len],zac,zan hlk,zaa,(hb.comps _ (yAy hlk)).l68 (n+198),zaa,zbc (by grind[lim]),zaa,zaf hlk (by omega),e1]
      ·right;have:k=b.components.length:=by omega
       subst this;dsimp only;rw[show decide (((b.components.length:Nat):Int)<len b.components)=false from by simp[len],zab,List.take_length];rfl
theorem m55_same(o:Orc Sx){l:List Gt.Edge}(hl:l.length<=1000000000):m55 o l l=some (true,()):=by
 unfold m55;rw[show (len l != len l)=false from by simp,zab];rw[zty (n:=l.length) (.inl ():Unit⊕(Bool×Unit)) (λk hk=>?_) ?_];·rfl
 ·dsimp only;rw[show decide ((l.length:Int)<len l)=false from by simp[len],zab]
 ·dsimp only;rw[show decide ((k:Int)<len l)=true from by grind[len],zac,zan hk,zaa,zaa,zaf hk (by omega)];simp_all[zab]
theorem L38{n:Nat}(hn:10<=n){b:Gt.Bill}(hb:SmB b)(h1:b.components.length<=1000000)(h2:b.edges.length<=1000000):m38 (zah n) b b=some (true,()):=by
 obtain ⟨n,rfl⟩:∃k,n=k+10:=⟨n - 10,by omega⟩;have be:∀l:List UInt8,(l==l)=true:=λl=>by simp
 unfold m38;simp only[be,zac,zaa,show (len b.components != len b.components)=false from by simp,zab];rw[zty (n:=b.components.length) (.inl ():Unit⊕(Bool×Unit)) (λk hk=>?_) ?_];·rw[zaj,zaa,zaa,zac,show @Eq (Option (Bool×Unit)) ((zah (n+10)).d 55 [.sl (.st 7) b.edges,.sl (.st 7) b.edges] [.bool]) (some (true,())) from (q55 (n+9) _ _).trans (m55_same _ (by omega))];rfl
 ·dsimp only;rw[show decide ((b.components.length:Int)<len b.components)=false from by simp[len],zab]
 ·dsimp only;rw[show decide ((k:Int)<len b.components)=true from by grind[len],zac,zan hk,zaa,zaa,L26 (n+8) (hb.comps _ (yAy hk)).toL,zaa,zaf hk (by omega)];rfl
end Pe.Tryz
end
