/- PROVED HERE: a part of the seat's proofs; see the text that holds the claim's theorem. -/
import Derived.Test.YtojfjgjdheiffaaGreatDoorNm
import Derived.Test.YtojfjgjdheiffaaGreatDoorBoG
import Derived.Test.YtojfjgjdheiffaaGreatDoorBoJ
section
/- Sorted rows: one that is put in, and the reference's merging of components and of edges. -/
set_option maxRecDepth 100000
namespace Pe
open Go
theorem ztt{α:Type}{R:α->α->Prop}(asy:∀x y,R x y->¬R y x):∀{a b:List α},a.Pairwise R->b.Pairwise R->(∀x,x∈a↔x∈b)->a=b
 |[],[],_,_,_=>rfl|[],y::b,_,_,h=>absurd ((h y).2 (by simp)) (by simp)|x::a,[],_,_,h=>absurd ((h x).1 (by simp)) (by simp)|x::a,y::b,ha,hb,h=>by
   obtain ⟨a1,a2⟩:=yBU.1 ha;obtain ⟨b1,b2⟩:=yBU.1 hb;have hxy:x=y:=by
    rcases yAm.1 ((h x).1 (by simp)) with e|e;·exact e
    ·rcases yAm.1 ((h y).2 (by simp)) with e' | e';·exact e'.symm
     ·exact absurd (a1 y e') (asy _ _ (b1 x e))
   subst hxy;have irr:∀z,R x z->z≠x:=λz hz e=>by subst e;exact asy _ _ hz hz
   have:=ztt asy a2 b2 λz=>by
    constructor;·intro hz;exact (yAm.1 ((h z).1 (by simp[hz]))).resolve_left (irr z (a1 z hz))
    ·intro hz;exact (yAm.1 ((h z).2 (by simp[hz]))).resolve_left (irr z (b1 z hz))
   rw[this]
theorem zuf{α:Type}{R:α->α->Prop}{l:List α}{p:Nat}{x:α}(hl:l.Pairwise R)(h1:∀y∈l.take p,R y x)(h2:∀y∈l.drop p,R x y):(l.take p++[x]++l.drop p).Pairwise R:=by
 rw[<-List.take_append_drop p l] at hl;obtain ⟨k1,k2,k3⟩:=List.pairwise_append.1 hl;rw[yA5,List.pairwise_append];refine ⟨k1,yBU.2 ⟨h2,k2⟩,λy hy z hz=>?_⟩;rcases yAm.1 hz with rfl|hz;·exact h1 y hy
 ·exact k3 y hy z hz
theorem zuc{α:Type}{l:List α}{p:Nat}{x y:α}:y∈l.take p++[x]++l.drop p↔y∈l\/y=x:=by
 conv=>rhs;rw[<-List.take_append_drop p l]
 simp only[yAp,yBp];constructor
 ·rintro ((h|h)|h)
  ·exact .inl (.inl h)
  ·exact .inr h
  ·exact .inl (.inr h)
 ·rintro ((h|h)|h)
  ·exact .inl (.inl h)
  ·exact .inr h
  ·exact .inl (.inr h)
theorem ztK{α:Type}{R:α->α->Prop}{l:List α}(p:Nat)(hl:l.Pairwise R):(l.eraseIdx p).Pairwise R:=hl.sublist (List.eraseIdx_sublist l p)
namespace Tryz
def rC(x y:Gt.Component):Prop:=x.ref<y.ref
theorem zvh(x y:Gt.Component)(h:rC x y):¬rC y x:=λk=>yBn _ (yCa h k)
def rE(x y:Gt.Edge):Prop:=zpV x y<0
theorem zu3(a b:Int):sgI a b<0↔a<b:=by unfold sgI;split<;>(try split)<;>omega
theorem ztx{x y:List UInt8}:cS x y=0↔x=y:=by
 constructor
 ·intro h;by_cases hb:x != y;·exact absurd h (zs5 hb)
  ·simpa using hb
 ·rintro rfl;simp[cS,yBn]
theorem zug(x y:Gt.Edge):rE x y↔x.from_<y.from_\/(x.from_=y.from_/\(x.to<y.to\/(x.to=y.to/\x.scope<y.scope))):=by
 unfold rE zpV;by_cases h1:cS x.from_ y.from_=0
 ·have e1:=ztx.1 h1;rw[if_neg (by simpa using h1)];have n1:¬x.from_<y.from_:=by rw[e1];exact yBn _
  by_cases h2:cS x.to y.to=0
  ·have e2:=ztx.1 h2;rw[if_neg (by simpa using h2),zu3];have n2:¬x.to<y.to:=(by rw[e2];exact yBn _);refine ⟨λh=>.inr ⟨e1,.inr ⟨e2,h⟩⟩,λh=>?_⟩;rcases h with h|⟨_,h|⟨_,h⟩⟩;·exact absurd h n1
   ·exact absurd h n2
   ·exact h
  ·rw[if_pos h2,zc4];refine ⟨λh=>.inr ⟨e1,.inl h⟩,λh=>?_⟩;rcases h with h|⟨_,h|⟨h,_⟩⟩;·exact absurd h n1
   ·exact h
   ·exact absurd (ztx.2 h) h2
 ·rw[if_pos h1,zc4];refine ⟨.inl,λh=>?_⟩;rcases h with h|⟨h,_⟩;·exact h
  ·exact absurd (ztx.2 h) h1
theorem zuk(x y:Gt.Edge)(h:rE x y):¬rE y x:=by
 rw[zug] at h ⊢;have ir:=yBn (α:=UInt8)
 rintro (k|⟨k1,k|⟨k2,k⟩⟩)
 ·rcases h with h|⟨h1,_⟩;·exact ir _ (yCa h k)
  ·rw[h1] at k;exact ir _ k
 ·rcases h with h|⟨h1,h|⟨h2,_⟩⟩;·rw[k1] at h;exact ir _ h
  ·exact ir _ (yCa h k)
  ·rw[h2] at k;exact ir _ k
 ·rcases h with h|⟨h1,h|⟨h2,h⟩⟩;·rw[k1] at h;exact ir _ h
  ·rw[k2] at h;exact ir _ h
  ·omega
theorem zu4{x y z:Gt.Edge}(h:rE x y)(k:rE y z):rE x z:=by
 rw[zug] at *
 rcases h with h|⟨h1,h|⟨h2,h⟩⟩
 ·rcases k with k|⟨k1,_⟩;·exact .inl (yCa h k)
  ·exact .inl (k1▸h)
 ·rcases k with k|⟨k1,k|⟨k2,_⟩⟩;·exact .inl (h1▸k)
  ·exact .inr ⟨h1.trans k1,.inl (yCa h k)⟩
  ·exact .inr ⟨h1.trans k1,.inl (k2▸h)⟩
 ·rcases k with k|⟨k1,k|⟨k2,k⟩⟩;·exact .inl (h1▸k)
  ·exact .inr ⟨h1.trans k1,.inl (h2▸k)⟩
  ·exact .inr ⟨h1.trans k1,.inr ⟨h2.trans k2,by omega⟩⟩
theorem zuT{x y:Gt.Edge}(h:¬rE x y)(hn:x≠y):rE y x:=by
 rw[zug] at *
 have tot:∀{a b:List UInt8},¬a<b->a≠b->b<a:=λ{a b} h1 h2=>by
  by_cases hb:b<a;·exact hb
  ·exact absurd (zly.eq a b (by rw[zc4];exact h1) (by rw[zc4];exact hb)) h2
 by_cases e1:x.from_=y.from_
 ·by_cases e2:x.to=y.to;·have e3:x.scope≠y.scope:=λe3=>hn (by cases x;cases y;simp_all);have h3:¬x.scope<y.scope:=λh3=>h (.inr ⟨e1,.inr ⟨e2,h3⟩⟩);exact .inr ⟨e1.symm,.inr ⟨e2.symm,by omega⟩⟩
  ·exact .inr ⟨e1.symm,.inl (tot (λh3=>h (.inr ⟨e1,.inl h3⟩)) e2)⟩
 ·exact .inl (tot (λh3=>h (.inl h3)) e1)
theorem zuV{x y:Gt.Component}(h:¬rC x y)(hn:x.ref≠y.ref):rC y x:=by
 unfold rC at *
 by_cases hb:y.ref<x.ref;·exact hb
 ·exact absurd (zly.eq _ _ (by rw[zc4];exact h) (by rw[zc4];exact hb)) hn
theorem zvm{α:Type}{l:List α}(h2:2<=l.length)(hl:l.length<=1000000):IntKind.i64.wrap (Int.tdiv (len l) 2)=((l.length / 2:Nat):Int):=by rw[show len l=((l.length:Nat):Int) from rfl,IntKind.wrap_i64];rw[Int.tdiv_eq_ediv_of_nonneg (by omega)];omega
theorem zub{α:Type}{l:List α}{h:Nat}(hh:h<=l.length):zhN l 0 (h:Int)=some (l.take h):=by have:=zhM (l:=l) (i:=0) (j:=h) (yAA _) hh;simpa using this
theorem ztC{α:Type}{l:List α}{h:Nat}(hh:h<=l.length):zhN l (h:Int) (len l)=some (l.drop h):=by have:=zhM (l:=l) (i:=h) (j:=l.length) hh (yAi _);rw[show len l=((l.length:Nat):Int) from rfl,this,<-yAL,List.take_length]
theorem mrg{α R':Type}{f:List α×List α×List α×Unit->Option ((List α×List α×List α×Unit)⊕((List α×Unit)⊕R'))}{R:α->α->Prop}{N:Nat}
  (hA:∀x a b out,a.length<=N->out.length<=N->(∀y b',b=y::b'->R x y)->f (x::a,b,out,())=some (.inl (a,b,out++[x],())))
  (hB:∀y a b out,b.length<=N->out.length<=N->(∀x a',a=x::a'->R y x)->f (a,y::b,out,())=some (.inl (a,b,out++[y],())))
  (hE:∀out,f ([],[],out,())=some (.inr (.inl (out,())))) (tr:∀x y z,R x y->R y z->R x z) :
  ∀(n:Nat)(a b out:List α),a.length+b.length=n->out.length+a.length+b.length<=N->a.Pairwise R->b.Pairwise R->(∀x∈a,∀y∈b,R x y\/R y x)->out.Pairwise R->(∀z∈out,∀x,x∈a\/x∈b->R z x) ->
   ∃r,zak f (a,b,out,())=some (.inl (r,()))/\r.Pairwise R/\(∀x,x∈r↔x∈out\/x∈a\/x∈b)/\r.length=out.length+a.length+b.length:=by
 intro n;induction n with
 |zero =>intro a b out h0 hN ha hb hab ho hz;have e1:a=[]:=yAU.1 (by omega);have e2:b=[]:=yAU.1 (by omega);subst e1;subst e2;exact ⟨out,zaD (hE out),ho,λx=>by simp,by simp⟩
 |succ n ih =>
   intro a b out h0 hN ha hb hab ho hz;have takeA:∀x a',a=x::a'->(∀y b',b=y::b'->R x y)->∃r,zak f (a,b,out,())=some (.inl (r,()))/\r.Pairwise R/\(∀z,z∈r↔z∈out\/z∈a\/z∈b)/\r.length=out.length+a.length+b.length:=λx a' e hxy=>by
    subst e;obtain ⟨a1,a2⟩:=yBU.1 ha;simp only[yAw] at h0 hN;have hxb:∀y∈b,R x y:=λy hy=>by
     cases b with
     |nil=>simp at hy|cons y0 b' =>
       have h0:=hxy y0 b' rfl;rcases yAm.1 hy with rfl|hy;·exact h0
       ·exact tr _ _ _ h0 ((yBU.1 hb).1 y hy)
    obtain ⟨r,r1,r2,r3,r4⟩:=ih a' b (out++[x]) (by omega) (by simp only[yAI,yAw,List.length_nil];omega) a2 hb (λu hu=>hab u (by simp[hu]))
     (List.pairwise_append.2 ⟨ho,yBs _ _,λz hz' u hu=>by rw[yBp.1 hu];exact hz z hz' x (.inl (by simp))⟩)
     (λz hz' u hu=>by
      rcases yAp.1 hz' with hz' | hz';·exact hz z hz' u (hu.imp_left λh=>by simp[h])
      ·rw[yBp.1 hz'];rcases hu with hu|hu;·exact a1 u hu
       ·exact hxb u hu)
    refine ⟨r,(zaR (hA x a' b out (by omega) (by omega) hxy)).trans r1,r2,λz=>?_,by rw[r4];simp only[yAI,yAw,List.length_nil];omega⟩;rw[r3];simp only[yAp,yAm,yAX,or_false];constructor
    ·rintro ((h|h)|h|h)
     ·exact .inl h
     ·exact .inr (.inl (.inl h))
     ·exact .inr (.inl (.inr h))
     ·exact .inr (.inr h)
    ·rintro (h|(h|h)|h)
     ·exact .inl (.inl h)
     ·exact .inl (.inr h)
     ·exact .inr (.inl h)
     ·exact .inr (.inr h)
   have zd4:∀y b',b=y::b'->(∀x a',a=x::a'->R y x)->∃r,zak f (a,b,out,())=some (.inl (r,()))/\r.Pairwise R/\(∀z,z∈r↔z∈out\/z∈a\/z∈b)/\r.length=out.length+a.length+b.length:=λy b' e hxy=>by
    subst e;obtain ⟨b1,b2⟩:=yBU.1 hb;simp only[yAw] at h0 hN;have hya:∀x∈a,R y x:=λx hx=>by
     cases a with
     |nil=>simp at hx|cons x0 a' =>
       have h0:=hxy x0 a' rfl;rcases yAm.1 hx with rfl|hx;·exact h0
       ·exact tr _ _ _ h0 ((yBU.1 ha).1 x hx)
    obtain ⟨r,r1,r2,r3,r4⟩:=ih a b' (out++[y]) (by omega) (by simp only[yAI,yAw,List.length_nil];omega) ha b2 (λu hu v hv=>hab u hu v (by simp[hv]))
     (List.pairwise_append.2 ⟨ho,yBs _ _,λz hz' u hu=>by rw[yBp.1 hu];exact hz z hz' y (.inr (by simp))⟩)
     (λz hz' u hu=>by
      rcases yAp.1 hz' with hz' | hz';·exact hz z hz' u (hu.imp_right λh=>by simp[h])
      ·rw[yBp.1 hz'];rcases hu with hu|hu;·exact hya u hu
       ·exact b1 u hu)
    refine ⟨r,(zaR (hB y a b' out (by omega) (by omega) hxy)).trans r1,r2,λz=>?_,by rw[r4];simp only[yAI,yAw,List.length_nil];omega⟩;rw[r3];simp only[yAp,yAm,yAX,or_false];constructor
    ·rintro ((h|h)|h|h)
     ·exact .inl h
     ·exact .inr (.inr (.inl h))
     ·exact .inr (.inl h)
     ·exact .inr (.inr (.inr h))
    ·rintro (h|h|h|h)
     ·exact .inl (.inl h)
     ·exact .inr (.inl h)
     ·exact .inl (.inr h)
     ·exact .inr (.inr h)
   cases a with
   |nil =>
     cases b with
     |nil=>simp at h0|cons y b'=>exact zd4 y b' rfl (λx a' e=>by cases e)
   |cons x a' =>
     cases b with
     |nil=>exact takeA x a' rfl (λy b' e=>by cases e)|cons y b' =>
       rcases hab x (by simp) y (by simp) with h|h;·exact takeA x a' rfl (λy0 b0 e=>by cases e;exact h)
       ·exact zd4 y b' rfl (λx0 a0 e=>by cases e;exact h)
noncomputable def zuP:List (Gt.Component)×List (Gt.Component)×List (Gt.Component)×Unit->Option ((List (Gt.Component)×List (Gt.Component)×List (Gt.Component)×Unit)⊕((List (Gt.Component)×Unit)⊕(List (Gt.Component)×Unit))):=(λ(t6:List (Gt.Component)×List (Gt.Component)×List (Gt.Component)×Unit)=>(ob (br (decide (0<(len t6.1))) (some true) (some (decide (0<(len t6.2.1))))) λb7=>(br b7 (ob (br ((len t6.2.1)==0) (some true) (ob (br (decide (0<(len t6.1))) (ob (at? t6.1 0) λy8=>(ob (at? t6.2.1 0) λy9=>(some ((Op.bytesLess (Gt.Component.ref y8) (Gt.Component.ref y9))||((Gt.Component.ref y8)==(Gt.Component.ref y9)))))) (some false)) λb10=>(some b10))) λb11=>(br b11 (ob (at? t6.1 0) λy12=>(ob (zdJ t6.2.2.1 [y12]) λl13=>(ob (zhN t6.1 1 (len t6.1)) λs14=>(some (.inl (s14,t6.2.1,l13,())))))) (ob (at? t6.2.1 0) λy15=>(ob (zdJ t6.2.2.1 [y15]) λl16=>(ob (zhN t6.2.1 1 (len t6.2.1)) λs17=>(some (.inl (t6.1,s17,l16,())))))))) (some (.inr (.inl (t6.2.2.1,())))))))
theorem L104:∀(k:Nat)(l:List Gt.Component),l.length<=2 ^ k->l.length<=1000000->(l.Pairwise λx y=>x.ref≠y.ref)->∀n,k<n ->
  ∃r,@Eq (Option (List Gt.Component×Unit)) ((zah n).d 104 [.sl (.st 5) l] [(.sl (.st 5))]) (some (r,()))/\r.Pairwise rC/\(∀x,x∈r↔x∈l)/\r.length=l.length:=by
 intro k;induction k with
 |zero =>
   intro l h1 h2 h3 n hn;obtain ⟨n,rfl⟩:∃m,n=m+1:=⟨n - 1,by omega⟩;simp only[Nat.pow_zero] at h1;refine ⟨l,(q104 n l).trans ?_,?_,λ_=>Iff.rfl,rfl⟩;·unfold m104;rw[show decide (len l<2)=true from decide_eq_true (by simp only[len];omega),zac,ztw _ (by simp only[lim];omega),zaa]
   ·match l,h1 with
    |[],_=>exact .nil|[x],_=>exact yBs _ _
 |succ k ih =>
   intro l h1 h2 h3 n hn;obtain ⟨n,rfl⟩:∃m,n=m+1:=⟨n - 1,by omega⟩;by_cases hs:l.length<2
   ·refine ⟨l,(q104 n l).trans ?_,?_,λ_=>Iff.rfl,rfl⟩;·unfold m104;rw[show decide (len l<2)=true from decide_eq_true (by simp only[len];omega),zac,ztw _ (by simp only[lim];omega),zaa]
    ·match l,hs with
     |[],_=>exact .nil|[x],_=>exact yBs _ _|_::_::_,hs=>exact absurd hs (by simp)
   ·have hh:l.length / 2<=l.length:=(by omega);rw[Nat.pow_succ] at h1;rw[<-List.take_append_drop (l.length / 2) l] at h3;obtain ⟨p1,p2,p3⟩:=List.pairwise_append.1 h3;rw[List.take_append_drop] at h3;obtain ⟨a,a1,a2,a3,a4⟩:=ih (l.take (l.length / 2)) (by rw[yAY];omega) (by rw[yAY];omega) p1 n (by omega);obtain ⟨b,b1,b2,b3,b4⟩:=ih (l.drop (l.length / 2)) (by rw[yAL];omega) (by rw[yAL];omega) p2 n (by omega);have hl:a.length+b.length=l.length:=by rw[a4,b4,yAY,yAL];omega
    have:=mrg (R':=List Gt.Component×Unit) (R:=rC) (N:=1000000) (f:=zuP)
     (λx a b out ha ho hxy=>?_) (λy a b out hb ho hxy=>?_) (λout=>rfl) (λx y z h k=>yCa h k) (a.length+b.length) a b [] rfl (by simp only[List.length_nil];omega) a2 b2 (λx hx y hy=>by
      by_cases h:rC x y;·exact .inl h
      ·exact .inr (zuV h (p3 x ((a3 x).1 hx) y ((b3 y).1 hy)))) .nil (λz hz=>by simp at hz)
    ·obtain ⟨r,r1,r2,r3,r4⟩:=this;refine ⟨r,(q104 n l).trans ?_,r2,λx=>?_,by rw[r4];simpa using hl⟩;·unfold m104;rw[show decide (len l<2)=false from decide_eq_false (by simp only[len];omega),zab,zvm (by omega) h2,zub hh,zaa,a1,zaa,ztC hh,zaa,b1,zaa];dsimp only;unfold zuP at r1;rw[r1,zaj]
     ·rw[r3,a3,b3];simp only[yAX,false_or];rw[<-yAp,List.take_append_drop]
    ·unfold zuP;have h1:at? (x::a) 0=some x:=rfl;have hp:zhN (x::a) 1 (len (x::a))=some a:=by
      have:=ztC (l:=x::a) (h:=1) (by simp);simpa using this
     dsimp only;rw[show decide (0<len (x::a))=true from by simp[len],zac,zaa,zac];cases b with
     |nil=>rw[show (len ([]:List Gt.Component)==0)=true from rfl,zac,zaa,zac,h1,zaa,zbc (by simp[lim];omega),zaa,hp,zaa]|cons y b' =>have hr:=hxy y b' rfl;rw[show (len (y::b')==0)=false from by simp[len];omega,zab,zac,h1,zaa,show at? (y::b') 0=some y from rfl,zaa,zaa,zaa,zgX,show decide (x.ref<y.ref)=true from decide_eq_true hr,Bool.true_or,zac,zaa,zbc (by simp[lim];omega),zaa,hp,zaa]
    ·unfold zuP;have h1:at? (y::b) 0=some y:=rfl;have hp:zhN (y::b) 1 (len (y::b))=some b:=by
      have:=ztC (l:=y::b) (h:=1) (by simp);simpa using this
     dsimp only;cases a with
     |nil =>rw[show decide (0<len ([]:List Gt.Component))=false from rfl,zab,zaa,show decide (0<len (y::b))=true from by simp[len],zac,show (len (y::b)==0)=false from by simp[len];omega,zab,zab,zaa,zaa,zab,h1,zaa,zbc (by simp[lim];omega),zaa,hp,zaa]|cons x a' =>
       have hr:=hxy x a' rfl;have hn:decide (x.ref<y.ref)=false:=decide_eq_false λh=>zvh _ _ hr h;have he:(x.ref==y.ref)=false:=by
        have:x.ref≠y.ref:=λe=>by unfold rC at hr;rw[e] at hr;exact yBn _ hr
        simpa using this
       rw[show decide (0<len (x::a'))=true from by simp[len],zac,zaa,zac,show (len (y::b)==0)=false from by simp[len];omega,zab,zac,show at? (x::a') 0=some x from rfl,zaa,h1,zaa,zaa,zaa,zgX,hn,he,Bool.or_false,zab,zaa,zbc (by simp[lim];omega),zaa,hp,zaa]
end Tryz
end Pe
end
section
/- The reference's merging of edges. -/
set_option maxRecDepth 100000
namespace Pe.Tryz
open Go Pe
theorem zuL{a b:Int}(h:sgI a b=0):a=b:=by unfold sgI at h;split at h<;>(try split at h)<;>omega
theorem zt8{x y:Gt.Edge}(h:zpV x y=0):x=y:=by
 unfold zpV at h;split at h;·rename_i h1;exact absurd h h1
 ·rename_i h1;have e1:=ztx.1 (by simpa using h1);split at h;·rename_i h2;exact absurd h h2
  ·rename_i h2;have e2:=ztx.1 (by simpa using h2);have e3:=zuL h;cases x;cases y;simp_all
noncomputable def zuO(orc:Orc Sx):List (Gt.Edge)×List (Gt.Edge)×List (Gt.Edge)×Unit->Option ((List (Gt.Edge)×List (Gt.Edge)×List (Gt.Edge)×Unit)⊕((List (Gt.Edge)×Unit)⊕(List (Gt.Edge)×Unit))):=(λ(t6:List (Gt.Edge)×List (Gt.Edge)×List (Gt.Edge)×Unit)=>(ob (br (decide (0<(len t6.1))) (some true) (some (decide (0<(len t6.2.1))))) λb7=>(br b7 (ob (br ((len t6.2.1)==0) (some true) (ob (br (decide (0<(len t6.1))) (ob (at? t6.1 0) λy8=>(ob (at? t6.2.1 0) λy9=>(ob (α:=Int×Unit) (orc.d 88 [.st 7 y8,.st 7 y9] [(.int .i64)]) λ(r10:Int×Unit)=>(some (decide (r10.1<0)))))) (some false)) λb11=>(some b11))) λb12=>(br b12 (ob (at? t6.1 0) λy13=>(ob (zdJ t6.2.2.1 [y13]) λl14=>(ob (zhN t6.1 1 (len t6.1)) λs15=>(some (.inl (s15,t6.2.1,l14,())))))) (ob (br ((len t6.1)==0) (some true) (ob (at? t6.1 0) λy16=>(ob (at? t6.2.1 0) λy17=>(ob (α:=Int×Unit) (orc.d 88 [.st 7 y16,.st 7 y17] [(.int .i64)]) λ(r18:Int×Unit)=>(some (decide (0<r18.1))))))) λb19=>(br b19 (ob (at? t6.2.1 0) λy20=>(ob (zdJ t6.2.2.1 [y20]) λl21=>(ob (zhN t6.2.1 1 (len t6.2.1)) λs22=>(some (.inl (t6.1,s22,l21,())))))) (ob (zhN t6.1 1 (len t6.1)) λs23=>(some (.inl (s23,t6.2.1,t6.2.2.1,())))))))) (some (.inr (.inl (t6.2.2.1,())))))))
theorem L105:∀(k:Nat)(l:List Gt.Edge),l.length<=2 ^ k->l.length<=1000000->(l.Pairwise λx y=>x≠y)->∀n,k+3<=n ->
  ∃r,@Eq (Option (List Gt.Edge×Unit)) ((zah n).d 105 [.sl (.st 7) l] [(.sl (.st 7))]) (some (r,()))/\r.Pairwise rE/\(∀x,x∈r↔x∈l)/\r.length=l.length:=by
 intro k;induction k with
 |zero =>
   intro l h1 h2 h3 n hn;obtain ⟨n,rfl⟩:∃m,n=m+1:=⟨n - 1,by omega⟩;simp only[Nat.pow_zero] at h1;refine ⟨l,(q105 n l).trans ?_,?_,λ_=>Iff.rfl,rfl⟩;·unfold m105;rw[show decide (len l<2)=true from decide_eq_true (by simp only[len];omega),zac,ztw _ (by simp only[lim];omega),zaa]
   ·match l,h1 with
    |[],_=>exact .nil|[x],_=>exact yBs _ _
 |succ k ih =>
   intro l h1 h2 h3 n hn;obtain ⟨n,rfl⟩:∃m,n=m+1:=⟨n - 1,by omega⟩;by_cases hs:l.length<2
   ·refine ⟨l,(q105 n l).trans ?_,?_,λ_=>Iff.rfl,rfl⟩;·unfold m105;rw[show decide (len l<2)=true from decide_eq_true (by simp only[len];omega),zac,ztw _ (by simp only[lim];omega),zaa]
    ·match l,hs with
     |[],_=>exact .nil|[x],_=>exact yBs _ _|_::_::_,hs=>exact absurd hs (by simp)
   ·have hh:l.length / 2<=l.length:=(by omega);rw[Nat.pow_succ] at h1;rw[<-List.take_append_drop (l.length / 2) l] at h3;obtain ⟨p1,p2,p3⟩:=List.pairwise_append.1 h3;rw[List.take_append_drop] at h3;obtain ⟨a,a1,a2,a3,a4⟩:=ih (l.take (l.length / 2)) (by rw[yAY];omega) (by rw[yAY];omega) p1 n (by omega);obtain ⟨b,b1,b2,b3,b4⟩:=ih (l.drop (l.length / 2)) (by rw[yAL];omega) (by rw[yAL];omega) p2 n (by omega);have h88:∀x y,@Eq (Option (Int×Unit)) ((zah n).d 88 [.st 7 x,.st 7 y] [(.int .i64)]) (some (zpV x y,())):=λx y=>by obtain ⟨n',rfl⟩:∃m,n=m+2:=⟨n - 2,by omega⟩;exact L88 n' x y
    have hl:a.length+b.length=l.length:=(by rw[a4,b4,yAY,yAL];omega)
    have:=mrg (R':=List Gt.Edge×Unit) (R:=rE) (N:=1000000) (f:=zuO (zah n))
     (λx a b out ha ho hxy=>?_) (λy a b out hb ho hxy=>?_) (λout=>rfl) (λx y z h k=>zu4 h k) (a.length+b.length) a b [] rfl (by simp only[List.length_nil];omega) a2 b2 (λx hx y hy=>by
      by_cases h:rE x y;·exact .inl h
      ·exact .inr (zuT h (p3 x ((a3 x).1 hx) y ((b3 y).1 hy)))) .nil (λz hz=>by simp at hz)
    ·obtain ⟨r,r1,r2,r3,r4⟩:=this;refine ⟨r,(q105 n l).trans ?_,r2,λx=>?_,by rw[r4];simpa using hl⟩;·unfold m105;rw[show decide (len l<2)=false from decide_eq_false (by simp only[len];omega),zab,zvm (by omega) h2,zub hh,zaa,a1,zaa,ztC hh,zaa,b1,zaa];dsimp only;unfold zuO at r1;rw[r1,zaj]
     ·rw[r3,a3,b3];simp only[yAX,false_or];rw[<-yAp,List.take_append_drop]
    ·unfold zuO;have h1:at? (x::a) 0=some x:=rfl;have hp:zhN (x::a) 1 (len (x::a))=some a:=by
      have:=ztC (l:=x::a) (h:=1) (by simp);simpa using this
     dsimp only;rw[show decide (0<len (x::a))=true from by simp[len],zac,zaa,zac];cases b with
     |nil=>rw[show (len ([]:List Gt.Edge)==0)=true from rfl,zac,zaa,zac,h1,zaa,zbc (by simp[lim];omega),zaa,hp,zaa]|cons y b' =>have hr:=hxy y b' rfl;rw[show (len (y::b')==0)=false from by simp[len];omega,zab,zac,h1,zaa,show at? (y::b') 0=some y from rfl,zaa,h88 x y,zaa,show decide (zpV x y<0)=true from decide_eq_true hr,zaa,zaa,zac,zaa,zbc (by simp[lim];omega),zaa,hp,zaa]
    ·unfold zuO;have h1:at? (y::b) 0=some y:=rfl;have hp:zhN (y::b) 1 (len (y::b))=some b:=by
      have:=ztC (l:=y::b) (h:=1) (by simp);simpa using this
     dsimp only;cases a with
     |nil =>rw[show decide (0<len ([]:List Gt.Edge))=false from rfl,zab,zaa,show decide (0<len (y::b))=true from by simp[len],zac,show (len (y::b)==0)=false from by simp[len];omega,zab,zab,zaa,zaa,zab,show (len ([]:List Gt.Edge)==0)=true from rfl,zac,zaa,zac,h1,zaa,zbc (by simp[lim];omega),zaa,hp,zaa]|cons x a' =>
       have hr:=hxy x a' rfl;have hn:decide (zpV x y<0)=false:=decide_eq_false λh=>zuk _ _ hr h
       have hq:decide (0<zpV x y)=true:=decide_eq_true (by
        have h1:¬zpV x y<0:=λh=>zuk _ _ hr h;have h2:zpV x y≠0:=λh=>by have:=zt8 h;subst this;exact zuk _ _ hr hr
        omega)
       rw[show decide (0<len (x::a'))=true from by simp[len],zac,zaa,zac,show (len (y::b)==0)=false from by simp[len];omega,zab,zac,show at? (x::a') 0=some x from rfl,zaa,h1,zaa,h88 x y,zaa,hn,zaa,zaa,zab,show (len (x::a')==0)=false from by simp[len];omega,zab,zaa,zaa,h88 x y,zaa,hq,zaa,zac,zaa,zbc (by simp[lim];omega),zaa,hp,zaa]
end Pe.Tryz
end
section
/- Changes of a bill: what is known of one by itself; where things are. -/
set_option maxRecDepth 100000
namespace Pe
open Go
theorem zuF{α R':Type}{f:Int×Int×Unit->Option ((Int×Int×Unit)⊕((Int×Unit)⊕R'))}(l:List α)(P:α->Prop)[DecidablePred P]
  (mono:∀i j (hi:i<l.length) (hj:j<l.length),i<j->P l[j]->P l[i])
  (h:∀(lo hi:Nat)(_:lo<hi)(_:hi<=l.length)(hm:(lo+hi) / 2<l.length),f ((lo:Int),(hi:Int),())=some (.inl (if P l[(lo+hi) / 2] then ((((lo+hi) / 2+1:Nat):Int),(hi:Int),()) else ((lo:Int),(((lo+hi) / 2:Nat):Int),()))))
  (he:∀lo:Nat,f ((lo:Int),(lo:Int),())=some (.inr (.inl ((lo:Int),())))) :
  zak f (0,(l.length:Int),())=some (.inl (((l.findIdx λx=> !decide (P x):Nat):Int),())):=by
 have key:∀(d lo hi:Nat),hi - lo<=d->lo<=hi->hi<=l.length->(∀k (hk:k<l.length),k<lo->P l[k])->(∀k (hk:k<l.length),hi<=k->¬P l[k]) ->
   ∃p:Nat,p<=l.length/\(∀k (hk:k<l.length),k<p->P l[k])/\(∀k (hk:k<l.length),p<=k->¬P l[k])/\zak f ((lo:Int),(hi:Int),())=some (.inl ((p:Int),())):=by
  intro d;induction d with
  |zero =>
    intro lo hi hd hlh hhn h1 h2;have:lo=hi:=by omega
    subst this;exact ⟨lo,hhn,h1,h2,zaD (he lo)⟩
  |succ d ih =>
    intro lo hi hd hlh hhn h1 h2;rcases yBJ hlh with rfl|hlt;·exact ⟨lo,hhn,h1,h2,zaD (he lo)⟩
    ·have hm:(lo+hi) / 2<l.length:=(by omega);have hs:=h lo hi hlt hhn hm;by_cases hc:P l[(lo+hi) / 2]
     ·rw[if_pos hc] at hs;obtain ⟨p,q1,q2,q3,q4⟩:=ih ((lo+hi) / 2+1) hi (by omega) (by omega) hhn (λk hk hkl=>by
       rcases yAT k ((lo+hi) / 2) with h3|h3;·exact mono k _ hk hm h3 hc
       ·have:k=(lo+hi) / 2:=by omega
        subst this;exact hc) h2
      exact ⟨p,q1,q2,q3,(zaR hs).trans q4⟩
     ·rw[if_neg hc] at hs;obtain ⟨p,q1,q2,q3,q4⟩:=ih lo ((lo+hi) / 2) (by omega) (by omega) (by omega) h1 (λk hk hkl hp=>by
       rcases yAT ((lo+hi) / 2) k with h3|h3;·exact hc (mono _ k hm hk h3 hp)
       ·have:k=(lo+hi) / 2:=by omega
        subst this;exact hc hp)
      exact ⟨p,q1,q2,q3,(zaR hs).trans q4⟩
 obtain ⟨p,q1,q2,q3,q4⟩:=key l.length 0 l.length (by omega) (yAA _) (yAi _) (λk hk h=>by omega) (λk hk h=>by omega);rw[show ((0:Nat):Int)=0 from rfl] at q4;rw[q4];have:(l.findIdx λx=> !decide (P x))=p:=by
  rcases yBJ q1 with rfl|hp;·rw[List.findIdx_eq_length];intro x hx;obtain ⟨k,hk,rfl⟩:=yBH hx;simpa using q2 k hk hk
  ·rw[List.findIdx_eq hp];exact ⟨by simpa using q3 p hp (yAi _),λj hj=>by simpa using q2 j (by omega) hj⟩
 rw[this]
theorem zui{α:Type}(P:α->Prop)[DecidablePred P](l:List α):∀y∈l.take (l.findIdx λx=> !decide (P x)),P y:=λy hy=>by obtain ⟨k,hk,rfl⟩:=yBH hy;rw[yAY] at hk;rw[List.getElem_take];have:=List.not_of_lt_findIdx (p:=λx=> !decide (P x)) (xs:=l) (i:=k) (by omega);simpa using this
theorem zuj{α:Type}(P:α->Prop)[DecidablePred P]{l:List α}(mono:l.Pairwise λx y=>P y->P x):∀y∈l.drop (l.findIdx λx=> !decide (P x)),¬P y:=λy hy hp=>by
 obtain ⟨k,hk,rfl⟩:=yBH hy;rw[yAL] at hk;rw[List.getElem_drop] at hp;have hlt:(l.findIdx λx=> !decide (P x))<l.length:=by omega
 have h0:=List.findIdx_getElem (p:=λx=> !decide (P x)) (xs:=l) (w:=hlt);have h0:¬P l[l.findIdx λx=> !decide (P x)]:=by simpa using h0
 rcases yCg k with rfl|hk0;·exact h0 (by simpa using hp)
 ·exact h0 (yAH.1 mono _ _ hlt (by omega) (by omega) hp)
theorem zu0{α:Type}(P:α->Bool)(l:List α):l.findIdx P<=l.length:=List.findIdx_le_length
namespace Tryz
def ztB:List UInt8:=[110,97,109,101]
def ztA:List UInt8:=[118,101,114,115,105,111,110]
def ztG:List UInt8:=[114,111,111,116]
def ztn(c:Gt.BillChange):Bool :=
 bif c.kind==1 then (len c.component==0&&len c.edge==0)&&((c.ref==ztB||c.ref==ztA)||c.ref==ztG) else
 bif c.kind==2 then ((!(c.ref==[])&&c.text==[])&&len c.component==0)&&len c.edge==0 else
 bif c.kind==3||c.kind==4 then ((!(c.ref==[])&&c.text==[])&&len c.component==1)&&len c.edge==0 else
 ((c.ref==[]&&c.text==[])&&len c.component==0)&&len c.edge==1
theorem m126_eq'(orc:Orc Sx)(c:Gt.BillChange):m126 orc c=some (ztn c,()):=by
 unfold m126 ztn;rw[show ([110,97,109,101]:List UInt8)=ztB from rfl,show ([118,101,114,115,105,111,110]:List UInt8)=ztA from rfl,show ([114,111,111,116]:List UInt8)=ztG from rfl,show (c.ref != [])= !(c.ref==[]) from rfl];cases h1:c.kind==1 with
 |true =>generalize (len c.component==0)=A;generalize (len c.edge==0)=B;generalize (c.ref==ztB)=n1;generalize (c.ref==ztA)=n2;generalize (c.ref==ztG)=n3;cases A<;>cases B<;>cases n1<;>cases n2<;>cases n3<;>rfl|false =>
   generalize (c.ref==[])=A;generalize (c.text==[])=B;generalize (len c.component==0)=C;generalize (len c.component==1)=C';generalize (len c.edge==0)=D;generalize (len c.edge==1)=D';cases h2:c.kind==2 with
   |true=>cases A<;>cases B<;>cases C<;>cases D<;>rfl|false =>
     cases h3:c.kind==3 with
     |true=>cases A<;>cases B<;>cases C'<;>cases D<;>rfl|false =>
       cases h4:c.kind==4 with
       |true=>cases A<;>cases B<;>cases C'<;>cases D<;>rfl|false=>cases A<;>cases B<;>cases C<;>cases D'<;>rfl
def zum(c:Gt.BillChange):Bool:=bif decide (c.kind<1) then true else decide (6<c.kind)
def zue(c:Gt.BillChange):Int:=bif zum c then 7 else bif ztn c then 0 else 2
theorem m130_eq'(orc:Orc Sx)(c:Gt.BillChange):m130 orc c=some (zue c,()):=by
 unfold m130 zue;rw[show (ob (br (decide (c.kind<1)) (some true) (some (decide (6<c.kind)))))=λK=>(K (zum c):Option (Int×Unit)) from funext λK=>by unfold zum;cases decide (c.kind<1)<;>rfl];dsimp only;cases hr:zum c with
 |true=>rfl|false =>
   have k16:1<=c.kind/\c.kind<=6:=by
    unfold zum at hr;cases h1:decide (c.kind<1) with
    |true=>rw[h1] at hr;cases hr|false =>rw[h1] at hr;have h1:=of_decide_eq_false h1;have h2:=of_decide_eq_false hr;omega
   rw[zab,cond_false];unfold ztn;rw[show ([110,97,109,101]:List UInt8)=ztB from rfl,show ([118,101,114,115,105,111,110]:List UInt8)=ztA from rfl,show ([114,111,111,116]:List UInt8)=ztG from rfl,show (c.ref != [])= !(c.ref==[]) from rfl,show (c.text != [])= !(c.text==[]) from rfl,show (c.ref != ztB)= !(c.ref==ztB) from rfl,show (c.ref != ztA)= !(c.ref==ztA) from rfl,show (c.ref != ztG)= !(c.ref==ztG) from rfl,show (c.kind != 1)= !(c.kind==1) from rfl];simp only[show ∀x y:Int,(x != y)= !(x==y) from λ_ _=>rfl];have hk:c.kind=1\/c.kind=2\/c.kind=3\/c.kind=4\/c.kind=5\/c.kind=6:=by omega
   have hN:(c.ref==[])=true->(c.ref==ztB)=false/\(c.ref==ztA)=false/\(c.ref==ztG)=false:=λh=>by
    have:c.ref=[]:=by simpa using h
    rw[this];exact ⟨rfl,rfl,rfl⟩
   rcases hk with hk|hk|hk|hk|hk|hk<;>rw[hk]<;>simp only[Int.reduceBEq,zac,zab,zaj]
   ·revert hN;generalize (len c.component==0)=A;generalize (len c.edge==0)=B;generalize (c.ref==ztB)=n1;generalize (c.ref==ztA)=n2;generalize (c.ref==ztG)=n3;generalize (c.ref==[])=e0;generalize (c.text==[])=T;intro hN;cases e0 with
    |true=>obtain ⟨rfl,rfl,rfl⟩:=hN rfl;cases A<;>cases B<;>cases T<;>rfl
    |false=>cases A<;>cases B<;>cases n1<;>cases n2<;>cases n3<;>cases T<;>rfl
   all_goals
    generalize (len c.component==0)=A;generalize (len c.component==1)=A';generalize (len c.edge==0)=B;generalize (len c.edge==1)=B';generalize (c.ref==[])=e0;generalize (c.text==[])=T;cases A<;>cases A'<;>cases B<;>cases B'<;>cases e0<;>cases T<;>rfl
end Tryz
end Pe
end
section
/- Changes of components, on both sides. -/
set_option maxRecDepth 100000
namespace Pe.Tryz
open Go Go.Proofs Pe Pe.Bfs
noncomputable def pC(l:List Gt.Component)(r:List UInt8):Nat:=l.findIdx λx=> !decide (x.ref<r)
def inC(l:List Gt.Component)(r:List UInt8):Bool:=l.any λx=>x.ref==r
theorem zuq{l:List Gt.Component}(h:l.Pairwise rC)(r:List UInt8):l.Pairwise λx y=>y.ref<r->x.ref<r:=h.imp λ{_ _} h k=>yCa h k
theorem zvi(l:List Gt.Component)(r:List UInt8):pC l r<=l.length:=zu0 _ _
theorem zuu(l:List Gt.Component)(r:List UInt8):∀y∈l.take (pC l r),y.ref<r:=zui (λx:Gt.Component=>x.ref<r) l
theorem zuv{l:List Gt.Component}(h:l.Pairwise rC)(r:List UInt8):∀y∈l.drop (pC l r),¬y.ref<r:=zuj (λx:Gt.Component=>x.ref<r) (zuq h r)
theorem zuZ{l:List Gt.Component}(h:l.Pairwise rC){r:List UInt8}{k:Nat}(hk:k<l.length)(he:l[k].ref=r):k=pC l r:=by
 rcases yBL k (pC l r) with h1|h1|h1;·exfalso;have:=zuu l r l[k] (by rw[List.mem_take_iff_getElem];exact ⟨k,by omega,rfl⟩);rw[he] at this;exact yBn _ this
 ·exact h1
 ·exfalso;have hp:pC l r<l.length:=by omega
  have h2:=yAH.1 h (pC l r) k hp hk h1;unfold rC at h2;rw[he] at h2;exact zuv h r l[pC l r] (by rw[List.mem_drop_iff_getElem];exact ⟨0,by omega,by simp⟩) h2
theorem ztM{l:List Gt.Component}(h:l.Pairwise rC)(r:List UInt8):inC l r=true↔∃hp:pC l r<l.length,l[pC l r].ref=r:=by
 unfold inC;rw[yBd];constructor
 ·rintro ⟨x,hx,he⟩
  obtain ⟨k,hk,rfl⟩:=yBH hx;have he:l[k].ref=r:=by simpa using he
  have:=zuZ h hk he;subst this;exact ⟨hk,he⟩
 ·rintro ⟨hp,he⟩
  exact ⟨_,yAy hp,by simpa using he⟩
theorem m67_s(orc:Orc Sx)(h109:∀(c:Gt.Component) r,orc.d 109 [.st 5 c,.str r] [.int .i64]=(some (cS c.ref r,()):Option (Int×Unit))){b:Gt.Bill}(hb:b.components.Pairwise rC)(hn:b.components.length<=1000000)(r:List UInt8) :
  m67 orc b r=some ((pC b.components r:Int),inC b.components r,()):=by
 unfold m67;rw[show len b.components=((b.components.length:Nat):Int) from rfl,zuF (R':=Int×Bool×Unit) (f:=_) b.components (λx=>x.ref<r) (λi j hi hj hij h=>yCa (yAH.1 hb i j hi hj hij) h) (λlo hi hlt hh hm=>?_) (λlo=>?_)]
 ·rw[zaj];dsimp only;rw[show (List.findIdx (λx:Gt.Component=> !decide (x.ref<r)) b.components)=pC b.components r from rfl];rcases yAT (pC b.components r) b.components.length with hp|hp
  ·rw[show decide ((pC b.components r:Int)<((b.components.length:Nat):Int))=true from by simpa using hp,zac,zan hp,zaa,h109,zaa,zaa,zaa];dsimp only;have:(cS b.components[pC b.components r].ref r==0)=inC b.components r:=by
    rw[yBC,ztM hb];simp only[beq_iff_eq,ztx];exact ⟨λh=>⟨hp,h⟩,λ⟨_,h⟩=>h⟩
   rw[this]
  ·rw[show decide ((pC b.components r:Int)<((b.components.length:Nat):Int))=false from by simp;omega,zab,zaa,zaa];have:inC b.components r=false:=by
    cases h:inC b.components r with
    |false=>rfl|true=>obtain ⟨h1,_⟩:=(ztM hb r).1 h;omega
   rw[this]
 ·dsimp only;rw[show decide ((lo:Int)<(hi:Int))=true from by simp;omega,zac,midI (by omega),zan hm,zaa,h109,zaa];by_cases hc:b.components[(lo+hi) / 2].ref<r;·rw[if_pos hc,show decide (cS b.components[(lo+hi) / 2].ref r<0)=true from by simpa using (zc4 _ _).2 hc,zac,zaH (by omega) (by omega)];rfl
  ·rw[if_neg hc,show decide (cS b.components[(lo+hi) / 2].ref r<0)=false from by simpa using λh=>hc ((zc4 _ _).1 h),zab]
 ·dsimp only;rw[show decide ((lo:Int)<(lo:Int))=false from by simp,zab]
theorem zuN{b:Gt.Bill}(hb:b.components.Pairwise rC)(r:List UInt8):zfF b r=bif inC b.components r then (pC b.components r:Int) else -1:=by
 unfold zfF;cases h:b.components.findIdx? λc=>c.ref==r with
 |some k =>
   obtain ⟨hk,h1,_⟩:=yBv.1 h;have h1:b.components[k].ref=r:=by simpa using h1
   have:=zuZ hb hk h1;rw[show inC b.components r=true from yBd.2 ⟨_,yAy hk,by simpa using h1⟩,cond_true,<-this]
 |none =>
   have:inC b.components r=false:=by unfold inC;rw[yB0];exact λx hx=>by simpa using yBA.1 h x hx
   rw[this];rfl
def zC:Gt.Component:=Gt.Component.mk [] (Gt.Purl.mk [] [] [] [] [] []) [] [] []
def xC(c:Gt.BillChange):Gt.Component:=c.component.getD 0 zC
def mkC(b:Gt.Bill)(l:List Gt.Component):Gt.Bill:=Gt.Bill.mk b.name b.version b.root l b.edges
noncomputable def zvc(b:Gt.Bill)(c:Gt.BillChange):Gt.Bill×Int :=
 bif c.kind==3 then (bif inC b.components c.ref then (b,5) else bif (xC c).ref==c.ref then (mkC b (b.components.take (pC b.components c.ref)++[xC c]++b.components.drop (pC b.components c.ref)),0) else (b,2)) else
 bif !inC b.components c.ref then (b,4) else
 bif c.kind==2 then (mkC b (b.components.eraseIdx (pC b.components c.ref)),0) else
 bif (xC c).ref==c.ref then (mkC b (b.components.set (pC b.components c.ref) (xC c)),0) else (b,2)
abbrev BT:=List UInt8×List UInt8×List UInt8×List Gt.Component×List Gt.Edge×Int×Unit
def zry(p:Gt.Bill×Int):BT:=(p.1.name,p.1.version,p.1.root,p.1.components,p.1.edges,p.2,())
structure ApO (orc:Orc Sx) (b:Gt.Bill) (c:Gt.BillChange):Prop where
 h67:orc.d 67 [.st 3 b,.str c.ref] [(.int .i64),.bool]=(some ((pC b.components c.ref:Int),inC b.components c.ref,()):Option (Int×Bool×Unit))
 h68:orc.d 68 [.st 5 (xC c)] [(.st 5)]=(some (xC c,()):Option (Gt.Component×Unit))
 h173:∀(l:List Gt.Component)(k:Nat),k<l.length->orc.l 173 sg173 ((l,(k:Int),((k+1:Nat):Int),()):List Gt.Component×Int×Int×Unit)=(some (.inl (l.eraseIdx k,())):Option ((List Gt.Component×Unit)⊕Unit))
 h174:∀(l:List Gt.Component)(k:Nat)(x:Gt.Component),k<=l.length->l.length<=1000000->orc.l 174 sg174 ((l,(k:Int),[x],()):List Gt.Component×Int×List Gt.Component×Unit)=(some (.inl (l.take k++[x]++l.drop k,())):Option ((List Gt.Component×Unit)⊕Unit))
theorem zuK{c:Gt.BillChange}(h:c.component.length=1):at? c.component 0=some (xC c):=by
 unfold xC
 match hc:c.component,h with
 |[x],_=>rfl
theorem m128_eq'{orc:Orc Sx}{b:Gt.Bill}{c:Gt.BillChange}(K:ApO orc b c)(hb:b.components.Pairwise rC)(hn:b.components.length<=1000000)(hx:c.kind≠2->c.component.length=1) :
  m128 orc b.name b.version b.root b.components b.edges c=some (.inl (zry (zvc b c))):=by
 have hp:=zvi b.components c.ref;have hw:IntKind.i64.wrap ((pC b.components c.ref:Int)+1)=((pC b.components c.ref+1:Nat):Int):=zaH (by omega) (by omega);unfold m128 zvc;rw[show Gt.Bill.mk b.name b.version b.root b.components b.edges=b from rfl,K.h67,zaa];dsimp only;rw[show (c.kind != 3)= !(c.kind==3) from rfl];cases h3:c.kind==3 with
 |true =>
   have hk:c.kind=3:=(by simpa using h3);have hc1:=hx (by omega);rw[yBS,zab,zaa,zab,zac,zaa,cond_true,show (c.kind==2)=false from by rw[hk];rfl];cases hi:inC b.components c.ref with
   |true=>rfl|false =>
     rw[zab,zab,cond_false,zuK hc1,zaa,zaa,show ((xC c).ref != c.ref)= !((xC c).ref==c.ref) from rfl];cases hr:(xC c).ref==c.ref with
     |false=>rfl|true=>rw[yBS,zab,K.h68,zaa,zab,K.h174 _ _ _ hp hn,zaA];rfl
 |false =>
   rw[Bool.not_false,zac,zaa,cond_false];cases hi:inC b.components c.ref with
   |false=>rfl|true =>
     obtain ⟨hlt,_⟩:=(ztM hb c.ref).1 hi;rw[yBS,zab,zab,zaa,zab,cond_false];cases h2:c.kind==2 with
     |true=>rw[zac,hw,K.h173 _ _ hlt,zaA];rfl|false =>
       have hc1:=hx (by simpa using h2);rw[zab,zuK hc1,zaa,zaa,show ((xC c).ref != c.ref)= !((xC c).ref==c.ref) from rfl,cond_false];cases hr:(xC c).ref==c.ref with
       |false=>rfl|true =>rw[yBS,zab,K.h68,zaa,zac,zle hlt,zaa,show zdc b.components (pC b.components c.ref)=some b.components[pC b.components c.ref] from yAe _,zaa];rfl
end Pe.Tryz
end
section
/- Changes of edges, on both sides. -/
set_option maxRecDepth 100000
namespace Pe.Tryz
open Go Go.Proofs Pe Pe.Bfs
def ztJ(x y:Gt.Edge):Bool:=(x.from_==y.from_)&&((x.to==y.to)&&((x.scope==y.scope)&&true))
theorem ztr{x y:Gt.Edge}:ztJ x y=true↔x=y:=by unfold ztJ;cases x;cases y;simp
theorem zuC(x:Gt.Edge):zpV x x=0:=by unfold zpV;rw[if_neg (by simpa using ztx.2 rfl),if_neg (by simpa using ztx.2 rfl)];unfold sgI;simp
noncomputable def pE(l:List Gt.Edge)(e:Gt.Edge):Nat:=l.findIdx λx=> !decide (zpV x e<0)
def inE(l:List Gt.Edge)(e:Gt.Edge):Bool:=l.any λx=>ztJ x e
theorem pE_le(l:List Gt.Edge)(e:Gt.Edge):pE l e<=l.length:=zu0 _ _
theorem zus(l:List Gt.Edge)(e:Gt.Edge):∀y∈l.take (pE l e),rE y e:=zui (λx:Gt.Edge=>zpV x e<0) l
theorem zut{l:List Gt.Edge}(h:l.Pairwise rE)(e:Gt.Edge):∀y∈l.drop (pE l e),¬rE y e:=zuj (λx:Gt.Edge=>zpV x e<0) (h.imp λ{_ _} h k=>zu4 h k)
theorem zuU(x:Gt.Edge):¬rE x x:=λh=>zuk _ _ h h
theorem zuY{l:List Gt.Edge}(h:l.Pairwise rE){e:Gt.Edge}{k:Nat}(hk:k<l.length)(he:l[k]=e):k=pE l e:=by
 rcases yBL k (pE l e) with h1|h1|h1;·exfalso;have:=zus l e l[k] (by rw[List.mem_take_iff_getElem];exact ⟨k,by omega,rfl⟩);rw[he] at this;exact zuU _ this
 ·exact h1
 ·exfalso;have hp:pE l e<l.length:=by omega
  have h2:=yAH.1 h (pE l e) k hp hk h1;rw[he] at h2;exact zut h e l[pE l e] (by rw[List.mem_drop_iff_getElem];exact ⟨0,by omega,by simp⟩) h2
theorem ztZ{l:List Gt.Edge}(h:l.Pairwise rE)(e:Gt.Edge):inE l e=true↔∃hp:pE l e<l.length,l[pE l e]=e:=by
 unfold inE;rw[yBd];constructor
 ·rintro ⟨x,hx,he⟩
  obtain ⟨k,hk,rfl⟩:=yBH hx;have he:=ztr.1 he;have:=zuY h hk he;subst this;exact ⟨hk,he⟩
 ·rintro ⟨hp,he⟩
  exact ⟨_,yAy hp,ztr.2 he⟩
theorem zuz{l:List Gt.Edge}{e:Gt.Edge}:inE l e=true↔e∈l:=by unfold inE;rw[yBd];exact ⟨λ⟨x,hx,he⟩=>by rw[<-ztr.1 he];exact hx,λh=>⟨e,h,ztr.2 rfl⟩⟩
def zE:Gt.Edge:=Gt.Edge.mk [] [] 0
def xE(c:Gt.BillChange):Gt.Edge:=c.edge.getD 0 zE
def mkE(b:Gt.Bill)(l:List Gt.Edge):Gt.Bill:=Gt.Bill.mk b.name b.version b.root b.components l
noncomputable def zuE(b:Gt.Bill)(c:Gt.BillChange):Gt.Bill×Int :=
 bif c.kind==5 then (bif inE b.edges (xE c) then (mkE b (b.edges.eraseIdx (pE b.edges (xE c))),0) else (b,4)) else
 (bif inE b.edges (xE c) then (b,5) else (mkE b (b.edges.take (pE b.edges (xE c))++[xE c]++b.edges.drop (pE b.edges (xE c))),0))
theorem zu2{c:Gt.BillChange}(h:c.edge.length=1):at? c.edge 0=some (xE c):=by
 unfold xE
 match hc:c.edge,h with
 |[x],_=>rfl
structure ApE (orc:Orc Sx):Prop where
 h100:∀x y:Gt.Edge,orc.d 100 [.st 7 x,.st 7 y] [(.int .i64)]=(some (zpV x y,()):Option (Int×Unit))
 h176:∀(l:List Gt.Edge)(k:Nat),k<l.length->orc.l 176 sg176 ((l,(k:Int),((k+1:Nat):Int),()):List Gt.Edge×Int×Int×Unit)=(some (.inl (l.eraseIdx k,())):Option ((List Gt.Edge×Unit)⊕Unit))
 h177:∀(l:List Gt.Edge)(k:Nat)(x:Gt.Edge),k<=l.length->l.length<=1000000->orc.l 177 sg177 ((l,(k:Int),[x],()):List Gt.Edge×Int×List Gt.Edge×Unit)=(some (.inl (l.take k++[x]++l.drop k,())):Option ((List Gt.Edge×Unit)⊕Unit))
theorem m129_eq'{orc:Orc Sx}{b:Gt.Bill}{c:Gt.BillChange}(K:ApE orc)(hb:b.edges.Pairwise rE)(hn:b.edges.length<=1000000)(hx:c.edge.length=1)(hk:c.kind=5\/c.kind=6) :
  m129 orc b.name b.version b.root b.components b.edges c=some (.inl (zry (zuE b c))):=by
 have hp:=pE_le b.edges (xE c);have hw:IntKind.i64.wrap ((pE b.edges (xE c):Int)+1)=((pE b.edges (xE c)+1:Nat):Int):=zaH (by omega) (by omega);unfold m129;rw[zu2 hx,zaa,show len b.edges=((b.edges.length:Nat):Int) from rfl,zuF (R':=Int×Bool×Unit) (f:=_) b.edges (λx=>zpV x (xE c)<0) (λi j hi hj hij h=>zu4 (yAH.1 hb i j hi hj hij) h) (λlo hi hlt hh hm=>?_) (λlo=>?_)]
 ·rw[zaj];dsimp only;rw[show (List.findIdx (λx:Gt.Edge=> !decide (zpV x (xE c)<0)) b.edges)=pE b.edges (xE c) from rfl];have hfound:(ob (br (decide ((pE b.edges (xE c):Int)<((b.edges.length:Nat):Int))) (ob (at? b.edges (pE b.edges (xE c):Int)) λy7=>(ob (α:=Int×Unit) (orc.d 100 [.st 7 y7,.st 7 (xE c)] [(.int .i64)]) λ(r8:Int×Unit)=>(some (r8.1==0)))) (some false)) λb9=>(some ((pE b.edges (xE c):Int),b9,())):Option (Int×Bool×Unit))=some ((pE b.edges (xE c):Int),inE b.edges (xE c),()):=by
   rcases yAT (pE b.edges (xE c)) b.edges.length with hp|hp
   ·rw[show decide ((pE b.edges (xE c):Int)<((b.edges.length:Nat):Int))=true from by simpa using hp,zac,zan hp,zaa,K.h100,zaa,zaa];have:(zpV b.edges[pE b.edges (xE c)] (xE c)==0)=inE b.edges (xE c):=by
     rw[yBC,ztZ hb];simp only[beq_iff_eq];exact ⟨λh=>⟨hp,zt8 h⟩,λ⟨_,h⟩=>by rw[h];exact zuC _⟩
    rw[this]
   ·rw[show decide ((pE b.edges (xE c):Int)<((b.edges.length:Nat):Int))=false from by simp;omega,zab,zaa];have:inE b.edges (xE c)=false:=by
     cases h:inE b.edges (xE c) with
     |false=>rfl|true=>obtain ⟨h1,_⟩:=(ztZ hb _).1 h;omega
    rw[this]
  rw[hfound,zaa];dsimp only;unfold zuE;rcases hk with hk|hk
  ·rw[hk,show ((5:Int)==5)=true from rfl,zac,zaa,cond_true];cases hi:inE b.edges (xE c) with
   |false=>rfl|true =>obtain ⟨hlt,_⟩:=(ztZ hb _).1 hi;rw[yBS,zab,show ((5:Int)==6)=false from rfl,zab,zaa,zab,zac,hw,K.h176 _ _ hlt,zaA];rfl
  ·rw[hk,show ((6:Int)==5)=false from rfl,zab,zaa,zab,show ((6:Int)==6)=true from rfl,zac,zaa,cond_false];cases hi:inE b.edges (xE c) with
   |true=>rfl|false=>rw[zab,zab,zaa,K.h177 _ _ _ hp hn,zaA];rfl
 ·dsimp only;rw[show decide ((lo:Int)<(hi:Int))=true from by simp;omega,zac,midI (by omega),zan hm,zaa,K.h100,zaa];by_cases hc:zpV b.edges[(lo+hi) / 2] (xE c)<0;·rw[if_pos hc,show decide (zpV b.edges[(lo+hi) / 2] (xE c)<0)=true from decide_eq_true hc,zac,zaH (by omega) (by omega)];rfl
  ·rw[if_neg hc,show decide (zpV b.edges[(lo+hi) / 2] (xE c)<0)=false from decide_eq_false hc,zab]
 ·dsimp only;rw[show decide ((lo:Int)<(lo:Int))=false from by simp,zab]
theorem zuh{l:List Gt.Edge}(h:l.Pairwise rE){e:Gt.Edge}(hn:inE l e=false):(l.take (pE l e)++[e]++l.drop (pE l e)).Pairwise rE :=
 zuf h (zus l e) λy hy=>zuT (zut h e y hy) λhe=>by have:=zuz.2 (he▸List.mem_of_mem_drop hy:e∈l);rw[hn] at this;cases this
theorem zuA{l:List Gt.Edge}(h:l.Pairwise rE){e:Gt.Edge}(hi:inE l e=true)(x:Gt.Edge):x∈l.eraseIdx (pE l e)↔x∈l/\x≠e:=by
 obtain ⟨hp,he⟩:=(ztZ h e).1 hi;rw[List.mem_eraseIdx_iff_getElem];constructor
 ·rintro ⟨k,hk,hne,rfl⟩
  exact ⟨yAy hk,λh2=>hne (zuY h hk h2)⟩
 ·rintro ⟨h1,h2⟩
  obtain ⟨k,hk,rfl⟩:=yBH h1;exact ⟨k,hk,λh3=>by subst h3;exact h2 he,rfl⟩
theorem m131_eq'{orc:Orc Sx}{b:Gt.Bill}{c:Gt.BillChange}(h105:∀l:List Gt.Edge,l.length<=1000000->(l.Pairwise λx y=>x≠y)->∃r,orc.d 105 [.sl (.st 7) l] [(.sl (.st 7))]=(some (r,()):Option (List Gt.Edge×Unit))/\r.Pairwise rE/\∀x,x∈r↔x∈l)
  (hb:b.edges.Pairwise rE) (hn:b.edges.length<=900000) (hx:c.edge.length=1) (hk:c.kind=5\/c.kind=6) :
  m131 orc b c=some ((zuE b c).1,(zuE b c).2,()):=by
 unfold m131;have key:∀(K5:Bool),zak (σ:=List Gt.Edge×Bool×Int×Unit) (R:=(List Gt.Edge×Bool×Unit)⊕(Gt.Bill×Int×Unit)) (λ(t1:List (Gt.Edge)×Bool×Int×Unit)=>(br (decide (t1.2.2.1<(len (Gt.Bill.edges b)))) (ob (at? (Gt.Bill.edges b) t1.2.2.1) λy2=>(zaE (σ:=List (Gt.Edge)×Bool×Unit) (R:=_) (ob (at? (Gt.BillChange.edge c) 0) λy3=>(br (ztJ y2 y3) (br K5 (some (.inr (.inl (t1.1,true,(IntKind.i64.wrap (t1.2.2.1+1)),())))) (some (.inl (t1.1,true,())))) (some (.inl (t1.1,t1.2.1,()))))) λ(t4:List (Gt.Edge)×Bool×Unit)=>(ob (zdJ t4.1 [y2]) λl5=>(some (.inl (l5,t4.2.1,(IntKind.i64.wrap (t1.2.2.1+1)),())))))) (some (.inr (.inl (t1.1,t1.2.1,())))))) ([],false,0,())=some (.inl (b.edges.filter (λx=> !(K5&&ztJ x (xE c))),inE b.edges (xE c),())):=λK5=>by
  refine zby (A:=List Gt.Edge×Bool) (λk a=>(a.1,a.2,(k:Int),())) b.edges.length (λ_ _=>(.inl (b.edges.filter (λx=> !(K5&&ztJ x (xE c))),inE b.edges (xE c),()):(List Gt.Edge×Bool×Unit)⊕(Gt.Bill×Int×Unit)))
   (λk a=>a.1=(b.edges.take k).filter (λx=> !(K5&&ztJ x (xE c)))/\a.2=inE (b.edges.take k) (xE c)) (λk a hk hI=>?_) 0 ([],false) (yAA _) ⟨rfl,rfl⟩
  obtain ⟨i1,i2⟩:=hI;by_cases hlk:k<b.edges.length
  ·left;have e1:b.edges.take (k+1)=b.edges.take k++[b.edges[k]]:=by rw[yCk,yAe hlk];rfl
   have hl1:a.1.length<=1000000:=(by rw[i1];exact yAo (yA0 _ _) (by rw[yAY];omega));dsimp only;rw[show decide ((k:Int)<len b.edges)=true from by simp[len];exact hlk,zac,zan hlk,zaa,zu2 hx,zaa];cases hs:ztJ b.edges[k] (xE c) with
   |true =>
     rw[zac];cases hK:K5 with
     |true =>
       refine ⟨(a.1,true),hlk,?_,⟨?_,?_⟩,rfl⟩;·rw[zac,zaU,zaf hlk (by omega)]
       ·rw[i1,e1,List.filter_append,hK];simp[hs]
       ·rw[e1];unfold inE;rw[List.any_append];simp only[List.any_cons,List.any_nil,hs,Bool.or_true,Bool.true_or]
     |false =>
       refine ⟨(a.1++[b.edges[k]],true),hlk,?_,⟨?_,?_⟩,rfl⟩;·rw[zab,zaj];dsimp only;rw[zbc (by simp[lim];omega),zaa,zaf hlk (by omega)]
       ·rw[i1,e1,List.filter_append,hK];simp
       ·rw[e1];unfold inE;rw[List.any_append];simp only[List.any_cons,List.any_nil,hs,Bool.or_true,Bool.true_or]
   |false =>
     rw[zab,zaj];refine ⟨(a.1++[b.edges[k]],a.2),hlk,?_,⟨?_,?_⟩,rfl⟩;·dsimp only;rw[zbc (by simp[lim];omega),zaa,zaf hlk (by omega)]
     ·rw[i1,e1,List.filter_append];simp[hs]
     ·rw[i2,e1];unfold inE;rw[List.any_append];simp only[List.any_cons,List.any_nil,hs,Bool.or_false]
  ·right;have:k=b.edges.length:=by omega
   subst this;dsimp only;rw[show decide (((b.edges.length:Nat):Int)<len b.edges)=false from by simp[len],zab,i1,i2,List.take_length]
 refine (congrArg (λz=>zaE (σ:=List Gt.Edge×Bool×Unit) (R:=Gt.Bill×Int×Unit) z _) (key (c.kind==5))).trans ?_;rw[zaj];dsimp only;unfold zuE;rcases hk with hk|hk
 ·rw[hk,show ((5:Int)==5)=true from rfl,zac,cond_true];cases hi:inE b.edges (xE c) with
  |false=>rfl|true =>
    rw[yBS,zab,cond_true];have:b.edges.filter (λx=> !(true&&ztJ x (xE c)))=b.edges.eraseIdx (pE b.edges (xE c)):=ztt zuk (hb.filter _) (ztK _ hb) λx=>by
     rw[zuA hb hi,yAO];refine and_congr_right λ_=>?_;rw[Bool.true_and];cases hs:ztJ x (xE c) with
     |true=>simp[ztr.1 hs]|false =>simp only[Bool.not_false,true_iff];intro h;rw[ztr.2 h] at hs;cases hs
    rw[this];rfl
 ·rw[hk,show ((6:Int)==5)=false from rfl,zab,cond_false];cases hi:inE b.edges (xE c) with
  |true=>rfl|false =>
    have hf:b.edges.filter (λx=> !(false&&ztJ x (xE c)))=b.edges:=(by rw[List.filter_eq_self];intro x _;simp);have hnm:xE c∉b.edges:=λh=>by rw[zuz.2 h] at hi;cases hi
    obtain ⟨r,r1,r2,r3⟩:=h105 (b.edges++[xE c]) (by rw[yAI,List.length_singleton];omega) (List.pairwise_append.2 ⟨hb.imp λ{x y} h he=>by subst he;exact zuU _ h,yBs _ _,λx hx y hy=>by rw[yBp.1 hy];rintro rfl;exact hnm hx⟩);have:r=b.edges.take (pE b.edges (xE c))++[xE c]++b.edges.drop (pE b.edges (xE c)):=ztt zuk r2 (zuh hb hi) λx=>by rw[r3,zuc,yAp,yBp]
    rw[zab,zu2 hx,zaa,hf,zbc (by simp[lim];omega),zaa,r1,zaa,this];rfl
end Pe.Tryz
end
section
/- One change, on both sides. -/
set_option maxRecDepth 100000
namespace Pe.Tryz
open Go Go.Proofs Pe Pe.Bfs
def mkH(b:Gt.Bill)(n v r:List UInt8):Gt.Bill:=Gt.Bill.mk n v r b.components b.edges
def ztD(b:Gt.Bill)(c:Gt.BillChange):Gt.Bill :=
 bif c.ref==ztB then mkH b c.text b.version b.root else
 bif c.ref==ztA then mkH b b.name c.text b.root else
 bif c.ref==ztG then mkH b b.name b.version c.text else b
noncomputable def chg(b:Gt.Bill)(c:Gt.BillChange):Gt.Bill×Int :=
 bif zue c != 0 then (b,zue c) else bif c.kind==1 then (ztD b c,0) else bif decide (c.kind<=4) then zvc b c else zuE b c
theorem zup{c:Gt.BillChange}(h:zue c=0):(1<=c.kind/\c.kind<=6)/\ztn c=true:=by
 unfold zue at h;cases hr:zum c with
 |true=>rw[hr] at h;cases h|false =>
   rw[hr,cond_false] at h;cases hf:ztn c with
   |false=>rw[hf] at h;cases h|true =>
     refine ⟨?_,rfl⟩;unfold zum at hr;cases h1:decide (c.kind<1) with
     |true=>rw[h1] at hr;cases hr|false =>rw[h1] at hr;have h1:=of_decide_eq_false h1;have h2:=of_decide_eq_false hr;omega
theorem zuw{α:Type}{l:List α}(h:(len l==1)=true):l.length=1:=by
 have:len l=1:=by simpa using h
 unfold len at this;omega
theorem ztu{c:Gt.BillChange}(h:ztn c=true)(hk:c.kind=3\/c.kind=4):c.component.length=1:=by
 unfold ztn at h;have:(c.kind==1)=false/\(c.kind==2)=false/\(c.kind==3||c.kind==4)=true:=by rcases hk with hk|hk<;>rw[hk]<;>exact ⟨rfl,rfl,rfl⟩
 rw[this.1,this.2.1,this.2.2] at h;simp only[cond_false,cond_true,yAd] at h;exact zuw h.1.2
theorem ztN{c:Gt.BillChange}(h:ztn c=true)(hk:c.kind=5\/c.kind=6):c.edge.length=1:=by
 unfold ztn at h;have:(c.kind==1)=false/\(c.kind==2)=false/\(c.kind==3||c.kind==4)=false:=by rcases hk with hk|hk<;>rw[hk]<;>exact ⟨rfl,rfl,rfl⟩
 rw[this.1,this.2.1,this.2.2] at h;simp only[cond_false,yAd] at h;exact zuw h.2
theorem zud{c:Gt.BillChange}(h:ztn c=true)(hk:c.kind=1):((c.ref==ztB||c.ref==ztA)||c.ref==ztG)=true:=by unfold ztn at h;rw[hk,show ((1:Int)==1)=true from rfl,cond_true,yAd] at h;exact h.2
theorem m127_eq'(orc:Orc Sx)(b:Gt.Bill)(c:Gt.BillChange):m127 orc b.name b.version b.root b.components b.edges c =
  some (.inl ((ztD b c).name,(ztD b c).version,(ztD b c).root,(ztD b c).components,(ztD b c).edges,())):=by
 unfold m127 ztD;rw[show ([110,97,109,101]:List UInt8)=ztB from rfl,show ([118,101,114,115,105,111,110]:List UInt8)=ztA from rfl,show ([114,111,111,116]:List UInt8)=ztG from rfl];cases c.ref==ztB with
 |true=>rfl|false =>
   cases c.ref==ztA with
   |true=>rfl|false =>
     cases c.ref==ztG with
     |true=>rfl|false=>rfl
structure ApS (orc:Orc Sx) (b:Gt.Bill) (c:Gt.BillChange):Prop where
 h126:orc.d 126 [.st 4 c] [.bool]=(some (ztn c,()):Option (Bool×Unit))
 h127:orc.l 127 sg127 ((b.name,b.version,b.root,b.components,b.edges,c,()):List UInt8×List UInt8×List UInt8×List (Gt.Component)×List (Gt.Edge)×Gt.BillChange×Unit)=(some (.inl ((ztD b c).name,(ztD b c).version,(ztD b c).root,(ztD b c).components,(ztD b c).edges,())):Option ((List UInt8×List UInt8×List UInt8×List (Gt.Component)×List (Gt.Edge)×Unit)⊕Unit))
 h128:(c.kind≠2->c.component.length=1)->orc.l 128 sg128 ((b.name,b.version,b.root,b.components,b.edges,c,()):List UInt8×List UInt8×List UInt8×List (Gt.Component)×List (Gt.Edge)×Gt.BillChange×Unit)=(some (.inl (zry (zvc b c))):Option (BT⊕Unit))
 h129:c.edge.length=1->c.kind=5\/c.kind=6->orc.l 129 sg129 ((b.name,b.version,b.root,b.components,b.edges,c,()):List UInt8×List UInt8×List UInt8×List (Gt.Component)×List (Gt.Edge)×Gt.BillChange×Unit)=(some (.inl (zry (zuE b c))):Option (BT⊕Unit))
theorem zvd(c:Gt.BillChange):(ob (br (decide (c.kind<1)) (some true) (some (decide (6<c.kind)))))=λK=>(K (zum c):Option (BT⊕Unit)):=funext λK=>by unfold zum;cases decide (c.kind<1)<;>rfl
theorem m82_eq'{orc:Orc Sx}{b:Gt.Bill}{c:Gt.BillChange}(K:ApS orc b c):m82 orc b.name b.version b.root b.components b.edges c=some (.inl (zry (chg b c))):=by
 unfold m82;rw[zvd];dsimp only;unfold chg;cases h0:zue c != 0 with
 |true =>
   rw[cond_true];unfold zue at h0 ⊢;cases hr:zum c with
   |true=>rfl|false =>
     rw[zab,K.h126,zaa];rw[hr,cond_false] at h0;cases hf:ztn c with
     |true=>rw[hf] at h0;cases h0|false=>rfl
 |false =>
   have h0:zue c=0:=(by simpa using h0);obtain ⟨hk,hf⟩:=zup h0;have hr:zum c=false:=by unfold zum;rw[decide_eq_false (by omega),cond_false];exact decide_eq_false (by omega)
   rw[cond_false,hr,zab,K.h126,zaa,hf];dsimp only;rw[yBS,zab];cases h1:c.kind==1 with
   |true=>rw[zac,K.h127,zaA,cond_true];rfl|false =>
     have h1:c.kind≠1:=(by simpa using h1);rw[zab,cond_false];cases h4:decide (c.kind<=4) with
     |true =>have h4:=of_decide_eq_true h4;rw[zac,K.h128 (λh2=>ztu hf (by omega)),zaA,cond_true]
     |false =>have h4:=of_decide_eq_false h4;rw[zab,K.h129 (ztN hf (by omega)) (by omega),zaA,cond_false]
theorem zt4{l:List Gt.Component}(h:l.Pairwise rC){x:Gt.Component}(hn:inC l x.ref=false):(l.take (pC l x.ref)++[x]++l.drop (pC l x.ref)).Pairwise rC :=
 zuf h (zuu l x.ref) λy hy=>zuV (zuv h x.ref y hy) λhe=>by have:inC l x.ref=true:=yBd.2 ⟨y,List.mem_of_mem_drop hy,by simpa using he⟩;rw[hn] at this;cases this
theorem m83_eq'{orc:Orc Sx}{b:Gt.Bill}{c:Gt.BillChange}(h130:orc.d 130 [.st 4 c] [(.int .i64)]=(some (zue c,()):Option (Int×Unit)))(h62:orc.d 62 [.st 3 b,.str c.ref] [(.int .i64)]=(some (zfF b c.ref,()):Option (Int×Unit)))
  (h104:∀l:List Gt.Component,l.length<=1000000->(l.Pairwise λx y=>x.ref≠y.ref)->∃r,orc.d 104 [.sl (.st 5) l] [(.sl (.st 5))]=(some (r,()):Option (List Gt.Component×Unit))/\r.Pairwise rC/\∀x,x∈r↔x∈l)
  (h131:c.edge.length=1->c.kind=5\/c.kind=6->orc.d 131 [.st 3 b,.st 4 c] [(.st 3),(.int .i64)]=(some ((zuE b c).1,(zuE b c).2,()):Option (Gt.Bill×Int×Unit)))
  (hb:b.components.Pairwise rC) (hn:b.components.length<=900000) :
  m83 orc b c=some ((chg b c).1,(chg b c).2,()):=by
 unfold m83;rw[h130,zaa];dsimp only;unfold chg;cases h0:zue c != 0 with
 |true=>rfl|false =>
   have h0:zue c=0:=(by simpa using h0);obtain ⟨hk,hf⟩:=zup h0;rw[zab,cond_false,h62,zaa];dsimp only;rw[show ([110,97,109,101]:List UInt8)=ztB from rfl,show ([118,101,114,115,105,111,110]:List UInt8)=ztA from rfl];cases h1:c.kind==1 with
   |true =>
     have h1:c.kind=1:=(by simpa using h1);have:=zud hf h1;rw[zac,cond_true];unfold ztD;cases e1:c.ref==ztB with
     |true=>rfl|false =>
       cases e2:c.ref==ztA with
       |true=>rfl|false =>rw[e1,e2,Bool.false_or,Bool.false_or] at this;rw[this];rfl
   |false =>
     have h1:c.kind≠1:=(by simpa using h1);rw[zab,cond_false,show (zaE (σ:=Bool×Unit) (R:=Gt.Bill×Int×Unit) (br (c.kind==2) (some (.inl (c.kind==2,()))) (some (.inl (c.kind==4,())))))=λK=>K ((c.kind==2||c.kind==4),()) from funext λK=>by cases c.kind==2<;>rfl];dsimp only;have hp:=zvi b.components c.ref;rw[zuN hb];by_cases h4:c.kind<=4
     ·rw[decide_eq_true h4,cond_true];unfold zvc;cases h3:c.kind==3 with
      |true =>
        have h3:c.kind=3:=(by simpa using h3);have hx:=ztu hf (.inl h3);rw[h3,show ((3:Int)==2||(3:Int)==4)=false from rfl,zab,zac,cond_true];cases hi:inC b.components c.ref with
        |true=>rw[cond_true,show decide ((0:Int)<=(pC b.components c.ref:Int))=true from by simp,zac,cond_true]|false =>
          rw[cond_false,show decide ((0:Int)<= -1)=false from rfl,zab,cond_false,zuK hx,zaa,show ((xC c).ref != c.ref)= !((xC c).ref==c.ref) from rfl];cases hr:(xC c).ref==c.ref with
          |false=>rfl|true =>
            have hr:(xC c).ref=c.ref:=(by simpa using hr);have hnm:∀y∈b.components,y.ref≠(xC c).ref:=λy hy he=>by have:inC b.components c.ref=true:=yBd.2 ⟨y,hy,by simpa[hr] using he⟩;rw[hi] at this;cases this
            obtain ⟨r,r1,r2,r3⟩:=h104 (b.components++[xC c]) (by rw[yAI,List.length_singleton];omega) (List.pairwise_append.2 ⟨hb.imp λ{x y} h he=>by unfold rC at h;rw[he] at h;exact yBn _ h,yBs _ _,λx hx y hy=>by rw[yBp.1 hy];exact hnm x hx⟩);have:r=b.components.take (pC b.components c.ref)++[xC c]++b.components.drop (pC b.components c.ref):=by rw[<-hr] at hi ⊢;exact ztt zvh r2 (zt4 hb hi) λx=>by rw[r3,zuc,yAp,yBp]
            rw[yBS,zab,ztw _ (by simp[lim];omega),zaa,zaa,zbc (by simp[lim];omega),zaa,r1,zaa,this];rfl
      |false =>
        have h3:c.kind≠3:=(by simpa using h3);have h24:c.kind=2\/c.kind=4:=(by omega);rw[show (c.kind==2||c.kind==4)=true from by rcases h24 with h|h<;>rw[h]<;>rfl,zac,cond_false];cases hi:inC b.components c.ref with
        |false=>rfl|true =>
          obtain ⟨hlt,_⟩:=(ztM hb c.ref).1 hi;have hw:IntKind.i64.wrap ((pC b.components c.ref:Int)+1)=((pC b.components c.ref+1:Nat):Int):=zaH (by omega) (by omega);have hs:b.components.set (pC b.components c.ref) (xC c)=b.components.take (pC b.components c.ref)++([xC c]++b.components.drop (pC b.components c.ref+1)):=by rw[List.set_eq_take_append_cons_drop,if_pos hlt];rfl
          have l1:(b.components.take (pC b.components c.ref)).length<=900000:=(by rw[yAY];omega);have l2:(b.components.drop (pC b.components c.ref+1)).length<=900000:=(by rw[yAL];omega);rw[cond_true,show decide ((pC b.components c.ref:Int)<0)=false from by simp,zab,yBS,cond_false,zub hp,zaa,ztw _ (by simp[lim];omega),zaa,hw,ztC (h:=pC b.components c.ref+1) hlt,zaa,zbc (by simp only[lim];omega),zaa];rcases h24 with h2|h4;·rw[h2,show ((2:Int)==4)=false from rfl,zab,show ((2:Int)==2)=true from rfl,cond_true,List.eraseIdx_eq_take_drop_succ];rfl
          ·have hx:=ztu hf (.inr h4);rw[h4,show ((4:Int)==4)=true from rfl,zac,show ((4:Int)==2)=false from rfl,cond_false,zuK hx,zaa,show ((xC c).ref != c.ref)= !((xC c).ref==c.ref) from rfl];cases hr:(xC c).ref==c.ref with
           |false=>rfl|true =>rw[yBS,zab,zaa,ztw _ (by simp[lim];omega),zaa,zaa,zaa,zbc (by simp only[lim,List.length_singleton];omega),zaa,zbc (by simp only[lim,List.length_singleton,yAI];omega),zaa,hs];rfl
     ·rw[decide_eq_false h4,cond_false,show (c.kind==2||c.kind==4)=false from by rcases (show c.kind=5\/c.kind=6 by omega) with h|h<;>rw[h]<;>rfl,zab,show (c.kind==3)=false from by rcases (show c.kind=5\/c.kind=6 by omega) with h|h<;>rw[h]<;>rfl,zab,h131 (ztN hf (by omega)) (by omega),zaa]
end Pe.Tryz
end
section
/- What the functions of a change answer; what stays true. -/
set_option maxRecDepth 100000
namespace Pe.Tryz
open Go Go.Proofs Pe Pe.Bfs
theorem q81(n:Nat)(l:List Gt.Edge): @Eq (Option ((List Gt.Edge×Unit)⊕Unit)) ((zah (n+1)).l 81 sg81 ((l,()):List Gt.Edge×Unit)) (bif Nat.ble l.length 1000000 then some (.inl (l,())) else none):=by kernel_rfl
theorem q173(n:Nat)(l:List Gt.Component)(k j:Int): @Eq (Option ((List Gt.Component×Unit)⊕Unit)) ((zah (n+1)).l 173 sg173 ((l,k,j,()):List Gt.Component×Int×Int×Unit)) (zt1 l k j):=by kernel_rfl
theorem q174(n:Nat)(l:List Gt.Component)(k:Int)(v:List Gt.Component): @Eq (Option ((List Gt.Component×Unit)⊕Unit)) ((zah (n+1)).l 174 sg174 ((l,k,v,()):List Gt.Component×Int×List Gt.Component×Unit)) (ztY l k v):=by kernel_rfl
theorem q176(n:Nat)(l:List Gt.Edge)(k j:Int): @Eq (Option ((List Gt.Edge×Unit)⊕Unit)) ((zah (n+1)).l 176 sg176 ((l,k,j,()):List Gt.Edge×Int×Int×Unit)) (zt0 l k j):=by kernel_rfl
theorem q177(n:Nat)(l:List Gt.Edge)(k:Int)(v:List Gt.Edge): @Eq (Option ((List Gt.Edge×Unit)⊕Unit)) ((zah (n+1)).l 177 sg177 ((l,k,v,()):List Gt.Edge×Int×List Gt.Edge×Unit)) (ztX l k v):=by kernel_rfl
theorem h173(n:Nat)(l:List Gt.Component)(k:Nat)(hk:k<l.length): @Eq (Option ((List Gt.Component×Unit)⊕Unit)) ((zah (n+1)).l 173 sg173 ((l,(k:Int),((k+1:Nat):Int),()):List Gt.Component×Int×Int×Unit)) (some (.inl (l.eraseIdx k,()))):=by rw[q173];unfold zt1;rw[show decide ((0:Int)<=(k:Int))=true from by simp,show decide (((k+1:Nat):Int)=(k:Int)+1)=true from by simp,show Int.toNat (k:Int)=k from rfl,show Nat.blt k l.length=true from by rw[yAN];exact hk];rfl
theorem h176(n:Nat)(l:List Gt.Edge)(k:Nat)(hk:k<l.length): @Eq (Option ((List Gt.Edge×Unit)⊕Unit)) ((zah (n+1)).l 176 sg176 ((l,(k:Int),((k+1:Nat):Int),()):List Gt.Edge×Int×Int×Unit)) (some (.inl (l.eraseIdx k,()))):=by rw[q176];unfold zt0;rw[show decide ((0:Int)<=(k:Int))=true from by simp,show decide (((k+1:Nat):Int)=(k:Int)+1)=true from by simp,show Int.toNat (k:Int)=k from rfl,show Nat.blt k l.length=true from by rw[yAN];exact hk];rfl
theorem h174(n:Nat)(l:List Gt.Component)(k:Nat)(x:Gt.Component)(hk:k<=l.length)(hl:l.length<=1000000): @Eq (Option ((List Gt.Component×Unit)⊕Unit)) ((zah (n+1)).l 174 sg174 ((l,(k:Int),[x],()):List Gt.Component×Int×List Gt.Component×Unit)) (some (.inl (l.take k++[x]++l.drop k,()))):=by rw[q174];unfold ztY;simp only[show decide ((0:Int)<=(k:Int))=true from by simp,show Int.toNat (k:Int)=k from rfl,show Nat.ble k l.length=true from by rw[yAK];exact hk,show Nat.ble l.length 1000000=true from by rw[yAK];exact hl];rfl
theorem h177(n:Nat)(l:List Gt.Edge)(k:Nat)(x:Gt.Edge)(hk:k<=l.length)(hl:l.length<=1000000): @Eq (Option ((List Gt.Edge×Unit)⊕Unit)) ((zah (n+1)).l 177 sg177 ((l,(k:Int),[x],()):List Gt.Edge×Int×List Gt.Edge×Unit)) (some (.inl (l.take k++[x]++l.drop k,()))):=by rw[q177];unfold ztX;simp only[show decide ((0:Int)<=(k:Int))=true from by simp,show Int.toNat (k:Int)=k from rfl,show Nat.ble k l.length=true from by rw[yAK];exact hk,show Nat.ble l.length 1000000=true from by rw[yAK];exact hl];rfl
structure Going (k:Nat) (b:Gt.Bill):Prop where
 refs:b.components.Pairwise rC
 edges:b.edges.Pairwise rE
 n:b.components.length<=3000+k
 m:b.edges.length<=20000+k
 small:SmB b
structure SmK (c:Gt.BillChange):Prop where
 text:c.text.length<=1000000000
 comps:∀x∈c.component,SmC x
theorem Right.going{b:Gt.Bill}(h:Right b)(hs:SmB b):Going 0 b:=by
 refine ⟨yAH.2 λi j hi hj hij=>?_,yAH.2 λi j hi hj hij=>?_,h.n,h.m,hs⟩;·have:=h.refs i j hij hj;rw[zcU hi,zcU hj] at this;exact this
 ·have:=h.order i j hij hj;rw[zfY hi,zfY hj,zfX hi,zfX hj,zgV hi,zgV hj] at this;exact (zug _ _).2 this
theorem SmC.toL{c:Gt.Component}(h:SmC c):SmL c:=⟨h.quals,h.dl,h.fl⟩
theorem zuR{c:Gt.BillChange}(h:c.component.length=1):xC c∈c.component:=by
 unfold xC
 match hc:c.component,h with
 |[x],_=>simp
theorem xC_sm{c:Gt.BillChange}(h:SmK c):SmL (xC c):=by
 have h:=h.comps;unfold xC
 match hc:c.component,h with
 |[],_=>exact ⟨by decide,by decide,by decide⟩|x::_,h=>exact (h x (by simp)).toL
theorem Going.head{k:Nat}{b:Gt.Bill}(h:Going k b){c:Gt.BillChange}(hc:SmK c):Going (k+1) (ztD b c):=by
 have h1:=h.n;have h2:=h.m;have mk:∀n v r:List UInt8,n.length<=1000000000->v.length<=1000000000->Going (k+1) (mkH b n v r):=λn v r hn hv=>⟨h.refs,h.edges,by show b.components.length<=_;omega,by show b.edges.length<=_;omega,hn,hv,h.small.comps⟩;unfold ztD;cases c.ref==ztB with
 |true=>exact mk _ _ _ hc.text h.small.version|false =>
   cases c.ref==ztA with
   |true=>exact mk _ _ _ h.small.name hc.text|false =>
     cases c.ref==ztG with
     |true=>exact mk _ _ _ h.small.name h.small.version|false=>exact mk _ _ b.root h.small.name h.small.version
theorem Going.next{k:Nat}{b:Gt.Bill}(h:Going k b):Going (k+1) b:=⟨h.refs,h.edges,by have:=h.n;omega,by have:=h.m;omega,h.small⟩
theorem Going.withC{k:Nat}{b:Gt.Bill}(h:Going k b){l:List Gt.Component}(h1:l.Pairwise rC)(h2:l.length<=b.components.length+1)(h3:∀c∈l,SmC c):Going (k+1) (mkC b l) :=
 ⟨h1,h.edges,by have:=h.n;show l.length<=_;omega,by have:=h.m;show b.edges.length<=_;omega,h.small.name,h.small.version,h3⟩
theorem Going.withE{k:Nat}{b:Gt.Bill}(h:Going k b){l:List Gt.Edge}(h1:l.Pairwise rE)(h2:l.length<=b.edges.length+1):Going (k+1) (mkE b l) :=
 ⟨h.refs,h1,by have:=h.n;show b.components.length<=_;omega,by have:=h.m;show l.length<=_;omega,h.small.name,h.small.version,h.small.comps⟩
theorem zuM{l:List Gt.Component}(h:l.Pairwise rC){p:Nat}(hp:p<l.length){x:Gt.Component}(hr:x.ref=l[p].ref):(l.set p x).Pairwise rC:=by
 have ref:∀i (hi:i<(l.set p x).length) (hi':i<l.length),(l.set p x)[i].ref=l[i].ref:=λi hi hi'=>by
  rw[List.getElem_set];split;·rename_i e;subst e;exact hr
  ·rfl
 rw[yAH];intro i j hi hj hij;have hi':i<l.length:=by rwa[List.length_set] at hi
 have hj':j<l.length:=by rwa[List.length_set] at hj
 unfold rC;rw[ref i hi hi',ref j hj hj'];exact yAH.1 h i j hi' hj' hij
theorem zur{α:Type}{l:List α}{p:Nat}{x:α}:(l.take p++[x]++l.drop p).length=l.length+1:=by simp only[yAI,yAY,yAL,List.length_singleton];omega
theorem Going.comp{k:Nat}{b:Gt.Bill}(h:Going k b){c:Gt.BillChange}(hc:SmK c)(hx:c.kind≠2->c.component.length=1):Going (k+1) (zvc b c).1:=by
 unfold zvc;cases h3:c.kind==3 with
 |true =>
   have h3:c.kind=3:=(by simpa using h3);cases hi:inC b.components c.ref with
   |true=>exact h.next|false =>
     cases hr:(xC c).ref==c.ref with
     |false=>exact h.next|true =>
       have hr:(xC c).ref=c.ref:=(by simpa using hr);refine h.withC (by rw[<-hr] at hi ⊢;exact zt4 h.refs hi) (by rw[zur];exact yAi _) λy hy=>?_;rcases zuc.1 hy with hy|rfl;·exact h.small.comps y hy
       ·exact hc.comps _ (zuR (hx (by omega)))
 |false =>
   cases hi:inC b.components c.ref with
   |false=>exact h.next|true =>
     obtain ⟨hp,he⟩:=(ztM h.refs c.ref).1 hi;cases h2:c.kind==2 with
     |true=>exact h.withC (ztK _ h.refs) (Nat.le_succ_of_le (List.length_eraseIdx_le _ _)) λy hy=>h.small.comps y (List.mem_of_mem_eraseIdx hy)|false =>
       have h2:c.kind≠2:=(by simpa using h2);cases hr:(xC c).ref==c.ref with
       |false=>exact h.next|true =>
         have hr:(xC c).ref=c.ref:=(by simpa using hr);refine h.withC (zuM h.refs hp (hr.trans he.symm)) (by rw[List.length_set];omega) λy hy=>?_;rcases List.mem_or_eq_of_mem_set hy with hy|rfl;·exact h.small.comps y hy
         ·exact hc.comps _ (zuR (hx h2))
theorem Going.edge{k:Nat}{b:Gt.Bill}(h:Going k b){c:Gt.BillChange}:Going (k+1) (zuE b c).1:=by
 unfold zuE;cases c.kind==5 with
 |true =>
   cases hi:inE b.edges (xE c) with
   |true=>exact h.withE (ztK _ h.edges) (Nat.le_succ_of_le (List.length_eraseIdx_le _ _))|false=>exact h.next
 |false =>
   cases hi:inE b.edges (xE c) with
   |true=>exact h.next|false=>exact h.withE (zuh h.edges hi) (by rw[zur];exact yAi _)
theorem Going.chg{k:Nat}{b:Gt.Bill}(h:Going k b){c:Gt.BillChange}(hc:SmK c):Going (k+1) (chg b c).1:=by
 unfold Tryz.chg;cases h0:zue c != 0 with
 |true=>exact h.next|false =>
   have h0:zue c=0:=(by simpa using h0);obtain ⟨hk,hf⟩:=zup h0;rw[cond_false];cases h1:c.kind==1 with
   |true=>exact h.head hc|false =>
     have h1:c.kind≠1:=(by simpa using h1);rw[cond_false];by_cases h4:c.kind<=4;·rw[decide_eq_true h4];exact h.comp hc λh2=>ztu hf (by omega)
     ·rw[decide_eq_false h4];exact h.edge
theorem L82{n k:Nat}(hk:k<=30000){b:Gt.Bill}(h:Going k b){c:Gt.BillChange}(hc:SmK c) :
  @Eq (Option (BT⊕Unit)) ((zah (n+12)).l 82 sg82 ((b.name,b.version,b.root,b.components,b.edges,c,()):List UInt8×List UInt8×List UInt8×List (Gt.Component)×List (Gt.Edge)×Gt.BillChange×Unit)) (some (.inl (zry (chg b c)))):=by
 have h1:=h.n;have h2:=h.m;refine (q82 (n+11) _ _ _ _ _ _).trans (m82_eq' ⟨(q126 (n+10) c).trans (m126_eq' _ c),(q127 (n+10) _ _ _ _ _ _).trans (m127_eq' _ b c),λhx=>?_,λhx hk=>?_⟩)
 ·refine (q128 (n+10) _ _ _ _ _ _).trans (m128_eq' ⟨?_,?_,h173 (n+9),h174 (n+9)⟩ h.refs (by omega) hx);·exact (q67 (n+9) b c.ref).trans (m67_s _ (λc r=>L109 (n+6) c r) h.refs (by omega) c.ref)
  ·exact L68 (n+8) (xC_sm hc)
 ·exact (q129 (n+10) _ _ _ _ _ _).trans (m129_eq' ⟨λx y=>L100 (n+6) x y,h176 (n+9),h177 (n+9)⟩ h.edges (by omega) hx hk)
theorem L83{n k:Nat}(hk:k<=30000){b:Gt.Bill}(h:Going k b){c:Gt.BillChange} :
  @Eq (Option (Gt.Bill×Int×Unit)) ((zah (n+40)).d 83 [.st 3 b,.st 4 c] [(.st 3),(.int .i64)]) (some ((chg b c).1,(chg b c).2,())):=by
 have h1:=h.n;have h2:=h.m;refine (q83 (n+39) b c).trans (m83_eq' ((q130 (n+38) c).trans (m130_eq' _ c)) (L62 (n+38) (by omega) c.ref) (λl hl hp=>?_) (λhx hk=>?_) h.refs (by omega));·obtain ⟨r,r1,r2,r3,_⟩:=L104 20 l (by omega) hl hp (n+39) (by omega);exact ⟨r,r1,r2,r3⟩
 ·refine (q131 (n+38) b c).trans (m131_eq' (λl hl hp=>?_) h.edges (by omega) hx hk);obtain ⟨r,r1,r2,r3,_⟩:=L105 20 l (by omega) hl hp (n+38) (by omega);exact ⟨r,r1,r2,r3⟩
end Pe.Tryz
end
section
/- The small bill, reckoned. -/
set_option maxRecDepth 100000
namespace Pe.Tryz
open Go Go.Proofs Pe Pe.Bfs
theorem ztp{α β:Type}{x:Option α}{v:α}{K:α->Option β}{r:Option β}(h:x=some v)(k:K v=r):ob x K=r:=by rw[h];exact k
theorem zuG{α:Type}{b:Bool}{x y r:Option α}(h:b=true)(k:x=r):br b x y=r:=by rw[h];exact k
theorem zuH{α:Type}{b:Bool}{x y r:Option α}(h:b=false)(k:y=r):br b x y=r:=by rw[h];exact k
def ctF{σ R:Type}(K:σ->Option R):σ⊕R->Option R| .inl s=>K s| .inr r=>some r
theorem ztz{σ R:Type}{x:Option (σ⊕R)}{z:σ⊕R}{K:σ->Option R}{r:Option R}(h:x=some z)(k:ctF K z=r):zaE x K=r:=by rw[h];cases z<;>exact k
theorem ztq{σ R:Type}{f:σ->Option (σ⊕R)}{s:σ}{z:σ⊕R}{r:Option R}(h:f s=some z)(k:ctF (zak f) z=r):zak f s=r:=by
 cases z with
 |inl y=>exact (zaR h).trans k|inr q=>exact (zaD h).trans k
theorem ev_oc{α β R:Type}{x:Option (α⊕β)}{a:α}{f:α->Option R}{g:β->Option R}{r:Option R}(h:x=some (.inl a))(k:f a=r):oc x f g=r:=by rw[h];exact k
theorem ztQ{σ R:Type}{K:σ->Option R}{s:σ}{r:Option R}(k:K s=r):ctF K (.inl s)=r:=k
theorem ztP{σ R:Type}{K:σ->Option R}{q:R}{r:Option R}(k:some q=r):ctF K (.inr q)=r:=k
def zuo:Gt.Gf:=Gt.Gf.mk zkn 0 [[1],[2],[]] [[],[0],[1]]
theorem t122(n:Nat):m122 (zah (n+1)) zkn 1=some (zuo,()):=by
 unfold m122
 repeat' first
  |with_reducible apply ztz
  |with_reducible apply ztq
  |with_reducible apply ztQ
  |with_reducible apply ztP
  |with_reducible apply ztp
  |with_reducible refine zuG (by with_unfolding_all rfl) ?_
  |with_reducible refine zuH (by with_unfolding_all rfl) ?_
  |refine ev_oc ((q168 n _).trans (show _=some (.inl (_,())) from rfl)) ?_
  |exact rfl
theorem t58(n:Nat):m58 (zah n) [[],[0],[1]] 2 (-1)=some ([2,1,0],()):=by
 unfold m58
 repeat' first
  |with_reducible apply ztz
  |with_reducible apply ztq
  |with_reducible apply ztQ
  |with_reducible apply ztP
  |with_reducible apply ztp
  |with_reducible refine zuG (by with_unfolding_all rfl) ?_
  |with_reducible refine zuH (by with_unfolding_all rfl) ?_
  |exact rfl
theorem t58'(n:Nat):m58 (zah n) [[1],[2],[]] 0 1=some ([0, -1, -1],()):=by
 unfold m58
 repeat' first
  |with_reducible apply ztz
  |with_reducible apply ztq
  |with_reducible apply ztQ
  |with_reducible apply ztP
  |with_reducible apply ztp
  |with_reducible refine zuG (by with_unfolding_all rfl) ?_
  |with_reducible refine zuH (by with_unfolding_all rfl) ?_
  |exact rfl
theorem t57(n:Nat):m57 (zah (n+1)) zuo 2=some ([0,1,2],()):=by
 unfold m57
 repeat' first
  |with_reducible apply ztz
  |with_reducible apply ztq
  |with_reducible apply ztQ
  |with_reducible apply ztP
  |with_reducible apply ztp
  |with_reducible refine zuG (by with_unfolding_all rfl) ?_
  |with_reducible refine zuH (by with_unfolding_all rfl) ?_
  |refine ztp ((q58 n _ _ _).trans (t58 n)) ?_
  |exact rfl
theorem t59(n:Nat):m59 (zah n) zuo [1]=some ([[98]],()):=by
 unfold m59
 repeat' first
  |with_reducible apply ztz
  |with_reducible apply ztq
  |with_reducible apply ztQ
  |with_reducible apply ztP
  |with_reducible apply ztp
  |with_reducible refine zuG (by with_unfolding_all rfl) ?_
  |with_reducible refine zuH (by with_unfolding_all rfl) ?_
  |exact rfl
theorem t14(n:Nat):m14 (zah (n+200)) zkn [99] 1=some ([[98]],0,()):=by
 have h79:m79 (zah (n+198)) zkn 1=some (zuo,0,()):=by
  unfold m79
  repeat' first
   |with_reducible apply ztz
   |with_reducible apply ztq
   |with_reducible apply ztQ
   |with_reducible apply ztP
   |with_reducible apply ztp
   |with_reducible refine zuG (by with_unfolding_all rfl) ?_
   |with_reducible refine zuH (by with_unfolding_all rfl) ?_
   |refine ztp ((L40 (by omega) zrj).trans (congrArg (λx:Int=>some (x,())) zp2)) ?_|refine ztp ((q122 (n+197) _ _).trans (t122 (n+196))) ?_|exact rfl
 have h67:m67 (zah (n+198)) zkn [99]=some (2,true,()):=m67_s _ (λc r=>L109 (n+195) c r) (show List.Pairwise (λx y:Gt.Component=>x.ref<y.ref) zkn.components by decide) (by decide) [99];have h56:m56 (zah (n+199)) zkn [99] 1=some (zuo,2,0,()):=by
  unfold m56
  repeat' first
   |with_reducible apply ztz
   |with_reducible apply ztq
   |with_reducible apply ztQ
   |with_reducible apply ztP
   |with_reducible apply ztp
   |with_reducible refine zuG (by with_unfolding_all rfl) ?_
   |with_reducible refine zuH (by with_unfolding_all rfl) ?_
   |refine ztp ((q79 (n+198) _ _).trans h79) ?_
   |refine ztp ((q67 (n+198) _ _).trans h67) ?_
   |exact rfl
 unfold m14
 repeat' first
  |with_reducible apply ztz
  |with_reducible apply ztq
  |with_reducible apply ztQ
  |with_reducible apply ztP
  |with_reducible apply ztp
  |with_reducible refine zuG (by with_unfolding_all rfl) ?_
  |with_reducible refine zuH (by with_unfolding_all rfl) ?_
  |refine ztp ((q56 (n+199) _ _ _).trans h56) ?_
  |refine ztp ((q57 (n+199) _ _).trans (t57 (n+198))) ?_
  |refine ztp ((q58 (n+199) _ _ _).trans (t58' (n+199))) ?_
  |refine ztp ((q59 (n+199) _ _).trans (t59 (n+199))) ?_
  |exact rfl
theorem L19c{n:Nat}(hn:210<=n): @Eq (Option (Bool×Unit)) ((zah n).d 19 [] [.bool]) (some (true,())):=by
 obtain ⟨n,rfl⟩:∃k,n=k+210:=⟨n - 210,by omega⟩;refine (q19 (n+209)).trans ?_;have h66:∀s:List UInt8,@Eq (Option (Gt.Component×Unit)) ((zah (n+209)).d 66 [.str s] [(.st 5)]) (some (cT s,())):=λs=>(q66 (n+208) s).trans rfl;have h18:m18 (zah (n+208)) [[98]] [[98]]=some (true,()):=by
  unfold m18
  repeat' first
   |with_reducible apply ztz
   |with_reducible apply ztq
   |with_reducible apply ztQ
   |with_reducible apply ztP
   |with_reducible apply ztp
   |with_reducible refine zuG (by with_unfolding_all rfl) ?_
   |with_reducible refine zuH (by with_unfolding_all rfl) ?_
   |exact rfl
 unfold m19
 repeat' first
  |with_reducible apply ztz
  |with_reducible apply ztq
  |with_reducible apply ztQ
  |with_reducible apply ztP
  |with_reducible apply ztp
  |with_reducible refine zuG (by with_unfolding_all rfl) ?_
  |with_reducible refine zuH (by with_unfolding_all rfl) ?_
  |refine ztp (h66 _) ?_
  |refine ztp ((q14 (n+208) _ _ _).trans (t14 (n+8))) ?_
  |refine ztp ((q18 (n+208) _ _).trans h18) ?_
  |exact rfl
end Pe.Tryz
end
section
/- Apply on both sides, and the law of applying. -/
set_option maxRecDepth 100000
namespace Pe.Tryz
open Go Go.Proofs Pe Pe.Bfs
noncomputable def apl:List Gt.BillChange->Nat->Gt.Bill->Gt.Bill⊕(Nat×Int)|[],_,b=>.inl b|c::t,k,b=>bif (chg b c).2==0 then apl t (k+1) (chg b c).1 else .inr (k,(chg b c).2)
theorem ztF:∀(t:List Gt.BillChange)(k:Nat)(b b':Gt.Bill),(∀c∈t,SmK c)->Going k b->apl t k b= .inl b'->Going (k+t.length) b'
 |[],k,b,b',_,h,e=>by
   have:b=b':=by unfold apl at e;exact Sum.inl.inj e
   exact this▸h
 |c::t,k,b,b',hs,h,e=>by
   unfold apl at e;cases h0:(chg b c).2==0 with
   |false=>rw[h0] at e;cases e|true =>rw[h0,cond_true] at e;have:=ztF t (k+1) _ b' (λx hx=>hs x (by simp[hx])) (h.chg (hs c (by simp))) e;rw[show k+(c::t).length=k+1+t.length from by simp only[yAw];omega];exact this
theorem ztU{σ R:Type}{f:σ->Option (σ⊕R)}{l:List Gt.BillChange}(hs:∀c∈l,SmK c)(st:Nat->Gt.Bill->σ)(done:Gt.Bill->R)(fail:Nat->Int->R)
  (h:∀k (hk:k<l.length) b,Going k b->f (st k b)=some (bif (chg b l[k]).2==0 then .inl (st (k+1) (chg b l[k]).1) else .inr (fail k (chg b l[k]).2)))
  (he:∀b,Going l.length b->f (st l.length b)=some (.inr (done b))) :
  ∀(t:List Gt.BillChange)(k:Nat)(b:Gt.Bill),l.drop k=t->k<=l.length->Going k b->zak f (st k b)=some (match apl t k b with | .inl b'=>done b' | .inr p=>fail p.1 p.2)
 |[],k,b,ht,hk,hg=>by
   have:k=l.length:=by have:=List.drop_eq_nil_iff.1 ht;omega
   subst this;exact zaD (he b hg)
 |c::t,k,b,ht,hk,hg=>by
   have hlt:k<l.length:=by
    rcases yAT k l.length with h1|h1;·exact h1
    ·rw[yBm h1] at ht;cases ht
   rw[yAV hlt] at ht;obtain ⟨hc,ht⟩:=List.cons.inj ht;have hf:=h k hlt b hg;rw[hc] at hf;unfold apl;cases h0:(chg b c).2==0 with
   |false=>rw[h0] at hf;exact zaD hf|true =>rw[h0] at hf;exact (zaR hf).trans (ztU hs st done fail h he t (k+1) _ ht hlt (hg.chg (hc▸hs _ (yAy hlt))))
theorem zt2{σ τ R:Type}{f:σ->Option (σ⊕(τ⊕R))}{s:σ}{r:τ⊕R}{K:τ->Option R}{res:Option R}(h:zak f s=some r)(hk:zaE (some r) K=res):zaE (zak f s) K=res:=by rw[h];exact hk
def zB:Gt.Bill:=Gt.Bill.mk [] [] [] [] []
noncomputable def zun(b:Gt.Bill)(l:List Gt.BillChange):Gt.Bill×Int×Int×Unit :=
 bif zfo b != 0 then (zB,0,zfo b,()) else bif decide (30000<len l) then (zB,0,3,()) else
 match apl l 0 b with
 | .inr p=>(zB,p.1,p.2,())| .inl b'=>bif zfo b' != 0 then (zB,len l,zfo b',()) else (b',0,0,())
theorem SmC.l68(n:Nat){c:Gt.Component}(h:SmC c): @Eq (Option (Gt.Component×Unit)) ((zah (n+2)).d 68 [.st 5 c] [(.st 5)]) (some (c,())):=L68 n h.toL
abbrev S5:=List UInt8×List UInt8×List UInt8×List Gt.Component×List Gt.Edge×Unit
abbrev S10:=List UInt8×List UInt8×List UInt8×List Gt.Component×List Gt.Edge×S5
def cells(b:Gt.Bill):S5:=(b.name,b.version,b.root,b.components,b.edges,())
theorem L41{n:Nat}(hn:200<=n){b:Gt.Bill}(hb:SmB b){l:List Gt.BillChange}(hl:∀c∈l,SmK c):m41 (zah n) b l=some (zun b l):=by
 obtain ⟨n,rfl⟩:∃k,n=k+200:=⟨n - 200,by omega⟩;unfold m41 zun;rw[L40 (by omega) hb,zaa];dsimp only;cases h0:zfo b != 0 with
 |true=>rfl|false =>
   have h0:zfo b=0:=(by simpa using h0);have hR:=zeo h0;have hm:=hR.m;have hn':=hR.n;rw[zab,cond_false];cases h1:decide (30000<len l) with
   |true=>rfl|false =>
     have h1:l.length<=30000:=(by have:=of_decide_eq_false h1;unfold len at this;omega);rw[zab,cond_false,q81,show Nat.ble b.edges.length 1000000=true from by rw[yAK];omega,cond_true,zaA];dsimp only;refine zt2 (zby (A:=Unit) (σ:=Int×S5) (R:=S5⊕(Gt.Bill×Int×Int×Unit)) (λk _=>((k:Int),b.name,b.version,b.root,b.components.take k,b.edges,())) b.components.length (λ_ _=>.inl (cells b)) (λ_ _=>True) (λk _ hk _=>?_) 0 () (yAA _) trivial) ?_
     rotate_left
     ·rw[zaj];refine zt2 (ztU (σ:=Int×S10) (R:=S10⊕(Gt.Bill×Int×Int×Unit)) hl (λk b=>((k:Int),[],[],[],[],[],cells b)) (λb=>.inl ([],[],[],[],[],cells b)) (λk e=>.inr (zB,(k:Int),e,())) (λk hk b hg=>?_) (λb hg=>?_) l 0 b rfl (yAA _) (hR.going hb)) ?_
      rotate_left 2
      ·cases ha:apl l 0 b with
       |inr p=>rfl|inl b' =>have hg:=ztF l 0 b b' hl (hR.going hb) ha;dsimp only;rw[zaj];dsimp only[cells];rw[show @Eq (Option (Int×Unit)) ((zah (n+200)).d 40 [.st 3 (Gt.Bill.mk b'.name b'.version b'.root b'.components b'.edges)] [(.int .i64)]) (some (zfo b',())) from L40 (by omega) hg.small,zaa];dsimp only;cases zfo b' != 0<;>rfl
      ·dsimp only[cells];rw[show decide ((k:Int)<len l)=true from by simp[len];exact hk,zac,zan hk,zaa,L82 (n:=n+188) (by omega) hg (hl _ (yAy hk)),zaA,zaf hk (by omega)];show br ((chg b l[k]).2 != 0) _ _=_;rw[show ((chg b l[k]).2 != 0)= !((chg b l[k]).2==0) from rfl];cases (chg b l[k]).2==0<;>rfl
      ·dsimp only[cells];rw[show decide (((l.length:Nat):Int)<len l)=false from by simp[len],zab]
     ·by_cases hlk:k<b.components.length
      ·left;refine ⟨(),hlk,?_,trivial,rfl⟩;have e1:b.components.take (k+1)=b.components.take k++[b.components[k]]:=by rw[yCk,yAe hlk];rfl
       have hl1:(b.components.take k).length<=3000:=(by rw[yAY];omega);dsimp only;rw[show decide ((k:Int)<len b.components)=true from by simp[len];exact hlk,zac,zan hlk,zaa,(hb.comps _ (yAy hlk)).l68 (n+198),zaa,zbc (by simp only[lim,List.length_singleton];omega),zaa,zaf hlk (by omega),e1]
      ·right;have:k=b.components.length:=by omega
       subst this;dsimp only;rw[show decide (((b.components.length:Nat):Int)<len b.components)=false from by simp[len],zab,List.take_length];rfl
theorem L42{n:Nat}(hn:200<=n){b:Gt.Bill}(hb:SmB b){l:List Gt.BillChange}(hl:∀c∈l,SmK c):m42 (zah n) b l=some (zun b l):=by
 obtain ⟨n,rfl⟩:∃k,n=k+200:=⟨n - 200,by omega⟩;unfold m42 zun;rw[L54 (by omega) hb,zaa];dsimp only;cases h0:zfo b != 0 with
 |true=>rfl|false =>
   have h0:zfo b=0:=(by simpa using h0);have hR:=zeo h0;rw[zab,cond_false];cases h1:decide (30000<len l) with
   |true=>rfl|false =>
     have h1:l.length<=30000:=(by have:=of_decide_eq_false h1;unfold len at this;omega);rw[zab,cond_false];refine zt2 (ztU (σ:=Int×S10) (R:=S10⊕(Gt.Bill×Int×Int×Unit)) hl (λk b=>((k:Int),b.name,b.version,b.root,b.components,b.edges,[],[],[],[],[],())) (λb=>.inl (b.name,b.version,b.root,b.components,b.edges,[],[],[],[],[],())) (λk e=>.inr (zB,(k:Int),e,())) (λk hk b hg=>?_) (λb hg=>?_) l 0 b rfl (yAA _) (hR.going hb)) ?_
     rotate_left 2
     ·cases ha:apl l 0 b with
      |inr p=>rfl|inl b' =>have hg:=ztF l 0 b b' hl (hR.going hb) ha;dsimp only;rw[zaj];dsimp only;rw[show @Eq (Option (Int×Unit)) ((zah (n+200)).d 54 [.st 3 (Gt.Bill.mk b'.name b'.version b'.root b'.components b'.edges)] [(.int .i64)]) (some (zfo b',())) from L54 (by omega) hg.small,zaa];dsimp only;cases zfo b' != 0<;>rfl
     ·dsimp only;rw[show decide ((k:Int)<len l)=true from by simp[len];exact hk,zac,zan hk,zaa,show @Eq (Option (Gt.Bill×Int×Unit)) ((zah (n+200)).d 83 [.st 3 (Gt.Bill.mk b.name b.version b.root b.components b.edges),.st 4 l[k]] [(.st 3),(.int .i64)]) _ from L83 (n:=n+160) (by omega) hg,zaa,zaf hk (by omega)];dsimp only;rw[show ((chg b l[k]).2 != 0)= !((chg b l[k]).2==0) from rfl];cases (chg b l[k]).2==0<;>rfl
     ·dsimp only;rw[show decide (((l.length:Nat):Int)<len l)=false from by simp[len],zab]
theorem m55_same(o:Orc Sx){l:List Gt.Edge}(hl:l.length<=1000000000):m55 o l l=some (true,()):=by
 unfold m55;rw[show (len l != len l)=false from by simp,zab];rw[zty (n:=l.length) (.inl ():Unit⊕(Bool×Unit)) (λk hk=>?_) ?_];·rfl
 ·dsimp only;rw[show decide ((l.length:Int)<len l)=false from by simp[len],zab]
 ·dsimp only;rw[show decide ((k:Int)<len l)=true from by simp[len];exact hk,zac,zan hk,zaa,zaa,zaf hk (by omega)];simp only[beq_self_eq_true,Bool.and_self,yBS,zab]
theorem L38{n:Nat}(hn:10<=n){b:Gt.Bill}(hb:SmB b)(h1:b.components.length<=1000000)(h2:b.edges.length<=1000000):m38 (zah n) b b=some (true,()):=by
 obtain ⟨n,rfl⟩:∃k,n=k+10:=⟨n - 10,by omega⟩;have be:∀l:List UInt8,(l==l)=true:=λl=>by simp
 unfold m38;simp only[be,zac,zaa,show (len b.components != len b.components)=false from by simp,zab];rw[zty (n:=b.components.length) (.inl ():Unit⊕(Bool×Unit)) (λk hk=>?_) ?_];·rw[zaj,zaa,zaa,zac,show @Eq (Option (Bool×Unit)) ((zah (n+10)).d 55 [.sl (.st 7) b.edges,.sl (.st 7) b.edges] [.bool]) (some (true,())) from (q55 (n+9) _ _).trans (m55_same _ (by omega))];rfl
 ·dsimp only;rw[show decide ((b.components.length:Int)<len b.components)=false from by simp[len],zab]
 ·dsimp only;rw[show decide ((k:Int)<len b.components)=true from by simp[len];exact hk,zac,zan hk,zaa,zaa,L26 (n+8) (hb.comps _ (yAy hk)).toL,zaa,zaf hk (by omega)];rfl
theorem zul{b:Gt.Bill}(hb:SmB b){l:List Gt.BillChange}(hl:∀c∈l,SmK c):SmB (zun b l).1/\(zun b l).1.components.length<=1000000/\(zun b l).1.edges.length<=1000000:=by
 have z:SmB zB/\zB.components.length<=1000000/\zB.edges.length<=1000000:=⟨⟨by decide,by decide,λc hc=>by cases hc⟩,by decide,by decide⟩;unfold zun;cases h0:zfo b != 0 with
 |true=>exact z|false =>
   have h0:zfo b=0:=(by simpa using h0);have hR:=zeo h0;rw[cond_false];cases h1:decide (30000<len l) with
   |true=>exact z|false =>
     rw[cond_false];cases ha:apl l 0 b with
     |inr p=>exact z|inl b' =>
       have hg:=ztF l 0 b b' hl (hR.going hb) ha;dsimp only;cases h2:zfo b' != 0 with
       |true=>exact z|false =>have h2:=zeo (b:=b') (by simpa using h2);have h3:=h2.n;have h4:=h2.m;exact ⟨hg.small,by show b'.components.length<=_;omega,by show b'.edges.length<=_;omega⟩
theorem L9{n:Nat}(hn:220<=n){b:Gt.Bill}(hb:SmB b){l:List Gt.BillChange}(hl:∀c∈l,SmK c):m9 (zah n) b l=some (true,()):=by
 obtain ⟨n,rfl⟩:∃k,n=k+220:=⟨n - 220,by omega⟩;have be:∀x:Int,(x==x)=true:=λx=>by simp
 obtain ⟨s1,s2,s3⟩:=zul hb hl;unfold m9
 rw[show @Eq (Option (Gt.Bill×Int×Int×Unit)) ((zah (n+220)).d 41 [.st 3 b,.sl (.st 4) l] [(.st 3),(.int .i64),(.int .i64)]) (some (zun b l)) from (q41 (n+219) b l).trans (L41 (by omega) hb hl),zaa,
  show @Eq (Option (Gt.Bill×Int×Int×Unit)) ((zah (n+220)).d 42 [.st 3 b,.sl (.st 4) l] [(.st 3),(.int .i64),(.int .i64)]) (some (zun b l)) from (q42 (n+219) b l).trans (L42 (by omega) hb hl),zaa]
 simp only[be,zac,zaa];rw[show @Eq (Option (Bool×Unit)) ((zah (n+220)).d 38 [.st 3 (zun b l).1,.st 3 (zun b l).1] [.bool]) (some (true,())) from (q38 (n+219) _ _).trans (L38 (by omega) s1 s2 s3),zaa,zaa,zac,L19c (by omega)];rfl
end Pe.Tryz
end
