/- PROVED HERE: a part of the seat's proofs; see the text that holds the claim's theorem. -/
import Derived.Test.YtdmdigejjdianaaGreatDoorNm
import Derived.MapKept
import Derived.Deep.Upon
import Derived.Laws.OwnMore
import Derived.Deep.AppendSrc
import Derived.Test.YtdmdigejjdianaaGreatDoorPeA
section
/- Quiet operations on maps, and on rows to which one zaT. -/
namespace Pe
open Go Go.RowKit
variable{S:Nat->Type}
theorem zkW{cs:Nat->List Value}{m:Nat}:∀(n k i:Nat),(∀j,k<=j->j<k+n->(cs j).length=m)->i<n->(((List.range' k n).flatMap cs).drop (i*m)).take m=cs (k+i)
 |0,_,_,_,h=>by omega
 |n+1,k,0,hl,_=>by have h0:=hl k (by omega) (by omega);simp only[yBa,yBN,yBw,yBC,yBk];rw[<-h0,yA5]
 |n+1,k,i+1,hl,h=>by have h0:=hl k (by omega) (by omega);simp only[yBa,yBN];rw[show (i+1)*m=(cs k).length+i*m by rw[h0,yAv,yAM,yBO],yBV,yA2 (yCd _ _),yAQ,yAZ];rw[zkW n (k+1) i (λj h1 h2=>hl j (by omega) (by omega)) (by omega)];rw[show k+1+i=k+(i+1) by omega]
theorem zjr{cs:Nat->List Value}{m n i:Nat}(hl:∀j,j<n->(cs j).length=m)(h:i<n):(((List.range n).flatMap cs).drop (i*m)).take m=cs i:=by have:=zkW (cs:=cs) (m:=m) n 0 i (λj _ h2=>hl j (by omega)) h;rw[yBq];simpa using this
section
variable{P:Program}{un:Uni S}{tb:Tb S}{orc:Orc S}{inl:Inl S}{E:Wl.Ctx}{N:Wl.Fr}{D:Dat}{H:List Wl.Res}{e:Env S}{bx:Bxs S}{a:Act}{w:World}{o:Oper}{R:Type}{K:PV S->Option R}{r:R}
theorem zl7{u:U}{T:TypeId}{l:List (El S u)}{v:Value}{T':TypeId}{size n:Nat}{xs:List Value}{nu:Nu}(hh:Wl.Res.holds E w (.wr v T' size n xs))(h:BoxRep un nu D w E false (.wr u T l) (.wr v T' size n xs)):RowAt un D w v u l:=by
 simp only[BoxRep] at h;obtain ⟨rfl,rfl,rfl,hx⟩:=h;obtain ⟨⟨hlen,hh⟩,_⟩:=hh;rcases hh with ⟨rfl,hn⟩|⟨g,cap,cur,rfl,hb,hg,hnc,hcm,hcs,htk⟩;·exact .inl ⟨rfl,yAL.1 hn⟩
 ·refine .inr ⟨g,cap,rfl,hnc,λi x hi=>⟨_,λj v hj=>?_,hx i x hi⟩⟩;have hil:i<l.length:=(yAc.1 hi).1;rw[yAw] at hj;split at hj
  ·rename_i hjs;rw[yAt] at hj;have h1:i*U.size un u+j<l.length*U.size un u:=by
    have h2:(i+1)*U.size un u<=l.length*U.size un u:=yAo _ hil;have h3:(i+1)*U.size un u=i*U.size un u+U.size un u:=(by rw[yAv,yAM]);omega
   rw[cell_of_row w g _ _ _ _ hg];subst htk;rw[yAr h1] at hj;simpa using hj
  ·cases hj
theorem zh0(hf:zkk un){u:U}{l:List (El S u)}{v:Value}{g:Option Nat}{size:Nat}{ob:Obj}(h1:Wl.fixOk v g size ob)(h2:∀g0,g=some g0->w.heap[g0]?=some ob)(h:DR un D w [.rw u] (sg (u:= .rw u) l) [Wl.fixV v size ob]):RowAt un D w v u l/\(∀A n c,v= .slice A n c->n=l.length/\size=U.size un u)/\∀m,v≠ .map m:=by
 generalize hv:Wl.fixV v size ob=val at h;cases h with
 |rw cs hc h =>
   cases h;have hc':∀i x,l[i]?=some x->DR un D w [u] (sg x) (cs i):=hc;change Wl.fixV v size ob=Wl.encV l.length (U.size un u) ((List.range l.length).flatMap cs) at hv;rcases h1 with ⟨g0,es,c,rfl,rfl,rfl⟩|⟨g0,n,cap,cur,T,fz,rfl,rfl,rfl,hnc,hcm,hcs,hfz⟩|⟨rfl,rfl⟩|⟨g0,T,pp,A0,n0,c0,rfl,rfl,rfl,_⟩;·simp[Wl.fixV,Wl.encM,Wl.encV] at hv
   ·simp only[Wl.fixV,Wl.encV,Value.func.injEq,Fn.func.injEq,yB3,yBp,Value.int.injEq,true_and,and_true] at hv;obtain ⟨rfl,hl,hs⟩:=hv;have hs:size=U.size un u:=by exact_mod_cast hs
    subst hs;have hlen:∀j,j<l.length->(cs j).length=U.size un u:=λj hj=>by rw[(hc' j _ (yAh hj)).length hf];simp[zcr]
    refine ⟨.inr ⟨g0,cap,rfl,hnc,λi x hi=>⟨cs i,λj y hj=>?_,hc' i x hi⟩⟩,λA n c he=>by cases he;exact ⟨rfl,rfl⟩,λm hm=>by cases hm⟩;have hil:i<l.length:=(yAc.1 hi).1;have hjl:j<U.size un u:=by rw[<-hlen i hil];exact (yAc.1 hj).1
    rw[<-zjr hlen hil,<-hl,yAr hjl,yAt] at hj;have h3:i*U.size un u+j<l.length*U.size un u:=by have h4:(i+1)*U.size un u<=l.length*U.size un u:=yAo _ hil;have h5:(i+1)*U.size un u=i*U.size un u+U.size un u:=(by rw[yAv,yAM]);omega
    rw[yAr h3] at hj;rw[cell_of_row w g0 _ _ _ _ (h2 g0 rfl)];simpa using hj
   ·simp only[Wl.fixV,Wl.encV,Value.func.injEq,Fn.func.injEq,yB3,yBp,Value.int.injEq,true_and,and_true] at hv;obtain ⟨h3,_,h4⟩:=hv;have h3:l=[]:=yAL.1 h3.symm;refine ⟨.inl ⟨rfl,h3⟩,λA n c he=>?_,λm hm=>by cases hm⟩;cases he;exact ⟨by rw[h3];rfl,by exact_mod_cast h4⟩
   ·simp[Wl.fixV,Wl.encV] at hv
theorem zdU{u:U}{x:El S u}{nu:Nu}{v:Value}(h:RepL un nu D w [.cont u x] [v]):DR un D w [u] (sg x) [v]:=by simp only[RepL,Rep] at h;exact h.1
theorem zh1(hun:UniOk un)(hs:St un E N D H e bx a w){p:PV S}{b:Nat}{u:U}{l:List (El S u)}{v:Value}(h:zl9 bx p=some (b,⟨u,l⟩))(hr:Rep un (ids H) D w p v):(∃fl,(ids H)[b]?=some (fl,v))/\RowAt un D w v u l:=by
 unfold zl9 at h;split at h
 ·rename_i b0;split at h
  ·rename_i u0 T l0 hb;cases h;cases hg:zae bx b with
   |none=>rw[hg] at hb;cases hb|some x =>
     rw[hg] at hb;simp only[yAf,yAe] at hb;obtain ⟨r,hr1,hr2⟩:=hs.boxes.get hg;obtain ⟨ro,hb2⟩:=hr2.base;rw[hb] at hb2;simp only[Rep] at hr;refine ⟨⟨_,hr.1⟩,?_⟩;have h1:=hr.1;simp only[ids,yAg,hr1,yAf,yAe] at h1;cases r<;>cases ro<;>simp only[BoxRep] at hb2
     rotate_left
     ·simp only[zaf] at h1;subst h1;exact hb2.2.1
     rename_i v0 T0 size n xs;simp[zaf] at h1;subst h1;exact zl7 (nu:=ids H) (hs.inn.res _ (yAb hr1)) (by simpa only[BoxRep] using hb2)
  ·cases h
 ·rename_i b0;split at h
  ·rename_i T u0 l0 hb;cases h;cases hg:zae bx b with
   |none=>rw[hg] at hb;cases hb|some x =>
     rw[hg] at hb;simp only[yAf,yAe] at hb;obtain ⟨r,hr1,hr2⟩:=hs.boxes.get hg;obtain ⟨ro,hb2⟩:=hr2.base;rw[hb] at hb2;simp only[Rep] at hr;refine ⟨⟨_,hr.1⟩,?_⟩;have h1:=hr.1;simp only[ids,yAg,hr1,yAf,yAe] at h1;cases r<;>cases ro<;>simp only[BoxRep] at hb2;·exfalso;rename_i g T0 cs;simp[zaf] at h1;subst h1;simp[zdE] at hr
     ·rename_i v0 g size ob;simp[zaf] at h1;subst h1;have hh:=hs.inn.res _ (yAb hr1);exact (zh0 hun.flat hh.1 (λg0 hg0=>(hh.2 g0 hg0).2) (zdU hb2)).1
     ·rename_i id;obtain ⟨vs,hse,hl⟩:=hb2;simp only[zaf] at h1;subst h1;cases hse with
      |box g T' vs h1 h2 h3=>simp[zdE] at hr|fix v g size ob T' h1 h2=>exact (zh0 hun.flat h1 (λg0 hg0=>(h2 g0 hg0).2.2) (zdU hl)).1
  ·cases h
 ·cases h
theorem zkv{nu:Nu}{u:U}{l:List (El S u)}{g n c:Nat}(h:Rep un nu D w (.sl u l) (.slice (some ⟨g,0,none⟩) n c)):RowAt un D w (.slice (some ⟨g,0,none⟩) n c) u l:=by
 simp only[Rep] at h;cases h with
 |sl0 A c h0 h =>have h0':l=[]:=h0;subst h0';exact .inr ⟨g,c,rfl,yAF _,λi x hi=>by simp at hi⟩
 |sl b off c cs hc h1 h2 h =>refine .inr ⟨g,c,rfl,hc,λi x hi=>⟨cs i,?_,h2 i x hi⟩⟩;have:=h1 i x hi;rw[yAH] at this;exact λj v hj=>(this j v hj).2
theorem zii(hun:UniOk un)(hs:St un E N D H e bx a w){b:Nat}{u:U}{l:List (El S u)}{v:Value}{fl:Bool}(h:zmT bx b u=some l)(hr:(ids H)[b]?=some (fl,v))(hv:∃g n c,v= .slice (some ⟨g,0,none⟩) n c):RowAt un D w v u l:=by
 unfold zmT at h;split at h
 ·rename_i u0 T l0 hb;split at h
  ·rename_i heq _;subst heq;cases h;cases hg:zae bx b with
   |none=>rw[hg] at hb;cases hb|some x =>
     rw[hg] at hb;simp only[yAf,yAe] at hb;obtain ⟨r,hr1,hr2⟩:=hs.boxes.get hg;obtain ⟨ro,hb2⟩:=hr2.base;rw[hb] at hb2;simp only[ids,yAg,hr1,yAf,yAe] at hr;cases r<;>cases ro<;>simp only[BoxRep] at hb2
     rotate_left
     ·simp only[zaf] at hr;subst hr;exact hb2.2.1
     rename_i v0 T0 size n xs;simp[zaf] at hr;obtain ⟨_,rfl⟩:=hr;exact zl7 (nu:=ids H) (hs.inn.res _ (yAb hr1)) (by simpa only[BoxRep] using hb2)
  ·cases h
 ·rename_i T u0 l0 hb;split at h
  ·rename_i heq _;subst heq;cases h;cases hg:zae bx b with
   |none=>rw[hg] at hb;cases hb|some x =>
     rw[hg] at hb;simp only[yAf,yAe] at hb;obtain ⟨r,hr1,hr2⟩:=hs.boxes.get hg;obtain ⟨ro,hb2⟩:=hr2.base;rw[hb] at hb2;simp only[ids,yAg,hr1,yAf,yAe] at hr;obtain ⟨A,n,c,rfl⟩:=hv;cases r<;>cases ro<;>simp only[BoxRep] at hb2;·exfalso;simp[zaf] at hr
     ·rename_i v0 g size ob;simp[zaf] at hr;obtain ⟨_,rfl⟩:=hr;have hh:=hs.inn.res _ (yAb hr1);exact (zh0 hun.flat hh.1 (λg0 hg0=>(hh.2 g0 hg0).2) (zdU hb2)).1
     ·rename_i id;obtain ⟨vs,hse,hl⟩:=hb2;simp only[zaf] at hr;subst hr;generalize hid:(fl,Value.slice (some ⟨A,0,none⟩) n c)=id at hse;cases hse with
      |box g T' vs h1 h2 h3=>cases hid|fix v g size ob T' h1 h2=>cases hid;exact (zh0 hun.flat h1 (λg0 hg0=>(h2 g0 hg0).2.2) (zdU hl)).1
  ·cases h
 ·rename_i u0 T l0 hb;split at h
  ·rename_i heq _;subst heq;cases h;cases hg:zae bx b with
   |none=>rw[hg] at hb;cases hb|some x =>
     rw[hg] at hb;simp only[yAf,yAe] at hb;obtain ⟨r,hr1,hr2⟩:=hs.boxes.get hg;obtain ⟨ro,hb2⟩:=hr2.base;rw[hb] at hb2;simp only[ids,yAg,hr1,yAf,yAe] at hr;obtain ⟨g,n,c,rfl⟩:=hv;cases r<;>cases ro<;>simp only[BoxRep] at hb2;·rename_i v0 T0 size n0 xs;simp[zaf] at hr;obtain ⟨_,rfl⟩:=hr;exact zkv (zfv (nu:=ids H) hun.flat (hs.inn.res _ (yAb hr1)) (by simpa only[BoxRep] using hb2))
     ·rename_i id;simp only[zaf] at hr;subst hr;exact zkv (nu:=ids H) hb2.2
  ·cases h
 ·cases h
theorem zjI{nu:Nu}{u:U}{x:El S u}{cs:List Value}(h:DR un D w [u] (sg x) cs):Rep un nu D w (inj u x) (zbh u cs):=by
 cases u with
 |st n=>simp only[inj,Rep,zbh];exact ⟨cs,rfl,h⟩|int k=>cases h with|int h=>cases h;simp only[inj,Rep,zbh];rfl
 |bool=>cases h with|bool h=>cases h;simp only[inj,Rep,zbh];rfl
 |str=>cases h with|str h=>cases h;simp only[inj,Rep,zbh];rfl
 |sl u =>
   cases h with
   |sl0 A c h0 h=>cases h;simp only[inj,Rep,zbh];exact .sl0 A c h0 .nil|sl b off c cs hc h1 h2 h=>cases h;simp only[inj,Rep,zbh];exact .sl b off c cs hc h1 h2 .nil
 |mp k v=>cases h with|mp kc vc h1 h2 h=>cases h;simp only[inj,Rep,zbh];exact .mp kc vc h1 h2 .nil
 |rw u=>cases h with|rw cs h1 h=>cases h;simp only[inj,Rep,zbh];exact .rw cs h1 .nil
 |fm k v=>cases h with|fm b es c l' kc vc hD hg hs hp hn hl hk h1 h2 h=>cases h;simp only[inj,Rep,zbh];exact .fm b es c l' kc vc hD hg hs hp hn hl hk h1 h2 .nil
 |cs u =>
   cases h with
   |cs0 A h0 h=>cases h;simp only[inj,Rep,zbh];exact .cs0 A h0 .nil|cs b off cs h1 h2 h=>cases h;simp only[inj,Rep,zbh];exact .cs b off cs h1 h2 .nil
def ValsRep(un:Uni S)(D:Dat)(w:World)(v:U):List (El S v)->List MapEntry->Prop|[],[]=>True|y::l,e::es=>Rep un [] D w (inj v y) e.val/\ValsRep un D w v l es|_,_=>False
theorem zhJ:∀{es:List MapEntry}{n k:Nat}{f g:Nat->Value},(List.range' k n).flatMap (λi=>[f i,g i])=es.flatMap (λe=>[e.key,e.val])->es.length=n/\∀i e,es[i]?=some e->e.key=f (k+i)/\e.val=g (k+i)
 |[],0,_,_,_,_=>⟨rfl,λi e h=>by simp at h⟩|e::es,n+1,k,f,g,h=>by
   simp only[yBa,yBN,yAN,yAZ,yBp] at h;obtain ⟨h1,h2,h3⟩:=h;obtain ⟨g1,g2⟩:=zhJ h3;refine ⟨by simp[g1],λi e' hi=>?_⟩;cases i with
   |zero=>simp at hi;subst hi;exact ⟨h1.symm,h2.symm⟩|succ i=>have:=g2 i e' (by simpa using hi);rwa[show k+1+i=k+(i+1) by omega] at this
 |[],n+1,k,_,_,h=>by simp[yBa] at h
 |e::es,0,k,_,_,h=>by simp at h
theorem zfC{k:U}{f:Nat->List Value}:∀{l:List (El S k)}{es:List MapEntry}(m:Nat),es.length=l.length->(∀i x,l[i]?=some x->DR un D w [k] (sg x) (f (m+i)))->(∀i e,es[i]?=some e->e.key=zbh k (f (m+i)))->KeysRep un D w k l es
 |[],[],_,_,_,_=>trivial|x::l,e::es,m,hl,h1,h2=>by
   refine ⟨by rw[h2 0 e rfl];exact zjI (h1 0 x rfl),zfC (f:=f) (m+1) (by simpa using hl) (λi y hi=>?_) λi y hi=>?_⟩;·have:=h1 (i+1) y (by simpa using hi);rwa[show m+(i+1)=m+1+i by omega] at this
   ·have:=h2 (i+1) y (by simpa using hi);rwa[show m+(i+1)=m+1+i by omega] at this
 |[],_::_,_,hl,_,_=>by simp at hl
 |_::_,[],_,hl,_,_=>by simp at hl
theorem zfk{k:U}{f:Nat->List Value}:∀{l:List (El S k)}{es:List MapEntry}(m:Nat),es.length=l.length->(∀i x,l[i]?=some x->DR un D w [k] (sg x) (f (m+i)))->(∀i e,es[i]?=some e->e.val=zbh k (f (m+i)))->ValsRep un D w k l es
 |[],[],_,_,_,_=>trivial|x::l,e::es,m,hl,h1,h2=>by
   refine ⟨by rw[h2 0 e rfl];exact zjI (h1 0 x rfl),zfk (f:=f) (m+1) (by simpa using hl) (λi y hi=>?_) λi y hi=>?_⟩;·have:=h1 (i+1) y (by simpa using hi);rwa[show m+(i+1)=m+1+i by omega] at this
   ·have:=h2 (i+1) y (by simpa using hi);rwa[show m+(i+1)=m+1+i by omega] at this
 |[],_::_,_,hl,_,_=>by simp at hl
 |_::_,[],_,hl,_,_=>by simp at hl
theorem KeysRep.length{k:U}:∀{l:List (El S k)}{es:List MapEntry},KeysRep un D w k l es->l.length=es.length
 |[],[],_=>rfl|_::_,_::_,h=>by simp[h.2.length]
 |[],_::_,h=>h.elim|_::_,[],h=>h.elim
theorem zgj{k v:U}{l:List (El S k×El S v)}{val:Value}{g:Option Nat}{size:Nat}{ob:Obj}(h1:Wl.fixOk val g size ob)(h:DR un D w [.mp k v] (sg (u:= .mp k v) l) [Wl.fixV val size ob]) :
  ∃g0 es c,val= .map (some g0)/\g=some g0/\ob= .map es c/\KeysRep un D w k (l.map (·.1)) es.toList/\ValsRep un D w v (l.map (·.2)) es.toList:=by
 generalize hv:Wl.fixV val size ob=x at h;cases h with
 |mp kc vc hk hw h =>
   cases h;have hk':∀(i:Nat) x,l[i]?=some x->DR un D w [k] (sg x.1) (kc i):=hk;have hw':∀(i:Nat) x,l[i]?=some x->DR un D w [v] (sg x.2) (vc i):=hw;change Wl.fixV val size ob=Wl.encM ((List.range l.length).flatMap λi=>[zbh k (kc i),zbh v (vc i)]) at hv;rcases h1 with ⟨g0,es,c,rfl,rfl,rfl⟩|⟨g0,n,cap,cur,T,fz,rfl,rfl,rfl,hnc,hcm,hcs,hfz⟩|⟨rfl,rfl⟩|⟨g0,T,pp,A0,n0,c0,rfl,rfl,rfl,_⟩
   ·simp only[Wl.fixV,Wl.encM,Value.func.injEq,yB3,true_and,and_true] at hv;rw[yBq] at hv;obtain ⟨e1,e2⟩:=zhJ hv.symm;refine ⟨g0,es,c,rfl,rfl,rfl,zfC (f:=kc) 0 (by simpa using e1) (λi x hi=>?_) (λi e he=>?_),zfk (f:=vc) 0 (by simpa using e1) (λi x hi=>?_) λi e he=>?_⟩
    ·rw[yAg] at hi;cases hl:l[i]? with
     |none=>rw[hl] at hi;cases hi|some y=>rw[hl] at hi;cases hi;rw[yAH];exact hk' i y hl
    ·exact (e2 i e he).1
    ·rw[yAg] at hi;cases hl:l[i]? with
     |none=>rw[hl] at hi;cases hi|some y=>rw[hl] at hi;cases hi;rw[yAH];exact hw' i y hl
    ·exact (e2 i e he).2
   ·simp[Wl.fixV,Wl.encM,Wl.encV] at hv
   ·simp[Wl.fixV,Wl.encM,Wl.encV] at hv
   ·simp[Wl.fixV,Wl.encM] at hv
theorem zoo{u:U}{x y:El S u}(h:eq1 u x y=true):x=y:=by
 cases u with
 |int k=>exact eq_of_beq (α:=Int) h|bool=>exact eq_of_beq (α:=Bool) h|str=>exact eq_of_beq (α:=List UInt8) h|_=>cases h
theorem zk3{u:U}(x y:El S u):eq1 u x y=eq1 u y x:=by
 cases u with
 |int k=>exact Bool.beq_comm (α:=Int)|bool=>exact Bool.beq_comm (α:=Bool)|str=>exact Bool.beq_comm (α:=List UInt8)|_=>rfl
theorem zon:∀{us:List U}{x y:ElL S us},eqC us x y=true->x=y|[],_,_,_=>rfl|u::us,x,y,h=>by simp only[eqC,yAd] at h;exact Prod.ext (zoo h.1) (zon h.2)
theorem zk2:∀{us:List U}(x y:ElL S us),eqC us x y=eqC us y x|[],_,_=>rfl|u::us,x,y=>by simp only[eqC];rw[zk3 x.1,zk2 x.2]
theorem ze4{u:U}(x y:El S u):keq un u x y=keq un u y x:=by
 cases u with
 |st n=>exact zk2 _ _|_=>exact zk3 x y
theorem zje{u:U}{x y:El S u}(h:keq un u x y=true)(z:El S u):keq un u z x=keq un u z y:=by
 cases u with
 |st n=>unfold keq at h ⊢;simp only at h ⊢;rw[zon h]|_=>have:x=y:=zoo h;rw[this]
def Uniq{K V:Type}(p:K->Bool)(l:List (K×V)):Prop:=∀a∈l,∀b∈l,p a.1=true->p b.1=true->a=b
theorem Keys1.uniq{k:U}{V:Type}{l:List (El S k×V)}(h:Keys1 un k l)(x:El S k):Uniq (keq un k x) l:=by
 intro a ha b hb h1 h2;obtain ⟨i,hi,rfl⟩:=List.mem_iff_getElem.1 ha;obtain ⟨j,hj,rfl⟩:=List.mem_iff_getElem.1 hb;have key:∀(i j:Nat)(hi:i<l.length)(hj:j<l.length),i<j->keq un k x l[i].1=true->keq un k x l[j].1=true->False:=by intro i j hi hj hij h1 h2;have:=(yAI.1 h) i j hi hj hij;rw[ze4,<-zje (un:=un) h1,ze4,h2] at this;cases this
 rcases yB7 i j with hij|rfl|hij;·exact (key i j hi hj hij h1 h2).elim
 ·rfl
 ·exact (key j i hj hi hij h2 h1).elim
theorem zmr{K V:Type}{eq:K->K->Bool}{x:K}{z:V}{l' l:List (K×V)}(h:l'.Perm l):Uniq (eq x) l'->zlC eq x z l'=zlC eq x z l/\zi4 eq x l'=zi4 eq x l:=by
 induction h with
 |nil=>intro _;exact ⟨rfl,rfl⟩
 |cons a _ ih =>intro hu;obtain ⟨h1,h2⟩:=ih λa ha b hb=>hu a (by simp[ha]) b (by simp[hb]);simp only[zlC,zi4];rw[h1,h2];exact ⟨rfl,rfl⟩
 |swap a b l =>intro hu;simp only[zlC,zi4];cases ha:eq x a.1<;>cases hb:eq x b.1<;>simp;rw[hu a (by simp) b (by simp) ha hb]
 |trans h1 _ ih1 ih2 =>intro hu;obtain ⟨g1,g2⟩:=ih1 hu;obtain ⟨g3,g4⟩:=ih2 λa ha b hb=>hu a (h1.mem_iff.2 ha) b (h1.mem_iff.2 hb);exact ⟨g1.trans g3,g2.trans g4⟩
def zf5(u:U)(v:Value):List Value:=match u,v with
 | .st _,.agg cs=>cs.toList|_,v=>[v]
theorem zbM{nu:Nu}{u:U}{x:El S u}{v:Value}(h:Rep un nu D w (inj u x) v):DR un D w [u] (sg x) (zf5 u v)/\v=zbh u (zf5 u v):=by
 cases u with
 |st n=>simp only[inj,Rep] at h;obtain ⟨cs,rfl,h⟩:=h;exact ⟨h,rfl⟩
 |int k=>simp only[inj,Rep] at h;subst h;exact ⟨.int .nil,rfl⟩|bool=>simp only[inj,Rep] at h;subst h;exact ⟨.bool .nil,rfl⟩|str=>simp only[inj,Rep] at h;subst h;exact ⟨.str .nil,rfl⟩|sl u=>simp only[inj,Rep] at h;exact ⟨h,rfl⟩|mp k v=>simp only[inj,Rep] at h;exact ⟨h,rfl⟩|rw u=>simp only[inj,Rep] at h;exact ⟨h,rfl⟩|fm k v=>simp only[inj,Rep] at h;exact ⟨h,rfl⟩|cs u=>simp only[inj,Rep] at h;exact ⟨h,rfl⟩
theorem zcb{k:U}:∀{l:List (El S k)}{es:List MapEntry},KeysRep un D w k l es->∀(i:Nat) x e,l[i]?=some x->es[i]?=some e->Rep un [] D w (inj k x) e.key
 |[],[],_,i,x,e,h,_=>by simp at h
 |y::l,f::es,hr,0,x,e,h,he=>by simp at h he;subst h;subst he;exact hr.1
 |y::l,f::es,hr,i+1,x,e,h,he=>zcb hr.2 i x e (by simpa using h) (by simpa using he)|[],_::_,hr,_,_,_,_,_=>hr.elim|_::_,[],hr,_,_,_,_,_=>hr.elim
theorem zb3{k:U}:∀{l:List (El S k)}{es:List MapEntry},ValsRep un D w k l es->∀(i:Nat) x e,l[i]?=some x->es[i]?=some e->Rep un [] D w (inj k x) e.val
 |[],[],_,i,x,e,h,_=>by simp at h
 |y::l,f::es,hr,0,x,e,h,he=>by simp at h he;subst h;subst he;exact hr.1
 |y::l,f::es,hr,i+1,x,e,h,he=>zb3 hr.2 i x e (by simpa using h) (by simpa using he)|[],_::_,hr,_,_,_,_,_=>hr.elim|_::_,[],hr,_,_,_,_,_=>hr.elim
theorem fm_of{k v:U}{l l':List (El S k×El S v)}{g:Nat}{es:Array MapEntry}{c:Nat}(hD:D g 0)(hg:w.heap[g]?=some (.map es c))(hs:Wl.stampOk es c)(hp:l'.Perm l)(hn:Keys1 un k l')(h1:KeysRep un D w k (l'.map (·.1)) es.toList)(h2:ValsRep un D w v (l'.map (·.2)) es.toList) :
  DR un D w [.fm k v] (sg (u:= .fm k v) l) [.map (some g)]:=by
 have hlen:es.toList.length=l'.length:=by have:=h1.length;simpa using this.symm
 have hget:∀(i:Nat),i<l'.length->∃e,es.toList[i]?=some e:=λi hi=>⟨_,yAh (by omega)⟩;refine .fm g es c l' (λi=>zf5 k ((es.toList.map (·.key)).getD i undef)) (λi=>zf5 v ((es.toList.map (·.val)).getD i undef)) hD hg hs hp hn hlen (λi e hi=>?_) (λi x hx=>?_) (λi x hx=>?_) .nil
 ·obtain ⟨x,hx⟩:∃x,l'[i]?=some x:=⟨_,yAh (by have:=(yAc.1 hi).1;omega)⟩;have e1:(es.toList.map (·.key)).getD i undef=e.key:=by rw[yAE,yAg,hi];rfl
  have e2:(es.toList.map (·.val)).getD i undef=e.val:=by rw[yAE,yAg,hi];rfl
  simp only[e1,e2];exact ⟨(zbM (zcb h1 i x.1 e (by simp[hx]) hi)).2,(zbM (zb3 h2 i x.2 e (by simp[hx]) hi)).2⟩
 ·obtain ⟨e,he⟩:=hget i (yAc.1 hx).1;have e1:(es.toList.map (·.key)).getD i undef=e.key:=by rw[yAE,yAg,he];rfl
  simp only[e1];exact (zbM (zcb h1 i x.1 e (by simp[hx]) he)).1
 ·obtain ⟨e,he⟩:=hget i (yAc.1 hx).1;have e1:(es.toList.map (·.val)).getD i undef=e.val:=by rw[yAE,yAg,he];rfl
  simp only[e1];exact (zbM (zb3 h2 i x.2 e (by simp[hx]) he)).1
theorem KeysRep.mono{D D':Dat}{w w':World}{k:U}(hg:Ge D w D' w'):∀{l:List (El S k)}{es:List MapEntry},KeysRep un D w k l es->KeysRep un D' w' k l es|[],[],_=>trivial|_::_,_::_,h=>⟨h.1.ge hg λ_ _ h=>h,KeysRep.mono hg h.2⟩|[],_::_,h=>h.elim|_::_,[],h=>h.elim
theorem ValsRep.mono{D D':Dat}{w w':World}{k:U}(hg:Ge D w D' w'):∀{l:List (El S k)}{es:List MapEntry},ValsRep un D w k l es->ValsRep un D' w' k l es|[],[],_=>trivial|_::_,_::_,h=>⟨h.1.ge hg λ_ _ h=>h,ValsRep.mono hg h.2⟩|[],_::_,h=>h.elim|_::_,[],h=>h.elim
theorem zmQ{k v:U}{l:List (El S k×El S v)}{val:Value}(h:DR un D w [.fm k v] (sg (u:= .fm k v) l) [val]) :
  ∃g0 es c l',val= .map (some g0)/\D g0 0/\w.heap[g0]?=some (.map es c)/\Wl.stampOk es c/\l'.Perm l/\Keys1 un k l'/\KeysRep un D w k (l'.map (·.1)) es.toList/\ValsRep un D w v (l'.map (·.2)) es.toList:=by
 cases h with
 |fm g es c l' kc vc hD hg hs hp hn hl hk h1 h2 h =>
   refine ⟨g,es,c,l',rfl,hD,hg,hs,hp,hn,zfC (f:=kc) 0 (by simpa using hl) (λi x hi=>?_) (λi e he=>by rw[yAH];exact (hk i e he).1),zfk (f:=vc) 0 (by simpa using hl) (λi x hi=>?_) λi e he=>by rw[yAH];exact (hk i e he).2⟩
   ·rw[yAg] at hi;cases hl:l'[i]? with
    |none=>rw[hl] at hi;cases hi|some y=>rw[hl] at hi;cases hi;rw[yAH];exact h1 i y hl
   ·rw[yAg] at hi;cases hl:l'[i]? with
    |none=>rw[hl] at hi;cases hi|some y=>rw[hl] at hi;cases hi;rw[yAH];exact h2 i y hl
theorem zih{k v:U}{l:List (El S k×El S v)}{es:Array MapEntry}(h:DR un D w [.mp k v] (sg (u:= .mp k v) l) [Wl.encM (es.toList.flatMap λe=>[e.key,e.val])]):KeysRep un D w k (l.map (·.1)) es.toList/\ValsRep un D w v (l.map (·.2)) es.toList:=by obtain ⟨g0,es',c,e1,e2,e3,e4,e5⟩:=zgj (val:= .map (some 0)) (g:=some 0) (size:=0) (ob:= .map es 0) (.inl ⟨0,es,0,rfl,rfl,rfl⟩) h;cases e3;exact ⟨e4,e5⟩
theorem zkH(hs:St un E N D H e bx a w){p:PV S}{k v:U}{l:List (El S k×El S v)}{val:Value}(h:znO bx k v p=some l)(hr:Rep un (ids H) D w p val) :
  ∃g0 es c l',val= .map (some g0)/\w.heap[g0]?=some (.map es c)/\l'.Perm l/\(l'=l\/Keys1 un k l')/\KeysRep un D w k (l'.map (·.1)) es.toList/\ValsRep un D w v (l'.map (·.2)) es.toList:=by
 have fin:∀{l:List (El S k×El S v)},DR un D w [.fm k v] (sg (u:= .fm k v) l) [val]->∃g0 es c l',val= .map (some g0)/\w.heap[g0]?=some (.map es c)/\l'.Perm l/\(l'=l\/Keys1 un k l')/\KeysRep un D w k (l'.map (·.1)) es.toList/\ValsRep un D w v (l'.map (·.2)) es.toList:=by intro l h;obtain ⟨g0,es,c,l',e1,e2,e3,e4,e5,e6,e7,e8⟩:=zmQ h;exact ⟨g0,es,c,l',e1,e3,e5,.inr e6,e7,e8⟩
 unfold znO at h;split at h
 ·rename_i b;split at h
  ·rename_i T u0 l0 hb;split at h
   ·rename_i heq _;subst heq;cases h;cases hg:zae bx b with
    |none=>rw[hg] at hb;cases hb|some x =>
      rw[hg] at hb;simp only[yAf,yAe] at hb;obtain ⟨r,hr1,hr2⟩:=hs.boxes.get hg;obtain ⟨ro,hb2⟩:=hr2.base;rw[hb] at hb2;simp only[Rep] at hr;have h1:=hr.1;simp only[ids,yAg,hr1,yAf,yAe] at h1;cases r<;>cases ro<;>simp only[BoxRep] at hb2;·exfalso;simp[zaf] at h1;subst h1;simp[zdE] at hr
      ·rename_i v0 g size ob;simp[zaf] at h1;subst h1;have hh:=hs.inn.res _ (yAb hr1);obtain ⟨g0,es,c,e1,e2,e3,e4,e5⟩:=zgj hh.1 (zdU hb2);subst e3;exact ⟨g0,es,c,_,e1,(hh.2 g0 e2).2,.refl _,.inl rfl,e4,e5⟩
      ·rename_i id;obtain ⟨vs,hse,hl⟩:=hb2;simp only[zaf] at h1;subst h1;cases hse with
       |box g T' vs h1 h2 h3=>simp[zdE] at hr|fix v0 g size ob T' h1 h2 =>obtain ⟨g0,es,c,e1,e2,e3,e4,e5⟩:=zgj h1 (zdU hl);subst e3;exact ⟨g0,es,c,_,e1,(h2 g0 e2).2.2,.refl _,.inl rfl,e4,e5⟩
   ·cases h
  ·rename_i k0 v0 l0 hb;split at h
   ·rename_i heq _;cases heq;cases h;cases hg:zae bx b with
    |none=>rw[hg] at hb;cases hb|some x =>rw[hg] at hb;simp only[yAf,yAe] at hb;obtain ⟨r,hr1,hr2⟩:=hs.boxes.get hg;obtain ⟨ro,hb2⟩:=hr2.base;rw[hb] at hb2;simp only[Rep] at hr;have h1:=hr.1;simp only[ids,yAg,hr1,yAf,yAe] at h1;cases r<;>cases ro<;>simp only[BoxRep] at hb2;rename_i g es c;obtain ⟨l',g1,g2,g3⟩:=hb2;simp[zaf] at h1;subst h1;obtain ⟨e4,e5⟩:=zih g3;exact ⟨g,es,c,l',rfl,(hs.inn.res _ (yAb hr1)).2.1,g1,.inr g2,e4,e5⟩
   ·cases h
  ·rename_i k0 v0 l0 hb;split at h
   ·rename_i heq _;cases heq;cases h;cases hg:zae bx b with
    |none=>rw[hg] at hb;cases hb|some x =>
      rw[hg] at hb;simp only[yAf,yAe] at hb;obtain ⟨r,hr1,hr2⟩:=hs.boxes.get hg;obtain ⟨ro,hb2⟩:=hr2.base;rw[hb] at hb2;simp only[Rep] at hr;have h1:=hr.1;simp only[ids,yAg,hr1,yAf,yAe] at h1;cases r<;>cases ro<;>simp only[BoxRep] at hb2
      all_goals
       simp only[zaf] at h1;subst h1;exact fin hb2.2
   ·cases h
  ·cases h
 ·split at h;·rename_i heq _;subst heq;cases h;simp only[Rep] at hr;exact fin hr
  ·cases h
 ·cases h
theorem zjs{k v:U}{x:El S k}{z:El S v}:∀{l:List (El S k×El S v)}{es:List MapEntry}(i:Nat),ValsRep un D w v (l.map (·.2)) es->l.length=es.length ->
  (zek ((l.map (·.1)).map (keq un k x)) es i=none/\zi4 (keq un k) x l=false/\zlC (keq un k) x z l=z)\/∃j y,zek ((l.map (·.1)).map (keq un k x)) es i=some (j,y)/\zi4 (keq un k) x l=true/\Rep un [] D w (inj v (zlC (keq un k) x z l)) y
 |[],[],i,_,_=>.inl ⟨rfl,rfl,rfl⟩|(k0,v0)::l,e::es,i,h,hl=>by
   simp only[yAk,ValsRep] at h;simp only[yAk,zi4,zlC];cases hk:keq un k x k0 with
   |true=>exact .inr ⟨i,e.val,rfl,rfl,h.1⟩|false=>simpa only[zek,cond_false] using zjs (i+1) h.2 (by simpa using hl)
 |[],_::_,_,_,hl=>by simp at hl
 |_::_,[],_,_,hl=>by simp at hl
theorem zeJ(hun:UniOk un)(ht:TbOk P un tb){t:TypeId}{u:U}{z:El S u}(h:zdN un tb t u=some z):∃v,(zeroValue t).run P w= .ok v w/\Rep un [] D w (inj u z) v:=by
 unfold zdN at h;split at h
 ·rename_i r hr;have hrow:=ht.ty t r hr;obtain ⟨v,g1,g2,g3⟩:=hrow.zero;have hrun:(zeroValue t).run P w= .ok v w:=by
   cases hi:P.info? t with
   |none=>rw[hi] at g1;cases g1|some i =>rw[hi] at g1;simp only[yAx] at g1;simp[zeroValue,typeInfo,hi,g1]
  refine ⟨v,hrun,?_⟩;obtain ⟨za,zb⟩:=hrow.zagg v g1;split at h;·rename_i n;obtain ⟨h1,h2⟩:=zac h;obtain ⟨cs,rfl⟩:=za h1;refine (zbm (nu:=[]) (D:=D) (w:=w) hun h2 ?_).2;simp only[Rep];refine ⟨cs.toList,by simp,?_⟩;rw[g3];exact zd9 _
  ·cases ha:r.agg with
   |true=>rw[ha] at h;cases h|false =>rw[ha] at h;simp only[cond_false] at h;have hc:=zb ha;rw[hc] at g3;simp at g3;rw[g3] at h;simp only at h;exact (zff (un:=un) (nu:=[]) (D:=D) (w:=w) h (zgy v)).2.2
 ·cases h
theorem zgP{α:Type}{l:List α}{n:Int}{k:Nat}(h:zdF l n=some k):n=k/\k<l.length:=by
 unfold zdF at h;split at h;·obtain ⟨h1,h2⟩:=zac h;cases h2;exact ⟨rfl,by simpa[yAV] using h1⟩
 ·cases h
theorem zgw{u:U}{l:List (El S u)}{v:Value}(h:RowAt un D w v u l){i:Nat}{x:El S u}(hi:l[i]?=some x):∃g cap cs,v= .slice (some ⟨g,0,none⟩) l.length cap/\w.rangeAt g (i*U.size un u) cs/\DR un D w [u] (sg x) cs:=by
 rcases h with ⟨_,rfl⟩|⟨g,cap,rfl,hc,h⟩;·simp at hi
 ·obtain ⟨cs,h1,h2⟩:=h i x hi;exact ⟨g,cap,cs,rfl,h1,h2⟩
theorem zkU(l:List Int)(i:Nat)(h:i<l.length):l.getD i 0=l[i]:=by rw[yAE,yAh h];rfl
theorem zgN(ht:TbOk P un tb){T:TypeId}(h:zo7 tb T=true):P.underlying T=some (.int .u8):=by
 unfold zo7 at h;split at h
 ·rename_i hc;cases hr:tb.ty.get T with
  |none=>rw[hr] at hc;cases hc|some r=>rw[hr] at hc;exact (ht.ty T r hr).int _ hc
 ·cases h
theorem znS(hun:UniOk un)(ht:TbOk P un tb){t:TypeId}{u:U}{y:El S u}{off g p:Nat}{cs:List Value}{q:PV S}{nu:Nu}(hl:load un tb t (.elp u y off) bx=some q)(hd:w.rangeAt g p cs)(hx:DR un D w [u] (sg y) cs) :
  ∃v,(Instr.loadAt t (.pointer (some ⟨g,p+off,none⟩))).run P w= .ok v w/\Rep un nu D w q v:=by
 unfold load at hl;split at hl;·cases hl
 ·rename_i r hrow;have hrow:=ht.ty t r hrow;dsimp only at hl;have hor:=zb5 (nu:=nu) hun.flat hx;split at hl
  ·rename_i m y m' hcode;cases hbb:(Nat.beq m m'&&r.agg&&Nat.beq r.n (un.codes m).length) with
   |false=>rw[hbb] at hl;exact zdg (off:=0) hrow hd hor hl|true =>
     rw[hbb] at hl;cases hl;simp only[yAd] at hbb;obtain ⟨d,hd1,hd2⟩:=hrow.agg hbb.1.2;refine ⟨_,run_loadAt_mid (P:=P) w g p t cs d hd hd1 (by cases d<;>simp_all [znb]) ?_,?_⟩;·rw[hrow.size,yAa hbb.2,hx.length hun.flat];simp[zcr,U.size]
     ·simp only[Rep];exact ⟨cs,rfl,hx⟩
  ·exact zdg hrow hd hor hl
theorem zpy:∀{l:List (El S (.int .u8))}{v:Value},RowAt un D w v (.int .u8) l->(v= .slice none 0 0/\l=[])\/∃g cap,v= .slice (some ⟨g,0,none⟩) l.length cap/\∀i,i<l.length->w.cell? ⟨g,i,none⟩=some (.int .u8 (List.getD (α:=Int) l i 0)):=by
 intro l v h;rcases h with h|⟨g,cap,rfl,hc,h⟩;·exact .inl h
 ·refine .inr ⟨g,cap,rfl,λi hi=>?_⟩;obtain ⟨cs,h1,h2⟩:=h i _ (yAh hi);cases h2 with
  |int h2 =>cases h2;have:=h1 0 _ rfl;simp only[U.size,yA7,yBk] at this;rw[this];exact congrArg (λz=>some (Value.int .u8 z)) (zkU l i hi).symm
theorem zdl{s d T:TypeId}{l:List Int}{v:Value}(hs:P.underlying s=some (.slice T))(hT:P.underlying T=some (.int .u8))(hd:P.underlying d=some .string)
  (h:(∃A c,v= .slice A 0 c/\l=[])\/∃g off cap,v= .slice (some ⟨g,off,none⟩) l.length cap/\∀i,i<l.length->w.cell? ⟨g,off+i,none⟩=some (.int .u8 (l.getD i 0))):(convert s d v).run P w= .ok (.string ⟨(zdH l).toArray⟩) w:=by
 rcases h with ⟨A,c,rfl,rfl⟩|⟨g,off,cap,rfl,h⟩
 ·cases A with
  |none=>rw[run_convert_bytes_nil w s T hs hT 0 c d hd];rfl|some ad=>rw[run_convert_bytes_string w s d T _ _ _ hs hT hd];simp[Conv.bytesToString,loadCells,loadCellsFrom,zdH];rfl
 ·rw[run_convert_bytes_arg w s T hs hT g off l.length cap l rfl h d hd];congr 2
theorem znd{nu:Nu}{l:List (El S (.int .u8))}{v:Value}(h:Rep un nu D w (.sl (.int .u8) l) v):(∃A c,v= .slice A 0 c/\l=[])\/∃g off cap,v= .slice (some ⟨g,off,none⟩) (List.length l) cap/\∀i,i<l.length->w.cell? ⟨g,off+i,none⟩=some (.int .u8 (List.getD (α:=Int) l i 0)):=by
 simp only[Rep] at h;cases h with
 |sl0 A c h0 h =>have h0':l=[]:=h0;exact .inl ⟨A,c,rfl,h0'⟩
 |sl b off c cs hc h1 h2 h =>
   refine .inr ⟨b,off,c,rfl,λi hi=>?_⟩;have hi':i<(eL (hd (sg (u:= .sl (.int .u8)) l))).length:=hi;have a1:=h1 i _ (yAh hi');have a2:=h2 i _ (yAh hi');generalize cs i=cc at a1 a2;cases a2 with
   |int a2 =>cases a2;have:=(a1 0 _ rfl).2;simp only[U.size,yA7,yBk] at this;rw[this];exact congrArg (λz=>some (Value.int .u8 z)) (zkU l i hi).symm
theorem zaJ{p:PV S}(h:∀E N D H a w,St un E N D H e bx a w->∃v,(execOp a.eval o).run P w= .ok (.value v) w/\Rep un (ids H) D w p v):Gives P un o e bx p :=
 λE N D H a w hs=>.inl (h E N D H a w hs)
theorem zjW(hun:UniOk un)(ht:TbOk P un tb)(hor:SoundO P un orc)(hin:SoundI P un inl)(h:zeS un tb orc inl o e bx K=some r):∃p,K p=some r/\Gives P un o e bx p:=by
 have old:zeh un tb orc inl o e bx K=some r->∃p,K p=some r/\Gives P un o e bx p:=zjY hun ht hor hin;unfold zeS at h;split at h
 ·-- indexAddr
  rename_i t x i ho;split at h
  ·rename_i b u l hrow;cases hx:ev e x with
   |none=>rw[hx] at hrow;cases hrow|some p =>
     rw[hx] at hrow;simp only[yAx] at hrow;split at h
     ·rename_i k n row hi hty;obtain ⟨h1,h2⟩:=zac h;simp only[yAd] at h1;obtain ⟨j,h3,h4⟩:=zas h2;obtain ⟨rfl,hj⟩:=zgP h3;refine ⟨_,h4,zaJ λE N D H a w hs=>?_⟩;obtain ⟨⟨fl,hid⟩,hra⟩:=zh1 hun hs hrow (hs.ev hx);obtain ⟨g,cap,cs,hv,h5,h6⟩:=zgw hra (yAh hj);have hiv:=hs.ev hi;simp only[Rep] at hiv;obtain ⟨T,u',e1,e2,e3⟩:=(ht.ty t row hty).slice (yAa h1.1);have hu:=zcI h1.2;rw[e1] at hu;simp at hu;subst hu;refine ⟨.pointer (some ⟨g,0+j*U.size un u',none⟩),?_,?_⟩;·simp only[execOp,ho,hv,hiv];simp[zbQ (un:=un) (k:=k) (off:=0) (b:=g) (c:=cap) e2 e3 hj w]
      ·simp only[Rep];rw[hv] at hid;exact ⟨fl,g,_,_,hid,by simp⟩
     ·cases h
  ·exact old h
 ·-- fieldAddr
  rename_i s x f ho;split at h
  ·rename_i b u i off hx;split at h
   ·rename_i row hrow;obtain ⟨h1,h2⟩:=zac h;split at h2;·rename_i d sz hf;refine ⟨_,h2,zaJ λE N D H a w hs=>?_⟩;have hv:=hs.ev hx;simp only[Rep] at hv;obtain ⟨fl,g,n,c,g1,g2⟩:=hv;have hrun:=(ht.ty s row hrow).field (yAa h1) f d sz hf ⟨g,i*U.size un u+off,none⟩ w;exact ⟨_,by simp[execOp,ho,g2,hrun,Addr.add_mid];rfl,by simp only[Rep];exact ⟨fl,g,n,c,g1,by rw[yBu]⟩⟩
    ·cases h2
   ·cases h
  ·exact old h
 ·-- nilCheck
  rename_i x ho;split at h;·rename_i b u i off hx;refine ⟨_,h,zaJ λE N D H a w hs=>?_⟩;have hv:=hs.ev hx;have hv':=hv;simp only[Rep] at hv';obtain ⟨fl,g,n,c,g1,g2⟩:=hv';exact ⟨.pointer (some ⟨g,i*U.size un u+off,none⟩),by simp[execOp,ho,g2],g2▸hv⟩
  ·exact old h
 ·-- load
  rename_i t x ho;split at h
  ·rename_i b u i off hx;split at h
   ·rename_i l hel;obtain ⟨y,h1,h2⟩:=zas h;have h1:l[i]?=some y:=h1;split at h2;·rename_i q hq;refine ⟨_,h2,zaJ λE N D H a w hs=>?_⟩;have hv:=hs.ev hx;simp only[Rep] at hv;obtain ⟨fl,g,n,c,g1,g2⟩:=hv;have hra:=zii hun hs hel g1 ⟨_,_,_,rfl⟩;obtain ⟨g',cap,cs,hvv,h5,h6⟩:=zgw hra h1;cases hvv;obtain ⟨z,k1,k2⟩:=znS (P:=P) (nu:=ids H) hun ht hq h5 h6;exact ⟨z,by simp[execOp,ho,g2,k1],k2⟩
    ·cases h2
   ·cases h
  ·exact old h
 ·-- lookup
  rename_i t m x ok ho;split at h
  ·rename_i p q kt k vt v hp hq hmp;split at h
   ·rename_i l key z hl hkey hz;obtain ⟨h1,h2⟩:=zac h;cases hrow:tb.ty.get t with
    |none=>rw[hrow] at hmp;cases hmp|some row =>
      rw[hrow] at hmp;simp only[yAx] at hmp;obtain ⟨hu,hk⟩:=(ht.ty t row hrow).mp _ _ _ _ hmp;refine ⟨_,h2,zaJ λE N D H a w hs=>?_⟩;obtain ⟨g0,es,c,l',e1,e2,e5,e6,e3,e4⟩:=zkH hs hl (hs.ev hp);have hmg:zlC (keq un k) key z l'=zlC (keq un k) key z l/\zi4 (keq un k) key l'=zi4 (keq un k) key l:=by
       rcases e6 with e6|e6;·rw[e6];exact ⟨rfl,rfl⟩
       ·exact zmr e5 (e6.uniq key)
      rw[<-hmg.1,<-hmg.2];have hkr:=zbx (nu':=[]) (zbm hun hkey (hs.fz hun (hs.ev hq))).2;obtain ⟨zv,z1,z2⟩:=zeJ (P:=P) (D:=D) (w:=w) hun ht hz;have hfind:=hk.find D w key _ _ _ hkr e3;have hlen:l'.length=es.toList.length:=by have:=e3.length;simpa using this
      have hlk:∃y b,(Instr.lookup t (.map (some g0)) (a.eval x) ok).run P w= .ok (if ok then .tuple #[y,.bool b] else y) w/\b=zi4 (keq un k) key l'/\Rep un [] D w (inj v (zlC (keq un k) key z l')) y:=by
       rcases zjs (x:=key) (z:=z) 0 e4 hlen with ⟨f1,f2,f3⟩|⟨j,y,f1,f2,f3⟩;·refine ⟨zv,false,?_,f2.symm,by rw[f3];exact z2⟩;rw[f1] at hfind;simp[Instr.lookup,run_underlying hu,MapKept.run_getObj_map e2,hk.check D w key _ _ hkr,hfind,z1,Result.andThen]
       ·refine ⟨y,true,?_,f2.symm,f3⟩;rw[f1] at hfind;simp[Instr.lookup,run_underlying hu,MapKept.run_getObj_map e2,hk.check D w key _ _ hkr,hfind,Result.andThen]
      obtain ⟨y,b,f1,rfl,f3⟩:=hlk;cases ok with
      |true=>exact ⟨_,by simp[execOp,ho,e1,f1];rfl,by simp only[cond_true,Rep];exact ⟨[y,.bool (zi4 (keq un k) key l')],rfl,by simp only[RepL,Rep];exact ⟨zbx f3,trivial,trivial⟩⟩⟩|false=>exact ⟨y,by simp[execOp,ho,e1,f1],by simp only[cond_false];exact zbx f3⟩
   ·cases h
  ·cases h
 ·-- convert
  rename_i s d x ho;split at h
  ·rename_i k0 n rs rd hx hs0 hd0;split at h;·rename_i k hcode;refine ⟨_,h,zaJ λE N D H a w hs=>⟨.int k (k.wrap n),?_,by simp only[Rep]⟩⟩;have hv:=hs.ev hx;simp only[Rep] at hv;obtain ⟨ds,hds⟩:=(ht.ty s rs hs0).und;have hdd:=(ht.ty d rd hd0).int k hcode;simp[execOp,ho,hv,convert,run_underlying hds,run_underlying hdd,Conv.intToInt]
   ·cases h
  ·rename_i l rs rd hx hs0 hd0;obtain ⟨h1,h2⟩:=zac h;simp only[yAd] at h1;refine ⟨_,h2,zaJ λE N D H a w hs=>⟨.string ⟨l.toArray⟩,?_,by simp only[Rep]⟩⟩;have hv:=hs.ev hx;simp only[Rep] at hv;have hds:=(ht.ty s rs hs0).str (yAa h1.1);have hdd:=(ht.ty d rd hd0).str (yAa h1.2);simp[execOp,ho,hv,convert,run_underlying hds,run_underlying hdd]
  ·rename_i p rs rd _ _ hx hs0 hd0;split at h
   ·rename_i _ T b l hel hrw;obtain ⟨h1,h2⟩:=zac h;simp only[yAd] at h1;refine ⟨_,h2,zaJ λE N D H a w hs=>⟨.string ⟨(zdH l).toArray⟩,?_,by simp only[Rep]⟩⟩;obtain ⟨_,hra⟩:=zh1 hun hs hrw (hs.ev hx);obtain ⟨T',u',e1,e2,e3⟩:=(ht.ty s rs hs0).slice (yAa h1.1.2);rw[hel] at e1;cases e1;have hdd:=(ht.ty d rd hd0).str (yAa h1.1.1)
    have:=zdl (P:=P) (w:=w) (l:=l) e2 (zgN ht h1.2) hdd (by
     rcases zpy hra with ⟨h5,h6⟩|⟨g,cap,h5,h6⟩;·exact .inl ⟨none,0,h5,h6⟩
     ·exact .inr ⟨g,0,cap,h5,λi hi=>by rw[yAH];exact h6 i hi⟩)
    simp[execOp,ho,this]
   ·rename_i T l hel hrw hfz;obtain ⟨h1,h2⟩:=zac h;simp only[yAd] at h1;refine ⟨_,h2,zaJ λE N D H a w hs=>⟨.string ⟨(zdH l).toArray⟩,?_,by simp only[Rep]⟩⟩;have hv:=hs.fz1 hun (hs.ev hx);rw[hfz] at hv;obtain ⟨T',u',e1,e2,e3⟩:=(ht.ty s rs hs0).slice (yAa h1.1.2);rw[hel] at e1;cases e1;have hdd:=(ht.ty d rd hd0).str (yAa h1.1.1);have:=zdl (P:=P) (w:=w) (l:=l) e2 (zgN ht h1.2) hdd (znd hv);simp[execOp,ho,this]
   ·rename_i T hel hrw hfz;obtain ⟨h1,h2⟩:=zac h;simp only[yAd] at h1;refine ⟨_,h2,zaJ λE N D H a w hs=>⟨.string ⟨#[]⟩,?_,by simp only[Rep]⟩⟩;have hv:=hs.fz1 hun (hs.ev hx);rw[hfz] at hv;simp only[Rep] at hv;obtain ⟨T',u',e1,e2,e3⟩:=(ht.ty s rs hs0).slice (yAa h1.1.2);rw[hel] at e1;cases e1;have hdd:=(ht.ty d rd hd0).str (yAa h1.1.1);have:=zdl (P:=P) (w:=w) (l:=[]) e2 (zgN ht h1.2) hdd (.inl ⟨none,0,hv,rfl⟩);simp[execOp,ho,this,zdH]
   ·cases h
  ·cases h
 ·-- call
  rename_i c ho;split at h
  ·rename_i hc;split at h
   ·rename_i p row hargs hrow;have hbuilt:∀{E N D H a w}(hs:St un E N D H e bx a w),∃v t,c.args.map a.eval= #[v]/\c.argTypes[0]?=some t/\tb.ty.get t=some row/\Rep un (ids H) D w p v:=by
     intro E N D H a w hs;have g1:=hs.evs hargs;cases hl:c.args.toList.map a.eval with
     |nil=>rw[hl] at g1;simp[RepL] at g1|cons v vs =>
       rw[hl] at g1;simp only[RepL] at g1;cases vs with
       |cons _ _=>simp[RepL] at g1|nil =>
         cases ht2:c.argTypes[0]? with
         |none=>rw[ht2] at hrow;cases hrow|some t =>rw[ht2] at hrow;exact ⟨v,t,by cases hca:c.args;rw[hca] at hl;simpa using congrArg List.toArray hl,rfl,hrow,g1.1⟩
    split at h
    ·rename_i b u l hrw;obtain ⟨h1,h2⟩:=zac h;refine ⟨_,h2,zaJ λE N D H a w hs=>?_⟩;obtain ⟨v,t,g1,g2,g3,g4⟩:=hbuilt hs;obtain ⟨_,hra⟩:=zh1 hun hs hrw g4;have hsl:∃A c,v= .slice A l.length c:=by
      rcases hra with ⟨rfl,rfl⟩|⟨g,cap,rfl,_⟩;·exact ⟨_,_,rfl⟩
      ·exact ⟨_,_,rfl⟩
     obtain ⟨A,cc,rfl⟩:=hsl;obtain ⟨T,u',_,hu,_⟩:=(ht.ty t row g3).slice (yAa h1);refine ⟨.int .i64 (l.length:Int),?_,by simp only[Rep];rfl⟩;simp[execOp,ho,hc,resolve,invoke,builtin,g1,g2,Builtin.len_,goInt,run_underlying hu]
    ·split at h
     ·rename_i kt k vt v0 hmp;split at h
      ·rename_i l hl;refine ⟨_,h,zaJ λE N D H a w hs=>?_⟩;obtain ⟨v,t,g1,g2,g3,g4⟩:=hbuilt hs;obtain ⟨g0,es,c',l',e1,e2,e5,_,e3,e4⟩:=zkH hs hl g4;subst e1;obtain ⟨hu,_⟩:=(ht.ty t row g3).mp _ _ _ _ hmp;have hlen:l.length=es.size:=by have:=e3.length;rw[<-e5.length_eq];simpa using this
       refine ⟨.int .i64 (l.length:Int),?_,by simp only[Rep];rfl⟩;simp[execOp,ho,hc,resolve,invoke,builtin,g1,g2,Builtin.len_,goInt,run_underlying hu,MapKept.run_getObj_map e2,hlen,Result.andThen]
      ·cases h
     ·exact old h
   ·cases h
  ·exact old h
 ·exact old h
theorem zjU(hun:UniOk un)(ht:TbOk P un tb)(hor:SoundO P un orc)(hin:SoundI P un inl)(h:zhh un tb orc inl o e bx K=some r):∃p,K p=some r/\Gives P un o e bx p:=by
 have old:zeS un tb orc inl o e bx K=some r->∃p,K p=some r/\Gives P un o e bx p:=zjW hun ht hor hin;unfold zhh at h;split at h
 ·-- indexAddr
  rename_i t x i ho;split at h
  ·rename_i b u j hx;split at h
   ·rename_i l k n row hel hi hty;obtain ⟨h1,h2⟩:=zac h;simp only[yAd] at h1;obtain ⟨q,h3,h4⟩:=zas h2;obtain ⟨rfl,hq⟩:=zgP h3;refine ⟨_,h4,zaJ λE N D H a w hs=>?_⟩;have hv:=hs.ev hx;simp only[Rep] at hv;obtain ⟨fl,g,n,c,off,g1,g2,g3⟩:=hv;have hra:=zii hun hs hel g1 ⟨_,_,_,rfl⟩;rw[yA3] at hq;obtain ⟨g',cap,cs,e1,_,_⟩:=zgw hra (yAh (show j<l.length by omega));cases e1;have hiv:=hs.ev hi;simp only[Rep] at hiv;obtain ⟨T,u',f1,f2,f3⟩:=(ht.ty t row hty).slice (yAa h1.1);have hu:=zcI h1.2;rw[f1] at hu;simp at hu;subst hu;have ho:=g3 (by omega);subst ho;refine ⟨.pointer (some ⟨g,j*U.size un u'+q*U.size un u',none⟩),?_,?_⟩;·simp only[execOp,‹o.op=_›,g2,hiv];simp[zbQ (un:=un) (k:=k) (off:=j*U.size un u') (b:=g) (c:=c - j) f2 f3 hq w]
    ·simp only[Rep];exact ⟨fl,g,_,_,g1,by simp[yAv]⟩
   ·cases h
  ·exact old h
 ·-- slice
  rename_i t x hi ho;split at h
  ·rename_i hx;split at h;·rename_i k row hhi hty;obtain ⟨h1,h2⟩:=zac h;refine ⟨_,h2,zaJ λE N D H a w hs=>?_⟩;have hv:=hs.ev hx;simp only[Rep] at hv;have hiv:=hs.ev hhi;simp only[Rep] at hiv;obtain ⟨T,u',f1,f2,f3⟩:=(ht.ty t row hty).slice (yAa h1);obtain ⟨jn,z,q1,q2,q3,q4,q5,q6⟩:=f3.info;refine ⟨.slice none 0 0,?_,by simp only[Rep]⟩;simp[execOp,ho,hv,hiv,Instr.sliceAt,run_underlying f2,Instr.slice,Instr.sliceBounds,Instr.sliceBound,asIntOf,Go.sizeOf,typeInfo,q1]
   ·cases h
  ·exact old h
 ·-- call
  rename_i c ho;have hbuilt:∀{E N D H a w}{p:PV S}{row:TyRow S}(hargs:evs e c.args.toList=some [p])(hrow:(c.argTypes[0]?).bind tb.ty.get=some row)(hs:St un E N D H e bx a w),∃v t,c.args.map a.eval= #[v]/\c.argTypes[0]?=some t/\tb.ty.get t=some row/\Rep un (ids H) D w p v:=by
   intro E N D H a w p row hargs hrow hs;have g1:=hs.evs hargs;cases hl:c.args.toList.map a.eval with
   |nil=>rw[hl] at g1;simp[RepL] at g1|cons v vs =>
     rw[hl] at g1;simp only[RepL] at g1;cases vs with
     |cons _ _=>simp[RepL] at g1|nil =>
       cases ht2:c.argTypes[0]? with
       |none=>rw[ht2] at hrow;cases hrow|some t =>rw[ht2] at hrow;exact ⟨v,t,by cases hca:c.args;rw[hca] at hl;simpa using congrArg List.toArray hl,rfl,hrow,g1.1⟩
  split at h
  ·rename_i hcal;split at h
   ·rename_i b u j hev;split at h
    ·rename_i l row hel hty;obtain ⟨h1,h2⟩:=zac h;refine ⟨_,h2,zaJ λE N D H a w hs=>?_⟩;obtain ⟨v,t,k1,k2,k3,k4⟩:=hbuilt hev hty hs;simp only[Rep] at k4;obtain ⟨fl,g,n,cc,off,g1,rfl,g3⟩:=k4;obtain ⟨T,u',hu,hu2,_⟩:=(ht.ty t row k3).slice (yAa h1);have hra:=zii hun hs hel g1 ⟨_,_,_,rfl⟩;have hn:n=l.length:=by
      rcases hra with ⟨e1,_⟩|⟨g',cap,e1,_⟩;·cases e1
      ·cases e1;rfl
     subst hn;refine ⟨.int .i64 ((l.length - j:Nat):Int),?_,by simp only[Rep,len,yA3]⟩;simp[execOp,ho,hcal,resolve,invoke,builtin,k1,k2,Builtin.len_,goInt,run_underlying hu2]
    ·cases h
   ·exact old h
  ·rename_i hcal;split at h;·rename_i row hev hty;obtain ⟨h1,h2⟩:=zac h;refine ⟨_,h2,zaJ λE N D H a w hs=>?_⟩;obtain ⟨v,t,k1,k2,k3,k4⟩:=hbuilt hev hty hs;simp only[Rep] at k4;subst k4;obtain ⟨T,u',_,hu,_⟩:=(ht.ty t row k3).slice (yAa h1);refine ⟨.int .i64 0,?_,by simp only[Rep]⟩;simp[execOp,ho,hcal,resolve,invoke,builtin,k1,k2,Builtin.cap_,goInt,run_underlying hu]
   ·cases h
  ·exact old h
 ·exact old h
theorem zln{x y:Operand}(h:zeO x y=true){k:IntKind}{m:Int}(hx:a.eval x= .int k m):∃k',a.eval y= .int k' m:=by
 unfold zeO at h;split at h;·have:=yAa h;subst this;exact ⟨k,hx⟩
 ·rename_i k1 n1 k2 n2;have:=eq_of_beq h;subst this;simp only[Act.eval] at hx ⊢;cases hx;exact ⟨_,rfl⟩
 ·cases h
theorem zlo{t T:TypeId}{u:U}(hu:P.underlying t=some (.slice T))(hT:ElOk P un T u){nu:Nu}{l:List (El S u)}{v:Value}(hv:Rep un nu D w (.sl u l) v){j:Nat}(h2:j<=l.length){k k':IntKind} :
  ∃u',(Instr.sliceAt t v none (some (.int k (j:Int))) (some (.int k' (j:Int)))).run P w= .ok u' w/\Rep un nu D w (.cont (.cs u) (show El S (.cs u) from l.take j)) u':=by
 obtain ⟨jn,z,g1,g2,g3,g4,g5,g6⟩:=hT.info;have hrun:∀A n c,n<=c->n=l.length->(Instr.sliceAt t (.slice A n c) none (some (.int k (j:Int))) (some (.int k' (j:Int)))).run P w= .ok (.slice (if j=0 then A else A.map (·.add 0)) j j) w:=by intro A n c hc hn;subst hn;have h3:j<=c:=yAG h2 hc;simp[Instr.sliceAt,run_underlying hu,Instr.slice,Instr.sliceBounds,Instr.sliceBound,asIntOf,Go.sizeOf,typeInfo,g1,g3,h3]
 simp only[Rep] at hv ⊢;have empty:∀A,j=0->DR un D w [.cs u] (sg (u:= .cs u) (l.take j)) [.slice A j j]:=by intro A hj;subst hj;exact .cs0 _ (by simp[hd,sg,two,eC]) .nil
 cases hv with
 |sl0 A c h0 h =>have h0':l=[]:=h0;have hl:l.length=0:=(by rw[h0'];rfl);exact ⟨_,hrun A 0 c (yAF _) hl.symm,empty _ (by omega)⟩
 |sl b off c cs hc k1 k2 k3 =>
   refine ⟨_,hrun _ _ c hc rfl,?_⟩;by_cases hj:j=0;·exact empty _ hj
   ·rw[if_neg hj];have hlen:(l.take j).length=j:=by simp;omega
    have hget:∀(i:Nat) x,(l.take j)[i]?=some x->l[i]?=some x:=λi x hx=>by
     rw[yAw] at hx;split at hx;·exact hx
     ·cases hx
    have:=DR.cs (un:=un) (D:=D) (w:=w) (us:=[]) (t:=sg (u:= .cs u) (l.take j)) (vs:=[]) b off cs (λi x hx=>k1 i x (hget i x hx)) (λi x hx=>k2 i x (hget i x hx)) .nil;change DR un D w [.cs u] (sg (u:= .cs u) (l.take j)) [.slice (some ⟨b,off,none⟩) (l.take j).length (l.take j).length] at this;rw[hlen] at this;simpa[Addr.add] using this
theorem zeb(hun:UniOk un)(ht:TbOk P un tb)(hor:SoundO P un orc)(hin:SoundI P un inl)(h:zgD un tb orc inl o e bx K=some r):∃p,K p=some r/\Gives P un o e bx p:=by
 have old:zhh un tb orc inl o e bx K=some r->∃p,K p=some r/\Gives P un o e bx p:=zjU hun ht hor hin;unfold zgD at h;split at h
 ·-- entry
  rename_i x ho;split at h
  ·rename_i b hx;split at h
   ·rename_i k v y p hb;refine ⟨_,h,zaJ λE N D H a w hs=>?_⟩;have hv:=hs.ev hx;simp only[Rep] at hv;obtain ⟨g,h1,hv⟩:=hv;cases hg:zae bx b with
    |none=>rw[hg] at hb;cases hb|some z =>
      rw[hg] at hb;simp only[yAf,yAe] at hb;obtain ⟨r0,hr1,hr2⟩:=hs.boxes.get hg;obtain ⟨ro,hb2⟩:=hr2.base;rw[hb] at hb2;have hh:=hs.inn.res _ (yAb hr1);simp only[ids,yAg,hr1,yAf,yAe] at h1;cases r0<;>cases ro<;>simp only[BoxRep] at hb2
      all_goals
       rename_i g' m since zbj c;simp only[zaf,Prod.mk.injEq,Value.pointer.injEq,yAe,Addr.mk.injEq,true_and,and_true] at h1;subst h1;obtain ⟨hsc,hb2⟩:=hb2;obtain ⟨g0,es,rfl,hD,hm,hst,_,hcur⟩:=hb2;·obtain ⟨rfl,en,hmem,⟨s,rfl⟩,hk,hvl⟩:=hcur y rfl;have hrun:(Instr.entry (.pointer (some ⟨g',0,none⟩))).run P w= .ok (.tuple #[en.key,en.val]) w:=run_entry_at (P:=P) w g' g0 c s es c en hh.2 hm hmem hst.2;refine ⟨.tuple #[en.key,en.val],by simp[execOp,ho,hv,hrun],?_⟩;simp only[Rep];exact ⟨[en.key,en.val],rfl,by simp only[RepL];exact ⟨zbx hk,zbx hvl,trivial⟩⟩
   ·cases h
  ·cases h
 ·-- slice with a bound for its room
  rename_i t x hi top ho;split at h
  ·rename_i p k j row hx hj hty;split at h
   ·rename_i u l hfz;obtain ⟨h1,h2⟩:=zac h;simp only[yAd] at h1;obtain ⟨s,h3,h4⟩:=zas h2;obtain ⟨i',j',hi0,hj',h5,h6,rfl⟩:=zec h3;refine ⟨_,h4,zaJ λE N D H a w hs=>?_⟩;have hv:=hs.fz1 hun (hs.ev hx);rw[hfz] at hv;have hjv:=hs.ev hj;simp only[Rep] at hjv;obtain ⟨k',htop⟩:=zln (a:=a) h1.2 hjv;obtain ⟨T,u',f1,f2,f3⟩:=(ht.ty t row hty).slice (yAa h1.1.1);have hu:u'=u:=by
     have:=h1.1.2;rw[f1] at this;have:=zcI this;simpa using this
    subst hu;have hi0':i'=0:=by omega
    subst hi0';subst hj';obtain ⟨z,g1,g2⟩:=zlo (P:=P) (w:=w) (D:=D) f2 f3 hv h6 (k:=k) (k':=k');refine ⟨z,by simp[execOp,ho,hjv,htop,g1],?_⟩;simpa using g2
   ·cases h
  ·cases h
 ·exact old h
end
end Pe
end
section
/- Steps: what becomes of a state. -/
namespace Pe
open Go Go.RowKit
variable{S:Nat->Type}
def Holds(un:Uni S)(E:Wl.Ctx)(D0:Dat)(N:Wl.Fr)(e:Env S)(bx:Bxs S)(a:Act)(w:World):Prop :=
 ∃D H,St un E N D H e bx a w/\(∀k o,D k o->D0 k o\/E.may k)/\Ge D0 E.w D w
section
variable{P:Program}{un:Uni S}{tb:Tb S}{orc:Orc S}{inl:Inl S}{E:Wl.Ctx}{D0:Dat}{N:Wl.Fr}{D D':Dat}{H:List Wl.Res}{e:Env S}{bx:Bxs S}{a:Act}{w w':World}{o:Oper}{R:Type}{r:R}
theorem Ge.below(h:In E D H w)(hb:Below w.heap.size w w'):Ge D w (zi0 D w w') w' :=
 (.of (λ_ _ hk=>.inl hk) λk o hk=>(hb.block k (h.lt k o hk)))
theorem In.below(h:In E D H w)(hb:Below w.heap.size w w'):In E (zi0 D w w') H w':=by
 refine ⟨h.out.trans (Wl.Grow.of_below hb),λk o hk=>?_,λr hr=>Wl.Res.holds_of (h.res r hr) λg hg=>hb.block g (Wl.Res.holds_lt (h.res r hr) hg).2,λr hr g hg o hf hD=>?_,h.disj,h.lent⟩
 ·rcases hk with hk|hk;·exact yAn (h.lt k o hk) hb.size
  ·exact hk.2
 ·rcases hD with hD|hD;·exact h.apart r hr g hg o hf hD
  ·have:=(Wl.Res.holds_lt (h.res r hr) hg).2;omega
theorem RowAt.mono{w w':World}{v:Value}{u:U}{l:List (El S u)}(hg:Ge D w D' w')(h:RowAt un D w v u l)(hb:∀g,v.ownBlock=some g->w'.heap[g]?=w.heap[g]?):RowAt un D' w' v u l:=by
 rcases h with h|⟨g,cap,rfl,h1,h2⟩;·exact .inl h
 ·refine .inr ⟨g,cap,rfl,h1,λi x hi=>?_⟩;obtain ⟨cs,h3,h4⟩:=h2 i x hi;exact ⟨cs,λj v hj=>(World.cell?_of_block (hb g rfl)).trans (h3 j v hj),h4.mono hg⟩
theorem ItRep.mono{k v:U}{o:Option (El S k×El S v)}{p:List (El S k×El S v)}{m:Option Nat}{since:Nat}{zbj:Array Nat}{c:Nat}(hg:Ge D w D' w')(h:ItRep un D w k v o p m since zbj c):ItRep un D' w' k v o p m since zbj c:=by
 obtain ⟨h1,h2⟩:=h;obtain ⟨g,es,e1,hD,hm,hs,⟨p',hp,hr⟩,hc⟩:=h2;refine ⟨h1,g,es,e1,hg.dom _ _ hD,hg.map _ _ hD _ _ hm,hs,⟨p',hp,hr.1,λi x e hx he=>?_⟩,λx hx=>?_⟩;·obtain ⟨q1,q2⟩:=hr.2 i x e hx he;exact ⟨q1.ge hg λ_ _ h=>h,q2.ge hg λ_ _ h=>h⟩
 ·obtain ⟨q0,en,q1,q2,q3,q4⟩:=hc x hx;exact ⟨q0,en,q1,q2,q3.ge hg λ_ _ h=>h,q4.ge hg λ_ _ h=>h⟩
theorem BoxRep.mono{nu nu':Nu}{w w':World}(hg:Ge D w D' w')(hgr:∀g,g<E.w.heap.size->g∉E.lent->w'.heap[g]?=w.heap[g]?)(hn:∀(i:Nat) x,nu[i]?=some x->nu'[i]?=some x):∀{ro:Bool}{b:Box S}{r:Wl.Res},BoxRep un nu D w E ro b r->BoxRep un nu' D' w' E ro b r:=by
 intro ro b;induction b generalizing ro with
 |var T cs =>
   intro r h;cases r<;>cases ro<;>simp only[BoxRep] at h ⊢;·exact ⟨h.1,h.2.ge hg hn⟩
   ·exact h.ge hg hn
   ·obtain ⟨vs,h1,h5⟩:=h;exact ⟨vs,h1.of hgr,h5.ge hg hn⟩
 |own u T l =>
   intro r h;cases r<;>cases ro<;>simp only[BoxRep] at h ⊢;·obtain ⟨h1,h2,h3,h4,h5⟩:=h;exact ⟨h1,h2,h3,λg hg' o ho=>hg.dom _ _ (h4 g hg' o ho),λi x hi=>(h5 i x hi).mono hg⟩
   ·exact ⟨h.1,h.2.ge hg hn⟩
 |wr u T l =>
   intro r h;cases r<;>cases ro<;>simp only[BoxRep] at h ⊢;·obtain ⟨h1,h2,h3,h5⟩:=h;exact ⟨h1,h2,h3,λi x hi=>(h5 i x hi).mono hg⟩
   ·exact ⟨h.1,h.2.1.mono hg λg hb=>hgr g (h.2.2 g hb).1 (h.2.2 g hb).2,h.2.2⟩
 |nst u T T2 l hh =>intro r h;cases r<;>cases ro<;>simp only[BoxRep] at h ⊢;obtain ⟨h1,h2,h3,h4,h5,h6⟩:=h;exact ⟨h1,h2,h3,h4,h5,λi x hi hn=>by obtain ⟨q,q1,q2,q3,q4⟩:=h6 i x hi hn;exact ⟨q,q1,q2,q3,λj y hy=>(q4 j y hy).mono hg⟩⟩
 |lk b ih=>intro r h;simp only[BoxRep] at h ⊢;exact ih h
 |ro b ih=>intro r h;simp only[BoxRep] at h ⊢;exact ih h
 |gone=>intro r h;cases r<;>cases ro<;>simp only[BoxRep]
 |omp k v l =>intro r h;cases r<;>cases ro<;>simp only[BoxRep] at h ⊢;obtain ⟨l',h1,h2,h3⟩:=h;exact ⟨l',h1,h2,h3.mono hg⟩
 |fm k v l =>
   intro r h;cases r<;>cases ro<;>simp only[BoxRep] at h ⊢
   all_goals exact ⟨h.1,h.2.mono hg⟩
 |itr k v o p =>
   intro r h;cases r<;>cases ro<;>simp only[BoxRep] at h ⊢
   all_goals exact h.mono hg
theorem BxRep.mono{nu nu':Nu}{w w':World}(hg:Ge D w D' w')(hgr:∀g,g<E.w.heap.size->g∉E.lent->w'.heap[g]?=w.heap[g]?)(hn:∀(i:Nat) x,nu[i]?=some x->nu'[i]?=some x):∀{bx:Bxs S}{H:List Wl.Res},BxRep un nu D w E bx H->BxRep un nu' D' w' E bx H
 |[],[],_=>by simp only[BxRep]
 |b::bs,r::rs,h=>by simp only[BxRep] at h ⊢;exact ⟨h.1.mono hg hgr hn,BxRep.mono hg hgr hn h.2⟩
 |[],_::_,h=>by simp[BxRep] at h
 |_::_,[],h=>by simp[BxRep] at h
theorem zap(h:Wl.Grow E.lent E.w w)(h':Wl.Grow E.lent E.w w'):∀g,g<E.w.heap.size->g∉E.lent->w'.heap[g]?=w.heap[g]? :=
 λg hg hn=>(h'.block g hg hn).trans (h.block g hg hn).symm
theorem zoP{a:Act}{N:Wl.Fr}(hs:a.tmps.size=N.n){dst:Option Nat}(hd:∀d,dst=some d->d<N.n)(v:Value){e:Env S}{p:PV S}{nu:Nu}(hp:Rep un nu D w p v)
  (h:∀i q,zan e i=some q->Rep un nu D w q (a.tmps.getD i undef)):∀i q,zan (push dst p e) i=some q->Rep un nu D w q ((a.put dst v).tmps.getD i undef):=by
 intro i q hi;cases dst with
 |none=>exact h i q hi|some d =>
   have hdn:=hd d rfl;simp only[push,zan] at hi;cases hb:Nat.beq d i with
   |true =>
     rw[hb] at hi;have:d=i:=yAa hb;subst this;simp at hi;subst hi;have:(a.put (some d) v).tmps.getD d undef=v:=by simp[Act.put,Array.getD,hs,hdn]
     rw[this];exact hp
   |false =>
     rw[hb] at hi;have hne:d≠i:=Nat.ne_of_beq_eq_false hb;have:(a.put (some d) v).tmps.getD i undef=a.tmps.getD i undef:=by simp[Act.put,yAs,hne]
     rw[this];exact h i q hi
theorem znA(a:Act)(d:Option Nat)(v:Value):(a.put d v).tmps.size=a.tmps.size:=by cases d<;>simp[Act.put]
theorem zls(a:Act)(d:Option Nat)(v:Value):(a.put d v).defers=a.defers:=by cases d<;>rfl
theorem St.step{H':List Wl.Res}{bx':Bxs S}{e':Env S}(h:St un E N D H e bx a w)(hin:In E D' H' w')(hbx:BxRep un (ids H') D' w' E bx' H')(he:∀i q,zan e' i=some q->Rep un (ids H') D' w' q (a.tmps.getD i undef))
  {dst:Option Nat} (hd:∀d,dst=some d->d<N.n) {p:PV S} {v:Value} (hp:Rep un (ids H') D' w' p v):St un E N D' H' (push dst p e') bx' (a.put dst v) w' :=
 ⟨hin,by rw[znA];exact h.size,⟨by rw[zls];exact h.defers.1,h.defers.2⟩,hbx,zoP h.size hd v hp he⟩
theorem zcc{Q:Exit->Act->World->Prop}{K:Act->World->Prop}{p:PV S}(hg:Gives P un o e bx p)(hd:∀d,o.dst=some d->d<N.n)(h:Holds un E D0 N e bx a w)
  (hk:∀a' w',Holds un E D0 N (push o.dst p e) bx a' w'->K a' w'):o.wp P a w K Q:=by
 obtain ⟨D,H,hs,hD,hG⟩:=h;unfold Oper.wp;rcases hg E N D H a w hs with ⟨v,h1,h2⟩|⟨f,vs,h1,h2⟩
 ·rw[h1];exact hk _ _ ⟨D,H,hs.step hs.inn hs.boxes hs.slots hd h2,hD,hG⟩
 ·rw[h1];refine h2.mono λx w1 ⟨v,hx,hb,hr⟩=>?_;subst hx;have hin:=hs.inn.below hb;have hge:=Ge.below hs.inn hb;have hkept:=zap hs.inn.out hin.out;refine hk _ _ ⟨_,H,hs.step hin (hs.boxes.mono hge hkept λ_ _ h=>h) (λi q hi=>(hs.slots i q hi).ge hge λ_ _ h=>h) hd (hr.ge (Ge.refl _ _) λi x h=>by simp at h),λk o hk=>?_,hG.trans hge⟩;rcases hk with hk|hk;·exact hD k o hk
  ·exact .inr (.inl (yAG hs.inn.out.size hk.1))
theorem In.push{E:Wl.Ctx}(h:In E D H w){r:Wl.Res}(hb:Below w.heap.size w w')(hh:Wl.Res.holds E w' r)(hr:∀g,r.has g->w.heap.size<=g)
  (hD:∀k o,D' k o->D k o\/(r.has k/\¬ziv r o)) (hlt:∀k o,D' k o->k<w'.heap.size) (hap:∀g,r.has g->∀o,ziv r o->¬D' g o):In E D' (H++[r]) w':=by
 refine ⟨h.out.trans (Wl.Grow.of_below hb),hlt,?_,?_,?_,λi v hi=>(h.lent i v hi).imp λs h3=>⟨by rw[yAi (yAc.1 h3.1).1];exact h3.1,h3.2⟩⟩
 ·intro s hs;rcases yAm.1 hs with hs|hs;·exact Wl.Res.holds_of (h.res s hs) λg hg=>hb.block g (Wl.Res.holds_lt (h.res s hs) hg).2
  ·simp at hs;subst hs;exact hh
 ·intro s hs g hg o hf hd;rcases yAm.1 hs with hs|hs
  ·have hlt2:=(Wl.Res.holds_lt (h.res s hs) hg).2;rcases hD g o hd with h1|h1;·exact h.apart s hs g hg o hf h1
   ·have:=hr g h1.1;omega
  ·simp at hs;subst hs;exact hap g hg o hf hd
 ·rw[List.pairwise_append];refine ⟨h.disj,yB4 _ _,λs hs t ht g hg hg'=>?_⟩;simp at ht;subst ht;have:=(Wl.Res.holds_lt (h.res s hs) hg).2;have:=hr g hg';omega
theorem In.turn(h:In E D H w){i:Nat}{r r':Wl.Res}(hi:H[i]?=some r)(hg:w.grownBy w' r.block)(hh:Wl.Res.holds E w' r')(hbl:∀g,r'.has g->r.has g\/w.heap.size<=g)
  (hD:∀k o,D' k o->D k o\/(r'.has k/\¬ziv r' o)) (hlt:∀k o,D' k o->k<w'.heap.size) (hap:∀g,r'.has g->∀o,ziv r' o->¬D' g o) (hbox:zaH r=true->zaH r'=true/\zaf r'=zaf r/\(zdT r'=none\/((∀g,r'.has g->r.has g)/\zdT r'=zdT r))):In E D' (H.set i r') w':=by
 have hmem:r∈H:=yAb hi;have hil:i<H.length:=(yAc.1 hi).1;have hget:H[i]=r:=(yAc.1 hi).2;have hr:=h.res r hmem;have keepBlock:∀k,k<w.heap.size->¬r.has k->w'.heap[k]?=w.heap[k]? :=λk hk hne=>hg.block k hk (λe=>hne (Wl.Res.has_of e.symm));have other:∀s j,H[j]?=some s->j≠i->∀g,s.has g->¬r.has g:=by
  intro s j hj hne g hgs hgr;have hjl:j<H.length:=(yAc.1 hj).1;have hsj:H[j]=s:=(yAc.1 hj).2;rcases yAR i j with hlt|hge
  ·have:=(yAI.1 h.disj) i j hil hjl hlt;rw[hget,hsj] at this;exact this g hgr hgs
  ·have:=(yAI.1 h.disj) j i hjl hil (by omega);rw[hget,hsj] at this;exact this g hgs hgr
 refine ⟨?_,hlt,?_,?_,?_,λj g hj=>?_⟩
 rotate_left 4
 ·obtain ⟨s,h2,h3,h4,h5⟩:=h.lent j g hj;by_cases hij:i=j
  ·subst hij;rw[hi] at h2;cases h2;refine ⟨r',yAB hil,(hbox h3).1,(hbox h3).2.1.trans h4,?_⟩;rcases (hbox h3).2.2 with k|⟨k1,k2⟩;·intro _ _ _ _ s s' _ h;rw[k] at h;cases h
   ·intro g hg ob ho s s' e1 e2;exact h5 g (k1 g hg) ob ho s s' e1 (k2▸e2)
  ·exact ⟨s,by rw[yAu hij];exact h2,h3,h4,h5⟩
 ·refine ⟨hg.os.trans h.out.os,hg.tape.trans h.out.tape,hg.output.trans h.out.output,yAG h.out.size hg.size,λk hk hn=>?_⟩;refine (keepBlock k (yAn hk h.out.size) λe=>?_).trans (h.out.block k hk hn);rcases (Wl.Res.holds_lt hr e).1 with h1|h1;·omega
  ·exact hn h1
 ·intro s hs;rcases yAj hs with ⟨j,hj⟩;by_cases hij:i=j
  ·subst hij;rw[yAB hil] at hj;simp at hj;subst hj;exact hh
  ·rw[yAu hij] at hj;have hsm:s∈H:=yAb hj;exact Wl.Res.holds_of (h.res s hsm) λg hgs=>keepBlock g (Wl.Res.holds_lt (h.res s hsm) hgs).2 (other s j hj (λe=>hij e.symm) g hgs)
 ·intro s hs g hgs o hf hd;rcases yAj hs with ⟨j,hj⟩;by_cases hij:i=j
  ·subst hij;rw[yAB hil] at hj;simp at hj;subst hj;exact hap g hgs o hf hd
  ·rw[yAu hij] at hj;have hsm:s∈H:=yAb hj;have hlt2:=(Wl.Res.holds_lt (h.res s hsm) hgs).2;rcases hD g o hd with h1|h1;·exact h.apart s hsm g hgs o hf h1
   ·rcases hbl g h1.1 with h2|h2;·exact other s j hj (λe=>hij e.symm) g hgs h2
    ·omega
 ·rw[yAI];intro x y hx hy hxy;have hx':x<H.length:=by simpa using hx
  have hy':y<H.length:=by simpa using hy
  have old:=(yAI.1 h.disj) x y hx' hy' hxy;rw[List.getElem_set,List.getElem_set];by_cases h1:i=x
  ·subst h1;rw[if_pos rfl,if_neg (by omega)];intro g hgs e;rcases hbl g hgs with e' | e';·rw[hget] at old;exact old g e' e
   ·exact absurd (Wl.Res.holds_lt (h.res H[y] (yBb hy')) e).2 (by omega)
  ·rw[if_neg h1];by_cases h2:i=y
   ·subst h2;rw[if_pos rfl];intro g hgs e;rcases hbl g e with e' | e';·rw[hget] at old;exact old g hgs e'
    ·exact absurd (Wl.Res.holds_lt (h.res H[x] (yBb hx')) hgs).2 (by omega)
   ·rw[if_neg h2];exact old
theorem BxRep.push{nu:Nu}{b:Box S}{r:Wl.Res}:∀{bx:Bxs S}{H:List Wl.Res},BxRep un nu D w E bx H->BoxRep un nu D w E false b r->BxRep un nu D w E (bx++[b]) (H++[r])
 |[],[],_,h=>by simp only[yAZ,BxRep];exact ⟨h,trivial⟩
 |c::bs,s::rs,hh,h=>by simp only[BxRep,yAN] at hh ⊢;exact ⟨hh.1,hh.2.push h⟩
 |[],_::_,hh,_=>by simp[BxRep] at hh
 |_::_,[],hh,_=>by simp[BxRep] at hh
theorem BxRep.set{nu:Nu}{b:Box S}{r:Wl.Res}:∀{bx:Bxs S}{H:List Wl.Res}{i:Nat},BxRep un nu D w E bx H->BoxRep un nu D w E false b r->BxRep un nu D w E (zau bx i b) (H.set i r)
 |[],[],_,_,_=>by simp only[zau,List.set_nil,BxRep]
 |c::bs,s::rs,0,hh,h=>by simp only[zau,List.set_cons_zero,BxRep] at hh ⊢;exact ⟨h,hh.2⟩
 |c::bs,s::rs,i+1,hh,h=>by simp only[zau,List.set_cons_succ,BxRep] at hh ⊢;exact ⟨hh.1,hh.2.set h⟩
 |[],_::_,_,hh,_=>by simp[BxRep] at hh
 |_::_,[],_,hh,_=>by simp[BxRep] at hh
theorem zkT(H:List Wl.Res)(r:Wl.Res):ids (H++[r])=ids H++[zaf r]:=by simp[ids]
theorem zbe(H:List Wl.Res)(r:Wl.Res):∀(i:Nat) x,(ids H)[i]?=some x->(ids (H++[r]))[i]?=some x:=by intro i x h;rw[zkT,yAi (yAc.1 h).1,h]
theorem zcQ(H:List Wl.Res)(r:Wl.Res):(ids (H++[r]))[H.length]?=some (zaf r):=by rw[zkT,yAz (by simp[ids])];simp[ids]
theorem zaq{H:List Wl.Res}{i:Nat}{r r':Wl.Res}(hi:H[i]?=some r)(h:zaf r'=zaf r):ids (H.set i r')=ids H:=by
 simp only[ids,List.map_set];rw[h];apply yAK;intro j;by_cases hij:i=j;·subst hij;have:i<H.length:=(yAc.1 hi).1;rw[yAB (by simpa using this)];simp[hi]
 ·rw[yAu hij]
theorem St.newBox(h:St un E N D H e bx a w)(T:TypeId){cs:List (PV S)}{vs:List Value}(hl:RepL un (ids H) D w cs vs){dst:Option Nat}(hd:∀d,dst=some d->d<N.n) :
  ∃H',St un E N D H' (push dst (.ptr bx.length 0) e) (bx++[.var T cs]) (a.put dst (.pointer (some ⟨w.heap.size,0,none⟩))) (w.alloc (.cells vs.toArray T)):=by
 have hb:Below w.heap.size w (w.alloc (.cells vs.toArray T)):=(Below.refl _ _).alloc (yAl _) _;have hin:In E D (H++[.box w.heap.size T vs]) (w.alloc (.cells vs.toArray T)):=by refine h.inn.push hb ⟨.inl h.inn.out.size,heap_alloc_new w _⟩ (λg hg=>by simp[Wl.Res.has] at hg;omega) (λk o hk=>.inl hk) (λk o hk=>yAn (h.inn.lt k o hk) hb.size) (λg hg o _ hk=>?_);simp[Wl.Res.has] at hg;have:=h.inn.lt g o hk;omega
 have hge:Ge D w D (w.alloc (.cells vs.toArray T)):=(.of (λ_ _ hk=>hk) λk o hk=>(hb.block k (h.inn.lt k o hk)));have hlen:=h.boxes.length;refine ⟨_,h.step hin ?_ (λi q hi=>(h.slots i q hi).ge hge (zbe H _)) hd ?_⟩;·refine (h.boxes.mono hge (zap h.inn.out hin.out) (zbe H _)).push ?_;simp only[BoxRep];exact ⟨trivial,hl.ge hge (zbe H _)⟩
 ·simp only[Rep];exact ⟨w.heap.size,by rw[hlen,zcQ];rfl,rfl⟩
end
end Pe
end
section
/- Operations that make or write memory. -/
namespace Pe
open Go Go.RowKit
variable{S:Nat->Type}
def Pres(W:List Nat)(e e':Env S):Prop:=∀i p,i∉W->zan e i=some p->p.rowless=true->zan e' i=some p
theorem Pres.refl(W:List Nat)(e:Env S):Pres W e e:=λ_ _ _ h _=>h
theorem Pres.trans{W W':List Nat}{e e' e'':Env S}(h:Pres W e e')(k:Pres W' e' e''):Pres (W++W') e e'' :=
 λi p hi hp hr=>k i p (λh'=>hi (by simp[h'])) (h i p (λh'=>hi (by simp[h'])) hp hr) hr
theorem Pres.mono{W W':List Nat}{e e':Env S}(h:Pres W e e')(hw:∀i∈W,i∈W'):Pres W' e e':=λi p hi hp hr=>h i p (λh'=>hi (hw i h')) hp hr
theorem Pres.push(_:List Nat)(e:Env S)(d:Option Nat)(v:PV S):Pres d.toList e (push d v e):=by
 intro i p hi hp _;cases d with
 |none=>exact hp|some k =>
   simp only[Pe.push,zan];have:Nat.beq k i=false:=by
    cases hb:Nat.beq k i with
    |true=>have:=yAa hb;subst this;simp at hi
    |false=>rfl
   rw[this];exact hp
def zkS:PV S->Bool| .junk=>true|_=>false
def znf(cs cs':List (PV S)):Prop:=cs.length=cs'.length/\∀(j:Nat) p,cs[j]?=some p->p.rowless=true->zkS p=false->cs'[j]?=some p
def CPres:Box S->Box S->Prop| .var T cs,.var T' cs'=>T'=T/\znf cs cs'| .lk b,.lk b'=>CPres b b'| .ro b,.ro b'=>CPres b b'| .own u T l,.own u' T' l'=>Box.own u' T' l'=Box.own u T l| .wr u T l,.wr u' T' l'=>Box.wr u' T' l'=Box.wr u T l| .nst u T T2 l h,.nst u' T' T2' l' h'=>Box.nst u' T' T2' l' h'=Box.nst u T T2 l h| .omp k v l,.omp k' v' l'=>Box.omp k' v' l'=Box.omp k v l| .fm k v l,.fm k' v' l'=>Box.fm k' v' l'=Box.fm k v l| .itr k v o p,.itr k' v' o' p'=>Box.itr k' v' o' p'=Box.itr k v o p| .gone,.gone=>True|_,_=>False
theorem CPres.refl:∀(b:Box S),CPres b b| .var _ _=>⟨rfl,rfl,λ_ _ h _ _=>h⟩| .lk b=>CPres.refl b| .ro b=>CPres.refl b| .own _ _ _=>rfl| .wr _ _ _=>rfl| .nst _ _ _ _ _=>rfl| .omp _ _ _=>rfl| .fm _ _ _=>rfl| .itr _ _ _ _=>rfl| .gone=>trivial
theorem CPres.trans{a b c:Box S}(h:CPres a b)(k:CPres b c):CPres a c:=by
 induction a generalizing b c with
 |var T cs =>cases b<;>simp only[CPres] at h;cases c<;>simp only[CPres] at k ⊢;exact ⟨k.1.trans h.1,h.2.1.trans k.2.1,λj p hp hr hj=>k.2.2 j p (h.2.2 j p hp hr hj) hr hj⟩|lk a ih =>cases b<;>simp only[CPres] at h;cases c<;>simp only[CPres] at k ⊢;exact ih h k|ro a ih =>cases b<;>simp only[CPres] at h;cases c<;>simp only[CPres] at k ⊢;exact ih h k|own u T l =>cases b<;>simp only[CPres] at h;cases c<;>simp only[CPres] at k ⊢;rw[k,h]|wr u T l =>cases b<;>simp only[CPres] at h;cases c<;>simp only[CPres] at k ⊢;rw[k,h]|nst u T T2 l h0 =>cases b<;>simp only[CPres] at h;cases c<;>simp only[CPres] at k ⊢;rw[k,h]|omp k0 v l =>cases b<;>simp only[CPres] at h;cases c<;>simp only[CPres] at k ⊢;rw[k,h]|fm k0 v l =>cases b<;>simp only[CPres] at h;cases c<;>simp only[CPres] at k ⊢;rw[k,h]|itr k0 v oo p =>cases b<;>simp only[CPres] at h;cases c<;>simp only[CPres] at k ⊢;rw[k,h]|gone =>cases b<;>simp only[CPres] at h;cases c<;>simp only[CPres] at k ⊢
def fixed:Box S->Bool| .lk _=>true| .ro _=>true| .fm _ _ _=>true| .gone=>true|_=>false
structure PresB (bx bx':Bxs S):Prop where
 len:bx.length<=bx'.length
 box:∀i b,zae bx i=some b->fixed b=true->∃b',zae bx' i=some b'/\CPres b b'
 var:∀i T cs,zae bx i=some (.var T cs)->∃cs',zae bx' i=some (.var T cs')/\cs'.length=cs.length
theorem CPres.fixed{b b':Box S}(h:CPres b b')(hf:fixed b=true):Pe.fixed b'=true:=by cases b<;>cases b'<;>simp_all [CPres,Pe.fixed]
theorem PresB.refl(bx:Bxs S):PresB bx bx:=⟨yAl _,λ_ b h _=>⟨b,h,CPres.refl b⟩,λ_ _ cs h=>⟨cs,h,rfl⟩⟩
theorem PresB.trans{a b c:Bxs S}(h:PresB a b)(k:PresB b c):PresB a c :=
 ⟨yAG h.len k.len,λi x hx hf=>by
  obtain ⟨y,hy,hxy⟩:=h.box i x hx hf;obtain ⟨z,hz,hyz⟩:=k.box i y hy (hxy.fixed hf);exact ⟨z,hz,hxy.trans hyz⟩,λi T cs hi=>by
  obtain ⟨cs',h',hl⟩:=h.var i T cs hi;obtain ⟨cs'',h'',hl'⟩:=k.var i T cs' h';exact ⟨cs'',h'',hl'.trans hl⟩⟩
theorem zbZ:∀{bx:Bxs S}{i:Nat}{b:Box S},zae bx i=some b->i<bx.length
 |[],_,_,h=>by simp[zae] at h
 |_::_,0,_,_=>by simp
 |_::r,n+1,_,h=>by simp only[zae] at h;have:=zbZ h;simp;omega
theorem zcd{bs:Bxs S}:∀{bx:Bxs S}{i:Nat}{b:Box S},zae bx i=some b->zae (bx++bs) i=some b
 |[],_,_,h=>by simp[zae] at h
 |_::_,0,_,h=>h|_::r,n+1,_,h=>by simp only[zae,yAN] at h ⊢;exact zcd h
theorem PresB.append(bx bs:Bxs S):PresB bx (bx++bs):=⟨by simp,λi b h _=>⟨b,zcd h,CPres.refl b⟩,λi T cs h=>⟨cs,zcd h,rfl⟩⟩
theorem zaA:∀(bx:Bxs S)(i:Nat)(b:Box S),(zau bx i b).length=bx.length|[],_,_=>rfl|_::_,0,_=>rfl|_::r,n+1,b=>by simp[zau,zaA r n b]
theorem zai:∀{bx:Bxs S}{i j:Nat}{b:Box S},i≠j->zae (zau bx j b) i=zae bx i|[],_,_,_,_=>rfl|_::_,0,0,_,h=>absurd rfl h|_::_,0,_+1,_,_=>rfl|_::_,_+1,0,_,_=>rfl|_::r,i+1,j+1,_,h=>by simp only[zau,zae];exact zai (by omega)
theorem zbY:∀{bx:Bxs S}{j:Nat}{b b':Box S},zae bx j=some b->zae (zau bx j b') j=some b'
 |[],_,_,_,h=>by simp[zae] at h
 |_::_,0,_,_,_=>rfl|_::r,n+1,_,_,h=>by simp only[zae,zau] at h ⊢;exact zbY h
theorem PresB.set{bx:Bxs S}{j:Nat}{b b':Box S}(hj:zae bx j=some b)(hf:Pe.fixed b=false)(hv:∀T cs,b= .var T cs->∃cs',b'= .var T cs'/\cs'.length=cs.length):PresB bx (zau bx j b') :=
 ⟨by rw[zaA];exact yAl _,λi x hx hfx=>by
  by_cases hij:i=j;·subst hij;rw[hj] at hx;cases hx;rw[hf] at hfx;cases hfx
  ·exact ⟨x,by rw[zai hij];exact hx,CPres.refl x⟩,λi T cs hi=>by
  by_cases hij:i=j;·subst hij;rw[hj] at hi;cases hi;obtain ⟨cs',rfl,hl⟩:=hv T cs rfl;exact ⟨cs',zbY hj,hl⟩
  ·exact ⟨cs,by rw[zai hij];exact hi,rfl⟩⟩
mutual
theorem zcl(b:Nat):∀(p:PV S),p.rowless=true->p.says b=false
 | .row _,h=>by simp[PV.rowless] at h
 | .agg l,h=>by simp only[PV.rowless,PV.says] at h ⊢;exact zbR b l h
 | .tup l,h=>by simp only[PV.rowless,PV.says] at h ⊢;exact zbR b l h
 | .func _ l r,h=>by simp only[PV.rowless,PV.says,yAd,yBc] at h ⊢;exact ⟨zbR b l h.1,zbR b r h.2⟩
 | .iface _ v,h=>by simp only[PV.rowless,PV.says] at h ⊢;exact zcl b v h
 | .int _ _,_=>rfl| .bool _,_=>rfl| .str _,_=>rfl| .sl _ _,_=>rfl| .nils,_=>rfl| .st _ _,_=>rfl| .elp _ _ _,_=>rfl| .ptr _ _,_=>rfl| .nilp,_=>rfl| .nilFunc,_=>rfl| .nilIface,_=>rfl| .ref _,_=>rfl| .elr _ _ _ _,h=>by simp[PV.rowless] at h
 | .rsl _ _ _,h=>by simp[PV.rowless] at h
 | .cont _ _,_=>rfl| .bref _ _,_=>rfl| .junk,_=>rfl
theorem zbR(b:Nat):∀(l:List (PV S)),zbS l=true->saysL b l=false|[],_=>rfl|p::r,h=>by simp only[zbS,saysL,yAd,yBc] at h ⊢;exact ⟨zcl b p h.1,zbR b r h.2⟩
end
theorem zf2(b:Nat)(y p:PV S)(h:p.rowless=true):PV.kill b y p=p:=by have hs:=zcl b p h;cases p<;>first|(simp[PV.rowless] at h;done)|(simp only[PV.kill,hs,cond_false];done)|(simp only[PV.says] at hs;simp only[PV.kill,hs,cond_false])
theorem za7(b:Nat)(y:PV S):∀(e:Env S)(i:Nat),zan (zcW b y e) i=(zan e i).map (PV.kill b y)
 |[],_=>rfl|(j,p)::r,i=>by
   simp only[zcW,zan];cases Nat.beq j i with
   |true=>rfl|false=>exact za7 b y r i
theorem Pres.kill(b:Nat)(y:PV S)(e:Env S):Pres [] e (zcW b y e):=by intro i p _ hp hr;rw[za7,hp];simp[zf2 b y p hr]
theorem CPres.kill(b:Nat)(y:PV S):∀(x:Box S),CPres x (x.kill b y)| .var T cs=>⟨rfl,by simp,λj p hp hr _=>by simp[yAg,hp,zf2 b y p hr]⟩| .lk x=>CPres.kill b y x| .ro x=>CPres.kill b y x| .own _ _ _=>rfl| .wr _ _ _=>rfl| .nst _ _ _ _ _=>rfl| .omp _ _ _=>rfl| .fm _ _ _=>rfl| .itr _ _ _ _=>rfl| .gone=>trivial
theorem za5(f:Box S->Box S):∀(bx:Bxs S)(i:Nat),zae (bx.map f) i=(zae bx i).map f|[],_=>rfl|_::_,0=>rfl|_::r,n+1=>by simp only[yAk,zae];exact za5 f r n
theorem PresB.kill(b:Nat)(y:PV S)(bx:Bxs S):PresB bx (bx.map (Box.kill b y)) :=
 ⟨by simp,λi x hx _=>⟨x.kill b y,by rw[za5,hx];rfl,CPres.kill b y x⟩,λi T cs h=>⟨_,by rw[za5,h];rfl,by simp⟩⟩
section
variable{P:Program}{un:Uni S}{tb:Tb S}{orc:Orc S}{inl:Inl S}{E:Wl.Ctx}{D0:Dat}{N:Wl.Fr}{D D':Dat}{H:List Wl.Res}{e:Env S}{bx:Bxs S}{a:Act}{w w':World}{o:Oper}{R:Type}{r:R}
theorem zhE{nu nu':Nu}{b:Nat}(hg:Ge D w D' w')(hn:∀(i:Nat) x,nu[i]?=some x->nu'[i]?=some x\/(i=b/\x.1=false)):∀{ps:List (PV S)}{vs:List Value},RepL un nu D w ps vs->RepL un nu' D' w' (ps.map (PV.kill1 b)) vs
 |[],[],_=>by simp[RepL]
 |p::ps,v::vs,h=>by
   simp only[RepL,yAk] at h ⊢;refine ⟨?_,zhE hg hn h.2⟩;unfold PV.kill1;cases hs:p.says b with
   |true=>simp[Rep]|false=>exact Rep.mono hg b p v (λi x hx=>(hn i x hx).imp id λk=>⟨k.1,k.2,hs⟩) h.1
 |[],_::_,h=>by simp[RepL] at h
 |_::_,[],h=>by simp[RepL] at h
theorem zci{nu nu':Nu}{b:Nat}{vo:Value}{y:PV S}(hg:Ge D w D' w')(hb:nu[b]?=some (false,vo))(hy:Rep un nu' D' w' y vo)(hn:∀(i:Nat) x,nu[i]?=some x->nu'[i]?=some x\/(i=b/\x.1=false)){p:PV S}{v:Value}(h:Rep un nu D w p v):Rep un nu' D' w' (PV.kill b y p) v:=by
 have gen:p.says b=false->Rep un nu' D' w' p v:=λhs=>Rep.mono hg b p v (λi x hx=>(hn i x hx).imp id λk=>⟨k.1,k.2,hs⟩) h;cases p with
 |row j =>
   simp only[PV.kill];cases hjb:Nat.beq j b with
   |true =>
     have:j=b:=yAa hjb;subst this;simp only[Rep] at h;rw[hb] at h;have hv:vo=v:=by have:=h.1;simp at this;exact this
     subst hv;exact hy
   |false=>exact gen (by simp[PV.says,hjb])
 |agg l =>
   simp only[PV.kill];cases hs:saysL b l with
   |true =>simp only[Rep] at h;obtain ⟨vs,rfl,h⟩:=h;simp only[cond_true,Rep];exact ⟨vs,rfl,zhE hg hn h⟩
   |false=>exact gen (by simp only[PV.says];exact hs)
 |_ =>
   simp only[PV.kill];cases hs:PV.says b _ with
   |true=>simp[Rep]|false=>exact gen hs
theorem ze3{nu nu':Nu}{b:Nat}{vo:Value}{y:PV S}(hg:Ge D w D' w')(hb:nu[b]?=some (false,vo))(hy:Rep un nu' D' w' y vo)(hn:∀(i:Nat) x,nu[i]?=some x->nu'[i]?=some x\/(i=b/\x.1=false)):∀{ps:List (PV S)}{vs:List Value},RepL un nu D w ps vs->RepL un nu' D' w' (ps.map (PV.kill b y)) vs
 |[],[],_=>by simp[RepL]
 |p::ps,v::vs,h=>by simp only[RepL,yAk] at h ⊢;exact ⟨zci hg hb hy hn h.1,ze3 hg hb hy hn h.2⟩
 |[],_::_,h=>by simp[RepL] at h
 |_::_,[],h=>by simp[RepL] at h
theorem zka{nu nu':Nu}{b:Nat}{vo:Value}{y:PV S}(hg:Ge D w D' w')(hgr:∀g,g<E.w.heap.size->g∉E.lent->w'.heap[g]?=w.heap[g]?)(hb:nu[b]?=some (false,vo))(hy:Rep un nu' D' w' y vo)(hn:∀(i:Nat) x,nu[i]?=some x->nu'[i]?=some x\/(i=b/\x.1=false)) :
  ∀{ro:Bool}{x:Box S}{r:Wl.Res},BoxRep un nu D w E ro x r->BoxRep un nu' D' w' E ro (x.kill b y) r:=by
 intro ro x;induction x generalizing ro with
 |var T cs =>
   intro r h;cases r<;>cases ro<;>simp only[BoxRep,Box.kill] at h ⊢;·exact ⟨h.1,ze3 hg hb hy hn h.2⟩
   ·exact ze3 hg hb hy hn h
   ·obtain ⟨vs,h1,h5⟩:=h;exact ⟨vs,h1.of hgr,ze3 hg hb hy hn h5⟩
 |own u T l =>
   intro r h;cases r<;>cases ro<;>simp only[BoxRep,Box.kill] at h ⊢;·obtain ⟨h1,h2,h3,h4,h5⟩:=h;exact ⟨h1,h2,h3,λg hg' o ho=>hg.dom _ _ (h4 g hg' o ho),λi x hi=>(h5 i x hi).mono hg⟩
   ·refine ⟨h.1,?_⟩;have:=h.2;simp only[Rep] at this ⊢;exact this.mono hg
 |wr u T l =>
   intro r h;cases r<;>cases ro<;>simp only[BoxRep,Box.kill] at h ⊢;·obtain ⟨h1,h2,h3,h5⟩:=h;exact ⟨h1,h2,h3,λi x hi=>(h5 i x hi).mono hg⟩
   ·exact ⟨h.1,h.2.1.mono hg λg hb=>hgr g (h.2.2 g hb).1 (h.2.2 g hb).2,h.2.2⟩
 |nst u T T2 l hh =>intro r h;cases r<;>cases ro<;>simp only[BoxRep,Box.kill] at h ⊢;obtain ⟨h1,h2,h3,h4,h5,h6⟩:=h;exact ⟨h1,h2,h3,h4,h5,λi x hi hn=>by obtain ⟨q,q1,q2,q3,q4⟩:=h6 i x hi hn;exact ⟨q,q1,q2,q3,λj y hy=>(q4 j y hy).mono hg⟩⟩
 |lk x ih=>intro r h;simp only[BoxRep,Box.kill] at h ⊢;exact ih h
 |ro x ih=>intro r h;simp only[BoxRep,Box.kill] at h ⊢;exact ih h
 |omp k v l =>intro r h;cases r<;>cases ro<;>simp only[BoxRep,Box.kill] at h ⊢;obtain ⟨l',h1,h2,h3⟩:=h;exact ⟨l',h1,h2,h3.mono hg⟩
 |fm k v l =>
   intro r h;cases r<;>cases ro<;>simp only[BoxRep,Box.kill] at h ⊢
   all_goals exact ⟨h.1,h.2.mono hg⟩
 |itr k v o p =>
   intro r h;cases r<;>cases ro<;>simp only[BoxRep,Box.kill] at h ⊢
   all_goals exact h.mono hg
 |gone=>intro r h;cases r<;>cases ro<;>simp only[BoxRep,Box.kill]
theorem zbg{nu nu':Nu}{b:Nat}{vo:Value}{y:PV S}(hg:Ge D w D' w')(hgr:∀g,g<E.w.heap.size->g∉E.lent->w'.heap[g]?=w.heap[g]?)(hb:nu[b]?=some (false,vo))(hy:Rep un nu' D' w' y vo)(hn:∀(i:Nat) x,nu[i]?=some x->nu'[i]?=some x\/(i=b/\x.1=false)) :
  ∀{bx:Bxs S}{H:List Wl.Res},BxRep un nu D w E bx H->BxRep un nu' D' w' E (bx.map (Box.kill b y)) H
 |[],[],_=>by simp[BxRep]
 |x::bs,r::rs,h=>by simp only[BxRep,yAk] at h ⊢;exact ⟨zka hg hgr hb hy hn h.1,zbg hg hgr hb hy hn h.2⟩
 |[],_::_,h=>by simp[BxRep] at h
 |_::_,[],h=>by simp[BxRep] at h
theorem ziB(hf:zkk un){u:U}{b:Nat}:∀(l:List (El S u))(off:Nat)(cs:Nat->List Value),(∀(i:Nat) x,l[i]?=some x->dat D w b (off+i*U.size un u) (cs i))->(∀(i:Nat) x,l[i]?=some x->DR un D w [u] (sg x) (cs i)) ->
  ∃news:List Value,news.length=l.length*U.size un u/\(∀(j:Nat) v,news[j]?=some v->w.cell? ⟨b,off+j,none⟩=some v)/\(∀(i:Nat) x,l[i]?=some x->(news.drop (i*U.size un u)).take (U.size un u)=cs i)/\∀v∈news,v.oneCell'=true
 |[],_,_,_,_=>⟨[],by simp,by simp,by simp,by simp⟩|x::l,off,cs,h1,h2=>by
   have hlen:(cs 0).length=U.size un u:=(by rw[(h2 0 x rfl).length hf];simp[zcr])
   obtain ⟨n',g1,g2,g3,g4⟩:=ziB hf l (off+U.size un u) (λi=>cs (i+1))
    (λi y hi=>by have:=h1 (i+1) y (by simpa using hi);rwa[yAv,yAM,yBO (i*_),<-yBu] at this)
    (λi y hi=>h2 (i+1) y (by simpa using hi))
   refine ⟨cs 0++n',by rw[yAD,hlen,g1,yAA,yAv,yAM,yBO],λj v hj=>?_,λi y hi=>?_,λv hv=>?_⟩
   ·rcases yAR j (cs 0).length with hlt|hge;·rw[yAi hlt] at hj;have:=(h1 0 x rfl j v hj).2;simpa using this
    ·rw[yAz hge] at hj;have:=g2 _ v hj;rwa[show off+U.size un u+(j - (cs 0).length)=off+j by omega] at this
   ·cases i with
    |zero=>simp[<-hlen]|succ i =>have hi':l[i]?=some y:=(by simpa using hi);rw[yAv,yAM,show i*U.size un u+U.size un u=(cs 0).length+i*U.size un u by omega,yBV,yA2 (yCd _ _),yAQ,yAZ];exact g3 i y hi'
   ·rcases yAm.1 hv with hv|hv;·exact (h2 0 x rfl).one v hv
    ·exact g4 v hv
theorem zfP(hf:zkk un){nu:Nu}{u:U}{l:List (El S u)}{v:Value}(h:Rep un nu D w (.sl u l) v) :
  ∃(A:Option Addr) (c:Nat) (news:List Value),v= .slice A l.length c/\news.length=l.length*U.size un u/\(A=none->l=[])/\(∀ad,A=some ad->∀(j:Nat) x,news[j]?=some x->w.cell? (ad.add j)=some x)/\(∀(i:Nat) x,l[i]?=some x->DR un D w [u] (sg x) ((news.drop (i*U.size un u)).take (U.size un u)))/\∀x∈news,x.oneCell'=true:=by
 simp only[Rep] at h;cases h with
 |sl0 A c h0 h =>have h0':l=[]:=h0;subst h0';exact ⟨A,c,[],rfl,by simp,λ_=>rfl,by simp,by simp,by simp⟩
 |sl b off c cs hc h1 h2 h =>
   obtain ⟨news,g1,g2,g3,g4⟩:=ziB hf l off cs h1 h2;refine ⟨_,c,news,rfl,g1,by simp,λad had j x hj=>?_,λi x hi=>?_,g4⟩;·cases had;rw[Addr.add_mid];exact g2 j x hj
   ·rw[g3 i x hi];exact h2 i x hi
theorem zfO{T:TypeId}{u:U}{t ty:TypeId}(hu:P.underlying t=some (.slice T))(hT:ElOk P un T u){base n:Nat}{v:Value}{xs:List Value}(hown:w.ownsRow base T (U.size un u) v n xs)
  {A:Option Addr} {m c:Nat} {news:List Value} (hl:news.length=m*U.size un u) (hA:A=none->m=0) (hc:∀ad,A=some ad->∀(j:Nat) x,news[j]?=some x->w.cell? (ad.add j)=some x) (h1:∀x∈news,x.oneCell'=true) (hm:n+m<=lim) (hbase:base<=w.heap.size) :
  ∃v' w',(Builtin.append_ #[t,t] ty #[v,.slice A m c]).run P w= .ok v' w'/\w'.ownsRow base T (U.size un u) v' (n+m) (xs++news)/\w.grownBy w' v.ownBlock/\(v'.ownBlock=v.ownBlock\/v'.ownBlock=some w.heap.size) /\
   (∀k o,k<w.heap.size->(v.ownBlock=some k->o<n*U.size un u)->w'.cell? ⟨k,o,none⟩=w.cell? ⟨k,o,none⟩):=by
 obtain ⟨inf,z,e1,e2,e3,e4,e5,e6⟩:=hT.info;have hbytes:(n+m)*inf.bytes<=140737488355328:=by have:(n+m)*inf.bytes<=4294967296*32768:=yBR (by unfold lim at hm;exact hm) e6;omega
 have h63:n+m<=maxLen:=by unfold lim at hm;unfold maxLen;omega
 cases A with
 |none =>
   have:=hA rfl;subst this;have hn:news=[]:=yA1 (by simpa using hl);subst hn;have hs:Src P inf.size t (.slice none 0 c) 0 [] w:=Src.ofNil w hu c;obtain ⟨B,l,k,rfl,hlk⟩:∃B l k,v= .slice B l k/\l<=k:=by
    rcases hown.2 with ⟨rfl,_⟩|⟨g,cap,cur,rfl,_,_,h,_⟩;·exact ⟨none,0,0,rfl,yAl _⟩
    ·exact ⟨_,_,_,rfl,h⟩
   refine ⟨_,w,run_append_nothing w t t ty T inf hu e1 B l k hlk _ hs,by simpa using hown,⟨rfl,rfl,rfl,yAl _,λ_ _ _=>rfl⟩,.inl rfl,λ_ _ _ _=>rfl⟩
 |some ad =>
   obtain ⟨v',w',hrun,r1,r2,_,r4⟩:=run_append_own_at (P:=P) w base t ty T inf z (U.size un u) inf.bytes hu e1 e2 e3 rfl e4 e5 v n xs hown ad m c news hl (hc ad rfl) h1 h63 hbytes hbase;refine ⟨v',w',hrun,r1,r2,r4,λk o hk ho=>?_⟩;by_cases hkb:v.ownBlock=some k
   ·have ho':=ho hkb;rcases hown.2 with ⟨rfl,_⟩|⟨g,cap,cur,rfl,hbg,hg,hnc,hcm,hcs,htake⟩;·simp[Value.ownBlock] at hkb
    ·have hgk:g=k:=(by simpa[Value.ownBlock] using hkb);subst hgk;have hcell:w.cell? ⟨g,o,none⟩=xs[o]? :=by rw[cell_of_row w g _ _ _ _ hg,<-htake,yAr ho'];simp
     rw[hcell];have hox:o<xs.length:=by rw[hown.1];exact ho'
     by_cases hroom:n+m<=cap
     ·obtain ⟨w2,f1,f2,f3⟩:=run_append_fits (P:=P) w base t ty T inf (U.size un u) hu e1 e3 g n cap xs hown ad m c news hl (hc ad rfl) h1 hroom;rw[f1] at hrun;cases hrun;rcases f2.2 with ⟨hne,_⟩|⟨g',cap',cur',hv',_,hg',_,_,_,htake'⟩;·simp at hne
      ·simp only[Value.slice.injEq,yAe,Addr.mk.injEq,and_true,true_and] at hv';obtain ⟨rfl,rfl⟩:=hv';have h2:o<(n+m)*U.size un u:=yAn ho' (yAo _ (by omega));have hc2:cur'[o]?=(xs++news)[o]? :=by rw[<-htake',yAr h2];simp
       rw[cell_of_row _ g _ _ _ _ hg',hc2,yAi hox]
     ·have holds:∀j x,xs[j]?=some x->w.cell? ((⟨g,0,none⟩:Addr).add j)=some x:=hown.cells (g:=g) rfl;have hr:=run_append_grow (P:=P) w t ty T inf z hu e1 e2 ⟨g,0,none⟩ n cap xs (by rw[hown.1,e3]) holds ad m c news (by rw[hl,e3]) (hc ad rfl) (by omega) (by unfold maxLen at h63;omega) (growslice_fits (by omega) hbytes);rw[hr] at hrun;cases hrun;rw[<-hcell];exact World.cell?_of_block (Below.heap_alloc w.drew _ g hk)
   ·exact World.cell?_of_block (r2.block k hk λh=>hkb h.symm)
theorem zeP(w:World)(t ty e:TypeId)(i:TypeInfo)(ht:P.underlying t=some (.slice e))(hi:P.info? e=some i)
  (g off sLen sCap:Nat) (cur:Array Value) (hg:w.heap[g]?=some (.cells cur e (0,0)))
  (a:Addr) (m c:Nat) (news:List Value) (hl:news.length=m*i.size) (hnews:∀j u,news[j]?=some u->w.cell? (a.add j)=some u) (h1:∀u∈news,u.oneCell'=true)
  (hroom:sLen+m<=sCap) (hfit:off+sLen*i.size+news.length<=cur.size) :
  (Builtin.append_ #[t,t] ty #[.slice (some ⟨g,off,none⟩) sLen sCap,.slice (some a) m c]).run P w =
   .ok (.slice (some ⟨g,off,none⟩) (sLen+m) sCap) (w.setRow g (cur.toList.take (off+sLen*i.size)++news++cur.toList.drop (off+sLen*i.size+news.length)).toArray):=by
 have hf:=run_firstCells_some (P:=P) w i.size m a m c news hl hnews;have hst:=run_storeCells_at P g (off+sLen*i.size) e news 0 cur w hg (by simpa using hfit) h1;simp only[yBk] at hst;simp[Builtin.append_,run_underlying ht,Go.sizeOf,typeInfo,hi,Builtin.lenOf,hroom,hf,Addr.add_lit,hst]
theorem zjG{T:TypeId}{u:U}{t ty:TypeId}(hu:P.underlying t=some (.slice T))(hT:ElOk P un T u){n:Nat}{v:Value}{xs:List Value}(hown:Wl.rowAt w T (U.size un u) v n xs)
  {A:Option Addr} {m c:Nat} {news:List Value} (hl:news.length=m*U.size un u) (hA:A=none->m=0) (hc:∀ad,A=some ad->∀(j:Nat) x,news[j]?=some x->w.cell? (ad.add j)=some x) (h1:∀x∈news,x.oneCell'=true) (hm:n+m<=lim) :
  ∃v' w',(Builtin.append_ #[t,t] ty #[v,.slice A m c]).run P w= .ok v' w'/\Wl.rowAt w' T (U.size un u) v' (n+m) (xs++news)/\w.grownBy w' v.ownBlock/\((v'.ownBlock=v.ownBlock/\Wl.offV v'=Wl.offV v/\Wl.capV v'=Wl.capV v)\/v'.ownBlock=some w.heap.size) /\
   (∀k o,k<w.heap.size->(v.ownBlock=some k->Wl.capV v≠0->o<Wl.offV v+n*U.size un u)->w'.cell? ⟨k,o,none⟩=w.cell? ⟨k,o,none⟩):=by
 rcases hown.2 with ⟨rfl,rfl⟩|⟨g,off,cap,cur,rfl,hg,hnc,hcm,hcs,htake⟩
 ·have hx:xs=[]:=yA1 (by simpa using hown.1);subst hx;obtain ⟨v',w',r0,r1,r2,r3,r4⟩:=zfO (P:=P) (ty:=ty) hu hT (World.ownsRow_nil w 0 T (U.size un u)) hl hA hc h1 hm (yAF _);refine ⟨v',w',r0,(Wl.rowAt_of r1).1,r2,?_,λk o hk _=>r4 k o hk λh=>by simp[Value.ownBlock] at h⟩;rcases r3 with h|h
  ·left;rcases r1.2 with ⟨rfl,_⟩|⟨g,cap,cur,rfl,_⟩;·exact ⟨h,rfl,rfl⟩
   ·simp[Value.ownBlock] at h
  ·exact .inr h
 obtain ⟨inf,z,e1,e2,e3,e4,e5,e6⟩:=hT.info;have hbytes:(n+m)*inf.bytes<=140737488355328:=by have:(n+m)*inf.bytes<=4294967296*32768:=yBR (by unfold lim at hm;exact hm) e6;omega
 have h63:n+m<=maxLen:=by unfold lim at hm;unfold maxLen;omega
 cases A with
 |none =>have:=hA rfl;subst this;have hn:news=[]:=yA1 (by simpa using hl);subst hn;have hs:Src P inf.size t (.slice none 0 c) 0 [] w:=Src.ofNil w hu c;exact ⟨_,w,run_append_nothing w t t ty T inf hu e1 _ n cap hnc _ hs,by simpa using hown,⟨rfl,rfl,rfl,yAl _,λ_ _ _=>rfl⟩,.inl ⟨rfl,rfl,rfl⟩,λ_ _ _ _=>rfl⟩
 |some ad =>
   have hlen:(xs++news).length=(n+m)*U.size un u:=(by rw[yAD,hown.1,hl,yAv]);by_cases hroom:n+m<=cap
   ·by_cases hm0:m=0;·subst hm0;have hn:news=[]:=yA1 (by simpa using hl);subst hn;have hs:Src P inf.size t (.slice (some ad) 0 c) 0 [] w:=Src.ofSlice w hu ad 0 c [] (by simp) (by simp) (by simp);exact ⟨_,w,run_append_nothing w t t ty T inf hu e1 _ n cap hnc _ hs,by simpa using hown,⟨rfl,rfl,rfl,yAl _,λ_ _ _=>rfl⟩,.inl ⟨rfl,rfl,rfl⟩,λ_ _ _ _=>rfl⟩
    ·have hcs:=hcs (by omega);have hmul:(n+m)*U.size un u<=cap*U.size un u:=yAo _ hroom;have hfit:off+n*inf.size+news.length<=cur.size:=(by rw[hl,hcs,e3,yBu,<-yAv];omega);have hr:=zeP (P:=P) w t ty T inf hu e1 g off n cap cur hg ad m c news (by rw[hl,e3]) (hc ad rfl) h1 hroom hfit;rw[e3] at hr hfit;have hnm:n*U.size un u+m*U.size un u=(n+m)*U.size un u:=(yAv _ _ _).symm;refine ⟨_,_,hr,⟨hlen,.inr ⟨g,off,cap,_,rfl,setRow_heap w g cur _ T _ hg,hroom,hcm,λ_=>?_,?_⟩⟩,⟨rfl,rfl,rfl,by simp,λk _ hk=>setRow_other w g k _ (λe=>hk (by simp[Value.ownBlock,e]))⟩,.inl ⟨rfl,rfl,rfl⟩,λk o hk ho=>?_⟩;·simp only[yBM,yAD,yAS,yA3,yBv];omega
     ·have h2:(cur.toList.take (off+n*U.size un u)).drop off=xs:=(by rw[List.drop_take,yAQ];exact htake);have h3:(cur.toList.take (off+n*U.size un u)).length=off+n*U.size un u:=(by simp;omega);simp only[yAX];rw[yBL (by omega),h2,<-yAX,<-hlen];exact yA5
     ·by_cases hkb:k=g;·subst hkb;have ho:=ho rfl (by simp only[Wl.capV];omega);simp only[Wl.offV] at ho;rw[cell_of_row _ k _ _ _ _ (setRow_heap w k cur _ T _ hg),cell_of_row w k _ _ _ _ hg];simp only[List.getElem?_toArray,yAX];rw[yAi (by simp;omega),yAr ho];simp
      ·exact World.cell?_of_block (setRow_other w g k _ λe=>hkb e)
   ·have holds:∀j x,xs[j]?=some x->w.cell? ((⟨g,off,none⟩:Addr).add j)=some x:=by
     intro j x hj;rw[Addr.add_mid,cell_of_row w g _ _ _ _ hg];rw[<-htake,yAw] at hj;split at hj;·rw[yAt] at hj;simpa using hj
     ·cases hj
    have hr:=run_append_grow (P:=P) w t ty T inf z hu e1 e2 ⟨g,off,none⟩ n cap xs (by rw[hown.1,e3]) holds ad m c news (by rw[hl,e3]) (hc ad rfl) (by omega) (by unfold maxLen at h63;omega) (growslice_fits (by omega) hbytes);have hge:=grownCap_ge w (n+m) cap T;refine ⟨_,_,hr,⟨hlen,.inr ⟨w.heap.size,0,_,_,rfl,heap_alloc_new w.drew _,hge,grownCap_le_maxLen w (n+m) cap T h63,λ_=>?_,?_⟩⟩,⟨rfl,rfl,rfl,by simp,λk hk _=>Below.heap_alloc w.drew _ k hk⟩,.inr rfl,λk o hk _=>World.cell?_of_block (Below.heap_alloc w.drew _ k hk)⟩;·simp only[yB6,yBM,size_zeroCells,hown.1,hl,yAH];rw[show z.cells.size=U.size un u from by first|exact e4|(rw[e4];exact e3)];rw[<-yAv,<-yAv];congr 1;omega
    ·simp only[yBZ,yBC,yAX];rw[<-yAX,<-hlen];exact yA5
end
end Pe
end
section
/- Rows of rows: what is the call's own is parted, and joined. -/
namespace Pe
open Go Go.RowKit
variable{S:Nat->Type}{un:Uni S}{P:Program}{E:Wl.Ctx}{D D':Dat}{H:List Wl.Res}{w w':World}
theorem zaO(hd:H.Pairwise Wl.apartR){i j:Nat}{r s:Wl.Res}{g:Nat}(hi:H[i]?=some r)(hj:H[j]?=some s)(h1:r.has g)(h2:s.has g):i=j:=by
 have hil:i<H.length:=(yAc.1 hi).1;have hjl:j<H.length:=(yAc.1 hj).1;have hri:H[i]=r:=(yAc.1 hi).2;have hsj:H[j]=s:=(yAc.1 hj).2;rcases yB7 i j with hlt|rfl|hlt
 ·have:=(yAI.1 hd) i j hil hjl hlt;rw[hri,hsj] at this;exact absurd h2 (this g h1)
 ·rfl
 ·have:=(yAI.1 hd) j i hjl hil hlt;rw[hri,hsj] at this;exact absurd h1 (this g h2)
theorem zoU(h:H.Pairwise Wl.apartR){i j:Nat}{r s:Wl.Res}(hi:H[i]?=some r)(hj:H[j]?=some s)(hne:i≠j):Wl.apartR r s:=by intro g h1 h2;exact hne (zaO h hi hj h1 h2)
theorem zcM(h:∀(i j:Nat) r s,i≠j->H[i]?=some r->H[j]?=some s->Wl.apartR r s):H.Pairwise Wl.apartR:=by rw[yAI];intro i j hi hj hij;exact h i j _ _ (by omega) (yAh hi) (yAh hj)
theorem apartR.symm{r s:Wl.Res}(h:Wl.apartR r s):Wl.apartR s r:=λg h1 h2=>h g h2 h1
theorem In.again(h:In E D H w){i:Nat}{r r':Wl.Res}(hi:H[i]?=some r)(hc:zaH r=false)(hh:Wl.Res.holds E w r')(hbl:∀g,r'.has g->r.has g)
  (hD:∀k o,D' k o->D k o\/r.has k) (hlt:∀k o,D' k o->k<w.heap.size) (hap:∀g,r'.has g->∀o,ziv r' o->¬D' g o):In E D' (H.set i r') w:=by
 have hil:i<H.length:=(yAc.1 hi).1;have get:∀(j:Nat) s,(H.set i r')[j]?=some s->(j=i/\s=r')\/(j≠i/\H[j]?=some s):=λj s hj=>by
  by_cases hij:i=j;·subst hij;rw[yAB hil] at hj;exact .inl ⟨rfl,(yAy hj).symm⟩
  ·rw[yAu hij] at hj;exact .inr ⟨λe=>hij e.symm,hj⟩
 refine ⟨h.out,hlt,λs hs=>?_,λs hs g hg o hf hd=>?_,zcM λx y s t hne hx hy=>?_,λj v hj=>?_⟩
 ·obtain ⟨j,hj⟩:=yAj hs;rcases get j s hj with ⟨_,rfl⟩|⟨_,h2⟩;·exact hh
  ·exact h.res s (yAb h2)
 ·obtain ⟨j,hj⟩:=yAj hs;rcases get j s hj with ⟨_,rfl⟩|⟨hne,h2⟩;·exact hap g hg o hf hd
  ·rcases hD g o hd with h3|h3;·exact h.apart s (yAb h2) g hg o hf h3
   ·exact hne (zaO h.disj h2 hi hg h3)
 ·intro g h1 h2;rcases get x s hx with ⟨rfl,rfl⟩|⟨hxn,hx'⟩<;>rcases get y t hy with ⟨rfl,rfl⟩|⟨hyn,hy'⟩;·exact hne rfl
  ·exact hyn (zaO h.disj hy' hi h2 (hbl g h1))
  ·exact hxn (zaO h.disj hx' hi h1 (hbl g h2))
  ·exact hne (zaO h.disj hx' hy' h1 h2)
 ·obtain ⟨s,h2,h3,h4⟩:=h.lent j v hj;by_cases hij:i=j;·subst hij;rw[hi] at h2;cases h2;rw[hc] at h3;cases h3
  ·exact ⟨s,by rw[yAu hij];exact h2,h3,h4⟩
theorem In.split(h:In E D H w){i:Nat}{r r' s:Wl.Res}(hi:H[i]?=some r)(hc:zaH r=false)(hfr:∀o,ziv r o)(h1:Wl.Res.holds E w r')(h2:Wl.Res.holds E w s)(hr:∀g,r'.has g->r.has g)(hs:∀g,s.has g->r.has g)(hd:Wl.apartR r' s):In E D (H.set i r'++[s]) w:=by
 have hmem:=yAb hi;have hil:i<H.length:=(yAc.1 hi).1;have h9:In E D (H.set i r') w:=h.again hi hc h1 hr (λ_ _ h=>.inl h) h.lt λg hg o _ hk=>h.apart r hmem g (hr g hg) o (hfr o) hk;refine ⟨h.out,h.lt,λt ht=>?_,λt ht g hg o hf hk=>?_,?_,λj v hj=>?_⟩
 ·rcases yAm.1 ht with ht|ht;·exact h9.res t ht
  ·rw[yA9] at ht;subst ht;exact h2
 ·rcases yAm.1 ht with ht|ht;·exact h9.apart t ht g hg o hf hk
  ·rw[yA9] at ht;subst ht;exact h.apart r hmem g (hs g hg) o (hfr o) hk
 ·rw[List.pairwise_append];refine ⟨h9.disj,yB4 _ _,λt ht t' ht'=>?_⟩;rw[yA9] at ht';subst ht';obtain ⟨j,hj⟩:=yAj ht;by_cases hij:i=j;·subst hij;rw[yAB hil] at hj;cases hj;exact hd
  ·rw[yAu hij] at hj;exact λg k1 k2=>hij (zaO h.disj hi hj (hs g k2) k1)
 ·obtain ⟨t,k1,k2⟩:=h9.lent j v hj;exact ⟨t,by rw[yAi (yAc.1 k1).1];exact k1,k2⟩
theorem In.join(h:In E D H w){b k:Nat}{r s r':Wl.Res}{id:Bool×Value}(hb:H[b]?=some r)(hk:H[k]?=some s)(hne:b≠k)(hcr:zaH r=false)(hcs:zaH s=false)(hfr:∀o,ziv r o)(hfs:∀o,ziv s o)
  (hh:Wl.Res.holds E w r') (hbl:∀g,r'.has g->r.has g\/s.has g):In E D ((H.set k (.ref id)).set b r') w:=by
 have hbl0:b<H.length:=(yAc.1 hb).1;have hkl:k<H.length:=(yAc.1 hk).1;have get:∀(j:Nat) t,((H.set k (.ref id)).set b r')[j]?=some t->(j=b/\t=r')\/(j=k/\t= .ref id)\/(j≠b/\j≠k/\H[j]?=some t):=λj t hj=>by
  by_cases hjb:b=j;·subst hjb;rw[yAB (by simpa using hbl0)] at hj;exact .inl ⟨rfl,(yAy hj).symm⟩
  ·rw[yAu hjb] at hj;by_cases hjk:k=j;·subst hjk;rw[yAB hkl] at hj;exact .inr (.inl ⟨rfl,(yAy hj).symm⟩)
   ·rw[yAu hjk] at hj;exact .inr (.inr ⟨λe=>hjb e.symm,λe=>hjk e.symm,hj⟩)
 have own:∀j t g,j≠b->j≠k->H[j]?=some t->t.has g->¬r'.has g:=λj t g n1 n2 hj hg hr=>by
  rcases hbl g hr with h1|h1;·exact n1 (zaO h.disj hj hb hg h1)
  ·exact n2 (zaO h.disj hj hk hg h1)
 refine ⟨h.out,h.lt,λt ht=>?_,λt ht g hg o hf hd=>?_,zcM λx y t u hxy hx hy=>?_,λj v hj=>?_⟩
 ·obtain ⟨j,hj⟩:=yAj ht;rcases get j t hj with ⟨_,rfl⟩|⟨_,rfl⟩|⟨_,_,h3⟩;·exact hh
  ·trivial
  ·exact h.res t (yAb h3)
 ·obtain ⟨j,hj⟩:=yAj ht;rcases get j t hj with ⟨_,rfl⟩|⟨_,rfl⟩|⟨_,_,h3⟩
  ·rcases hbl g hg with h1|h1;·exact h.apart r (yAb hb) g h1 o (hfr o) hd
   ·exact h.apart s (yAb hk) g h1 o (hfs o) hd
  ·exact hg.elim
  ·exact h.apart t (yAb h3) g hg o hf hd
 ·intro g h1 h2;rcases get x t hx with ⟨rfl,rfl⟩|⟨_,rfl⟩|⟨a1,a2,a3⟩<;>rcases get y u hy with ⟨rfl,rfl⟩|⟨_,rfl⟩|⟨b1,b2,b3⟩;·exact hxy rfl
  ·exact h2.elim
  ·exact own y u g b1 b2 b3 h2 h1
  ·exact h1.elim
  ·exact h1.elim
  ·exact h1.elim
  ·exact own x t g a1 a2 a3 h1 h2
  ·exact h2.elim
  ·exact hxy (zaO h.disj a3 b3 h1 h2)
 ·obtain ⟨t,h2,h3,h4⟩:=h.lent j v hj;have n1:b≠j:=λe=>by subst e;rw[hb] at h2;cases h2;rw[hcr] at h3;cases h3
  have n2:k≠j:=λe=>by subst e;rw[hk] at h2;cases h2;rw[hcs] at h3;cases h3
  exact ⟨t,by rw[yAu n1,yAu n2];exact h2,h3,h4⟩
end Pe
end
section
/- Any operation: a state goes over into a state. -/
namespace Pe
open Go Go.RowKit
variable{S:Nat->Type}
section
variable{P:Program}{un:Uni S}{tb:Tb S}{orc:Orc S}{inl:Inl S}{E:Wl.Ctx}{D0:Dat}{N:Wl.Fr}{D D':Dat}{H:List Wl.Res}{e:Env S}{bx:Bxs S}{a:Act}{w w':World}{o:Oper}{R:Type}{r:R}
theorem zel{α:Type}(xs ys:List α){k m:Nat}(h:k+m<=xs.length):((xs++ys).drop k).take m=(xs.drop k).take m:=by rw[yBL (by omega),List.take_append_of_le_length (by simp;omega)]
theorem zcJ{α:Type}(xs ys:List α)(k m:Nat):((xs++ys).drop (xs.length+k)).take m=(ys.drop k).take m:=by rw[yBV,yA2 (yCd _ _),yAQ,yAZ]
theorem zgv{u:U}{old new:List (El S u)}{xs news:List Value}(hx:xs.length=old.length*U.size un u)
  (h1:∀(i:Nat) x,old[i]?=some x->DR un D w [u] (sg x) ((xs.drop (i*U.size un u)).take (U.size un u))) (h2:∀(i:Nat) x,new[i]?=some x->DR un D w [u] (sg x) ((news.drop (i*U.size un u)).take (U.size un u))) :
  ∀(i:Nat) x,(old++new)[i]?=some x->DR un D w [u] (sg x) (((xs++news).drop (i*U.size un u)).take (U.size un u)):=by
 intro i x hi;rcases yAR i old.length with hlt|hge
 ·rw[yAi hlt] at hi;have:(i+1)*U.size un u<=old.length*U.size un u:=yAo _ hlt;rw[yAv,yAM] at this;rw[zel _ _ (by omega)];exact h1 i x hi
 ·rw[yAz hge] at hi;have he:i*U.size un u=xs.length+(i - old.length)*U.size un u:=by
   rw[hx,<-yAv];congr 1;omega
  rw[he,zcJ];exact h2 _ x hi
def ziU(D:Dat)(v:Value)(k:Nat):Dat:=λb o=>D b o\/(v.ownBlock=some b/\o<k)
theorem zfF{i:Nat}{r r':Wl.Res}(hi:H[i]?=some r)(h1:(zaf r).1=false):∀(j:Nat) x,(ids H)[j]?=some x->(ids (H.set i r'))[j]?=some x\/(j=i/\x.1=false):=by
 intro j x hj;by_cases hij:i=j;·subst hij;right;simp[ids,hi] at hj;subst hj;exact ⟨rfl,h1⟩
 ·left;simp only[ids,List.map_set,yAu hij];exact hj
theorem zgi{b:Nat}{r:Wl.Res}(hin:In E D H w)(hb:H[b]?=some r){v':Value}(r4:v'.ownBlock=r.block\/v'.ownBlock=some w.heap.size):∀g,v'.ownBlock=some g->E.may g:=by
 intro g hg;rcases r4 with r4|r4;·exact (Wl.Res.holds_lt (hin.res _ (yAb hb)) (Wl.Res.has_of (r4.symm.trans hg))).1
 ·rw[r4] at hg;cases hg;exact .inl hin.out.size
theorem zkB{T:TypeId}{u:U}{v v':Value}{n m:Nat}{xs news:List Value}{b:Nat}(hin:In E D H w)(hb:H[b]?=some (.own v T (U.size un u) n xs))(r1:Wl.rowAt w' T (U.size un u) v' (n+m) (xs++news))(r2:w.grownBy w' v.ownBlock)(r40:(v'.ownBlock=v.ownBlock/\Wl.offV v'=Wl.offV v/\Wl.capV v'=Wl.capV v)\/v'.ownBlock=some w.heap.size)
  (r5:∀k o,k<w.heap.size->(v.ownBlock=some k->Wl.capV v≠0->o<Wl.offV v+n*U.size un u)->w'.cell? ⟨k,o,none⟩=w.cell? ⟨k,o,none⟩) :
  In E (ziU D v' (Wl.offV v'+(n+m)*U.size un u)) (H.set b (.own v' T (U.size un u) (n+m) (xs++news))) w'/\Ge D w (ziU D v' (Wl.offV v'+(n+m)*U.size un u)) w':=by
 have hmem:=yAb hb;have hle:n*U.size un u<=(n+m)*U.size un u:=yAo _ (by omega);have r4:v'.ownBlock=v.ownBlock\/v'.ownBlock=some w.heap.size:=r40.imp (·.1) id;refine ⟨hin.turn hb r2 ⟨r1,zgi hin hb r4⟩ (λg hg=>?_) (λk o hk=>?_) (λk o hk=>?_) (λg hg o hf hd=>?_) (λhe=>by cases he),⟨λ_ _ h=>.inl h,λk o hk=>r5 k o (hin.lt k o hk) λhkb=>?_,λk o hk es c he=>(r2.block k (hin.lt k o hk) λhkb=>?_).trans he⟩⟩
 ·rcases r4 with r4|r4;·exact .inl (r4.symm.trans hg)
  ·right;have h2:v'.ownBlock=some g:=hg;rw[r4] at h2;simp at h2;omega
 ·rcases hk with hk|hk;·exact .inl hk
  ·exact .inr ⟨hk.1,by simp only[ziv];omega⟩
 ·rcases hk with hk|hk;·exact yAn (hin.lt k o hk) r2.size
  ·exact r1.lt k hk.1
 ·have hg':v'.ownBlock=some g:=hg;simp only[ziv] at hf;rcases hd with hd|hd
  ·rcases r40 with ⟨r4,q1,q2⟩|r4;·exact hin.apart _ hmem g (r4.symm.trans hg') o (by simp only[ziv];exact ⟨by omega,by omega⟩) hd
   ·rw[r4] at hg';simp at hg';have:=hin.lt g o hd;omega
  ·omega
 ·intro hc0;rcases yAR o (Wl.offV v+n*U.size un u) with h|h;·exact h
  ·exact absurd hk (hin.apart _ hmem k hkb o ⟨hc0,h⟩)
 ·rcases (hin.res _ hmem).1.2 with ⟨rfl,_⟩|⟨g',off,cap,cur,rfl,h2,_⟩;·cases hkb
  ·simp[Value.ownBlock] at hkb;rw[<-hkb,he] at h2;cases h2
theorem zeq{T:TypeId}{size:Nat}{v v':Value}{n n':Nat}{xs xs':List Value}{b:Nat}(hin:In E D H w)(hb:H[b]?=some (.wr v T size n xs))(r1:w'.ownsRow 0 T size v' n' xs')(r2:w.grownBy w' v.ownBlock)(r4:v'.ownBlock=v.ownBlock\/v'.ownBlock=some w.heap.size) :
  In E D (H.set b (.wr v' T size n' xs')) w'/\Ge D w D w':=by
 have hmem:=yAb hb;refine ⟨hin.turn hb r2 ⟨r1,zgi hin hb r4⟩ (λg hg=>?_) (λk o hk=>.inl hk) (λk o hk=>yAn (hin.lt k o hk) r2.size) (λg hg o hf hd=>?_) (λhe=>by cases he),(.of (λ_ _ h=>h) λk o hk=>(r2.block k (hin.lt k o hk) λhkb=>hin.apart _ hmem k hkb.symm o trivial hk))⟩
 ·rcases r4 with r4|r4;·exact .inl (r4.symm.trans hg)
  ·right;have h2:v'.ownBlock=some g:=hg;rw[r4] at h2;simp at h2;omega
 ·have hg':v'.ownBlock=some g:=hg;rcases r4 with r4|r4;·exact hin.apart _ hmem g (r4.symm.trans hg') o trivial hd
  ·rw[r4] at hg';simp at hg';have:=hin.lt g o hd;omega
theorem zeu{v:Value}{base n size:Nat}{T:TypeId}{xs:List Value}(h:w.ownsRow base T size v n xs):v.oneCell'=true/\v.cells= #[v]:=by rcases h.2 with ⟨rfl,_⟩|⟨g,cap,cur,rfl,_⟩<;>exact ⟨rfl,rfl⟩
theorem In.ownNil(h:In E D H w)(T:TypeId)(size:Nat):In E D (H++[.own (.slice none 0 0) T size 0 []]) w :=
 h.push (Below.refl _ _) ⟨Wl.rowAt_nil _ _ _,λg hg=>by simp[Value.ownBlock] at hg⟩ (λg hg=>by simp[Wl.Res.has,Value.ownBlock] at hg) (λk o hk=>.inl hk) h.lt (λg hg=>by simp[Wl.Res.has,Value.ownBlock] at hg)
theorem In.wrNil(h:In E D H w)(T:TypeId)(size:Nat):In E D (H++[.wr (.slice none 0 0) T size 0 []]) w :=
 h.push (Below.refl _ _) ⟨World.ownsRow_nil _ _ _ _,λg hg=>by simp[Value.ownBlock] at hg⟩ (λg hg=>by simp[Wl.Res.has,Value.ownBlock] at hg) (λk o hk=>.inl hk) h.lt (λg hg=>by simp[Wl.Res.has,Value.ownBlock] at hg)
theorem zgc{v:Value}{k:Nat}(h1:∀b o,D b o->D0 b o\/E.may b)(h2:∀g,v.ownBlock=some g->E.may g):∀b o,ziU D v k b o->D0 b o\/E.may b:=by
 intro b o h;rcases h with h|h;·exact h1 b o h
 ·exact .inr (h2 b h.1)
theorem zlT(hun:UniOk un){T:TypeId}{u:U}{t ty:TypeId}(hu:P.underlying t=some (.slice T))(hT:ElOk P un T u){b:Nat}{old new:List (El S u)}{v x:Value}(hs:St un E N D H e bx a w)(hg:zae bx b=some (.own u T old))(hv:Rep un (ids H) D w (.row b) v)
  (hx:Rep un (ids H) D w (.sl u new) x) (hlim:old.length+new.length<=lim) (hD:∀k o,D k o->D0 k o\/E.may k) (hG:Ge D0 E.w D w) {dst:Option Nat} (hd:∀d,dst=some d->d<N.n) :
  ∃v' w',(Builtin.append_ #[t,t] ty #[v,x]).run P w= .ok v' w'/\Holds un E D0 N (push dst (.row b) (zcW b (.sl u old) e)) (zau (bx.map (Box.kill b (.sl u old))) b (.own u T (old++new))) (a.put dst v') w':=by
 obtain ⟨r,hr1,hr2⟩:=hs.boxes.get hg;have hh:=hs.inn.res _ (yAb hr1);cases r with
 |box=>simp[BoxRep] at hr2|ref=>simp[BoxRep] at hr2|wr=>simp[BoxRep] at hr2|nst=>simp[BoxRep] at hr2|fix=>simp[BoxRep] at hr2|omp=>simp[BoxRep] at hr2|it=>simp[BoxRep] at hr2|own v0 T' size n xs =>
   have hor:=zfv hun.flat hh hr2;simp only[BoxRep] at hr2;obtain ⟨rfl,rfl,rfl,hDo,hel⟩:=hr2;have hv0:v0=v:=(by simp only[Rep,ids,yAg,hr1,yAf,zaf,yAe,Prod.mk.injEq,true_and] at hv;exact hv.1);subst hv0;obtain ⟨A,c,news,rfl,g1,g2,g3,g4,g5⟩:=zfP hun.flat hx;obtain ⟨v',w',hrun,r1,r2,r4,r5⟩:=zjG (P:=P) (ty:=ty) hu hT hh.1 g1 (λh=>by rw[g2 h];rfl) g3 g5 hlim;obtain ⟨hin,hge⟩:=zkB (un:=un) hs.inn hr1 r1 r2 r4 r5;have hkept:=zap hs.inn.out hin.out;have hn:=zfF (H:=H) (r':= .own v' T' (U.size un u) (old.length+new.length) (xs++news)) hr1 rfl;have hnb:(ids H)[b]?=some (false,v0):=by simp[ids,hr1,zaf]
   have hy:Rep un (ids (H.set b (.own v' T' (U.size un u) (old.length+new.length) (xs++news)))) (ziU D v' (Wl.offV v'+(old.length+new.length)*U.size un u)) w' (.sl u old) v0:=(by simp only[Rep] at hor ⊢;exact hor.mono hge);have hbl:b<H.length:=(yAc.1 hr1).1;refine ⟨v',w',hrun,_,_,hs.step hin ?_ (λi q hi=>?_) hd ?_,zgc hD (zgi hs.inn hr1 (r4.imp (·.1) id)),hG.trans hge⟩;·refine (zbg hge hkept hnb hy hn hs.boxes).set ?_;simp only[BoxRep];refine ⟨trivial,trivial,by simp,λg hg' o ho=>.inr ⟨hg',ho⟩,?_⟩;exact zgv hh.1.1 (λi y hi=>(hel i y hi).mono hge) (λi y hi=>(g4 i y hi).mono hge)
   ·rw[za7] at hi;cases hl:zan e i with
    |none=>rw[hl] at hi;cases hi|some p0 =>rw[hl] at hi;simp only[yAf,yAe] at hi;subst hi;exact zci hge hnb hy hn (hs.slots i p0 hl)
   ·simp only[Rep];refine ⟨?_,r1.one⟩;simp[ids,hbl,zaf]
theorem zki(hun:UniOk un){T:TypeId}{u:U}{t ty:TypeId}(hu:P.underlying t=some (.slice T))(hT:ElOk P un T u){new:List (El S u)}{x:Value}(hs:St un E N D H e bx a w)
  (hx:Rep un (ids H) D w (.sl u new) x) (hlim:new.length<=lim) (hD:∀k o,D k o->D0 k o\/E.may k) (hG:Ge D0 E.w D w) {dst:Option Nat} (hd:∀d,dst=some d->d<N.n) :
  ∃v' w',(Builtin.append_ #[t,t] ty #[.slice none 0 0,x]).run P w= .ok v' w'/\Holds un E D0 N (push dst (.row bx.length) e) (bx++[.own u T new]) (a.put dst v') w':=by
 obtain ⟨A,c,news,rfl,g1,g2,g3,g4,g5⟩:=zfP hun.flat hx;obtain ⟨v',w',hrun,r1,r2,r4,r5⟩:=zjG (P:=P) (ty:=ty) hu hT (Wl.rowAt_nil w T (U.size un u)) g1 (λh=>by rw[g2 h];rfl) g3 g5 (by omega);have hnil:=hs.inn.ownNil T (U.size un u);have hb:(H++[.own (.slice none 0 0) T (U.size un u) 0 []])[H.length]?=some (.own (.slice none 0 0) T (U.size un u) 0 []):=by simp
 obtain ⟨hin,hge⟩:=zkB (un:=un) hnil hb r1 r2 r4 r5;have hset:(H++[Wl.Res.own (.slice none 0 0) T (U.size un u) 0 []]).set H.length (.own v' T (U.size un u) (0+new.length) ([]++news))=H++[.own v' T (U.size un u) (0+new.length) ([]++news)]:=by rw[List.set_append];simp
 rw[hset] at hin;have hkept:=zap hs.inn.out hin.out;refine ⟨v',w',hrun,_,_,hs.step hin ?_ (λi q hi=>(hs.slots i q hi).ge hge (zbe H _)) hd ?_,zgc hD (zgi hnil hb (r4.imp (·.1) id)),hG.trans hge⟩;·refine (hs.boxes.mono hge hkept (zbe H _)).push ?_;simp only[BoxRep];exact ⟨trivial,trivial,by simp,λg hg' o ho=>.inr ⟨hg',ho⟩,λi y hi=>by simpa using (g4 i y hi).mono hge⟩
 ·simp only[Rep];refine ⟨?_,r1.one⟩;rw[hs.boxes.length,zcQ];rfl
theorem zm8(hun:UniOk un){T:TypeId}{u:U}{t ty:TypeId}(hu:P.underlying t=some (.slice T))(hT:ElOk P un T u){b:Nat}{old new:List (El S u)}{v x:Value}(hs:St un E N D H e bx a w)(hg:zae bx b=some (.wr u T old))(hv:Rep un (ids H) D w (.row b) v)
  (hx:Rep un (ids H) D w (.sl u new) x) (hlim:old.length+new.length<=lim) (hD:∀k o,D k o->D0 k o\/E.may k) (hG:Ge D0 E.w D w) {dst:Option Nat} (hd:∀d,dst=some d->d<N.n) :
  ∃v' w',(Builtin.append_ #[t,t] ty #[v,x]).run P w= .ok v' w'/\Holds un E D0 N (push dst (.row b) (zcW b .junk e)) (zau (bx.map (Box.kill b .junk)) b (.wr u T (old++new))) (a.put dst v') w':=by
 obtain ⟨r,hr1,hr2⟩:=hs.boxes.get hg;have hh:=hs.inn.res _ (yAb hr1);cases r with
 |wr v0 T' size n xs =>
   simp only[BoxRep] at hr2;obtain ⟨rfl,rfl,rfl,hel⟩:=hr2;have hv0:v0=v:=by simp only[Rep,ids,yAg,hr1,yAf,zaf,yAe,Prod.mk.injEq,true_and] at hv;exact hv.1
   subst hv0;obtain ⟨A,c,news,rfl,g1,g2,g3,g4,g5⟩:=zfP hun.flat hx;obtain ⟨v',w',hrun,r1,r2,r4,r5⟩:=zfO (P:=P) (ty:=ty) hu hT hh.1 g1 (λh=>by rw[g2 h];rfl) g3 g5 hlim (yAF _);obtain ⟨hin,hge⟩:=zeq hs.inn hr1 r1 r2 r4;have hkept:=zap hs.inn.out hin.out;have hn:=zfF (H:=H) (r':= .wr v' T' (U.size un u) (old.length+new.length) (xs++news)) hr1 rfl;have hnb:(ids H)[b]?=some (false,v0):=by simp[ids,hr1,zaf]
   have hy:Rep un (ids (H.set b (.wr v' T' (U.size un u) (old.length+new.length) (xs++news)))) D w' .junk v0:=(by simp only[Rep]);have hbl:b<H.length:=(yAc.1 hr1).1;refine ⟨v',w',hrun,_,_,hs.step hin ?_ (λi q hi=>?_) hd ?_,hD,hG.trans hge⟩;·refine (zbg hge hkept hnb hy hn hs.boxes).set ?_;simp only[BoxRep];refine ⟨trivial,trivial,by simp,?_⟩;exact zgv hh.1.1 (λi y hi=>(hel i y hi).mono hge) (λi y hi=>(g4 i y hi).mono hge)
   ·rw[za7] at hi;cases hl:zan e i with
    |none=>rw[hl] at hi;cases hi|some p0 =>rw[hl] at hi;simp only[yAf,yAe] at hi;subst hi;exact zci hge hnb hy hn (hs.slots i p0 hl)
   ·simp only[Rep];refine ⟨?_,zeu r1⟩;simp[ids,hbl,zaf]
 |_=>simp[BoxRep] at hr2
theorem zhm(hun:UniOk un){T:TypeId}{u:U}{t ty:TypeId}(hu:P.underlying t=some (.slice T))(hT:ElOk P un T u){new:List (El S u)}{x:Value}(hs:St un E N D H e bx a w)
  (hx:Rep un (ids H) D w (.sl u new) x) (hlim:new.length<=lim) (hD:∀k o,D k o->D0 k o\/E.may k) (hG:Ge D0 E.w D w) {dst:Option Nat} (hd:∀d,dst=some d->d<N.n) :
  ∃v' w',(Builtin.append_ #[t,t] ty #[.slice none 0 0,x]).run P w= .ok v' w'/\Holds un E D0 N (push dst (.row bx.length) e) (bx++[.wr u T new]) (a.put dst v') w':=by
 obtain ⟨A,c,news,rfl,g1,g2,g3,g4,g5⟩:=zfP hun.flat hx;obtain ⟨v',w',hrun,r1,r2,r4,r5⟩:=zfO (P:=P) (ty:=ty) hu hT (World.ownsRow_nil w 0 T (U.size un u)) g1 (λh=>by rw[g2 h];rfl) g3 g5 (by omega) (yAF _);have hnil:=hs.inn.wrNil T (U.size un u);have hb:(H++[.wr (.slice none 0 0) T (U.size un u) 0 []])[H.length]?=some (.wr (.slice none 0 0) T (U.size un u) 0 []):=by simp
 obtain ⟨hin,hge⟩:=zeq hnil hb r1 r2 r4;have hset:(H++[Wl.Res.wr (.slice none 0 0) T (U.size un u) 0 []]).set H.length (.wr v' T (U.size un u) (0+new.length) ([]++news))=H++[.wr v' T (U.size un u) (0+new.length) ([]++news)]:=by rw[List.set_append];simp
 rw[hset] at hin;have hkept:=zap hs.inn.out hin.out;refine ⟨v',w',hrun,_,_,hs.step hin ?_ (λi q hi=>(hs.slots i q hi).ge hge (zbe H _)) hd ?_,hD,hG.trans hge⟩;·refine (hs.boxes.mono hge hkept (zbe H _)).push ?_;simp only[BoxRep];exact ⟨trivial,trivial,by simp,λi y hi=>by simpa using (g4 i y hi).mono hge⟩
 ·simp only[Rep];refine ⟨?_,zeu r1⟩;rw[hs.boxes.length,zcQ];rfl
theorem zmO{b:Nat}{u:U}{T:TypeId}{l:List (El S u)}(hs:St un E N D H e bx a w)(hg:zae bx b=some (.wr u T l)):∃D' H',St un E N D' H' e (zau bx b (.own u T l)) a w/\ids H'=ids H/\Ge D w D' w/\∀k o,D' k o->D k o\/E.may k:=by
 obtain ⟨r,hr1,hr2⟩:=hs.boxes.get hg;have hh:=hs.inn.res _ (yAb hr1);cases r with
 |wr v T' size n xs =>
   simp only[BoxRep] at hr2;obtain ⟨rfl,rfl,rfl,hel⟩:=hr2;have hmem:=yAb hr1;obtain ⟨hat,hoff⟩:=Wl.rowAt_of hh.1;have hge:Ge D w (ziU D v (l.length*U.size un u)) w:=⟨λ_ _ h=>.inl h,λ_ _ _=>rfl,λ_ _ _ _ _ h=>h⟩;have hin:In E (ziU D v (l.length*U.size un u)) (H.set b (.own v T' (U.size un u) l.length xs)) w:=by
    refine hs.inn.turn hr1 ⟨rfl,rfl,rfl,yAl _,λ_ _ _=>rfl⟩ ⟨hat,hh.2⟩ (λg hg=>.inl hg) (λk o hk=>?_) (λk o hk=>?_) (λg hg o hf hd=>?_) (λhe=>by cases he)
    ·rcases hk with hk|hk;·exact .inl hk
     ·exact .inr ⟨hk.1,by simp only[ziv];omega⟩
    ·rcases hk with hk|hk;·exact hs.inn.lt k o hk
     ·exact (World.ownsRow.lt hh.1 k hk.1).2
    ·simp only[ziv] at hf;rcases hd with hd|hd;·exact hs.inn.apart _ hmem g hg o trivial hd
     ·omega
   have hids:ids (H.set b (.own v T' (U.size un u) l.length xs))=ids H:=zaq hr1 rfl;refine ⟨_,_,⟨hin,hs.size,hs.defers,?_,λi q hi=>?_⟩,hids,hge,zgc (D0:=D) (λ_ _ h=>.inl h) hh.2⟩;·rw[hids];refine (hs.boxes.mono hge (λ_ _ _=>rfl) λ_ _ h=>h).set ?_;simp only[BoxRep];exact ⟨trivial,trivial,trivial,λg hg o ho=>.inr ⟨hg,by omega⟩,λi x hi=>(hel i x hi).mono hge⟩
   ·rw[hids];exact (hs.slots i q hi).ge hge λ_ _ h=>h
 |_=>simp[BoxRep] at hr2
theorem zpc{b:Nat}{u:U}{T T2:TypeId}{l:List (List (El S u))}(hs:St un E N D H e bx a w)(hg:zae bx b=some (.nst u T T2 l none)):∃D' H',St un E N D' H' e (zau bx b (.own (.sl u) T l)) a w/\ids H'=ids H/\Ge D w D' w/\∀k o,D' k o->D k o\/E.may k:=by
 obtain ⟨r,hr1,hr2⟩:=hs.boxes.get hg;have hh:=hs.inn.res _ (yAb hr1);cases r with
 |nst v T' n xs T2' s2 rows =>
   simp only[BoxRep] at hr2;obtain ⟨rfl,rfl,rfl,rfl,hrl,hel⟩:=hr2;obtain ⟨hown,hmay,hrows,hdis⟩:=hh;obtain ⟨hat,hoff⟩:=Wl.rowAt_of hown;have hmem:=yAb hr1
   let D':Dat:=λk o=>D k o\/(v.ownBlock=some k/\o<l.length)\/∃(i:Nat) (q:Value×Nat×List Value),rows[i]?=some (some q)/\q.1.ownBlock=some k/\o<q.2.1*U.size un u
   have hge:Ge D w D' w:=⟨λ_ _ h=>.inl h,λ_ _ _=>rfl,λ_ _ _ _ _ h=>h⟩;have hin:In E D' (H.set b (.own v T' 1 l.length xs)) w:=by
    refine hs.inn.again hr1 rfl ⟨hat,hmay⟩ (λg hg=>.inl hg) (λk o hk=>?_) (λk o hk=>?_) (λg hg o hf hd=>?_)
    ·rcases hk with hk|hk|⟨i,q,h1,h2,_⟩;·exact .inl hk
     ·exact .inr (.inl hk.1)
     ·exact .inr (.inr ⟨i,q,h1,h2⟩)
    ·rcases hk with hk|hk|⟨i,q,h1,h2,_⟩;·exact hs.inn.lt k o hk
     ·exact (World.ownsRow.lt hown k hk.1).2
     ·exact (World.ownsRow.lt (hrows i q h1).1 k h2).2
    ·have hf:l.length*1<=o:=(by have:=hf.2;omega);rcases hd with hd|hd|⟨i,q,h1,h2,_⟩;·exact hs.inn.apart _ hmem g (.inl hg) o trivial hd
     ·omega
     ·exact (hrows i q h1).2.2 g h2 hg
   have hids:ids (H.set b (.own v T' 1 l.length xs))=ids H:=zaq hr1 rfl;refine ⟨_,_,⟨hin,hs.size,hs.defers,?_,λi q hi=>?_⟩,hids,hge,λk o hk=>?_⟩
   ·rw[hids];refine (hs.boxes.mono hge (λ_ _ _=>rfl) λ_ _ h=>h).set ?_;simp only[BoxRep];refine ⟨trivial,rfl,rfl,λg hg o ho=>.inr (.inl ⟨hg,by omega⟩),λi x hi=>?_⟩;obtain ⟨q,q1,q2,q3,q4⟩:=hel i x hi (by simp);have hx:(xs.drop (i*1)).take 1=[q.1]:=by
     rw[yA7];have hil:i<xs.length:=(yAc.1 q2).1;rw[yBe hil,yBY,List.take_zero,(yAc.1 q2).2]
    rw[hx];have hq:=(hrows i q q1).1;rcases hq.2 with ⟨h0,hn⟩|⟨g,cap,cur,hq1,hbg,hgg,hnc,hcm,hcs,htk⟩
    ·rw[h0];have hx0:x=[]:=yAL.1 (q3.symm.trans hn);exact .sl0 none 0 hx0 .nil
    ·rw[hq1,q3];refine .sl g 0 cap (λj=>(q.2.2.drop (j*U.size un u)).take (U.size un u)) (show List.length (α:=El S u) x<=cap by rw[<-q3];exact hnc) (λj y hj z t ht=>?_) (λj y hj=>(q4 j y hj).mono hge) .nil;have hj: @Eq (Option (El S u)) ((id x:List (El S u))[j]?) (some y):=hj;have hjl:j<q.2.1:=by rw[q3];exact (yAc.1 hj).1
     have hm:(j+1)*U.size un u<=q.2.1*U.size un u:=yAo _ hjl;rw[yAv,yAM] at hm;rw[yAw] at ht;split at ht;·rw[yAt] at ht;have hc:=hq.cells (g:=g) (by rw[hq1];rfl) _ t ht;rw[Addr.add_lit] at hc;exact ⟨.inr (.inr ⟨i,q,q1,by rw[hq1];rfl,by omega⟩),by simpa[yAH] using hc⟩
     ·cases ht
   ·rw[hids];exact (hs.slots i q hi).ge hge λ_ _ h=>h
   ·rcases hk with hk|hk|⟨i,q,h1,h2,_⟩;·exact .inl hk
    ·exact .inr (hmay k hk.1)
    ·exact .inr ((hrows i q h1).2.1 k h2)
 |_=>simp[BoxRep] at hr2
theorem zpb{b:Nat}{k v:U}{l:List (El S k×El S v)}(hs:St un E N D H e bx a w)(hg:zae bx b=some (.omp k v l)):∃D' H',St un E N D' H' e (zau bx b (.fm k v l)) a w/\ids H'=ids H/\Ge D w D' w/\∀k o,D' k o->D k o\/E.may k:=by
 obtain ⟨r,hr1,hr2⟩:=hs.boxes.get hg;have hh:=hs.inn.res _ (yAb hr1);cases r with
 |omp g es c =>
   simp only[BoxRep] at hr2;obtain ⟨l',h1,h2,h3⟩:=hr2;obtain ⟨k1,k2⟩:=zih h3;have hge:Ge D w (λk o=>D k o\/k=g) w:=⟨λ_ _ h=>.inl h,λ_ _ _=>rfl,λ_ _ _ _ _ h=>h⟩;have hin:In E (λk o=>D k o\/k=g) (H.set b (.ref (true,.map (some g)))) w:=by
    refine hs.inn.again hr1 rfl trivial (λg hg=>hg.elim) (λk o hk=>hk.imp id λh=>h.symm) (λk o hk=>?_) (λg hg=>hg.elim);rcases hk with hk|rfl;·exact hs.inn.lt k o hk
    ·exact (yAq.1 hh.2.1).1
   have hids:ids (H.set b (.ref (true,.map (some g))))=ids H:=zaq hr1 rfl;refine ⟨_,_,⟨hin,hs.size,hs.defers,?_,λi q hi=>?_⟩,hids,hge,λk o hk=>hk.imp id λh=>by rw[h];exact hh.1⟩;·rw[hids];refine (hs.boxes.mono hge (λ_ _ _=>rfl) λ_ _ h=>h).set ?_;simp only[BoxRep];exact ⟨trivial,fm_of (.inr rfl) hh.2.1 hh.2.2 h1 h2 (k1.mono hge) (k2.mono hge)⟩
   ·rw[hids];exact (hs.slots i q hi).ge hge λ_ _ h=>h
 |_=>simp[BoxRep] at hr2
theorem St.freeze:∀(l:List Nat){bx:Bxs S}{D:Dat}{H:List Wl.Res},St un E N D H e bx a w->∃D' H',St un E N D' H' e (zak l bx) a w/\ids H'=ids H/\Ge D w D' w/\∀k o,D' k o->D k o\/E.may k
 |[],_,D,H,h=>⟨D,H,h,rfl,Ge.refl _ _,λ_ _ h=>.inl h⟩|b::l,bx,D,H,h=>by
   simp only[zak];split;·rename_i u T x hg;obtain ⟨D1,H1,h1,h2,h3,h4⟩:=zmO h hg;obtain ⟨D2,H2,k1,k2,k3,k4⟩:=St.freeze l h1;exact ⟨D2,H2,k1,k2.trans h2,h3.trans k3,λk o hk=>(k4 k o hk).elim (h4 k o) .inr⟩
   ·rename_i u T T2 x hg;obtain ⟨D1,H1,h1,h2,h3,h4⟩:=zpc h hg;obtain ⟨D2,H2,k1,k2,k3,k4⟩:=St.freeze l h1;exact ⟨D2,H2,k1,k2.trans h2,h3.trans k3,λk o hk=>(k4 k o hk).elim (h4 k o) .inr⟩
   ·rename_i k0 v0 x hg;obtain ⟨D1,H1,h1,h2,h3,h4⟩:=zpb h hg;obtain ⟨D2,H2,k1,k2,k3,k4⟩:=St.freeze l h1;exact ⟨D2,H2,k1,k2.trans h2,h3.trans k3,λk o hk=>(k4 k o hk).elim (h4 k o) .inr⟩
   ·exact St.freeze l h
theorem Holds.freeze(l:List Nat){bx:Bxs S}(h:Holds un E D0 N e bx a w):Holds un E D0 N e (zak l bx) a w:=by obtain ⟨D,H,hs,hD,hG⟩:=h;obtain ⟨D',H',k1,_,k3,k4⟩:=hs.freeze l;exact ⟨D',H',k1,λk o hk=>(k4 k o hk).elim (hD k o) .inr,hG.trans k3⟩
theorem zfn:∀(vs cs:List Value)(off:Nat),off+vs.length<=cs.length->za0.spliceV cs off vs=cs.take off++vs++cs.drop (off+vs.length)
 |[],cs,off,_=>by simp[za0.spliceV]
 |v::vs,cs,off,h=>by
   simp only[yAA] at h;rw[za0.spliceV,zfn vs (cs.set off v) (off+1) (by simp;omega)];have h1:(cs.set off v).take (off+1)=cs.take off++[v]:=by
    rw[List.take_set,List.take_succ_eq_append_getElem (by omega)];have:(cs.take off).length=off:=by simp;omega
    rw[List.set_append,if_neg (by omega),this];simp
   have h2:(cs.set off v).drop (off+1+vs.length)=cs.drop (off+1+vs.length):=(by rw[List.drop_set];rw[if_pos (by omega)]);rw[h1,h2];simp[yAX,yBu,yBO 1]
theorem ze7:∀(vs cs:List Value)(off k:Nat),(vs.zipIdx k).foldl (λ(cs:Array Value) (p:Value×Nat)=>cs.setIfInBounds (off+p.2) p.1) cs.toArray=(za0.spliceV cs (off+k) vs).toArray|[],_,_,_=>rfl|v::r,cs,off,k=>by simp only[List.zipIdx_cons,List.foldl_cons,za0.spliceV,List.setIfInBounds_toArray];exact ze7 r (cs.set (off+k) v) off (k+1)
theorem zkt{sz:Nat}:∀(ps:List (Nat×Value))(k:Nat)(cs:List Value)(l:List (Nat×PV S)),zd1 k l=true->ps.map (·.1)=l.map (·.1)->(∀p∈ps,p.2.cells.size=sz)->(k+ps.length)*sz<=cs.length ->
  Instr.fill (λi=>some (i*sz,sz)) cs.toArray ps=some (cs.take (k*sz)++(ps.map (·.2.cells.toList)).flatten++cs.drop ((k+ps.length)*sz)).toArray
 |[],k,cs,l,_,_,_,_=>by simp[Instr.fill]
 |(i,v)::ps,k,cs,[],_,h,_,_=>by simp at h
 |(i,v)::ps,k,cs,(j,p)::l,ho,hm,hsz,hlen=>by
   simp only[zd1,yAd] at ho;have hj:j=k:=yAa ho.1;simp only[yAk,yBp] at hm;have hik:i=k:=hm.1.trans hj;subst hik;have hv:v.cells.size=sz:=hsz (i,v) (by simp);simp only[yAA] at hlen;have hmul:(i+(ps.length+1))*sz=i*sz+sz+ps.length*sz:=by rw[yAv,yAv,yAM];omega
   unfold Instr.fill;simp only;rw[if_neg (by simp[hv];omega)];have hf:=ze7 v.cells.toList cs (i*sz) 0;rw[yBk] at hf;have hsv:=zfn v.cells.toList cs (i*sz) (by simp[hv];omega);have hl2:v.cells.toList.length=sz:=by simp[hv]
   rw[hl2] at hsv;have hlen2:(cs.take (i*sz)++v.cells.toList++cs.drop (i*sz+sz)).length=cs.length:=by simp[hv];omega
   have ih:=zkt ps (i+1) (cs.take (i*sz)++v.cells.toList++cs.drop (i*sz+sz)) l ho.2 hm.2 (λp hp=>hsz p (by simp[hp])) (by rw[hlen2,show i+1+ps.length=i+(ps.length+1) by omega];exact hlen);have hfold:(Array.foldl (λ(cs:Array Value) (x:Value×Nat)=>match x with|(c,j)=>cs.setIfInBounds (i*sz+j) c) cs.toArray v.cells.zipIdx)=(cs.take (i*sz)++v.cells.toList++cs.drop (i*sz+sz)).toArray:=(by rw[<-hsv,<-hf,<-Array.foldl_toList];simp);rw[hfold,ih];congr 2;have e1:(cs.take (i*sz)++v.cells.toList++cs.drop (i*sz+sz)).take ((i+1)*sz)=cs.take (i*sz)++v.cells.toList:=by
    have:(cs.take (i*sz)++v.cells.toList).length=(i+1)*sz:=by rw[yAv,yAM];simp[hv];omega
    rw[<-this,yA5]
   have e2:(cs.take (i*sz)++v.cells.toList++cs.drop (i*sz+sz)).drop ((i+1+ps.length)*sz)=cs.drop ((i+(ps.length+1))*sz):=by have h3:(cs.take (i*sz)++v.cells.toList).length=i*sz+sz:=(by simp[hv];omega);have h4:(i+1+ps.length)*sz=(cs.take (i*sz)++v.cells.toList).length+ps.length*sz:=(by rw[h3,yAv,yAv,yAM]);rw[h4,yBV,yA2 (yCd _ _),yAQ,yAZ,yBl,hmul]
   rw[e1,e2];simp[yAX]
end
end Pe
end
section
/- Calls to which boxes are lent. -/
namespace Pe
open Go Go.RowKit
variable{S:Nat->Type}
section
variable{P:Program}{un:Uni S}{E:Wl.Ctx}{D0:Dat}{N:Wl.Fr}{D D':Dat}{H:List Wl.Res}{e:Env S}{bx:Bxs S}{a:Act}{w w':World}{o:Oper}{R:Type}{r:R}
theorem ziT{b:Nat}:∀{ls:List Nat}{k j:Nat},znB b ls k=some j->∃i,j=k+i/\ls[i]?=some b
 |[],_,_,h=>by cases h
 |i::r,k,j,h=>by
   unfold znB at h;cases hb:Nat.beq i b with
   |true=>rw[hb] at h;cases h;exact ⟨0,rfl,by rw[yAa hb];rfl⟩|false =>rw[hb] at h;obtain ⟨i',h1,h2⟩:=ziT h;exact ⟨i'+1,by omega,by simpa using h2⟩
theorem zh5:∀(l sn:List Nat),∀i∈nub sn l,i∈l
 |[],_,_,h=>by cases h
 |j::r,sn,i,h=>by
   unfold nub at h;cases hc:sn.contains j with
   |true=>rw[hc] at h;exact yAY _ (zh5 r sn i h)|false =>
     rw[hc] at h;rcases yAp.1 h with h|h;·rw[h];exact List.mem_cons_self
     ·exact yAY _ (zh5 r _ i h)
theorem zeW:∀(l sn:List Nat),(nub sn l).Nodup/\∀i∈nub sn l,i∉sn
 |[],_=>⟨List.nodup_nil,λ_ h=>by cases h⟩|i::r,sn=>by
   unfold nub;by_cases hc:sn.contains i=true;·rw[hc];exact zeW r sn
   ·rw[Bool.not_eq_true] at hc;rw[hc];obtain ⟨h1,h2⟩:=zeW r (i::sn);have hi:i∉sn:=by simpa using hc
    refine ⟨yAU.2 ⟨λh=>h2 i h (by simp),h1⟩,λj hj=>?_⟩;rcases yAp.1 hj with rfl|hj;·exact hi
    ·exact λh=>h2 j hj (by simp[h])
def BlocksOf(H:List Wl.Res):List Nat->List Nat->Prop|[],[]=>True|b::bs,g::gs=>(∃T cs,H[b]?=some (.box g T cs))/\BlocksOf H bs gs|_,_=>False
theorem BlocksOf.get:∀{ls gs:List Nat},BlocksOf H ls gs->∀{i b:Nat},ls[i]?=some b->∃g,gs[i]?=some g/\∃T cs,H[b]?=some (.box g T cs)
 |[],[],_,_,_,h=>by simp at h
 |c::bs,g::gs,hb,0,b,h=>by simp only[BlocksOf] at hb;simp at h;subst h;exact ⟨g,rfl,hb.1⟩
 |c::bs,g::gs,hb,i+1,b,h=>by simp only[BlocksOf] at hb;simpa using hb.2.get (by simpa using h)
 |[],_::_,hb,_,_,_=>by simp[BlocksOf] at hb
 |_::_,[],hb,_,_,_=>by simp[BlocksOf] at hb
theorem BlocksOf.mem:∀{ls gs:List Nat},BlocksOf H ls gs->∀{g:Nat},g∈gs->∃b∈ls,∃T cs,H[b]?=some (.box g T cs)
 |[],[],_,_,h=>by cases h
 |c::bs,g::gs,hb,k,h=>by
   simp only[BlocksOf] at hb;rcases yAp.1 h with rfl|h;·exact ⟨c,by simp,hb.1⟩
   ·obtain ⟨b,h1,h2⟩:=hb.2.mem h;exact ⟨b,by simp[h1],h2⟩
 |[],_::_,hb,_,_=>by simp[BlocksOf] at hb
 |_::_,[],hb,_,_=>by simp[BlocksOf] at hb
theorem BlocksOf.mem':∀{ls gs:List Nat},BlocksOf H ls gs->∀{b:Nat},b∈ls->∃g∈gs,∃T cs,H[b]?=some (.box g T cs)
 |[],[],_,_,h=>by cases h
 |c::bs,g::gs,hb,k,h=>by
   simp only[BlocksOf] at hb;rcases yAp.1 h with rfl|h;·exact ⟨g,by simp,hb.1⟩
   ·obtain ⟨b,h1,h2⟩:=hb.2.mem' h;exact ⟨b,by simp[h1],h2⟩
 |[],_::_,hb,_,_=>by simp[BlocksOf] at hb
 |_::_,[],hb,_,_=>by simp[BlocksOf] at hb
theorem BlocksOf.nodup(hd:H.Pairwise Wl.apartR):∀{ls gs:List Nat},BlocksOf H ls gs->ls.Nodup->gs.Nodup
 |[],[],_,_=>List.nodup_nil|c::bs,g::gs,hb,hn=>by simp only[BlocksOf] at hb;obtain ⟨h1,h2⟩:=yAU.1 hn;refine yAU.2 ⟨λhg=>?_,hb.2.nodup hd h2⟩;obtain ⟨b,hb1,T,cs,hb2⟩:=hb.2.mem hg;obtain ⟨T',cs',hc⟩:=hb.1;have:=zaO hd hc hb2 (g:=g) rfl rfl;subst this;exact h1 hb1
 |[],_::_,hb,_=>by simp[BlocksOf] at hb
 |_::_,[],hb,_=>by simp[BlocksOf] at hb
mutual
theorem zmc(hun:UniOk un)(hs:St un E N D H e bx a w){ls gs:List Nat}(hb:BlocksOf H ls gs):∀(p q:PV S)(v:Value),ren ls bx p=some q->Rep un (ids H) D w p v->Rep un (zfX gs) D w q v
 | .ptr b off,q,v,h,hr=>by
   simp only[ren] at h;split at h;·rename_i k hk;cases h;obtain ⟨i,rfl,hi⟩:=ziT hk;obtain ⟨g,h1,T,cs,h2⟩:=hb.get hi;simp only[Rep,ids,yAg,h2,yAf,zaf] at hr ⊢;obtain ⟨g',h3,rfl⟩:=hr;simp at h3;subst h3;exact ⟨g,by simp[h1],rfl⟩
   ·cases h
 | .func f l r,q,v,h,hr=>by
   simp only[ren] at h;split at h;·rename_i l' r' h1 h2;cases h;simp only[Rep] at hr ⊢;obtain ⟨x,y,h3,h4,h5⟩:=hr;exact ⟨x,y,h3,zeR hun hs hb l l' x h1 h4,zeR hun hs hb r r' y h2 h5⟩
   ·cases h
 | .row b,q,v,h,hr=>by
   simp only[ren] at h;have:=hs.fz1 hun hr;split at h;·rename_i u l hf;cases h;rw[hf] at this;simpa only[Rep] using this
   ·cases h
 | .agg l,q,v,h,hr=>by
   simp only[ren] at h;split at h;·rename_i l' h1;cases h;simp only[Rep] at hr ⊢;obtain ⟨x,h3,h4⟩:=hr;exact ⟨x,h3,zeR hun hs hb l l' x h1 h4⟩
   ·cases h
 | .int _ _,q,v,h,hr=>by simp only[ren] at h;cases h;simpa only[Rep] using hr
 | .bool _,q,v,h,hr=>by simp only[ren] at h;cases h;simpa only[Rep] using hr
 | .str _,q,v,h,hr=>by simp only[ren] at h;cases h;simpa only[Rep] using hr
 | .sl _ _,q,v,h,hr=>by simp only[ren] at h;cases h;simpa only[Rep] using hr
 | .nils,q,v,h,hr=>by simp only[ren] at h;cases h;simpa only[Rep] using hr
 | .st _ _,q,v,h,hr=>by simp only[ren] at h;cases h;simpa only[Rep] using hr
 | .nilp,q,v,h,hr=>by simp only[ren] at h;cases h;simpa only[Rep] using hr
 | .nilFunc,q,v,h,hr=>by simp only[ren] at h;cases h;simpa only[Rep] using hr
 | .nilIface,q,v,h,hr=>by simp only[ren] at h;cases h;simpa only[Rep] using hr
 | .tup _,_,_,h,_=>by simp[ren] at h
 | .elp _ _ _,_,_,h,_=>by simp[ren] at h
 | .iface _ _,_,_,h,_=>by simp[ren] at h
 | .junk,_,_,h,_=>by simp[ren] at h
theorem zeR(hun:UniOk un)(hs:St un E N D H e bx a w){ls gs:List Nat}(hb:BlocksOf H ls gs):∀(p q:List (PV S))(v:List Value),zoi ls bx p=some q->RepL un (ids H) D w p v->RepL un (zfX gs) D w q v
 |[],q,v,h,hr=>by simp only[zoi] at h;cases h;cases v<;>simp_all [RepL]
 |p::r,q,v,h,hr=>by
   simp only[zoi] at h;split at h
   ·rename_i q' l h1 h2;cases h;cases v with
    |nil=>simp[RepL] at hr|cons x v =>simp only[RepL] at hr ⊢;exact ⟨zmc hun hs hb p q' x h1 hr.1,zeR hun hs hb r l v h2 hr.2⟩
   ·cases h
end
theorem zg6(hun:UniOk un)(hs:St un E N D H e bx a w){ls gs:List Nat}(hb:BlocksOf H ls gs):∀{us:List (Option U)}{ps t:List (PV S)}{vs:List Value},zhk un ls bx us ps=some t->RepL un (ids H) D w ps vs->RepL un (zfX gs) D w t vs
 |[],[],t,vs,hc,hr=>by simp[zhk] at hc;subst hc;cases vs<;>simp_all [RepL]
 |some u::us,p::ps,t,v::vs,hc,hr=>by
   simp only[RepL] at hr;unfold zhk at hc;split at hc;·rename_i x t' h1 h2;cases hc;simp only[RepL];exact ⟨zbx (zbm hun h1 (hs.fz hun hr.1)).2,zg6 hun hs hb h2 hr.2⟩
   ·cases hc
 |none::us,p::ps,t,v::vs,hc,hr=>by
   simp only[RepL] at hr;unfold zhk at hc;split at hc;·rename_i q t' h1 h2;cases hc;simp only[RepL];exact ⟨zmc hun hs hb p q v h1 hr.1,zg6 hun hs hb h2 hr.2⟩
   ·cases hc
 |some _::_,_::_,_,[],_,hr=>by simp[RepL] at hr
 |none::_,_::_,_,[],_,hr=>by simp[RepL] at hr
 |[],_::_,_,_,hc,_=>by simp[zhk] at hc
 |some _::_,[],_,_,hc,_=>by simp[zhk] at hc
 |none::_,[],_,_,hc,_=>by simp[zhk] at hc
theorem zoY{nu:Nu}{u:U}{cs:List (PV S)}{vs:List Value}(h:RepL un nu D w cs vs):∃v,Rep un nu D w (mkV u cs) v/\((∃n,u= .st n/\v= .agg vs.toArray)\/((∀n,u≠ .st n)/\(vs=[v]\/∃l,mkV u cs= .tup l))):=by
 cases u with
 |st n=>exact ⟨.agg vs.toArray,by simp only[mkV,Rep];exact ⟨vs,rfl,h⟩,.inl ⟨n,rfl,rfl⟩⟩|_ =>
   simp only[mkV]
   match cs,vs,h with
   |[],[],_=>exact ⟨.tuple #[],by simp[zfx,Rep,RepL],.inr ⟨by simp,.inr ⟨_,rfl⟩⟩⟩|[p],[v],h=>exact ⟨v,by simpa[zfx,RepL] using h,.inr ⟨by simp,.inl rfl⟩⟩|p::q::ps,v::x::vs,h=>exact ⟨.tuple (v::x::vs).toArray,by simp only[zfx,Rep];exact ⟨_,rfl,h⟩,.inr ⟨by simp,.inr ⟨_,rfl⟩⟩⟩|[],_::_,h=>simp[RepL] at h|_::_,[],h=>simp[RepL] at h|[_],_::_::_,h=>simp[RepL] at h|_::_::_,[_],h=>simp[RepL] at h
theorem zkO(hun:UniOk un)(hs:St un E N D H e bx a w){u:U}{cs:List (PV S)}{vs:List Value}{x:El S u}(hc:cast un u (fz bx (mkV u cs))=some x)(h:RepL un (ids H) D w cs vs):DR un D w [u] (sg x) vs:=by
 obtain ⟨v,h1,h2⟩:=zoY (un:=un) (u:=u) h;have h3:=(zbm hun hc (hs.fz hun h1)).1;rcases h2 with ⟨n,rfl,rfl⟩|⟨hu,rfl|⟨l,hl⟩⟩;·simpa[Value.cells] using h3
 ·obtain ⟨h4,_⟩:v.cells= #[v]/\True:=by
   have hc':cast0 u (fz bx (mkV u cs))=some x:=(by cases u<;>first|exact absurd rfl (hu _)|simpa[cast] using hc);exact ⟨(zff (un:=un) hc' (hs.fz hun h1)).2.1,trivial⟩
  rw[h4] at h3;exact h3
 ·exfalso;rw[hl] at hc;have:fz bx (.tup l:PV S)= .tup l:=rfl;rw[this] at hc;cases u<;>simp[cast,cast0] at hc
mutual
theorem zoQ{nu:Nu}:∀(p:PV S)(v:Value)(b:Nat),Rep un nu D w p v->b∈p.ptrs->∃g,nu[b]?=some (true,.pointer (some ⟨g,0,none⟩))
 | .ptr i off,v,b,h,hm=>by simp only[PV.ptrs,yA9] at hm;subst hm;simp only[Rep] at h;obtain ⟨g,h1,_⟩:=h;exact ⟨g,h1⟩
 | .func f l r,v,b,h,hm=>by
   simp only[Rep] at h;obtain ⟨a,c,_,h1,h2⟩:=h;simp only[PV.ptrs,yAm] at hm;rcases hm with hm|hm;·exact zgf l a b h1 hm
   ·exact zgf r c b h2 hm
 | .int _ _,_,_,_,hm | .bool _,_,_,_,hm | .str _,_,_,_,hm | .sl _ _,_,_,_,hm | .nils,_,_,_,hm | .st _ _,_,_,_,hm | .agg _,_,_,_,hm | .tup _,_,_,_,hm | .elp _ _ _,_,_,_,hm | .nilp,_,_,_,hm
 | .row _,_,_,_,hm | .ref _,_,_,_,hm | .elr _ _ _ _,_,_,_,hm | .cont _ _,_,_,_,hm | .bref _ _,_,_,_,hm | .rsl _ _ _,_,_,_,hm | .nilFunc,_,_,_,hm | .iface _ _,_,_,_,hm | .nilIface,_,_,_,hm | .junk,_,_,_,hm=>by simp[PV.ptrs] at hm
theorem zgf{nu:Nu}:∀(ps:List (PV S))(vs:List Value)(b:Nat),RepL un nu D w ps vs->b∈zgB ps->∃g,nu[b]?=some (true,.pointer (some ⟨g,0,none⟩))
 |[],_,_,_,hm=>by simp[zgB] at hm
 |p::ps,v::vs,b,h,hm=>by
   simp only[RepL] at h;simp only[zgB,yAm] at hm;rcases hm with hm|hm;·exact zoQ p v b h.1 hm
   ·exact zgf ps vs b h.2 hm
 |_::_,[],_,h,_=>by simp[RepL] at h
end
theorem zkN(hun:UniOk un)(hs:St un E N D H e bx a w):∀{ts:List TypeId}{lc:List U}{ls:List Nat}{c:ElL S lc},zeA un bx ts lc ls=some c->(∀b∈ls,∃g,(ids H)[b]?=some (true,.pointer (some ⟨g,0,none⟩))) ->
  ∃gs,BlocksOf H ls gs/\zaK un D w ts lc c gs/\ts.length=lc.length/\ls.length=ts.length
 |[],[],[],c,_,_=>⟨[],by simp[BlocksOf],by simp[zaK],rfl,rfl⟩|T::ts,u::us,b::bs,c,h,hpt=>by
   unfold zeA at h;split at h
   ·rename_i T' cs hg;split at h
    ·rename_i x t h1 h2;obtain ⟨h3,h4⟩:=zac h;cases h4;simp only[yAd] at h3;have hT:=yAa h3.1.1;subst hT;obtain ⟨gs,k1,k2,k3,k4⟩:=zkN hun hs h2 λb hb=>hpt b (by simp[hb]);obtain ⟨r,hr1,hr2⟩:=hs.boxes.get hg;have hh:=hs.inn.res _ (yAb hr1);cases r with
     |own=>simp[BoxRep] at hr2|ref=>simp[BoxRep] at hr2|wr=>simp[BoxRep] at hr2|nst=>simp[BoxRep] at hr2|omp=>simp[BoxRep] at hr2|it=>simp[BoxRep] at hr2|fix v g size ob =>obtain ⟨g',hg'⟩:=hpt b (by simp);simp only[ids,yAg,hr1,yAf,zaf,yAe,Prod.mk.injEq,true_and] at hg';subst hg';exact absurd hh.1 (zd2 _)
     |box g T2 vs =>simp only[BoxRep] at hr2;obtain ⟨rfl,hl⟩:=hr2;refine ⟨g::gs,by simp only[BlocksOf];exact ⟨⟨_,_,hr1⟩,k1⟩,?_,by simp[k3],by simp[k4]⟩;simp only[zaK];exact ⟨⟨vs,hh.2,zkO hun hs h1 hl⟩,k2⟩
    ·cases h
   ·cases h
 |[],[],_::_,_,h,_=>by simp[zeA] at h
 |[],_::_,_,_,h,_=>by simp[zeA] at h
 |_::_,[],_,_,h,_=>by simp[zeA] at h
 |_::_,_::_,[],_,h,_=>by simp[zeA] at h
theorem zkM:∀{ts:List TypeId}{lc:List U}{ls:List Nat}{c:ElL S lc},zeA un bx ts lc ls=some c->∀b∈ls,∃T cs,zae bx b=some (.var T cs)
 |[],[],[],_,_,b,hb=>by cases hb
 |T::ts,u::us,b::bs,c,h,b',hb=>by
   unfold zeA at h;split at h
   ·rename_i T' cs hg;split at h
    ·rename_i x t h1 h2;rcases yAp.1 hb with rfl|hb;·exact ⟨_,_,hg⟩
     ·exact zkM h2 b' hb
    ·cases h
   ·cases h
 |[],[],_::_,_,h,_,_=>by simp[zeA] at h
 |[],_::_,_,_,h,_,_=>by simp[zeA] at h
 |_::_,[],_,_,h,_,_=>by simp[zeA] at h
 |_::_,_::_,[],_,h,_,_=>by simp[zeA] at h
def ziQ(w':World):Wl.Res->Wl.Res| .box g T _=>.box g T (match w'.heap[g]? with|some (.cells cs _ _)=>cs.toList|_=>[])|r=>r
theorem zgA(w':World)(r:Wl.Res):(ziQ w' r).has=r.has:=by cases r<;>rfl
theorem zkx(w':World)(r:Wl.Res):zaf (ziQ w' r)=zaf r:=by cases r<;>rfl
def relist(w':World)(ls:List Nat):Nat->List Wl.Res->List Wl.Res|_,[]=>[]|k,r::rs=>(bif ls.contains k then ziQ w' r else r)::relist w' ls (k+1) rs
theorem zbH(w':World)(ls:List Nat):∀(H:List Wl.Res)(k i:Nat),(relist w' ls k H)[i]?=(H[i]?).map λr=>bif ls.contains (k+i) then ziQ w' r else r
 |[],_,_=>by simp[relist]
 |r::rs,k,0=>by simp[relist]
 |r::rs,k,i+1=>by simp only[relist,List.getElem?_cons_succ];rw[zbH w' ls rs (k+1) i];rw[show k+1+i=k+(i+1) by omega]
theorem zdn(w':World)(ls:List Nat):∀(H:List Wl.Res)(k:Nat),(relist w' ls k H).length=H.length|[],_=>rfl|r::rs,k=>by simp[relist,zdn w' ls rs (k+1)]
theorem zht{α:Type}(f:Wl.Res->α)(hf:∀r,f (ziQ w' r)=f r)(ls:List Nat)(H:List Wl.Res):(relist w' ls 0 H).map f=H.map f:=by apply yAK;intro i;simp only[yAg,zbH,Option.map_map];congr 1;funext r;simp only[Function.comp];cases ls.contains (0+i)<;>simp[hf]
theorem zhu(ls:List Nat)(H:List Wl.Res):ids (relist w' ls 0 H)=ids H:=zht zaf (zkx w') ls H
theorem In.relist(h:In E D H w){ls gs:List Nat}(hb:BlocksOf H ls gs)(hg:Wl.Grow gs w w')(hc:∀b∈ls,∀g T cs,H[b]?=some (.box g T cs)->∃cs',w'.heap[g]?=some (.cells cs' T (0,0))):In E (zi0 D w w') (Pe.relist w' ls 0 H) w':=by
 have hgs:∀g∈gs,E.may g:=λg hgm=>by obtain ⟨b,_,T,cs,hH⟩:=hb.mem hgm;exact (h.res _ (yAb hH)).1
 refine ⟨⟨hg.os.trans h.out.os,hg.tape.trans h.out.tape,hg.output.trans h.out.output,yAG h.out.size hg.size,λk hk hn=>?_⟩,λk o hk=>?_,λr hr=>?_,λr hr g hgr o hf hD=>?_,?_,λi g hi=>?_⟩
 rotate_left 5
 ·obtain ⟨s,h2,h3,h4,h5⟩:=h.lent i g hi;rw[zbH,h2];simp only[yAf];cases ls.contains (0+i);·exact ⟨s,rfl,h3,h4,h5⟩
  ·exact ⟨ziQ w' s,rfl,by cases s<;>exact h3,(zkx w' s).trans h4,by cases s<;>first|exact h5|exact keptR.box⟩
 ·refine (hg.block k (yAn hk h.out.size) λhk2=>?_).trans (h.out.block k hk hn);rcases hgs k hk2 with h1|h1;·omega
  ·exact hn h1
 ·rcases hk with hk|hk;·exact yAn (h.lt k o hk) hg.size
  ·exact hk.2
 ·rcases yAj hr with ⟨i,hi⟩;rw[zbH] at hi;cases hH:H[i]? with
  |none=>rw[hH] at hi;cases hi|some s =>
    rw[hH] at hi;simp only[yAf,yAe,yAH] at hi;have hs:=h.res s (yAb hH);by_cases hil:i∈ls
    ·have:ls.contains i=true:=by simpa using hil
     rw[this] at hi;simp only[cond_true] at hi;obtain ⟨g,_,T,cs,hH2⟩:=hb.mem' hil;rw[hH] at hH2;cases hH2;obtain ⟨cs',hc'⟩:=hc i hil g T cs hH;subst hi;exact ⟨hs.1,by simp[hc']⟩
    ·have:ls.contains i=false:=by simpa using hil
     rw[this] at hi;simp only[cond_false] at hi;subst hi;refine Wl.Res.holds_of hs λg hgb=>hg.block g (Wl.Res.holds_lt hs hgb).2 λhgm=>?_;obtain ⟨b,hbl,T,cs,hH2⟩:=hb.mem hgm;have:=zaO h.disj hH hH2 hgb rfl;subst this;exact hil hbl
 ·rcases yAj hr with ⟨i,hi⟩;rw[zbH] at hi;cases hH:H[i]? with
  |none=>rw[hH] at hi;cases hi|some s =>
    rw[hH] at hi;simp only[yAf,yAe,yAH] at hi;have hsm:=yAb hH;have hbs:s.has g:=by rw[<-hi] at hgr;cases hcc:ls.contains i<;>rw[hcc] at hgr<;>simpa[zgA] using hgr
    have hfs:ziv s o:=by
     rw[<-hi] at hf;cases hcc:ls.contains i<;>rw[hcc] at hf;·exact hf
     ·cases s<;>first|exact hf|trivial
    rcases hD with hD|hD;·exact h.apart s hsm g hbs o hfs hD
    ·have:=(Wl.Res.holds_lt (h.res s hsm) hbs).2;omega
 ·have h1:(H.map Wl.Res.has).Pairwise (λx y=>∀g,x g->¬y g):=by rw[yB8];exact h.disj
  rw[<-zht (w':=w') Wl.Res.has (zgA w') ls H,yB8] at h1;exact h1
theorem Ge.grow(h:In E D H w){gs:List Nat}(hg:Wl.Grow gs w w')(hd:∀g∈gs,∀o,¬D g o):Ge D w (zi0 D w w') w' :=
 (.of (λ_ _ hk=>.inl hk) λk o hk=>(hg.block k (h.lt k o hk) λhk2=>hd k hk2 o hk))
theorem BxRep.of_get'{nu:Nu}:∀{bx:Bxs S}{H:List Wl.Res},bx.length=H.length->(∀(i:Nat) b r,zae bx i=some b->H[i]?=some r->BoxRep un nu D w E false b r)->BxRep un nu D w E bx H
 |[],[],_,_=>by simp[BxRep]
 |b::bs,r::rs,hl,h=>by simp only[BxRep];exact ⟨h 0 b r rfl rfl,BxRep.of_get' (by simpa using hl) λi b r hb hr=>h (i+1) b r hb (by simpa using hr)⟩
 |[],_::_,hl,_=>by simp at hl
 |_::_,[],hl,_=>by simp at hl
theorem zcR:∀{bx:Bxs S}{j:Nat}{y z:Box S},zae (zau bx j y) j=some z->z=y
 |[],_,_,_,h=>by simp[zau,zae] at h
 |_::_,0,_,_,h=>by simp[zau,zae] at h;exact h.symm
 |_::r,n+1,_,_,h=>by simp only[zau,zae] at h;exact zcR h
theorem zfW:∀(ts:List TypeId)(lc:List U)(ls:List Nat)(t:ElL S lc)(bx:Bxs S),(zfs un ts lc ls t bx).length=bx.length
 |[],_,_,_,_=>by simp[zfs]
 |_::_,[],_,_,_=>by simp[zfs]
 |_::_,_::_,[],_,_=>by simp[zfs]
 |T::ts,u::us,b::bs,t,bx=>by simp only[zfs];rw[zfW,zaA]
theorem ziS(hf:zkk un){nu:Nu}{H':List Wl.Res}:∀{ts:List TypeId}{lc:List U}{ls gs:List Nat}{t:ElL S lc}{bx:Bxs S},zaK un D w ts lc t gs->(∀(b g:Nat),(b,g)∈ls.zip gs->∀r T cs,H'[b]?=some r->w.heap[g]?=some (.cells cs T (0,0))->r= .box g T cs.toList) ->
  ls.length=ts.length->(∀(i:Nat) b r,i∉ls->zae bx i=some b->H'[i]?=some r->BoxRep un nu D w E false b r)->∀(i:Nat) b r,zae (zfs un ts lc ls t bx) i=some b->H'[i]?=some r->BoxRep un nu D w E false b r
 |[],[],[],[],_,_,_,_,_,h,i,b,r,hb,hr=>h i b r (by simp) (by simpa[zfs] using hb) hr|T::ts,u::us,b::bs,g::gs,t,bx,hl,hz,hlen,h,i,b',r,hb,hr=>by
   simp only[zaK] at hl;simp only[zfs] at hb;refine ziS hf (ls:=bs) hl.2 (λb g hm=>hz b g (by simp[hm])) (by simpa using hlen) (λi b' r hi hb hr=>?_) i b' r hb hr;by_cases hib:i=b;·subst hib;have:=zcR hb;subst this;obtain ⟨cs,h1,h2⟩:=hl.1;have:=hz i g (by simp) r T cs.toArray hr h1;subst this;simp only[BoxRep];exact ⟨trivial,zb5 hf h2⟩
   ·rw[zai hib] at hb;exact h i b' r (by simp[hi,hib]) hb hr
 |[],[],_::_,_,_,_,_,_,hlen,_,_,_,_,_,_=>by simp at hlen
 |_::_,_::_,[],_,_,_,_,_,hlen,_,_,_,_,_,_=>by simp at hlen
 |_::_,_::_,_::_,[],_,_,hl,_,_,_,_,_,_,_,_=>by simp[zaK] at hl
 |[],_::_,_,_,_,_,hl,_,_,_,_,_,_,_,_=>by simp[zaK] at hl
 |_::_,[],_,_,_,_,hl,_,_,_,_,_,_,_,_=>by simp[zaK] at hl
 |[],[],[],_::_,_,_,hl,_,_,_,_,_,_,_,_=>by simp[zaK] at hl
theorem zhz(un:Uni S):∀(u:U)(x:El S u),(zdB un u x).length=U.size un u
 | .st n,x=>by
   have:∀(us:List U)(t:ElL S us),(zcp us t).length=us.length:=by
    intro us;induction us with
    |nil=>intro t;rfl
    |cons u us ih=>intro t;simp[zcp,ih]
   simp only[zdB,U.size];exact this _ _
 | .int _,_=>rfl| .bool,_=>rfl| .str,_=>rfl| .sl _,_=>rfl| .mp _ _,_=>rfl| .rw _,_=>rfl| .fm _ _,_=>rfl| .cs _,_=>rfl
def Same(bx0 bx:Bxs S):Prop:=∀b T cs,zae bx0 b=some (.var T cs)->∃cs',zae bx b=some (.var T cs')/\cs'.length=cs.length
theorem zhx:∀{ts:List TypeId}{lc:List U}{ls:List Nat}{c:ElL S lc}(t:ElL S lc)(bx':Bxs S),zeA un bx ts lc ls=some c->Same bx bx'->PresB bx bx'->PresB bx (zfs un ts lc ls t bx')
 |[],[],[],_,_,_,_,_,h=>by simpa[zfs] using h
 |T::ts,u::us,b::bs,c,t,bx',h,hs,hp=>by
   unfold zeA at h;split at h
   ·rename_i T' cs hg;split at h
    ·rename_i x t' h1 h2;obtain ⟨h3,h4⟩:=zac h;simp only[yAd] at h3;have hT:=yAa h3.1.1;subst hT;have hlen:=yAa h3.1.2;simp only[zfs];obtain ⟨cs1,hb1,hl1⟩:=hs b _ _ hg;refine zhx t.2 _ h2 (λb2 T2 cs2 hg2=>?_) (hp.trans (PresB.set hb1 rfl λT3 cs3 he=>by cases he;exact ⟨_,rfl,by rw[zhz];omega⟩));obtain ⟨cs3,hb3,hl3⟩:=hs b2 T2 cs2 hg2;by_cases hbb:b2=b;·subst hbb;rw[hg] at hg2;cases hg2;exact ⟨_,zbY hb1,by rw[zhz];omega⟩
     ·exact ⟨cs3,by rw[zai hbb];exact hb3,hl3⟩
    ·cases h
   ·cases h
 |[],[],_::_,_,_,_,h,_,_=>by simp[zeA] at h
 |[],_::_,_,_,_,_,h,_,_=>by simp[zeA] at h
 |_::_,[],_,_,_,_,h,_,_=>by simp[zeA] at h
 |_::_,_::_,[],_,_,_,h,_,_=>by simp[zeA] at h
theorem zdv:∀(ls:List Nat)(bx:Bxs S),(zep ls bx).length=bx.length|[],_=>rfl|b::bs,bx=>by simp only[zep];rw[zdv bs];split<;>simp[zaA]
theorem zo5{nu:Nu}:∀{cs:List (PV S)}{vs:List Value},cs.length=vs.length->RepL un nu D w (cs.map λ_=>.junk) vs
 |[],[],_=>by simp[RepL]
 |_::cs,_::vs,h=>by simp only[yAk,RepL,Rep];exact ⟨trivial,zo5 (by simpa using h)⟩
 |[],_::_,h=>by simp at h
 |_::_,[],h=>by simp at h
theorem zfD:∀(ls:List Nat)(bx:Bxs S)(i:Nat)(b:Box S),zae (zep ls bx) i=some b->(i∉ls/\zae bx i=some b)\/(i∈ls/\∃b0,zae bx i=some b0/\((∀T cs,b0= .var T cs->b= .var T (cs.map λ_=>.junk))/\((∀T cs,b0≠ .var T cs)->b=b0)))
 |[],bx,i,b,h=>.inl ⟨by simp,h⟩|c::cs,bx,i,b,h=>by
   simp only[zep] at h;rcases zfD cs _ i b h with ⟨h1,h2⟩|⟨h1,b0,h2,h3,h4⟩
   ·by_cases hic:i=c
    ·subst hic;right;refine ⟨by simp,?_⟩;split at h2;·rename_i T cs2 hg;have:=zcR h2;subst this;exact ⟨_,hg,λT' cs' he=>by cases he;rfl,λhn=>absurd rfl (hn _ _)⟩
     ·rename_i hn;exact ⟨b,h2,λT' cs' he=>by subst he;exact absurd h2 (hn _ _),λ_=>rfl⟩
    ·left;refine ⟨by simp[h1,hic],?_⟩;split at h2;·rw[zai hic] at h2;exact h2
     ·exact h2
   ·right;refine ⟨by simp[h1],?_⟩;by_cases hic:i=c
    ·subst hic;split at h2;·rename_i T cs2 hg;have:=zcR h2;subst this;refine ⟨_,hg,λT' cs' he=>?_,λhn=>absurd rfl (hn _ _)⟩;cases he;rw[h3 _ _ rfl];simp
     ·exact ⟨b0,h2,h3,h4⟩
    ·split at h2;·rw[zai hic] at h2;exact ⟨b0,h2,h3,h4⟩
     ·exact ⟨b0,h2,h3,h4⟩
theorem zeB:∀(ls:List Nat)(bx:Bxs S),PresB bx (zep ls bx)
 |[],bx=>PresB.refl bx|b::bs,bx=>by
   simp only[zep];refine PresB.trans ?_ (zeB bs _);split;·rename_i T cs hg;exact PresB.set hg rfl λT' cs' he=>by cases he;exact ⟨_,rfl,by simp⟩
   ·exact PresB.refl bx
theorem zop(hun:UniOk un){c:Call}{f:FuncId}{l:List (PV S)}(hen:zcT e c=some (f,l))(ho:o.op= .call c)(hcf:∀args w,(callFunc f args).run P w= .ok (.enter f args) w)
  {ls:List Nat} (hls:ls.Nodup) (hlm:∀b∈ls,b∈zgB l) {args:Option (List (PV S))} {ts:List TypeId} {lc rs ps:List U} {pan:TypeId} {ask:List (PV S)->ElL S lc->Option (Out S lc rs ps)} {K:PV S->Env S->Bxs S->Option R} {KX:Exit->Env S->Bxs S->Option R}
  (h:zgX un e bx ls args ts lc rs ps pan ask K KX=some r)
  (hargs:∀t,args=some t->∀D H a w gs,St un E N D H e bx a w->BlocksOf H ls gs->∀vs,RepL un (ids H) D w l vs->RepL un (zfX gs) D w t vs)
  (hask:∀t c r,ask t c=some r->zpw P un f t ts lc c rs ps pan r)
  (hd:∀d,o.dst=some d->d<N.n) (hs:Holds un E D0 N e bx a w) {next:Act->World->Prop} {Q:Exit->Act->World->Prop}
  (hk:∀p e' bx',K p e' bx'=some r->Pres [] e e'->PresB bx bx'->∀a' w',Holds un E D0 N (push o.dst p e') bx' a' w'->next a' w')
  (hx:∀x e' bx',KX x e' bx'=some r->Pres [] e e'->PresB bx bx'->∀a' w',Holds un E D0 N e' bx' a' w'->Q x a' w'):o.wp P a w next Q:=by
 unfold zgX at h;split at h
 ·rename_i t cc hcc;obtain ⟨D,H,hs,hD,hG⟩:=hs;obtain ⟨vs,g1,g2⟩:=zcF hs hen ho hcf;obtain ⟨gs,hb,hl,hlen1,hlen2⟩:=zkN hun hs hcc λb hb=>zgf _ _ b g2 (hlm b hb);have hgD:∀g∈gs,∀o,¬D g o:=λg hg o=>by
   obtain ⟨b,_,T,cs,hH⟩:=hb.mem hg;exact hs.inn.apart _ (yAb hH) g rfl o trivial
  unfold Oper.wp;rw[g1];cases hr:ask t cc with
  |none=>rw[hr] at h;simp[oc] at h|some res =>
    rw[hr] at h;refine (hask t cc res hr D w vs gs (hs.tabL λg hg=>by obtain ⟨b,_,T,cs,hH⟩:=hb.mem hg;exact (Wl.Res.holds_lt (hs.inn.res _ (yAb hH)) rfl).1) hs.inn.lt (hb.nodup hs.inn.disj hls) hgD hl (hargs t rfl D H a w gs hs hb vs g2)).mono λx w1 hx1=>?_;obtain ⟨hg,hx1⟩:=hx1;have hge:=Ge.grow hs.inn hg hgD;have hD':∀k o,zi0 D w w1 k o->D0 k o\/E.may k:=λk o hk=>by
     rcases hk with hk|hk;·exact hD k o hk
     ·exact .inr (.inl (yAG hs.inn.out.size hk.1))
    have hbl:∀(b g:Nat),(b,g)∈ls.zip gs->∃T cs,H[b]?=some (.box g T cs):=by
     clear hl hx1 hge hgD hg hlen2 hargs hls hcc h hlm;intro b g hm;induction ls generalizing gs with
     |nil=>simp at hm|cons c bs ih =>
       cases gs with
       |nil=>simp at hm|cons g' gs =>
         simp only[BlocksOf] at hb;simp only[yBi,yAp,Prod.mk.injEq] at hm;rcases hm with ⟨rfl,rfl⟩|hm;·exact hb.1
         ·exact ih gs hb.2 hm
    cases res with
    |inl out =>
      obtain ⟨⟨v,rfl,hv⟩,hl'⟩:=hx1;simp only[oc] at h;have hcells:∀b∈ls,∀g T cs,H[b]?=some (.box g T cs)->∃cs',w1.heap[g]?=some (.cells cs' T (0,0)):=by
       have:∀{ts:List TypeId}{lc:List U}{ls gs:List Nat}{c c':ElL S lc}{D D':Dat},zaK un D w ts lc c gs->zaK un D' w1 ts lc c' gs->BlocksOf H ls gs->∀b∈ls,∀g T cs,H[b]?=some (.box g T cs)->∃cs',w1.heap[g]?=some (.cells cs' T (0,0)):=by
        intro ts;induction ts with
        |nil =>intro lc ls gs c c' D D' k1 k2 k3 b hbm;cases lc<;>cases gs<;>cases ls<;>simp_all [zaK,BlocksOf]
        |cons T0 ts ih =>
          intro lc ls gs c c' D D' k1 k2 k3 b hbm g T cs hH;cases lc with
          |nil=>simp[zaK] at k1|cons u us =>
            cases gs with
            |nil=>simp[zaK] at k1|cons g0 gs =>
              cases ls with
              |nil=>cases hbm|cons b0 bs =>
                simp only[zaK] at k1 k2;simp only[BlocksOf] at k3;rcases yAp.1 hbm with rfl|hbm
                ·obtain ⟨⟨T1,cs1,k4⟩,k5⟩:=k3;rw[hH] at k4;cases k4;obtain ⟨⟨cs2,k6,_⟩,_⟩:=k1;obtain ⟨⟨cs3,k7,_⟩,_⟩:=k2;have:=(hs.inn.res _ (yAb hH)).2;rw[k6] at this;simp at this;rw[<-this.2];exact ⟨_,k7⟩
                ·exact ih k1.2 k2.2 k3.2 b hbm g T cs hH
       exact this hl hl' hb
      have hin:=hs.inn.relist hb hg hcells;have hids:=zhu (w':=w1) ls H;refine hk _ _ _ h (Pres.refl _ _) (zhx _ _ hcc (λb T cs h=>⟨cs,h,rfl⟩) (PresB.refl _)) _ _ ⟨_,_,hs.step hin ?_ (λi q hi=>?_) hd ?_,hD',hG.trans hge⟩
      ·refine BxRep.of_get' (by rw[zfW,zdn];exact hs.boxes.length) ?_;refine ziS hun.flat hl' (λb g hm r T cs hr hw=>?_) hlen2 (λi b r hi hgb hr=>?_)
       ·obtain ⟨T1,cs1,hH⟩:=hbl b g hm;rw[zbH,hH] at hr;have hbm:ls.contains b=true:=by simpa using (List.of_mem_zip hm).1
        simp only[yAf,yAH,hbm,cond_true,yAe] at hr;subst hr;obtain ⟨cs',hc'⟩:=hcells b (List.of_mem_zip hm).1 g T1 cs1 hH;rw[hc'] at hw;cases hw;simp[ziQ,hc']
       ·rw[hids];rw[zbH] at hr;have hbm:ls.contains i=false:=by simpa using hi
        obtain ⟨r0,hr1,hr2⟩:=hs.boxes.get hgb;rw[hr1] at hr;simp only[yAf,yAH,hbm,cond_false,yAe] at hr;subst hr;exact hr2.mono hge (zap hs.inn.out hin.out) λ_ _ h=>h
      ·rw[hids];exact (hs.slots i q hi).ge hge λ_ _ h=>h
      ·exact hv.ge (Ge.refl _ _) λi x h=>by simp at h
    |inr p =>
      obtain ⟨rfl,hsl⟩:=hx1;simp only[oc] at h;have hcells:∀b∈ls,∀g T cs,H[b]?=some (.box g T cs)->∃cs',cs'.size=cs.length/\w1.heap[g]?=some (.cells cs' T (0,0)):=λb hbm g T cs hH=>by obtain ⟨g',hgm,T',cs',hH'⟩:=hb.mem' hbm;rw[hH] at hH';cases hH';obtain ⟨cs2,h1,h2⟩:=hsl g hgm T cs.toArray (hs.inn.res _ (yAb hH)).2;exact ⟨cs2,by simpa using h1,h2⟩
      have hin:=hs.inn.relist hb hg λb hbm g T cs hH=>(hcells b hbm g T cs hH).imp λ_ h=>h.2;have hids:=zhu (w':=w1) ls H;refine hx _ _ _ h (Pres.refl _ _) (zeB _ _) _ _ ⟨_,_,⟨hin,hs.size,hs.defers,?_,λi q hi=>?_⟩,hD',hG.trans hge⟩
      ·refine BxRep.of_get' (by rw[zdv,zdn];exact hs.boxes.length) λi b r hgb hr=>?_;rw[hids];rw[zbH] at hr;rcases zfD ls bx i b hgb with ⟨h1,h2⟩|⟨h1,b0,h2,h3,_⟩
       ·have hbm:ls.contains i=false:=(by simpa using h1);obtain ⟨r0,hr1,hr2⟩:=hs.boxes.get h2;rw[hr1] at hr;simp only[yAf,yAH,hbm,cond_false,yAe] at hr;subst hr;exact hr2.mono hge (zap hs.inn.out hin.out) λ_ _ h=>h
       ·have hbm:ls.contains i=true:=(by simpa using h1);obtain ⟨T,cs,hv⟩:=zkM hcc i h1;rw[h2] at hv;cases hv;obtain ⟨r0,hr1,hr2⟩:=hs.boxes.get h2;rw[hr1] at hr;simp only[yAf,yAH,hbm,cond_true,yAe] at hr;subst hr;rw[h3 T cs rfl];cases r0 with
        |own=>simp[BoxRep] at hr2|wr=>simp[BoxRep] at hr2|nst=>simp[BoxRep] at hr2|omp=>simp[BoxRep] at hr2|it=>simp[BoxRep] at hr2|fix =>obtain ⟨g',hgm,T',cs',hH'⟩:=hb.mem' h1;rw[hr1] at hH';cases hH'
        |ref=>simp[BoxRep] at hr2|box g T2 vs =>simp only[BoxRep] at hr2;obtain ⟨rfl,hl2⟩:=hr2;obtain ⟨cs',hc1,hc2⟩:=hcells i h1 g _ vs hr1;simp only[ziQ,hc2,BoxRep];refine ⟨trivial,zo5 ?_⟩;rw[hl2.length];simpa using hc1.symm
      ·rw[hids];exact (hs.slots i q hi).ge hge λ_ _ h=>h
 ·cases h
end
end Pe
end
section
/- Any operation, carried out. -/
namespace Pe
open Go Go.RowKit
variable{S:Nat->Type}
section
variable{P:Program}{un:Uni S}{tb:Tb S}{orc:Orc S}{inl:Inl S}{E:Wl.Ctx}{D0:Dat}{N:Wl.Fr}{D D':Dat}{H:List Wl.Res}{e:Env S}{bx:Bxs S}{a:Act}{w w':World}{o:Oper}{R:Type}{r:R}
theorem zd8(w:World)(t:TypeId)(v:Value):(newVar t v).run P w= .ok ⟨w.heap.size,0,none⟩ (w.alloc (.cells v.cells t)):=by simp[newVar,newRow]
theorem PartsRep.split{nu:Nu}:∀{l:List (Nat×PV S)}{pv:List (Nat×Value)},PartsRep un nu D w l pv->RepL un nu D w (l.map (·.2)) (pv.map (·.2))/\pv.map (·.1)=l.map (·.1)
 |[],[],_=>⟨by simp[RepL],rfl⟩|(i,p)::l,(j,v)::pv,h=>by simp only[PartsRep] at h;obtain ⟨rfl,h1,h2⟩:=h;obtain ⟨g1,g2⟩:=PartsRep.split h2;exact ⟨by simp only[yAk,RepL];exact ⟨h1,g1⟩,by simp[g2]⟩
 |[],_::_,h=>by simp[PartsRep] at h
 |_::_,[],h=>by simp[PartsRep] at h
theorem zeI(hun:UniOk un)(hs:St un E N D H e bx a w){u:U}:∀{ps:List (PV S)}{vs:List Value}{xs:List (El S u)},zd4 un bx u ps=some xs->RepL un (ids H) D w ps vs ->
  xs.length=vs.length/\(∀v∈vs,v.cells.size=U.size un u)/\∀(i:Nat) x,xs[i]?=some x->DR un D w [u] (sg x) (((vs.map (·.cells.toList)).flatten.drop (i*U.size un u)).take (U.size un u))
 |[],[],xs,h,_=>by simp[zd4] at h;subst h;simp
 |p::ps,v::vs,xs,h,hr=>by
   simp only[RepL] at hr;unfold zd4 at h;split at h
   ·rename_i x l h1 h2;cases h;obtain ⟨g1,g2,g3⟩:=zeI hun hs h2 hr.2;have hd:=(zbm hun h1 (hs.fz hun hr.1)).1;have hsz:v.cells.size=U.size un u:=by have:=hd.length hun.flat;simpa[zcr] using this
    refine ⟨by simp[g1],λy hy=>?_,λi y hi=>?_⟩
    ·rcases yAp.1 hy with rfl|hy;·exact hsz
     ·exact g2 y hy
    ·simp only[yAk,yBy];have hl:v.cells.toList.length=U.size un u:=by simpa using hsz
     cases i with
     |zero =>simp at hi;subst hi;rw[yBw,yBC,<-hl,yA5];exact hd|succ i =>have hi':l[i]?=some y:=(by simpa using hi);have:=g3 i y hi';rw[show (i+1)*U.size un u=v.cells.toList.length+i*U.size un u by rw[hl,yAv,yAM,yBO],zcJ];exact this
   ·cases h
 |[],_::_,_,_,hr=>by simp[RepL] at hr
 |_::_,[],_,_,hr=>by simp[RepL] at hr
theorem zeE{sz:Nat}:∀(vs:List Value),(∀v∈vs,v.cells.size=sz)->((vs.map (·.cells.toList)).flatten).length=vs.length*sz
 |[],_=>by simp
 |v::vs,h=>by simp only[yAk,yBy,yAD,yAA];rw[zeE vs λy hy=>h y (by simp[hy]),yAv,yAM];have:=h v (by simp);simp[this];omega
theorem zen{T:TypeId}{u:U}{t:TypeId}(hu:P.underlying t=some (.slice T))(hT:ElOk P un T u){n:Nat}{pv:List (Nat×Value)}{l:List (Nat×PV S)}(ho:zd1 0 l=true)(hm:pv.map (·.1)=l.map (·.1))(hn:pv.length=n)(hsz:∀p∈pv,p.2.cells.size=U.size un u)(hlim:n*U.size un u<=16777216)(w:World) :
  (Instr.buildSlice t n pv.toArray).run P w= .ok (.slice (some ⟨w.heap.size,0,none⟩) n n) (w.alloc (.cells ((pv.map (·.2)).map (·.cells.toList)).flatten.toArray T)):=by
 obtain ⟨j,z,e1,e2,e3,e4,e5,e6⟩:=hT.info;have hlim':¬(16777216<n*U.size un u):=by omega
 have key:∀A:Array Value,A.size=n*U.size un u->Instr.fill (λi=>some (i*U.size un u,U.size un u)) A pv=some ((pv.map (·.2)).map (·.cells.toList)).flatten.toArray:=by intro A hA;have:=zkt (S:=S) pv 0 A.toList l ho hm hsz (by simp[hn,hA]);rw[show A=A.toList.toArray by simp,this];rw[yBw,List.take_zero,yAZ,yAH,hn];rw[yA2 (by simp[hA]),yAW,List.map_map];rfl
 by_cases h0:n*U.size un u=0;·have hk:=key ((Array.range (n*U.size un u)).map λx=>(#[]:Array Value)[x % (#[]:Array Value).size]!) (by simp);simp only[Instr.buildSlice,Sem.run_bind,run_underlying hu,Go.sizeOf,typeInfo];simp[e1,e3,h0,newRow];simp[h0] at hk;rw[hk];simp
 ·have hk:=key ((Array.range (n*U.size un u)).map λx=>z.cells[x % z.cells.size]!) (by simp);simp only[Instr.buildSlice,Sem.run_bind,run_underlying hu,Go.sizeOf,typeInfo];simp[e1,e3,hlim',h0,newRow,zeroValue,typeInfo,e2];rw[hk];simp
theorem ziq(hun:UniOk un){T:TypeId}{u:U}{t:TypeId}(hu:P.underlying t=some (.slice T))(hT:ElOk P un T u){n:Nat}{parts:List (Nat×Operand)}{l:List (Nat×PV S)}{xs:List (El S u)}(hs:St un E N D H e bx a w)(hp:zct e parts=some l)(ho:zd1 0 l=true)(hln:l.length=n)(hlim:n*U.size un u<=16777216)
  (hx:zd4 un bx u (l.map (·.2))=some xs) (hD:∀k o,D k o->D0 k o\/E.may k) (hG:Ge D0 E.w D w) {dst:Option Nat} (hd:∀d,dst=some d->d<N.n) :
  ∃v' w',(Instr.buildSlice t n (parts.map λp=>(p.1,a.eval p.2)).toArray).run P w= .ok v' w'/\Holds un E D0 N (push dst (.row bx.length) e) (bx++[.own u T xs]) (a.put dst v') w':=by
 obtain ⟨hr,hm⟩:=(hs.parts hp).split;obtain ⟨g1,g2,g3⟩:=zeI hun hs hx hr;have hpl:(parts.map λp=>(p.1,a.eval p.2)).length=n:=by have:=congrArg List.length hm;simpa[hln] using this
 have hrun:=zen (P:=P) (un:=un) hu hT ho hm hpl (λp hp=>g2 _ (yBd.2 ⟨p,hp,rfl⟩)) hlim w;refine ⟨_,_,hrun,?_⟩;obtain ⟨j,z,e1,e2,e3,e4,e5,e6⟩:=hT.info;have hxn:xs.length=n:=by rw[g1];simpa using hpl
 have hfl:(((parts.map λp=>(p.1,a.eval p.2)).map (·.2)).map (·.cells.toList)).flatten.length=n*U.size un u:=by rw[zeE _ g2];congr 1;simpa using hpl
 have hb:Below w.heap.size w (w.alloc (.cells (((parts.map λp=>(p.1,a.eval p.2)).map (·.2)).map (·.cells.toList)).flatten.toArray T)):=(Below.refl _ _).alloc (yAl _) _;have hnm:n<=maxLen:=by have:n*1<=n*U.size un u:=Nat.mul_le_mul_left _ e5;unfold maxLen;omega
 have hown:(w.alloc (.cells (((parts.map λp=>(p.1,a.eval p.2)).map (·.2)).map (·.cells.toList)).flatten.toArray T)).ownsRow 0 T (U.size un u) (.slice (some ⟨w.heap.size,0,none⟩) n n) n (((parts.map λp=>(p.1,a.eval p.2)).map (·.2)).map (·.cells.toList)).flatten:=by refine ⟨hfl,.inr ⟨w.heap.size,n,_,rfl,yAF _,heap_alloc_new w _,yAl _,hnm,by simpa using hfl,?_⟩⟩;rw[yBj (by simpa using Nat.le_of_eq hfl)]
 have hin:In E (ziU D (.slice (some ⟨w.heap.size,0,none⟩) n n) (n*U.size un u)) (H++[.own (.slice (some ⟨w.heap.size,0,none⟩) n n) T (U.size un u) n (((parts.map λp=>(p.1,a.eval p.2)).map (·.2)).map (·.cells.toList)).flatten]) (w.alloc (.cells (((parts.map λp=>(p.1,a.eval p.2)).map (·.2)).map (·.cells.toList)).flatten.toArray T)):=by
  refine hs.inn.push hb ⟨(Wl.rowAt_of hown).1,λg hg=>by simp[Value.ownBlock] at hg;subst hg;exact .inl hs.inn.out.size⟩ (λg hg=>by simp[Wl.Res.has,Value.ownBlock] at hg;omega) (λk o hk=>?_) (λk o hk=>?_) (λg hg o hf hd=>?_)
  ·rcases hk with hk|hk;·exact .inl hk
   ·exact .inr ⟨hk.1,by simp only[ziv,Wl.offV];omega⟩
  ·rcases hk with hk|hk;·exact yAn (hs.inn.lt k o hk) hb.size
   ·exact (World.ownsRow.lt hown k hk.1).2
  ·simp[Wl.Res.has,Value.ownBlock] at hg;simp only[ziv,Wl.offV] at hf;rcases hd with hd|hd;·have:=hs.inn.lt g o hd;omega
   ·omega
 have hge:Ge D w (ziU D (.slice (some ⟨w.heap.size,0,none⟩) n n) (n*U.size un u)) (w.alloc (.cells (((parts.map λp=>(p.1,a.eval p.2)).map (·.2)).map (·.cells.toList)).flatten.toArray T)):=(.of (λ_ _ h=>.inl h) λk o hk=>(hb.block k (hs.inn.lt k o hk)));refine ⟨_,_,hs.step hin ?_ (λi q hi=>(hs.slots i q hi).ge hge (zbe H _)) hd ?_,zgc hD (λg hg=>by simp[Value.ownBlock] at hg;subst hg;exact .inl hs.inn.out.size),hG.trans hge⟩;·refine (hs.boxes.mono hge (zap hs.inn.out hin.out) (zbe H _)).push ?_;simp only[BoxRep];exact ⟨trivial,trivial,hxn.symm,λg hg o ho=>.inr ⟨hg,by simp only[Wl.offV] at ho;omega⟩,λi x hi=>(g3 i x hi).mono hge⟩
 ·simp only[Rep];refine ⟨?_,rfl,rfl⟩;rw[hs.boxes.length,zcQ];rfl
theorem zfT(g:Nat)(T:TypeId):∀(vs cs:List Value)(off:Nat)(w:World),w.heap[g]?=some (.cells cs.toArray T (0,0)) ->
  (w.setCells g off vs).heap[g]?=some (.cells (za0.spliceV cs off vs).toArray T (0,0))/\w.grownBy (w.setCells g off vs) (some g)
 |[],cs,off,w,h=>⟨h,World.grownBy.refl w _⟩|v::r,cs,off,w,h=>by
   have h1:(w.setCell ⟨g,off,none⟩ v).heap[g]?=some (.cells (cs.set off v).toArray T (0,0)):=(by simp[World.setCell,yA4,h])
   have h2:w.grownBy (w.setCell ⟨g,off,none⟩ v) (some g) :=
    ⟨rfl,rfl,rfl,by simp[World.setCell],λk _ hne=>Below.heap_setCell w _ v k (λe=>hne (by rw[e]))⟩
   obtain ⟨i1,i2⟩:=zfT g T r (cs.set off v) (off+1) _ h1;refine ⟨i1,⟨i2.os.trans h2.os,i2.tape.trans h2.tape,i2.output.trans h2.output,yAG h2.size i2.size,λk hk hne=>(i2.block k (yAn hk h2.size) hne).trans (h2.block k hk hne)⟩⟩
theorem zkn(hun:UniOk un){t:TypeId}{row:TyRow S}(hrow:RowOk P un t row){b off:Nat}{T:TypeId}{cs:List (PV S)}{p:PV S}{v x:Value}(hs:St un E N D H e bx a w)(hg:zae bx b=some (.var T cs))(hx:Rep un (ids H) D w (.ptr b off) x)(hv:Rep un (ids H) D w p v)
  (h1:(p.cells un).all PV.one=true) (h2:(p.cells un).length=row.n) (h3:off+row.n<=cs.length) {dst:Option Nat} (hd:∀d,dst=some d->d<N.n) :
  ∃w' H',(Instr.storeAt t x v).run P w= .ok () w'/\St un E N D H' (push dst zay e) (zau bx b (.var T (splice cs off (p.cells un)))) (a.put dst undef) w'/\Ge D w D w'/\ids H'=ids H:=by
 obtain ⟨r,hr1,hr2⟩:=hs.boxes.get hg;have hh:=hs.inn.res _ (yAb hr1);cases r with
 |own=>simp[BoxRep] at hr2|ref=>simp[BoxRep] at hr2|wr=>simp[BoxRep] at hr2|nst=>simp[BoxRep] at hr2|omp=>simp[BoxRep] at hr2|it=>simp[BoxRep] at hr2|fix v0 g size ob =>simp only[Rep,ids,yAg,hr1,yAf,zaf,yAe,Prod.mk.injEq,true_and] at hx;obtain ⟨g',hg',rfl⟩:=hx;subst hg';exact absurd hh.1 (zd2 _)
 |box g T' vs =>
   simp only[BoxRep] at hr2;obtain ⟨rfl,hl⟩:=hr2;simp only[Rep,ids,yAg,hr1,yAf,zaf,yAe,Prod.mk.injEq,true_and] at hx;obtain ⟨g',hg',rfl⟩:=hx;simp at hg';subst hg';obtain ⟨c1,c2⟩:=zfc hun.flat h1 hv;have hcl:=c1.length;have hvl:=hl.length;have hvs:v.cells.size=row.n:=by rw[<-h2,hcl];simp
   obtain ⟨k1,k2⟩:=zfT g T' v.cells.toList vs off w hh.2;have hrun:(Instr.storeAt t (.pointer (some ⟨g,off,none⟩)) v).run P w= .ok () (w.setCells g off v.cells.toList):=by have:=run_storeAt_mid (P:=P) w g off t v.cells (λj hj=>⟨by rw[cell_of_row w g _ _ _ _ hh.2];simp;omega,by simp[World.frozen?,hh.2]⟩) (by rw[hrow.size,hvs]) (by rw[Array.all_eq_true];intro i hi;exact c2 _ (by simp));rw[<-this];rfl
   have hin:In E D (H.set b (.box g T' (za0.spliceV vs off v.cells.toList))) (w.setCells g off v.cells.toList):=(by refine hs.inn.turn hr1 k2 ⟨hh.1,k1⟩ (λ_ hk=>.inl hk) (λk o hk=>.inl hk) (λk o hk=>yAn (hs.inn.lt k o hk) k2.size) (λg2 hg2 o _ hk=>?_) (λ_=>⟨rfl,rfl,.inl rfl⟩);exact hs.inn.apart _ (yAb hr1) g2 hg2 o trivial hk);have hge:Ge D w D (w.setCells g off v.cells.toList):= .of (λ_ _ h=>h) λk o hk=>by refine k2.block k (hs.inn.lt k o hk) λh=>?_;simp at h;subst h;exact hs.inn.apart _ (yAb hr1) k rfl o trivial hk
   have hids:ids (H.set b (.box g T' (za0.spliceV vs off v.cells.toList)))=ids H:=zaq hr1 rfl;refine ⟨_,_,hrun,hs.step hin ?_ (λi q hi=>?_) hd ?_,hge,hids⟩;·rw[hids];refine (hs.boxes.mono hge (zap hs.inn.out hin.out) λ_ _ h=>h).set ?_;simp only[BoxRep];exact ⟨trivial,(hl.splice off c1).ge hge λ_ _ h=>h⟩
   ·rw[hids];exact (hs.slots i q hi).ge hge λ_ _ h=>h
   ·simp only[zay,Rep];exact ⟨[],rfl,by simp[RepL]⟩
theorem zji{nu:Nu}:∀{ps:List (PV S)}{vs cs:List Value},zcC ps=some vs->RepL un nu D w ps cs->cs=vs
 |[],vs,cs,h,hr=>by simp only[zcC] at h;cases h;cases cs<;>simp_all [RepL]
 | .int k n::ps,vs,[],h,hr=>by simp[RepL] at hr
 | .int k n::ps,vs,c::cs,h,hr=>by
   simp only[zcC] at h;split at h;·rename_i l hl;cases h;simp only[RepL,Rep] at hr;rw[hr.1,zji hl hr.2]
   ·cases h
 | .bool _::_,_,_,h,_=>by simp[zcC] at h
 | .str _::_,_,_,h,_=>by simp[zcC] at h
 | .sl _ _::_,_,_,h,_=>by simp[zcC] at h
 | .nils::_,_,_,h,_=>by simp[zcC] at h
 | .st _ _::_,_,_,h,_=>by simp[zcC] at h
 | .agg _::_,_,_,h,_=>by simp[zcC] at h
 | .tup _::_,_,_,h,_=>by simp[zcC] at h
 | .elp _ _ _::_,_,_,h,_=>by simp[zcC] at h
 | .ptr _ _::_,_,_,h,_=>by simp[zcC] at h
 | .nilp::_,_,_,h,_=>by simp[zcC] at h
 | .row _::_,_,_,h,_=>by simp[zcC] at h
 | .func _ _ _::_,_,_,h,_=>by simp[zcC] at h
 | .nilFunc::_,_,_,h,_=>by simp[zcC] at h
 | .iface _ _::_,_,_,h,_=>by simp[zcC] at h
 | .nilIface::_,_,_,h,_=>by simp[zcC] at h
 | .junk::_,_,_,h,_=>by simp[zcC] at h
 | .ref _::_,_,_,h,_=>by simp[zcC] at h
 | .elr _ _ _ _::_,_,_,h,_=>by simp[zcC] at h
 | .cont _ _::_,_,_,h,_=>by simp[zcC] at h
theorem Ge.same(h:In E D H w)(hb:Below w.heap.size w w'):Ge D w D w':=(.of (λ_ _ h=>h) λk o hk=>(hb.block k (h.lt k o hk)))
theorem Ge.alloc(h:In E D H w)(ob:Obj):Ge D w D (w.alloc ob):=Ge.same h ((Below.refl _ _).alloc (yAl _) _)
theorem znF(hun:UniOk un)(ht:TbOk P un tb)(hor:SoundO P un orc)(hin:SoundI P un inl){K:PV S->Env S->Bxs S->Option R}{KX:Exit->Env S->Bxs S->Option R}(h:zcV un tb orc inl o e bx K KX=some r)(hd:∀d,o.dst=some d->d<N.n)(hs:Holds un E D0 N e bx a w)
  {next:Act->World->Prop} {Q:Exit->Act->World->Prop} (hk:∀p e' bx',K p e' bx'=some r->Pres [] e e'->PresB bx bx'->∀a' w',Holds un E D0 N (push o.dst p e') bx' a' w'->next a' w')
  (hx:∀x e' bx',KX x e' bx'=some r->Pres [] e e'->PresB bx bx'->∀a' w',Holds un E D0 N e' bx' a' w'->Q x a' w'):o.wp P a w next Q:=by
 have quiet:zgD un tb orc inl o e bx (λp=>K p e bx)=some r->o.wp P a w next Q:=λh=>by obtain ⟨p,h1,h2⟩:=zeb hun ht hor hin h;exact zcc h2 hd hs λa' w' h3=>hk p e bx h1 (Pres.refl _ _) (PresB.refl _) a' w' h3
 unfold zcV at h;split at h
 ·-- alloc
  rename_i T ho;split at h
  ·rename_i row hrow;obtain ⟨D,H,hs,hD,hG⟩:=hs;obtain ⟨z,g1,g2,g3⟩:=(ht.ty T row hrow).zero;obtain ⟨H',h2⟩:=hs.newBox T (cs:=row.zero) (vs:=z.cells.toList) (by rw[g3];exact zd9 _) hd;unfold Oper.wp;cases hi:P.info? T with
   |none=>rw[hi] at g1;cases g1|some i =>
     rw[hi] at g1;simp only[yAx] at g1;have:(execOp a.eval o).run P w= .ok (.value (.pointer (some ⟨w.heap.size,0,none⟩))) (w.alloc (.cells z.cells T)):=by simp[execOp,ho,Instr.alloc,zeroValue,typeInfo,hi,g1,zd8]
     rw[this];exact hk _ _ _ h (Pres.refl _ _) (PresB.append _ _) _ _ ⟨D,H',by simpa using h2,hD,hG.trans (by simpa using Ge.alloc hs.inn _)⟩
  ·cases h
 ·-- box
  rename_i T x ho;split at h
  ·rename_i p row hx hrow;obtain ⟨h1,h2⟩:=zac h;simp only[yAd] at h1;obtain ⟨D,H,hs,hD,hG⟩:=hs;obtain ⟨c1,c2⟩:=zfc hun.flat h1.1 (hs.ev hx);obtain ⟨H',h3⟩:=hs.newBox T c1 hd;unfold Oper.wp;have:(execOp a.eval o).run P w= .ok (.value (.pointer (some ⟨w.heap.size,0,none⟩))) (w.alloc (.cells (a.eval x).cells T)):=by
    simp[execOp,ho,Instr.box,zd8]
   rw[this];exact hk _ _ _ h2 (Pres.refl _ _) (PresB.append _ _) _ _ ⟨D,H',by simpa using h3,hD,hG.trans (by simpa using Ge.alloc hs.inn _)⟩
  ·cases h
 ·-- store
  rename_i t x y ho;split at h
  ·rename_i b off p row hx hy hrow;split at h
   ·rename_i T cs hg;obtain ⟨h1,h2⟩:=zac h;simp only[yAd,yAP] at h1;obtain ⟨D,H,hs,hD,hG⟩:=hs;obtain ⟨w',H',hrun,hst,hge,_⟩:=zkn (P:=P) hun (ht.ty t row hrow) hs hg (hs.ev hx) (hs.ev hy) h1.1.1 (yAa h1.1.2) h1.2 hd;unfold Oper.wp;have:(execOp a.eval o).run P w= .ok .skip w':=by simp[execOp,ho,hrun]
    rw[this];exact hk _ _ _ h2 (Pres.refl _ _) (PresB.set hg rfl λT' cs' he=>by cases he;exact ⟨_,rfl,zdh _ _ _⟩) _ _ ⟨D,H',hst,hD,hG.trans hge⟩
   ·cases h
  ·cases h
 ·-- buildSlice
  rename_i t n parts ho;split at h
  ·rename_i l T u hp hel;cases hrow:tb.ty.get t with
   |none=>rw[hrow] at hel;cases hel|some row =>
     rw[hrow] at hel;simp only[yAx] at hel;have hrw:=ht.ty t row hrow;obtain ⟨T',u',g1,g2,g3⟩:=hrw.slice (hrw.elem T u hel);rw[hel] at g1;simp at g1;obtain ⟨rfl,rfl⟩:=g1;obtain ⟨h1,h2⟩:=zac h;simp only[yAd,yAP] at h1;split at h2
     ·rename_i xs hxs;obtain ⟨D,H,hs,hD,hG⟩:=hs;obtain ⟨v',w',hrun,hst⟩:=ziq (P:=P) hun g2 g3 hs hp h1.1.2 (yAa h1.1.1) h1.2 hxs hD hG hd;unfold Oper.wp;have hmap:(parts.map λ(x:Nat×Operand)=>match x with|(i,x)=>(i,a.eval x))=(parts.toList.map λp=>(p.1,a.eval p.2)).toArray:=by cases parts;simp
      have:(execOp a.eval o).run P w= .ok (.value v') w':=by simp[execOp,ho,hmap,hrun]
      rw[this];exact hk _ _ _ h2 (Pres.refl _ _) (PresB.append _ _) _ _ hst
     ·cases h2
  ·cases h
 ·-- call
  rename_i c ho;split at h
  ·-- append
   rename_i hc;split at h
   ·rename_i s x t hargs htw;split at h;·cases h
    ·rename_i T u hel;cases hrow:tb.ty.get t with
     |none=>rw[hrow] at hel;cases hel|some row =>
       rw[hrow] at hel;simp only[yAx] at hel;have hrw:=ht.ty t row hrow;obtain ⟨T',u',g1,g2,g3⟩:=hrw.slice (hrw.elem T u hel);rw[hel] at g1;simp at g1;obtain ⟨rfl,rfl⟩:=g1;split at h
       ·rename_i new hnew;obtain ⟨D,H,hs,hD,hG⟩:=hs;obtain ⟨args,hca⟩:∃args:List Operand,c.args=⟨args⟩:=⟨c.args.toList,by cases c.args;rfl⟩;have hr:=hs.evs hargs;rw[hca] at hr;have hat:c.argTypes= #[t,t]:=by
         obtain ⟨tl,htl⟩:∃l:List Nat,c.argTypes=⟨l⟩:=⟨c.argTypes.toList,by cases c.argTypes;rfl⟩;rw[htl] at htw ⊢;rcases tl with _|⟨x1,_|⟨x2,_|⟨x3,_⟩⟩⟩<;>simp[zlf] at htw;obtain ⟨q1,q2⟩:=zac htw;cases q2;rw[yAa q1]
        rcases args with _|⟨s0,_|⟨x0,_|⟨_,_⟩⟩⟩<;>simp only[yAk,yBF,RepL,and_true,and_false] at hr;have hx:Rep un (ids H) D w (.sl u new) (a.eval x0):=by have:=(zbm hun (un:=un) hnew (hs.fz1 hun hr.2)).2;simpa only[inj] using this
        have hrunE:∀v' w',(Builtin.append_ #[t,t] o.type #[a.eval s0,a.eval x0]).run P w= .ok v' w'->(execOp a.eval o).run P w= .ok (.value v') w':=(by intro v' w' hrun;simp[execOp,ho,resolve,hc,hca,hat,invoke,builtin,hrun]);split at h
        ·-- nil
         have hs0:=hr.1;simp only[Rep] at hs0;obtain ⟨l,h1,h2⟩:=zas h;obtain ⟨h3,rfl⟩:=zb1 h1;obtain ⟨v',w',hrun,hst⟩:=zki (P:=P) (ty:=o.type) hun g2 g3 hs hx (by simpa using h3) hD hG hd;rw[<-hs0] at hrun;unfold Oper.wp;rw[hrunE v' w' hrun];exact hk _ _ _ h2 (Pres.refl _ _) (PresB.append _ _) _ _ hst
        ·rename_i b;split at h
         ·rename_i v0 T' old hg;split at h;·rename_i heq _;subst heq;obtain ⟨h1,h2⟩:=zac h;have hTT:=yAa h1;subst hTT;obtain ⟨l,h3,h4⟩:=zas h2;obtain ⟨h5,rfl⟩:=zb1 h3;obtain ⟨v',w',hrun,hst⟩:=zlT (P:=P) (ty:=o.type) hun g2 g3 hs hg hr.1 hx h5 hD hG hd;unfold Oper.wp;rw[hrunE v' w' hrun];exact hk _ _ _ h4 (Pres.kill _ _ _) ((PresB.kill b _ bx).trans (PresB.set (b:=(Box.own _ _ _)) (by rw[za5,hg];rfl) rfl λT' cs' he=>by cases he)) _ _ hst
          ·cases h
         ·cases h
        ·cases h
       ·cases h
   ·cases h
  ·-- a call
   split at h
   ·rename_i f l hen;split at h;·rename_i us ts lc rs ps pan hsig;exact zop hun hen ho (ht.eff f us ts lc rs ps pan hsig) (zeW _ _).1 (zh5 _ _) h (λt ht D H a w gs hs hb vs hr=>zg6 hun hs hb ht hr) (λt c r hr=>hor.e f t ts lc c rs ps pan r hr) hd hs hk hx
    ·rename_i fn an ts lc rs ps pan hsig;obtain ⟨hfn,hen2⟩:=ht.effI f fn an ts lc rs ps pan hsig;exact zop hun hen ho hen2 (zeW _ _).1 (zh5 _ _) h (λt ht D H a w gs hs hb vs hr=>zeR hun hs hb _ _ _ ht hr) (λt c r hr=>hin.e fn an t ts lc c rs ps pan r f hr hfn) hd hs hk hx
    ·exact quiet h
   ·cases h
  ·exact quiet h
 ·-- panic
  rename_i x ho;split at h
  ·rename_i T l hxx;split at h
   ·rename_i vs hvs;obtain ⟨D,H,hs,hD,hG⟩:=hs;have h1:=hs.ev hxx;simp only[Rep] at h1;obtain ⟨y,h2,cs,h3,h4⟩:=h1;have hcs:cs=vs:=zji hvs h4;subst hcs;unfold Oper.wp;have:(execOp a.eval o).run P w= .halt (.panic (.iface T (.agg cs.toArray))) w:=by simp[execOp,ho,h2,h3,Instr.panic,goPanic]
    rw[this];exact hx _ _ _ h (Pres.refl _ _) (PresB.refl _) _ _ ⟨D,H,hs,hD,hG⟩
   ·cases h
  ·cases h
 ·exact quiet h
end
end Pe
end
section
/- Cells of boxes; rows that are told anew. -/
namespace Pe
open Go Go.RowKit
variable{S:Nat->Type}
section
variable{P:Program}{un:Uni S}{E E':Wl.Ctx}{D0:Dat}{N:Wl.Fr}{D D':Dat}{H:List Wl.Res}{e:Env S}{bx:Bxs S}{a:Act}{w w':World}
theorem zgr(hs:St un E N D H e bx a w):∀{l:List (Nat×CTy)}{ps:List (PV S)},zfo e l=some ps->RepL un (ids H) D w ps (l.map λp=>a.tmps.getD p.1 undef)
 |[],ps,h=>by simp[zfo] at h;subst h;simp[RepL]
 |(i,t)::l,ps,h=>by
   unfold zfo at h;split at h;·rename_i p ps' h1 h2;cases h;simp only[yAk,RepL];exact ⟨hs.slots i p h1,zgr hs h2⟩
   ·cases h
def zhM:Wl.Res->List Value| .box _ _ vs=>vs| .fix v _ size ob=>[Wl.fixV v size ob]|_=>[]
def zbF(H:List Wl.Res)(i:Nat):List Value:=match H[i]? with
 |some r=>zhM r|none=>[]
def zck(H:List Wl.Res):List (Nat×List CTy)->List Value|[]=>[]|(i,_)::r=>zbF H i++zck H r
theorem zfg{nu:Nu}{T:TypeId}{cs:List (PV S)}{r:Wl.Res}(h:BoxRep un nu D w E false (.var T cs) r):zaH r=true/\RepL un nu D w cs (zhM r)/\∀g T' vs,r= .box g T' vs->T'=T:=by
 cases r with
 |box g T' vs=>simp only[BoxRep] at h;exact ⟨rfl,h.2,λ_ _ _ he=>by cases he;exact h.1⟩|fix v g size ob=>simp only[BoxRep] at h;exact ⟨rfl,h,λ_ _ _ he=>by cases he⟩|_=>simp[BoxRep] at h
theorem zhv{nu nu':Nu}{T:TypeId}{cs cs':List (PV S)}{r:Wl.Res}(h:BoxRep un nu D w E false (.var T cs) r)(h':RepL un nu' D' w' cs' (zhM r)):BoxRep un nu' D' w' E' false (.var T cs') r:=by
 cases r with
 |box g T' vs=>simp only[BoxRep] at h ⊢;exact ⟨h.1,h'⟩|fix v g size ob=>simp only[BoxRep];exact h'|_=>simp[BoxRep] at h
theorem zby{nu:Nu}(hb:BxRep un nu D w E bx H){i:Nat}{T:TypeId}{cs:List (PV S)}(h:zae bx i=some (.var T cs)):∃r,H[i]?=some r/\zaH r=true/\zbF H i=zhM r/\RepL un nu D w cs (zhM r)/\BoxRep un nu D w E false (.var T cs) r:=by obtain ⟨r,h1,h2⟩:=hb.get h;obtain ⟨h3,h4,_⟩:=zfg h2;exact ⟨r,h1,h3,by simp[zbF,h1],h4,h2⟩
theorem zd7{nu:Nu}(hb:BxRep un nu D w E bx H):∀{l:List (Nat×List CTy)}{ps:List (PV S)},zcH bx l=some ps->RepL un nu D w ps (zck H l)/\∀i ts,(i,ts)∈l->(∃T cs,zae bx i=some (.var T cs))/\(zbF H i).length=ts.length
 |[],ps,h=>by simp[zcH] at h;subst h;simp[RepL,zck]
 |(i,ts)::l,ps,h=>by
   unfold zcH at h;split at h
   ·rename_i T cs ps' h1 h2;obtain ⟨h3,h4⟩:=zac h;cases h4;obtain ⟨r,g1,_,g2,g3,_⟩:=zby hb h1;obtain ⟨g4,g5⟩:=zd7 hb h2;refine ⟨by simp only[zck];exact (g2▸g3).append g4,λj ts' hj=>?_⟩;rcases yAp.1 hj with hj|hj
    ·cases hj;exact ⟨⟨T,cs,h1⟩,by rw[g2,<-g3.length];exact yAa h3⟩
    ·exact g5 j ts' hj
   ·cases h
def zdw:Box S->Bool| .own _ _ _=>true| .wr _ _ _=>true| .nst _ _ _ _ _=>true| .omp _ _ _=>true|_=>false
def zmH:Wl.Res->Bool| .own _ _ _ _ _=>true| .wr _ _ _ _ _=>true| .nst _ _ _ _ _ _ _=>true| .omp _ _ _=>true|_=>false
def zcX(H:List Wl.Res):List (Option Nat)->List Wl.Res->Prop|[],[]=>True|some b::bs,r::rs=>zmH r=true/\H[b]?=some r/\zcX H bs rs|none::bs,r::rs=>(∃T size,r= .own (.slice none 0 0) T size 0 []\/r= .wr (.slice none 0 0) T size 0 [])/\zcX H bs rs|_,_=>False
theorem zcG{t:CTy}{ts:List CTy}{p:PV S}{ps:List (PV S)}{x:ElL S ((t::ts).map CTy.code)}(h:zlN un bx (t::ts) (p::ps)=some x):∃(y:El S t.code) (t':ElL S (ts.map CTy.code)),Pe.cast un t.code (fzC bx t p)=some y/\zlN un bx ts ps=some t'/\x=(y,t'):=by
 unfold zlN at h;split at h;·rename_i x t' h1 h2;cases h;exact ⟨x,t',h1,h2,rfl⟩
 ·cases h
theorem zl8{b:Nat}{v:Value}{r:Wl.Res}(hr1:H[b]?=some r)(hv:Rep un (ids H) D w (.row b) v):zaf r=(false,v)/\v.oneCell'=true/\v.cells= #[v]:=by simp only[Rep,ids,yAg,hr1,yAf,yAe] at hv;exact hv
theorem zbt:∀u:U,U.eq? u u=some ⟨rfl⟩
 | .int k=>by cases k<;>rfl
 | .bool=>rfl| .str=>rfl| .sl u=>by simp only[U.eq?,zbt u]
 | .st n=>by simp only[U.eq?,zeY,dif_pos]
 | .mp k v=>by simp only[U.eq?,zbt k,zbt v]
 | .rw u=>by simp only[U.eq?,zbt u]
 | .fm k v=>by simp only[U.eq?,zbt k,zbt v]
 | .cs u=>by simp only[U.eq?,zbt u]
theorem zmZ(u:U)(x:El S u):Pe.cast un u (inj u x)=some x:=by
 cases u with
 |st n=>simp only[inj,Pe.cast,zeY,dif_pos]|int k=>cases k<;>rfl|bool=>rfl|str=>rfl|sl u=>simp only[inj,Pe.cast,cast0,zbt]|mp k v=>simp only[inj,Pe.cast,cast0,zbt]|rw u=>simp only[inj,Pe.cast,cast0,zbt]|fm k v=>simp only[inj,Pe.cast,cast0,zbt]|cs u=>simp only[inj,Pe.cast,cast0,zbt]
theorem zb0(hun:UniOk un)(hs:St un E N D H e bx a w):∀(ts:List CTy)(ps:List (PV S))(vs:List Value)(zbj:List Nat)(t:ElL S (ts.map CTy.code))(n:Nat),zaB bx ts ps zbj=true->zlN un bx ts ps=some t->RepL un (ids H) D w ps vs ->
  ∃(bs:List (Option Nat)) (rs:List Wl.Res),zcX H bs rs/\(∀b,some b∈bs->b∉zbj/\∃x,zae bx b=some x/\zdw x=true)/\(bs.filterMap id).Nodup/\(∀(nu':Nu)(E':Wl.Ctx),BxRep un nu' D w E' (zbi ts t) rs) /\
   (∀nu':Nu,((∀i r,rs[i]?=some r->nu'[n+i]?=some (zaf r))->RepL un nu' D w (zcu ts t n) vs))/\zba bx ts ps=(bs.filterMap id).map λb=>(b,match zae bx b with|some (.own _ _ _)=>Pe.fz1 bx (.row b)|_=>.junk)
 |[],[],[],_,_,_,_,_,_=>⟨[],[],by simp[zcX],by simp,by simp,λnu' E'=>by simp[zbi,BxRep],λnu' _=>by simp[zcu,RepL],rfl⟩| .fr u::ts,p::ps,v::vs,zbj,t,n,ho,hc,hr=>by simp only[RepL] at hr;simp only[zaB] at ho;obtain ⟨x,t',h1,h2,rfl⟩:=zcG (t:= .fr u) (ts:=ts) hc;have h1:Pe.cast un u (Pe.fz bx p)=some x:=h1;obtain ⟨bs,rs,g1,g2,g3,g4,g5,g6⟩:=zb0 hun hs ts ps vs zbj t' n ho h2 hr.2;refine ⟨bs,rs,g1,g2,g3,g4,λnu' hn=>?_,by simpa only[zba] using g6⟩;simp only[zcu,RepL];exact ⟨zbx (zbm hun h1 (hs.fz hun hr.1)).2,g5 nu' hn⟩
 | .own u T::ts,p::ps,v::vs,zbj,t,n,ho,hc,hr=>by
   simp only[RepL] at hr;obtain ⟨x,t',h1,h2,rfl⟩:=zcG (t:= .own u T) (ts:=ts) hc;have h1:Pe.cast un (.sl u) (Pe.fz bx p)=some x:=h1;cases p with
   |row b =>
     simp only[zaB,yAd,yA0] at ho;obtain ⟨⟨o1,o2⟩,o3⟩:=ho;cases hg:zae bx b with
     |none=>rw[hg] at o1;simp at o1|some box =>
       rw[hg] at o1;cases box with
       |own u0 T0 l0 =>
         simp only at o1;have hT:T=T0:=yAa o1;subst hT;obtain ⟨r,hr1,hr2⟩:=hs.boxes.get hg;have hu:u0=u/\HEq l0 x:=by
          have h1':=h1;simp only[Pe.fz,Pe.fz1,hg,yAf,Box.base,Pe.cast,Pe.cast0] at h1';split at h1';·rename_i heq _;subst heq;cases h1';exact ⟨rfl,HEq.rfl⟩
          ·cases h1'
         obtain ⟨rfl,hl⟩:=hu;have hl:=eq_of_heq hl;subst hl;cases r with
         |own v0 T' size m xs =>
           obtain ⟨bs,rs,g1,g2,g3,g4,g5,g6⟩:=zb0 hun hs ts ps vs (b::zbj) t' (n+1) o3 h2 hr.2;obtain ⟨hv0,hvv⟩:=zl8 hr1 hr.1;simp only[zaf,Prod.mk.injEq,true_and] at hv0;refine ⟨some b::bs,.own v0 T' size m xs::rs,?_,?_,?_,λnu' E'=>?_,λnu' hn=>?_,?_⟩;·simp only[zcX];exact ⟨rfl,hr1,g1⟩
           ·intro b' hb';rcases yAp.1 hb' with hb' | hb';·cases hb';exact ⟨by simpa using o2,_,hg,rfl⟩
            ·obtain ⟨k1,k2⟩:=g2 b' hb';exact ⟨λhk=>k1 (by simp[hk]),k2⟩
           ·simp only[yAC,id];refine yAU.2 ⟨λhk=>?_,g3⟩;obtain ⟨y,hy,hyb⟩:=yA6.1 hk;simp only[id] at hyb;subst hyb;exact (g2 b hy).1 (by simp)
           ·simp only[zbi,BxRep];refine ⟨?_,g4 nu' E'⟩;simp only[BoxRep] at hr2 ⊢;exact hr2
           ·simp only[zcu,RepL,Rep];refine ⟨⟨?_,hvv⟩,g5 nu' λi r hi=>?_⟩;·have:=hn 0 _ rfl;simp[zaf] at this;rw[this,hv0]
            ·have:=hn (i+1) r (by simpa using hi);rwa[show n+(i+1)=n+1+i by omega] at this
           ·simp only[zba,yAC,id,yAk,hg];rw[g6]
         |_=>simp[BoxRep] at hr2
       |_=>simp at o1
   |nils =>
     simp only[zaB] at ho;obtain ⟨bs,rs,g1,g2,g3,g4,g5,g6⟩:=zb0 hun hs ts ps vs zbj t' (n+1) ho h2 hr.2;have hv:=hr.1;simp only[Rep] at hv;have hx0:x=([]:List (El S u)):=by simp only[Pe.fz,Pe.fz1,Pe.cast,Pe.cast0] at h1;exact (yAy h1).symm
     subst hx0;refine ⟨none::bs,.own (.slice none 0 0) T (U.size un u) 0 []::rs,?_,?_,by simpa using g3,λnu' E'=>?_,λnu' hn=>?_,by simpa only[zba,yAC,id] using g6⟩;·simp only[zcX];exact ⟨⟨_,_,.inl rfl⟩,g1⟩
     ·intro b' hb';rcases yAp.1 hb' with hb' | hb';·cases hb'
      ·exact g2 b' hb'
     ·simp only[zbi,BxRep];refine ⟨?_,g4 nu' E'⟩;simp only[BoxRep];exact ⟨trivial,trivial,rfl,λg hg=>by simp[Value.ownBlock] at hg,λi y hi=>by simp at hi⟩
     ·simp only[zcu,RepL,Rep];refine ⟨⟨?_,?_⟩,g5 nu' λi r hi=>?_⟩;·have:=hn 0 _ rfl;simp[zaf] at this;rw[this,hv]
      ·rw[hv];exact ⟨rfl,rfl⟩
      ·have:=hn (i+1) r (by simpa using hi);rwa[show n+(i+1)=n+1+i by omega] at this
   |_=>simp[zaB] at ho
 | .wr u T::ts,p::ps,v::vs,zbj,t,n,ho,hc,hr=>by
   simp only[RepL] at hr;obtain ⟨x,t',h1,h2,rfl⟩:=zcG (t:= .wr u T) (ts:=ts) hc;have h1:Pe.cast un (.sl u) (Pe.fzC bx (.wr u T) p)=some x:=h1;cases p with
   |row b =>
     simp only[zaB,yAd,yA0] at ho;obtain ⟨⟨o1,o2⟩,o3⟩:=ho;cases hg:zae bx b with
     |none=>rw[hg] at o1;simp at o1|some box =>
       rw[hg] at o1;cases box with
       |wr u0 T0 l0 =>
         simp only at o1;have hT:T=T0:=yAa o1;subst hT;obtain ⟨r,hr1,hr2⟩:=hs.boxes.get hg;have hu:u0=u/\HEq l0 x:=by
          have h1':=h1;simp only[Pe.fzC,hg,Pe.cast,Pe.cast0] at h1';split at h1';·rename_i heq _;subst heq;cases h1';exact ⟨rfl,HEq.rfl⟩
          ·cases h1'
         obtain ⟨rfl,hl⟩:=hu;have hl:=eq_of_heq hl;subst hl;cases r with
         |wr v0 T' size m xs =>
           obtain ⟨bs,rs,g1,g2,g3,g4,g5,g6⟩:=zb0 hun hs ts ps vs (b::zbj) t' (n+1) o3 h2 hr.2;obtain ⟨hv0,hvv⟩:=zl8 hr1 hr.1;simp only[zaf,Prod.mk.injEq,true_and] at hv0;refine ⟨some b::bs,.wr v0 T' size m xs::rs,?_,?_,?_,λnu' E'=>?_,λnu' hn=>?_,?_⟩;·simp only[zcX];exact ⟨rfl,hr1,g1⟩
           ·intro b' hb';rcases yAp.1 hb' with hb' | hb';·cases hb';exact ⟨by simpa using o2,_,hg,rfl⟩
            ·obtain ⟨k1,k2⟩:=g2 b' hb';exact ⟨λhk=>k1 (by simp[hk]),k2⟩
           ·simp only[yAC,id];refine yAU.2 ⟨λhk=>?_,g3⟩;obtain ⟨y,hy,hyb⟩:=yA6.1 hk;simp only[id] at hyb;subst hyb;exact (g2 b hy).1 (by simp)
           ·simp only[zbi,BxRep];refine ⟨?_,g4 nu' E'⟩;simp only[BoxRep] at hr2 ⊢;exact hr2
           ·simp only[zcu,RepL,Rep];refine ⟨⟨?_,hvv⟩,g5 nu' λi r hi=>?_⟩;·have:=hn 0 _ rfl;simp[zaf] at this;rw[this,hv0]
            ·have:=hn (i+1) r (by simpa using hi);rwa[show n+(i+1)=n+1+i by omega] at this
           ·simp only[zba,yAC,id,yAk,hg];rw[g6]
         |_=>simp[BoxRep] at hr2
       |_=>simp at o1
   |nils =>
     simp only[zaB] at ho;obtain ⟨bs,rs,g1,g2,g3,g4,g5,g6⟩:=zb0 hun hs ts ps vs zbj t' (n+1) ho h2 hr.2;have hv:=hr.1;simp only[Rep] at hv;have hx0:x=([]:List (El S u)):=by simp only[Pe.fzC,Pe.cast,Pe.cast0] at h1;exact (yAy h1).symm
     subst hx0;refine ⟨none::bs,.wr (.slice none 0 0) T (U.size un u) 0 []::rs,?_,?_,by simpa using g3,λnu' E'=>?_,λnu' hn=>?_,by simpa only[zba,yAC,id] using g6⟩;·simp only[zcX];exact ⟨⟨_,_,.inr rfl⟩,g1⟩
     ·intro b' hb';rcases yAp.1 hb' with hb' | hb';·cases hb'
      ·exact g2 b' hb'
     ·simp only[zbi,BxRep];refine ⟨?_,g4 nu' E'⟩;simp only[BoxRep];exact ⟨trivial,trivial,rfl,λi y hi=>by simp at hi⟩
     ·simp only[zcu,RepL,Rep];refine ⟨⟨?_,?_⟩,g5 nu' λi r hi=>?_⟩;·have:=hn 0 _ rfl;simp[zaf] at this;rw[this,hv]
      ·rw[hv];exact ⟨rfl,rfl⟩
      ·have:=hn (i+1) r (by simpa using hi);rwa[show n+(i+1)=n+1+i by omega] at this
   |_=>simp[zaB] at ho
 | .nst u T T2::ts,p::ps,v::vs,zbj,t,n,ho,hc,hr=>by
   simp only[RepL] at hr;obtain ⟨x,t',h1,h2,rfl⟩:=zcG (t:= .nst u T T2) (ts:=ts) hc;have h1:Pe.cast un (.sl (.sl u)) (Pe.fzC bx (.nst u T T2) p)=some x:=h1;cases p with
   |row b =>
     simp only[zaB,yAd,yA0] at ho;obtain ⟨⟨o1,o2⟩,o3⟩:=ho;cases hg:zae bx b with
     |none=>rw[hg] at o1;simp at o1|some box =>
       rw[hg] at o1;cases box with
       |nst u0 T0 T20 l0 h0 =>
         cases h0 with
         |some k0=>simp at o1|none =>
         simp only[yAd] at o1;have hT:T=T0:=yAa o1.1;have hT2:T2=T20:=yAa o1.2;subst hT hT2;obtain ⟨r,hr1,hr2⟩:=hs.boxes.get hg;have hu:u0=u/\HEq l0 x:=by
          have h1':=h1;simp only[Pe.fzC,hg,Pe.cast,Pe.cast0] at h1';split at h1';·rename_i heq _;cases heq;cases h1';exact ⟨rfl,HEq.rfl⟩
          ·cases h1'
         obtain ⟨rfl,hl⟩:=hu;have hl:=eq_of_heq hl;subst hl;cases r with
         |nst v0 T' m xs T2' s2 rows =>
           obtain ⟨bs,rs,g1,g2,g3,g4,g5,g6⟩:=zb0 hun hs ts ps vs (b::zbj) t' (n+1) o3 h2 hr.2;obtain ⟨hv0,hvv⟩:=zl8 hr1 hr.1;simp only[zaf,Prod.mk.injEq,true_and] at hv0;refine ⟨some b::bs,.nst v0 T' m xs T2' s2 rows::rs,?_,?_,?_,λnu' E'=>?_,λnu' hn=>?_,?_⟩;·simp only[zcX];exact ⟨rfl,hr1,g1⟩
           ·intro b' hb';rcases yAp.1 hb' with hb' | hb';·cases hb';exact ⟨by simpa using o2,_,hg,rfl⟩
            ·obtain ⟨k1,k2⟩:=g2 b' hb';exact ⟨λhk=>k1 (by simp[hk]),k2⟩
           ·simp only[yAC,id];refine yAU.2 ⟨λhk=>?_,g3⟩;obtain ⟨y,hy,hyb⟩:=yA6.1 hk;simp only[id] at hyb;subst hyb;exact (g2 b hy).1 (by simp)
           ·simp only[zbi,BxRep];refine ⟨?_,g4 nu' E'⟩;simp only[BoxRep] at hr2 ⊢;exact hr2
           ·simp only[zcu,RepL,Rep];refine ⟨⟨?_,hvv⟩,g5 nu' λi r hi=>?_⟩;·have:=hn 0 _ rfl;simp[zaf] at this;rw[this,hv0]
            ·have:=hn (i+1) r (by simpa using hi);rwa[show n+(i+1)=n+1+i by omega] at this
           ·simp only[zba,yAC,id,yAk,hg];rw[g6]
         |_=>simp[BoxRep] at hr2
       |_=>simp at o1
   |_=>simp[zaB] at ho
 |[],_::_,_,_,_,_,ho,_,_=>by simp[zaB] at ho
 | .fr _::_,[],_,_,_,_,ho,_,_=>by simp[zaB] at ho
 | .own _ _::_,[],_,_,_,_,ho,_,_=>by simp[zaB] at ho
 | .wr _ _::_,[],_,_,_,_,ho,_,_=>by simp[zaB] at ho
 | .map k0 v0::ts,p::ps,v::vs,zbj,t,n,ho,hc,hr=>by
   simp only[RepL] at hr;obtain ⟨x,t',h1,h2,rfl⟩:=zcG (t:= .map k0 v0) (ts:=ts) hc;have h1:Pe.cast un (.mp k0 v0) (Pe.fzC bx (.map k0 v0) p)=some x:=h1;cases p with
   |ref b =>
     simp only[zaB,yAd,yA0] at ho;obtain ⟨⟨o1,o2⟩,o3⟩:=ho;cases hg:zae bx b with
     |none=>rw[hg] at o1;simp at o1|some box =>
       rw[hg] at o1;cases box with
       |omp k1 v1 l0 =>
         simp only[yAd] at o1;have hk1:k1=k0:=yAy (zcI o1.1);have hv1:v1=v0:=yAy (zcI o1.2);subst hk1;subst hv1;obtain ⟨r,hr1,hr2⟩:=hs.boxes.get hg;have hx0:l0=x:=by simp only[Pe.fzC,hg,Pe.cast,cast0,zbt] at h1;exact yAy h1
         subst hx0;cases r with
         |omp g es c =>
           obtain ⟨bs,rs,g1,g2,g3,g4,g5,g6⟩:=zb0 hun hs ts ps vs (b::zbj) t' (n+1) o3 h2 hr.2;have hrv:=hr.1;simp only[Rep,ids,yAg,hr1,yAf,zaf] at hrv;refine ⟨some b::bs,.omp g es c::rs,?_,?_,?_,λnu' E'=>?_,λnu' hn=>?_,?_⟩;·simp only[zcX];exact ⟨rfl,hr1,g1⟩
           ·intro b' hb';rcases yAp.1 hb' with hb' | hb';·cases hb';exact ⟨by simpa using o2,_,hg,rfl⟩
            ·obtain ⟨k1,k2⟩:=g2 b' hb';exact ⟨λhk=>k1 (by simp[hk]),k2⟩
           ·simp only[yAC,id];refine yAU.2 ⟨λhk=>?_,g3⟩;obtain ⟨y,hy,hyb⟩:=yA6.1 hk;simp only[id] at hyb;subst hyb;exact (g2 b hy).1 (by simp)
           ·simp only[zbi,BxRep];refine ⟨?_,g4 nu' E'⟩;simp only[BoxRep] at hr2 ⊢;exact hr2
           ·simp only[zcu,RepL];refine ⟨?_,g5 nu' λi r hi=>by have:=hn (i+1) r (by simpa using hi);rwa[show n+(i+1)=n+1+i by omega] at this⟩;simp only[Rep];have:=hn 0 (.omp g es c) (by simp);simp only[zaf,yBk] at this;exact ⟨by rw[this];exact hrv.1,hrv.2⟩
           ·simp only[zba,yAC,id,yAk,hg];rw[g6]
         |_=>simp[BoxRep] at hr2
       |_=>simp at o1
   |_=>simp[zaB] at ho
 | .pt u T::ts,p::ps,v::vs,zbj,t,n,ho,hc,hr=>by
   simp only[RepL] at hr;obtain ⟨x,t',h1,h2,rfl⟩:=zcG (t:= .pt u T) (ts:=ts) hc;have h1:Pe.cast un u (Pe.fzC bx (.pt u T) p)=some x:=h1;cases p with
   |elr b v1 i off =>
     cases i with
     |succ i=>simp[zaB] at ho|zero =>
     cases off with
     |succ off=>simp[zaB] at ho|zero =>
     simp only[zaB,yAd,yA0] at ho;obtain ⟨⟨o1,o2⟩,o3⟩:=ho;cases hg:zae bx b with
     |none=>rw[hg] at o1;simp at o1|some box =>
       rw[hg] at o1;cases box with
       |wr u0 T0 l0 =>
         obtain ⟨x0,rfl⟩:∃x0,l0=[x0]:=by
          match l0,o1 with
          |[x0],_=>exact ⟨x0,rfl⟩|[],o1=>simp at o1|_::_::_,o1=>simp at o1
         simp only[yAd] at o1;have hT:T=T0:=yAa o1.1;subst hT;have hu:u0=u:=(yAy (zcI o1.2.1)).symm;have hv1:v1=u:=(yAy (zcI o1.2.2)).symm;subst hu;subst hv1;obtain ⟨r,hr1,hr2⟩:=hs.boxes.get hg;have hx0:x0=x:=by simp only[Pe.fzC,hg] at h1;rw[zmZ] at h1;exact yAy h1
         subst hx0;cases r with
         |wr v0 T' size m xs =>
           obtain ⟨bs,rs,g1,g2,g3,g4,g5,g6⟩:=zb0 hun hs ts ps vs (b::zbj) t' (n+1) o3 h2 hr.2;have hrv:=hr.1;simp only[Rep,ids,yAg,hr1,yAf,zaf] at hrv;obtain ⟨fl,g,n0,c0,hv0,hvv⟩:=hrv;simp only[yAe,Prod.mk.injEq] at hv0;refine ⟨some b::bs,.wr v0 T' size m xs::rs,?_,?_,?_,λnu' E'=>?_,λnu' hn=>?_,?_⟩;·simp only[zcX];exact ⟨rfl,hr1,g1⟩
           ·intro b' hb';rcases yAp.1 hb' with hb' | hb';·cases hb';exact ⟨by simpa using o2,_,hg,rfl⟩
            ·obtain ⟨k1,k2⟩:=g2 b' hb';exact ⟨λhk=>k1 (by simp[hk]),k2⟩
           ·simp only[yAC,id];refine yAU.2 ⟨λhk=>?_,g3⟩;obtain ⟨y,hy,hyb⟩:=yA6.1 hk;simp only[id] at hyb;subst hyb;exact (g2 b hy).1 (by simp)
           ·simp only[zbi,BxRep];refine ⟨?_,g4 nu' E'⟩;simp only[BoxRep] at hr2 ⊢;exact hr2
           ·simp only[zcu,RepL,Rep];refine ⟨⟨false,g,n0,c0,?_,hvv⟩,g5 nu' λi r hi=>?_⟩;·have:=hn 0 _ rfl;simp[zaf] at this;rw[this,hv0.2]
            ·have:=hn (i+1) r (by simpa using hi);rwa[show n+(i+1)=n+1+i by omega] at this
           ·simp only[zba,yAC,id,yAk,hg];rw[g6]
         |_=>simp[BoxRep] at hr2
       |_=>simp at o1
   |_=>simp[zaB] at ho
 | .pt _ _::_,[],_,_,_,_,ho,_,_=>by simp[zaB] at ho
 | .nst _ _ _::_,[],_,_,_,_,ho,_,_=>by simp[zaB] at ho
 |[],[],_::_,_,_,_,_,_,hr=>by simp[RepL] at hr
 |_::_,_::_,[],_,_,_,_,_,hr=>by simp[RepL] at hr
theorem zcq:∀{bs:List (Option Nat)}{rs:List Wl.Res},zcX H bs rs->∀(j:Nat) r,rs[j]?=some r->(∃b,bs[j]?=some (some b)/\H[b]?=some r/\zmH r=true)\/(bs[j]?=some none/\∃T size,r= .own (.slice none 0 0) T size 0 []\/r= .wr (.slice none 0 0) T size 0 [])
 |[],[],_,j,r,h=>by simp at h
 |some b::bs,s::rs,hc,0,r,h=>by simp only[zcX] at hc;simp at h;subst h;exact .inl ⟨b,rfl,hc.2.1,hc.1⟩
 |some b::bs,s::rs,hc,j+1,r,h=>by simp only[zcX] at hc;simpa using zcq hc.2.2 j r (by simpa using h)
 |none::bs,s::rs,hc,0,r,h=>by simp only[zcX] at hc;simp at h;subst h;exact .inr ⟨rfl,hc.1⟩
 |none::bs,s::rs,hc,j+1,r,h=>by simp only[zcX] at hc;simpa using zcq hc.2 j r (by simpa using h)
 |[],_::_,hc,_,_,_=>by simp[zcX] at hc
 |some _::_,[],hc,_,_,_=>by simp[zcX] at hc
 |none::_,[],hc,_,_,_=>by simp[zcX] at hc
theorem zeX:∀{bs:List (Option Nat)},(bs.filterMap id).Nodup->∀(j j':Nat) b,bs[j]?=some (some b)->bs[j']?=some (some b)->j=j'
 |[],_,j,_,_,h,_=>by simp at h
 |x::bs,hn,0,0,_,_,_=>rfl|x::bs,hn,0,j'+1,b,h,h'=>by simp at h;subst h;simp only[yAC,id] at hn;exact absurd (yA6.2 ⟨some b,yAb (show bs[j']?=some (some b) by simpa using h'),rfl⟩:b∈bs.filterMap id) (yAU.1 hn).1
 |x::bs,hn,j+1,0,b,h,h'=>by simp at h';subst h';simp only[yAC,id] at hn;exact absurd (yA6.2 ⟨some b,yAb (show bs[j]?=some (some b) by simpa using h),rfl⟩:b∈bs.filterMap id) (yAU.1 hn).1
 |x::bs,hn,j+1,j'+1,b,h,h'=>by
   have hn':(bs.filterMap id).Nodup:=by
    cases x with
    |none=>simpa using hn|some y=>simp only[yAC,id] at hn;exact (yAU.1 hn).2
   rw[zeX hn' j j' b (by simpa using h) (by simpa using h')]
end
end Pe
end
