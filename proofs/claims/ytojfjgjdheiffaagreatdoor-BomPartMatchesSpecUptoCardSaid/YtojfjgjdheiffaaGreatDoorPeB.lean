/- PROVED HERE: a part of the seat's proofs; see the text that holds the claim's theorem. -/
import Derived.Deep.Upon
import Derived.Test.YtojfjgjdheiffaaGreatDoorPeA
section
namespace Pe
open Go Go.RowKit
variable{S:Nat->Type}
theorem zm2{cs:Nat->List Value}{m:Nat}:∀(n k i:Nat),(∀j,k<=j->j<k+n->(cs j).length=m)->i<n->(((List.range' k n).flatMap cs).drop (i*m)).take m=cs (k+i)
 |0,_,_,_,h=>by omega
 |n+1,k,0,hl,_=>by simp_all[yBk]
 |n+1,k,i+1,hl,h=>by have h0:=hl k (by omega) (by omega);simp only[yBk,yBZ];rw[show (i+1)*m=(cs k).length+i*m by rw[h0,yAz,yAQ,yB3],yCl,yBm (yCm _ _),yAP,yBb];rw[zm2 n (k+1) i (λj h1 h2=>hl j (by omega) (by omega)) (by omega)];grind
theorem zll{cs:Nat->List Value}{m n i:Nat}(hl:∀j,j<n->(cs j).length=m)(h:i<n):(((List.range n).flatMap cs).drop (i*m)).take m=cs i:=by simp_all[zm2,yBE]
section
variable{P:Program}{un:Uni S}{tb:Tb S}{orc:Orc S}{inl:Inl S}{E:Wl.Ctx}{N:Wl.Fr}{D:Dat}{H:List Wl.Res}{e:Env S}{bx:Bxs S}{a:Act}{w:World}{o:Oper}{R:Type}{K:PV S->Option R}{r:R}
theorem zq5{u:U}{T:TypeId}{l:List (El S u)}{v:Value}{T':TypeId}{size n:Nat}{xs:List Value}{nu:Nu}(hh:Wl.Res.holds E w (.wr v T' size n xs))(h:Kc un nu D w E false (.wr u T l) (.wr v T' size n xs)):RowAt un D w v u l:=by
 simp only[Kc] at h;obtain ⟨rfl,rfl,rfl,hx⟩:=h;obtain ⟨⟨Ku,hh⟩,_⟩:=hh;rcases hh with ⟨rfl,hn⟩|⟨g,cap,cur,rfl,hb,hg,hnc,hcm,hcs,htk⟩;·exact .inl ⟨rfl,yAU.1 hn⟩
 ·refine .inr ⟨g,cap,rfl,hnc,λi x hi=>⟨_,λj v hj=>?_,hx i x hi⟩⟩;have hil:i<l.length:=(yAc.1 hi).1;rw[yAD] at hj;split at hj
  ·rename_i hjs;rw[yAu] at hj;have h1:i*U.size un u+j<l.length*U.size un u:=by
    have h2:(i+1)*U.size un u<=l.length*U.size un u:=yAs _ hil;have h3:(i+1)*U.size un u=i*U.size un u+U.size un u:=(by rw[yAz,yAQ]);omega
   rw[cell_of_row w g _ _ _ _ hg];subst htk;rw[yAt h1] at hj;grind
  ·cases hj
theorem zjC(hf:zns un){u:U}{l:List (El S u)}{v:Value}{g:Option Nat}{size:Nat}{ob:Obj}(h1:Wl.fixOk v g size ob)(h2:∀g0,g=some g0->w.heap[g0]?=some ob)(h:DR un D w [.rw u] (sg (u:= .rw u) l) [Wl.fixV v size ob]):RowAt un D w v u l/\(∀A n c,v= .slice A n c->n=l.length/\size=U.size un u)/\∀m,v≠ .map m:=by
 generalize hv:Wl.fixV v size ob=val at h;cases h with
 |rw cs hc h =>
   cases h;have hc':∀i x,l[i]?=some x->DR un D w [u] (sg x) (cs i):=hc;change Wl.fixV v size ob=Wl.encV l.length (U.size un u) ((List.range l.length).flatMap cs) at hv;rcases h1 with ⟨g0,es,c,rfl,rfl,rfl⟩|⟨g0,n,cap,cur,T,fz,rfl,rfl,rfl,hnc,hcm,hcs,hfz⟩|⟨rfl,rfl⟩|⟨g0,T,pp,A0,n0,c0,rfl,rfl,rfl,_⟩;·grind[Wl.fixV,Wl.encM,Wl.encV]
   ·simp only[Wl.fixV,Wl.encV,Value.func.injEq,Fn.func.injEq,yCh,yBB,Value.int.injEq,true_and,and_true] at hv;obtain ⟨rfl,hl,hs⟩:=hv;have hs:size=U.size un u:=by exact_mod_cast hs
    subst hs;have Ku:∀j,j<l.length->(cs j).length=U.size un u:=λj hj=>by rw[(hc' j _ (yAe hj)).length hf];simp[zcF]
    refine ⟨.inr ⟨g0,cap,rfl,hnc,λi x hi=>⟨cs i,λj y hj=>?_,hc' i x hi⟩⟩,λA n c he=>by cases he;exact ⟨rfl,rfl⟩,λm hm=>by cases hm⟩;have hil:i<l.length:=(yAc.1 hi).1;have hjl:j<U.size un u:=by rw[<-Ku i hil];exact (yAc.1 hj).1
    rw[<-zll Ku hil,<-hl,yAt hjl,yAu] at hj;have h3:i*U.size un u+j<l.length*U.size un u:=by have h4:(i+1)*U.size un u<=l.length*U.size un u:=yAs _ hil;have h5:(i+1)*U.size un u=i*U.size un u+U.size un u:=(by rw[yAz,yAQ]);omega
    rw[yAt h3] at hj;rw[cell_of_row w g0 _ _ _ _ (h2 g0 rfl)];simpa using hj
   ·simp only[Wl.fixV,Wl.encV,Value.func.injEq,Fn.func.injEq,yCh,yBB,Value.int.injEq,true_and,and_true] at hv;obtain ⟨h3,_,h4⟩:=hv;have h3:l=[]:=yAU.1 h3.symm;refine ⟨.inl ⟨rfl,h3⟩,λA n c he=>?_,λm hm=>by cases hm⟩;cases he;exact ⟨by rw[h3];rfl,by exact_mod_cast h4⟩
   grind[Wl.fixV,Wl.encV]
theorem zd7{u:U}{x:El S u}{nu:Nu}{v:Value}(h:Ke un nu D w [.cont u x] [v]):DR un D w [u] (sg x) [v]:=by simp_all[Ke,Rep]
theorem zjD(Kq:Kx un)(hs:St un E N D H e bx a w){p:PV S}{b:Nat}{u:U}{l:List (El S u)}{v:Value}(h:zoC bx p=some (b,⟨u,l⟩))(hr:Rep un (ids H) D w p v):(∃fl,(ids H)[b]?=some (fl,v))/\RowAt un D w v u l:=by
 unfold zoC at h;split at h
 ·rename_i b0;split at h
  ·rename_i u0 T l0 hb;cases h;cases hg:zam bx b with
   |none=>rw[hg] at hb;cases hb|some x =>
     rw[hg] at hb;simp only[yAg,yAf] at hb;obtain ⟨r,hr1,hr2⟩:=hs.Kg.get hg;obtain ⟨ro,hb2⟩:=hr2.base;rw[hb] at hb2;simp only[Rep] at hr;refine ⟨⟨_,hr.1⟩,?_⟩;have h1:=hr.1;simp only[ids,yAh,hr1,yAg,yAf] at h1;cases r<;>cases ro<;>simp only[Kc] at hb2
     rotate_left
     ·simp only[zal] at h1;subst h1;exact hb2.2.1
     rename_i v0 T0 size n xs;simp[zal] at h1;subst h1;exact zq5 (nu:=ids H) (hs.Kr.res _ (yAb hr1)) (by simpa only[Kc] using hb2)
  ·cases h
 ·rename_i b0;split at h
  ·rename_i T u0 l0 hb;cases h;cases hg:zam bx b with
   |none=>rw[hg] at hb;cases hb|some x =>
     rw[hg] at hb;simp only[yAg,yAf] at hb;obtain ⟨r,hr1,hr2⟩:=hs.Kg.get hg;obtain ⟨ro,hb2⟩:=hr2.base;rw[hb] at hb2;simp only[Rep] at hr;refine ⟨⟨_,hr.1⟩,?_⟩;have h1:=hr.1;simp only[ids,yAh,hr1,yAg,yAf] at h1;cases r<;>cases ro<;>simp only[Kc] at hb2;·exfalso;rename_i g T0 cs;simp[zal] at h1;subst h1;simp[zeZ] at hr
     ·rename_i v0 g size ob;simp[zal] at h1;subst h1;have hh:=hs.Kr.res _ (yAb hr1);exact (zjC Kq.flat hh.1 (λg0 hg0=>(hh.2 g0 hg0).2) (zd7 hb2)).1
     ·rename_i id;obtain ⟨vs,hse,hl⟩:=hb2;simp only[zal] at h1;subst h1;cases hse with
      |box g T' vs h1 h2 h3=>simp[zeZ] at hr|fix v g size ob T' h1 h2=>exact (zjC Kq.flat h1 (λg0 hg0=>(h2 g0 hg0).2.2) (zd7 hl)).1
  ·cases h
 ·cases h
theorem zmz{nu:Nu}{u:U}{l:List (El S u)}{g n c:Nat}(h:Rep un nu D w (.sl u l) (.slice (some ⟨g,0,none⟩) n c)):RowAt un D w (.slice (some ⟨g,0,none⟩) n c) u l:=by
 simp only[Rep] at h;cases h with
 |sl0 A c h0 h =>have h0':l=[]:=h0;subst h0';exact .inr ⟨g,c,rfl,yAA _,λi x hi=>by simp at hi⟩
 |sl b off c cs hc h1 h2 h =>refine .inr ⟨g,c,rfl,hc,λi x hi=>⟨cs i,?_,h2 i x hi⟩⟩;have:=h1 i x hi;rw[yAJ] at this;exact λj v hj=>(this j v hj).2
theorem zj3(Kq:Kx un)(hs:St un E N D H e bx a w){b:Nat}{u:U}{l:List (El S u)}{v:Value}{fl:Bool}(h:zpk bx b u=some l)(hr:(ids H)[b]?=some (fl,v))(hv:∃g n c,v= .slice (some ⟨g,0,none⟩) n c):RowAt un D w v u l:=by
 unfold zpk at h;split at h
 ·rename_i u0 T l0 hb;split at h
  ·rename_i heq _;subst heq;cases h;cases hg:zam bx b with
   |none=>grind|some x =>
     rw[hg] at hb;simp only[yAg,yAf] at hb;obtain ⟨r,hr1,hr2⟩:=hs.Kg.get hg;obtain ⟨ro,hb2⟩:=hr2.base;rw[hb] at hb2;simp only[ids,yAh,hr1,yAg,yAf] at hr;cases r<;>cases ro<;>simp only[Kc] at hb2
     rotate_left
     ·simp only[zal] at hr;subst hr;exact hb2.2.1
     rename_i v0 T0 size n xs;simp[zal] at hr;obtain ⟨_,rfl⟩:=hr;exact zq5 (nu:=ids H) (hs.Kr.res _ (yAb hr1)) (by simpa only[Kc] using hb2)
  ·cases h
 ·rename_i T u0 l0 hb;split at h
  ·rename_i heq _;subst heq;cases h;cases hg:zam bx b with
   |none=>rw[hg] at hb;cases hb|some x =>
     rw[hg] at hb;simp only[yAg,yAf] at hb;obtain ⟨r,hr1,hr2⟩:=hs.Kg.get hg;obtain ⟨ro,hb2⟩:=hr2.base;rw[hb] at hb2;simp only[ids,yAh,hr1,yAg,yAf] at hr;obtain ⟨A,n,c,rfl⟩:=hv;cases r<;>cases ro<;>simp only[Kc] at hb2;·exfalso;simp[zal] at hr
     ·rename_i v0 g size ob;simp[zal] at hr;obtain ⟨_,rfl⟩:=hr;have hh:=hs.Kr.res _ (yAb hr1);exact (zjC Kq.flat hh.1 (λg0 hg0=>(hh.2 g0 hg0).2) (zd7 hb2)).1
     ·rename_i id;obtain ⟨vs,hse,hl⟩:=hb2;simp only[zal] at hr;subst hr;generalize hid:(fl,Value.slice (some ⟨A,0,none⟩) n c)=id at hse;cases hse with
      |box g T' vs h1 h2 h3=>cases hid|fix v g size ob T' h1 h2=>cases hid;exact (zjC Kq.flat h1 (λg0 hg0=>(h2 g0 hg0).2.2) (zd7 hl)).1
  ·cases h
 ·rename_i u0 T l0 hb;split at h
  ·rename_i heq _;subst heq;cases h;cases hg:zam bx b with
   |none=>rw[hg] at hb;cases hb|some x =>
     rw[hg] at hb;simp only[yAg,yAf] at hb;obtain ⟨r,hr1,hr2⟩:=hs.Kg.get hg;obtain ⟨ro,hb2⟩:=hr2.base;rw[hb] at hb2;simp only[ids,yAh,hr1,yAg,yAf] at hr;obtain ⟨g,n,c,rfl⟩:=hv;cases r<;>cases ro<;>simp only[Kc] at hb2;·rename_i v0 T0 size n0 xs;simp[zal] at hr;obtain ⟨_,rfl⟩:=hr;exact zmz (zgs (nu:=ids H) Kq.flat (hs.Kr.res _ (yAb hr1)) (by simpa only[Kc] using hb2))
     ·rename_i id;simp only[zal] at hr;subst hr;exact zmz (nu:=ids H) hb2.2
  ·cases h
 ·cases h
theorem zlD{nu:Nu}{u:U}{x:El S u}{cs:List Value}(h:DR un D w [u] (sg x) cs):Rep un nu D w (inj u x) (zbF u cs):=by
 cases u with
 |st n=>simp_all[inj,Rep,zbF]|int k=>cases h with|int h=>cases h;simp only[inj,Rep,zbF];rfl
 |bool=>cases h with|bool h=>cases h;simp only[inj,Rep,zbF];rfl
 |str=>cases h with|str h=>cases h;simp only[inj,Rep,zbF];rfl
 |sl u =>
   cases h with
   |sl0 A c h0 h=>cases h;simp only[inj,Rep,zbF];exact .sl0 A c h0 .nil|sl b off c cs hc h1 h2 h=>cases h;simp only[inj,Rep,zbF];exact .sl b off c cs hc h1 h2 .nil
 |mp k v=>cases h with|mp kc vc h1 h2 h=>cases h;simp only[inj,Rep,zbF];exact .mp kc vc h1 h2 .nil
 |rw u=>cases h with|rw cs h1 h=>cases h;simp only[inj,Rep,zbF];exact .rw cs h1 .nil
 |cs u =>
   cases h with
   |cs0 A h0 h=>cases h;simp only[inj,Rep,zbF];exact .cs0 A h0 .nil|cs b off cs h1 h2 h=>cases h;simp only[inj,Rep,zbF];exact .cs b off cs h1 h2 .nil
def ValsRep(un:Uni S)(D:Dat)(w:World)(v:U):List (El S v)->List MapEntry->Prop|[],[]=>True|y::l,e::es=>Rep un [] D w (inj v y) e.val/\ValsRep un D w v l es|_,_=>False
theorem zje:∀{es:List MapEntry}{n k:Nat}{f g:Nat->Value},(List.range' k n).flatMap (λi=>[f i,g i])=es.flatMap (λe=>[e.key,e.val])->es.length=n/\∀i e,es[i]?=some e->e.key=f (k+i)/\e.val=g (k+i)
 |[],0,_,_,_,_=>⟨rfl,λi e h=>by simp at h⟩|e::es,n+1,k,f,g,h=>by
   simp only[yBk,yBZ,yA3,yBb,yBB] at h;obtain ⟨h1,h2,h3⟩:=h;obtain ⟨g1,g2⟩:=zje h3;refine ⟨by simp[g1],λi e' hi=>?_⟩;cases i with
   |zero=>simp_all|succ i=>grind
 |[],n+1,k,_,_,h=>by simp[yBk] at h
 |e::es,0,k,_,_,h=>by simp at h
theorem zi1{k:U}{f:Nat->List Value}:∀{l:List (El S k)}{es:List MapEntry}(m:Nat),es.length=l.length->(∀i x,l[i]?=some x->DR un D w [k] (sg x) (f (m+i)))->(∀i e,es[i]?=some e->e.key=zbF k (f (m+i)))->KeysRep un D w k l es
 |[],[],_,_,_,_=>trivial|x::l,e::es,m,hl,h1,h2=>by
   refine ⟨by rw[h2 0 e rfl];exact zlD (h1 0 x rfl),zi1 (f:=f) (m+1) (by grind) (λi y hi=>?_) λi y hi=>?_⟩;·have:=h1 (i+1) y (by grind);grind
   ·have:=h2 (i+1) y (by grind);grind
 |[],_::_,_,hl,_,_=>by simp at hl
 |_::_,[],_,hl,_,_=>by simp at hl
theorem ziC{k:U}{f:Nat->List Value}:∀{l:List (El S k)}{es:List MapEntry}(m:Nat),es.length=l.length->(∀i x,l[i]?=some x->DR un D w [k] (sg x) (f (m+i)))->(∀i e,es[i]?=some e->e.val=zbF k (f (m+i)))->ValsRep un D w k l es
 |[],[],_,_,_,_=>trivial|x::l,e::es,m,hl,h1,h2=>by
   refine ⟨by rw[h2 0 e rfl];exact zlD (h1 0 x rfl),ziC (f:=f) (m+1) (by grind) (λi y hi=>?_) λi y hi=>?_⟩;·have:=h1 (i+1) y (by grind);grind
   ·have:=h2 (i+1) y (by grind);grind
 |[],_::_,_,hl,_,_=>by simp at hl
 |_::_,[],_,hl,_,_=>by simp at hl
theorem KeysRep.length{k:U}:∀{l:List (El S k)}{es:List MapEntry},KeysRep un D w k l es->l.length=es.length
 |[],[],_=>rfl|_::_,_::_,h=>by simp[h.2.length]
 |[],_::_,h=>h.elim|_::_,[],h=>h.elim
theorem zjV{k v:U}{l:List (El S k×El S v)}{val:Value}{g:Option Nat}{size:Nat}{ob:Obj}(h1:Wl.fixOk val g size ob)(h:DR un D w [.mp k v] (sg (u:= .mp k v) l) [Wl.fixV val size ob]) :
  ∃g0 es c,val= .map (some g0)/\g=some g0/\ob= .map es c/\KeysRep un D w k (l.map (·.1)) es.toList/\ValsRep un D w v (l.map (·.2)) es.toList:=by
 generalize hv:Wl.fixV val size ob=x at h;cases h with
 |mp kc vc hk hw h =>
   cases h;have hk':∀(i:Nat) x,l[i]?=some x->DR un D w [k] (sg x.1) (kc i):=hk;have hw':∀(i:Nat) x,l[i]?=some x->DR un D w [v] (sg x.2) (vc i):=hw;change Wl.fixV val size ob=Wl.encM ((List.range l.length).flatMap λi=>[zbF k (kc i),zbF v (vc i)]) at hv;rcases h1 with ⟨g0,es,c,rfl,rfl,rfl⟩|⟨g0,n,cap,cur,T,fz,rfl,rfl,rfl,hnc,hcm,hcs,hfz⟩|⟨rfl,rfl⟩|⟨g0,T,pp,A0,n0,c0,rfl,rfl,rfl,_⟩
   ·simp only[Wl.fixV,Wl.encM,Value.func.injEq,yCh,true_and,and_true] at hv;rw[yBE] at hv;obtain ⟨e1,e2⟩:=zje hv.symm;refine ⟨g0,es,c,rfl,rfl,rfl,zi1 (f:=kc) 0 (by grind) (λi x hi=>?_) (λi e he=>?_),ziC (f:=vc) 0 (by grind) (λi x hi=>?_) λi e he=>?_⟩
    ·rw[yAh] at hi;cases hl:l[i]? with
     |none=>grind|some y=>rw[hl] at hi;cases hi;rw[yAJ];grind
    ·exact (e2 i e he).1
    ·rw[yAh] at hi;cases hl:l[i]? with
     |none=>grind|some y=>rw[hl] at hi;cases hi;rw[yAJ];grind
    ·exact (e2 i e he).2
   ·grind[Wl.fixV,Wl.encM,Wl.encV]
   ·grind[Wl.fixV,Wl.encM,Wl.encV]
   grind[Wl.fixV,Wl.encM]
theorem zCl{u:U}:∀{l:List (El S .str×El S (.sl u))}{es:List MapEntry},es.map (·.key)=l.map (λx=>Value.string ⟨(eS x.1).toArray⟩)->KeysRep un D w .str (l.map (·.1)) es
 |[],[],_=>trivial|x::l,e::es,h=>by simp only[yAn,yBB] at h;simp only[yAn,KeysRep];refine ⟨?_,zCl h.2⟩;simp only[inj,Rep];exact h.1
 |[],_::_,h=>by simp at h
 |_::_,[],h=>by simp at h
theorem GrpRep.len{u:U}{l:List (El S .str×El S (.sl u))}{h es s2 rows}(k:GrpRep un D w u l h es s2 rows):l.length=es.length:=by have:=congrArg List.length k.2.1;simpa using this.symm
theorem zCU(hf:zns un){b:Nat}{u:U}{T2:TypeId}{l:List (El S .str×El S (.sl u))}{h:Option By}{nu:Nu}{g:Nat}{es:Array MapEntry}{c:Nat}{rows:List (Option (Value×Nat×List Value))}{j:Nat}{x:El S .str×El S (.sl u)}{q:Value×Nat×List Value}(hs:In E D H w)(h1:H[b]?=some (.grp g es c T2 (U.size un u) rows))(h3:GrpRep un D w u l h es.toList (U.size un u) rows)
  (hx:l[j]?=some x) (hn:h≠some (eS x.1)) (hq:rows[j]?=some (some q)):Rep un nu D w (.sl u (eL x.2)) q.1/\Kc un nu D w E false (.own u T2 (eL x.2)) (.own q.1 T2 (U.size un u) q.2.1 q.2.2)/\Wl.Res.holds E w (.own q.1 T2 (U.size un u) q.2.1 q.2.2):=by
 have hh:=hs.res _ (yAb h1);obtain ⟨q',q1,q2,q3,q4,q5⟩:=h3.2.2.2 j x hx hn;rw[hq] at q1;simp only[yAf] at q1;subst q1;have hb:Kc un nu D w E false (.own u T2 (eL x.2)) (.own q.1 T2 (U.size un u) q.2.1 q.2.2):=by simp only[Kc];exact ⟨trivial,trivial,q3.1,q4,q5⟩
 have ho:Wl.Res.holds E w (.own q.1 T2 (U.size un u) q.2.1 q.2.2):=⟨(hh.2.1 j q hq).1,(hh.2.1 j q hq).2.1⟩;exact ⟨zgs hf ho hb,hb,ho⟩
theorem zCf{v:U}:∀{l:List (El S v)}{es:List MapEntry},l.length=es.length->(∀(i:Nat) x e,l[i]?=some x->es[i]?=some e->Rep un [] D w (inj v x) e.val)->ValsRep un D w v l es
 |[],[],_,_=>trivial|x::l,e::es,hl,h=>⟨h 0 x e rfl rfl,zCf (by simpa using hl) λi y f hy hf=>h (i+1) y f (by simpa using hy) (by simpa using hf)⟩|[],_::_,hl,_=>by simp at hl
 |_::_,[],hl,_=>by simp at hl
theorem zmJ(hf:zns un)(hs:St un E N D H e bx a w){p:PV S}{k v:U}{l:List (El S k×El S v)}{val:Value}(h:zqx bx k v p=some l)(hr:Rep un (ids H) D w p val) :
  ∃g0 es c,val= .map (some g0)/\w.heap[g0]?=some (.map es c)/\KeysRep un D w k (l.map (·.1)) es.toList/\ValsRep un D w v (l.map (·.2)) es.toList:=by
 unfold zqx at h;split at h
 ·rename_i b;split at h
  ·rename_i T u0 l0 hb;split at h
   ·rename_i heq _;subst heq;cases h;cases hg:zam bx b with
    |none=>rw[hg] at hb;cases hb|some x =>
      rw[hg] at hb;simp only[yAg,yAf] at hb;obtain ⟨r,hr1,hr2⟩:=hs.Kg.get hg;obtain ⟨ro,hb2⟩:=hr2.base;rw[hb] at hb2;simp only[Rep] at hr;have h1:=hr.1;simp only[ids,yAh,hr1,yAg,yAf] at h1;cases r<;>cases ro<;>simp only[Kc] at hb2;·exfalso;simp[zal] at h1;subst h1;simp[zeZ] at hr
      ·rename_i v0 g size ob;simp[zal] at h1;subst h1;have hh:=hs.Kr.res _ (yAb hr1);obtain ⟨g0,es,c,e1,e2,e3,e4,e5⟩:=zjV hh.1 (zd7 hb2);subst e3;exact ⟨g0,es,c,e1,(hh.2 g0 e2).2,e4,e5⟩
      ·rename_i id;obtain ⟨vs,hse,hl⟩:=hb2;simp only[zal] at h1;subst h1;cases hse with
       |box g T' vs h1 h2 h3=>simp[zeZ] at hr|fix v0 g size ob T' h1 h2 =>obtain ⟨g0,es,c,e1,e2,e3,e4,e5⟩:=zjV h1 (zd7 hl);subst e3;exact ⟨g0,es,c,e1,(h2 g0 e2).2.2,e4,e5⟩
   ·cases h
  ·rename_i u T2 l0 hb;split at h
   ·rename_i heq _;cases heq;cases h;cases hg:zam bx b with
    |none=>rw[hg] at hb;cases hb|some x =>
      rw[hg] at hb;simp only[yAg,yAf] at hb;obtain ⟨r,hr1,hr2⟩:=hs.Kg.get hg;obtain ⟨ro,hb2⟩:=hr2.base;rw[hb] at hb2;simp only[Rep] at hr;have h1:=hr.1;simp only[ids,yAh,hr1,yAg,yAf] at h1;cases r<;>cases ro<;>simp only[Kc] at hb2;rename_i g0 es c T2' s2 rows;obtain ⟨rfl,rfl,h3⟩:=hb2;simp only[zal,Prod.mk.injEq,true_and] at h1;subst h1;refine ⟨g0,es,c,rfl,(hs.Kr.res _ (yAb hr1)).1.2,zCl h3.2.1,zCf (by simpa using h3.len) λi y en hy hen=>?_⟩;simp only[yAh] at hy;cases hx:l0[i]? with
      |none=>rw[hx] at hy;cases hy|some x0 =>rw[hx] at hy;simp only[yAg,yAf] at hy;subst hy;obtain ⟨q,q1,q2,_⟩:=h3.2.2.2 i x0 hx (by simp);simp only[yAh,hen,yAg,yAf] at q2;rw[q2];simp only[inj];exact (zCU hf hs.Kr hr1 h3 hx (by simp) q1).1
   ·cases h
  ·cases h
 ·cases h
theorem zln{k v:U}{x:El S k}{z:El S v}:∀{l:List (El S k×El S v)}{es:List MapEntry}(i:Nat),ValsRep un D w v (l.map (·.2)) es->l.length=es.length ->
  (zeQ ((l.map (·.1)).map (keq un k x)) es i=none/\zrC (keq un k) x l=false/\zdh (keq un k) x z l=z)\/∃j y,zeQ ((l.map (·.1)).map (keq un k x)) es i=some (j,y)/\zrC (keq un k) x l=true/\Rep un [] D w (inj v (zdh (keq un k) x z l)) y
 |[],[],i,_,_=>.inl ⟨rfl,rfl,rfl⟩|(k0,v0)::l,e::es,i,h,hl=>by
   simp only[yAn,ValsRep] at h;simp only[yAn,zrC,zdh];cases hk:keq un k x k0 with
   |true=>exact .inr ⟨i,e.val,rfl,rfl,h.1⟩|false=>simpa only[zeQ,cond_false] using zln (i+1) h.2 (by grind)
 |[],_::_,_,_,hl=>by simp at hl
 |_::_,[],_,_,hl=>by simp at hl
theorem zfr(Kq:Kx un)(ht:Qc P un tb){t:TypeId}{u:U}{z:El S u}(h:zdZ un tb t u=some z):∃v,(zeroValue t).run P w= .ok v w/\Rep un [] D w (inj u z) v:=by
 unfold zdZ at h;split at h
 ·rename_i r hr;have Kp:=ht.ty t r hr;obtain ⟨v,g1,g2,g3⟩:=Kp.zero;have Kw:(zeroValue t).run P w= .ok v w:=by
   cases hi:P.info? t with
   |none=>grind|some i =>simp_all[zeroValue,typeInfo]
  refine ⟨v,Kw,?_⟩;obtain ⟨za,zb⟩:=Kp.zagg v g1;split at h;·rename_i n;obtain ⟨h1,h2⟩:=zae h;obtain ⟨cs,rfl⟩:=za h1;refine (zbT (nu:=[]) (D:=D) (w:=w) Kq h2 ?_).2;simp only[Rep];refine ⟨cs.toList,by simp,?_⟩;rw[g3];exact zex _
  ·cases ha:r.agg with
   |true=>grind|false =>rw[ha] at h;simp only[cond_false] at h;have hc:=zb ha;rw[hc] at g3;simp at g3;rw[g3] at h;simp only at h;exact (zf5 (un:=un) (nu:=[]) (D:=D) (w:=w) h (zhF v)).2.2
 ·cases h
theorem zh3{α:Type}{l:List α}{n:Int}{k:Nat}(h:zcX l n=some k):n=k/\k<l.length:=by
 unfold zcX at h;split at h;·obtain ⟨h1,h2⟩:=zae h;simp_all
 ·cases h
theorem zhD{u:U}{l:List (El S u)}{v:Value}(h:RowAt un D w v u l){i:Nat}{x:El S u}(hi:l[i]?=some x):∃g cap cs,v= .slice (some ⟨g,0,none⟩) l.length cap/\w.rangeAt g (i*U.size un u) cs/\DR un D w [u] (sg x) cs:=by
 rcases h with ⟨_,rfl⟩|⟨g,cap,rfl,hc,h⟩;·simp at hi
 simp_all
theorem zm0(l:List Int)(i:Nat)(h:i<l.length):l.getD i 0=l[i]:=by simp_all
theorem zh1(ht:Qc P un tb){T:TypeId}(h:zrL tb T=true):P.underlying T=some (.int .u8):=by
 unfold zrL at h;split at h
 ·rename_i hc;cases hr:tb.ty.get T with
  |none=>grind|some r=>rw[hr] at hc;exact (ht.ty T r hr).int _ hc
 ·cases h
theorem zqE(Kq:Kx un)(ht:Qc P un tb){t:TypeId}{u:U}{y:El S u}{off g p:Nat}{cs:List Value}{q:PV S}{nu:Nu}(hl:load un tb t (.elp u y off) bx=some q)(hd:w.rangeAt g p cs)(hx:DR un D w [u] (sg y) cs) :
  ∃v,(Instr.loadAt t (.pointer (some ⟨g,p+off,none⟩))).run P w= .ok v w/\Rep un nu D w q v:=by
 unfold load at hl;split at hl;·cases hl
 ·rename_i r Kp;have Kp:=ht.ty t r Kp;dsimp only at hl;have hor:=zbZ (nu:=nu) Kq.flat hx;split at hl
  ·rename_i m y m' hcode;cases Q4:(Nat.beq m m'&&r.agg&&Nat.beq r.n (un.codes m).length) with
   |false=>rw[Q4] at hl;exact zdu (off:=0) Kp hd hor hl|true =>
     rw[Q4] at hl;cases hl;simp only[yAd] at Q4;obtain ⟨d,hd1,hd2⟩:=Kp.agg Q4.1.2;refine ⟨_,run_loadAt_mid (P:=P) w g p t cs d hd hd1 (by grind[zpJ]) ?_,?_⟩;·rw[Kp.size,yAa Q4.2,hx.length Kq.flat];simp[zcF,U.size]
     simp_all[Rep]
  ·exact zdu Kp hd hor hl
theorem zso:∀{l:List (El S (.int .u8))}{v:Value},RowAt un D w v (.int .u8) l->(v= .slice none 0 0/\l=[])\/∃g cap,v= .slice (some ⟨g,0,none⟩) l.length cap/\∀i,i<l.length->w.cell? ⟨g,i,none⟩=some (.int .u8 (List.getD (α:=Int) l i 0)):=by
 intro l v h;rcases h with h|⟨g,cap,rfl,hc,h⟩;·exact .inl h
 ·refine .inr ⟨g,cap,rfl,λi hi=>?_⟩;obtain ⟨cs,h1,h2⟩:=h i _ (yAe hi);cases h2 with
  |int h2 =>cases h2;have:=h1 0 _ rfl;simp only[U.size,yBj,yBu] at this;rw[this];exact congrArg (λz=>some (Value.int .u8 z)) (zm0 l i hi).symm
theorem zdB{s d T:TypeId}{l:List Int}{v:Value}(hs:P.underlying s=some (.slice T))(hT:P.underlying T=some (.int .u8))(hd:P.underlying d=some .string)
  (h:(∃A c,v= .slice A 0 c/\l=[])\/∃g off cap,v= .slice (some ⟨g,off,none⟩) l.length cap/\∀i,i<l.length->w.cell? ⟨g,off+i,none⟩=some (.int .u8 (l.getD i 0))):(convert s d v).run P w= .ok (.string ⟨(zjt l).toArray⟩) w:=by
 rcases h with ⟨A,c,rfl,rfl⟩|⟨g,off,cap,rfl,h⟩
 ·cases A with
  |none=>rw[run_convert_bytes_nil w s T hs hT 0 c d hd];rfl|some ad=>rw[run_convert_bytes_string w s d T _ _ _ hs hT hd];simp[Conv.bytesToString,loadCells,loadCellsFrom,zjt];rfl
 ·rw[run_convert_bytes_arg w s T hs hT g off l.length cap l rfl h d hd];congr 2
theorem zpL{nu:Nu}{l:List (El S (.int .u8))}{v:Value}(h:Rep un nu D w (.sl (.int .u8) l) v):(∃A c,v= .slice A 0 c/\l=[])\/∃g off cap,v= .slice (some ⟨g,off,none⟩) (List.length l) cap/\∀i,i<l.length->w.cell? ⟨g,off+i,none⟩=some (.int .u8 (List.getD (α:=Int) l i 0)):=by
 simp only[Rep] at h;cases h with
 |sl0 A c h0 h =>have h0':l=[]:=h0;simp_all
 |sl b off c cs hc h1 h2 h =>
   refine .inr ⟨b,off,c,rfl,λi hi=>?_⟩;have hi':i<(eL (hd (sg (u:= .sl (.int .u8)) l))).length:=hi;have a1:=h1 i _ (yAe hi');have a2:=h2 i _ (yAe hi');generalize cs i=cc at a1 a2;cases a2 with
   |int a2 =>cases a2;have:=(a1 0 _ rfl).2;simp only[U.size,yBj,yBu] at this;rw[this];exact congrArg (λz=>some (Value.int .u8 z)) (zm0 l i hi).symm
theorem zaO{p:PV S}(h:∀E N D H a w,St un E N D H e bx a w->∃v,(execOp a.eval o).run P w= .ok (.value v) w/\Rep un (ids H) D w p v):Gives P un o e bx p :=
 λE N D H a w hs=>.inl (h E N D H a w hs)
theorem zlS(Kq:Kx un)(ht:Qc P un tb)(hor:K4 P un orc)(Kt:Qe P un inl)(h:zfE un tb orc inl o e bx K=some r):∃p,K p=some r/\Gives P un o e bx p:=by
 have old:zeN un tb orc inl o e bx K=some r->∃p,K p=some r/\Gives P un o e bx p:=zlU Kq ht hor Kt;unfold zfE at h;split at h
 ·-- indexAddr
  rename_i t x i ho;split at h
  ·rename_i b u l Kp;cases hx:ev e x with
   |none=>rw[hx] at Kp;cases Kp|some p =>
     rw[hx] at Kp;simp only[yAB] at Kp;split at h
     ·rename_i k n row hi hty;obtain ⟨h1,h2⟩:=zae h;simp only[yAd] at h1;obtain ⟨j,h3,h4⟩:=zay h2;obtain ⟨rfl,hj⟩:=zh3 h3;refine ⟨_,h4,zaO λE N D H a w hs=>?_⟩;obtain ⟨⟨fl,hid⟩,hra⟩:=zjD Kq hs Kp (hs.ev hx);obtain ⟨g,cap,cs,hv,h5,h6⟩:=zhD hra (yAe hj);have hiv:=hs.ev hi;simp only[Rep] at hiv;obtain ⟨T,u',e1,e2,e3⟩:=(ht.ty t row hty).slice (yAa h1.1);have hu:=zd1 h1.2;rw[e1] at hu;simp at hu;subst hu;refine ⟨.pointer (some ⟨g,0+j*U.size un u',none⟩),?_,?_⟩;·simp only[execOp,ho,hv,hiv];simp[zbJ (un:=un) (k:=k) (off:=0) (b:=g) (c:=cap) e2 e3 hj w]
      ·simp only[Rep];rw[hv] at hid;exact ⟨fl,g,_,_,hid,by simp⟩
     ·cases h
  ·exact old h
 ·-- fieldAddr
  rename_i s x f ho;split at h
  ·rename_i b u i off hx;split at h
   ·rename_i row Kp;obtain ⟨h1,h2⟩:=zae h;split at h2;·rename_i d sz hf;refine ⟨_,h2,zaO λE N D H a w hs=>?_⟩;have hv:=hs.ev hx;simp only[Rep] at hv;obtain ⟨fl,g,n,c,g1,g2⟩:=hv;have Kw:=(ht.ty s row Kp).field (yAa h1) f d sz hf ⟨g,i*U.size un u+off,none⟩ w;exact ⟨_,by simp[execOp,ho,g2,Kw,Addr.add_mid];rfl,by simp only[Rep];exact ⟨fl,g,n,c,g1,by rw[yBx]⟩⟩
    ·cases h2
   ·cases h
  ·exact old h
 ·-- nilCheck
  rename_i x ho;split at h;·rename_i b u i off hx;refine ⟨_,h,zaO λE N D H a w hs=>?_⟩;have hv:=hs.ev hx;have hv':=hv;simp only[Rep] at hv';obtain ⟨fl,g,n,c,g1,g2⟩:=hv';exact ⟨.pointer (some ⟨g,i*U.size un u+off,none⟩),by simp[execOp,ho,g2],g2▸hv⟩
  ·exact old h
 ·-- load
  rename_i t x ho;split at h
  ·rename_i b u i off hx;split at h
   ·rename_i l K9;obtain ⟨y,h1,h2⟩:=zay h;have h1:l[i]?=some y:=h1;split at h2;·rename_i q hq;refine ⟨_,h2,zaO λE N D H a w hs=>?_⟩;have hv:=hs.ev hx;simp only[Rep] at hv;obtain ⟨fl,g,n,c,g1,g2⟩:=hv;have hra:=zj3 Kq hs K9 g1 ⟨_,_,_,rfl⟩;obtain ⟨g',cap,cs,hvv,h5,h6⟩:=zhD hra h1;cases hvv;obtain ⟨z,k1,k2⟩:=zqE (P:=P) (nu:=ids H) Kq ht hq h5 h6;exact ⟨z,by simp[execOp,ho,g2,k1],k2⟩
    ·cases h2
   ·cases h
  ·exact old h
 ·-- lookup
  rename_i t m x ok ho;split at h
  ·rename_i p q kt k vt v hp hq hmp;split at h
   ·rename_i l key z hl Q3 hz;obtain ⟨h1,h2⟩:=zae h;cases Kp:tb.ty.get t with
    |none=>rw[Kp] at hmp;cases hmp|some row =>
      rw[Kp] at hmp;simp only[yAB] at hmp;obtain ⟨hu,hk⟩:=(ht.ty t row Kp).mp _ _ _ _ hmp;refine ⟨_,h2,zaO λE N D H a w hs=>?_⟩;obtain ⟨g0,es,c,e1,e2,e3,e4⟩:=zmJ Kq.flat hs hl (hs.ev hp);have hkr:=zdg (nu':=[]) (zbT Kq Q3 (hs.fz Kq (hs.ev hq))).2;obtain ⟨zv,z1,z2⟩:=zfr (P:=P) (D:=D) (w:=w) Kq ht hz;have hfind:=hk.find D w key _ _ _ hkr e3;have Ku:l.length=es.toList.length:=by have:=e3.length;simpa using this
      have hlk:∃y b,(Instr.lookup t (.map (some g0)) (a.eval x) ok).run P w= .ok (if ok then .tuple #[y,.bool b] else y) w/\b=zrC (keq un k) key l/\Rep un [] D w (inj v (zdh (keq un k) key z l)) y:=by
       rcases zln (x:=key) (z:=z) 0 e4 Ku with ⟨f1,f2,f3⟩|⟨j,y,f1,f2,f3⟩;·refine ⟨zv,false,?_,f2.symm,by rw[f3];exact z2⟩;rw[f1] at hfind;simp[Instr.lookup,run_underlying hu,MapKept.run_getObj_map e2,hk.check D w key _ _ hkr,hfind,z1,Result.andThen]
       ·refine ⟨y,true,?_,f2.symm,f3⟩;rw[f1] at hfind;simp[Instr.lookup,run_underlying hu,MapKept.run_getObj_map e2,hk.check D w key _ _ hkr,hfind,Result.andThen]
      obtain ⟨y,b,f1,rfl,f3⟩:=hlk;cases ok with
      |true=>exact ⟨_,by simp[execOp,ho,e1,f1];rfl,by simp only[cond_true,Rep];exact ⟨[y,.bool (zrC (keq un k) key l)],rfl,by simp only[Ke,Rep];exact ⟨zdg f3,trivial,trivial⟩⟩⟩|false=>exact ⟨y,by simp[execOp,ho,e1,f1],by simp only[cond_false];exact zdg f3⟩
   ·cases h
  ·cases h
 ·-- convert
  rename_i s d x ho;split at h
  ·rename_i k0 n rs rd hx hs0 hd0;split at h;·rename_i k hcode;refine ⟨_,h,zaO λE N D H a w hs=>⟨.int k (k.wrap n),?_,by simp only[Rep]⟩⟩;have hv:=hs.ev hx;simp only[Rep] at hv;obtain ⟨ds,hds⟩:=(ht.ty s rs hs0).und;have hdd:=(ht.ty d rd hd0).int k hcode;simp[execOp,ho,hv,convert,run_underlying hds,run_underlying hdd,Conv.intToInt]
   ·cases h
  ·rename_i l rs rd hx hs0 hd0;obtain ⟨h1,h2⟩:=zae h;simp only[yAd] at h1;refine ⟨_,h2,zaO λE N D H a w hs=>⟨.string ⟨l.toArray⟩,?_,by simp only[Rep]⟩⟩;have hv:=hs.ev hx;simp only[Rep] at hv;have hds:=(ht.ty s rs hs0).str (yAa h1.1);have hdd:=(ht.ty d rd hd0).str (yAa h1.2);simp[execOp,ho,hv,convert,run_underlying hds,run_underlying hdd]
  ·rename_i p rs rd _ _ hx hs0 hd0;split at h
   ·rename_i _ T b l K9 hrw;obtain ⟨h1,h2⟩:=zae h;simp only[yAd] at h1;refine ⟨_,h2,zaO λE N D H a w hs=>⟨.string ⟨(zjt l).toArray⟩,?_,by simp only[Rep]⟩⟩;obtain ⟨_,hra⟩:=zjD Kq hs hrw (hs.ev hx);obtain ⟨T',u',e1,e2,e3⟩:=(ht.ty s rs hs0).slice (yAa h1.1.2);rw[K9] at e1;cases e1;have hdd:=(ht.ty d rd hd0).str (yAa h1.1.1)
    have:=zdB (P:=P) (w:=w) (l:=l) e2 (zh1 ht h1.2) hdd (by
     rcases zso hra with ⟨h5,h6⟩|⟨g,cap,h5,h6⟩;·exact .inl ⟨none,0,h5,h6⟩
     ·exact .inr ⟨g,0,cap,h5,λi hi=>by rw[yAJ];exact h6 i hi⟩)
    simp[execOp,ho,this]
   ·rename_i T l K9 hrw hfz;obtain ⟨h1,h2⟩:=zae h;simp only[yAd] at h1;refine ⟨_,h2,zaO λE N D H a w hs=>⟨.string ⟨(zjt l).toArray⟩,?_,by simp only[Rep]⟩⟩;have hv:=hs.fz1 Kq (hs.ev hx);rw[hfz] at hv;obtain ⟨T',u',e1,e2,e3⟩:=(ht.ty s rs hs0).slice (yAa h1.1.2);rw[K9] at e1;cases e1;have hdd:=(ht.ty d rd hd0).str (yAa h1.1.1);have:=zdB (P:=P) (w:=w) (l:=l) e2 (zh1 ht h1.2) hdd (zpL hv);simp[execOp,ho,this]
   ·rename_i T K9 hrw hfz;obtain ⟨h1,h2⟩:=zae h;simp only[yAd] at h1;refine ⟨_,h2,zaO λE N D H a w hs=>⟨.string ⟨#[]⟩,?_,by simp only[Rep]⟩⟩;have hv:=hs.fz1 Kq (hs.ev hx);rw[hfz] at hv;simp only[Rep] at hv;obtain ⟨T',u',e1,e2,e3⟩:=(ht.ty s rs hs0).slice (yAa h1.1.2);rw[K9] at e1;cases e1;have hdd:=(ht.ty d rd hd0).str (yAa h1.1.1);have:=zdB (P:=P) (w:=w) (l:=[]) e2 (zh1 ht h1.2) hdd (.inl ⟨none,0,hv,rfl⟩);simp[execOp,ho,this,zjt]
   ·cases h
  ·cases h
 ·-- call
  rename_i c ho;split at h
  ·rename_i hc;split at h
   ·rename_i p row Qb Kp;have hbuilt:∀{E N D H a w}(hs:St un E N D H e bx a w),∃v t,c.args.map a.eval= #[v]/\c.argTypes[0]?=some t/\tb.ty.get t=some row/\Rep un (ids H) D w p v:=by
     intro E N D H a w hs;have g1:=hs.evs Qb;cases hl:c.args.toList.map a.eval with
     |nil=>rw[hl] at g1;simp[Ke] at g1|cons v vs =>
       rw[hl] at g1;simp only[Ke] at g1;cases vs with
       |cons _ _=>simp[Ke] at g1|nil =>
         cases ht2:c.argTypes[0]? with
         |none=>rw[ht2] at Kp;cases Kp|some t =>rw[ht2] at Kp;exact ⟨v,t,by cases hca:c.args;rw[hca] at hl;simpa using congrArg List.toArray hl,rfl,Kp,g1.1⟩
    split at h
    ·rename_i b u l hrw;obtain ⟨h1,h2⟩:=zae h;refine ⟨_,h2,zaO λE N D H a w hs=>?_⟩;obtain ⟨v,t,g1,g2,g3,g4⟩:=hbuilt hs;obtain ⟨_,hra⟩:=zjD Kq hs hrw g4;have hsl:∃A c,v= .slice A l.length c:=by
      rcases hra with ⟨rfl,rfl⟩|⟨g,cap,rfl,_⟩;·exact ⟨_,_,rfl⟩
      ·exact ⟨_,_,rfl⟩
     obtain ⟨A,cc,rfl⟩:=hsl;obtain ⟨T,u',_,hu,_⟩:=(ht.ty t row g3).slice (yAa h1);refine ⟨.int .i64 (l.length:Int),?_,by simp only[Rep];rfl⟩;simp[execOp,ho,hc,resolve,invoke,builtin,g1,g2,Builtin.len_,goInt,run_underlying hu]
    ·split at h
     ·rename_i kt k vt v0 hmp;split at h
      ·rename_i l hl;refine ⟨_,h,zaO λE N D H a w hs=>?_⟩;obtain ⟨v,t,g1,g2,g3,g4⟩:=hbuilt hs;obtain ⟨g0,es,c',e1,e2,e3,e4⟩:=zmJ Kq.flat hs hl g4;subst e1;obtain ⟨hu,_⟩:=(ht.ty t row g3).mp _ _ _ _ hmp;have Ku:l.length=es.size:=by have:=e3.length;simpa using this
       refine ⟨.int .i64 (l.length:Int),?_,by simp only[Rep];rfl⟩;simp[execOp,ho,hc,resolve,invoke,builtin,g1,g2,Builtin.len_,goInt,run_underlying hu,MapKept.run_getObj_map e2,Ku,Result.andThen]
      ·cases h
     ·exact old h
   ·cases h
  ·exact old h
 ·exact old h
theorem zzx(Kq:Kx un)(ht:Qc P un tb)(hor:K4 P un orc)(Kt:Qe P un inl)(h:zy1 un tb orc inl o e bx K=some r):∃p,K p=some r/\Gives P un o e bx p:=by
 have old:zfE un tb orc inl o e bx K=some r->∃p,K p=some r/\Gives P un o e bx p:=zlS Kq ht hor Kt;unfold zy1 at h;split at h
 ·-- indexAddr
  rename_i t x i ho;split at h
  ·rename_i b u j hx;split at h
   ·rename_i l k n row K9 hi hty;obtain ⟨h1,h2⟩:=zae h;simp only[yAd] at h1;obtain ⟨q,h3,h4⟩:=zay h2;obtain ⟨rfl,hq⟩:=zh3 h3;refine ⟨_,h4,zaO λE N D H a w hs=>?_⟩;have hv:=hs.ev hx;simp only[Rep] at hv;obtain ⟨fl,g,n,c,off,g1,g2,g3⟩:=hv;have hra:=zj3 Kq hs K9 g1 ⟨_,_,_,rfl⟩;rw[yAL] at hq;obtain ⟨g',cap,cs,e1,_,_⟩:=zhD hra (yAe (show j<l.length by omega));cases e1;have hiv:=hs.ev hi;simp only[Rep] at hiv;obtain ⟨T,u',f1,f2,f3⟩:=(ht.ty t row hty).slice (yAa h1.1);have hu:=zd1 h1.2;rw[f1] at hu;simp at hu;subst hu;have ho:=g3 (by omega);subst ho;refine ⟨.pointer (some ⟨g,j*U.size un u'+q*U.size un u',none⟩),?_,?_⟩;·simp only[execOp,‹o.op=_›,g2,hiv];simp[zbJ (un:=un) (k:=k) (off:=j*U.size un u') (b:=g) (c:=c - j) f2 f3 hq w]
    ·simp only[Rep];exact ⟨fl,g,_,_,g1,by simp[yAz]⟩
   ·cases h
  ·exact old h
 ·-- slice
  rename_i t x hi ho;split at h
  ·rename_i hx;split at h;·rename_i k row hhi hty;obtain ⟨h1,h2⟩:=zae h;refine ⟨_,h2,zaO λE N D H a w hs=>?_⟩;have hv:=hs.ev hx;simp only[Rep] at hv;have hiv:=hs.ev hhi;simp only[Rep] at hiv;obtain ⟨T,u',f1,f2,f3⟩:=(ht.ty t row hty).slice (yAa h1);obtain ⟨jn,z,q1,q2,q3,q4,q5,q6⟩:=f3.info;refine ⟨.slice none 0 0,?_,by simp only[Rep]⟩;simp[execOp,ho,hv,hiv,Instr.sliceAt,run_underlying f2,Instr.slice,Instr.sliceBounds,Instr.sliceBound,asIntOf,Go.sizeOf,typeInfo,q1]
   ·cases h
  ·exact old h
 ·-- call
  rename_i c ho;have hbuilt:∀{E N D H a w}{p:PV S}{row:TyRow S}(Qb:evs e c.args.toList=some [p])(Kp:(c.argTypes[0]?).bind tb.ty.get=some row)(hs:St un E N D H e bx a w),∃v t,c.args.map a.eval= #[v]/\c.argTypes[0]?=some t/\tb.ty.get t=some row/\Rep un (ids H) D w p v:=by
   intro E N D H a w p row Qb Kp hs;have g1:=hs.evs Qb;cases hl:c.args.toList.map a.eval with
   |nil=>rw[hl] at g1;simp[Ke] at g1|cons v vs =>
     rw[hl] at g1;simp only[Ke] at g1;cases vs with
     |cons _ _=>simp[Ke] at g1|nil =>
       cases ht2:c.argTypes[0]? with
       |none=>rw[ht2] at Kp;cases Kp|some t =>rw[ht2] at Kp;exact ⟨v,t,by cases hca:c.args;rw[hca] at hl;simpa using congrArg List.toArray hl,rfl,Kp,g1.1⟩
  split at h
  ·rename_i Qv;split at h
   ·rename_i b u j hev;split at h
    ·rename_i l row K9 hty;obtain ⟨h1,h2⟩:=zae h;refine ⟨_,h2,zaO λE N D H a w hs=>?_⟩;obtain ⟨v,t,k1,k2,k3,k4⟩:=hbuilt hev hty hs;simp only[Rep] at k4;obtain ⟨fl,g,n,cc,off,g1,rfl,g3⟩:=k4;obtain ⟨T,u',hu,hu2,_⟩:=(ht.ty t row k3).slice (yAa h1);have hra:=zj3 Kq hs K9 g1 ⟨_,_,_,rfl⟩;have hn:n=l.length:=by
      rcases hra with ⟨e1,_⟩|⟨g',cap,e1,_⟩;·cases e1
      ·cases e1;rfl
     subst hn;refine ⟨.int .i64 ((l.length - j:Nat):Int),?_,by simp only[Rep,len,yAL]⟩;simp[execOp,ho,Qv,resolve,invoke,builtin,k1,k2,Builtin.len_,goInt,run_underlying hu2]
    ·cases h
   ·exact old h
  ·rename_i Qv;split at h;·rename_i row hev hty;obtain ⟨h1,h2⟩:=zae h;refine ⟨_,h2,zaO λE N D H a w hs=>?_⟩;obtain ⟨v,t,k1,k2,k3,k4⟩:=hbuilt hev hty hs;simp only[Rep] at k4;subst k4;obtain ⟨T,u',_,hu,_⟩:=(ht.ty t row k3).slice (yAa h1);refine ⟨.int .i64 0,?_,by simp only[Rep]⟩;simp[execOp,ho,Qv,resolve,invoke,builtin,k1,k2,Builtin.cap_,goInt,run_underlying hu]
   ·cases h
  ·exact old h
 ·exact old h
theorem zzU{t T:TypeId}{u:U}(hu:P.underlying t=some (.slice T))(hT:ElOk P un T u){nu:Nu}{l:List (El S u)}{v:Value}(hv:Rep un nu D w (.sl u l) v){j:Nat}(h2:j<=l.length){k k':IntKind} :
  ∃u',(Instr.sliceAt t v none (some (.int k (j:Int))) (some (.int k' (j:Int)))).run P w= .ok u' w/\Rep un nu D w (.cont (.cs u) (show El S (.cs u) from l.take j)) u':=by
 obtain ⟨jn,z,g1,g2,g3,g4,g5,g6⟩:=hT.info;have Kw:∀A n c,n<=c->n=l.length->(Instr.sliceAt t (.slice A n c) none (some (.int k (j:Int))) (some (.int k' (j:Int)))).run P w= .ok (.slice (if j=0 then A else A.map (·.add 0)) j j) w:=by intro A n c hc hn;subst hn;have h3:j<=c:=yAo h2 hc;simp[Instr.sliceAt,run_underlying hu,Instr.slice,Instr.sliceBounds,Instr.sliceBound,asIntOf,Go.sizeOf,typeInfo,g1,g3,h3]
 simp only[Rep] at hv ⊢;have empty:∀A,j=0->DR un D w [.cs u] (sg (u:= .cs u) (l.take j)) [.slice A j j]:=by intro A hj;subst hj;exact .cs0 _ (by simp[hd,sg,two,eC]) .nil
 cases hv with
 |sl0 A c h0 h =>have h0':l=[]:=h0;have hl:l.length=0:=(by rw[h0'];rfl);exact ⟨_,Kw A 0 c (yAA _) hl.symm,empty _ (by omega)⟩
 |sl b off c cs hc k1 k2 k3 =>
   refine ⟨_,Kw _ _ c hc rfl,?_⟩;by_cases hj:j=0;·exact empty _ hj
   ·rw[if_neg hj];have Ku:(l.take j).length=j:=by simp;omega
    have Qg:∀(i:Nat) x,(l.take j)[i]?=some x->l[i]?=some x:=λi x hx=>by
     rw[yAD] at hx;split at hx;·exact hx
     ·cases hx
    have:=DR.cs (un:=un) (D:=D) (w:=w) (us:=[]) (t:=sg (u:= .cs u) (l.take j)) (vs:=[]) b off cs (λi x hx=>k1 i x (Qg i x hx)) (λi x hx=>k2 i x (Qg i x hx)) .nil;change DR un D w [.cs u] (sg (u:= .cs u) (l.take j)) [.slice (some ⟨b,off,none⟩) (l.take j).length (l.take j).length] at this;rw[Ku] at this;simpa[Addr.add] using this
theorem zez(Kq:Kx un)(ht:Qc P un tb)(hor:K4 P un orc)(Kt:Qe P un inl)(h:zhf un tb orc inl o e bx K=some r):∃p,K p=some r/\Gives P un o e bx p:=by
 have old:zy1 un tb orc inl o e bx K=some r->∃p,K p=some r/\Gives P un o e bx p:=zzx Kq ht hor Kt;unfold zhf at h;split at h
 ·rename_i t x hi top ho;split at h
  ·rename_i p k j k' jt row hx hj hjt hty;split at h
   ·rename_i u l hfz;obtain ⟨h1,h2⟩:=zae h;obtain ⟨hjj,h2'⟩:=zae h2;have hjj:j=jt:=eq_of_beq hjj;subst hjj;simp only[yAd] at h1;obtain ⟨s,h3,h4⟩:=zay h2';obtain ⟨i',j',hi0,hj',h5,h6,rfl⟩:=zgr h3;refine ⟨_,h4,zaO λE N D H a w hs=>?_⟩;have hv:=hs.fz1 Kq (hs.ev hx);rw[hfz] at hv;have hjv:=hs.ev hj;have htop:=hs.ev hjt;simp only[Rep] at hjv htop;obtain ⟨T,u',f1,f2,f3⟩:=(ht.ty t row hty).slice (yAa h1.1);have hu:u'=u:=by
     have:=h1.2;rw[f1] at this;have:=zd1 this;simpa using this
    subst hu;have hi0':i'=0:=by omega
    subst hi0';subst hj';obtain ⟨z,g1,g2⟩:=zzU (P:=P) (w:=w) (D:=D) f2 f3 hv h6 (k:=k) (k':=k');refine ⟨z,by simp[execOp,ho,hjv,htop,g1],?_⟩;simpa using g2
   ·cases h
  ·cases h
 ·exact old h
end
end Pe
end
section
namespace Pe
open Go Go.RowKit
variable{S:Nat->Type}
def Holds(un:Uni S)(E:Wl.Ctx)(D0:Dat)(N:Wl.Fr)(e:Env S)(bx:Bxs S)(a:Act)(w:World):Prop :=
 ∃D H,St un E N D H e bx a w/\(∀k o,D k o->D0 k o\/E.may k)/\Ge D0 E.w D w
section
variable{P:Program}{un:Uni S}{tb:Tb S}{orc:Orc S}{inl:Inl S}{E:Wl.Ctx}{D0:Dat}{N:Wl.Fr}{D D':Dat}{H:List Wl.Res}{e:Env S}{bx:Bxs S}{a:Act}{w w':World}{o:Oper}{R:Type}{r:R}
theorem Ge.below(h:In E D H w)(hb:Below w.heap.size w w'):Ge D w (zkU D w w') w' :=
 (.of (λ_ _ hk=>.inl hk) λk o hk=>hb.block k (h.lt k o hk))
theorem In.below(h:In E D H w)(hb:Below w.heap.size w w'):In E (zkU D w w') H w':=by
 refine ⟨h.out.trans (Wl.Grow.of_below hb),λk o hk=>?_,λr hr=>Wl.Res.holds_of (h.res r hr) λg hg=>hb.block g (Wl.Res.holds_lt (h.res r hr) hg).2,λr hr g hg o hf hD=>?_,h.disj,h.lent⟩
 ·rcases hk with hk|hk;·exact yAq (h.lt k o hk) hb.size
  ·exact hk.2
 ·rcases hD with hD|hD;·grind[apart]
  ·have:=(Wl.Res.holds_lt (h.res r hr) hg).2;omega
theorem RowAt.mono{w w':World}{v:Value}{u:U}{l:List (El S u)}(hg:Ge D w D' w')(h:RowAt un D w v u l)(hb:∀g,v.ownBlock=some g->w'.heap[g]?=w.heap[g]?):RowAt un D' w' v u l:=by
 rcases h with h|⟨g,cap,rfl,h1,h2⟩;·exact .inl h
 ·refine .inr ⟨g,cap,rfl,h1,λi x hi=>?_⟩;obtain ⟨cs,h3,h4⟩:=h2 i x hi;exact ⟨cs,λj v hj=>(World.cell?_of_block (hb g rfl)).trans (h3 j v hj),h4.mono hg⟩
theorem Kc.mono{nu nu':Nu}{w w':World}(hg:Ge D w D' w')(hgr:∀g,g<E.w.heap.size->g∉E.lent->w'.heap[g]?=w.heap[g]?)(hn:∀(i:Nat) x,nu[i]?=some x->nu'[i]?=some x):∀{ro:Bool}{b:Box S}{r:Wl.Res},Kc un nu D w E ro b r->Kc un nu' D' w' E ro b r:=by
 intro ro b;induction b generalizing ro with
 |var T cs =>
   intro r h;cases r<;>cases ro<;>simp only[Kc] at h ⊢;·exact ⟨h.1,h.2.ge hg hn⟩
   ·exact h.ge hg hn
   ·obtain ⟨vs,h1,h5⟩:=h;exact ⟨vs,h1.of hgr,h5.ge hg hn⟩
 |own u T l =>
   intro r h;cases r<;>cases ro<;>simp only[Kc] at h ⊢;·obtain ⟨h1,h2,h3,h4,h5⟩:=h;exact ⟨h1,h2,h3,λg hg' o ho=>hg.dom _ _ (h4 g hg' o ho),λi x hi=>(h5 i x hi).mono hg⟩
   ·exact ⟨h.1,h.2.ge hg hn⟩
 |wr u T l =>
   intro r h;cases r<;>cases ro<;>simp only[Kc] at h ⊢;·obtain ⟨h1,h2,h3,h5⟩:=h;exact ⟨h1,h2,h3,λi x hi=>(h5 i x hi).mono hg⟩
   ·exact ⟨h.1,h.2.1.mono hg λg hb=>hgr g (h.2.2 g hb).1 (h.2.2 g hb).2,h.2.2⟩
 |nst u T T2 l hh =>intro r h;cases r<;>cases ro<;>simp only[Kc] at h ⊢;obtain ⟨h1,h2,h3,h4,h5,h6⟩:=h;exact ⟨h1,h2,h3,h4,h5,λi x hi hn=>by obtain ⟨q,q1,q2,q3,q4⟩:=h6 i x hi hn;exact ⟨q,q1,q2,q3,λj y hy=>(q4 j y hy).mono hg⟩⟩
 |grp u T2 l hh =>intro r h;cases r<;>cases ro<;>simp only[Kc] at h ⊢;exact ⟨h.1,h.2.1,h.2.2.mono hg⟩
 |lk b ih=>intro r h;simp only[Kc] at h ⊢;exact ih h
 |ro b ih=>intro r h;simp only[Kc] at h ⊢;exact ih h
 |gone=>intro r h;cases r<;>cases ro<;>simp only[Kc]
theorem Kj.mono{nu nu':Nu}{w w':World}(hg:Ge D w D' w')(hgr:∀g,g<E.w.heap.size->g∉E.lent->w'.heap[g]?=w.heap[g]?)(hn:∀(i:Nat) x,nu[i]?=some x->nu'[i]?=some x):∀{bx:Bxs S}{H:List Wl.Res},Kj un nu D w E bx H->Kj un nu' D' w' E bx H
 |[],[],_=>by grind[Kj]
 |b::bs,r::rs,h=>by simp only[Kj] at h ⊢;exact ⟨h.1.mono hg hgr hn,Kj.mono hg hgr hn h.2⟩
 |[],_::_,h=>by grind[Kj]
 |_::_,[],h=>by grind[Kj]
theorem zas(h:Wl.Grow E.lent E.w w)(h':Wl.Grow E.lent E.w w'):∀g,g<E.w.heap.size->g∉E.lent->w'.heap[g]?=w.heap[g]? :=
 λg hg hn=>(h'.block g hg hn).trans (h.block g hg hn).symm
theorem zru{a:Act}{N:Wl.Fr}(hs:a.tmps.size=N.n){dst:Option Nat}(hd:∀d,dst=some d->d<N.n)(v:Value){e:Env S}{p:PV S}{nu:Nu}(hp:Rep un nu D w p v)
  (h:∀i q,zvo e i=some q->Rep un nu D w q (a.tmps.getD i undef)):∀i q,zvo (push dst p e) i=some q->Rep un nu D w q ((a.put dst v).tmps.getD i undef):=by
 intro i q hi;cases dst with
 |none=>exact h i q hi|some d =>
   have hdn:=hd d rfl;simp only[push,zvo] at hi;cases hb:Nat.beq d i with
   |true =>
     rw[hb] at hi;have:d=i:=yAa hb;subst this;simp at hi;subst hi;have:(a.put (some d) v).tmps.getD d undef=v:=by simp[Act.put,Array.getD,hs,hdn]
     rw[this];exact hp
   |false =>
     rw[hb] at hi;have hne:d≠i:=Nat.ne_of_beq_eq_false hb;have:(a.put (some d) v).tmps.getD i undef=a.tmps.getD i undef:=by simp[Act.put,yAv,hne]
     rw[this];exact h i q hi
theorem zmC(a:Act)(d:Option Nat)(v:Value):(a.put d v).tmps.size=a.tmps.size:=by cases d<;>simp[Act.put]
theorem znI(a:Act)(d:Option Nat)(v:Value):(a.put d v).defers=a.defers:=by cases d<;>rfl
theorem St.step{H':List Wl.Res}{bx':Bxs S}{e':Env S}(h:St un E N D H e bx a w)(Kt:In E D' H' w')(hbx:Kj un (ids H') D' w' E bx' H')(he:∀i q,zvo e' i=some q->Rep un (ids H') D' w' q (a.tmps.getD i undef))
  {dst:Option Nat} (hd:∀d,dst=some d->d<N.n) {p:PV S} {v:Value} (hp:Rep un (ids H') D' w' p v):St un E N D' H' (push dst p e') bx' (a.put dst v) w' :=
 ⟨Kt,by rw[zmC];exact h.size,⟨by rw[znI];exact h.defers.1,h.defers.2⟩,hbx,zru h.size hd v hp he⟩
theorem zb4{Q:Exit->Act->World->Prop}{K:Act->World->Prop}{p:PV S}(hg:Gives P un o e bx p)(hd:∀d,o.dst=some d->d<N.n)(h:Holds un E D0 N e bx a w)
  (hk:∀a' w',Holds un E D0 N (push o.dst p e) bx a' w'->K a' w'):o.wp P a w K Q:=by
 obtain ⟨D,H,hs,hD,hG⟩:=h;unfold Oper.wp;rcases hg E N D H a w hs with ⟨v,h1,h2⟩|⟨f,vs,h1,h2⟩
 ·rw[h1];exact hk _ _ ⟨D,H,hs.step hs.Kr hs.Kg hs.slots hd h2,hD,hG⟩
 ·rw[h1];refine h2.mono λx w1 ⟨v,hx,hb,hr⟩=>?_;subst hx;have Kt:=hs.Kr.below hb;have K2:=Ge.below hs.Kr hb;have hkept:=zas hs.Kr.out Kt.out;refine hk _ _ ⟨_,H,hs.step Kt (hs.Kg.mono K2 hkept λ_ _ h=>h) (λi q hi=>(hs.slots i q hi).ge K2 λ_ _ h=>h) hd (hr.ge (Ge.refl _ _) λi x h=>by simp at h),λk o hk=>?_,hG.trans K2⟩;rcases hk with hk|hk;·grind
  ·exact .inr (.inl (yAo hs.Kr.out.size hk.1))
theorem In.push{E:Wl.Ctx}(h:In E D H w){r:Wl.Res}(hb:Below w.heap.size w w')(hh:Wl.Res.holds E w' r)(hr:∀g,r.has g->w.heap.size<=g)
  (hD:∀k o,D' k o->D k o\/(r.has k/\¬zki r k o)) (Ks:∀k o,D' k o->k<w'.heap.size) (hap:∀g,r.has g->∀o,zki r g o->¬D' g o):In E D' (H++[r]) w':=by
 refine ⟨h.out.trans (Wl.Grow.of_below hb),Ks,?_,?_,?_,λi v hi=>(h.lent i v hi).imp λs h3=>⟨by rw[yAk (yAc.1 h3.1).1];exact h3.1,h3.2⟩⟩
 ·intro s hs;rcases yAp.1 hs with hs|hs;·exact Wl.Res.holds_of (h.res s hs) λg hg=>hb.block g (Wl.Res.holds_lt (h.res s hs) hg).2
  ·simp at hs;subst hs;exact hh
 ·intro s hs g hg o hf hd;rcases yAp.1 hs with hs|hs
  ·have hlt2:=(Wl.Res.holds_lt (h.res s hs) hg).2;rcases hD g o hd with h1|h1;·exact h.apart s hs g hg o hf h1
   ·have:=hr g h1.1;omega
  ·simp at hs;subst hs;exact hap g hg o hf hd
 ·rw[List.pairwise_append];refine ⟨h.disj,yBs _ _,λs hs t ht g hg hg'=>?_⟩;simp at ht;subst ht;have:=(Wl.Res.holds_lt (h.res s hs) hg).2;have:=hr g hg';omega
theorem In.turn(h:In E D H w){i:Nat}{r r':Wl.Res}(hi:H[i]?=some r)(hg:w.grownBy w' r.block)(hh:Wl.Res.holds E w' r')(hbl:∀g,r'.has g->r.has g\/w.heap.size<=g)
  (hD:∀k o,D' k o->D k o\/(r'.has k/\¬zki r' k o)) (Ks:∀k o,D' k o->k<w'.heap.size) (hap:∀g,r'.has g->∀o,zki r' g o->¬D' g o) (Vc:zax r=true->zax r'=true/\zal r'=zal r/\(zd6 r'=none\/((∀g,r'.has g->r.has g)/\zd6 r'=zd6 r))):In E D' (H.set i r') w':=by
 have Qa:r∈H:=yAb hi;have hil:i<H.length:=(yAc.1 hi).1;have Qg:H[i]=r:=(yAc.1 hi).2;have hr:=h.res r Qa;have keepBlock:∀k,k<w.heap.size->¬r.has k->w'.heap[k]?=w.heap[k]? :=λk hk hne=>hg.block k hk (λe=>hne (Wl.Res.has_of e.symm));have other:∀s j,H[j]?=some s->j≠i->∀g,s.has g->¬r.has g:=by
  intro s j hj hne g hgs hgr;have hjl:j<H.length:=(yAc.1 hj).1;have hsj:H[j]=s:=(yAc.1 hj).2;rcases yAT i j with Ks|K2
  ·have:=(yAH.1 h.disj) i j hil hjl Ks;rw[Qg,hsj] at this;exact this g hgr hgs
  ·have:=(yAH.1 h.disj) j i hjl hil (by omega);rw[Qg,hsj] at this;exact this g hgs hgr
 refine ⟨?_,Ks,?_,?_,?_,λj g hj=>?_⟩
 rotate_left 4
 ·obtain ⟨s,h2,h3,h4,h5⟩:=h.lent j g hj;by_cases hij:i=j
  ·subst hij;rw[hi] at h2;cases h2;refine ⟨r',yAx hil,(Vc h3).1,(Vc h3).2.1.trans h4,?_⟩;rcases (Vc h3).2.2 with k|⟨k1,k2⟩;·intro _ _ _ _ s s' _ h;rw[k] at h;cases h
   ·intro g hg ob ho s s' e1 e2;exact h5 g (k1 g hg) ob ho s s' e1 (k2▸e2)
  ·exact ⟨s,by rw[yAr hij];exact h2,h3,h4,h5⟩
 ·refine ⟨hg.os.trans h.out.os,hg.tape.trans h.out.tape,hg.output.trans h.out.output,yAo h.out.size hg.size,λk hk hn=>?_⟩;refine (keepBlock k (yAq hk h.out.size) λe=>?_).trans (h.out.block k hk hn);rcases (Wl.Res.holds_lt hr e).1 with h1|h1;·omega
  ·exact hn h1
 ·intro s hs;rcases yAl hs with ⟨j,hj⟩;by_cases hij:i=j
  ·subst hij;rw[yAx hil] at hj;simp at hj;subst hj;exact hh
  ·rw[yAr hij] at hj;have hsm:s∈H:=yAb hj;exact Wl.Res.holds_of (h.res s hsm) λg hgs=>keepBlock g (Wl.Res.holds_lt (h.res s hsm) hgs).2 (other s j hj (λe=>hij e.symm) g hgs)
 ·intro s hs g hgs o hf hd;rcases yAl hs with ⟨j,hj⟩;by_cases hij:i=j
  ·subst hij;rw[yAx hil] at hj;simp at hj;subst hj;exact hap g hgs o hf hd
  ·rw[yAr hij] at hj;have hsm:s∈H:=yAb hj;have hlt2:=(Wl.Res.holds_lt (h.res s hsm) hgs).2;rcases hD g o hd with h1|h1;·exact h.apart s hsm g hgs o hf h1
   ·rcases hbl g h1.1 with h2|h2;·exact other s j hj (λe=>hij e.symm) g hgs h2
    ·omega
 ·rw[yAH];intro x y hx hy hxy;have hx':x<H.length:=by simpa using hx
  have hy':y<H.length:=by simpa using hy
  have old:=(yAH.1 h.disj) x y hx' hy' hxy;rw[List.getElem_set,List.getElem_set];by_cases h1:i=x
  ·subst h1;rw[if_pos rfl,if_neg (by omega)];intro g hgs e;rcases hbl g hgs with e' | e';·rw[Qg] at old;exact old g e' e
   ·exact absurd (Wl.Res.holds_lt (h.res H[y] (yAy hy')) e).2 (by omega)
  ·rw[if_neg h1];by_cases h2:i=y
   ·subst h2;rw[if_pos rfl];intro g hgs e;rcases hbl g e with e' | e';·rw[Qg] at old;exact old g hgs e'
    ·exact absurd (Wl.Res.holds_lt (h.res H[x] (yAy hx')) hgs).2 (by omega)
   ·rw[if_neg h2];exact old
theorem Kj.push{nu:Nu}{b:Box S}{r:Wl.Res}:∀{bx:Bxs S}{H:List Wl.Res},Kj un nu D w E bx H->Kc un nu D w E false b r->Kj un nu D w E (bx++[b]) (H++[r])
 |[],[],_,h=>by grind[Kj]
 |c::bs,s::rs,hh,h=>by simp only[Kj,yA3] at hh ⊢;exact ⟨hh.1,hh.2.push h⟩
 |[],_::_,hh,_=>by grind[Kj]
 |_::_,[],hh,_=>by grind[Kj]
theorem Kj.set{nu:Nu}{b:Box S}{r:Wl.Res}:∀{bx:Bxs S}{H:List Wl.Res}{i:Nat},Kj un nu D w E bx H->Kc un nu D w E false b r->Kj un nu D w E (zbe bx i b) (H.set i r)
 |[],[],_,_,_=>by grind[zbe]
 |c::bs,s::rs,0,hh,h=>by grind[zbe,Kj]
 |c::bs,s::rs,i+1,hh,h=>by simp only[zbe,List.set_cons_succ,Kj] at hh ⊢;exact ⟨hh.1,hh.2.set h⟩
 |[],_::_,_,hh,_=>by grind[Kj]
 |_::_,[],_,hh,_=>by grind[Kj]
theorem zmY(H:List Wl.Res)(r:Wl.Res):ids (H++[r])=ids H++[zal r]:=by simp[ids]
theorem zbt(H:List Wl.Res)(r:Wl.Res):∀(i:Nat) x,(ids H)[i]?=some x->(ids (H++[r]))[i]?=some x:=by intro i x h;rw[zmY,yAk (yAc.1 h).1,h]
theorem zdG(H:List Wl.Res)(r:Wl.Res):(ids (H++[r]))[H.length]?=some (zal r):=by simp_all
theorem zaw{H:List Wl.Res}{i:Nat}{r r':Wl.Res}(hi:H[i]?=some r)(h:zal r'=zal r):ids (H.set i r')=ids H:=by
 simp only[ids,List.map_set];rw[h];apply yAW;intro j;by_cases hij:i=j;·subst hij;have:i<H.length:=(yAc.1 hi).1;simp_all
 ·rw[yAr hij]
theorem St.newBox(h:St un E N D H e bx a w)(T:TypeId){cs:List (PV S)}{vs:List Value}(hl:Ke un (ids H) D w cs vs){dst:Option Nat}(hd:∀d,dst=some d->d<N.n) :
  ∃H',St un E N D H' (push dst (.ptr bx.length 0) e) (bx++[.var T cs]) (a.put dst (.pointer (some ⟨w.heap.size,0,none⟩))) (w.alloc (.cells vs.toArray T)):=by
 have hb:Below w.heap.size w (w.alloc (.cells vs.toArray T)):=(Below.refl _ _).alloc (yAi _) _;have Kt:In E D (H++[.box w.heap.size T vs]) (w.alloc (.cells vs.toArray T)):=by refine h.Kr.push hb ⟨.inl h.Kr.out.size,heap_alloc_new w _⟩ (λg hg=>by grind[Wl.Res.has]) (λk o hk=>.inl hk) (λk o hk=>yAq (h.Kr.lt k o hk) hb.size) (λg hg o _ hk=>?_);simp[Wl.Res.has] at hg;have:=h.Kr.lt g o hk;omega
 have K2:Ge D w D (w.alloc (.cells vs.toArray T)):=(.of (λ_ _ hk=>hk) λk o hk=>hb.block k (h.Kr.lt k o hk));have Ku:=h.Kg.length;refine ⟨_,h.step Kt ?_ (λi q hi=>(h.slots i q hi).ge K2 (zbt H _)) hd ?_⟩;·refine (h.Kg.mono K2 (zas h.Kr.out Kt.out) (zbt H _)).push ?_;simp only[Kc];exact ⟨trivial,hl.ge K2 (zbt H _)⟩
 ·simp only[Rep];exact ⟨w.heap.size,by rw[Ku,zdG];rfl,rfl⟩
end
end Pe
end
section
namespace Pe
open Go Go.RowKit
variable{S:Nat->Type}
def Ky(W:List Nat)(e e':Env S):Prop:=∀i p,i∉W->zvo e i=some p->p.rowless=true->zvo e' i=some p
theorem Ky.refl(W:List Nat)(e:Env S):Ky W e e:=λ_ _ _ h _=>h
theorem Ky.trans{W W':List Nat}{e e' e'':Env S}(h:Ky W e e')(k:Ky W' e' e''):Ky (W++W') e e'' :=
 λi p hi hp hr=>k i p (λh'=>hi (by simp[h'])) (h i p (λh'=>hi (by simp[h'])) hp hr) hr
theorem Ky.mono{W W':List Nat}{e e':Env S}(h:Ky W e e')(hw:∀i∈W,i∈W'):Ky W' e e':=λi p hi hp hr=>h i p (λh'=>hi (hw i h')) hp hr
theorem Ky.push(_:List Nat)(e:Env S)(d:Option Nat)(v:PV S):Ky d.toList e (push d v e):=by
 intro i p hi hp _;cases d with
 |none=>exact hp|some k =>
   simp only[Pe.push,zvo];have:Nat.beq k i=false:=by
    cases hb:Nat.beq k i with
    |true=>simp_all
    |false=>rfl
   grind
def zmX:PV S->Bool| .junk=>true|_=>false
def zpO(cs cs':List (PV S)):Prop:=cs.length=cs'.length/\∀(j:Nat) p,cs[j]?=some p->p.rowless=true->zmX p=false->cs'[j]?=some p
def Kv:Box S->Box S->Prop| .var T cs,.var T' cs'=>T'=T/\zpO cs cs'| .lk b,.lk b'=>Kv b b'| .ro b,.ro b'=>Kv b b'| .own u T l,.own u' T' l'=>Box.own u' T' l'=Box.own u T l| .wr u T l,.wr u' T' l'=>Box.wr u' T' l'=Box.wr u T l| .nst u T T2 l h,.nst u' T' T2' l' h'=>Box.nst u' T' T2' l' h'=Box.nst u T T2 l h| .grp u T2 l h,.grp u' T2' l' h'=>Box.grp u' T2' l' h'=Box.grp u T2 l h| .gone,.gone=>True|_,_=>False
theorem Kv.refl:∀(b:Box S),Kv b b| .var _ _=>⟨rfl,rfl,λ_ _ h _ _=>h⟩| .lk b=>Kv.refl b| .ro b=>Kv.refl b| .own _ _ _=>rfl| .wr _ _ _=>rfl| .nst _ _ _ _ _=>rfl| .grp _ _ _ _=>rfl| .gone=>trivial
theorem Kv.trans{a b c:Box S}(h:Kv a b)(k:Kv b c):Kv a c:=by
 induction a generalizing b c with
 |var T cs =>cases b<;>simp only[Kv] at h;cases c<;>simp only[Kv] at k ⊢;exact ⟨k.1.trans h.1,h.2.1.trans k.2.1,λj p hp hr hj=>k.2.2 j p (h.2.2 j p hp hr hj) hr hj⟩|lk a ih =>cases b<;>simp only[Kv] at h;cases c<;>simp only[Kv] at k ⊢;exact ih h k|ro a ih =>cases b<;>simp only[Kv] at h;cases c<;>simp only[Kv] at k ⊢;exact ih h k|own u T l =>cases b<;>simp only[Kv] at h;cases c<;>simp only[Kv] at k ⊢;rw[k,h]|wr u T l =>cases b<;>simp only[Kv] at h;cases c<;>simp only[Kv] at k ⊢;rw[k,h]|nst u T T2 l h0 =>cases b<;>simp only[Kv] at h;cases c<;>simp only[Kv] at k ⊢;rw[k,h]|grp u T2 l h0 =>cases b<;>simp only[Kv] at h;cases c<;>simp only[Kv] at k ⊢;rw[k,h]|gone =>cases b<;>simp only[Kv] at h;cases c<;>simp only[Kv] at k ⊢
def fixed:Box S->Bool| .lk _=>true| .ro _=>true| .gone=>true|_=>false
structure Kk (bx bx':Bxs S):Prop where
 len:bx.length<=bx'.length
 box:∀i b,zam bx i=some b->fixed b=true->∃b',zam bx' i=some b'/\Kv b b'
 var:∀i T cs,zam bx i=some (.var T cs)->∃cs',zam bx' i=some (.var T cs')/\cs'.length=cs.length
theorem Kv.fixed{b b':Box S}(h:Kv b b')(hf:fixed b=true):Pe.fixed b'=true:=by cases b<;>cases b'<;>simp_all [Kv,Pe.fixed]
theorem Kk.refl(bx:Bxs S):Kk bx bx:=⟨yAi _,λ_ b h _=>⟨b,h,Kv.refl b⟩,λ_ _ cs h=>⟨cs,h,rfl⟩⟩
theorem Kk.trans{a b c:Bxs S}(h:Kk a b)(k:Kk b c):Kk a c :=
 ⟨yAo h.len k.len,λi x hx hf=>by
  obtain ⟨y,hy,hxy⟩:=h.box i x hx hf;obtain ⟨z,hz,hyz⟩:=k.box i y hy (hxy.fixed hf);grind[Kv.trans],λi T cs hi=>by
  obtain ⟨cs',h',hl⟩:=h.var i T cs hi;obtain ⟨cs'',h'',hl'⟩:=k.var i T cs' h';exact ⟨cs'',h'',hl'.trans hl⟩⟩
theorem zb5:∀{bx:Bxs S}{i:Nat}{b:Box S},zam bx i=some b->i<bx.length
 |[],_,_,h=>by grind[zam]
 |_::_,0,_,_=>by simp
 |_::r,n+1,_,h=>by simp only[zam] at h;have:=zb5 h;simp;omega
theorem zb6{bs:Bxs S}:∀{bx:Bxs S}{i:Nat}{b:Box S},zam bx i=some b->zam (bx++bs) i=some b
 |[],_,_,h=>by grind[zam]
 |_::_,0,_,h=>h|_::r,n+1,_,h=>by simp only[zam,yA3] at h ⊢;exact zb6 h
theorem Kk.append(bx bs:Bxs S):Kk bx (bx++bs):=⟨by simp,λi b h _=>⟨b,zb6 h,Kv.refl b⟩,λi T cs h=>⟨cs,zb6 h,rfl⟩⟩
theorem zbv:∀(bx:Bxs S)(i:Nat)(b:Box S),(zbe bx i b).length=bx.length|[],_,_=>rfl|_::_,0,_=>rfl|_::r,n+1,b=>by simp[zbe,zbv r n b]
theorem zat:∀{bx:Bxs S}{i j:Nat}{b:Box S},i≠j->zam (zbe bx j b) i=zam bx i|[],_,_,_,_=>rfl|_::_,0,0,_,h=>absurd rfl h|_::_,0,_+1,_,_=>rfl|_::_,_+1,0,_,_=>rfl|_::r,i+1,j+1,_,h=>by simp only[zbe,zam];exact zat (by omega)
theorem zeH:∀{bx:Bxs S}{j:Nat}{b b':Box S},zam bx j=some b->zam (zbe bx j b') j=some b'
 |[],_,_,_,h=>by grind[zam]
 |_::_,0,_,_,_=>rfl|_::r,n+1,_,_,h=>by simp only[zam,zbe] at h ⊢;exact zeH h
theorem Kk.set{bx:Bxs S}{j:Nat}{b b':Box S}(hj:zam bx j=some b)(hf:Pe.fixed b=false)(hv:∀T cs,b= .var T cs->∃cs',b'= .var T cs'/\cs'.length=cs.length):Kk bx (zbe bx j b') :=
 ⟨by simp_all[zbv],λi x hx hfx=>by
  grind[zat,Kv.refl],λi T cs hi=>by
  grind[zeH,zat]⟩
mutual
theorem zcY(b:Nat):∀(p:PV S),p.rowless=true->p.says b=false
 | .row _,h=>by grind[PV.rowless]
 | .agg l,h=>by simp only[PV.rowless,PV.says] at h ⊢;exact zbK b l h
 | .tup l,h=>by simp only[PV.rowless,PV.says] at h ⊢;exact zbK b l h
 | .func _ l r,h=>by simp only[PV.rowless,PV.says,yAd,yBl] at h ⊢;exact ⟨zbK b l h.1,zbK b r h.2⟩
 | .iface _ v,h=>by simp only[PV.rowless,PV.says] at h ⊢;exact zcY b v h
 | .int _ _,_=>rfl| .bool _,_=>rfl| .str _,_=>rfl| .sl _ _,_=>rfl| .nils,_=>rfl| .st _ _,_=>rfl| .elp _ _ _,_=>rfl| .ptr _ _,_=>rfl| .nilp,_=>rfl| .nilFunc,_=>rfl| .nilIface,_=>rfl| .ref _,_=>rfl| .elr _ _ _ _,h=>by grind[PV.rowless]
 | .rsl _ _ _,h=>by grind[PV.rowless]
 | .cont _ _,_=>rfl| .bref _ _,_=>rfl| .junk,_=>rfl
theorem zbK(b:Nat):∀(l:List (PV S)),zcq l=true->saysL b l=false|[],_=>rfl|p::r,h=>by simp only[zcq,saysL,yAd,yBl] at h ⊢;exact ⟨zcY b p h.1,zbK b r h.2⟩
end
theorem zgT(b:Nat)(y p:PV S)(h:p.rowless=true):PV.kill b y p=p:=by have hs:=zcY b p h;cases p<;>first|(simp[PV.rowless] at h;done)|(simp only[PV.kill,hs,cond_false];done)|grind[PV.says,PV.kill]
theorem za1(b:Nat)(y:PV S):∀(e:Env S)(i:Nat),zvo (zcW b y e) i=(zvo e i).map (PV.kill b y)
 |[],_=>rfl|(j,p)::r,i=>by
   simp only[zcW,zvo];cases Nat.beq j i with
   |true=>rfl|false=>exact za1 b y r i
theorem Ky.kill(b:Nat)(y:PV S)(e:Env S):Ky [] e (zcW b y e):=by intro i p _ hp hr;grind[za1,zgT]
theorem Kv.kill(b:Nat)(y:PV S):∀(x:Box S),Kv x (x.kill b y)| .var T cs=>⟨rfl,by simp,λj p hp hr _=>by simp[yAh,hp,zgT b y p hr]⟩| .lk x=>Kv.kill b y x| .ro x=>Kv.kill b y x| .own _ _ _=>rfl| .wr _ _ _=>rfl| .nst _ _ _ _ _=>rfl| .grp _ _ _ _=>rfl| .gone=>trivial
theorem za8(f:Box S->Box S):∀(bx:Bxs S)(i:Nat),zam (bx.map f) i=(zam bx i).map f|[],_=>rfl|_::_,0=>rfl|_::r,n+1=>by simp only[yAn,zam];exact za8 f r n
theorem Kk.kill(b:Nat)(y:PV S)(bx:Bxs S):Kk bx (bx.map (Box.kill b y)) :=
 ⟨by simp,λi x hx _=>⟨x.kill b y,by grind[za8],Kv.kill b y x⟩,λi T cs h=>⟨_,by rw[za8,h];rfl,by simp⟩⟩
section
variable{P:Program}{un:Uni S}{tb:Tb S}{orc:Orc S}{inl:Inl S}{E:Wl.Ctx}{D0:Dat}{N:Wl.Fr}{D D':Dat}{H:List Wl.Res}{e:Env S}{bx:Bxs S}{a:Act}{w w':World}{o:Oper}{R:Type}{r:R}
theorem ztS{nu nu':Nu}{b:Nat}(hg:Ge D w D' w')(hn:∀(i:Nat) x,nu[i]?=some x->nu'[i]?=some x\/(i=b/\x.1=false)):∀{ps:List (PV S)}{vs:List Value},Ke un nu D w ps vs->Ke un nu' D' w' (ps.map (PV.kill1 b)) vs
 |[],[],_=>by simp[Ke]
 |p::ps,v::vs,h=>by
   simp only[Ke,yAn] at h ⊢;refine ⟨?_,ztS hg hn h.2⟩;unfold PV.kill1;cases hs:p.says b with
   |true=>simp[Rep]|false=>exact Rep.mono hg b p v (λi x hx=>(hn i x hx).imp id λk=>⟨k.1,k.2,hs⟩) h.1
 |[],_::_,h=>by grind[Ke]
 |_::_,[],h=>by grind[Ke]
theorem zca{nu nu':Nu}{b:Nat}{vo:Value}{y:PV S}(hg:Ge D w D' w')(hb:nu[b]?=some (false,vo))(hy:Rep un nu' D' w' y vo)(hn:∀(i:Nat) x,nu[i]?=some x->nu'[i]?=some x\/(i=b/\x.1=false)){p:PV S}{v:Value}(h:Rep un nu D w p v):Rep un nu' D' w' (PV.kill b y p) v:=by
 have gen:p.says b=false->Rep un nu' D' w' p v:=λhs=>Rep.mono hg b p v (λi x hx=>(hn i x hx).imp id λk=>⟨k.1,k.2,hs⟩) h;cases p with
 |row j =>
   simp only[PV.kill];cases hjb:Nat.beq j b with
   |true =>
     have:j=b:=yAa hjb;simp_all[Rep]
   |false=>grind[PV.says]
 |agg l =>
   simp only[PV.kill];cases hs:saysL b l with
   |true =>simp only[Rep] at h;obtain ⟨vs,rfl,h⟩:=h;simp only[cond_true,Rep];exact ⟨vs,rfl,ztS hg hn h⟩
   |false=>grind[PV.says]
 |_ =>
   grind[PV.kill,Rep]
theorem zfQ{nu nu':Nu}{b:Nat}{vo:Value}{y:PV S}(hg:Ge D w D' w')(hb:nu[b]?=some (false,vo))(hy:Rep un nu' D' w' y vo)(hn:∀(i:Nat) x,nu[i]?=some x->nu'[i]?=some x\/(i=b/\x.1=false)):∀{ps:List (PV S)}{vs:List Value},Ke un nu D w ps vs->Ke un nu' D' w' (ps.map (PV.kill b y)) vs
 |[],[],_=>by simp[Ke]
 |p::ps,v::vs,h=>by simp only[Ke,yAn] at h ⊢;exact ⟨zca hg hb hy hn h.1,zfQ hg hb hy hn h.2⟩
 |[],_::_,h=>by grind[Ke]
 |_::_,[],h=>by grind[Ke]
theorem zl7{nu nu':Nu}{b:Nat}{vo:Value}{y:PV S}(hg:Ge D w D' w')(hgr:∀g,g<E.w.heap.size->g∉E.lent->w'.heap[g]?=w.heap[g]?)(hb:nu[b]?=some (false,vo))(hy:Rep un nu' D' w' y vo)(hn:∀(i:Nat) x,nu[i]?=some x->nu'[i]?=some x\/(i=b/\x.1=false)) :
  ∀{ro:Bool}{x:Box S}{r:Wl.Res},Kc un nu D w E ro x r->Kc un nu' D' w' E ro (x.kill b y) r:=by
 intro ro x;induction x generalizing ro with
 |var T cs =>
   intro r h;cases r<;>cases ro<;>simp only[Kc,Box.kill] at h ⊢;·exact ⟨h.1,zfQ hg hb hy hn h.2⟩
   ·exact zfQ hg hb hy hn h
   ·obtain ⟨vs,h1,h5⟩:=h;exact ⟨vs,h1.of hgr,zfQ hg hb hy hn h5⟩
 |own u T l =>
   intro r h;cases r<;>cases ro<;>simp only[Kc,Box.kill] at h ⊢;·obtain ⟨h1,h2,h3,h4,h5⟩:=h;exact ⟨h1,h2,h3,λg hg' o ho=>hg.dom _ _ (h4 g hg' o ho),λi x hi=>(h5 i x hi).mono hg⟩
   ·refine ⟨h.1,?_⟩;have:=h.2;simp only[Rep] at this ⊢;exact this.mono hg
 |wr u T l =>
   intro r h;cases r<;>cases ro<;>simp only[Kc,Box.kill] at h ⊢;·obtain ⟨h1,h2,h3,h5⟩:=h;exact ⟨h1,h2,h3,λi x hi=>(h5 i x hi).mono hg⟩
   ·exact ⟨h.1,h.2.1.mono hg λg hb=>hgr g (h.2.2 g hb).1 (h.2.2 g hb).2,h.2.2⟩
 |nst u T T2 l hh =>intro r h;cases r<;>cases ro<;>simp only[Kc,Box.kill] at h ⊢;obtain ⟨h1,h2,h3,h4,h5,h6⟩:=h;exact ⟨h1,h2,h3,h4,h5,λi x hi hn=>by obtain ⟨q,q1,q2,q3,q4⟩:=h6 i x hi hn;exact ⟨q,q1,q2,q3,λj y hy=>(q4 j y hy).mono hg⟩⟩
 |grp u T2 l hh =>intro r h;cases r<;>cases ro<;>simp only[Kc,Box.kill] at h ⊢;exact ⟨h.1,h.2.1,h.2.2.mono hg⟩
 |lk x ih=>intro r h;simp only[Kc,Box.kill] at h ⊢;exact ih h
 |ro x ih=>intro r h;simp only[Kc,Box.kill] at h ⊢;exact ih h
 |gone=>intro r h;cases r<;>cases ro<;>simp only[Kc,Box.kill]
theorem zbb{nu nu':Nu}{b:Nat}{vo:Value}{y:PV S}(hg:Ge D w D' w')(hgr:∀g,g<E.w.heap.size->g∉E.lent->w'.heap[g]?=w.heap[g]?)(hb:nu[b]?=some (false,vo))(hy:Rep un nu' D' w' y vo)(hn:∀(i:Nat) x,nu[i]?=some x->nu'[i]?=some x\/(i=b/\x.1=false)) :
  ∀{bx:Bxs S}{H:List Wl.Res},Kj un nu D w E bx H->Kj un nu' D' w' E (bx.map (Box.kill b y)) H
 |[],[],_=>by simp[Kj]
 |x::bs,r::rs,h=>by simp only[Kj,yAn] at h ⊢;exact ⟨zl7 hg hgr hb hy hn h.1,zbb hg hgr hb hy hn h.2⟩
 |[],_::_,h=>by grind[Kj]
 |_::_,[],h=>by grind[Kj]
theorem zks(hf:zns un){u:U}{b:Nat}:∀(l:List (El S u))(off:Nat)(cs:Nat->List Value),(∀(i:Nat) x,l[i]?=some x->dat D w b (off+i*U.size un u) (cs i))->(∀(i:Nat) x,l[i]?=some x->DR un D w [u] (sg x) (cs i)) ->
  ∃news:List Value,news.length=l.length*U.size un u/\(∀(j:Nat) v,news[j]?=some v->w.cell? ⟨b,off+j,none⟩=some v)/\(∀(i:Nat) x,l[i]?=some x->(news.drop (i*U.size un u)).take (U.size un u)=cs i)/\∀v∈news,v.oneCell'=true
 |[],_,_,_,_=>⟨[],by simp,by simp,by simp,by simp⟩|x::l,off,cs,h1,h2=>by
   have Ku:(cs 0).length=U.size un u:=(by rw[(h2 0 x rfl).length hf];simp[zcF])
   obtain ⟨n',g1,g2,g3,g4⟩:=zks hf l (off+U.size un u) (λi=>cs (i+1))
    (λi y hi=>by have:=h1 (i+1) y (by grind);rwa[yAz,yAQ,yB3 (i*_),<-yBx] at this)
    (λi y hi=>h2 (i+1) y (by grind))
   refine ⟨cs 0++n',by simp_all[yAz,yB3],λj v hj=>?_,λi y hi=>?_,λv hv=>?_⟩
   ·rcases yAT j (cs 0).length with Ks|K2;·rw[yAk Ks] at hj;have:=(h1 0 x rfl j v hj).2;grind
    ·rw[yAF K2] at hj;grind
   ·cases i with
    |zero=>simp[<-Ku]|succ i =>simp_all[yAz,yCl,yBm]
   ·rcases yAp.1 hv with hv|hv;·exact (h2 0 x rfl).one v hv
    grind
theorem zkf(hf:zns un){nu:Nu}{u:U}{l:List (El S u)}{v:Value}(h:Rep un nu D w (.sl u l) v) :
  ∃(A:Option Addr) (c:Nat) (news:List Value),v= .slice A l.length c/\news.length=l.length*U.size un u/\(A=none->l=[])/\(∀ad,A=some ad->∀(j:Nat) x,news[j]?=some x->w.cell? (ad.add j)=some x)/\(∀(i:Nat) x,l[i]?=some x->DR un D w [u] (sg x) ((news.drop (i*U.size un u)).take (U.size un u)))/\∀x∈news,x.oneCell'=true:=by
 simp only[Rep] at h;cases h with
 |sl0 A c h0 h =>have h0':l=[]:=h0;simp_all
 |sl b off c cs hc h1 h2 h =>
   obtain ⟨news,g1,g2,g3,g4⟩:=zks hf l off cs h1 h2;refine ⟨_,c,news,rfl,g1,by simp,λad had j x hj=>?_,λi x hi=>?_,g4⟩;·grind[Addr.add_mid]
   ·rw[g3 i x hi];exact h2 i x hi
theorem zgK{T:TypeId}{u:U}{t ty:TypeId}(hu:P.underlying t=some (.slice T))(hT:ElOk P un T u){base n:Nat}{v:Value}{xs:List Value}(K5:w.ownsRow base T (U.size un u) v n xs)
  {A:Option Addr} {m c:Nat} {news:List Value} (hl:news.length=m*U.size un u) (hA:A=none->m=0) (hc:∀ad,A=some ad->∀(j:Nat) x,news[j]?=some x->w.cell? (ad.add j)=some x) (h1:∀x∈news,x.oneCell'=true) (hm:n+m<=lim) (Q7:base<=w.heap.size) :
  ∃v' w',(Builtin.append_ #[t,t] ty #[v,.slice A m c]).run P w= .ok v' w'/\w'.ownsRow base T (U.size un u) v' (n+m) (xs++news)/\w.grownBy w' v.ownBlock/\(v'.ownBlock=v.ownBlock\/v'.ownBlock=some w.heap.size) /\
   (∀k o,k<w.heap.size->(v.ownBlock=some k->o<n*U.size un u)->w'.cell? ⟨k,o,none⟩=w.cell? ⟨k,o,none⟩):=by
 obtain ⟨inf,z,e1,e2,e3,e4,e5,e6⟩:=hT.info;have hbytes:(n+m)*inf.bytes<=140737488355328:=by have:(n+m)*inf.bytes<=4294967296*32768:=yCi (by grind[lim]) e6;omega
 have h63:n+m<=maxLen:=by grind[lim,maxLen]
 cases A with
 |none =>
   have:=hA rfl;subst this;have hn:news=[]:=yBG (by grind);subst hn;have hs:Src P inf.size t (.slice none 0 c) 0 [] w:=Src.ofNil w hu c;obtain ⟨B,l,k,rfl,hlk⟩:∃B l k,v= .slice B l k/\l<=k:=by
    rcases K5.2 with ⟨rfl,_⟩|⟨g,cap,cur,rfl,_,_,h,_⟩;·exact ⟨none,0,0,rfl,yAi _⟩
    ·exact ⟨_,_,_,rfl,h⟩
   refine ⟨_,w,run_append_nothing w t t ty T inf hu e1 B l k hlk _ hs,by grind,⟨rfl,rfl,rfl,yAi _,λ_ _ _=>rfl⟩,.inl rfl,λ_ _ _ _=>rfl⟩
 |some ad =>
   obtain ⟨v',w',Kw,r1,r2,_,r4⟩:=run_append_own_at (P:=P) w base t ty T inf z (U.size un u) inf.bytes hu e1 e2 e3 rfl e4 e5 v n xs K5 ad m c news hl (hc ad rfl) h1 h63 hbytes Q7;refine ⟨v',w',Kw,r1,r2,r4,λk o hk ho=>?_⟩;by_cases hkb:v.ownBlock=some k
   ·have ho':=ho hkb;rcases K5.2 with ⟨rfl,_⟩|⟨g,cap,cur,rfl,hbg,hg,hnc,hcm,hcs,htake⟩;·grind
    ·have hgk:g=k:=(by grind[Value.ownBlock]);subst hgk;have Qo:w.cell? ⟨g,o,none⟩=xs[o]? :=by rw[cell_of_row w g _ _ _ _ hg,<-htake,yAt ho'];simp
     rw[Qo];have hox:o<xs.length:=by rw[K5.1];exact ho'
     by_cases hroom:n+m<=cap
     ·obtain ⟨w2,f1,f2,f3⟩:=run_append_fits (P:=P) w base t ty T inf (U.size un u) hu e1 e3 g n cap xs K5 ad m c news hl (hc ad rfl) h1 hroom;rw[f1] at Kw;cases Kw;rcases f2.2 with ⟨hne,_⟩|⟨g',cap',cur',hv',_,hg',_,_,_,htake'⟩;·simp at hne
      ·simp only[Value.slice.injEq,yAf,Addr.mk.injEq,and_true,true_and] at hv';obtain ⟨rfl,rfl⟩:=hv';have h2:o<(n+m)*U.size un u:=yAq ho' (yAs _ (by omega));have hc2:cur'[o]?=(xs++news)[o]? :=by rw[<-htake',yAt h2];simp
       rw[cell_of_row _ g _ _ _ _ hg',hc2,yAk hox]
     ·have holds:∀j x,xs[j]?=some x->w.cell? ((⟨g,0,none⟩:Addr).add j)=some x:=K5.cells (g:=g) rfl;have hr:=run_append_grow (P:=P) w t ty T inf z hu e1 e2 ⟨g,0,none⟩ n cap xs (by rw[K5.1,e3]) holds ad m c news (by rw[hl,e3]) (hc ad rfl) (by omega) (by grind[maxLen]) (growslice_fits (by omega) hbytes);grind[World.cell?_of_block,Below.heap_alloc,World.drew]
   ·exact World.cell?_of_block (r2.block k hk λh=>hkb h.symm)
theorem zfy(w:World)(t ty e:TypeId)(i:TypeInfo)(ht:P.underlying t=some (.slice e))(hi:P.info? e=some i)
  (g off sLen sCap:Nat) (cur:Array Value) (hg:w.heap[g]?=some (.cells cur e (0,0)))
  (a:Addr) (m c:Nat) (news:List Value) (hl:news.length=m*i.size) (hnews:∀j u,news[j]?=some u->w.cell? (a.add j)=some u) (h1:∀u∈news,u.oneCell'=true)
  (hroom:sLen+m<=sCap) (hfit:off+sLen*i.size+news.length<=cur.size) :
  (Builtin.append_ #[t,t] ty #[.slice (some ⟨g,off,none⟩) sLen sCap,.slice (some a) m c]).run P w =
   .ok (.slice (some ⟨g,off,none⟩) (sLen+m) sCap) (w.setRow g (cur.toList.take (off+sLen*i.size)++news++cur.toList.drop (off+sLen*i.size+news.length)).toArray):=by
 have hf:=run_firstCells_some (P:=P) w i.size m a m c news hl hnews;have hst:=run_storeCells_at P g (off+sLen*i.size) e news 0 cur w hg (by grind) h1;simp only[yBu] at hst;simp[Builtin.append_,run_underlying ht,Go.sizeOf,typeInfo,hi,Builtin.lenOf,hroom,hf,Addr.add_lit,hst]
theorem zlC{T:TypeId}{u:U}{t ty:TypeId}(hu:P.underlying t=some (.slice T))(hT:ElOk P un T u){n:Nat}{v:Value}{xs:List Value}(K5:Wl.rowAt w T (U.size un u) v n xs)
  {A:Option Addr} {m c:Nat} {news:List Value} (hl:news.length=m*U.size un u) (hA:A=none->m=0) (hc:∀ad,A=some ad->∀(j:Nat) x,news[j]?=some x->w.cell? (ad.add j)=some x) (h1:∀x∈news,x.oneCell'=true) (hm:n+m<=lim) :
  ∃v' w',(Builtin.append_ #[t,t] ty #[v,.slice A m c]).run P w= .ok v' w'/\Wl.rowAt w' T (U.size un u) v' (n+m) (xs++news)/\w.grownBy w' v.ownBlock/\((v'.ownBlock=v.ownBlock/\Wl.offV v'=Wl.offV v/\Wl.capV v'=Wl.capV v)\/v'.ownBlock=some w.heap.size) /\
   (∀k o,k<w.heap.size->(v.ownBlock=some k->Wl.capV v≠0->o<Wl.offV v+n*U.size un u)->w'.cell? ⟨k,o,none⟩=w.cell? ⟨k,o,none⟩):=by
 rcases K5.2 with ⟨rfl,rfl⟩|⟨g,off,cap,cur,rfl,hg,hnc,hcm,hcs,htake⟩
 ·have hx:xs=[]:=yBG (by simpa using K5.1);subst hx;obtain ⟨v',w',r0,r1,r2,r3,r4⟩:=zgK (P:=P) (ty:=ty) hu hT (World.ownsRow_nil w 0 T (U.size un u)) hl hA hc h1 hm (yAA _);refine ⟨v',w',r0,(Wl.rowAt_of r1).1,r2,?_,λk o hk _=>r4 k o hk λh=>by grind[Value.ownBlock]⟩;rcases r3 with h|h
  ·left;rcases r1.2 with ⟨rfl,_⟩|⟨g,cap,cur,rfl,_⟩;·simp_all
   grind[Value.ownBlock]
  grind
 obtain ⟨inf,z,e1,e2,e3,e4,e5,e6⟩:=hT.info;have hbytes:(n+m)*inf.bytes<=140737488355328:=by have:(n+m)*inf.bytes<=4294967296*32768:=yCi (by grind[lim]) e6;omega
 have h63:n+m<=maxLen:=by grind[lim,maxLen]
 cases A with
 |none =>have:=hA rfl;subst this;have hn:news=[]:=yBG (by grind);subst hn;have hs:Src P inf.size t (.slice none 0 c) 0 [] w:=Src.ofNil w hu c;exact ⟨_,w,run_append_nothing w t t ty T inf hu e1 _ n cap hnc _ hs,by grind,⟨rfl,rfl,rfl,yAi _,λ_ _ _=>rfl⟩,.inl ⟨rfl,rfl,rfl⟩,λ_ _ _ _=>rfl⟩
 |some ad =>
   have Ku:(xs++news).length=(n+m)*U.size un u:=(by rw[yAI,K5.1,hl,yAz]);by_cases hroom:n+m<=cap
   ·by_cases hm0:m=0;·subst hm0;have hn:news=[]:=yBG (by grind);subst hn;have hs:Src P inf.size t (.slice (some ad) 0 c) 0 [] w:=Src.ofSlice w hu ad 0 c [] (by simp) (by simp) (by simp);exact ⟨_,w,run_append_nothing w t t ty T inf hu e1 _ n cap hnc _ hs,by grind,⟨rfl,rfl,rfl,yAi _,λ_ _ _=>rfl⟩,.inl ⟨rfl,rfl,rfl⟩,λ_ _ _ _=>rfl⟩
    ·have hcs:=hcs (by omega);have hmul:(n+m)*U.size un u<=cap*U.size un u:=yAs _ hroom;have hfit:off+n*inf.size+news.length<=cur.size:=(by simp_all[yBx,yAz]);have hr:=zfy (P:=P) w t ty T inf hu e1 g off n cap cur hg ad m c news (by rw[hl,e3]) (hc ad rfl) h1 hroom hfit;rw[e3] at hr hfit;have hnm:n*U.size un u+m*U.size un u=(n+m)*U.size un u:=(yAz _ _ _).symm;refine ⟨_,_,hr,⟨Ku,.inr ⟨g,off,cap,_,rfl,setRow_heap w g cur _ T _ hg,hroom,hcm,λ_=>?_,?_⟩⟩,⟨rfl,rfl,rfl,by simp,λk _ hk=>setRow_other w g k _ λe=>hk (by simp[Value.ownBlock,e])⟩,.inl ⟨rfl,rfl,rfl⟩,λk o hk ho=>?_⟩;·simp only[List.size_toArray,yAI,yAY,yAL,Array.length_toList];omega
     ·have h2:(cur.toList.take (off+n*U.size un u)).drop off=xs:=(by simp_all[List.drop_take]);have h3:(cur.toList.take (off+n*U.size un u)).length=off+n*U.size un u:=(by simp;omega);simp only[yA5];rw[List.drop_append_of_le_length (by omega),h2,<-yA5,<-Ku];exact yBr
     ·by_cases hkb:k=g;·subst hkb;have ho:=ho rfl (by grind[Wl.capV]);simp only[Wl.offV] at ho;rw[cell_of_row _ k _ _ _ _ (setRow_heap w k cur _ T _ hg),cell_of_row w k _ _ _ _ hg];simp_all[yAk]
      grind[World.cell?_of_block,setRow_other]
   ·have holds:∀j x,xs[j]?=some x->w.cell? ((⟨g,off,none⟩:Addr).add j)=some x:=by
     intro j x hj;rw[Addr.add_mid,cell_of_row w g _ _ _ _ hg];rw[<-htake,yAD] at hj;simp_all
    have hr:=run_append_grow (P:=P) w t ty T inf z hu e1 e2 ⟨g,off,none⟩ n cap xs (by rw[K5.1,e3]) holds ad m c news (by rw[hl,e3]) (hc ad rfl) (by omega) (by grind[maxLen]) (growslice_fits (by omega) hbytes);have K2:=grownCap_ge w (n+m) cap T;refine ⟨_,_,hr,⟨Ku,.inr ⟨w.heap.size,0,_,_,rfl,heap_alloc_new w.drew _,K2,grownCap_le_maxLen w (n+m) cap T h63,λ_=>?_,?_⟩⟩,⟨rfl,rfl,rfl,by simp,λk hk _=>Below.heap_alloc w.drew _ k hk⟩,.inr rfl,λk o hk _=>World.cell?_of_block (Below.heap_alloc w.drew _ k hk)⟩;·simp only[Array.size_append,List.size_toArray,size_zeroCells,K5.1,hl,yAJ];rw[show z.cells.size=U.size un u from by grind];rw[<-yAz,<-yAz];congr 1;omega
    ·simp only[Array.toList_append,yBo,yA5];rw[<-yA5,<-Ku];exact yBr
end
end Pe
end
section
namespace Pe
open Go Go.RowKit
variable{S:Nat->Type}{un:Uni S}{P:Program}{E:Wl.Ctx}{D D':Dat}{H:List Wl.Res}{w w':World}
theorem zaK(hd:H.Pairwise Wl.apartR){i j:Nat}{r s:Wl.Res}{g:Nat}(hi:H[i]?=some r)(hj:H[j]?=some s)(h1:r.has g)(h2:s.has g):i=j:=by
 have hil:i<H.length:=(yAc.1 hi).1;have hjl:j<H.length:=(yAc.1 hj).1;have hri:H[i]=r:=(yAc.1 hi).2;have hsj:H[j]=s:=(yAc.1 hj).2;rcases yBL i j with Ks|rfl|Ks
 ·have:=(yAH.1 hd) i j hil hjl Ks;rw[hri,hsj] at this;exact absurd h2 (this g h1)
 ·rfl
 ·have:=(yAH.1 hd) j i hjl hil Ks;rw[hri,hsj] at this;exact absurd h1 (this g h2)
theorem zjH(h:H.Pairwise Wl.apartR){i j:Nat}{r s:Wl.Res}(hi:H[i]?=some r)(hj:H[j]?=some s)(hne:i≠j):Wl.apartR r s:=by intro g h1 h2;grind[zaK]
theorem zcG(h:∀(i j:Nat) r s,i≠j->H[i]?=some r->H[j]?=some s->Wl.apartR r s):H.Pairwise Wl.apartR:=by rw[yAH];intro i j hi hj hij;exact h i j _ _ (by omega) (yAe hi) (yAe hj)
theorem apartR.symm{r s:Wl.Res}(h:Wl.apartR r s):Wl.apartR s r:=λg h1 h2=>h g h2 h1
theorem In.again(h:In E D H w){i:Nat}{r r':Wl.Res}(hi:H[i]?=some r)(hc:zax r=false)(hh:Wl.Res.holds E w r')(hbl:∀g,r'.has g->r.has g)
  (hD:∀k o,D' k o->D k o\/r.has k) (Ks:∀k o,D' k o->k<w.heap.size) (hap:∀g,r'.has g->∀o,zki r' g o->¬D' g o):In E D' (H.set i r') w:=by
 have hil:i<H.length:=(yAc.1 hi).1;have get:∀(j:Nat) s,(H.set i r')[j]?=some s->(j=i/\s=r')\/(j≠i/\H[j]?=some s):=λj s hj=>by
  by_cases hij:i=j;·subst hij;rw[yAx hil] at hj;exact .inl ⟨rfl,(yAS hj).symm⟩
  ·rw[yAr hij] at hj;exact .inr ⟨λe=>hij e.symm,hj⟩
 refine ⟨h.out,Ks,λs hs=>?_,λs hs g hg o hf hd=>?_,zcG λx y s t hne hx hy=>?_,λj v hj=>?_⟩
 ·obtain ⟨j,hj⟩:=yAl hs;rcases get j s hj with ⟨_,rfl⟩|⟨_,h2⟩;·exact hh
  ·exact h.res s (yAb h2)
 ·obtain ⟨j,hj⟩:=yAl hs;rcases get j s hj with ⟨_,rfl⟩|⟨hne,h2⟩;·exact hap g hg o hf hd
  ·rcases hD g o hd with h3|h3;·exact h.apart s (yAb h2) g hg o hf h3
   ·exact hne (zaK h.disj h2 hi hg h3)
 ·intro g h1 h2;rcases get x s hx with ⟨rfl,rfl⟩|⟨hxn,hx'⟩<;>rcases get y t hy with ⟨rfl,rfl⟩|⟨hyn,hy'⟩;·exact hne rfl
  ·exact hyn (zaK h.disj hy' hi h2 (hbl g h1))
  ·exact hxn (zaK h.disj hx' hi h1 (hbl g h2))
  ·exact hne (zaK h.disj hx' hy' h1 h2)
 ·obtain ⟨s,h2,h3,h4⟩:=h.lent j v hj;by_cases hij:i=j;·subst hij;rw[hi] at h2;cases h2;rw[hc] at h3;cases h3
  ·exact ⟨s,by rw[yAr hij];exact h2,h3,h4⟩
theorem In.split(h:In E D H w){i:Nat}{r r' s:Wl.Res}(hi:H[i]?=some r)(hc:zax r=false)(hfr:∀g o,r'.has g->zki r' g o->zki r g o)(hfs:∀g o,s.has g->zki s g o->zki r g o)(h1:Wl.Res.holds E w r')(h2:Wl.Res.holds E w s)(hr:∀g,r'.has g->r.has g)(hs:∀g,s.has g->r.has g)(hd:Wl.apartR r' s):In E D (H.set i r'++[s]) w:=by
 have Qa:=yAb hi;have hil:i<H.length:=(yAc.1 hi).1;have h9:In E D (H.set i r') w:=h.again hi hc h1 hr (λ_ _ h=>.inl h) h.lt λg hg o hf hk=>h.apart r Qa g (hr g hg) o (hfr g o hg hf) hk;refine ⟨h.out,h.lt,λt ht=>?_,λt ht g hg o hf hk=>?_,?_,λj v hj=>?_⟩
 ·rcases yAp.1 ht with ht|ht;·exact h9.res t ht
  ·rw[yBp] at ht;subst ht;exact h2
 ·rcases yAp.1 ht with ht|ht;·exact h9.apart t ht g hg o hf hk
  ·rw[yBp] at ht;subst ht;exact h.apart r Qa g (hs g hg) o (hfs g o hg hf) hk
 ·rw[List.pairwise_append];refine ⟨h9.disj,yBs _ _,λt ht t' ht'=>?_⟩;rw[yBp] at ht';subst ht';obtain ⟨j,hj⟩:=yAl ht;by_cases hij:i=j;·subst hij;rw[yAx hil] at hj;cases hj;exact hd
  ·rw[yAr hij] at hj;exact λg k1 k2=>hij (zaK h.disj hi hj (hs g k2) k1)
 ·obtain ⟨t,k1,k2⟩:=h9.lent j v hj;exact ⟨t,by rw[yAk (yAc.1 k1).1];exact k1,k2⟩
theorem In.join(h:In E D H w){b k:Nat}{r s r':Wl.Res}{id:Bool×Value}(hb:H[b]?=some r)(hk:H[k]?=some s)(hne:b≠k)(hcr:zax r=false)(hcs:zax s=false)(hfr:∀g o,r'.has g->zki r' g o->r.has g->zki r g o)(hfs:∀g o,r'.has g->zki r' g o->s.has g->zki s g o)
  (hh:Wl.Res.holds E w r') (hbl:∀g,r'.has g->r.has g\/s.has g):In E D ((H.set k (.ref id)).set b r') w:=by
 have hbl0:b<H.length:=(yAc.1 hb).1;have hkl:k<H.length:=(yAc.1 hk).1;have get:∀(j:Nat) t,((H.set k (.ref id)).set b r')[j]?=some t->(j=b/\t=r')\/(j=k/\t= .ref id)\/(j≠b/\j≠k/\H[j]?=some t):=λj t hj=>by
  by_cases hjb:b=j;·subst hjb;rw[yAx (by simpa using hbl0)] at hj;exact .inl ⟨rfl,(yAS hj).symm⟩
  ·rw[yAr hjb] at hj;by_cases hjk:k=j;·subst hjk;rw[yAx hkl] at hj;exact .inr (.inl ⟨rfl,(yAS hj).symm⟩)
   ·rw[yAr hjk] at hj;exact .inr (.inr ⟨λe=>hjb e.symm,λe=>hjk e.symm,hj⟩)
 have own:∀j t g,j≠b->j≠k->H[j]?=some t->t.has g->¬r'.has g:=λj t g n1 n2 hj hg hr=>by
  rcases hbl g hr with h1|h1;·exact n1 (zaK h.disj hj hb hg h1)
  ·exact n2 (zaK h.disj hj hk hg h1)
 refine ⟨h.out,h.lt,λt ht=>?_,λt ht g hg o hf hd=>?_,zcG λx y t u hxy hx hy=>?_,λj v hj=>?_⟩
 ·obtain ⟨j,hj⟩:=yAl ht;rcases get j t hj with ⟨_,rfl⟩|⟨_,rfl⟩|⟨_,_,h3⟩;·exact hh
  ·trivial
  ·exact h.res t (yAb h3)
 ·obtain ⟨j,hj⟩:=yAl ht;rcases get j t hj with ⟨_,rfl⟩|⟨_,rfl⟩|⟨_,_,h3⟩
  ·rcases hbl g hg with h1|h1;·exact h.apart r (yAb hb) g h1 o (hfr g o hg hf h1) hd
   ·exact h.apart s (yAb hk) g h1 o (hfs g o hg hf h1) hd
  ·exact hg.elim
  ·exact h.apart t (yAb h3) g hg o hf hd
 ·intro g h1 h2;rcases get x t hx with ⟨rfl,rfl⟩|⟨_,rfl⟩|⟨a1,a2,a3⟩<;>rcases get y u hy with ⟨rfl,rfl⟩|⟨_,rfl⟩|⟨b1,b2,b3⟩;·exact hxy rfl
  ·exact h2.elim
  ·exact own y u g b1 b2 b3 h2 h1
  ·exact h1.elim
  ·exact h1.elim
  ·exact h1.elim
  ·exact own x t g a1 a2 a3 h1 h2
  ·exact h2.elim
  ·exact hxy (zaK h.disj a3 b3 h1 h2)
 ·obtain ⟨t,h2,h3,h4⟩:=h.lent j v hj;have n1:b≠j:=λe=>by subst e;rw[hb] at h2;cases h2;rw[hcr] at h3;cases h3
  have n2:k≠j:=λe=>by subst e;rw[hk] at h2;cases h2;rw[hcs] at h3;cases h3
  exact ⟨t,by rw[yAr n1,yAr n2];exact h2,h3,h4⟩
end Pe
end
section
namespace Pe
open Go Go.RowKit
variable{S:Nat->Type}
section
variable{P:Program}{un:Uni S}{tb:Tb S}{orc:Orc S}{inl:Inl S}{E:Wl.Ctx}{D0:Dat}{N:Wl.Fr}{D D':Dat}{H:List Wl.Res}{e:Env S}{bx:Bxs S}{a:Act}{w w':World}{o:Oper}{R:Type}{r:R}
theorem zeR{α:Type}(xs ys:List α){k m:Nat}(h:k+m<=xs.length):((xs++ys).drop k).take m=(xs.drop k).take m:=by rw[List.drop_append_of_le_length (by omega),List.take_append_of_le_length (by simp;omega)]
theorem zcD{α:Type}(xs ys:List α)(k m:Nat):((xs++ys).drop (xs.length+k)).take m=(ys.drop k).take m:=by simp_all
theorem zhC{u:U}{old new:List (El S u)}{xs news:List Value}(hx:xs.length=old.length*U.size un u)
  (h1:∀(i:Nat) x,old[i]?=some x->DR un D w [u] (sg x) ((xs.drop (i*U.size un u)).take (U.size un u))) (h2:∀(i:Nat) x,new[i]?=some x->DR un D w [u] (sg x) ((news.drop (i*U.size un u)).take (U.size un u))) :
  ∀(i:Nat) x,(old++new)[i]?=some x->DR un D w [u] (sg x) (((xs++news).drop (i*U.size un u)).take (U.size un u)):=by
 intro i x hi;rcases yAT i old.length with Ks|K2
 ·rw[yAk Ks] at hi;have:(i+1)*U.size un u<=old.length*U.size un u:=yAs _ Ks;simp_all[yAz,zeR]
 ·rw[yAF K2] at hi;have he:i*U.size un u=xs.length+(i - old.length)*U.size un u:=by
   rw[hx,<-yAz];congr 1;omega
  rw[he,zcD];grind
def zkK(D:Dat)(v:Value)(k:Nat):Dat:=λb o=>D b o\/(v.ownBlock=some b/\o<k)
theorem zgD{i:Nat}{r r':Wl.Res}(hi:H[i]?=some r)(h1:(zal r).1=false):∀(j:Nat) x,(ids H)[j]?=some x->(ids (H.set i r'))[j]?=some x\/(j=i/\x.1=false):=by
 grind
theorem zhi{b:Nat}{r:Wl.Res}(Kt:In E D H w)(hb:H[b]?=some r){v':Value}(r4:v'.ownBlock=r.block\/v'.ownBlock=some w.heap.size):∀g,v'.ownBlock=some g->E.may g:=by
 intro g hg;rcases r4 with r4|r4;·exact (Wl.Res.holds_lt (Kt.res _ (yAb hb)) (Wl.Res.has_of (r4.symm.trans hg))).1
 ·rw[r4] at hg;cases hg;exact .inl Kt.out.size
theorem zmE{T:TypeId}{u:U}{v v':Value}{n m:Nat}{xs news:List Value}{b:Nat}(Kt:In E D H w)(hb:H[b]?=some (.own v T (U.size un u) n xs))(r1:Wl.rowAt w' T (U.size un u) v' (n+m) (xs++news))(r2:w.grownBy w' v.ownBlock)(r40:(v'.ownBlock=v.ownBlock/\Wl.offV v'=Wl.offV v/\Wl.capV v'=Wl.capV v)\/v'.ownBlock=some w.heap.size)
  (r5:∀k o,k<w.heap.size->(v.ownBlock=some k->Wl.capV v≠0->o<Wl.offV v+n*U.size un u)->w'.cell? ⟨k,o,none⟩=w.cell? ⟨k,o,none⟩) :
  In E (zkK D v' (Wl.offV v'+(n+m)*U.size un u)) (H.set b (.own v' T (U.size un u) (n+m) (xs++news))) w'/\Ge D w (zkK D v' (Wl.offV v'+(n+m)*U.size un u)) w':=by
 have Qa:=yAb hb;have hle:n*U.size un u<=(n+m)*U.size un u:=yAs _ (by omega);have r4:v'.ownBlock=v.ownBlock\/v'.ownBlock=some w.heap.size:=r40.imp (·.1) id;refine ⟨Kt.turn hb r2 ⟨r1,zhi Kt hb r4⟩ (λg hg=>?_) (λk o hk=>?_) (λk o hk=>?_) (λg hg o hf hd=>?_) (λhe=>by cases he),⟨λ_ _ h=>.inl h,λk o hk=>r5 k o (Kt.lt k o hk) λhkb=>?_,λk o hk es c he=>(r2.block k (Kt.lt k o hk) λhkb=>?_).trans he⟩⟩
 ·rcases r4 with r4|r4;·exact .inl (r4.symm.trans hg)
  ·right;have h2:v'.ownBlock=some g:=hg;rw[r4] at h2;simp at h2;omega
 ·rcases hk with hk|hk;·exact .inl hk
  ·exact .inr ⟨hk.1,by simp only[zki];omega⟩
 ·rcases hk with hk|hk;·exact yAq (Kt.lt k o hk) r2.size
  ·exact r1.lt k hk.1
 ·have hg':v'.ownBlock=some g:=hg;simp only[zki] at hf;rcases hd with hd|hd
  ·rcases r40 with ⟨r4,q1,q2⟩|r4;·exact Kt.apart _ Qa g (r4.symm.trans hg') o (by simp only[zki];exact ⟨by omega,by omega⟩) hd
   ·rw[r4] at hg';simp at hg';have:=Kt.lt g o hd;omega
  ·omega
 ·intro hc0;rcases yAT o (Wl.offV v+n*U.size un u) with h|h;·exact h
  ·exact absurd hk (Kt.apart _ Qa k hkb o ⟨hc0,h⟩)
 ·rcases (Kt.res _ Qa).1.2 with ⟨rfl,_⟩|⟨g',off,cap,cur,rfl,h2,_⟩;·cases hkb
  ·simp[Value.ownBlock] at hkb;rw[<-hkb,he] at h2;cases h2
theorem ze3{T:TypeId}{size:Nat}{v v':Value}{n n':Nat}{xs xs':List Value}{b:Nat}(Kt:In E D H w)(hb:H[b]?=some (.wr v T size n xs))(r1:w'.ownsRow 0 T size v' n' xs')(r2:w.grownBy w' v.ownBlock)(r4:v'.ownBlock=v.ownBlock\/v'.ownBlock=some w.heap.size) :
  In E D (H.set b (.wr v' T size n' xs')) w'/\Ge D w D w':=by
 have Qa:=yAb hb;refine ⟨Kt.turn hb r2 ⟨r1,zhi Kt hb r4⟩ (λg hg=>?_) (λk o hk=>.inl hk) (λk o hk=>yAq (Kt.lt k o hk) r2.size) (λg hg o hf hd=>?_) (λhe=>by cases he),.of (λ_ _ h=>h) λk o hk=>r2.block k (Kt.lt k o hk) λhkb=>Kt.apart _ Qa k hkb.symm o trivial hk⟩
 ·rcases r4 with r4|r4;·exact .inl (r4.symm.trans hg)
  ·right;have h2:v'.ownBlock=some g:=hg;grind
 ·have hg':v'.ownBlock=some g:=hg;rcases r4 with r4|r4;·exact Kt.apart _ Qa g (r4.symm.trans hg') o trivial hd
  ·rw[r4] at hg';simp at hg';have:=Kt.lt g o hd;omega
theorem zfb{v:Value}{base n size:Nat}{T:TypeId}{xs:List Value}(h:w.ownsRow base T size v n xs):v.oneCell'=true/\v.cells= #[v]:=by rcases h.2 with ⟨rfl,_⟩|⟨g,cap,cur,rfl,_⟩<;>exact ⟨rfl,rfl⟩
theorem In.ownNil(h:In E D H w)(T:TypeId)(size:Nat):In E D (H++[.own (.slice none 0 0) T size 0 []]) w :=
 h.push (Below.refl _ _) ⟨Wl.rowAt_nil _ _ _,λg hg=>by grind[Value.ownBlock]⟩ (λg hg=>by grind[Wl.Res.has,Value.ownBlock]) (λk o hk=>.inl hk) h.lt λg hg=>by grind[Wl.Res.has,Value.ownBlock]
theorem In.wrNil(h:In E D H w)(T:TypeId)(size:Nat):In E D (H++[.wr (.slice none 0 0) T size 0 []]) w :=
 h.push (Below.refl _ _) ⟨World.ownsRow_nil _ _ _ _,λg hg=>by grind[Value.ownBlock]⟩ (λg hg=>by grind[Wl.Res.has,Value.ownBlock]) (λk o hk=>.inl hk) h.lt λg hg=>by grind[Wl.Res.has,Value.ownBlock]
theorem zhb{v:Value}{k:Nat}(h1:∀b o,D b o->D0 b o\/E.may b)(h2:∀g,v.ownBlock=some g->E.may g):∀b o,zkK D v k b o->D0 b o\/E.may b:=by
 intro b o h;rcases h with h|h;·grind
 simp_all
theorem zoe(Kq:Kx un){T:TypeId}{u:U}{t ty:TypeId}(hu:P.underlying t=some (.slice T))(hT:ElOk P un T u){b:Nat}{old new:List (El S u)}{v x:Value}(hs:St un E N D H e bx a w)(hg:zam bx b=some (.own u T old))(hv:Rep un (ids H) D w (.row b) v)
  (hx:Rep un (ids H) D w (.sl u new) x) (hlim:old.length+new.length<=lim) (hD:∀k o,D k o->D0 k o\/E.may k) (hG:Ge D0 E.w D w) {dst:Option Nat} (hd:∀d,dst=some d->d<N.n) :
  ∃v' w',(Builtin.append_ #[t,t] ty #[v,x]).run P w= .ok v' w'/\Holds un E D0 N (push dst (.row b) (zcW b (.sl u old) e)) (zbe (bx.map (Box.kill b (.sl u old))) b (.own u T (old++new))) (a.put dst v') w':=by
 obtain ⟨r,hr1,hr2⟩:=hs.Kg.get hg;have hh:=hs.Kr.res _ (yAb hr1);cases r with
 |box=>simp[Kc] at hr2|ref=>simp[Kc] at hr2|wr=>simp[Kc] at hr2|nst=>simp[Kc] at hr2|grp=>simp[Kc] at hr2|fix=>simp[Kc] at hr2|own v0 T' size n xs =>
   have hor:=zgs Kq.flat hh hr2;simp only[Kc] at hr2;obtain ⟨rfl,rfl,rfl,hDo,K9⟩:=hr2;have hv0:v0=v:=(by simp only[Rep,ids,yAh,hr1,yAg,zal,yAf,Prod.mk.injEq,true_and] at hv;exact hv.1);subst hv0;obtain ⟨A,c,news,rfl,g1,g2,g3,g4,g5⟩:=zkf Kq.flat hx;obtain ⟨v',w',Kw,r1,r2,r4,r5⟩:=zlC (P:=P) (ty:=ty) hu hT hh.1 g1 (λh=>by rw[g2 h];rfl) g3 g5 hlim;obtain ⟨Kt,K2⟩:=zmE (un:=un) hs.Kr hr1 r1 r2 r4 r5;have hkept:=zas hs.Kr.out Kt.out;have hn:=zgD (H:=H) (r':= .own v' T' (U.size un u) (old.length+new.length) (xs++news)) hr1 rfl;have hnb:(ids H)[b]?=some (false,v0):=by simp[ids,hr1,zal]
   have hy:Rep un (ids (H.set b (.own v' T' (U.size un u) (old.length+new.length) (xs++news)))) (zkK D v' (Wl.offV v'+(old.length+new.length)*U.size un u)) w' (.sl u old) v0:=(by simp only[Rep] at hor ⊢;exact hor.mono K2);have hbl:b<H.length:=(yAc.1 hr1).1;refine ⟨v',w',Kw,_,_,hs.step Kt ?_ (λi q hi=>?_) hd ?_,zhb hD (zhi hs.Kr hr1 (r4.imp (·.1) id)),hG.trans K2⟩;·refine (zbb K2 hkept hnb hy hn hs.Kg).set ?_;simp only[Kc];refine ⟨trivial,trivial,by simp,λg hg' o ho=>.inr ⟨hg',ho⟩,?_⟩;exact zhC hh.1.1 (λi y hi=>(K9 i y hi).mono K2) (λi y hi=>(g4 i y hi).mono K2)
   ·rw[za1] at hi;cases hl:zvo e i with
    |none=>rw[hl] at hi;cases hi|some p0 =>rw[hl] at hi;simp only[yAg,yAf] at hi;subst hi;exact zca K2 hnb hy hn (hs.slots i p0 hl)
   ·simp only[Rep];refine ⟨?_,r1.one⟩;simp[ids,hbl,zal]
theorem zmj(Kq:Kx un){T:TypeId}{u:U}{t ty:TypeId}(hu:P.underlying t=some (.slice T))(hT:ElOk P un T u){new:List (El S u)}{x:Value}(hs:St un E N D H e bx a w)
  (hx:Rep un (ids H) D w (.sl u new) x) (hlim:new.length<=lim) (hD:∀k o,D k o->D0 k o\/E.may k) (hG:Ge D0 E.w D w) {dst:Option Nat} (hd:∀d,dst=some d->d<N.n) :
  ∃v' w',(Builtin.append_ #[t,t] ty #[.slice none 0 0,x]).run P w= .ok v' w'/\Holds un E D0 N (push dst (.row bx.length) e) (bx++[.own u T new]) (a.put dst v') w':=by
 obtain ⟨A,c,news,rfl,g1,g2,g3,g4,g5⟩:=zkf Kq.flat hx;obtain ⟨v',w',Kw,r1,r2,r4,r5⟩:=zlC (P:=P) (ty:=ty) hu hT (Wl.rowAt_nil w T (U.size un u)) g1 (λh=>by rw[g2 h];rfl) g3 g5 (by omega);have hnil:=hs.Kr.ownNil T (U.size un u);have hb:(H++[.own (.slice none 0 0) T (U.size un u) 0 []])[H.length]?=some (.own (.slice none 0 0) T (U.size un u) 0 []):=by simp
 obtain ⟨Kt,K2⟩:=zmE (un:=un) hnil hb r1 r2 r4 r5;have Qi:(H++[Wl.Res.own (.slice none 0 0) T (U.size un u) 0 []]).set H.length (.own v' T (U.size un u) (0+new.length) ([]++news))=H++[.own v' T (U.size un u) (0+new.length) ([]++news)]:=by grind
 rw[Qi] at Kt;have hkept:=zas hs.Kr.out Kt.out;refine ⟨v',w',Kw,_,_,hs.step Kt ?_ (λi q hi=>(hs.slots i q hi).ge K2 (zbt H _)) hd ?_,zhb hD (zhi hnil hb (r4.imp (·.1) id)),hG.trans K2⟩;·refine (hs.Kg.mono K2 hkept (zbt H _)).push ?_;simp only[Kc];exact ⟨trivial,trivial,by simp,λg hg' o ho=>.inr ⟨hg',ho⟩,λi y hi=>by grind[DR.mono]⟩
 ·simp only[Rep];refine ⟨?_,r1.one⟩;rw[hs.Kg.length,zdG];rfl
theorem zpI(Kq:Kx un){T:TypeId}{u:U}{t ty:TypeId}(hu:P.underlying t=some (.slice T))(hT:ElOk P un T u){b:Nat}{old new:List (El S u)}{v x:Value}(hs:St un E N D H e bx a w)(hg:zam bx b=some (.wr u T old))(hv:Rep un (ids H) D w (.row b) v)
  (hx:Rep un (ids H) D w (.sl u new) x) (hlim:old.length+new.length<=lim) (hD:∀k o,D k o->D0 k o\/E.may k) (hG:Ge D0 E.w D w) {dst:Option Nat} (hd:∀d,dst=some d->d<N.n) :
  ∃v' w',(Builtin.append_ #[t,t] ty #[v,x]).run P w= .ok v' w'/\Holds un E D0 N (push dst (.row b) (zcW b .junk e)) (zbe (bx.map (Box.kill b .junk)) b (.wr u T (old++new))) (a.put dst v') w':=by
 obtain ⟨r,hr1,hr2⟩:=hs.Kg.get hg;have hh:=hs.Kr.res _ (yAb hr1);cases r with
 |wr v0 T' size n xs =>
   simp only[Kc] at hr2;obtain ⟨rfl,rfl,rfl,K9⟩:=hr2;have hv0:v0=v:=by simp only[Rep,ids,yAh,hr1,yAg,zal,yAf,Prod.mk.injEq,true_and] at hv;exact hv.1
   subst hv0;obtain ⟨A,c,news,rfl,g1,g2,g3,g4,g5⟩:=zkf Kq.flat hx;obtain ⟨v',w',Kw,r1,r2,r4,r5⟩:=zgK (P:=P) (ty:=ty) hu hT hh.1 g1 (λh=>by rw[g2 h];rfl) g3 g5 hlim (yAA _);obtain ⟨Kt,K2⟩:=ze3 hs.Kr hr1 r1 r2 r4;have hkept:=zas hs.Kr.out Kt.out;have hn:=zgD (H:=H) (r':= .wr v' T' (U.size un u) (old.length+new.length) (xs++news)) hr1 rfl;have hnb:(ids H)[b]?=some (false,v0):=by simp[ids,hr1,zal]
   have hy:Rep un (ids (H.set b (.wr v' T' (U.size un u) (old.length+new.length) (xs++news)))) D w' .junk v0:=(by simp only[Rep]);have hbl:b<H.length:=(yAc.1 hr1).1;refine ⟨v',w',Kw,_,_,hs.step Kt ?_ (λi q hi=>?_) hd ?_,hD,hG.trans K2⟩;·refine (zbb K2 hkept hnb hy hn hs.Kg).set ?_;simp only[Kc];refine ⟨trivial,trivial,by simp,?_⟩;exact zhC hh.1.1 (λi y hi=>(K9 i y hi).mono K2) (λi y hi=>(g4 i y hi).mono K2)
   ·rw[za1] at hi;cases hl:zvo e i with
    |none=>rw[hl] at hi;cases hi|some p0 =>rw[hl] at hi;simp only[yAg,yAf] at hi;subst hi;exact zca K2 hnb hy hn (hs.slots i p0 hl)
   ·simp only[Rep];refine ⟨?_,zfb r1⟩;simp[ids,hbl,zal]
 |_=>simp[Kc] at hr2
theorem ziA(Kq:Kx un){T:TypeId}{u:U}{t ty:TypeId}(hu:P.underlying t=some (.slice T))(hT:ElOk P un T u){new:List (El S u)}{x:Value}(hs:St un E N D H e bx a w)
  (hx:Rep un (ids H) D w (.sl u new) x) (hlim:new.length<=lim) (hD:∀k o,D k o->D0 k o\/E.may k) (hG:Ge D0 E.w D w) {dst:Option Nat} (hd:∀d,dst=some d->d<N.n) :
  ∃v' w',(Builtin.append_ #[t,t] ty #[.slice none 0 0,x]).run P w= .ok v' w'/\Holds un E D0 N (push dst (.row bx.length) e) (bx++[.wr u T new]) (a.put dst v') w':=by
 obtain ⟨A,c,news,rfl,g1,g2,g3,g4,g5⟩:=zkf Kq.flat hx;obtain ⟨v',w',Kw,r1,r2,r4,r5⟩:=zgK (P:=P) (ty:=ty) hu hT (World.ownsRow_nil w 0 T (U.size un u)) g1 (λh=>by rw[g2 h];rfl) g3 g5 (by omega) (yAA _);have hnil:=hs.Kr.wrNil T (U.size un u);have hb:(H++[.wr (.slice none 0 0) T (U.size un u) 0 []])[H.length]?=some (.wr (.slice none 0 0) T (U.size un u) 0 []):=by simp
 obtain ⟨Kt,K2⟩:=ze3 hnil hb r1 r2 r4;have Qi:(H++[Wl.Res.wr (.slice none 0 0) T (U.size un u) 0 []]).set H.length (.wr v' T (U.size un u) (0+new.length) ([]++news))=H++[.wr v' T (U.size un u) (0+new.length) ([]++news)]:=by grind
 rw[Qi] at Kt;have hkept:=zas hs.Kr.out Kt.out;refine ⟨v',w',Kw,_,_,hs.step Kt ?_ (λi q hi=>(hs.slots i q hi).ge K2 (zbt H _)) hd ?_,hD,hG.trans K2⟩;·refine (hs.Kg.mono K2 hkept (zbt H _)).push ?_;simp only[Kc];exact ⟨trivial,trivial,by simp,λi y hi=>by grind[DR.mono]⟩
 ·simp only[Rep];refine ⟨?_,zfb r1⟩;rw[hs.Kg.length,zdG];rfl
theorem zrR{b:Nat}{u:U}{T:TypeId}{l:List (El S u)}(hs:St un E N D H e bx a w)(hg:zam bx b=some (.wr u T l)):∃D' H',St un E N D' H' e (zbe bx b (.own u T l)) a w/\ids H'=ids H/\Ge D w D' w/\∀k o,D' k o->D k o\/E.may k:=by
 obtain ⟨r,hr1,hr2⟩:=hs.Kg.get hg;have hh:=hs.Kr.res _ (yAb hr1);cases r with
 |wr v T' size n xs =>
   simp only[Kc] at hr2;obtain ⟨rfl,rfl,rfl,K9⟩:=hr2;have Qa:=yAb hr1;obtain ⟨Qu,hoff⟩:=Wl.rowAt_of hh.1;have K2:Ge D w (zkK D v (l.length*U.size un u)) w:=⟨λ_ _ h=>.inl h,λ_ _ _=>rfl,λ_ _ _ _ _ h=>h⟩;have Kt:In E (zkK D v (l.length*U.size un u)) (H.set b (.own v T' (U.size un u) l.length xs)) w:=by
    refine hs.Kr.turn hr1 ⟨rfl,rfl,rfl,yAi _,λ_ _ _=>rfl⟩ ⟨Qu,hh.2⟩ (λg hg=>.inl hg) (λk o hk=>?_) (λk o hk=>?_) (λg hg o hf hd=>?_) (λhe=>by cases he)
    ·rcases hk with hk|hk;·exact .inl hk
     ·exact .inr ⟨hk.1,by simp only[zki];omega⟩
    ·rcases hk with hk|hk;·exact hs.Kr.lt k o hk
     ·exact (World.ownsRow.lt hh.1 k hk.1).2
    ·simp only[zki] at hf;rcases hd with hd|hd;·exact hs.Kr.apart _ Qa g hg o trivial hd
     ·omega
   have K8:ids (H.set b (.own v T' (U.size un u) l.length xs))=ids H:=zaw hr1 rfl;refine ⟨_,_,⟨Kt,hs.size,hs.defers,?_,λi q hi=>?_⟩,K8,K2,zhb (D0:=D) (λ_ _ h=>.inl h) hh.2⟩;·rw[K8];refine (hs.Kg.mono K2 (λ_ _ _=>rfl) λ_ _ h=>h).set ?_;simp only[Kc];exact ⟨trivial,trivial,trivial,λg hg o ho=>.inr ⟨hg,by omega⟩,λi x hi=>(K9 i x hi).mono K2⟩
   ·rw[K8];exact (hs.slots i q hi).ge K2 λ_ _ h=>h
 |_=>simp[Kc] at hr2
theorem zrQ{b:Nat}{u:U}{T T2:TypeId}{l:List (List (El S u))}(hs:St un E N D H e bx a w)(hg:zam bx b=some (.nst u T T2 l none)):∃D' H',St un E N D' H' e (zbe bx b (.own (.sl u) T l)) a w/\ids H'=ids H/\Ge D w D' w/\∀k o,D' k o->D k o\/E.may k:=by
 obtain ⟨r,hr1,hr2⟩:=hs.Kg.get hg;have hh:=hs.Kr.res _ (yAb hr1);cases r with
 |nst v T' n xs T2' s2 rows =>
   simp only[Kc] at hr2;obtain ⟨rfl,rfl,rfl,rfl,hrl,K9⟩:=hr2;obtain ⟨K5,hmay,Qk,hdis⟩:=hh;obtain ⟨Qu,hoff⟩:=Wl.rowAt_of K5;have Qa:=yAb hr1
   let D':Dat:=λk o=>D k o\/(v.ownBlock=some k/\o<l.length)\/∃(i:Nat) (q:Value×Nat×List Value),rows[i]?=some (some q)/\q.1.ownBlock=some k/\o<q.2.1*U.size un u
   have K2:Ge D w D' w:=⟨λ_ _ h=>.inl h,λ_ _ _=>rfl,λ_ _ _ _ _ h=>h⟩;have Kt:In E D' (H.set b (.own v T' 1 l.length xs)) w:=by
    refine hs.Kr.again hr1 rfl ⟨Qu,hmay⟩ (λg hg=>.inl hg) (λk o hk=>?_) (λk o hk=>?_) (λg hg o hf hd=>?_)
    ·rcases hk with hk|hk|⟨i,q,h1,h2,_⟩;·exact .inl hk
     ·exact .inr (.inl hk.1)
     ·exact .inr (.inr ⟨i,q,h1,h2⟩)
    ·rcases hk with hk|hk|⟨i,q,h1,h2,_⟩;·exact hs.Kr.lt k o hk
     ·exact (World.ownsRow.lt K5 k hk.1).2
     ·exact (World.ownsRow.lt (Qk i q h1).1 k h2).2
    ·have hf:l.length*1<=o:=(by have:=hf.2;omega);rcases hd with hd|hd|⟨i,q,h1,h2,_⟩;·exact hs.Kr.apart _ Qa g (.inl hg) o trivial hd
     ·omega
     ·exact (Qk i q h1).2.2 g h2 hg
   have K8:ids (H.set b (.own v T' 1 l.length xs))=ids H:=zaw hr1 rfl;refine ⟨_,_,⟨Kt,hs.size,hs.defers,?_,λi q hi=>?_⟩,K8,K2,λk o hk=>?_⟩
   ·rw[K8];refine (hs.Kg.mono K2 (λ_ _ _=>rfl) λ_ _ h=>h).set ?_;simp only[Kc];refine ⟨trivial,rfl,rfl,λg hg o ho=>.inr (.inl ⟨hg,by omega⟩),λi x hi=>?_⟩;obtain ⟨q,q1,q2,q3,q4⟩:=K9 i x hi (by simp);have hx:(xs.drop (i*1)).take 1=[q.1]:=by
     rw[yBj];have hil:i<xs.length:=(yAc.1 q2).1;rw[yAV hil,yCc,yB2,(yAc.1 q2).2]
    rw[hx];have hq:=(Qk i q q1).1;rcases hq.2 with ⟨h0,hn⟩|⟨g,cap,cur,hq1,hbg,hgg,hnc,hcm,hcs,htk⟩
    ·rw[h0];have hx0:x=[]:=yAU.1 (q3.symm.trans hn);exact .sl0 none 0 hx0 .nil
    ·rw[hq1,q3];refine .sl g 0 cap (λj=>(q.2.2.drop (j*U.size un u)).take (U.size un u)) (show List.length (α:=El S u) x<=cap by rw[<-q3];exact hnc) (λj y hj z t ht=>?_) (λj y hj=>(q4 j y hj).mono K2) .nil;have hj: @Eq (Option (El S u)) ((id x:List (El S u))[j]?) (some y):=hj;have hjl:j<q.2.1:=by rw[q3];exact (yAc.1 hj).1
     have hm:(j+1)*U.size un u<=q.2.1*U.size un u:=yAs _ hjl;rw[yAz,yAQ] at hm;rw[yAD] at ht;split at ht;·rw[yAu] at ht;have hc:=hq.cells (g:=g) (by rw[hq1];rfl) _ t ht;rw[Addr.add_lit] at hc;exact ⟨.inr (.inr ⟨i,q,q1,by rw[hq1];rfl,by omega⟩),by simpa[yAJ] using hc⟩
     ·cases ht
   ·rw[K8];exact (hs.slots i q hi).ge K2 λ_ _ h=>h
   ·rcases hk with hk|hk|⟨i,q,h1,h2,_⟩;·exact .inl hk
    ·exact .inr (hmay k hk.1)
    ·exact .inr ((Qk i q h1).2.1 k h2)
 |_=>simp[Kc] at hr2
theorem St.freeze:∀(l:List Nat){bx:Bxs S}{D:Dat}{H:List Wl.Res},St un E N D H e bx a w->∃D' H',St un E N D' H' e (zaq l bx) a w/\ids H'=ids H/\Ge D w D' w/\∀k o,D' k o->D k o\/E.may k
 |[],_,D,H,h=>⟨D,H,h,rfl,Ge.refl _ _,λ_ _ h=>.inl h⟩|b::l,bx,D,H,h=>by
   simp only[zaq];split;·rename_i u T x hg;obtain ⟨D1,H1,h1,h2,h3,h4⟩:=zrR h hg;obtain ⟨D2,H2,k1,k2,k3,k4⟩:=St.freeze l h1;exact ⟨D2,H2,k1,k2.trans h2,h3.trans k3,λk o hk=>(k4 k o hk).elim (h4 k o) .inr⟩
   ·rename_i u T T2 x hg;obtain ⟨D1,H1,h1,h2,h3,h4⟩:=zrQ h hg;obtain ⟨D2,H2,k1,k2,k3,k4⟩:=St.freeze l h1;exact ⟨D2,H2,k1,k2.trans h2,h3.trans k3,λk o hk=>(k4 k o hk).elim (h4 k o) .inr⟩
   ·exact St.freeze l h
theorem Holds.freeze(l:List Nat){bx:Bxs S}(h:Holds un E D0 N e bx a w):Holds un E D0 N e (zaq l bx) a w:=by obtain ⟨D,H,hs,hD,hG⟩:=h;obtain ⟨D',H',k1,_,k3,k4⟩:=hs.freeze l;exact ⟨D',H',k1,λk o hk=>(k4 k o hk).elim (hD k o) .inr,hG.trans k3⟩
theorem zgg:∀(vs cs:List Value)(off:Nat),off+vs.length<=cs.length->zaV.spliceV cs off vs=cs.take off++vs++cs.drop (off+vs.length)
 |[],cs,off,_=>by simp[zaV.spliceV]
 |v::vs,cs,off,h=>by
   simp only[yAw] at h;rw[zaV.spliceV,zgg vs (cs.set off v) (off+1) (by simp;omega)];have h1:(cs.set off v).take (off+1)=cs.take off++[v]:=by
    rw[List.take_set,yBQ (by omega)];have:(cs.take off).length=off:=by simp;omega
    rw[List.set_append,if_neg (by omega),this];simp
   have h2:(cs.set off v).drop (off+1+vs.length)=cs.drop (off+1+vs.length):=(by rw[List.drop_set];rw[if_pos (by omega)]);rw[h1,h2];simp[yA5,yBx,yB3 1]
theorem zfU:∀(vs cs:List Value)(off k:Nat),(vs.zipIdx k).foldl (λ(cs:Array Value) (p:Value×Nat)=>cs.setIfInBounds (off+p.2) p.1) cs.toArray=(zaV.spliceV cs (off+k) vs).toArray|[],_,_,_=>rfl|v::r,cs,off,k=>by simp only[List.zipIdx_cons,yCd,zaV.spliceV,List.setIfInBounds_toArray];exact zfU r (cs.set (off+k) v) off (k+1)
theorem zmw{sz:Nat}:∀(ps:List (Nat×Value))(k:Nat)(cs:List Value)(l:List (Nat×PV S)),zel k l=true->ps.map (·.1)=l.map (·.1)->(∀p∈ps,p.2.cells.size=sz)->(k+ps.length)*sz<=cs.length ->
  Instr.fill (λi=>some (i*sz,sz)) cs.toArray ps=some (cs.take (k*sz)++(ps.map (·.2.cells.toList)).flatten++cs.drop ((k+ps.length)*sz)).toArray
 |[],k,cs,l,_,_,_,_=>by simp[Instr.fill]
 |(i,v)::ps,k,cs,[],_,h,_,_=>by simp at h
 |(i,v)::ps,k,cs,(j,p)::l,ho,hm,hsz,Ku=>by
   simp only[zel,yAd] at ho;have hj:j=k:=yAa ho.1;simp only[yAn,yBB] at hm;have hik:i=k:=hm.1.trans hj;subst hik;have hv:v.cells.size=sz:=hsz (i,v) (by simp);simp only[yAw] at Ku;have hmul:(i+(ps.length+1))*sz=i*sz+sz+ps.length*sz:=by rw[yAz,yAz,yAQ];omega
   unfold Instr.fill;simp only;rw[if_neg (by simp[hv];omega)];have hf:=zfU v.cells.toList cs (i*sz) 0;rw[yBu] at hf;have hsv:=zgg v.cells.toList cs (i*sz) (by simp[hv];omega);have hl2:v.cells.toList.length=sz:=by simp[hv]
   rw[hl2] at hsv;have hlen2:(cs.take (i*sz)++v.cells.toList++cs.drop (i*sz+sz)).length=cs.length:=by simp[hv];omega
   have ih:=zmw ps (i+1) (cs.take (i*sz)++v.cells.toList++cs.drop (i*sz+sz)) l ho.2 hm.2 (λp hp=>hsz p (by simp[hp])) (by rw[hlen2,show i+1+ps.length=i+(ps.length+1) by omega];exact Ku);have hfold:(Array.foldl (λ(cs:Array Value) (x:Value×Nat)=>match x with|(c,j)=>cs.setIfInBounds (i*sz+j) c) cs.toArray v.cells.zipIdx)=(cs.take (i*sz)++v.cells.toList++cs.drop (i*sz+sz)).toArray:=(by rw[<-hsv,<-hf,<-Array.foldl_toList];simp);rw[hfold,ih];congr 2;have e1:(cs.take (i*sz)++v.cells.toList++cs.drop (i*sz+sz)).take ((i+1)*sz)=cs.take (i*sz)++v.cells.toList:=by
    have:(cs.take (i*sz)++v.cells.toList).length=(i+1)*sz:=by rw[yAz,yAQ];simp[hv];omega
    rw[<-this,yBr]
   have e2:(cs.take (i*sz)++v.cells.toList++cs.drop (i*sz+sz)).drop ((i+1+ps.length)*sz)=cs.drop ((i+(ps.length+1))*sz):=by have h3:(cs.take (i*sz)++v.cells.toList).length=i*sz+sz:=(by simp[hv];omega);have h4:(i+1+ps.length)*sz=(cs.take (i*sz)++v.cells.toList).length+ps.length*sz:=(by rw[h3,yAz,yAz,yAQ]);rw[h4,yCl,yBm (yCm _ _),yAP,yBb,yBh,hmul]
   rw[e1,e2];simp[yA5]
end
end Pe
end
section
namespace Pe
open Go Go.RowKit
variable{S:Nat->Type}
section
variable{P:Program}{un:Uni S}{E:Wl.Ctx}{D0:Dat}{N:Wl.Fr}{D D':Dat}{H:List Wl.Res}{e:Env S}{bx:Bxs S}{a:Act}{w w':World}{o:Oper}{R:Type}{r:R}
theorem zkJ{b:Nat}:∀{ls:List Nat}{k j:Nat},zql b ls k=some j->∃i,j=k+i/\ls[i]?=some b
 |[],_,_,h=>by cases h
 |i::r,k,j,h=>by
   unfold zql at h;cases hb:Nat.beq i b with
   |true=>simp_all|false =>rw[hb] at h;obtain ⟨i',h1,h2⟩:=zkJ h;exact ⟨i'+1,by omega,by grind⟩
theorem zjL:∀(l sn:List Nat),∀i∈nub sn l,i∈l
 |[],_,_,h=>by cases h
 |j::r,sn,i,h=>by
   unfold nub at h;cases hc:sn.contains j with
   |true=>rw[hc] at h;exact yB6 _ (zjL r sn i h)|false =>
     rw[hc] at h;rcases yAm.1 h with h|h;·grind
     ·exact yB6 _ (zjL r _ i h)
theorem zfJ:∀(l sn:List Nat),(nub sn l).Nodup/\∀i∈nub sn l,i∉sn
 |[],_=>⟨List.nodup_nil,λ_ h=>by cases h⟩|i::r,sn=>by
   unfold nub;by_cases hc:sn.contains i=true;·rw[hc];exact zfJ r sn
   ·rw[Bool.not_eq_true] at hc;rw[hc];obtain ⟨h1,h2⟩:=zfJ r (i::sn);have hi:i∉sn:=by grind
    refine ⟨yA2.2 ⟨λh=>h2 i h (by simp),h1⟩,λj hj=>?_⟩;rcases yAm.1 hj with rfl|hj;·exact hi
    grind
def BlocksOf(H:List Wl.Res):List Nat->List Nat->Prop|[],[]=>True|b::bs,g::gs=>(∃T cs,H[b]?=some (.box g T cs))/\BlocksOf H bs gs|_,_=>False
theorem BlocksOf.get:∀{ls gs:List Nat},BlocksOf H ls gs->∀{i b:Nat},ls[i]?=some b->∃g,gs[i]?=some g/\∃T cs,H[b]?=some (.box g T cs)
 |[],[],_,_,_,h=>by simp at h
 |c::bs,g::gs,hb,0,b,h=>by grind[BlocksOf]
 |c::bs,g::gs,hb,i+1,b,h=>by simp only[BlocksOf] at hb;simpa using hb.2.get (by simpa using h)
 |[],_::_,hb,_,_,_=>by grind
 |_::_,[],hb,_,_,_=>by grind[BlocksOf]
theorem BlocksOf.mem:∀{ls gs:List Nat},BlocksOf H ls gs->∀{g:Nat},g∈gs->∃b∈ls,∃T cs,H[b]?=some (.box g T cs)
 |[],[],_,_,h=>by cases h
 |c::bs,g::gs,hb,k,h=>by
   simp only[BlocksOf] at hb;rcases yAm.1 h with rfl|h;·simp_all
   ·obtain ⟨b,h1,h2⟩:=hb.2.mem h;grind
 |[],_::_,hb,_,_=>by grind[BlocksOf]
 |_::_,[],hb,_,_=>by grind
theorem BlocksOf.mem':∀{ls gs:List Nat},BlocksOf H ls gs->∀{b:Nat},b∈ls->∃g∈gs,∃T cs,H[b]?=some (.box g T cs)
 |[],[],_,_,h=>by cases h
 |c::bs,g::gs,hb,k,h=>by
   simp only[BlocksOf] at hb;rcases yAm.1 h with rfl|h;·simp_all
   ·obtain ⟨b,h1,h2⟩:=hb.2.mem' h;grind
 |[],_::_,hb,_,_=>by grind
 |_::_,[],hb,_,_=>by grind[BlocksOf]
theorem BlocksOf.nodup(hd:H.Pairwise Wl.apartR):∀{ls gs:List Nat},BlocksOf H ls gs->ls.Nodup->gs.Nodup
 |[],[],_,_=>List.nodup_nil|c::bs,g::gs,hb,hn=>by simp only[BlocksOf] at hb;obtain ⟨h1,h2⟩:=yA2.1 hn;refine yA2.2 ⟨λhg=>?_,hb.2.nodup hd h2⟩;obtain ⟨b,hb1,T,cs,hb2⟩:=hb.2.mem hg;obtain ⟨T',cs',hc⟩:=hb.1;have:=zaK hd hc hb2 (g:=g) rfl rfl;grind
 |[],_::_,hb,_=>by grind[BlocksOf]
 |_::_,[],hb,_=>by grind
mutual
theorem zoH(Kq:Kx un)(hs:St un E N D H e bx a w){ls gs:List Nat}(hb:BlocksOf H ls gs):∀(p q:PV S)(v:Value),ren ls bx p=some q->Rep un (ids H) D w p v->Rep un (zgN gs) D w q v
 | .ptr b off,q,v,h,hr=>by
   grind[ren,zkJ,BlocksOf.get,Rep,zal]
 | .func f l r,q,v,h,hr=>by
   simp only[ren] at h;split at h;·rename_i l' r' h1 h2;cases h;simp only[Rep] at hr ⊢;obtain ⟨x,y,h3,h4,h5⟩:=hr;exact ⟨x,y,h3,zfB Kq hs hb l l' x h1 h4,zfB Kq hs hb r r' y h2 h5⟩
   ·cases h
 | .row b,q,v,h,hr=>by
   simp only[ren] at h;have:=hs.fz1 Kq hr;grind[Rep]
 | .agg l,q,v,h,hr=>by
   simp only[ren] at h;split at h;·rename_i l' h1;cases h;simp only[Rep] at hr ⊢;obtain ⟨x,h3,h4⟩:=hr;exact ⟨x,h3,zfB Kq hs hb l l' x h1 h4⟩
   ·cases h
 | .int _ _,q,v,h,hr=>by grind[ren,Rep]
 | .bool _,q,v,h,hr=>by grind[ren,Rep]
 | .str _,q,v,h,hr=>by grind[ren,Rep]
 | .sl _ _,q,v,h,hr=>by grind[ren,Rep]
 | .nils,q,v,h,hr=>by grind[ren,Rep]
 | .st _ _,q,v,h,hr=>by grind[ren,Rep]
 | .nilp,q,v,h,hr=>by grind[ren,Rep]
 | .nilFunc,q,v,h,hr=>by grind[ren,Rep]
 | .nilIface,q,v,h,hr=>by grind[ren,Rep]
 | .tup _,_,_,h,_=>by grind[ren]
 | .elp _ _ _,_,_,h,_=>by grind[ren]
 | .iface _ _,_,_,h,_=>by grind[ren]
 | .junk,_,_,h,_=>by grind[ren]
theorem zfB(Kq:Kx un)(hs:St un E N D H e bx a w){ls gs:List Nat}(hb:BlocksOf H ls gs):∀(p q:List (PV S))(v:List Value),zq6 ls bx p=some q->Ke un (ids H) D w p v->Ke un (zgN gs) D w q v
 |[],q,v,h,hr=>by grind[zq6,Ke]
 |p::r,q,v,h,hr=>by
   simp only[zq6] at h;split at h
   ·rename_i q' l h1 h2;cases h;cases v with
    |nil=>grind[Ke]|cons x v =>simp only[Ke] at hr ⊢;exact ⟨zoH Kq hs hb p q' x h1 hr.1,zfB Kq hs hb r l v h2 hr.2⟩
   ·cases h
end
theorem zij(Kq:Kx un)(hs:St un E N D H e bx a w){ls gs:List Nat}(hb:BlocksOf H ls gs):∀{us:List (Option U)}{ps t:List (PV S)}{vs:List Value},ziy un ls bx us ps=some t->Ke un (ids H) D w ps vs->Ke un (zgN gs) D w t vs
 |[],[],t,vs,hc,hr=>by grind[ziy,Ke]
 |some u::us,p::ps,t,v::vs,hc,hr=>by
   simp only[Ke] at hr;unfold ziy at hc;split at hc;·rename_i x t' h1 h2;cases hc;simp only[Ke];exact ⟨zdg (zbT Kq h1 (hs.fz Kq hr.1)).2,zij Kq hs hb h2 hr.2⟩
   ·cases hc
 |none::us,p::ps,t,v::vs,hc,hr=>by
   simp only[Ke] at hr;unfold ziy at hc;split at hc;·rename_i q t' h1 h2;cases hc;simp only[Ke];exact ⟨zoH Kq hs hb p q v h1 hr.1,zij Kq hs hb h2 hr.2⟩
   ·cases hc
 |some _::_,_::_,_,[],_,hr=>by grind[Ke]
 |none::_,_::_,_,[],_,hr=>by grind[Ke]
 |[],_::_,_,_,hc,_=>by grind[ziy]
 |some _::_,[],_,_,hc,_=>by grind[ziy]
 |none::_,[],_,_,hc,_=>by grind[ziy]
theorem zrB{nu:Nu}{u:U}{cs:List (PV S)}{vs:List Value}(h:Ke un nu D w cs vs):∃v,Rep un nu D w (mkV u cs) v/\((∃n,u= .st n/\v= .agg vs.toArray)\/((∀n,u≠ .st n)/\(vs=[v]\/∃l,mkV u cs= .tup l))):=by
 cases u with
 |st n=>grind[mkV,Rep]|_ =>
   simp only[mkV]
   match cs,vs,h with
   |[],[],_=>exact ⟨.tuple #[],by grind[zfI,Rep],.inr ⟨by simp,.inr ⟨_,rfl⟩⟩⟩|[p],[v],h=>exact ⟨v,by grind[zfI,Ke],.inr ⟨by simp,.inl rfl⟩⟩|p::q::ps,v::x::vs,h=>exact ⟨.tuple (v::x::vs).toArray,by grind[zfI,Rep],.inr ⟨by simp,.inr ⟨_,rfl⟩⟩⟩|[],_::_,h=>grind[Ke]|_::_,[],h=>grind[Ke]|[_],_::_::_,h=>grind[Ke]|_::_::_,[_],h=>grind[Ke]
theorem zmR(Kq:Kx un)(hs:St un E N D H e bx a w){u:U}{cs:List (PV S)}{vs:List Value}{x:El S u}(hc:cast un u (fz bx (mkV u cs))=some x)(h:Ke un (ids H) D w cs vs):DR un D w [u] (sg x) vs:=by
 obtain ⟨v,h1,h2⟩:=zrB (un:=un) (u:=u) h;have h3:=(zbT Kq hc (hs.fz Kq h1)).1;rcases h2 with ⟨n,rfl,rfl⟩|⟨hu,rfl|⟨l,hl⟩⟩;·grind[Value.cells]
 ·obtain ⟨h4,_⟩:v.cells= #[v]/\True:=by
   have hc':cast0 u (fz bx (mkV u cs))=some x:=(by simp_all[cast]);exact ⟨(zf5 (un:=un) hc' (hs.fz Kq h1)).2.1,trivial⟩
  grind
 ·exfalso;rw[hl] at hc;have:fz bx (.tup l:PV S)= .tup l:=rfl;simp_all[cast,cast0]
mutual
theorem zrv{nu:Nu}:∀(p:PV S)(v:Value)(b:Nat),Rep un nu D w p v->b∈p.ptrs->∃g,nu[b]?=some (true,.pointer (some ⟨g,0,none⟩))
 | .ptr i off,v,b,h,hm=>by simp only[PV.ptrs,yBp] at hm;grind[Rep]
 | .func f l r,v,b,h,hm=>by
   simp only[Rep] at h;obtain ⟨a,c,_,h1,h2⟩:=h;simp only[PV.ptrs,yAp] at hm;rcases hm with hm|hm;·exact zhd l a b h1 hm
   ·exact zhd r c b h2 hm
 | .int _ _,_,_,_,hm | .bool _,_,_,_,hm | .str _,_,_,_,hm | .sl _ _,_,_,_,hm | .nils,_,_,_,hm | .st _ _,_,_,_,hm | .agg _,_,_,_,hm | .tup _,_,_,_,hm | .elp _ _ _,_,_,_,hm | .nilp,_,_,_,hm
 | .row _,_,_,_,hm | .ref _,_,_,_,hm | .elr _ _ _ _,_,_,_,hm | .cont _ _,_,_,_,hm | .bref _ _,_,_,_,hm | .rsl _ _ _,_,_,_,hm | .nilFunc,_,_,_,hm | .iface _ _,_,_,_,hm | .nilIface,_,_,_,hm | .junk,_,_,_,hm=>by grind[PV.ptrs]
theorem zhd{nu:Nu}:∀(ps:List (PV S))(vs:List Value)(b:Nat),Ke un nu D w ps vs->b∈zhJ ps->∃g,nu[b]?=some (true,.pointer (some ⟨g,0,none⟩))
 |[],_,_,_,hm=>by grind[zhJ]
 |p::ps,v::vs,b,h,hm=>by
   simp only[Ke] at h;simp only[zhJ,yAp] at hm;rcases hm with hm|hm;·exact zrv p v b h.1 hm
   ·exact zhd ps vs b h.2 hm
 |_::_,[],_,h,_=>by grind[Ke]
end
theorem zmQ(Kq:Kx un)(hs:St un E N D H e bx a w):∀{ts:List TypeId}{lc:List U}{ls:List Nat}{c:ElL S lc},zfg un bx ts lc ls=some c->(∀b∈ls,∃g,(ids H)[b]?=some (true,.pointer (some ⟨g,0,none⟩))) ->
  ∃gs,BlocksOf H ls gs/\zaL un D w ts lc c gs/\ts.length=lc.length/\ls.length=ts.length
 |[],[],[],c,_,_=>⟨[],by simp[BlocksOf],by simp[zaL],rfl,rfl⟩|T::ts,u::us,b::bs,c,h,hpt=>by
   unfold zfg at h;split at h
   ·rename_i T' cs hg;split at h
    ·rename_i x t h1 h2;obtain ⟨h3,h4⟩:=zae h;cases h4;simp only[yAd] at h3;have hT:=yAa h3.1.1;subst hT;obtain ⟨gs,k1,k2,k3,k4⟩:=zmQ Kq hs h2 λb hb=>hpt b (by simp[hb]);obtain ⟨r,hr1,hr2⟩:=hs.Kg.get hg;have hh:=hs.Kr.res _ (yAb hr1);cases r with
     |own=>simp[Kc] at hr2|ref=>simp[Kc] at hr2|wr=>simp[Kc] at hr2|nst=>simp[Kc] at hr2|grp=>simp[Kc] at hr2|fix v g size ob =>obtain ⟨g',hg'⟩:=hpt b (by simp);simp only[ids,yAh,hr1,yAg,zal,yAf,Prod.mk.injEq,true_and] at hg';subst hg';exact absurd hh.1 (zcQ _)
     |box g T2 vs =>simp only[Kc] at hr2;obtain ⟨rfl,hl⟩:=hr2;refine ⟨g::gs,by simp only[BlocksOf];exact ⟨⟨_,_,hr1⟩,k1⟩,?_,by simp[k3],by simp[k4]⟩;simp only[zaL];exact ⟨⟨vs,hh.2,zmR Kq hs h1 hl⟩,k2⟩
    ·cases h
   ·cases h
 |[],[],_::_,_,h,_=>by simp[zfg] at h
 |[],_::_,_,_,h,_=>by simp[zfg] at h
 |_::_,[],_,_,h,_=>by simp[zfg] at h
 |_::_,_::_,[],_,h,_=>by simp[zfg] at h
theorem zmP:∀{ts:List TypeId}{lc:List U}{ls:List Nat}{c:ElL S lc},zfg un bx ts lc ls=some c->∀b∈ls,∃T cs,zam bx b=some (.var T cs)
 |[],[],[],_,_,b,hb=>by cases hb
 |T::ts,u::us,b::bs,c,h,b',hb=>by
   unfold zfg at h;split at h
   ·rename_i T' cs hg;split at h
    ·rename_i x t h1 h2;rcases yAm.1 hb with rfl|hb;·grind
     ·exact zmP h2 b' hb
    ·cases h
   ·cases h
 |[],[],_::_,_,h,_,_=>by grind[zfg]
 |[],_::_,_,_,h,_,_=>by grind[zfg]
 |_::_,[],_,_,h,_,_=>by grind[zfg]
 |_::_,_::_,[],_,h,_,_=>by grind
def zkG(w':World):Wl.Res->Wl.Res| .box g T _=>.box g T (match w'.heap[g]? with|some (.cells cs _ _)=>cs.toList|_=>[])|r=>r
theorem zhH(w':World)(r:Wl.Res):(zkG w' r).has=r.has:=by cases r<;>rfl
theorem zmB(w':World)(r:Wl.Res):zal (zkG w' r)=zal r:=by cases r<;>rfl
def relist(w':World)(ls:List Nat):Nat->List Wl.Res->List Wl.Res|_,[]=>[]|k,r::rs=>(bif ls.contains k then zkG w' r else r)::relist w' ls (k+1) rs
theorem zbA(w':World)(ls:List Nat):∀(H:List Wl.Res)(k i:Nat),(relist w' ls k H)[i]?=(H[i]?).map λr=>bif ls.contains (k+i) then zkG w' r else r
 |[],_,_=>by simp[relist]
 |r::rs,k,0=>by simp[relist]
 |r::rs,k,i+1=>by simp only[relist,List.getElem?_cons_succ];rw[zbA w' ls rs (k+1) i];grind
theorem zdC(w':World)(ls:List Nat):∀(H:List Wl.Res)(k:Nat),(relist w' ls k H).length=H.length|[],_=>rfl|r::rs,k=>by simp[relist,zdC w' ls rs (k+1)]
theorem ziL{α:Type}(f:Wl.Res->α)(hf:∀r,f (zkG w' r)=f r)(ls:List Nat)(H:List Wl.Res):(relist w' ls 0 H).map f=H.map f:=by apply yAW;intro i;simp only[yAh,zbA,Option.map_map];congr 1;funext r;simp only[Function.comp];cases ls.contains (0+i)<;>simp[hf]
theorem ziM(ls:List Nat)(H:List Wl.Res):ids (relist w' ls 0 H)=ids H:=ziL zal (zmB w') ls H
theorem In.relist(h:In E D H w){ls gs:List Nat}(hb:BlocksOf H ls gs)(hg:Wl.Grow gs w w')(hc:∀b∈ls,∀g T cs,H[b]?=some (.box g T cs)->∃cs',w'.heap[g]?=some (.cells cs' T (0,0))):In E (zkU D w w') (Pe.relist w' ls 0 H) w':=by
 have hgs:∀g∈gs,E.may g:=λg hgm=>by obtain ⟨b,_,T,cs,hH⟩:=hb.mem hgm;exact (h.res _ (yAb hH)).1
 refine ⟨⟨hg.os.trans h.out.os,hg.tape.trans h.out.tape,hg.output.trans h.out.output,yAo h.out.size hg.size,λk hk hn=>?_⟩,λk o hk=>?_,λr hr=>?_,λr hr g hgr o hf hD=>?_,?_,λi g hi=>?_⟩
 rotate_left 5
 ·obtain ⟨s,h2,h3,h4,h5⟩:=h.lent i g hi;rw[zbA,h2];simp only[yAg];cases ls.contains (0+i);·exact ⟨s,rfl,h3,h4,h5⟩
  ·exact ⟨zkG w' s,rfl,by cases s<;>exact h3,(zmB w' s).trans h4,by cases s<;>first|exact h5|exact keptR.box⟩
 ·refine (hg.block k (yAq hk h.out.size) λhk2=>?_).trans (h.out.block k hk hn);rcases hgs k hk2 with h1|h1;·omega
  ·exact hn h1
 ·rcases hk with hk|hk;·exact yAq (h.lt k o hk) hg.size
  ·exact hk.2
 ·rcases yAl hr with ⟨i,hi⟩;rw[zbA] at hi;cases hH:H[i]? with
  |none=>rw[hH] at hi;cases hi|some s =>
    rw[hH] at hi;simp only[yAg,yAf,yAJ] at hi;have hs:=h.res s (yAb hH);by_cases hil:i∈ls
    ·have:ls.contains i=true:=by simpa using hil
     rw[this] at hi;simp only[cond_true] at hi;obtain ⟨g,_,T,cs,hH2⟩:=hb.mem' hil;rw[hH] at hH2;cases hH2;obtain ⟨cs',hc'⟩:=hc i hil g T cs hH;subst hi;exact ⟨hs.1,by simp[hc']⟩
    ·have:ls.contains i=false:=by simpa using hil
     rw[this] at hi;simp only[cond_false] at hi;subst hi;refine Wl.Res.holds_of hs λg hgb=>hg.block g (Wl.Res.holds_lt hs hgb).2 λhgm=>?_;obtain ⟨b,hbl,T,cs,hH2⟩:=hb.mem hgm;have:=zaK h.disj hH hH2 hgb rfl;subst this;exact hil hbl
 ·rcases yAl hr with ⟨i,hi⟩;rw[zbA] at hi;cases hH:H[i]? with
  |none=>rw[hH] at hi;cases hi|some s =>
    rw[hH] at hi;simp only[yAg,yAf,yAJ] at hi;have hsm:=yAb hH;have hbs:s.has g:=by rw[<-hi] at hgr;cases Va:ls.contains i<;>rw[Va] at hgr<;>simpa[zhH] using hgr
    have hfs:zki s g o:=by
     rw[<-hi] at hf;cases Va:ls.contains i<;>rw[Va] at hf;·exact hf
     ·cases s<;>first|exact hf|trivial
    rcases hD with hD|hD;·exact h.apart s hsm g hbs o hfs hD
    ·have:=(Wl.Res.holds_lt (h.res s hsm) hbs).2;omega
 ·have h1:(H.map Wl.Res.has).Pairwise (λx y=>∀g,x g->¬y g):=by rw[yA6];exact h.disj
  rw[<-ziL (w':=w') Wl.Res.has (zhH w') ls H,yA6] at h1;exact h1
theorem Ge.grow(h:In E D H w){gs:List Nat}(hg:Wl.Grow gs w w')(hd:∀g∈gs,∀o,¬D g o):Ge D w (zkU D w w') w' :=
 (.of (λ_ _ hk=>.inl hk) λk o hk=>hg.block k (h.lt k o hk) λhk2=>hd k hk2 o hk)
theorem Kj.of_get'{nu:Nu}:∀{bx:Bxs S}{H:List Wl.Res},bx.length=H.length->(∀(i:Nat) b r,zam bx i=some b->H[i]?=some r->Kc un nu D w E false b r)->Kj un nu D w E bx H
 |[],[],_,_=>by simp[Kj]
 |b::bs,r::rs,hl,h=>by simp only[Kj];exact ⟨h 0 b r rfl rfl,Kj.of_get' (by grind) λi b r hb hr=>h (i+1) b r hb (by grind)⟩
 |[],_::_,hl,_=>by simp at hl
 |_::_,[],hl,_=>by simp at hl
theorem zcP:∀{bx:Bxs S}{j:Nat}{y z:Box S},zam (zbe bx j y) j=some z->z=y
 |[],_,_,_,h=>by simp[zbe,zam] at h
 |_::_,0,_,_,h=>by grind[zbe,zam]
 |_::r,n+1,_,_,h=>by simp only[zbe,zam] at h;exact zcP h
theorem zgM:∀(ts:List TypeId)(lc:List U)(ls:List Nat)(t:ElL S lc)(bx:Bxs S),(zgp un ts lc ls t bx).length=bx.length
 |[],_,_,_,_=>by simp[zgp]
 |_::_,[],_,_,_=>by simp[zgp]
 |_::_,_::_,[],_,_=>by simp[zgp]
 |T::ts,u::us,b::bs,t,bx=>by simp only[zgp];rw[zgM,zbv]
theorem zkI(hf:zns un){nu:Nu}{H':List Wl.Res}:∀{ts:List TypeId}{lc:List U}{ls gs:List Nat}{t:ElL S lc}{bx:Bxs S},zaL un D w ts lc t gs->(∀(b g:Nat),(b,g)∈ls.zip gs->∀r T cs,H'[b]?=some r->w.heap[g]?=some (.cells cs T (0,0))->r= .box g T cs.toList) ->
  ls.length=ts.length->(∀(i:Nat) b r,i∉ls->zam bx i=some b->H'[i]?=some r->Kc un nu D w E false b r)->∀(i:Nat) b r,zam (zgp un ts lc ls t bx) i=some b->H'[i]?=some r->Kc un nu D w E false b r
 |[],[],[],[],_,_,_,_,_,h,i,b,r,hb,hr=>h i b r (by simp) (by grind[zgp]) hr|T::ts,u::us,b::bs,g::gs,t,bx,hl,hz,Ku,h,i,b',r,hb,hr=>by
   simp only[zaL] at hl;simp only[zgp] at hb;refine zkI hf (ls:=bs) hl.2 (λb g hm=>hz b g (by simp[hm])) (by grind) (λi b' r hi hb hr=>?_) i b' r hb hr;by_cases hib:i=b;·subst hib;have:=zcP hb;subst this;obtain ⟨cs,h1,h2⟩:=hl.1;have:=hz i g (by simp) r T cs.toArray hr h1;subst this;simp only[Kc];exact ⟨trivial,zbZ hf h2⟩
   grind[zat]
 |[],[],_::_,_,_,_,_,_,Ku,_,_,_,_,_,_=>by simp at Ku
 |_::_,_::_,[],_,_,_,_,_,Ku,_,_,_,_,_,_=>by simp at Ku
 |_::_,_::_,_::_,[],_,_,hl,_,_,_,_,_,_,_,_=>by grind[zaL]
 |[],_::_,_,_,_,_,hl,_,_,_,_,_,_,_,_=>by grind[zaL]
 |_::_,[],_,_,_,_,hl,_,_,_,_,_,_,_,_=>by grind[zaL]
 |[],[],[],_::_,_,_,hl,_,_,_,_,_,_,_,_=>by grind[zaL]
theorem ziU(un:Uni S):∀(u:U)(x:El S u),(zdN un u x).length=U.size un u
 | .st n,x=>by
   have:∀(us:List U)(t:ElL S us),(zbQ us t).length=us.length:=by
    intro us;induction us with
    |nil=>intro t;rfl
    |cons u us ih=>grind[zbQ]
   grind[zdN,U.size]
 | .int _,_=>rfl| .bool,_=>rfl| .str,_=>rfl| .sl _,_=>rfl| .mp _ _,_=>rfl| .rw _,_=>rfl| .cs _,_=>rfl
def Same(bx0 bx:Bxs S):Prop:=∀b T cs,zam bx0 b=some (.var T cs)->∃cs',zam bx b=some (.var T cs')/\cs'.length=cs.length
theorem ziQ:∀{ts:List TypeId}{lc:List U}{ls:List Nat}{c:ElL S lc}(t:ElL S lc)(bx':Bxs S),zfg un bx ts lc ls=some c->Same bx bx'->Kk bx bx'->Kk bx (zgp un ts lc ls t bx')
 |[],[],[],_,_,_,_,_,h=>by grind[zgp]
 |T::ts,u::us,b::bs,c,t,bx',h,hs,hp=>by
   unfold zfg at h;split at h
   ·rename_i T' cs hg;split at h
    ·rename_i x t' h1 h2;obtain ⟨h3,h4⟩:=zae h;simp only[yAd] at h3;have hT:=yAa h3.1.1;subst hT;have Ku:=yAa h3.1.2;simp only[zgp];obtain ⟨cs1,hb1,hl1⟩:=hs b _ _ hg;refine ziQ t.2 _ h2 (λb2 T2 cs2 hg2=>?_) (hp.trans (Kk.set hb1 rfl λT3 cs3 he=>by simp_all[ziU]));obtain ⟨cs3,hb3,hl3⟩:=hs b2 T2 cs2 hg2;grind[zeH,ziU,zat]
    ·cases h
   ·cases h
 |[],[],_::_,_,_,_,h,_,_=>by grind[zfg]
 |[],_::_,_,_,_,_,h,_,_=>by grind[zfg]
 |_::_,[],_,_,_,_,h,_,_=>by grind[zfg]
 |_::_,_::_,[],_,_,_,h,_,_=>by grind[zfg]
theorem zdF:∀(ls:List Nat)(bx:Bxs S),(zeY ls bx).length=bx.length|[],_=>rfl|b::bs,bx=>by simp only[zeY];rw[zdF bs];grind[zbv]
theorem zrK{nu:Nu}:∀{cs:List (PV S)}{vs:List Value},cs.length=vs.length->Ke un nu D w (cs.map λ_=>.junk) vs
 |[],[],_=>by simp[Ke]
 |_::cs,_::vs,h=>by simp only[yAn,Ke,Rep];exact ⟨trivial,zrK (by simpa using h)⟩
 |[],_::_,h=>by simp at h
 |_::_,[],h=>by simp at h
theorem zgC:∀(ls:List Nat)(bx:Bxs S)(i:Nat)(b:Box S),zam (zeY ls bx) i=some b->(i∉ls/\zam bx i=some b)\/(i∈ls/\∃b0,zam bx i=some b0/\((∀T cs,b0= .var T cs->b= .var T (cs.map λ_=>.junk))/\((∀T cs,b0≠ .var T cs)->b=b0)))
 |[],bx,i,b,h=>.inl ⟨by simp,h⟩|c::cs,bx,i,b,h=>by
   simp only[zeY] at h;rcases zgC cs _ i b h with ⟨h1,h2⟩|⟨h1,b0,h2,h3,h4⟩
   ·grind[zcP,zat]
   ·right;refine ⟨by simp[h1],?_⟩;by_cases hic:i=c
    ·subst hic;split at h2;·rename_i T cs2 hg;have:=zcP h2;simp_all
     grind
    grind[zat]
theorem zfi:∀(ls:List Nat)(bx:Bxs S),Kk bx (zeY ls bx)
 |[],bx=>Kk.refl bx|b::bs,bx=>by
   simp only[zeY];refine Kk.trans ?_ (zfi bs _);split;·rename_i T cs hg;exact Kk.set hg rfl λT' cs' he=>by simp_all
   grind[Kk.refl]
theorem zrd(Kq:Kx un){c:Call}{f:FuncId}{l:List (PV S)}(hen:zcS e c=some (f,l))(ho:o.op= .call c)(hcf:∀args w,(callFunc f args).run P w= .ok (.enter f args) w)
  {ls:List Nat} (hls:ls.Nodup) (hlm:∀b∈ls,b∈zhJ l) {args:Option (List (PV S))} {ts:List TypeId} {lc rs ps:List U} {pan:TypeId} {ask:List (PV S)->ElL S lc->Option (Out S lc rs ps)} {K:PV S->Env S->Bxs S->Option R} {KX:Exit->Env S->Bxs S->Option R}
  (h:zib un e bx ls args ts lc rs ps pan ask K KX=some r)
  (Qb:∀t,args=some t->∀D H a w gs,St un E N D H e bx a w->BlocksOf H ls gs->∀vs,Ke un (ids H) D w l vs->Ke un (zgN gs) D w t vs)
  (hask:∀t c r,ask t c=some r->zsl P un f t ts lc c rs ps pan r)
  (hd:∀d,o.dst=some d->d<N.n) (hs:Holds un E D0 N e bx a w) {next:Act->World->Prop} {Q:Exit->Act->World->Prop}
  (hk:∀p e' bx',K p e' bx'=some r->Ky [] e e'->Kk bx bx'->∀a' w',Holds un E D0 N (push o.dst p e') bx' a' w'->next a' w')
  (hx:∀x e' bx',KX x e' bx'=some r->Ky [] e e'->Kk bx bx'->∀a' w',Holds un E D0 N e' bx' a' w'->Q x a' w'):o.wp P a w next Q:=by
 unfold zib at h;split at h
 ·rename_i t cc Va;obtain ⟨D,H,hs,hD,hG⟩:=hs;obtain ⟨vs,g1,g2⟩:=zcA hs hen ho hcf;obtain ⟨gs,hb,hl,hlen1,hlen2⟩:=zmQ Kq hs Va λb hb=>zhd _ _ b g2 (hlm b hb);have hgD:∀g∈gs,∀o,¬D g o:=λg hg o=>by
   obtain ⟨b,_,T,cs,hH⟩:=hb.mem hg;exact hs.Kr.apart _ (yAb hH) g rfl o trivial
  unfold Oper.wp;rw[g1];cases hr:ask t cc with
  |none=>rw[hr] at h;simp[oc] at h|some res =>
    rw[hr] at h;refine (hask t cc res hr D w vs gs (hs.tabL λg hg=>by obtain ⟨b,_,T,cs,hH⟩:=hb.mem hg;exact (Wl.Res.holds_lt (hs.Kr.res _ (yAb hH)) rfl).1) hs.Kr.lt (hb.nodup hs.Kr.disj hls) hgD hl (Qb t rfl D H a w gs hs hb vs g2)).mono λx w1 hx1=>?_;obtain ⟨hg,hx1⟩:=hx1;have K2:=Ge.grow hs.Kr hg hgD;have hD':∀k o,zkU D w w1 k o->D0 k o\/E.may k:=λk o hk=>by
     rcases hk with hk|hk;·exact hD k o hk
     ·exact .inr (.inl (yAo hs.Kr.out.size hk.1))
    have hbl:∀(b g:Nat),(b,g)∈ls.zip gs->∃T cs,H[b]?=some (.box g T cs):=by
     clear hl hx1 K2 hgD hg hlen2 Qb hls Va h hlm;intro b g hm;induction ls generalizing gs with
     |nil=>simp at hm|cons c bs ih =>
       cases gs with
       |nil=>simp at hm|cons g' gs =>
         simp only[BlocksOf] at hb;simp only[yBq,yAm,Prod.mk.injEq] at hm;rcases hm with ⟨rfl,rfl⟩|hm;·exact hb.1
         ·exact ih gs hb.2 hm
    cases res with
    |inl out =>
      obtain ⟨⟨v,rfl,hv⟩,hl'⟩:=hx1;simp only[oc] at h;have Qj:∀b∈ls,∀g T cs,H[b]?=some (.box g T cs)->∃cs',w1.heap[g]?=some (.cells cs' T (0,0)):=by
       have:∀{ts:List TypeId}{lc:List U}{ls gs:List Nat}{c c':ElL S lc}{D D':Dat},zaL un D w ts lc c gs->zaL un D' w1 ts lc c' gs->BlocksOf H ls gs->∀b∈ls,∀g T cs,H[b]?=some (.box g T cs)->∃cs',w1.heap[g]?=some (.cells cs' T (0,0)):=by
        intro ts;induction ts with
        |nil =>intro lc ls gs c c' D D' k1 k2 k3 b hbm;cases lc<;>cases gs<;>cases ls<;>simp_all [zaL,BlocksOf]
        |cons T0 ts ih =>
          intro lc ls gs c c' D D' k1 k2 k3 b hbm g T cs hH;cases lc with
          |nil=>simp[zaL] at k1|cons u us =>
            cases gs with
            |nil=>simp[zaL] at k1|cons g0 gs =>
              cases ls with
              |nil=>cases hbm|cons b0 bs =>
                simp only[zaL] at k1 k2;simp only[BlocksOf] at k3;rcases yAm.1 hbm with rfl|hbm
                ·obtain ⟨⟨T1,cs1,k4⟩,k5⟩:=k3;rw[hH] at k4;cases k4;obtain ⟨⟨cs2,k6,_⟩,_⟩:=k1;obtain ⟨⟨cs3,k7,_⟩,_⟩:=k2;have:=(hs.Kr.res _ (yAb hH)).2;rw[k6] at this;simp at this;rw[<-this.2];exact ⟨_,k7⟩
                ·exact ih k1.2 k2.2 k3.2 b hbm g T cs hH
       exact this hl hl' hb
      have Kt:=hs.Kr.relist hb hg Qj;have K8:=ziM (w':=w1) ls H;refine hk _ _ _ h (Ky.refl _ _) (ziQ _ _ Va (λb T cs h=>⟨cs,h,rfl⟩) (Kk.refl _)) _ _ ⟨_,_,hs.step Kt ?_ (λi q hi=>?_) hd ?_,hD',hG.trans K2⟩
      ·refine Kj.of_get' (by rw[zgM,zdC];exact hs.Kg.length) ?_;refine zkI Kq.flat hl' (λb g hm r T cs hr hw=>?_) hlen2 (λi b r hi hgb hr=>?_)
       ·obtain ⟨T1,cs1,hH⟩:=hbl b g hm;rw[zbA,hH] at hr;have hbm:ls.contains b=true:=by simpa using (List.of_mem_zip hm).1
        simp only[yAg,yAJ,hbm,cond_true,yAf] at hr;subst hr;obtain ⟨cs',hc'⟩:=Qj b (List.of_mem_zip hm).1 g T1 cs1 hH;rw[hc'] at hw;cases hw;simp[zkG,hc']
       ·rw[K8];rw[zbA] at hr;have hbm:ls.contains i=false:=by simpa using hi
        obtain ⟨r0,hr1,hr2⟩:=hs.Kg.get hgb;rw[hr1] at hr;simp only[yAg,yAJ,hbm,cond_false,yAf] at hr;subst hr;exact hr2.mono K2 (zas hs.Kr.out Kt.out) λ_ _ h=>h
      ·rw[K8];exact (hs.slots i q hi).ge K2 λ_ _ h=>h
      ·exact hv.ge (Ge.refl _ _) λi x h=>by simp at h
    |inr p =>
      obtain ⟨rfl,hsl⟩:=hx1;simp only[oc] at h;have Qj:∀b∈ls,∀g T cs,H[b]?=some (.box g T cs)->∃cs',cs'.size=cs.length/\w1.heap[g]?=some (.cells cs' T (0,0)):=λb hbm g T cs hH=>by obtain ⟨g',hgm,T',cs',hH'⟩:=hb.mem' hbm;rw[hH] at hH';cases hH';obtain ⟨cs2,h1,h2⟩:=hsl g hgm T cs.toArray (hs.Kr.res _ (yAb hH)).2;exact ⟨cs2,by simpa using h1,h2⟩
      have Kt:=hs.Kr.relist hb hg λb hbm g T cs hH=>(Qj b hbm g T cs hH).imp λ_ h=>h.2;have K8:=ziM (w':=w1) ls H;refine hx _ _ _ h (Ky.refl _ _) (zfi _ _) _ _ ⟨_,_,⟨Kt,hs.size,hs.defers,?_,λi q hi=>?_⟩,hD',hG.trans K2⟩
      ·refine Kj.of_get' (by rw[zdF,zdC];exact hs.Kg.length) λi b r hgb hr=>?_;rw[K8];rw[zbA] at hr;rcases zgC ls bx i b hgb with ⟨h1,h2⟩|⟨h1,b0,h2,h3,_⟩
       ·have hbm:ls.contains i=false:=(by simpa using h1);obtain ⟨r0,hr1,hr2⟩:=hs.Kg.get h2;rw[hr1] at hr;simp only[yAg,yAJ,hbm,cond_false,yAf] at hr;subst hr;exact hr2.mono K2 (zas hs.Kr.out Kt.out) λ_ _ h=>h
       ·have hbm:ls.contains i=true:=(by simpa using h1);obtain ⟨T,cs,hv⟩:=zmP Va i h1;rw[h2] at hv;cases hv;obtain ⟨r0,hr1,hr2⟩:=hs.Kg.get h2;rw[hr1] at hr;simp only[yAg,yAJ,hbm,cond_true,yAf] at hr;subst hr;rw[h3 T cs rfl];cases r0 with
        |own=>simp[Kc] at hr2|wr=>simp[Kc] at hr2|nst=>simp[Kc] at hr2|grp=>simp[Kc] at hr2|fix =>obtain ⟨g',hgm,T',cs',hH'⟩:=hb.mem' h1;rw[hr1] at hH';cases hH'
        |ref=>simp[Kc] at hr2|box g T2 vs =>simp only[Kc] at hr2;obtain ⟨rfl,hl2⟩:=hr2;obtain ⟨cs',hc1,hc2⟩:=Qj i h1 g _ vs hr1;simp only[zkG,hc2,Kc];refine ⟨trivial,zrK ?_⟩;rw[hl2.length];simpa using hc1.symm
      ·rw[K8];exact (hs.slots i q hi).ge K2 λ_ _ h=>h
 ·cases h
end
end Pe
end
section
namespace Pe
open Go Go.RowKit
variable{S:Nat->Type}
section
variable{P:Program}{un:Uni S}{tb:Tb S}{orc:Orc S}{inl:Inl S}{E:Wl.Ctx}{D0:Dat}{N:Wl.Fr}{D D':Dat}{H:List Wl.Res}{e:Env S}{bx:Bxs S}{a:Act}{w w':World}{o:Oper}{R:Type}{r:R}
theorem zev(w:World)(t:TypeId)(v:Value):(newVar t v).run P w= .ok ⟨w.heap.size,0,none⟩ (w.alloc (.cells v.cells t)):=by simp[newVar,newRow]
theorem PartsRep.split{nu:Nu}:∀{l:List (Nat×PV S)}{pv:List (Nat×Value)},PartsRep un nu D w l pv->Ke un nu D w (l.map (·.2)) (pv.map (·.2))/\pv.map (·.1)=l.map (·.1)
 |[],[],_=>⟨by simp[Ke],rfl⟩|(i,p)::l,(j,v)::pv,h=>by simp only[PartsRep] at h;obtain ⟨rfl,h1,h2⟩:=h;obtain ⟨g1,g2⟩:=PartsRep.split h2;grind[Ke]
 |[],_::_,h=>by grind[PartsRep]
 |_::_,[],h=>by grind[PartsRep]
theorem zfp(Kq:Kx un)(hs:St un E N D H e bx a w){u:U}:∀{ps:List (PV S)}{vs:List Value}{xs:List (El S u)},zep un bx u ps=some xs->Ke un (ids H) D w ps vs ->
  xs.length=vs.length/\(∀v∈vs,v.cells.size=U.size un u)/\∀(i:Nat) x,xs[i]?=some x->DR un D w [u] (sg x) (((vs.map (·.cells.toList)).flatten.drop (i*U.size un u)).take (U.size un u))
 |[],[],xs,h,_=>by grind[zep]
 |p::ps,v::vs,xs,h,hr=>by
   simp only[Ke] at hr;unfold zep at h;split at h
   ·rename_i x l h1 h2;cases h;obtain ⟨g1,g2,g3⟩:=zfp Kq hs h2 hr.2;have hd:=(zbT Kq h1 (hs.fz Kq hr.1)).1;have hsz:v.cells.size=U.size un u:=by have:=hd.length Kq.flat;grind[zcF]
    refine ⟨by simp[g1],λy hy=>?_,λi y hi=>?_⟩
    ·rcases yAm.1 hy with rfl|hy;·exact hsz
     grind
    ·simp only[yAn,yBM];have hl:v.cells.toList.length=U.size un u:=by grind
     cases i with
     |zero =>simp_all|succ i =>have hi':l[i]?=some y:=(by grind);have:=g3 i y hi';rw[show (i+1)*U.size un u=v.cells.toList.length+i*U.size un u by rw[hl,yAz,yAQ,yB3],zcD];exact this
   ·cases h
 |[],_::_,_,_,hr=>by grind[Ke]
 |_::_,[],_,_,hr=>by grind[Ke]
theorem zfl{sz:Nat}:∀(vs:List Value),(∀v∈vs,v.cells.size=sz)->((vs.map (·.cells.toList)).flatten).length=vs.length*sz
 |[],_=>by simp
 |v::vs,h=>by simp only[yAn,yBM,yAI,yAw];rw[zfl vs λy hy=>h y (by simp[hy]),yAz,yAQ];grind
theorem zeS{T:TypeId}{u:U}{t:TypeId}(hu:P.underlying t=some (.slice T))(hT:ElOk P un T u){n:Nat}{pv:List (Nat×Value)}{l:List (Nat×PV S)}(ho:zel 0 l=true)(hm:pv.map (·.1)=l.map (·.1))(hn:pv.length=n)(hsz:∀p∈pv,p.2.cells.size=U.size un u)(hlim:n*U.size un u<=16777216)(w:World) :
  (Instr.buildSlice t n pv.toArray).run P w= .ok (.slice (some ⟨w.heap.size,0,none⟩) n n) (w.alloc (.cells ((pv.map (·.2)).map (·.cells.toList)).flatten.toArray T)):=by
 obtain ⟨j,z,e1,e2,e3,e4,e5,e6⟩:=hT.info;have hlim':¬(16777216<n*U.size un u):=by omega
 have key:∀A:Array Value,A.size=n*U.size un u->Instr.fill (λi=>some (i*U.size un u,U.size un u)) A pv=some ((pv.map (·.2)).map (·.cells.toList)).flatten.toArray:=by intro A hA;have:=zmw (S:=S) pv 0 A.toList l ho hm hsz (by simp[hn,hA]);rw[show A=A.toList.toArray by simp,this];rw[yBI,yB2,yBb,yAJ,hn];rw[yBm (by simp[hA]),yAR,List.map_map];rfl
 by_cases h0:n*U.size un u=0;·have hk:=key ((Array.range (n*U.size un u)).map λx=>(#[]:Array Value)[x % (#[]:Array Value).size]!) (by simp);simp only[Instr.buildSlice,Sem.run_bind,run_underlying hu,Go.sizeOf,typeInfo];simp[e1,e3,h0,newRow];simp_all
 ·have hk:=key ((Array.range (n*U.size un u)).map λx=>z.cells[x % z.cells.size]!) (by simp);simp only[Instr.buildSlice,Sem.run_bind,run_underlying hu,Go.sizeOf,typeInfo];simp[e1,e3,hlim',h0,newRow,zeroValue,typeInfo,e2];rw[hk];simp
theorem zkb(Kq:Kx un){T:TypeId}{u:U}{t:TypeId}(hu:P.underlying t=some (.slice T))(hT:ElOk P un T u){n:Nat}{parts:List (Nat×Operand)}{l:List (Nat×PV S)}{xs:List (El S u)}(hs:St un E N D H e bx a w)(hp:zck e parts=some l)(ho:zel 0 l=true)(hln:l.length=n)(hlim:n*U.size un u<=16777216)
  (hx:zep un bx u (l.map (·.2))=some xs) (hD:∀k o,D k o->D0 k o\/E.may k) (hG:Ge D0 E.w D w) {dst:Option Nat} (hd:∀d,dst=some d->d<N.n) :
  ∃v' w',(Instr.buildSlice t n (parts.map λp=>(p.1,a.eval p.2)).toArray).run P w= .ok v' w'/\Holds un E D0 N (push dst (.row bx.length) e) (bx++[.own u T xs]) (a.put dst v') w':=by
 obtain ⟨hr,hm⟩:=(hs.parts hp).split;obtain ⟨g1,g2,g3⟩:=zfp Kq hs hx hr;have hpl:(parts.map λp=>(p.1,a.eval p.2)).length=n:=by have:=congrArg List.length hm;simpa[hln] using this
 have Kw:=zeS (P:=P) (un:=un) hu hT ho hm hpl (λp hp=>g2 _ (yBw.2 ⟨p,hp,rfl⟩)) hlim w;refine ⟨_,_,Kw,?_⟩;obtain ⟨j,z,e1,e2,e3,e4,e5,e6⟩:=hT.info;have hxn:xs.length=n:=by rw[g1];simpa using hpl
 have hfl:(((parts.map λp=>(p.1,a.eval p.2)).map (·.2)).map (·.cells.toList)).flatten.length=n*U.size un u:=by rw[zfl _ g2];congr 1;simpa using hpl
 have hb:Below w.heap.size w (w.alloc (.cells (((parts.map λp=>(p.1,a.eval p.2)).map (·.2)).map (·.cells.toList)).flatten.toArray T)):=(Below.refl _ _).alloc (yAi _) _;have hnm:n<=maxLen:=by have:n*1<=n*U.size un u:=Nat.mul_le_mul_left _ e5;unfold maxLen;omega
 have K5:(w.alloc (.cells (((parts.map λp=>(p.1,a.eval p.2)).map (·.2)).map (·.cells.toList)).flatten.toArray T)).ownsRow 0 T (U.size un u) (.slice (some ⟨w.heap.size,0,none⟩) n n) n (((parts.map λp=>(p.1,a.eval p.2)).map (·.2)).map (·.cells.toList)).flatten:=by refine ⟨hfl,.inr ⟨w.heap.size,n,_,rfl,yAA _,heap_alloc_new w _,yAi _,hnm,by simpa using hfl,?_⟩⟩;rw[yA7 (by simpa using Nat.le_of_eq hfl)]
 have Kt:In E (zkK D (.slice (some ⟨w.heap.size,0,none⟩) n n) (n*U.size un u)) (H++[.own (.slice (some ⟨w.heap.size,0,none⟩) n n) T (U.size un u) n (((parts.map λp=>(p.1,a.eval p.2)).map (·.2)).map (·.cells.toList)).flatten]) (w.alloc (.cells (((parts.map λp=>(p.1,a.eval p.2)).map (·.2)).map (·.cells.toList)).flatten.toArray T)):=by
  refine hs.Kr.push hb ⟨(Wl.rowAt_of K5).1,λg hg=>by simp[Value.ownBlock] at hg;subst hg;exact .inl hs.Kr.out.size⟩ (λg hg=>by simp[Wl.Res.has,Value.ownBlock] at hg;omega) (λk o hk=>?_) (λk o hk=>?_) (λg hg o hf hd=>?_)
  ·rcases hk with hk|hk;·exact .inl hk
   ·exact .inr ⟨hk.1,by simp only[zki,Wl.offV];omega⟩
  ·rcases hk with hk|hk;·exact yAq (hs.Kr.lt k o hk) hb.size
   ·exact (World.ownsRow.lt K5 k hk.1).2
  ·simp[Wl.Res.has,Value.ownBlock] at hg;simp only[zki,Wl.offV] at hf;rcases hd with hd|hd;·have:=hs.Kr.lt g o hd;omega
   ·omega
 have K2:Ge D w (zkK D (.slice (some ⟨w.heap.size,0,none⟩) n n) (n*U.size un u)) (w.alloc (.cells (((parts.map λp=>(p.1,a.eval p.2)).map (·.2)).map (·.cells.toList)).flatten.toArray T)):=(.of (λ_ _ h=>.inl h) λk o hk=>hb.block k (hs.Kr.lt k o hk));refine ⟨_,_,hs.step Kt ?_ (λi q hi=>(hs.slots i q hi).ge K2 (zbt H _)) hd ?_,zhb hD (λg hg=>by simp[Value.ownBlock] at hg;subst hg;exact .inl hs.Kr.out.size),hG.trans K2⟩;·refine (hs.Kg.mono K2 (zas hs.Kr.out Kt.out) (zbt H _)).push ?_;simp only[Kc];exact ⟨trivial,trivial,hxn.symm,λg hg o ho=>.inr ⟨hg,by simp only[Wl.offV] at ho;omega⟩,λi x hi=>(g3 i x hi).mono K2⟩
 ·simp only[Rep];refine ⟨?_,rfl,rfl⟩;rw[hs.Kg.length,zdG];rfl
theorem zd8(g:Nat)(T:TypeId):∀(vs cs:List Value)(off:Nat)(w:World),w.heap[g]?=some (.cells cs.toArray T (0,0)) ->
  (w.setCells g off vs).heap[g]?=some (.cells (zaV.spliceV cs off vs).toArray T (0,0))/\w.grownBy (w.setCells g off vs) (some g)
 |[],cs,off,w,h=>⟨h,World.grownBy.refl w _⟩|v::r,cs,off,w,h=>by
   have h1:(w.setCell ⟨g,off,none⟩ v).heap[g]?=some (.cells (cs.set off v).toArray T (0,0)):=(by simp[World.setCell,yB1,h])
   have h2:w.grownBy (w.setCell ⟨g,off,none⟩ v) (some g) :=
    ⟨rfl,rfl,rfl,by simp[World.setCell],λk _ hne=>Below.heap_setCell w _ v k λe=>hne (by rw[e])⟩
   obtain ⟨i1,i2⟩:=zd8 g T r (cs.set off v) (off+1) _ h1;refine ⟨i1,⟨i2.os.trans h2.os,i2.tape.trans h2.tape,i2.output.trans h2.output,yAo h2.size i2.size,λk hk hne=>(i2.block k (yAq hk h2.size) hne).trans (h2.block k hk hne)⟩⟩
theorem zp6(Kq:Kx un){t:TypeId}{row:TyRow S}(Kp:RowOk P un t row){b off:Nat}{T:TypeId}{cs:List (PV S)}{p:PV S}{v x:Value}(hs:St un E N D H e bx a w)(hg:zam bx b=some (.var T cs))(hx:Rep un (ids H) D w (.ptr b off) x)(hv:Rep un (ids H) D w p v)
  (h1:(p.cells un).all PV.one=true) (h2:(p.cells un).length=row.n) (h3:off+row.n<=cs.length) {dst:Option Nat} (hd:∀d,dst=some d->d<N.n) :
  ∃w' H',(Instr.storeAt t x v).run P w= .ok () w'/\St un E N D H' (push dst zaS e) (zbe bx b (.var T (splice cs off (p.cells un)))) (a.put dst undef) w'/\Ge D w D w'/\ids H'=ids H:=by
 obtain ⟨r,hr1,hr2⟩:=hs.Kg.get hg;have hh:=hs.Kr.res _ (yAb hr1);cases r with
 |own=>simp[Kc] at hr2|ref=>simp[Kc] at hr2|wr=>simp[Kc] at hr2|nst=>simp[Kc] at hr2|grp=>simp[Kc] at hr2|fix v0 g size ob =>simp only[Rep,ids,yAh,hr1,yAg,zal,yAf,Prod.mk.injEq,true_and] at hx;obtain ⟨g',hg',rfl⟩:=hx;subst hg';exact absurd hh.1 (zcQ _)
 |box g T' vs =>
   simp only[Kc] at hr2;obtain ⟨rfl,hl⟩:=hr2;simp only[Rep,ids,yAh,hr1,yAg,zal,yAf,Prod.mk.injEq,true_and] at hx;obtain ⟨g',hg',rfl⟩:=hx;simp at hg';subst hg';obtain ⟨c1,c2⟩:=zf2 Kq.flat h1 hv;have hcl:=c1.length;have hvl:=hl.length;have hvs:v.cells.size=row.n:=by rw[<-h2,hcl];simp
   obtain ⟨k1,k2⟩:=zd8 g T' v.cells.toList vs off w hh.2;have Kw:(Instr.storeAt t (.pointer (some ⟨g,off,none⟩)) v).run P w= .ok () (w.setCells g off v.cells.toList):=by have:=run_storeAt_mid (P:=P) w g off t v.cells (λj hj=>⟨by rw[cell_of_row w g _ _ _ _ hh.2];simp;omega,by simp[World.frozen?,hh.2]⟩) (by rw[Kp.size,hvs]) (by rw[Array.all_eq_true];intro i hi;exact c2 _ (by simp));rw[<-this];rfl
   have Kt:In E D (H.set b (.box g T' (zaV.spliceV vs off v.cells.toList))) (w.setCells g off v.cells.toList):=(by refine hs.Kr.turn hr1 k2 ⟨hh.1,k1⟩ (λ_ hk=>.inl hk) (λk o hk=>.inl hk) (λk o hk=>yAq (hs.Kr.lt k o hk) k2.size) (λg2 hg2 o _ hk=>?_) (λ_=>⟨rfl,rfl,.inl rfl⟩);exact hs.Kr.apart _ (yAb hr1) g2 hg2 o trivial hk);have K2:Ge D w D (w.setCells g off v.cells.toList):= .of (λ_ _ h=>h) λk o hk=>by refine k2.block k (hs.Kr.lt k o hk) λh=>?_;simp at h;subst h;exact hs.Kr.apart _ (yAb hr1) k rfl o trivial hk
   have K8:ids (H.set b (.box g T' (zaV.spliceV vs off v.cells.toList)))=ids H:=zaw hr1 rfl;refine ⟨_,_,Kw,hs.step Kt ?_ (λi q hi=>?_) hd ?_,K2,K8⟩;·rw[K8];refine (hs.Kg.mono K2 (zas hs.Kr.out Kt.out) λ_ _ h=>h).set ?_;simp only[Kc];exact ⟨trivial,(hl.splice off c1).ge K2 λ_ _ h=>h⟩
   ·rw[K8];exact (hs.slots i q hi).ge K2 λ_ _ h=>h
   ·simp only[zaS,Rep];exact ⟨[],rfl,by simp[Ke]⟩
theorem zlc{nu:Nu}:∀{ps:List (PV S)}{vs cs:List Value},zcu ps=some vs->Ke un nu D w ps cs->cs=vs
 |[],vs,cs,h,hr=>by simp only[zcu] at h;grind[Ke]
 | .int k n::ps,vs,[],h,hr=>by grind[Ke]
 | .int k n::ps,vs,c::cs,h,hr=>by
   simp only[zcu] at h;split at h;·rename_i l hl;cases h;simp only[Ke,Rep] at hr;rw[hr.1,zlc hl hr.2]
   ·cases h
 | .bool _::_,_,_,h,_=>by grind[zcu]
 | .str _::_,_,_,h,_=>by grind[zcu]
 | .sl _ _::_,_,_,h,_=>by grind[zcu]
 | .nils::_,_,_,h,_=>by grind[zcu]
 | .st _ _::_,_,_,h,_=>by grind[zcu]
 | .agg _::_,_,_,h,_=>by grind[zcu]
 | .tup _::_,_,_,h,_=>by grind[zcu]
 | .elp _ _ _::_,_,_,h,_=>by grind[zcu]
 | .ptr _ _::_,_,_,h,_=>by grind[zcu]
 | .nilp::_,_,_,h,_=>by grind[zcu]
 | .row _::_,_,_,h,_=>by grind[zcu]
 | .func _ _ _::_,_,_,h,_=>by grind[zcu]
 | .nilFunc::_,_,_,h,_=>by grind[zcu]
 | .iface _ _::_,_,_,h,_=>by grind[zcu]
 | .nilIface::_,_,_,h,_=>by grind[zcu]
 | .junk::_,_,_,h,_=>by grind[zcu]
 | .ref _::_,_,_,h,_=>by grind[zcu]
 | .elr _ _ _ _::_,_,_,h,_=>by grind[zcu]
 | .cont _ _::_,_,_,h,_=>by grind[zcu]
theorem Ge.same(h:In E D H w)(hb:Below w.heap.size w w'):Ge D w D w':=.of (λ_ _ h=>h) λk o hk=>hb.block k (h.lt k o hk)
theorem Ge.alloc(h:In E D H w)(ob:Obj):Ge D w D (w.alloc ob):=Ge.same h ((Below.refl _ _).alloc (yAi _) _)
theorem zqo(Kq:Kx un)(ht:Qc P un tb)(hor:K4 P un orc)(Kt:Qe P un inl){K:PV S->Env S->Bxs S->Option R}{KX:Exit->Env S->Bxs S->Option R}(h:zc8 un tb orc inl o e bx K KX=some r)(hd:∀d,o.dst=some d->d<N.n)(hs:Holds un E D0 N e bx a w)
  {next:Act->World->Prop} {Q:Exit->Act->World->Prop} (hk:∀p e' bx',K p e' bx'=some r->Ky [] e e'->Kk bx bx'->∀a' w',Holds un E D0 N (push o.dst p e') bx' a' w'->next a' w')
  (hx:∀x e' bx',KX x e' bx'=some r->Ky [] e e'->Kk bx bx'->∀a' w',Holds un E D0 N e' bx' a' w'->Q x a' w'):o.wp P a w next Q:=by
 have quiet:zhf un tb orc inl o e bx (λp=>K p e bx)=some r->o.wp P a w next Q:=λh=>by obtain ⟨p,h1,h2⟩:=zez Kq ht hor Kt h;grind[zb4,Ky.refl,Kk.refl]
 unfold zc8 at h;split at h
 ·-- alloc
  rename_i T ho;split at h
  ·rename_i row Kp;obtain ⟨D,H,hs,hD,hG⟩:=hs;obtain ⟨z,g1,g2,g3⟩:=(ht.ty T row Kp).zero;obtain ⟨H',h2⟩:=hs.newBox T (cs:=row.zero) (vs:=z.cells.toList) (by grind[zex]) hd;unfold Oper.wp;cases hi:P.info? T with
   |none=>grind|some i =>
     rw[hi] at g1;simp only[yAB] at g1;have:(execOp a.eval o).run P w= .ok (.value (.pointer (some ⟨w.heap.size,0,none⟩))) (w.alloc (.cells z.cells T)):=by simp_all[execOp,Instr.alloc,zeroValue,typeInfo,zev]
     rw[this];exact hk _ _ _ h (Ky.refl _ _) (Kk.append _ _) _ _ ⟨D,H',by simp_all,hD,hG.trans (by simpa using Ge.alloc hs.Kr _)⟩
  ·cases h
 ·-- box
  rename_i T x ho;split at h
  ·rename_i p row hx Kp;obtain ⟨h1,h2⟩:=zae h;simp only[yAd] at h1;obtain ⟨D,H,hs,hD,hG⟩:=hs;obtain ⟨c1,c2⟩:=zf2 Kq.flat h1.1 (hs.ev hx);obtain ⟨H',h3⟩:=hs.newBox T c1 hd;unfold Oper.wp;have:(execOp a.eval o).run P w= .ok (.value (.pointer (some ⟨w.heap.size,0,none⟩))) (w.alloc (.cells (a.eval x).cells T)):=by
    simp[execOp,ho,Instr.box,zev]
   rw[this];exact hk _ _ _ h2 (Ky.refl _ _) (Kk.append _ _) _ _ ⟨D,H',by simp_all,hD,hG.trans (by simpa using Ge.alloc hs.Kr _)⟩
  ·cases h
 ·-- store
  rename_i t x y ho;split at h
  ·rename_i b off p row hx hy Kp;split at h
   ·rename_i T cs hg;obtain ⟨h1,h2⟩:=zae h;simp only[yAd,yAK] at h1;obtain ⟨D,H,hs,hD,hG⟩:=hs;obtain ⟨w',H',Kw,hst,K2,_⟩:=zp6 (P:=P) Kq (ht.ty t row Kp) hs hg (hs.ev hx) (hs.ev hy) h1.1.1 (yAa h1.1.2) h1.2 hd;unfold Oper.wp;have:(execOp a.eval o).run P w= .ok .skip w':=by simp_all[execOp]
    rw[this];exact hk _ _ _ h2 (Ky.refl _ _) (Kk.set hg rfl λT' cs' he=>by simp_all[zfu]) _ _ ⟨D,H',hst,hD,hG.trans K2⟩
   ·cases h
  ·cases h
 ·-- buildSlice
  rename_i t n parts ho;split at h
  ·rename_i l T u hp K9;cases Kp:tb.ty.get t with
   |none=>grind|some row =>
     rw[Kp] at K9;simp only[yAB] at K9;have hrw:=ht.ty t row Kp;obtain ⟨T',u',g1,g2,g3⟩:=hrw.slice (hrw.elem T u K9);rw[K9] at g1;simp at g1;obtain ⟨rfl,rfl⟩:=g1;obtain ⟨h1,h2⟩:=zae h;simp only[yAd,yAK] at h1;split at h2
     ·rename_i xs hxs;obtain ⟨D,H,hs,hD,hG⟩:=hs;obtain ⟨v',w',Kw,hst⟩:=zkb (P:=P) Kq g2 g3 hs hp h1.1.2 (yAa h1.1.1) h1.2 hxs hD hG hd;unfold Oper.wp;have hmap:(parts.map λ(x:Nat×Operand)=>match x with|(i,x)=>(i,a.eval x))=(parts.toList.map λp=>(p.1,a.eval p.2)).toArray:=by grind
      have:(execOp a.eval o).run P w= .ok (.value v') w':=by simp_all[execOp]
      rw[this];exact hk _ _ _ h2 (Ky.refl _ _) (Kk.append _ _) _ _ hst
     ·cases h2
  ·cases h
 ·-- call
  rename_i c ho;split at h
  ·-- append
   rename_i hc;split at h
   ·rename_i s x t Qb htw;split at h;·cases h
    ·rename_i T u K9;cases Kp:tb.ty.get t with
     |none=>grind|some row =>
       rw[Kp] at K9;simp only[yAB] at K9;have hrw:=ht.ty t row Kp;obtain ⟨T',u',g1,g2,g3⟩:=hrw.slice (hrw.elem T u K9);rw[K9] at g1;simp at g1;obtain ⟨rfl,rfl⟩:=g1;split at h
       ·rename_i new hnew;obtain ⟨D,H,hs,hD,hG⟩:=hs;obtain ⟨args,hca⟩:∃args:List Operand,c.args=⟨args⟩:=⟨c.args.toList,by grind⟩;have hr:=hs.evs Qb;rw[hca] at hr;have Qu:c.argTypes= #[t,t]:=by
         obtain ⟨tl,htl⟩:∃l:List Nat,c.argTypes=⟨l⟩:=⟨c.argTypes.toList,by grind⟩;rw[htl] at htw ⊢;rcases tl with _|⟨x1,_|⟨x2,_|⟨x3,_⟩⟩⟩<;>simp[twice] at htw;obtain ⟨q1,q2⟩:=zae htw;simp_all
        rcases args with _|⟨s0,_|⟨x0,_|⟨_,_⟩⟩⟩<;>simp only[yAn,List.map_nil,Ke,and_true,and_false] at hr;have hx:Rep un (ids H) D w (.sl u new) (a.eval x0):=by have:=(zbT Kq (un:=un) hnew (hs.fz1 Kq hr.2)).2;simp_all[inj]
        have hrunE:∀v' w',(Builtin.append_ #[t,t] o.type #[a.eval s0,a.eval x0]).run P w= .ok v' w'->(execOp a.eval o).run P w= .ok (.value v') w':=(by intro v' w' Kw;simp[execOp,ho,resolve,hc,hca,Qu,invoke,builtin,Kw]);split at h
        ·-- nil
         have hs0:=hr.1;simp only[Rep] at hs0;obtain ⟨l,h1,h2⟩:=zay h;obtain ⟨h3,rfl⟩:=zch h1;obtain ⟨v',w',Kw,hst⟩:=zmj (P:=P) (ty:=o.type) Kq g2 g3 hs hx (by simpa using h3) hD hG hd;rw[<-hs0] at Kw;unfold Oper.wp;rw[hrunE v' w' Kw];exact hk _ _ _ h2 (Ky.refl _ _) (Kk.append _ _) _ _ hst
        ·rename_i b;split at h
         ·rename_i v0 T' old hg;split at h;·rename_i heq _;subst heq;obtain ⟨h1,h2⟩:=zae h;have hTT:=yAa h1;subst hTT;obtain ⟨l,h3,h4⟩:=zay h2;obtain ⟨h5,rfl⟩:=zch h3;obtain ⟨v',w',Kw,hst⟩:=zoe (P:=P) (ty:=o.type) Kq g2 g3 hs hg hr.1 hx h5 hD hG hd;unfold Oper.wp;rw[hrunE v' w' Kw];exact hk _ _ _ h4 (Ky.kill _ _ _) ((Kk.kill b _ bx).trans (Kk.set (b:=Box.own _ _ _) (by rw[za8,hg];rfl) rfl λT' cs' he=>by cases he)) _ _ hst
          ·cases h
         ·cases h
        ·cases h
       ·cases h
   ·cases h
  ·-- a call
   split at h
   ·rename_i f l hen;split at h;·rename_i us ts lc rs ps pan hsig;exact zrd Kq hen ho (ht.eff f us ts lc rs ps pan hsig) (zfJ _ _).1 (zjL _ _) h (λt ht D H a w gs hs hb vs hr=>zij Kq hs hb ht hr) (λt c r hr=>hor.e f t ts lc c rs ps pan r hr) hd hs hk hx
    ·rename_i fn an ts lc rs ps pan hsig;obtain ⟨hfn,hen2⟩:=ht.effI f fn an ts lc rs ps pan hsig;exact zrd Kq hen ho hen2 (zfJ _ _).1 (zjL _ _) h (λt ht D H a w gs hs hb vs hr=>zfB Kq hs hb _ _ _ ht hr) (λt c r hr=>Kt.e fn an t ts lc c rs ps pan r f hr hfn) hd hs hk hx
    ·exact quiet h
   ·cases h
  grind
 ·-- panic
  rename_i x ho;split at h
  ·rename_i T l hxx;split at h
   ·rename_i vs hvs;obtain ⟨D,H,hs,hD,hG⟩:=hs;have h1:=hs.ev hxx;simp only[Rep] at h1;obtain ⟨y,h2,cs,h3,h4⟩:=h1;have hcs:cs=vs:=zlc hvs h4;subst hcs;unfold Oper.wp;have:(execOp a.eval o).run P w= .halt (.panic (.iface T (.agg cs.toArray))) w:=by simp[execOp,ho,h2,h3,Instr.panic,goPanic]
    rw[this];exact hx _ _ _ h (Ky.refl _ _) (Kk.refl _) _ _ ⟨D,H,hs,hD,hG⟩
   ·cases h
  ·cases h
 grind
end
end Pe
end
section
namespace Pe
open Go Go.RowKit
variable{S:Nat->Type}
section
variable{P:Program}{un:Uni S}{E E':Wl.Ctx}{D0:Dat}{N:Wl.Fr}{D D':Dat}{H:List Wl.Res}{e:Env S}{bx:Bxs S}{a:Act}{w w':World}
theorem zhu(hs:St un E N D H e bx a w):∀{l:List (Nat×CTy)}{ps:List (PV S)},zgh e l=some ps->Ke un (ids H) D w ps (l.map λp=>a.tmps.getD p.1 undef)
 |[],ps,h=>by grind[zgh,Ke]
 |(i,t)::l,ps,h=>by
   unfold zgh at h;split at h;·rename_i p ps' h1 h2;cases h;simp only[yAn,Ke];exact ⟨hs.slots i p h1,zhu hs h2⟩
   ·cases h
def zji:Wl.Res->List Value| .box _ _ vs=>vs| .fix v _ size ob=>[Wl.fixV v size ob]|_=>[]
def zbz(H:List Wl.Res)(i:Nat):List Value:=match H[i]? with
 |some r=>zji r|none=>[]
def zcd(H:List Wl.Res):List (Nat×List CTy)->List Value|[]=>[]|(i,_)::r=>zbz H i++zcd H r
theorem zf6{nu:Nu}{T:TypeId}{cs:List (PV S)}{r:Wl.Res}(h:Kc un nu D w E false (.var T cs) r):zax r=true/\Ke un nu D w cs (zji r)/\∀g T' vs,r= .box g T' vs->T'=T:=by
 cases r with
 |box g T' vs=>simp only[Kc] at h;exact ⟨rfl,h.2,λ_ _ _ he=>by simp_all⟩|fix v g size ob=>simp only[Kc] at h;exact ⟨rfl,h,λ_ _ _ he=>by cases he⟩|_=>grind[Kc]
theorem ziN{nu nu':Nu}{T:TypeId}{cs cs':List (PV S)}{r:Wl.Res}(h:Kc un nu D w E false (.var T cs) r)(h':Ke un nu' D' w' cs' (zji r)):Kc un nu' D' w' E' false (.var T cs') r:=by
 cases r with
 |box g T' vs=>simp only[Kc] at h ⊢;exact ⟨h.1,h'⟩|fix v g size ob=>simp only[Kc];exact h'|_=>grind[Kc]
theorem zbp{nu:Nu}(hb:Kj un nu D w E bx H){i:Nat}{T:TypeId}{cs:List (PV S)}(h:zam bx i=some (.var T cs)):∃r,H[i]?=some r/\zax r=true/\zbz H i=zji r/\Ke un nu D w cs (zji r)/\Kc un nu D w E false (.var T cs) r:=by grind[Kj.get,zf6,zbz]
theorem zet{nu:Nu}(hb:Kj un nu D w E bx H):∀{l:List (Nat×List CTy)}{ps:List (PV S)},zcB bx l=some ps->Ke un nu D w ps (zcd H l)/\∀i ts,(i,ts)∈l->(∃T cs,zam bx i=some (.var T cs))/\(zbz H i).length=ts.length
 |[],ps,h=>by grind[zcB,Ke,zcd]
 |(i,ts)::l,ps,h=>by
   unfold zcB at h;split at h
   ·rename_i T cs ps' h1 h2;obtain ⟨h3,h4⟩:=zae h;cases h4;obtain ⟨r,g1,_,g2,g3,_⟩:=zbp hb h1;obtain ⟨g4,g5⟩:=zet hb h2;refine ⟨by grind[zcd,Ke.append],λj ts' hj=>?_⟩;rcases yAm.1 hj with hj|hj
    ·cases hj;exact ⟨⟨T,cs,h1⟩,by rw[g2,<-g3.length];exact yAa h3⟩
    grind
   ·cases h
def zdW:Box S->Bool| .own _ _ _=>true| .wr _ _ _=>true| .nst _ _ _ _ _=>true| .grp _ _ _ _=>true|_=>false
def zmW:Wl.Res->Bool| .own _ _ _ _ _=>true| .wr _ _ _ _ _=>true| .nst _ _ _ _ _ _ _=>true| .grp _ _ _ _ _ _=>true|_=>false
def zde(H:List Wl.Res):List (Option Nat)->List Wl.Res->Prop|[],[]=>True|some b::bs,r::rs=>zmW r=true/\H[b]?=some r/\zde H bs rs|none::bs,r::rs=>(∃T size,r= .own (.slice none 0 0) T size 0 []\/r= .wr (.slice none 0 0) T size 0 [])/\zde H bs rs|_,_=>False
theorem zdv{t:CTy}{ts:List CTy}{p:PV S}{ps:List (PV S)}{x:ElL S ((t::ts).map CTy.code)}(h:zn7 un bx (t::ts) (p::ps)=some x):∃(y:El S t.code) (t':ElL S (ts.map CTy.code)),Pe.cast un t.code (fzC bx t p)=some y/\zn7 un bx ts ps=some t'/\x=(y,t'):=by
 unfold zn7 at h;split at h;·rename_i x t' h1 h2;cases h;exact ⟨x,t',h1,h2,rfl⟩
 ·cases h
theorem zoB{b:Nat}{v:Value}{r:Wl.Res}(hr1:H[b]?=some r)(hv:Rep un (ids H) D w (.row b) v):zal r=(false,v)/\v.oneCell'=true/\v.cells= #[v]:=by simp_all[Rep]
theorem zdI:∀u:U,U.eq? u u=some ⟨rfl⟩
 | .int k=>by cases k<;>rfl
 | .bool=>rfl| .str=>rfl| .sl u=>by simp only[U.eq?,zdI u]
 | .st n=>by grind[U.eq?,zfL]
 | .mp k v=>by simp only[U.eq?,zdI k,zdI v]
 | .rw u=>by simp only[U.eq?,zdI u]
 | .cs u=>by simp only[U.eq?,zdI u]
theorem zpy(u:U)(x:El S u):Pe.cast un u (inj u x)=some x:=by
 cases u with
 |st n=>simp_all[inj,cast,zfL]|int k=>cases k<;>rfl|bool=>rfl|str=>rfl|sl u=>simp_all[inj,cast,cast0,zdI]|mp k v=>simp_all[inj,cast,cast0,zdI]|rw u=>simp_all[inj,cast,cast0,zdI]|cs u=>simp_all[inj,cast,cast0,zdI]
theorem zcc(Kq:Kx un)(hs:St un E N D H e bx a w):∀(ts:List CTy)(ps:List (PV S))(vs:List Value)(zhy:List Nat)(t:ElL S (ts.map CTy.code))(n:Nat),zaI bx ts ps zhy=true->zn7 un bx ts ps=some t->Ke un (ids H) D w ps vs ->
  ∃(bs:List (Option Nat)) (rs:List Wl.Res),zde H bs rs/\(∀b,some b∈bs->b∉zhy/\∃x,zam bx b=some x/\zdW x=true)/\(bs.filterMap id).Nodup/\(∀(nu':Nu)(E':Wl.Ctx),Kj un nu' D w E' (zbo ts t) rs) /\
   (∀nu':Nu,(∀i r,rs[i]?=some r->nu'[n+i]?=some (zal r))->Ke un nu' D w (zcI ts t n) vs)/\zcC bx ts ps=(bs.filterMap id).map λb=>(b,match zam bx b with|some (.own _ _ _)=>Pe.fz1 bx (.row b)|_=>.junk)
 |[],[],[],_,_,_,_,_,_=>⟨[],[],by simp[zde],by simp,by simp,λnu' E'=>by simp[zbo,Kj],λnu' _=>by simp[zcI,Ke],rfl⟩| .fr u::ts,p::ps,v::vs,zhy,t,n,ho,hc,hr=>by simp only[Ke] at hr;simp only[zaI] at ho;obtain ⟨x,t',h1,h2,rfl⟩:=zdv (t:= .fr u) (ts:=ts) hc;have h1:Pe.cast un u (Pe.fz bx p)=some x:=h1;obtain ⟨bs,rs,g1,g2,g3,g4,g5,g6⟩:=zcc Kq hs ts ps vs zhy t' n ho h2 hr.2;refine ⟨bs,rs,g1,g2,g3,g4,λnu' hn=>?_,by simpa only[zcC] using g6⟩;simp only[zcI,Ke];exact ⟨zdg (zbT Kq h1 (hs.fz Kq hr.1)).2,g5 nu' hn⟩
 | .own u T::ts,p::ps,v::vs,zhy,t,n,ho,hc,hr=>by
   simp only[Ke] at hr;obtain ⟨x,t',h1,h2,rfl⟩:=zdv (t:= .own u T) (ts:=ts) hc;have h1:Pe.cast un (.sl u) (Pe.fz bx p)=some x:=h1;cases p with
   |row b =>
     simp only[zaI,yAd,yA4] at ho;obtain ⟨⟨o1,o2⟩,o3⟩:=ho;cases hg:zam bx b with
     |none=>rw[hg] at o1;simp at o1|some box =>
       rw[hg] at o1;cases box with
       |own u0 T0 l0 =>
         simp only at o1;have hT:T=T0:=yAa o1;subst hT;obtain ⟨r,hr1,hr2⟩:=hs.Kg.get hg;have hu:u0=u/\HEq l0 x:=by
          have h1':=h1;simp only[Pe.fz,Pe.fz1,hg,yAg,Box.base,Pe.cast,Pe.cast0] at h1';split at h1';·rename_i heq _;subst heq;cases h1';exact ⟨rfl,HEq.rfl⟩
          ·cases h1'
         obtain ⟨rfl,hl⟩:=hu;have hl:=eq_of_heq hl;subst hl;cases r with
         |own v0 T' size m xs =>
           obtain ⟨bs,rs,g1,g2,g3,g4,g5,g6⟩:=zcc Kq hs ts ps vs (b::zhy) t' (n+1) o3 h2 hr.2;obtain ⟨hv0,hvv⟩:=zoB hr1 hr.1;simp only[zal,Prod.mk.injEq,true_and] at hv0;refine ⟨some b::bs,.own v0 T' size m xs::rs,?_,?_,?_,λnu' E'=>?_,λnu' hn=>?_,?_⟩;·simp only[zde];exact ⟨rfl,hr1,g1⟩
           ·intro b' hb';rcases yAm.1 hb' with hb' | hb';·cases hb';exact ⟨by simpa using o2,_,hg,rfl⟩
            ·obtain ⟨k1,k2⟩:=g2 b' hb';exact ⟨λhk=>k1 (by simp[hk]),k2⟩
           ·simp only[yAC,id];refine yA2.2 ⟨λhk=>?_,g3⟩;obtain ⟨y,hy,hyb⟩:=yA8.1 hk;simp only[id] at hyb;subst hyb;exact (g2 b hy).1 (by simp)
           ·simp only[zbo,Kj];refine ⟨?_,g4 nu' E'⟩;simp only[Kc] at hr2 ⊢;exact hr2
           ·simp only[zcI,Ke,Rep];refine ⟨⟨?_,hvv⟩,g5 nu' λi r hi=>?_⟩;·have:=hn 0 _ rfl;simp[zal] at this;rw[this,hv0]
            ·have:=hn (i+1) r (by simpa using hi);rwa[show n+(i+1)=n+1+i by omega] at this
           ·simp only[zcC,yAC,id,yAn,hg];rw[g6]
         |_=>simp[Kc] at hr2
       |_=>simp at o1
   |nils =>
     simp only[zaI] at ho;obtain ⟨bs,rs,g1,g2,g3,g4,g5,g6⟩:=zcc Kq hs ts ps vs zhy t' (n+1) ho h2 hr.2;have hv:=hr.1;simp only[Rep] at hv;have hx0:x=([]:List (El S u)):=by simp only[Pe.fz,Pe.fz1,Pe.cast,Pe.cast0] at h1;exact (yAS h1).symm
     subst hx0;refine ⟨none::bs,.own (.slice none 0 0) T (U.size un u) 0 []::rs,?_,?_,by simpa using g3,λnu' E'=>?_,λnu' hn=>?_,by simpa only[zcC,yAC,id] using g6⟩;·simp only[zde];exact ⟨⟨_,_,.inl rfl⟩,g1⟩
     ·intro b' hb';rcases yAm.1 hb' with hb' | hb';·cases hb'
      ·exact g2 b' hb'
     ·simp only[zbo,Kj];refine ⟨?_,g4 nu' E'⟩;simp only[Kc];exact ⟨trivial,trivial,rfl,λg hg=>by simp[Value.ownBlock] at hg,λi y hi=>by simp at hi⟩
     ·simp only[zcI,Ke,Rep];refine ⟨⟨?_,?_⟩,g5 nu' λi r hi=>?_⟩;·have:=hn 0 _ rfl;simp[zal] at this;rw[this,hv]
      ·rw[hv];exact ⟨rfl,rfl⟩
      ·have:=hn (i+1) r (by simpa using hi);rwa[show n+(i+1)=n+1+i by omega] at this
   |_=>simp[zaI] at ho
 | .wr u T::ts,p::ps,v::vs,zhy,t,n,ho,hc,hr=>by
   simp only[Ke] at hr;obtain ⟨x,t',h1,h2,rfl⟩:=zdv (t:= .wr u T) (ts:=ts) hc;have h1:Pe.cast un (.sl u) (Pe.fzC bx (.wr u T) p)=some x:=h1;cases p with
   |row b =>
     simp only[zaI,yAd,yA4] at ho;obtain ⟨⟨o1,o2⟩,o3⟩:=ho;cases hg:zam bx b with
     |none=>rw[hg] at o1;simp at o1|some box =>
       rw[hg] at o1;cases box with
       |wr u0 T0 l0 =>
         simp only at o1;have hT:T=T0:=yAa o1;subst hT;obtain ⟨r,hr1,hr2⟩:=hs.Kg.get hg;have hu:u0=u/\HEq l0 x:=by
          have h1':=h1;simp only[Pe.fzC,hg,Pe.cast,Pe.cast0] at h1';split at h1';·rename_i heq _;subst heq;cases h1';exact ⟨rfl,HEq.rfl⟩
          ·cases h1'
         obtain ⟨rfl,hl⟩:=hu;have hl:=eq_of_heq hl;subst hl;cases r with
         |wr v0 T' size m xs =>
           obtain ⟨bs,rs,g1,g2,g3,g4,g5,g6⟩:=zcc Kq hs ts ps vs (b::zhy) t' (n+1) o3 h2 hr.2;obtain ⟨hv0,hvv⟩:=zoB hr1 hr.1;simp only[zal,Prod.mk.injEq,true_and] at hv0;refine ⟨some b::bs,.wr v0 T' size m xs::rs,?_,?_,?_,λnu' E'=>?_,λnu' hn=>?_,?_⟩;·simp only[zde];exact ⟨rfl,hr1,g1⟩
           ·intro b' hb';rcases yAm.1 hb' with hb' | hb';·cases hb';exact ⟨by simpa using o2,_,hg,rfl⟩
            ·obtain ⟨k1,k2⟩:=g2 b' hb';exact ⟨λhk=>k1 (by simp[hk]),k2⟩
           ·simp only[yAC,id];refine yA2.2 ⟨λhk=>?_,g3⟩;obtain ⟨y,hy,hyb⟩:=yA8.1 hk;simp only[id] at hyb;subst hyb;exact (g2 b hy).1 (by simp)
           ·simp only[zbo,Kj];refine ⟨?_,g4 nu' E'⟩;simp only[Kc] at hr2 ⊢;exact hr2
           ·simp only[zcI,Ke,Rep];refine ⟨⟨?_,hvv⟩,g5 nu' λi r hi=>?_⟩;·have:=hn 0 _ rfl;simp[zal] at this;rw[this,hv0]
            ·have:=hn (i+1) r (by simpa using hi);rwa[show n+(i+1)=n+1+i by omega] at this
           ·simp only[zcC,yAC,id,yAn,hg];rw[g6]
         |_=>simp[Kc] at hr2
       |_=>simp at o1
   |nils =>
     simp only[zaI] at ho;obtain ⟨bs,rs,g1,g2,g3,g4,g5,g6⟩:=zcc Kq hs ts ps vs zhy t' (n+1) ho h2 hr.2;have hv:=hr.1;simp only[Rep] at hv;have hx0:x=([]:List (El S u)):=by simp only[Pe.fzC,Pe.cast,Pe.cast0] at h1;exact (yAS h1).symm
     subst hx0;refine ⟨none::bs,.wr (.slice none 0 0) T (U.size un u) 0 []::rs,?_,?_,by simpa using g3,λnu' E'=>?_,λnu' hn=>?_,by simpa only[zcC,yAC,id] using g6⟩;·simp only[zde];exact ⟨⟨_,_,.inr rfl⟩,g1⟩
     ·intro b' hb';rcases yAm.1 hb' with hb' | hb';·cases hb'
      ·exact g2 b' hb'
     ·simp only[zbo,Kj];refine ⟨?_,g4 nu' E'⟩;simp only[Kc];exact ⟨trivial,trivial,rfl,λi y hi=>by simp at hi⟩
     ·simp only[zcI,Ke,Rep];refine ⟨⟨?_,?_⟩,g5 nu' λi r hi=>?_⟩;·have:=hn 0 _ rfl;simp[zal] at this;rw[this,hv]
      ·rw[hv];exact ⟨rfl,rfl⟩
      ·have:=hn (i+1) r (by simpa using hi);rwa[show n+(i+1)=n+1+i by omega] at this
   |_=>simp[zaI] at ho
 | .grp u T2::ts,p::ps,v::vs,zhy,t,n,ho,hc,hr=>by
   simp only[Ke] at hr;obtain ⟨x,t',h1,h2,rfl⟩:=zdv (t:= .grp u T2) (ts:=ts) hc;have h1:Pe.cast un (.mp .str (.sl u)) (Pe.fzC bx (.grp u T2) p)=some x:=h1;cases p with
   |ref b =>
     simp only[zaI,yAd,yA4] at ho;obtain ⟨⟨o1,o2⟩,o3⟩:=ho;cases hg:zam bx b with
     |none=>rw[hg] at o1;simp at o1|some box =>
       rw[hg] at o1;cases box with
       |grp u1 T1 l0 h0 =>
         cases h0 with
         |some k0=>simp at o1|none =>
         simp only[yAd] at o1;have hk1:u1=u:=yAS (zd1 o1.2);have hv1:T2=T1:=yAa o1.1;subst hk1;subst hv1;obtain ⟨r,hr1,hr2⟩:=hs.Kg.get hg;have hx0:l0=x:=by simp only[Pe.fzC,hg,Pe.cast,cast0,zdI] at h1;exact yAS h1
         subst hx0;cases r with
         |grp g es c T2' s2 rows =>
           obtain ⟨bs,rs,g1,g2,g3,g4,g5,g6⟩:=zcc Kq hs ts ps vs (b::zhy) t' (n+1) o3 h2 hr.2;have hrv:=hr.1;simp only[Rep,ids,yAh,hr1,yAg,zal] at hrv;refine ⟨some b::bs,.grp g es c T2' s2 rows::rs,?_,?_,?_,λnu' E'=>?_,λnu' hn=>?_,?_⟩;·simp only[zde];exact ⟨rfl,hr1,g1⟩
           ·intro b' hb';rcases yAm.1 hb' with hb' | hb';·cases hb';exact ⟨by simpa using o2,_,hg,rfl⟩
            ·obtain ⟨k1,k2⟩:=g2 b' hb';exact ⟨λhk=>k1 (by simp[hk]),k2⟩
           ·simp only[yAC,id];refine yA2.2 ⟨λhk=>?_,g3⟩;obtain ⟨y,hy,hyb⟩:=yA8.1 hk;simp only[id] at hyb;subst hyb;exact (g2 b hy).1 (by simp)
           ·simp only[zbo,Kj];refine ⟨?_,g4 nu' E'⟩;simp only[Kc] at hr2 ⊢;exact hr2
           ·simp only[zcI,Ke];refine ⟨?_,g5 nu' λi r hi=>by have:=hn (i+1) r (by simpa using hi);rwa[show n+(i+1)=n+1+i by omega] at this⟩;simp only[Rep];have:=hn 0 (.grp g es c T2' s2 rows) (by simp);simp only[zal,yBu] at this;exact ⟨by rw[this];exact hrv.1,hrv.2⟩
           ·simp only[zcC,yAC,id,yAn,hg];rw[g6]
         |_=>simp[Kc] at hr2
       |_=>simp at o1
   |_=>simp[zaI] at ho
 | .nst u T T2::ts,p::ps,v::vs,zhy,t,n,ho,hc,hr=>by
   simp only[Ke] at hr;obtain ⟨x,t',h1,h2,rfl⟩:=zdv (t:= .nst u T T2) (ts:=ts) hc;have h1:Pe.cast un (.sl (.sl u)) (Pe.fzC bx (.nst u T T2) p)=some x:=h1;cases p with
   |row b =>
     simp only[zaI,yAd,yA4] at ho;obtain ⟨⟨o1,o2⟩,o3⟩:=ho;cases hg:zam bx b with
     |none=>rw[hg] at o1;simp at o1|some box =>
       rw[hg] at o1;cases box with
       |nst u0 T0 T20 l0 h0 =>
         cases h0 with
         |some k0=>simp at o1|none =>
         simp only[yAd] at o1;have hT:T=T0:=yAa o1.1;have hT2:T2=T20:=yAa o1.2;subst hT hT2;obtain ⟨r,hr1,hr2⟩:=hs.Kg.get hg;have hu:u0=u/\HEq l0 x:=by
          have h1':=h1;simp only[Pe.fzC,hg,Pe.cast,Pe.cast0] at h1';split at h1';·rename_i heq _;cases heq;cases h1';exact ⟨rfl,HEq.rfl⟩
          ·cases h1'
         obtain ⟨rfl,hl⟩:=hu;have hl:=eq_of_heq hl;subst hl;cases r with
         |nst v0 T' m xs T2' s2 rows =>
           obtain ⟨bs,rs,g1,g2,g3,g4,g5,g6⟩:=zcc Kq hs ts ps vs (b::zhy) t' (n+1) o3 h2 hr.2;obtain ⟨hv0,hvv⟩:=zoB hr1 hr.1;simp only[zal,Prod.mk.injEq,true_and] at hv0;refine ⟨some b::bs,.nst v0 T' m xs T2' s2 rows::rs,?_,?_,?_,λnu' E'=>?_,λnu' hn=>?_,?_⟩;·simp only[zde];exact ⟨rfl,hr1,g1⟩
           ·intro b' hb';rcases yAm.1 hb' with hb' | hb';·cases hb';exact ⟨by simpa using o2,_,hg,rfl⟩
            ·obtain ⟨k1,k2⟩:=g2 b' hb';exact ⟨λhk=>k1 (by simp[hk]),k2⟩
           ·simp only[yAC,id];refine yA2.2 ⟨λhk=>?_,g3⟩;obtain ⟨y,hy,hyb⟩:=yA8.1 hk;simp only[id] at hyb;subst hyb;exact (g2 b hy).1 (by simp)
           ·simp only[zbo,Kj];refine ⟨?_,g4 nu' E'⟩;simp only[Kc] at hr2 ⊢;exact hr2
           ·simp only[zcI,Ke,Rep];refine ⟨⟨?_,hvv⟩,g5 nu' λi r hi=>?_⟩;·have:=hn 0 _ rfl;simp[zal] at this;rw[this,hv0]
            ·have:=hn (i+1) r (by simpa using hi);rwa[show n+(i+1)=n+1+i by omega] at this
           ·simp only[zcC,yAC,id,yAn,hg];rw[g6]
         |_=>simp[Kc] at hr2
       |_=>simp at o1
   |_=>simp[zaI] at ho
 |[],_::_,_,_,_,_,ho,_,_=>by simp[zaI] at ho
 | .fr _::_,[],_,_,_,_,ho,_,_=>by simp[zaI] at ho
 | .own _ _::_,[],_,_,_,_,ho,_,_=>by simp[zaI] at ho
 | .wr _ _::_,[],_,_,_,_,ho,_,_=>by simp[zaI] at ho
 | .pt u T::ts,p::ps,v::vs,zhy,t,n,ho,hc,hr=>by
   simp only[Ke] at hr;obtain ⟨x,t',h1,h2,rfl⟩:=zdv (t:= .pt u T) (ts:=ts) hc;have h1:Pe.cast un u (Pe.fzC bx (.pt u T) p)=some x:=h1;cases p with
   |elr b v1 i off =>
     cases i with
     |succ i=>simp[zaI] at ho|zero =>
     cases off with
     |succ off=>simp[zaI] at ho|zero =>
     simp only[zaI,yAd,yA4] at ho;obtain ⟨⟨o1,o2⟩,o3⟩:=ho;cases hg:zam bx b with
     |none=>rw[hg] at o1;simp at o1|some box =>
       rw[hg] at o1;cases box with
       |wr u0 T0 l0 =>
         obtain ⟨x0,rfl⟩:∃x0,l0=[x0]:=by
          match l0,o1 with
          |[x0],_=>exact ⟨x0,rfl⟩|[],o1=>simp at o1|_::_::_,o1=>simp at o1
         simp only[yAd] at o1;have hT:T=T0:=yAa o1.1;subst hT;have hu:u0=u:=(yAS (zd1 o1.2.1)).symm;have hv1:v1=u:=(yAS (zd1 o1.2.2)).symm;subst hu;subst hv1;obtain ⟨r,hr1,hr2⟩:=hs.Kg.get hg;have hx0:x0=x:=by simp only[Pe.fzC,hg] at h1;rw[zpy] at h1;exact yAS h1
         subst hx0;cases r with
         |wr v0 T' size m xs =>
           obtain ⟨bs,rs,g1,g2,g3,g4,g5,g6⟩:=zcc Kq hs ts ps vs (b::zhy) t' (n+1) o3 h2 hr.2;have hrv:=hr.1;simp only[Rep,ids,yAh,hr1,yAg,zal] at hrv;obtain ⟨fl,g,n0,c0,hv0,hvv⟩:=hrv;simp only[yAf,Prod.mk.injEq] at hv0;refine ⟨some b::bs,.wr v0 T' size m xs::rs,?_,?_,?_,λnu' E'=>?_,λnu' hn=>?_,?_⟩;·simp only[zde];exact ⟨rfl,hr1,g1⟩
           ·intro b' hb';rcases yAm.1 hb' with hb' | hb';·cases hb';exact ⟨by simpa using o2,_,hg,rfl⟩
            ·obtain ⟨k1,k2⟩:=g2 b' hb';exact ⟨λhk=>k1 (by simp[hk]),k2⟩
           ·simp only[yAC,id];refine yA2.2 ⟨λhk=>?_,g3⟩;obtain ⟨y,hy,hyb⟩:=yA8.1 hk;simp only[id] at hyb;subst hyb;exact (g2 b hy).1 (by simp)
           ·simp only[zbo,Kj];refine ⟨?_,g4 nu' E'⟩;simp only[Kc] at hr2 ⊢;exact hr2
           ·simp only[zcI,Ke,Rep];refine ⟨⟨false,g,n0,c0,?_,hvv⟩,g5 nu' λi r hi=>?_⟩;·have:=hn 0 _ rfl;simp[zal] at this;rw[this,hv0.2]
            ·have:=hn (i+1) r (by simpa using hi);rwa[show n+(i+1)=n+1+i by omega] at this
           ·simp only[zcC,yAC,id,yAn,hg];rw[g6]
         |_=>simp[Kc] at hr2
       |_=>simp at o1
   |_=>simp[zaI] at ho
 | .pt _ _::_,[],_,_,_,_,ho,_,_=>by simp[zaI] at ho
 | .nst _ _ _::_,[],_,_,_,_,ho,_,_=>by simp[zaI] at ho
 |[],[],_::_,_,_,_,_,_,hr=>by simp[Ke] at hr
 |_::_,_::_,[],_,_,_,_,_,hr=>by simp[Ke] at hr
theorem zcT:∀{bs:List (Option Nat)}{rs:List Wl.Res},zde H bs rs->∀(j:Nat) r,rs[j]?=some r->(∃b,bs[j]?=some (some b)/\H[b]?=some r/\zmW r=true)\/(bs[j]?=some none/\∃T size,r= .own (.slice none 0 0) T size 0 []\/r= .wr (.slice none 0 0) T size 0 [])
 |[],[],_,j,r,h=>by simp at h
 |some b::bs,s::rs,hc,0,r,h=>by simp_all[zde]
 |some b::bs,s::rs,hc,j+1,r,h=>by simp only[zde] at hc;simpa using zcT hc.2.2 j r (by simpa using h)
 |none::bs,s::rs,hc,0,r,h=>by simp_all[zde]
 |none::bs,s::rs,hc,j+1,r,h=>by simp only[zde] at hc;simpa using zcT hc.2 j r (by simpa using h)
 |[],_::_,hc,_,_,_=>by grind[zde]
 |some _::_,[],hc,_,_,_=>by grind
 |none::_,[],hc,_,_,_=>by grind
theorem zfK:∀{bs:List (Option Nat)},(bs.filterMap id).Nodup->∀(j j':Nat) b,bs[j]?=some (some b)->bs[j']?=some (some b)->j=j'
 |[],_,j,_,_,h,_=>by simp at h
 |x::bs,hn,0,0,_,_,_=>rfl|x::bs,hn,0,j'+1,b,h,h'=>by simp at h;subst h;simp only[yAC,id] at hn;exact absurd (yA8.2 ⟨some b,yAb (show bs[j']?=some (some b) by grind),rfl⟩:b∈bs.filterMap id) (yA2.1 hn).1
 |x::bs,hn,j+1,0,b,h,h'=>by simp at h';subst h';simp only[yAC,id] at hn;exact absurd (yA8.2 ⟨some b,yAb (show bs[j]?=some (some b) by simpa using h),rfl⟩:b∈bs.filterMap id) (yA2.1 hn).1
 |x::bs,hn,j+1,j'+1,b,h,h'=>by
   have hn':(bs.filterMap id).Nodup:=by
    cases x with
    |none=>grind|some y=>simp only[yAC,id] at hn;exact (yA2.1 hn).2
   rw[zfK hn' j j' b (by simpa using h) (by grind)]
end
end Pe
end
