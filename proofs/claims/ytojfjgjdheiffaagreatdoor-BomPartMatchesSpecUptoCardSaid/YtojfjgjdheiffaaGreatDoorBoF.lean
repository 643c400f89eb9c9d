/- PROVED HERE: a part of the seat's proofs; see the text that holds the claim's theorem. -/
import Derived.Test.YtojfjgjdheiffaaGreatDoorPeS
import Derived.Test.YtojfjgjdheiffaaGreatDoorBoD
set_option maxRecDepth 100000
section
set_option linter.unusedVariables false
namespace Pe
open Go
def inB{α R:Type}(e:α->α->Option Bool)(t7:List α×Int×Int×Int×J):Option ((List α×Int×Int×Int×J)⊕((List α×Int×J)⊕R)) :=
 (br (decide (t7.2.2.1<(len (List.drop (Int.toNat t7.2.2.2.1) t7.1)))) (ob (zcX (List.drop (Int.toNat t7.2.2.2.1) t7.1) t7.2.2.1) λk8=>ob (zdc t7.1 ((Int.toNat t7.2.2.2.1)+k8)) λy9=>ob (zcX (List.drop (Int.toNat t7.2.2.2.1) t7.1) (IntKind.i64.wrap (t7.2.2.1 - 1))) λk10=>ob (zdc t7.1 ((Int.toNat t7.2.2.2.1)+k10)) λy11=>ob (e y9 y11) λb=>br (!b) (ob (zcX (List.drop (Int.toNat t7.2.2.2.1) t7.1) t7.2.2.1) λk12=>ob (zdc t7.1 ((Int.toNat t7.2.2.2.1)+k12)) λy13=>ob (zcX t7.1 t7.2.1) λj14=>ob (zdc t7.1 j14) λy15=>some (.inl (t7.1.set j14 y13,IntKind.i64.wrap (t7.2.1+1),IntKind.i64.wrap (t7.2.2.1+1),(((Int.toNat t7.2.2.2.1):Nat):Int),()))) (some (.inl (t7.1,t7.2.1,IntKind.i64.wrap (t7.2.2.1+1),(((Int.toNat t7.2.2.2.1):Nat):Int),())))) (some (.inr (.inl (t7.1,t7.2.1,())))))
noncomputable def zry{α R:Type}(z:α)(e:α->α->Option Bool)(t1:List α×Int×J):Option ((List α×Int×J)⊕((List α×J)⊕((List α×J)⊕R))) :=
 (br (decide (t1.2.1<(len t1.1))) (zaE (σ:=List α×Int×J) (R:=(List α×Int×J)⊕((List α×J)⊕((List α×J)⊕R))) (ob (zcX t1.1 t1.2.1) λj2=>ob (zdc t1.1 j2) λy3=>ob (zcX t1.1 (IntKind.i64.wrap (t1.2.1 - 1))) λj4=>ob (zdc t1.1 j4) λy5=>ob (e y3 y5) λb=>br b (ob (zhs t1.1 t1.2.1) λi6=>zaE (σ:=List α×Int×J) (R:=(List α×Int×J)⊕((List α×Int×J)⊕((List α×J)⊕((List α×J)⊕R)))) (zak (σ:=List α×Int×Int×Int×J) (inB e) (t1.1,t1.2.1,1,((i6:Nat):Int),())) λ(t16:List α×Int×J)=>ob (zhs t16.1 t16.2.1) λi17=>bif (Nat.ble i17 (List.length t16.1)) then (ob (zhN ((List.take i17 t16.1)++(List.replicate ((List.length t16.1) - i17) z)) 0 t16.2.1) λs18=>some (.inr (.inr (.inr (.inl (s18,())))))) else none) (some (.inl (t1.1,t1.2.1,())))) λ(t19:List α×Int×J)=>some (.inl (t19.1,IntKind.i64.wrap (t19.2.1+1),()))) (some (.inr (.inl (t1.1,())))))
noncomputable def znb{α R:Type}(z:α)(e:α->α->Option Bool)(s:List α):Option ((List α×J)⊕R) :=
 (br (decide ((len s)<2)) (some (.inl (s,()))) (zaE (σ:=List α×J) (zak (σ:=List α×Int×J) (zry z e) (s,1,())) λ(t20:List α×J)=>some (.inl (t20.1,()))))
def zhn{α:Type}(t:α->α->Bool)(s:List α):Nat->List α
 |0=>[]|m+1=>match s[m]? with
   |none=>zhn t s m|some x=>bif (Nat.blt 0 m)&&(match s[m - 1]? with|some y=>t x y|none=>false) then zhn t s m else zhn t s m++[x]
theorem zj9{α:Type}(t:α->α->Bool){s:List α}(h:0<s.length):zhn t s 1=s.take 1:=by
 cases s with
 |nil=>simp at h|cons x r=>rfl
theorem zie{α:Type}(t:α->α->Bool){s:List α}{m:Nat}(h0:0<m)(h:m<s.length):zhn t s (m+1)=if t s[m] (s[m - 1]'(by omega)) then zhn t s m else zhn t s m++[s[m]]:=by
 simp only[zhn,yAe h,yAe (show m - 1<s.length by omega)];have:Nat.blt 0 m=true:=by simpa[yAN] using h0
 rw[this];cases t s[m] (s[m - 1]'(by omega))<;>simp
theorem zfj{α:Type}{l:List α}{k:Nat}(h:k<l.length):zcX l (k:Int)=some k:=by
 show (bif Nat.blt k l.length then some k else none)=_;have:Nat.blt k l.length=true:=by simpa[yAN] using h
 rw[this];rfl
theorem zmq{α:Type}{l:List α}{k:Nat}(h:k<=l.length)(h0:0<l.length):zhs l (k:Int)=some k:=by
 show (bif Nat.ble k l.length&&Nat.blt 0 l.length then some k else none)=_;have h1:Nat.ble k l.length=true:=by simpa[yAK] using h
 have h2:Nat.blt 0 l.length=true:=by simpa[yAN] using h0
 rw[h1,h2];rfl
theorem zfk{α:Type}{l:List α}{k:Nat}(h:k<l.length):zdc l k=some l[k]:=yAe h
theorem zpm{α:Type}{r s:List α}{j m:Nat}(h:r.drop j=s.drop j)(hm:j<=m):r[m]?=s[m]? :=by
 have h1:(r.drop j)[m - j]?=(s.drop j)[m - j]? :=by rw[h]
 rw[yAu,yAu,show j+(m - j)=m by omega] at h1;exact h1
theorem zrN{α R:Type}{e:α->α->Option Bool}{t:α->α->Bool}{s:List α}(he:∀x∈s,∀y∈s,e x y=some (t x y))(hn:s.length<=4294967296){k0:Nat} :
  ∀(d k2 k:Nat)(row:List α),s.length=k0+k2+d->1<=k2->row.length=s.length->1<=k->k<=k0+k2 - 1->row.take k=zhn t s (k0+k2)->row.drop (k0+k2 - 1)=s.drop (k0+k2 - 1) ->
   ∃row' k':_,zak (inB (R:=R) e) (row,(k:Int),(k2:Int),(k0:Int),())=some (.inl (row',((k':Nat):Int),()))/\row'.length=s.length/\1<=k'/\k'<=s.length/\row'.take k'=zhn t s s.length
 |0,k2,k,row,h1,h2,h3,h4,h5,h6,h7=>by
   refine ⟨row,k,zaD ?_,h3,h4,by omega,by rw[h6];congr 1;omega⟩;have:¬((k2:Int)<len (List.drop (Int.toNat (k0:Int)) row)):=by rw[zao];simp only[yAL,h3,Int.toNat_natCast];omega
   simp only[inB,this,decide_false,zab]
 |d+1,k2,k,row,h1,h2,h3,h4,h5,h6,h7=>by
   have hd:k2<(List.drop k0 row).length:=(by rw[yAL,h3];omega);have hd1:k2 - 1<(List.drop k0 row).length:=(by omega);have a1:k0+k2<row.length:=(by omega);have a2:k0+(k2 - 1)<row.length:=(by omega);have b1:k0+k2<s.length:=(by omega);have b2:k0+(k2 - 1)<s.length:=(by omega);have g1:row[k0+k2]=s[k0+k2]:=(by have:=zpm h7 (m:=k0+k2) (by omega);rw[yAe a1,yAe b1] at this;exact yAS this);have g2:row[k0+(k2 - 1)]=s[k0+(k2 - 1)]:=(by have:=zpm h7 (m:=k0+(k2 - 1)) (by omega);rw[yAe a2,yAe b2] at this;exact yAS this);have hw1:IntKind.i64.wrap ((k2:Int) - 1)=((k2 - 1:Nat):Int):=(by rw[zaH (by omega) (by omega)];omega);have hw2:IntKind.i64.wrap ((k2:Int)+1)=((k2+1:Nat):Int):=zaf (n:=s.length) (by omega) (by omega);have hw3:IntKind.i64.wrap ((k:Int)+1)=((k+1:Nat):Int):=zaf (n:=s.length) (by omega) (by omega);have Ks:((k2:Int)<len (List.drop k0 row)):=(by rw[zao];exact hd);have hc:=zie t (s:=s) (m:=k0+k2) (by omega) b1;have he1:=he s[k0+k2] (yAy _) (s[k0+(k2 - 1)]) (yAy _);have hkr:k<row.length:=(by omega);have step:inB (R:=R) e (row,(k:Int),(k2:Int),(k0:Int),())=some (.inl (if t s[k0+k2] s[k0+(k2 - 1)] then (row,(k:Int),((k2+1:Nat):Int),(k0:Int),()) else (row.set k s[k0+k2],((k+1:Nat):Int),((k2+1:Nat):Int),(k0:Int),()))):=(by simp only[inB,Int.toNat_natCast,Ks,decide_true,zac,zfj hd,zaa,zfk a1,hw1,zfj hd1,zfk a2,g1,g2,he1,hw2,hw3,zfj hkr,zfk hkr];cases t s[k0+k2] s[k0+(k2 - 1)]<;>rfl);rw[zaR step];have Vd:k0+k2 - 1=k0+(k2 - 1):=by omega
   have hdrop:∀r:List α,r.drop (k0+k2 - 1)=s.drop (k0+k2 - 1)->r.drop (k0+(k2+1) - 1)=s.drop (k0+(k2+1) - 1):=λr hr=>by have:=congrArg (List.drop 1) hr;rw[yBh,yBh,show k0+k2 - 1+1=k0+(k2+1) - 1 by omega] at this;exact this
   by_cases ht:t s[k0+k2] s[k0+(k2 - 1)]=true;·rw[if_pos ht];refine zrN he hn d (k2+1) k row (by omega) (by omega) h3 h4 (by omega) ?_ (hdrop row h7);rw[h6,show k0+(k2+1)=k0+k2+1 by omega,hc];simp only[Vd,ht,if_true]
   ·rw[if_neg ht];refine zrN he hn d (k2+1) (k+1) _ (by omega) (by omega) (by simpa using h3) (by omega) (by omega) ?_ ?_;·rw[show k0+(k2+1)=k0+k2+1 by omega,hc];simp only[Vd,ht];rw[<-h6,yCk,yAx hkr,List.take_set_of_le (yAi _)];simp
    ·refine Eq.trans ?_ (hdrop row h7);rw[List.drop_set_of_lt (by omega)]
theorem zsB{α R:Type}{z:α}{e:α->α->Option Bool}{t:α->α->Bool}{s:List α}(he:∀x∈s,∀y∈s,e x y=some (t x y))(hn:s.length<=4294967296) :
  ∀(d k:Nat),s.length=k+d->1<=k->zhn t s k=s.take k->∃x,zak (zry (R:=R) z e) (s,(k:Int),())=some x/\(x= .inl (zhn t s s.length,())\/x= .inr (.inl (zhn t s s.length,())))
 |0,k,h1,h2,h3=>by
   refine ⟨_,zaD (r:= .inl (s,())) ?_,.inl ?_⟩
   ·have:¬((k:Int)<len s):=by rw[zao];omega
    simp only[zry,this,decide_false,zab]
   ·rw[show s.length=k by omega,h3,yA7 (by omega)]
 |d+1,k,h1,h2,h3=>by
   have b1:k<s.length:=(by omega);have b2:k - 1<s.length:=(by omega);have hw1:IntKind.i64.wrap ((k:Int) - 1)=((k - 1:Nat):Int):=(by rw[zaH (by omega) (by omega)];omega);have hw2:IntKind.i64.wrap ((k:Int)+1)=((k+1:Nat):Int):=zaf (n:=s.length) (by omega) (by omega);have Ks:((k:Int)<len s):=(by rw[zao];exact b1);have hc:=zie t (s:=s) (m:=k) (by omega) b1;have he1:=he s[k] (yAy _) (s[k - 1]) (yAy _);by_cases ht:t s[k] s[k - 1]=true
   ·obtain ⟨row',k',q1,q2,q3,q4,q5⟩:=zrN (R:=(List α×Int×J)⊕((List α×Int×J)⊕((List α×J)⊕((List α×J)⊕R)))) he hn (k0:=k) d 1 k s (by omega) (by omega) rfl h2 (by omega) (by rw[hc,if_pos ht,h3]) rfl;refine ⟨.inr (.inl (zhn t s s.length,())),zaD ?_,.inr rfl⟩;have hp:zhN ((List.take k' row')++(List.replicate ((List.length row') - k') z)) 0 (k':Int)=some (zhn t s s.length):=by
     rw[show (0:Int)=((0:Nat):Int) from rfl,zhM (yAA _) (by simp;omega)];rw[yBo,Nat.sub_zero,List.take_append_of_le_length (by simp;omega),List.take_take,Nat.min_self,q5]
    have hbl:Nat.ble k' row'.length=true:=(by rw[yAK,q2];exact q4);have q1':zak (inB (R:=(List α×Int×J)⊕((List α×Int×J)⊕((List α×J)⊕((List α×J)⊕R)))) e) (s,(k:Int),(1:Int),(k:Int),())=some (.inl (row',((k':Nat):Int),())):=q1;simp only[zry,Ks,decide_true,zac,zfj b1,zaa,zfk b1,hw1,zfj b2,zfk b2,he1,ht,zmq (yBf b1) (by omega:0<s.length),q1',zaj,zmq (l:=row') (k:=k') (by omega) (by omega),hbl,cond_true,hp,zaU]
   ·have step:zry (R:=R) z e (s,(k:Int),())=some (.inl (s,((k+1:Nat):Int),())):=by
     simp only[zry,Ks,decide_true,zac,zfj b1,zaa,zfk b1,hw1,zfj b2,zfk b2,he1,ht,zab,zaj,hw2]
    rw[zaR step];refine zsB he hn d (k+1) (by omega) (by omega) ?_;rw[hc,if_neg ht,h3,yCk,yAe b1];rfl
theorem zmg{α R:Type}{z:α}{e:α->α->Option Bool}{t:α->α->Bool}{s:List α}(he:∀x∈s,∀y∈s,e x y=some (t x y))(hn:s.length<=4294967296):znb (R:=R) z e s=some (.inl (zhn t s s.length,())):=by
 unfold znb;by_cases h2:s.length<2
 ·have:(len s<2):=by unfold len;omega
  rw[decide_eq_true this,zac]
  match s,h2 with
  |[],_=>rfl|[x],_=>simp[zj9 t (s:=[x]) (by simp)]|_::_::r,h2=>exact absurd h2 (by simp only[yAw];omega)
 ·have:¬(len s<2):=by unfold len;omega
  rw[decide_eq_false this,zab];obtain ⟨x,h3,h4⟩:=zsB (R:=R) (z:=z) he hn (s.length - 1) 1 (by omega) (yAi _) (zj9 t (by omega));have h3':zak (zry (R:=R) z e) (s,(1:Int),())=some x:=h3;rw[h3'];rcases h4 with rfl|rfl;·rw[zaj]
  ·rw[zaU]
end Pe
end
section
set_option linter.unusedVariables false
namespace Pe
open Go
def zpW{α:Type}(c:α->α->Int)(l:List α):Prop:=l.Pairwise λx y=>c x y<0
structure OrdAll {α:Type} (c:α->α->Int):Prop where
 irr:∀x,¬c x x<0
 trans:∀x y z,c x y<0->c y z<0->c x z<0
 eq:∀x y,¬c x y<0->¬c y x<0->x=y
theorem OrdAll.on{α:Type}{c:α->α->Int}(h:OrdAll c)(l:List α):OrdOn l c:=⟨λx _=>h.irr x,λx _ y _ z _=>h.trans x y z,λx _ y _=>h.eq x y⟩
theorem znA{α:Type}{c:α->α->Int}(h:OrdAll c){a b:List α}(ha:zpW c a)(hb:zpW c b)(hm:∀x,x∈a↔x∈b):a=b:=by have nd:∀{l:List α},zpW c l->l.Nodup:=λ{l} hl=>List.Pairwise.imp (λ{x y} hxy he=>by subst he;exact h.irr _ hxy) hl;have asn:∀{l:List α},zpW c l->zq3 c l:=λ{l} hl=>List.Pairwise.imp (λ{x y} hxy hyx=>h.irr x (h.trans x y x hxy hyx)) hl;refine zjm (h.on a) (asn ha) (asn hb) ((List.perm_ext_iff_of_nodup (nd ha) (nd hb)).2 hm)
theorem znc{α:Type}{c:α->α->Int}(h:OrdAll c){t:α->α->Bool}(ht:∀x y,t x y=true↔x=y){l:List α}(hl:zq3 c l):∀m,m<=l.length->zpW c (zhn t l m)/\∀x,x∈zhn t l m↔x∈l.take m
 |0,_=>⟨List.Pairwise.nil,λx=>by simp[zhn]⟩|1,hm=>by rw[zj9 t (by omega)];refine ⟨?_,λx=>Iff.rfl⟩;match l,hm with|x::r,_=>exact yBs _ _
 |m+2,hm=>by
   obtain ⟨h1,h2⟩:=znc h ht hl (m+1) (by omega);have hb:m+1<l.length:=by omega
   have hb':m<l.length:=(by omega);rw[zie t (by omega:0<m+1) hb];have hs:m+1 - 1=m:=by omega
   simp only[hs];by_cases hx:l[m+1]=l[m];·rw[if_pos ((ht _ _).2 hx)];refine ⟨h1,λx=>?_⟩;rw[h2,yCk (i:=m+1),yAe hb,yAp,hx];simp only[Option.toList_some,yBp];refine ⟨.inl,λhx2=>hx2.elim id λhx2=>?_⟩;subst hx2;exact List.mem_take_iff_getElem.2 ⟨m,by omega,rfl⟩
   ·have hx':¬t l[m+1] l[m]=true:=λhc=>hx ((ht _ _).1 hc);rw[if_neg hx'];refine ⟨List.pairwise_append.2 ⟨h1,yBs _ _,λy hy z hz=>?_⟩,λx=>?_⟩
    ·rw[yBp] at hz;subst hz;obtain ⟨i,hi,rfl⟩:=List.mem_take_iff_getElem.1 ((h2 y).1 hy);have hi':i<m+1:=by omega
     have asc:=yAH.1 hl;have g1:=asc i (m+1) (by omega) hb hi';by_cases g2:c l[i] l[m+1]<0;·exact g2
     ·exfalso;have e1:=h.eq _ _ g2 g1;have g3:=asc m (m+1) hb' hb (by omega);apply hx;by_cases him:i=m;·subst him;exact e1.symm
      ·have g4:=asc i m (by omega) hb' (by omega);rw[e1] at g4;exact h.eq _ _ g3 g4
    ·rw[yAp,h2,yCk (i:=m+1),yAe hb,yAp];simp
theorem zgX(a b:By):Op.bytesLess a b=decide (a<b):=Go.Proofs.bytesLess_eq a b
def cS(x y:By):Int:=if x<y then -1 else if y<x then 1 else 0
theorem zc4(x y:By):cS x y<0↔x<y:=by
 unfold cS;by_cases h1:x<y;·simp[h1]
 ·by_cases h2:y<x<;>simp[h1,h2]
theorem zly:OrdAll cS:=⟨λx=>by rw[zc4];exact yBn x,λx y z=>by simp only[zc4];exact yCa,λx y h1 h2=>by rw[zc4] at h1 h2;exact List.le_antisymm (List.not_lt.1 h2) (List.not_lt.1 h1)⟩
end Pe
end
section
namespace Pe.Bfs
def row(next:List (List Nat))(i:Nat):List Nat:=next[i]?.getD []
def dAt(d:List Int)(i:Nat):Int:=d[i]?.getD (-1)
def push(wo:Int)(v:Int)(s:List Int×List Nat)(j:Nat):List Int×List Nat :=
 bif decide (dAt s.1 j<0)&&((j:Int) != wo) then (s.1.set j v,s.2++[j]) else s
def round(next:List (List Nat))(wo:Int)(s:List Int×List Nat)(i:Nat):List Int×List Nat:=(row next i).foldl (push wo (dAt s.1 i+1)) s
def run(next:List (List Nat))(wo:Int):Nat->List Int->List Nat->List Int|0,d,_=>d|_+1,d,[]=>d|n+1,d,i::q=>run next wo n (round next wo (d,q) i).1 (round next wo (d,q) i).2
def neg(d:List Int):Nat:=d.countP λx=>decide (x<0)
def start(n from_:Nat):List Int:=(List.replicate n (-1)).set from_ 0
def zeI(next:List (List Nat))(from_:Nat)(wo:Int):List Int :=
 bif (from_:Int)==wo then List.replicate next.length (-1) else run next wo (next.length+1) (start next.length from_) [from_]
theorem zpr{d:List Int}{i:Nat}(h:i<d.length):d[i]?=some (dAt d i):=by unfold dAt;rw[yAe h];rfl
theorem zr1{d:List Int}{i:Nat}(h:d.length<=i):dAt d i= -1:=by unfold dAt;rw[yAZ h];rfl
theorem zpq{d:List Int}{i:Nat}(h:0<=dAt d i):i<d.length:=by
 rcases yAT i d.length with h1|h1;·exact h1
 ·rw[zr1 h1] at h;omega
theorem zmf{d:List Int}{i j:Nat}{v:Int}(h:i<d.length):dAt (d.set i v) j=if j=i then v else dAt d j:=by
 unfold dAt;by_cases hij:j=i;·subst hij;rw[yAx h,if_pos rfl];rfl
 ·rw[yAr λe=>hij e.symm,if_neg hij]
theorem zjN:∀{d:List Int}{i:Nat}{v:Int},i<d.length->dAt d i<0->0<=v->neg (d.set i v)+1=neg d
 |[],i,v,h,_,_=>by simp at h
 |x::d,0,v,_,h,hv=>by have h:x<0:=(by simpa[dAt] using h);simp only[neg,List.set_cons_zero,List.countP_cons];rw[if_neg (by simpa using hv),if_pos (by simpa using h)]
 |x::d,i+1,v,hi,h,hv=>by have h:dAt d i<0:=(by simpa[dAt] using h);have:=zjN (d:=d) (i:=i) (v:=v) (by simpa using hi) h hv;simp only[neg,List.set_cons_succ,List.countP_cons] at this ⊢;omega
structure Ok (next:List (List Nat)) (from_:Nat) (wo:Int) (d:List Int) (q:List Nat):Prop where
 len:d.length=next.length
 queue:∀i∈q,0<=dAt d i
 src:∀j,0<=dAt d j->(j=from_/\dAt d j=0)\/(1<=dAt d j/\∃i,j∈row next i/\dAt d i=dAt d j - 1)
 bound:∀j,0<=dAt d j->dAt d j+(neg d:Int)<(next.length:Int)
 closed:∀i,0<=dAt d i->i∈q\/∀j∈row next i,0<=dAt d j\/(j:Int)=wo
 out:∀j:Nat,(j:Int)=wo->dAt d j<0
 home:dAt d from_=0
theorem zoJ{next:List (List Nat)}{from_:Nat}{wo:Int}(hn:∀i,∀j∈row next i,j<next.length){i:Nat}{d:List Int}{q:List Nat}{v:Int}{done:List Nat}
  (h:Ok next from_ wo d (i::q)) (hv:v=dAt d i+1) (hd:∀j∈done,0<=dAt d j\/(j:Int)=wo) {j:Nat} (hj:j∈row next i) :
  Ok next from_ wo (push wo v (d,q) j).1 (i::(push wo v (d,q) j).2)/\v=dAt (push wo v (d,q) j).1 i+1/\(∀j'∈done++[j],0<=dAt (push wo v (d,q) j).1 j'\/(j':Int)=wo) /\
   neg (push wo v (d,q) j).1+(push wo v (d,q) j).2.length=neg d+q.length:=by
 have hi0:0<=dAt d i:=h.queue i (by simp);unfold push;by_cases hc:dAt d j<0/\(j:Int)≠wo
 ·have hc':(decide (dAt d j<0)&&((j:Int) != wo))=true:=by simp[hc.1,hc.2]
  simp only[hc',cond_true];have hjl:j<d.length:=by rw[h.len];exact hn i j hj
  have hji:i≠j:=λe=>by subst e;omega
  have hs:∀k,dAt (d.set j v) k=if k=j then v else dAt d k:=λk=>zmf hjl
  have hneg:=zjN hjl hc.1 (v:=v) (by omega);have keep:∀k,0<=dAt d k->dAt (d.set j v) k=dAt d k:=λk hk=>by rw[hs,if_neg λe=>by subst e;omega]
  have hib:=h.bound i hi0;refine ⟨⟨by simp[h.len],λk hk=>?_,λk hk=>?_,λk hk=>?_,λk hk=>?_,λk hk=>?_,?_⟩,?_,λk hk=>?_,?_⟩
  ·rw[hs];split;·omega
   ·rename_i hkj;rcases yAm.1 hk with rfl|hk;·exact hi0
    ·rcases yAp.1 hk with hk|hk;·exact h.queue k (by simp[hk])
     ·simp at hk;exact absurd hk hkj
  ·by_cases hkj:k=j;·subst hkj;right;rw[hs,if_pos rfl];exact ⟨by omega,i,hj,by rw[keep i hi0];omega⟩
   ·rw[hs,if_neg hkj] at hk ⊢;rcases h.src k hk with h1|⟨h1,m,h2,h3⟩;·exact .inl h1
    ·exact .inr ⟨h1,m,h2,by rw[keep m (by omega)];exact h3⟩
  ·by_cases hkj:k=j;·subst hkj;rw[hs,if_pos rfl];omega
   ·rw[hs,if_neg hkj] at hk ⊢;have:=h.bound k hk;omega
  ·by_cases hkj:k=j;·subst hkj;left;simp
   ·rw[hs,if_neg hkj] at hk;rcases h.closed k hk with h1|h1;·left;rcases yAm.1 h1 with rfl|h1<;>simp[*]
    ·right;intro m hm;rcases h1 m hm with h2|h2;·left;rw[keep m h2];exact h2
     ·exact .inr h2
  ·rw[hs,if_neg λe=>by subst e;exact hc.2 hk];exact h.out k hk
  ·rw[keep _ (by rw[h.home];omega)];exact h.home
  ·rw[keep i hi0];exact hv
  ·rcases yAp.1 hk with hk|hk
   ·rcases hd k hk with h1|h1;·left;rw[keep k h1];exact h1
    ·exact .inr h1
   ·simp at hk;subst hk;left;rw[hs,if_pos rfl];omega
  ·simp;omega
 ·have hc':(decide (dAt d j<0)&&((j:Int) != wo))=false:=by
   rw[Bool.eq_false_iff];intro he;simp at he;exact hc he
  simp only[hc',cond_false];refine ⟨h,hv,λk hk=>?_,trivial⟩;rcases yAp.1 hk with hk|hk;·exact hd k hk
  ·simp at hk;subst hk;by_cases h1:dAt d k<0;·right;exact Classical.byContradiction λh2=>hc ⟨h1,h2⟩
   ·left;omega
theorem zlk{next:List (List Nat)}{from_:Nat}{wo:Int}(hn:∀i,∀j∈row next i,j<next.length){i:Nat}{v:Int}:∀(l:List Nat){d:List Int}{q:List Nat}{done:List Nat},
  Ok next from_ wo d (i::q)->v=dAt d i+1->(∀j∈done,0<=dAt d j\/(j:Int)=wo)->(∀j∈l,j∈row next i) ->
  Ok next from_ wo (l.foldl (push wo v) (d,q)).1 (i::(l.foldl (push wo v) (d,q)).2)/\(∀j∈done++l,0<=dAt (l.foldl (push wo v) (d,q)).1 j\/(j:Int)=wo) /\
   neg (l.foldl (push wo v) (d,q)).1+(l.foldl (push wo v) (d,q)).2.length=neg d+q.length
 |[],d,q,done,h,hv,hd,_=>⟨h,by simpa using hd,rfl⟩|j::l,d,q,done,h,hv,hd,hl=>by obtain ⟨h1,h2,h3,h4⟩:=zoJ hn h hv hd (hl j (by simp));obtain ⟨k1,k2,k3⟩:=zlk hn l h1 h2 h3 λm hm=>hl m (by simp[hm]);rw[yCd];exact ⟨k1,by simpa using k2,k3.trans h4⟩
theorem zgn{next:List (List Nat)}{from_:Nat}{wo:Int}(hn:∀i,∀j∈row next i,j<next.length){i:Nat}{d:List Int}{q:List Nat}(h:Ok next from_ wo d (i::q)) :
  Ok next from_ wo (round next wo (d,q) i).1 (round next wo (d,q) i).2/\neg (round next wo (d,q) i).1+(round next wo (d,q) i).2.length+1=neg d+(i::q).length:=by
 obtain ⟨h1,h2,h3⟩:=zlk hn (row next i) (done:=[]) h rfl (by simp) λj hj=>hj;refine ⟨⟨h1.len,λk hk=>h1.queue k (yB6 _ hk),h1.src,h1.bound,λk hk=>?_,h1.out,h1.home⟩,?_⟩
 ·rcases h1.closed k hk with h4|h4
  ·rcases yAm.1 h4 with rfl|h4;·right;exact λj hj=>h2 j (by simpa using hj)
   ·exact .inl h4
  ·exact .inr h4
 ·show neg ((row next i).foldl (push wo (dAt d i+1)) (d,q)).1+((row next i).foldl (push wo (dAt d i+1)) (d,q)).2.length+1=_;simp only[yAw];omega
theorem zox{next:List (List Nat)}{from_:Nat}{wo:Int}(hn:∀i,∀j∈row next i,j<next.length):∀(n:Nat){d:List Int}{q:List Nat},Ok next from_ wo d q->neg d+q.length<=n->Ok next from_ wo (run next wo n d q) []
 |n,d,[],h,_=>by
   have:run next wo n d []=d:=by cases n<;>rfl
   rw[this];exact h
 |0,d,i::q,h,hm=>by simp at hm
 |n+1,d,i::q,h,hm=>by obtain ⟨h1,h2⟩:=zgn hn h;exact zox hn n h1 (by simp only[yAw] at h2 hm;omega)
theorem zha{next:List (List Nat)}{from_:Nat}{wo:Int}(hf:from_<next.length)(hw:(from_:Int)≠wo):Ok next from_ wo (start next.length from_) [from_]/\neg (start next.length from_)+1=next.length:=by
 have Q2:∀i,dAt (List.replicate next.length (-1)) i= -1:=λi=>by unfold dAt;rw[yBt];split<;>rfl
 have hs:∀k,dAt (start next.length from_) k=if k=from_ then 0 else -1:=λk=>by unfold start;rw[zmf (by simpa using hf),Q2]
 have hneg:neg (start next.length from_)+1=next.length:=by unfold start;rw[zjN (by simpa using hf) (by rw[Q2];omega) (Int.le_refl 0)];simp[neg,List.countP_replicate]
 have only:∀k,0<=dAt (start next.length from_) k->k=from_:=λk hk=>by
  rw[hs] at hk;split at hk;·assumption
  ·omega
 refine ⟨⟨by simp[start],λk hk=>?_,λk hk=>?_,λk hk=>?_,λk hk=>?_,λk hk=>?_,?_⟩,hneg⟩;·simp at hk;subst hk;rw[hs,if_pos rfl];omega
 ·have:=only k hk;subst this;left;rw[hs,if_pos rfl];exact ⟨rfl,rfl⟩
 ·have:=only k hk;subst this;rw[hs,if_pos rfl];omega
 ·have:=only k hk;subst this;left;simp
 ·rw[hs,if_neg λe=>by subst e;exact hw hk];omega
 ·rw[hs,if_pos rfl]
theorem zme{next:List (List Nat)}{from_:Nat}{wo:Int}(hn:∀i,∀j∈row next i,j<next.length)(hf:from_<next.length)(hw:(from_:Int)≠wo):Ok next from_ wo (zeI next from_ wo) []:=by unfold zeI;rw[show ((from_:Int)==wo)=false by simpa using hw,cond_false];obtain ⟨h1,h2⟩:=zha (next:=next) hf hw;exact zox hn _ h1 (by simp;omega)
theorem dist_len{next:List (List Nat)}{from_:Nat}{wo:Int}(hn:∀i,∀j∈row next i,j<next.length)(hf:from_<next.length):(zeI next from_ wo).length=next.length:=by
 by_cases hw:(from_:Int)=wo;·unfold zeI;rw[show ((from_:Int)==wo)=true by simpa using hw];simp
 ·exact (zme hn hf hw).len
end Pe.Bfs
end
section
namespace Pe
open Bfs
def ofN(l:List Nat):List Int:=l.map λ(k:Nat)=>(k:Int)
def za6(N:List (List Nat)):List (List Int):=N.map ofN
theorem zle{α:Type}{l:List α}{k:Nat}(h:k<l.length):zcX l (k:Int)=some k:=by show (bif Nat.blt k l.length then some k else none)=some k;rw[show Nat.blt k l.length=true from by simpa[yAN] using h];rfl
theorem getD{d:List Int}{k:Nat}(h:k<d.length):zdc d k=some (dAt d k):=zpr h
theorem zjl{N:List (List Nat)}{i:Nat}(h:i<N.length):at? (za6 N) (i:Int)=some (ofN (row N i)):=by rw[zcV];unfold za6 row;rw[yAh,yAe h];rfl
theorem ze1{l:List Nat}{k:Nat}(h:k<l.length):at? (ofN l) (k:Int)=some ((l[k]:Nat):Int):=by rw[zcV];unfold ofN;rw[yAh,yAe h];rfl
theorem za2(l:List Nat):len (ofN l)=(l.length:Int):=by simp[len,ofN]
theorem zmT(l:List (List Nat)):len (za6 l)=(l.length:Int):=by simp[len,za6]
structure Web (N:List (List Nat)):Prop where
 lt:∀i,∀j∈row N i,j<N.length
 small:N.length<=1000000
 rows:∀i,(row N i).length<=1000000
namespace Bfs
variable{N:List (List Nat)}{from_:Nat}{wo:Int}
structure Mid (N:List (List Nat)) (v:Int) (i c:Nat) (s:List Int×List Nat):Prop where
 len:s.1.length=N.length
 at_:v=dAt s.1 i+1
 pos:0<=dAt s.1 i
 cnt:neg s.1+s.2.length=c
theorem Mid.push{v:Int}{i c:Nat}{s:List Int×List Nat}(h:Mid N v i c s){j:Nat}(hj:j<N.length):Mid N v i c (push wo v s j):=by
 obtain ⟨h1,h2,h3,h4⟩:=h;unfold Bfs.push;cases hb:decide (dAt s.1 j<0)&&((j:Int) != wo) with
 |false=>exact ⟨h1,h2,h3,h4⟩|true =>
   simp only[yAd,decide_eq_true_eq] at hb;have hjl:j<s.1.length:=by omega
   have hji:i≠j:=λe=>by subst e;omega
   have hs:dAt (s.1.set j v) i=dAt s.1 i:=(by rw[zmf hjl,if_neg hji]);have hneg:=zjN hjl hb.1 (v:=v) (by omega);exact ⟨by simp[h1],by rw[cond_true];simp only[hs];exact h2,by rw[cond_true];simp only[hs];exact h3,by simp;omega⟩
theorem Ok.mid{d:List Int}{i:Nat}{q:List Nat}(h:Ok N from_ wo d (i::q)):Mid N (dAt d i+1) i (neg d+q.length) (d,q):=⟨h.len,rfl,h.queue i (by simp),rfl⟩
theorem znj{R:Type}{f:List Int×List Int×J->Option ((List Int×List Int×J)⊕R)}(out:List Int->R)(hn:∀i,∀j∈row N i,j<N.length)
  (Qn:∀d i q,Ok N from_ wo d (i::q)->neg d+(i::q).length<=N.length->f (d,ofN (i::q),())=some (.inl ((round N wo (d,q) i).1,ofN (round N wo (d,q) i).2,()))) (hend:∀d,f (d,[],())=some (.inr (out d))) :
  ∀(m:Nat)(d:List Int)(q:List Nat),Ok N from_ wo d q->neg d+q.length<=m->neg d+q.length<=N.length->zak f (d,ofN q,())=some (out (run N wo m d q))
 |m,d,[],h,_,_=>by
   have:run N wo m d []=d:=by cases m<;>rfl
   rw[this];exact zaD (hend d)
 |0,d,i::q,h,hm,_=>by simp at hm
 |m+1,d,i::q,h,hm,hN=>by obtain ⟨h1,h2⟩:=zgn hn h;rw[zaR (Qn d i q h hN)];exact znj out hn Qn hend m _ _ h1 (by omega) (by omega)
theorem zej{R X:Type}{f:X×List Int×Int×J->Option ((X×List Int×Int×J)⊕R)}(tell:List Int->X)(out:X->R)(hn:∀i,∀j∈row N i,j<N.length)
  (Qn:∀d i (pre q:List Nat),Ok N from_ wo d (i::q)->neg d+pre.length+(i::q).length<=N.length->f (tell d,ofN (pre++i::q),((pre.length:Nat):Int),())=some (.inl (tell (round N wo (d,q) i).1,ofN (pre++i::(round N wo (d,q) i).2),((pre.length+1:Nat):Int),())))
  (hend:∀d (pre:List Nat),f (tell d,ofN pre,((pre.length:Nat):Int),())=some (.inr (out (tell d)))) :
  ∀(m:Nat)(d:List Int)(pre q:List Nat),Ok N from_ wo d q->neg d+q.length<=m->neg d+pre.length+q.length<=N.length->zak f (tell d,ofN (pre++q),((pre.length:Nat):Int),())=some (out (tell (run N wo m d q)))
 |m,d,pre,[],h,_,_=>by
   have:run N wo m d []=d:=by cases m<;>rfl
   rw[this,yAR];exact zaD (hend d pre)
 |0,d,pre,i::q,h,hm,_=>by simp at hm
 |m+1,d,pre,i::q,h,hm,hN=>by obtain ⟨h1,h2⟩:=zgn hn h;rw[zaR (Qn d i pre q h hN)];have:=zej tell out hn Qn hend m _ (pre++[i]) _ h1 (by omega) (by simp only[yAI,yAw,List.length_nil] at h2 hN ⊢;omega);simpa[run] using this
end Bfs
namespace Tryz
variable{N:List (List Nat)}{from_:Nat}{wo:Int}
theorem zlp{R:Type}{f:List Int×Int×J->Option ((List Int×Int×J)⊕R)}(n:Nat)(out:List Int->R)(l0:List Int)(hl:l0.length=n)
  (h:∀k (a:List Int),k<n->a.length=n->f (a,(k:Int),())=some (.inl (a.set k (-1),((k+1:Nat):Int),()))) (he:∀a,a.length=n->f (a,(n:Int),())=some (.inr (out a))):zak f (l0,0,())=some (out (List.replicate n (-1))):=by
 have:=zby (A:=List Int) (f:=f) (λk a=>(a,(k:Int),())) n (λ_ _=>out (List.replicate n (-1))) (λk a=>a.length=n/\a.take k=List.replicate k (-1)) (λk a hk hI=>?_) 0 l0 (yAA _) ⟨hl,rfl⟩;·exact this
 ·by_cases Ks:k<n;·left;refine ⟨a.set k (-1),Ks,h k a Ks hI.1,⟨by simp[hI.1],?_⟩,rfl⟩;rw[yBQ (by simp;omega),List.take_set_of_le (yAi k),hI.2,List.getElem_set_self,List.replicate_succ']
  ·right;have hk:k=n:=by omega
   subst hk;rw[he a hI.1];have h2:=hI.2;rw[yA7 (by omega)] at h2;rw[h2]
theorem ziK{α:Type}{n:Nat}(h:n<=1000000)(x:α):zlG (n:Int) x=some (List.replicate n x):=by show (bif Nat.ble n 1073741824 then some (List.replicate n x) else none)=_;rw[show Nat.ble n 1073741824=true from by simp[yAK];omega];rfl
theorem m58_dist(orc:Orc Sx)(hw:Web N)(hf:from_<N.length):m58 orc (za6 N) (from_:Int) wo=some (zeI N from_ wo,()):=by
 unfold m58;rw[zmT,ziK hw.small,zaa];rw[zlp N.length (λd=>(.inl (d,()):(List Int×J)⊕(List Int×J))) _ (by simp) (λk a hk ha=>?_) λa ha=>?_]
 rotate_left
 ·dsimp only;rw[show decide ((k:Int)<len (List.replicate N.length (0:Int)))=true from by simp[len];exact hk,zac,zle (by omega),zaa,getD (by omega),zaa,zaf hk (by have:=hw.small;omega)]
 ·dsimp only;rw[show decide ((N.length:Int)<len (List.replicate N.length (0:Int)))=false from by simp[len],zab]
 rw[zaj];dsimp only;unfold zeI;cases hc:(from_:Int)==wo with
 |true=>rfl|false =>
   have hne:(from_:Int)≠wo:=(by simpa using hc);obtain ⟨hok,hneg⟩:=zha (next:=N) hf hne;rw[zab,zle (by simpa using hf),zaa,getD (by simpa using hf),zaa];rw[show ((List.replicate N.length (-1:Int)).set from_ 0,[(from_:Int)],())=(start N.length from_,ofN [from_],()) from rfl];rw[znj (λd=>(.inl (d,()):(List Int×J)⊕(List Int×J))) hw.lt (λd i q hq hm=>?_) (λd=>rfl) (N.length+1) _ _ hok (by simp;omega) (by simp;omega)];·rfl
   ·have hi:=hq.queue i (by simp);have hil:i<N.length:=(by rw[<-hq.len];exact zpq hi);have hb:=hq.bound i hi;dsimp only
    rw[show decide (0<len (ofN (i::q)))=true from by simp[len,ofN],zac,show at? (ofN (i::q)) 0=some (i:Int) from rfl,zaa,
     show zhs (ofN (i::q)) 1=some 1 from rfl,zaa,zjl hil,zaa]
    refine zcK (mk:=λk (s:List Int×List Nat)=>(s.1,ofN s.2,(k:Int),())) (row N i) (Bfs.push wo (dAt d i+1)) (λs=>(.inl (s.1,ofN s.2,()):(List Int×List Int×J)⊕((List Int×J)⊕(List Int×J)))) (λ_ s=>Bfs.Mid N (dAt d i+1) i (neg d+q.length) s) (λk hk s hI=>?_) (λs hI=>?_) (d,q) hq.mid
    ·have hjl:=hw.lt i _ (yAy hk);refine ⟨?_,hI.push hjl⟩;dsimp only;rw[za2,show decide ((k:Int)<((row N i).length:Int))=true from by simp;exact hk,zac,ze1 hk,zaa,zle (by rw[hI.len];exact hjl),zaa,getD (by rw[hI.len];exact hjl),zaa,zaf hk (by have:=hw.rows i;omega)];unfold Bfs.push;rw[zai];rw[zaa,zcw];cases hb2:decide (dAt s.1 (row N i)[k]<0)&&(((row N i)[k]:Nat):Int) != wo with
     |false=>rfl|true =>have hsq:s.2.length<=N.length:=(by have:=hI.cnt;simp only[yAw] at hm;omega);rw[zac,zle (by rw[hI.len];exact hil),zaa,getD (by rw[hI.len];exact hil),zaa,zaa,getD (by rw[hI.len];exact hjl),zaa,zbc (by simp[ofN,lim];have:=hw.small;omega),zaa,<-hI.at_,zaH (by have:=hI.at_;have:=hI.pos;omega) (by have:=hw.small;omega),cond_true];simp[ofN]
    ·dsimp only;rw[za2,show decide (((row N i).length:Int)<((row N i).length:Int))=false from by simp,zab]
end Tryz
end Pe
end
section
namespace Pe
open Bfs
namespace Bfs
variable{N:List (List Nat)}{from_:Nat}{wo:Int}
def inD(d:List Int):List Bool:=d.map λx=>decide (0<=x)
theorem zpb(d:List Int):(inD d).length=d.length:=by simp[inD]
theorem zh2{d:List Int}{j:Nat}(h:j<d.length):zdc (inD d) j=some (decide (0<=dAt d j)):=by show (inD d)[j]?=_;unfold inD dAt;rw[yAh,yAe h];rfl
theorem zpa(d:List Int)(j:Nat){v:Int}(h:0<=v):(inD d).set j true=inD (d.set j v):=by unfold inD;rw[List.map_set,show decide (0<=v)=true from by simpa using h]
theorem zo9(n i:Nat):(List.replicate n false).set i true=inD (start n i):=by unfold start;rw[<-zpa _ _ (Int.le_refl 0)];simp[inD]
theorem zpG(pre:List Nat)(i:Nat)(q:List Nat):at? (ofN (pre++i::q)) ((pre.length:Nat):Int)=some (i:Int):=by rw[ze1 (by simp)];simp
end Bfs
namespace Tryz
variable{N:List (List Nat)}{from_:Nat}{wo:Int}
theorem m61_dist(orc:Orc Sx){w:Gt.Wb}(hto:w.to=za6 N)(hre:w.refs.length=N.length)(hw:Web N)(hf:from_<N.length):m61 orc w (from_:Int) wo=some (inD (zeI N from_ wo),()):=by
 unfold m61;rw[show len w.refs=((N.length:Nat):Int) from by simp[len,hre],ziK hw.small,zaa,hto];unfold zeI;cases hc:(from_:Int)==wo with
 |true=>simp[br,inD]|false =>
 have hne:(from_:Int)≠wo:=by simpa using hc
 obtain ⟨hok,hneg⟩:=zha (next:=N) hf hne;rw[zab,zle (by simpa using hf),zaa,show zdc (List.replicate N.length false) from_=some false from by simp[zdc,hf],zaa];rw[show ((List.replicate N.length false).set from_ true,[(from_:Int)],(0:Int),())=(inD (start N.length from_),ofN ([]++[from_]),((([]:List Nat).length:Nat):Int),()) from by rw[<-zo9];rfl];rw[zej inD (λd=>(.inl (d,()):(List Bool×J)⊕(List Bool×J))) hw.lt (λd i pre q hq hm=>?_) (λd pre=>?_) (N.length+1) _ [] _ hok (by simp;omega) (by simp;omega)];·rfl
 ·have hi:=hq.queue i (by simp);have hil:i<N.length:=by rw[<-hq.len];exact zpq hi
  have hb:=hq.bound i hi;dsimp only;rw[show decide (((pre.length:Nat):Int)<len (ofN (pre++i::q)))=true from by simp[za2];omega,zac,zpG,zaa,zjl hil,zaa]
  rw[show zak (σ:=List Bool×List Int×Int×J) (R:=(List Bool×List Int×J)⊕_) _ (inD d,ofN (pre++i::q),0,())=some (.inl (inD (round N wo (d,q) i).1,ofN (pre++i::(round N wo (d,q) i).2),())) from
   zcK (mk:=λk (s:List Int×List Nat)=>(inD s.1,ofN (pre++i::s.2),(k:Int),())) (row N i) (Bfs.push wo (dAt d i+1)) (λs=>(.inl (inD s.1,ofN (pre++i::s.2),()):(List Bool×List Int×J)⊕((List Bool×List Int×Int×J)⊕((List Bool×J)⊕(List Bool×J))))) (λ_ s=>Bfs.Mid N (dAt d i+1) i (neg d+q.length) s) (λk hk s hI=>?_) (λs hI=>?_) (d,q) hq.mid]
  ·rw[zaj];dsimp only;rw[zaf (n:=N.length+1) (by simp only[yAw] at hm;omega) (by have:=hw.small;omega)]
  ·have hjl:=hw.lt i _ (yAy hk);refine ⟨?_,hI.push hjl⟩;dsimp only;rw[za2,show decide ((k:Int)<((row N i).length:Int))=true from by simp;exact hk,zac,ze1 hk,zaa,zle (by rw[zpb,hI.len];exact hjl),zaa,zh2 (by rw[hI.len];exact hjl),zaa,zaf hk (by have:=hw.rows i;omega)];unfold Bfs.push;rw[show (!decide (0<=dAt s.1 (row N i)[k]))=decide (dAt s.1 (row N i)[k]<0) from by rw[<-decide_not];congr 1;simp,zai,zaa,zcw];cases hb2:decide (dAt s.1 (row N i)[k]<0)&&(((row N i)[k]:Nat):Int) != wo with
   |false=>rfl|true =>have hsq:pre.length+s.2.length<=N.length:=(by have:=hI.cnt;simp only[yAw] at hm;omega);rw[zac,zaa,zh2 (by rw[hI.len];exact hjl),zaa,zbc (by simp[ofN,lim];have:=hw.small;omega),zaa,cond_true,zpa (v:=dAt d i+1) _ _ (by omega)];simp[ofN]
  ·dsimp only;rw[za2,show decide (((row N i).length:Int)<((row N i).length:Int))=false from by simp,zab]
 ·dsimp only;rw[za2,show decide (((pre.length:Nat):Int)<((pre.length:Nat):Int))=false from by simp,zab]
end Tryz
end Pe
end
section
namespace Pe
open Bfs
def cI(x y:Int):Int:=x - y
theorem zrf:OrdAll cI:=⟨λx=>by simp[cI],λx y z h k=>by simp only[cI] at *;omega,λx y h k=>by simp only[cI] at *;omega⟩
theorem m168_eq'(orc:Orc Tryz.Sx){s:List Int}(hn:s.length<=1000000):Tryz.m168 orc s=some (.inl (zhn (λx y=>x==y) s s.length,())):=by have:=zmg (R:=J) (z:=(0:Int)) (e:=λx y=>some (x==y)) (t:=λx y=>x==y) (s:=s) (λ_ _ _ _=>rfl) (by omega);rw[<-this];rfl
namespace Bfs
def zjn(s:List (List Nat)×List (List Nat))(p:Nat×Nat):List (List Nat)×List (List Nat):=(s.1.set p.1 (row s.1 p.1++[p.2]),s.2.set p.2 (row s.2 p.2++[p.1]))
theorem zgl{N:List (List Nat)}{i a:Nat}{l:List Nat}(h:i<N.length):row (N.set i l) a=if a=i then l else row N a:=by
 unfold row;by_cases hia:a=i;·subst hia;rw[yAx h,if_pos rfl];rfl
 ·rw[yAr λe=>hia e.symm,if_neg hia]
theorem zir:∀(es:List (Nat×Nat))(s:List (List Nat)×List (List Nat)),(∀p∈es,p.1<s.1.length/\p.2<s.2.length) ->
  (es.foldl zjn s).1.length=s.1.length/\(es.foldl zjn s).2.length=s.2.length/\∀a,row (es.foldl zjn s).1 a=row s.1 a++(es.filter λp=>p.1==a).map (·.2)/\row (es.foldl zjn s).2 a=row s.2 a++(es.filter λp=>p.2==a).map (·.1)
 |[],s,_=>⟨rfl,rfl,λa=>by simp⟩|p::es,s,h=>by
   obtain ⟨hp1,hp2⟩:=h p (by simp);obtain ⟨h1,h2,h3⟩:=zir es (zjn s p) (λq hq=>by simpa[zjn] using h q (by simp[hq]));rw[yCd];refine ⟨by rw[h1];simp[zjn],by rw[h2];simp[zjn],λa=>?_⟩;obtain ⟨h4,h5⟩:=h3 a;rw[h4,h5];simp only[zjn];rw[zgl hp1,zgl hp2];constructor
   ·by_cases ha:a=p.1;·subst ha;simp
    ·rw[if_neg ha,yBR (by simpa using λe=>ha e.symm)]
   ·by_cases ha:a=p.2;·subst ha;simp
    ·rw[if_neg ha,yBR (by simpa using λe=>ha e.symm)]
def zqF(p q:Nat×Nat):Prop:=p.1<q.1\/(p.1=q.1/\p.2<=q.2)
def zrH(p q:Nat×Nat):Prop:=p.1<q.1\/(p.1=q.1/\p.2<q.2)
structure Edges (n m:Nat) (P:Nat->Nat×Nat) (sc tw:Nat->Bool):Prop where
 lt:∀k,k<m->(P k).1<n/\(P k).2<n
 mono:∀i j,i<j->j<m->zqF (P i) (P j)
 twice:∀j,j<m->(tw j=true↔∃i,i<j/\P i=P j/\sc i=true)
def znr(m:Nat)(P:Nat->Nat×Nat)(sc:Nat->Bool):List (Nat×Nat):=(List.range m).filterMap λk=>bif sc k then some (P k) else none
def zfw(m:Nat)(P:Nat->Nat×Nat)(sc tw:Nat->Bool):List (Nat×Nat):=(List.range m).filterMap λk=>bif sc k&& !tw k then some (P k) else none
section
variable{n m:Nat}{P:Nat->Nat×Nat}{sc tw:Nat->Bool}
theorem zhh{p:Nat×Nat}:p∈znr m P sc↔∃k,k<m/\sc k=true/\P k=p:=by unfold znr;simp only[yA8,yBa];refine exists_congr λk=>and_congr_right λ_=>?_;cases sc k<;>simp
theorem zkZ{p:Nat×Nat}:p∈zfw m P sc tw↔∃k,k<m/\sc k=true/\tw k=false/\P k=p:=by unfold zfw;simp only[yA8,yBa];refine exists_congr λk=>and_congr_right λ_=>?_;cases sc k<;>cases tw k<;>simp
theorem Edges.same(h:Edges n m P sc tw)(p:Nat×Nat):p∈zfw m P sc tw↔p∈znr m P sc:=by
 rw[zhh,zkZ];constructor
 ·rintro ⟨k,h1,h2,_,h4⟩;exact ⟨k,h1,h2,h4⟩
 ·rintro ⟨k,h1,h2,h4⟩
  have key:∀k,k<m->sc k=true->P k=p->∃k,k<m/\sc k=true/\tw k=false/\P k=p:=by
   intro k;induction k using Nat.strongRecOn with
   |_ k ih =>
     intro h1 h2 h4;cases ht:tw k with
     |false=>exact ⟨k,h1,h2,ht,h4⟩|true =>obtain ⟨i,hi,h5,h6⟩:=(h.twice k h1).1 ht;exact ih i hi (by omega) h6 (h5.trans h4)
  exact key k h1 h2 h4
theorem zjH{α:Type}{R:α->α->Prop}{f:Nat->Option α}{m:Nat}(h:∀i j x y,i<j->j<m->f i=some x->f j=some y->R x y):((List.range m).filterMap f).Pairwise R:=by rw[List.pairwise_filterMap];refine yBg (R:=λi j=>i<j) (λ{i j} hi hj hij x hx y hy=>h i j x y hij (yBa.1 hj) hx hy) List.pairwise_lt_range
theorem Edges.all_le(h:Edges n m P sc tw):(znr m P sc).Pairwise zqF:=zjH λi j x y hij hj hx hy=>by
 have:∀k z,(bif sc k then some (P k) else none)=some z->z=P k:=λk z hz=>by cases hs:sc k<;>rw[hs] at hz<;>simp at hz;exact hz.symm
 rw[this i x hx,this j y hy];exact h.mono i j hij hj
theorem Edges.some_lt(h:Edges n m P sc tw):(zfw m P sc tw).Pairwise zrH:=zjH λi j x y hij hj hx hy=>by
 have:∀k z,(bif sc k&& !tw k then some (P k) else none)=some z->z=P k/\sc k=true/\tw k=false:=λk z hz=>by cases hs:sc k<;>cases ht:tw k<;>rw[hs,ht] at hz<;>simp at hz;exact ⟨hz.symm,rfl,rfl⟩
 obtain ⟨e1,s1,t1⟩:=this i x hx;obtain ⟨e2,s2,t2⟩:=this j y hy;rw[e1,e2];have hle:=h.mono i j hij hj;have hne:P i≠P j:=λhe=>by have:=(h.twice j hj).2 ⟨i,hij,he,s1⟩;rw[t2] at this;cases this
 rcases hle with h1|⟨h1,h2⟩;·exact .inl h1
 ·refine .inr ⟨h1,?_⟩;rcases yAT (P i).2 (P j).2 with h3|h3;·exact h3
  ·exact absurd (Prod.ext h1 (by omega)) hne
theorem Edges.out_eq(h:Edges n m P sc tw)(a:Nat):zq3 cI (ofN (((znr m P sc).filter λp=>p.1==a).map (·.2)))/\zpW cI (ofN (((zfw m P sc tw).filter λp=>p.1==a).map (·.2)))/\∀x,x∈ofN (((zfw m P sc tw).filter λp=>p.1==a).map (·.2))↔x∈ofN (((znr m P sc).filter λp=>p.1==a).map (·.2)):=by
 refine ⟨?_,?_,λx=>?_⟩
 ·unfold zq3 ofN;rw[yA6,yA6];refine yBg (λ{p q} hp hq hpq=>?_) (h.all_le.filter _);have e1:p.1=a:=by simpa using (yAO.1 hp).2
  have e2:q.1=a:=by simpa using (yAO.1 hq).2
  simp only[zqF,cI] at *
  omega
 ·unfold zpW ofN;rw[yA6,yA6];refine yBg (λ{p q} hp hq hpq=>?_) (h.some_lt.filter _);have e1:p.1=a:=by simpa using (yAO.1 hp).2
  have e2:q.1=a:=by simpa using (yAO.1 hq).2
  simp only[zrH,cI] at *
  omega
 ·simp only[ofN,yBw,yAO,h.same]
theorem Edges.inn_eq(h:Edges n m P sc tw)(a:Nat):zq3 cI (ofN (((znr m P sc).filter λp=>p.2==a).map (·.1)))/\zpW cI (ofN (((zfw m P sc tw).filter λp=>p.2==a).map (·.1)))/\∀x,x∈ofN (((zfw m P sc tw).filter λp=>p.2==a).map (·.1))↔x∈ofN (((znr m P sc).filter λp=>p.2==a).map (·.1)):=by
 refine ⟨?_,?_,λx=>?_⟩
 ·unfold zq3 ofN;rw[yA6,yA6];refine yBg (λ{p q} hp hq hpq=>?_) (h.all_le.filter _);have e1:p.2=a:=by simpa using (yAO.1 hp).2
  have e2:q.2=a:=by simpa using (yAO.1 hq).2
  simp only[zqF,cI] at *
  omega
 ·unfold zpW ofN;rw[yA6,yA6];refine yBg (λ{p q} hp hq hpq=>?_) (h.some_lt.filter _);have e1:p.2=a:=by simpa using (yAO.1 hp).2
  have e2:q.2=a:=by simpa using (yAO.1 hq).2
  simp only[zrH,cI] at *
  omega
 ·simp only[ofN,yBw,yAO,h.same]
theorem zpw{l r:List Int}(ha:zq3 cI l)(hs:zpW cI r)(hm:∀x,x∈r↔x∈l):zhn (λx y=>x==y) l l.length=r:=by obtain ⟨h1,h2⟩:=znc zrf (t:=λx y=>x==y) (λx y=>by simp) ha l.length (yAi _);refine znA zrf h1 hs λx=>?_;rw[h2 x,hm x,List.take_length]
def web(n m:Nat)(P:Nat->Nat×Nat)(sc tw:Nat->Bool):List (List Nat)×List (List Nat):=(zfw m P sc tw).foldl zjn (List.replicate n [],List.replicate n [])
def zit(n m:Nat)(P:Nat->Nat×Nat)(sc:Nat->Bool):List (List Nat)×List (List Nat):=(znr m P sc).foldl zjn (List.replicate n [],List.replicate n [])
theorem zgm(n a:Nat):row (List.replicate n []) a=[]:=by unfold row;rw[yBt];split<;>rfl
theorem Edges.web_row(h:Edges n m P sc tw):(web n m P sc tw).1.length=n/\(web n m P sc tw).2.length=n/\∀a,row (web n m P sc tw).1 a=((zfw m P sc tw).filter λp=>p.1==a).map (·.2)/\row (web n m P sc tw).2 a=((zfw m P sc tw).filter λp=>p.2==a).map (·.1):=by
 obtain ⟨h1,h2,h3⟩:=zir (zfw m P sc tw) (List.replicate n [],List.replicate n []) λp hp=>by obtain ⟨k,hk,_,_,rfl⟩:=zkZ.1 hp;simpa using h.lt k hk
 unfold web;refine ⟨by simpa using h1,by simpa using h2,λa=>?_⟩;have:=h3 a;simpa[zgm] using this
theorem Edges.web0_row(h:Edges n m P sc tw):(zit n m P sc).1.length=n/\(zit n m P sc).2.length=n/\∀a,row (zit n m P sc).1 a=((znr m P sc).filter λp=>p.1==a).map (·.2)/\row (zit n m P sc).2 a=((znr m P sc).filter λp=>p.2==a).map (·.1):=by
 obtain ⟨h1,h2,h3⟩:=zir (znr m P sc) (List.replicate n [],List.replicate n []) λp hp=>by obtain ⟨k,hk,_,rfl⟩:=zhh.1 hp;simpa using h.lt k hk
 unfold zit;refine ⟨by simpa using h1,by simpa using h2,λa=>?_⟩;have:=h3 a;simpa[zgm] using this
theorem Edges.small(h:Edges n m P sc tw)(a:Nat) :
  zhn (λx y=>x==y) (ofN (row (zit n m P sc).1 a)) (ofN (row (zit n m P sc).1 a)).length=ofN (row (web n m P sc tw).1 a) /\
  zhn (λx y=>x==y) (ofN (row (zit n m P sc).2 a)) (ofN (row (zit n m P sc).2 a)).length=ofN (row (web n m P sc tw).2 a):=by
 rw[(h.web0_row.2.2 a).1,(h.web0_row.2.2 a).2,(h.web_row.2.2 a).1,(h.web_row.2.2 a).2];obtain ⟨h1,h2,h3⟩:=h.out_eq a;obtain ⟨h4,h5,h6⟩:=h.inn_eq a;exact ⟨zpw h1 h2 h3,zpw h4 h5 h6⟩
theorem Edges.mem_out(h:Edges n m P sc tw){a b:Nat}:b∈row (web n m P sc tw).1 a↔∃k,k<m/\sc k=true/\P k=(a,b):=by
 rw[(h.web_row.2.2 a).1];simp only[yBw,yAO,h.same,zhh];constructor
 ·rintro ⟨p,⟨⟨k,h1,h2,rfl⟩,h3⟩,rfl⟩;exact ⟨k,h1,h2,Prod.ext (by simpa using h3) rfl⟩
 ·rintro ⟨k,h1,h2,h3⟩;exact ⟨P k,⟨⟨k,h1,h2,rfl⟩,by rw[h3];simp⟩,by rw[h3]⟩
theorem Edges.mem_inn(h:Edges n m P sc tw){a b:Nat}:a∈row (web n m P sc tw).2 b↔∃k,k<m/\sc k=true/\P k=(a,b):=by
 rw[(h.web_row.2.2 b).2];simp only[yBw,yAO,h.same,zhh];constructor
 ·rintro ⟨p,⟨⟨k,h1,h2,rfl⟩,h3⟩,rfl⟩;exact ⟨k,h1,h2,Prod.ext rfl (by simpa using h3)⟩
 ·rintro ⟨k,h1,h2,h3⟩;exact ⟨P k,⟨⟨k,h1,h2,rfl⟩,by rw[h3];simp⟩,by rw[h3]⟩
theorem zdQ{α β:Type}(f:α->Option β)(l:List α):(l.filterMap f).length<=l.length:=List.length_filterMap_le f l
theorem Edges.web1(h:Edges n m P sc tw)(hn:n<=1000000)(hm:m<=1000000):Web (web n m P sc tw).1/\Web (web n m P sc tw).2:=by
 have hs:(zfw m P sc tw).length<=m:=by have:=zdQ (λk=>bif sc k&& !tw k then some (P k) else none) (List.range m);simpa[zfw] using this
 refine ⟨⟨λi j hj=>?_,by rw[h.web_row.1];exact hn,λi=>?_⟩,⟨λi j hj=>?_,by rw[h.web_row.2.1];exact hn,λi=>?_⟩⟩;·obtain ⟨k,h1,_,h3⟩:=h.mem_out.1 hj;rw[h.web_row.1];have:=(h.lt k h1).2;rw[h3] at this;exact this
 ·rw[(h.web_row.2.2 i).1,yBi];exact yAo (yA0 _ _) (yAo hs hm)
 ·obtain ⟨k,h1,_,h3⟩:=h.mem_inn.1 hj;rw[h.web_row.2.1];have:=(h.lt k h1).1;rw[h3] at this;exact this
 ·rw[(h.web_row.2.2 i).2,yBi];exact yAo (yA0 _ _) (yAo hs hm)
end
end Bfs
end Pe
end
section
namespace Pe
open Bfs Go
namespace Tryz
def cR(b:Gt.Kn)(k:Nat):By:=(b.Ka[k]?.map (·.ref)).getD []
def eF(b:Gt.Kn)(k:Nat):By:=(b.Kh[k]?.map (·.from_)).getD []
def eT(b:Gt.Kn)(k:Nat):By:=(b.Kh[k]?.map (·.to)).getD []
def eS(b:Gt.Kn)(k:Nat):Int:=(b.Kh[k]?.map (·.scope)).getD 0
def num(b:Gt.Kn)(r:By):Nat:=b.Ka.findIdx λc=>c.ref==r
def zbm(b:Gt.Kn)(r:By):Prop:=∃k,k<b.Ka.length/\cR b k=r
structure Right (b:Gt.Kn):Prop where
 n:b.Ka.length<=3000
 m:b.Kh.length<=20000
 refs:∀i j,i<j->j<b.Ka.length->cR b i<cR b j
 root:zbm b b.root
 ends : ∀ k, k < b.Kh.length -> zbm b (eF b k) /\ zbm b (eT b k) /\ eF b k ≠ eT b k
 scope:∀k,k<b.Kh.length->1<=eS b k/\eS b k<=4
 order:∀i j,i<j->j<b.Kh.length->eF b i<eF b j\/(eF b i=eF b j/\(eT b i<eT b j\/(eT b i=eT b j/\eS b i<eS b j)))
theorem zcU{b:Gt.Kn}{k:Nat}(h:k<b.Ka.length):cR b k=b.Ka[k].ref:=by unfold cR;rw[yAe h];rfl
theorem zfY{b:Gt.Kn}{k:Nat}(h:k<b.Kh.length):eF b k=b.Kh[k].from_:=by unfold eF;rw[yAe h];rfl
theorem zfX{b:Gt.Kn}{k:Nat}(h:k<b.Kh.length):eT b k=b.Kh[k].to:=by unfold eT;rw[yAe h];rfl
theorem zgV{b:Gt.Kn}{k:Nat}(h:k<b.Kh.length):eS b k=b.Kh[k].scope:=by unfold eS;rw[yAe h];rfl
section
variable{b:Gt.Kn}(hb:Right b)
include hb
theorem Right.ref_inj{i j:Nat}(hi:i<b.Ka.length)(hj:j<b.Ka.length)(h:cR b i=cR b j):i=j:=by
 rcases yBL i j with h1|h1|h1;·have:=hb.refs i j h1 hj;rw[h] at this;exact absurd this (yBn _)
 ·exact h1
 ·have:=hb.refs j i h1 hi;rw[h] at this;exact absurd this (yBn _)
theorem Right.num_cR{k:Nat}(hk:k<b.Ka.length):num b (cR b k)=k:=by
 unfold num;rw[List.findIdx_eq hk];refine ⟨by rw[zcU hk];simp,λj hj=>?_⟩;have hjl:j<b.Ka.length:=by omega
 cases hc:(b.Ka[j].ref==cR b k) with
 |false=>rfl|true =>
   have:b.Ka[j].ref=cR b k:=by simpa using hc
   rw[<-zcU hjl] at this;have:=hb.ref_inj hjl hk this;omega
theorem Right.num_lt{r:By}(h:zbm b r):num b r<b.Ka.length/\cR b (num b r)=r:=by obtain ⟨k,h1,rfl⟩:=h;rw[hb.num_cR h1];exact ⟨h1,rfl⟩
theorem Right.num_inj{r s:By}(hr:zbm b r)(hs:zbm b s)(h:num b r=num b s):r=s:=by rw[<-(hb.num_lt hr).2,<-(hb.num_lt hs).2,h]
theorem Right.num_mono{r s:By}(hr:zbm b r)(hs:zbm b s)(h:r<s):num b r<num b s:=by
 obtain ⟨i,h1,rfl⟩:=hr;obtain ⟨j,h2,rfl⟩:=hs;rw[hb.num_cR h1,hb.num_cR h2];rcases yBL i j with h3|h3|h3;·exact h3
 ·subst h3;exact absurd h (yBn _)
 ·exact absurd (yCa h (hb.refs j i h3 h1)) (yBn _)
end
theorem zeG(x y:El Sx .str):keq un .str x y=true↔x=y:=by show (@BEq.beq By _ x y)=true↔_;exact beq_iff_eq
noncomputable def zfP(b:Gt.Kn)(k:Nat):List (By×Int):=(List.range k).foldl (λM j=>zgw (keq un .str) (cR b j) (j:Int) M) []
theorem ziX(b:Gt.Kn)(k:Nat):zfP b (k+1)=zgw (keq un .str) (cR b k) (k:Int) (zfP b k):=by unfold zfP;rw[yCo,List.foldl_append];rfl
theorem Right.map_get{b:Gt.Kn}(hb:Right b):∀{k:Nat},k<=b.Ka.length->∀j,j<k->zdh (keq un .str) (cR b j) 0 (zfP b k)=(j:Int)
 |0,_,j,hj=>by omega
 |k+1,hk,j,hj=>by
   rw[ziX];refine (zhT (eq:=keq un .str) zeG (cR b k) (cR b j) (k:Int) 0 (zfP b k)).trans ?_;by_cases hjk:j=k;·subst hjk;rw[show keq un .str (cR b j) (cR b j)=true from (zeG _ _).2 rfl];rfl
   ·have hne:keq un .str (cR b j) (cR b k)=false:=by
     cases hc:keq un .str (cR b j) (cR b k) with
     |false=>rfl|true=>exact absurd (hb.ref_inj (by omega) (by omega) ((zeG _ _).1 hc)) hjk
    rw[hne,cond_false];exact hb.map_get (by omega) j (by omega)
theorem Right.map_num{b:Gt.Kn}(hb:Right b){r:By}(hr:zbm b r):zdh (keq un .str) r 0 (zfP b b.Ka.length)=(num b r:Int):=by obtain ⟨k,h1,rfl⟩:=hr;rw[hb.map_get (yAi _) k h1,hb.num_cR h1]
def eP(b:Gt.Kn)(k:Nat):Nat×Nat:=(num b (eF b k),num b (eT b k))
def eIn(b:Gt.Kn)(scope:Int)(k:Nat):Bool:=decide (eS b k<=scope)
def eTw(b:Gt.Kn)(scope:Int)(k:Nat):Bool:=(List.range k).any λi=>(eF b i==eF b k&&eT b i==eT b k)&&eIn b scope i
theorem Right.Kh{b:Gt.Kn}(hb:Right b)(scope:Int):Edges b.Ka.length b.Kh.length (eP b) (eIn b scope) (eTw b scope):=by
 refine ⟨λk hk=>⟨(hb.num_lt (hb.ends k hk).1).1,(hb.num_lt (hb.ends k hk).2.1).1⟩,λi j hij hj=>?_,λj hj=>?_⟩
 ·have hi:i<b.Kh.length:=by omega
  rcases hb.order i j hij hj with h|⟨h,h2|⟨h2,_⟩⟩;·exact .inl (hb.num_mono (hb.ends i hi).1 (hb.ends j hj).1 h)
  ·exact .inr ⟨by simp only[eP,h],yBf (hb.num_mono (hb.ends i hi).2.1 (hb.ends j hj).2.1 h2)⟩
  ·exact .inr ⟨by simp only[eP,h],by simp only[eP,h2];exact yAi _⟩
 ·unfold eTw;simp only[yBd,yBa,yAd,beq_iff_eq];refine exists_congr λi=>and_congr_right λhij=>?_;have hi:i<b.Kh.length:=by omega
  refine and_congr_left λ_=>?_;constructor
  ·rintro ⟨h1,h2⟩;simp only[eP,h1,h2]
  ·intro h;simp only[eP,Prod.mk.injEq] at h;exact ⟨hb.num_inj (hb.ends i hi).1 (hb.ends j hj).1 h.1,hb.num_inj (hb.ends i hi).2.1 (hb.ends j hj).2.1 h.2⟩
noncomputable def outs(b:Gt.Kn)(scope:Int):List (List Nat):=(web b.Ka.length b.Kh.length (eP b) (eIn b scope) (eTw b scope)).1
noncomputable def zi4(b:Gt.Kn)(scope:Int):List (List Nat):=(web b.Ka.length b.Kh.length (eP b) (eIn b scope) (eTw b scope)).2
theorem zeB(N:List (List Nat))(i:Nat)(l:List Nat):(za6 N).set i (ofN l)=za6 (N.set i l):=by unfold za6;rw[List.map_set]
theorem zeC(N:List (List Nat)):(za6 N).length=N.length:=by simp[za6]
theorem znY{N:List (List Nat)}{i:Nat}(h:i<N.length):zdc (za6 N) i=some (ofN (row N i)):=by have:=zjl h;rwa[zcV] at this
theorem zgJ{i n:Nat}(h:i<n):(Nat.beq i i&&Nat.blt i n)=true:=by simp[yAN,h]
theorem zmA{n:Nat}:List.replicate n ([]:List Int)=za6 (List.replicate n []):=by simp[za6,ofN]
structure RowsI (n k:Nat) (s:List (List Nat)×List (List Nat)):Prop where
 l1:s.1.length=n
 l2:s.2.length=n
 r1:∀a,(row s.1 a).length<=k
 r2:∀a,(row s.2 a).length<=k
theorem RowsI.add{n k:Nat}{s:List (List Nat)×List (List Nat)}(h:RowsI n k s){p:Nat×Nat}(h1:p.1<n)(h2:p.2<n):RowsI n (k+1) (zjn s p):=by
 refine ⟨by simp[zjn,h.l1],by simp[zjn,h.l2],λa=>?_,λa=>?_⟩
 ·simp only[zjn];rw[zgl (by rw[h.l1];exact h1)];split;·have:=h.r1 p.1;simp;omega
  ·have:=h.r1 a;omega
 ·simp only[zjn];rw[zgl (by rw[h.l2];exact h2)];split;·have:=h.r2 p.2;simp;omega
  ·have:=h.r2 a;omega
theorem RowsI.same{n k:Nat}{s:List (List Nat)×List (List Nat)}(h:RowsI n k s):RowsI n (k+1) s :=
 ⟨h.l1,h.l2,λa=>by have:=h.r1 a;omega,λa=>by have:=h.r2 a;omega⟩
def zht(P:Nat->Nat×Nat)(sc:Nat->Bool)(s:List (List Nat)×List (List Nat))(k:Nat):List (List Nat)×List (List Nat):=bif sc k then zjn s (P k) else s
theorem zsR(P:Nat->Nat×Nat)(sc:Nat->Bool)(m:Nat)(s:List (List Nat)×List (List Nat)):(List.range m).foldl (zht P sc) s=((List.range m).filterMap λk=>bif sc k then some (P k) else none).foldl zjn s:=by rw[List.foldl_filterMap];congr 1;funext s k;unfold zht;cases sc k<;>rfl
theorem zoA{N M:List (List Nat)}(hl:N.length=M.length)(h:∀a,a<N.length->row N a=row M a):N=M:=by apply List.ext_getElem hl;intro i h1 h2;have:=h i h1;unfold row at this;rw[yAe h1,yAe h2] at this;exact this
theorem m122_eq'(orc:Orc Sx)(h168:∀s:List Int,s.length<=1000000->orc.l 168 sg168 ((s,()):List Int×J)=(some (.inl (zhn (λx y=>x==y) s s.length,())):Option ((List Int×J)⊕J))){b:Gt.Kn}(hb:Right b)(scope:Int) :
  m122 orc b scope=some (Gt.Gf.mk b (num b b.root) (za6 (outs b scope)) (za6 (zi4 b scope)),()):=by
 have hE:=hb.Kh scope;have hn:=hb.n;have hm:=hb.m;unfold m122
 rw[show zak (σ:=Int×List (By×Int)×J) (R:=(List (By×Int)×J)⊕(Gt.Gf×J)) _ (0,[],())=some (.inl (zfP b b.Ka.length,())) from
  zcK (mk:=λk (M:List (By×Int))=>((k:Int),M,())) (List.range b.Ka.length) (λM j=>zgw (keq un .str) (cR b j) (j:Int) M) (λM=>(.inl (M,()):(List (By×Int)×J)⊕(Gt.Gf×J))) (λ_ _=>True) (λk hk M _=>⟨?_,trivial⟩) (λM _=>?_) [] trivial]
 rotate_left
 ·have hk':k<b.Ka.length:=by simpa using hk
  dsimp only;rw[show decide ((k:Int)<len b.Ka)=true from by simp[len];exact hk',zac,zan hk',zaa,zaf hk' (by omega),yBc,zcU hk']
 ·dsimp only;rw[yBe,show decide ((b.Ka.length:Int)<len b.Ka)=false from by simp[len],zab]
 rw[zaj];dsimp only;rw[show len b.Ka=((b.Ka.length:Nat):Int) from rfl,ziK (by omega),zaa,zaa,zmA,hb.map_num hb.root]
 rw[show zak (σ:=Int×By×By×By×List Gt.Kd×List Gt.K6×Int×List (List Int)×List (List Int)×J) (R:=(By×By×By×List Gt.Kd×List Gt.K6×Int×List (List Int)×List (List Int)×J)⊕(Gt.Gf×J)) _
     (0,b.name,b.Ko,b.root,b.Ka,b.Kh,(num b b.root:Int),za6 (List.replicate b.Ka.length []),za6 (List.replicate b.Ka.length []),()) =
     some (.inl (b.name,b.Ko,b.root,b.Ka,b.Kh,(num b b.root:Int),za6 ((List.range b.Kh.length).foldl (zht (eP b) (eIn b scope)) (List.replicate b.Ka.length [],List.replicate b.Ka.length [])).1,za6 ((List.range b.Kh.length).foldl (zht (eP b) (eIn b scope)) (List.replicate b.Ka.length [],List.replicate b.Ka.length [])).2,())) from
  zcK (mk:=λk (s:List (List Nat)×List (List Nat))=>((k:Int),b.name,b.Ko,b.root,b.Ka,b.Kh,(num b b.root:Int),za6 s.1,za6 s.2,())) (List.range b.Kh.length) (zht (eP b) (eIn b scope))
   (λs=>(.inl (b.name,b.Ko,b.root,b.Ka,b.Kh,(num b b.root:Int),za6 s.1,za6 s.2,()):(By×By×By×List Gt.Kd×List Gt.K6×Int×List (List Int)×List (List Int)×J)⊕(Gt.Gf×J)))
   (λk s=>RowsI b.Ka.length k s) (λk hk s hI=>?_) (λs hI=>?_) (List.replicate b.Ka.length [],List.replicate b.Ka.length []) ⟨by simp,by simp,λa=>by simp[zgm],λa=>by simp[zgm]⟩]
 rotate_left
 ·have hk':k<b.Kh.length:=by simpa using hk
  have Ks:=hE.lt k hk';rw[yBc];refine ⟨?_,?_⟩
  rotate_left
  ·unfold zht;cases eIn b scope k with
   |true=>exact hI.add Ks.1 Ks.2|false=>exact hI.same
  dsimp only;rw[show decide ((k:Int)<len b.Kh)=true from by simp[len];exact hk',zac,zan hk',zaa,zaf hk' (by omega)];unfold zht;cases Kt:eIn b scope k with
  |false =>
    have:decide (scope<b.Kh[k].scope)=true:=by unfold eIn at Kt;rw[zgV hk'] at Kt;simp at Kt ⊢;exact Kt
    rw[this,zac];rfl
  |true =>
    have:decide (scope<b.Kh[k].scope)=false:=by unfold eIn at Kt;rw[zgV hk'] at Kt;simp at Kt ⊢;exact Kt
    have e1:zdh (keq un .str) b.Kh[k].from_ 0 (zfP b b.Ka.length)=((eP b k).1:Int):=(by rw[<-zfY hk'];exact hb.map_num (hb.ends k hk').1);have e2:zdh (keq un .str) b.Kh[k].to 0 (zfP b b.Ka.length)=((eP b k).2:Int):=(by rw[<-zfX hk'];exact hb.map_num (hb.ends k hk').2.1);have l1:(eP b k).1<(za6 s.1).length:=(by rw[zeC,hI.l1];exact Ks.1);have l2:(eP b k).2<(za6 s.2).length:=(by rw[zeC,hI.l2];exact Ks.2);have q1:=hI.r1 (eP b k).1;have q2:=hI.r2 (eP b k).2;rw[this,zab,e1,e2,zle l1,zaa,znY (by rw[hI.l1];exact Ks.1),zaa,zbc (by simp[ofN,lim];omega),zaa,zle l2,zaa,znY (by rw[hI.l2];exact Ks.2),zaa,zbc (by simp[ofN,lim];omega),zaa,zaa,zgJ l1,cond_true,zaa,zgJ l2,cond_true];rw[show ofN (row s.1 (eP b k).1)++[((eP b k).2:Int)]=ofN (row s.1 (eP b k).1++[(eP b k).2]) from by simp[ofN],show ofN (row s.2 (eP b k).2)++[((eP b k).1:Int)]=ofN (row s.2 (eP b k).2++[(eP b k).1]) from by simp[ofN],zeB,zeB];rfl
 ·dsimp only;rw[yBe,show decide ((b.Kh.length:Int)<len b.Kh)=false from by simp[len],zab]
 rw[zaj,zsR];dsimp only;rw[show ((List.range b.Kh.length).filterMap λk=>bif eIn b scope k then some (eP b k) else none).foldl zjn (List.replicate b.Ka.length [],List.replicate b.Ka.length [])=zit b.Ka.length b.Kh.length (eP b) (eIn b scope) from rfl];obtain ⟨w1,w2,w3⟩:=hE.web0_row;obtain ⟨v1,v2,v3⟩:=hE.web_row;have Ku:∀a,(row (zit b.Ka.length b.Kh.length (eP b) (eIn b scope)).1 a).length<=1000000/\(row (zit b.Ka.length b.Kh.length (eP b) (eIn b scope)).2 a).length<=1000000:=λa=>by
  have hs:(znr b.Kh.length (eP b) (eIn b scope)).length<=b.Kh.length:=by have:=zdQ (λk=>bif eIn b scope k then some (eP b k) else none) (List.range b.Kh.length);simpa[znr] using this
  rw[(w3 a).1,(w3 a).2,yBi,yBi];exact ⟨yAo (yA0 _ _) (by omega),yAo (yA0 _ _) (by omega)⟩
 rw[show zak (σ:=Int×By×By×By×List Gt.Kd×List Gt.K6×Int×List (List Int)×List (List Int)×J) (R:=(By×By×By×List Gt.Kd×List Gt.K6×Int×List (List Int)×List (List Int)×J)⊕(Gt.Gf×J)) _
     (0,b.name,b.Ko,b.root,b.Ka,b.Kh,(num b b.root:Int),za6 (zit b.Ka.length b.Kh.length (eP b) (eIn b scope)).1,za6 (zit b.Ka.length b.Kh.length (eP b) (eIn b scope)).2,()) =
     some (.inl (b.name,b.Ko,b.root,b.Ka,b.Kh,(num b b.root:Int),za6 (outs b scope),za6 (zi4 b scope),())) from
  zby (A:=List (List Nat)×List (List Nat)) (λk s=>((k:Int),b.name,b.Ko,b.root,b.Ka,b.Kh,(num b b.root:Int),za6 s.1,za6 s.2,())) b.Ka.length
   (λ_ _=>(.inl (b.name,b.Ko,b.root,b.Ka,b.Kh,(num b b.root:Int),za6 (outs b scope),za6 (zi4 b scope),()):(By×By×By×List Gt.Kd×List Gt.K6×Int×List (List Int)×List (List Int)×J)⊕(Gt.Gf×J)))
   (λk s=>s.1.length=b.Ka.length/\s.2.length=b.Ka.length/\∀a,row s.1 a=(if a<k then row (outs b scope) a else row (zit b.Ka.length b.Kh.length (eP b) (eIn b scope)).1 a)/\row s.2 a=(if a<k then row (zi4 b scope) a else row (zit b.Ka.length b.Kh.length (eP b) (eIn b scope)).2 a))
   (λk s hk hI=>?_) 0 (zit b.Ka.length b.Kh.length (eP b) (eIn b scope)) (yAA _) ⟨w1,w2,λa=>⟨rfl,rfl⟩⟩]
 ·rw[zaj]
 ·obtain ⟨i1,i2,i3⟩:=hI;by_cases Ks:k<b.Ka.length
  ·left;refine ⟨(s.1.set k (row (outs b scope) k),s.2.set k (row (zi4 b scope) k)),Ks,?_,⟨by simp[i1],by simp[i2],λa=>⟨?_,?_⟩⟩,rfl⟩
   ·dsimp only;have r1:=(i3 k).1;have r2:=(i3 k).2;rw[if_neg (Nat.lt_irrefl k)] at r1 r2;have l1:k<(za6 s.1).length:=by rw[zeC,i1];exact Ks
    have l2:k<(za6 s.2).length:=(by rw[zeC,i2];exact Ks)
    rw[show decide ((k:Int)<((b.Ka.length:Nat):Int))=true from by simp;exact Ks,zac,zle l1,zaa,znY (by rw[i1];exact Ks),zaa,r1,h168 _ (by rw[show (ofN (row (zit b.Ka.length b.Kh.length (eP b) (eIn b scope)).1 k)).length=(row (zit b.Ka.length b.Kh.length (eP b) (eIn b scope)).1 k).length from by simp[ofN]];exact (Ku k).1),zaA,
     zle l2,zaa,znY (by rw[i2];exact Ks),zaa,r2,h168 _ (by rw[show (ofN (row (zit b.Ka.length b.Kh.length (eP b) (eIn b scope)).2 k)).length=(row (zit b.Ka.length b.Kh.length (eP b) (eIn b scope)).2 k).length from by simp[ofN]];exact (Ku k).2),zaA,zaa,zgJ l1,cond_true,zaa,zgJ l2,cond_true]
    dsimp only;rw[(hE.small k).1,(hE.small k).2,zaf Ks (by omega),zeB,zeB];rfl
   ·dsimp only;rw[zgl (by rw[i1];exact Ks)];by_cases hak:a=k;·subst hak;rw[if_pos rfl,if_pos (by omega)]
    ·rw[if_neg hak,(i3 a).1];by_cases h1:a<k;·rw[if_pos h1,if_pos (by omega)]
     ·rw[if_neg h1,if_neg (by omega)]
   ·dsimp only;rw[zgl (by rw[i2];exact Ks)];by_cases hak:a=k;·subst hak;rw[if_pos rfl,if_pos (by omega)]
    ·rw[if_neg hak,(i3 a).2];by_cases h1:a<k;·rw[if_pos h1,if_pos (by omega)]
     ·rw[if_neg h1,if_neg (by omega)]
  ·right;have hk':k=b.Ka.length:=by omega
   subst hk';dsimp only;rw[show decide (((b.Ka.length:Nat):Int)<((b.Ka.length:Nat):Int))=false from by simp,zab];have x1:s.1=outs b scope:=zoA (by rw[i1];exact v1.symm) λa ha=>by rw[(i3 a).1,if_pos (by omega)]
   have x2:s.2=zi4 b scope:=zoA (by rw[i2];exact v2.symm) λa ha=>by rw[(i3 a).2,if_pos (by omega)]
   rw[x1,x2]
end Tryz
end Pe
end
section
namespace Pe
open Bfs Go
namespace Tryz
def zfF(b:Gt.Kn)(r:By):Int:=match b.Ka.findIdx? (λc=>c.ref==r) with|some k=>(k:Int)|none=> -1
theorem m62_eq'(orc:Orc Sx){b:Gt.Kn}(hn:b.Ka.length<=1000000)(r:By):m62 orc b r=some (zfF b r,()):=by
 unfold m62;rw[zei b.Ka (λc=>c.ref==r) (λk=>(.inr ((k:Int),()):J⊕(Int×J))) (.inl ()) (λk hk=>?_) ?_];·unfold zfF;cases b.Ka.findIdx? λc=>c.ref==r<;>rfl
 ·dsimp only;rw[show decide ((b.Ka.length:Int)<len b.Ka)=false from by simp[len],zab]
 ·dsimp only;rw[show decide ((k:Int)<len b.Ka)=true from by simp[len];exact hk,zac,zan hk,zaa,zfq,zaf hk (by omega)]
theorem Right.place{b:Gt.Kn}(hb:Right b){r:By}(h:zbm b r):zfF b r=(num b r:Int):=by obtain ⟨h1,h2⟩:=hb.num_lt h;unfold zfF;rw[show b.Ka.findIdx? (λc=>c.ref==r)=some (num b r) from by rw[List.findIdx?_eq_some_iff_findIdx_eq];exact ⟨h1,rfl⟩]
theorem znM{b:Gt.Kn}{r:By}(h:¬zbm b r):zfF b r= -1:=by
 unfold zfF;rw[show b.Ka.findIdx? (λc=>c.ref==r)=none from by
  rw[yBA];intro c hc;obtain ⟨k,hk,rfl⟩:=yBH hc;cases he:b.Ka[k].ref==r with
  |false=>rfl|true=>exact absurd ⟨k,hk,by rw[zcU hk];simpa using he⟩ h]
def zbr(b:Gt.Kn):List By:=b.Ka.map (·.ref)
theorem zou{b:Gt.Kn}(hb:Right b){i j k:Nat}(hij:i<j)(hjk:j<k)(hk:k<b.Kh.length)(h1:eF b i=eF b k)(h2:eT b i=eT b k):eF b j=eF b k/\eT b j=eT b k:=by
 have a1:=hb.order i j hij (by omega);have a2:=hb.order j k hjk hk;have irr:∀x:By,¬x<x:=yBn;have ht:∀{x y z:By},x<y->y<z->x<z:=λh h'=>yCa h h';rcases a1 with a1|⟨a1,a3⟩
 ·rcases a2 with a2|⟨a2,_⟩;·exact absurd (h1▸ht a1 a2) (irr _)
  ·rw[a2,<-h1] at a1;exact absurd a1 (irr _)
 ·rcases a2 with a2|⟨a2,a4⟩;·rw[<-a1,h1] at a2;exact absurd a2 (irr _)
  ·refine ⟨a2,?_⟩;rcases a3 with a3|⟨a3,_⟩
   ·rcases a4 with a4|⟨a4,_⟩;·exact absurd (h2▸ht a3 a4) (irr _)
    ·exact a4
   ·rw[<-a3,h2]
def back(b:Gt.Kn)(scope:Int)(e:Nat)(k:Nat):Bool:=(List.range k).any λi=>(eF b i==eF b e&&eT b i==eT b e)&&eIn b scope i
theorem zpF(b:Gt.Kn)(scope:Int)(e k:Nat):back b scope e (k+1)=(back b scope e k||((eF b k==eF b e&&eT b k==eT b e)&&eIn b scope k)):=by unfold back;rw[yCo,List.any_append];simp
theorem m60_eq'(orc:Orc Sx)(h62:∀(b:Gt.Kn) r,b.Ka.length<=1000000->orc.d 62 [.st 3 b,.str r] [.int .i64]=(some (zfF b r,()):Option (Int×J))){b:Gt.Kn}(hb:Right b)(scope:Int) :
  m60 orc b scope=some (Gt.Wb.mk (zbr b) (za6 (outs b scope)) (za6 (zi4 b scope)) (num b b.root),()):=by
 have hE:=hb.Kh scope;have hn:=hb.n;have hm:=hb.m;unfold m60;rw[show len b.Ka=((b.Ka.length:Nat):Int) from rfl,ziK (by omega),zaa,zaa,zmA,h62 b b.root (by omega),zaa,hb.place hb.root]
 rw[show zak (σ:=Int×List By×List (List Int)×List (List Int)×Int×List (By×Int)×J) (R:=(List By×List (List Int)×List (List Int)×Int×List (By×Int)×J)⊕(Gt.Wb×J)) _
     (0,[],za6 (List.replicate b.Ka.length []),za6 (List.replicate b.Ka.length []),((num b b.root:Nat):Int),[],()) =
     some (.inl (zbr b,za6 (List.replicate b.Ka.length []),za6 (List.replicate b.Ka.length []),((num b b.root:Nat):Int),zfP b b.Ka.length,())) from
  zby (A:=List By×List (By×Int)) (λk s=>((k:Int),s.1,za6 (List.replicate b.Ka.length []),za6 (List.replicate b.Ka.length []),((num b b.root:Nat):Int),s.2,())) b.Ka.length
   (λ_ _=>(.inl (zbr b,za6 (List.replicate b.Ka.length []),za6 (List.replicate b.Ka.length []),((num b b.root:Nat):Int),zfP b b.Ka.length,()):(List By×List (List Int)×List (List Int)×Int×List (By×Int)×J)⊕(Gt.Wb×J)))
   (λk s=>s.1=(zbr b).take k/\s.2=zfP b k) (λk s hk hI=>?_) 0 ([],[]) (yAA _) ⟨rfl,rfl⟩]
 rotate_left
 ·obtain ⟨i1,i2⟩:=hI;dsimp only;by_cases Ks:k<b.Ka.length
  ·left;have hl:(zbr b).length=b.Ka.length:=by simp[zbr]
   refine ⟨(s.1++[cR b k],zgw (keq un .str) (cR b k) (k:Int) s.2),Ks,?_,⟨?_,?_⟩,rfl⟩;·rw[show decide ((k:Int)<((b.Ka.length:Nat):Int))=true from by simp;exact Ks,zac,zan Ks,zaa,zbc (by rw[i1];simp[lim,hl];omega),zaa,zaf Ks (by omega),zcU Ks]
   ·rw[i1,yBQ (by omega),zcU Ks];simp[zbr]
   ·show zgw (keq un .str) (cR b k) (k:Int) s.2=_;rw[ziX,i2]
  ·right;have hk':k=b.Ka.length:=by omega
   subst hk';rw[show decide (((b.Ka.length:Nat):Int)<((b.Ka.length:Nat):Int))=false from by simp,zab,i1,i2,yA7 (by simp[zbr])]
 rw[zaj];dsimp only
 rw[show zak (σ:=Int×List By×List (List Int)×List (List Int)×Int×J) (R:=(List By×List (List Int)×List (List Int)×Int×J)⊕(Gt.Wb×J)) _
     (0,zbr b,za6 (List.replicate b.Ka.length []),za6 (List.replicate b.Ka.length []),((num b b.root:Nat):Int),()) =
     some (.inl (zbr b,za6 ((List.range b.Kh.length).foldl (zht (eP b) λk=>eIn b scope k&& !eTw b scope k) (List.replicate b.Ka.length [],List.replicate b.Ka.length [])).1,za6 ((List.range b.Kh.length).foldl (zht (eP b) λk=>eIn b scope k&& !eTw b scope k) (List.replicate b.Ka.length [],List.replicate b.Ka.length [])).2,((num b b.root:Nat):Int),())) from
  zcK (mk:=λk (s:List (List Nat)×List (List Nat))=>((k:Int),zbr b,za6 s.1,za6 s.2,((num b b.root:Nat):Int),())) (List.range b.Kh.length) (zht (eP b) λk=>eIn b scope k&& !eTw b scope k)
   (λs=>(.inl (zbr b,za6 s.1,za6 s.2,((num b b.root:Nat):Int),()):(List By×List (List Int)×List (List Int)×Int×J)⊕(Gt.Wb×J)))
   (λk s=>RowsI b.Ka.length k s) (λk hk s hI=>?_) (λs hI=>?_) (List.replicate b.Ka.length [],List.replicate b.Ka.length []) ⟨by simp,by simp,λa=>by simp[zgm],λa=>by simp[zgm]⟩]
 ·rw[zaj,zsR];rfl
 ·have hk':k<b.Kh.length:=by simpa using hk
  have Ks:=hE.lt k hk';rw[yBc];refine ⟨?_,?_⟩
  rotate_left
  ·show RowsI _ (k+1) (bif (eIn b scope k&& !eTw b scope k) then zjn s (eP b k) else s);cases eIn b scope k&& !eTw b scope k with
   |true=>exact hI.add Ks.1 Ks.2|false=>exact hI.same
  dsimp only;rw[show decide ((k:Int)<len b.Kh)=true from by simp[len];exact hk',zac,zan hk',zaa,zaf hk' (by omega)];unfold zht;dsimp only;cases Kt:eIn b scope k with
  |false =>
    have:decide (scope<b.Kh[k].scope)=true:=by unfold eIn at Kt;rw[zgV hk'] at Kt;simp at Kt ⊢;exact Kt
    rw[this,zac,zaj];rfl
  |true =>
    have hsc:decide (scope<b.Kh[k].scope)=false:=(by unfold eIn at Kt;rw[zgV hk'] at Kt;simp at Kt ⊢;exact Kt);rw[hsc,zab]
    have hback:∀(j:Nat)(tw:Bool),j<=k->zak (σ:=Bool×Int×List By×List (List Int)×List (List Int)×Int×J) (R:=(Bool×List By×List (List Int)×List (List Int)×Int×J)⊕((List By×List (List Int)×List (List Int)×Int×J)⊕((Int×List By×List (List Int)×List (List Int)×Int×J)⊕((List By×List (List Int)×List (List Int)×Int×J)⊕(Gt.Wb×J)))))
      (λ(t10:Bool×Int×List By×List (List Int)×List (List Int)×Int×J)=>ob (br (decide (0<=t10.2.1)) (ob (at? (Gt.Kn.Kh b) t10.2.1) λy11=>some ((Gt.K6.from_ y11)==(Gt.K6.from_ b.Kh[k]))) (some false)) λb12=>ob (br b12 (ob (at? (Gt.Kn.Kh b) t10.2.1) λy13=>some ((Gt.K6.to y13)==(Gt.K6.to b.Kh[k]))) (some false)) λb14=>br b14 (ob (br t10.1 (some true) (ob (at? (Gt.Kn.Kh b) t10.2.1) λy15=>some (decide ((Gt.K6.scope y15)<=scope)))) λb16=>some (.inl (b16,IntKind.i64.wrap (t10.2.1 - 1),t10.2.2.1,t10.2.2.2.1,t10.2.2.2.2.1,t10.2.2.2.2.2.1,()))) (some (.inr (.inl (t10.1,t10.2.2.1,t10.2.2.2.1,t10.2.2.2.2.1,t10.2.2.2.2.2.1,())))))
      (tw,(j:Int) - 1,zbr b,za6 s.1,za6 s.2,((num b b.root:Nat):Int),())=some (.inl (tw||back b scope k j,zbr b,za6 s.1,za6 s.2,((num b b.root:Nat):Int),())):=by
     intro j;induction j with
     |zero =>intro tw _;refine zaD ?_;dsimp only;rw[show decide ((0:Int)<=((0:Nat):Int) - 1)=false from by simp,zab,zaa,zab,zaa,zab];simp[back]
     |succ j ih =>
       intro tw hj;have hjl:j<b.Kh.length:=by omega
       have hst:(((j+1:Nat):Int) - 1)=(j:Int):=(by omega);rw[hst];by_cases hp:eF b j=eF b k/\eT b j=eT b k
       ·refine (zaR (y:=(tw||eIn b scope j,(j:Int) - 1,zbr b,za6 s.1,za6 s.2,((num b b.root:Nat):Int),())) ?_).trans ?_
        ·dsimp only
         rw[show decide ((0:Int)<=(j:Int))=true from by simp,zac,zan hjl,zaa,zaa,<-zfY hjl,<-zfY hk',hp.1,show (eF b k==eF b k)=true from by simp,zac,zaa,zaa,<-zfX hjl,<-zfX hk',hp.2,show (eT b k==eT b k)=true from by simp,zac,zaa,<-zgV hjl,
          zaH (by omega) (by omega),zai,zaa,zbS]
         rfl
        ·rw[ih _ (by omega),zpF,hp.1,hp.2];cases tw<;>cases back b scope k j<;>cases eIn b scope j<;>simp
       ·have hno:back b scope k (j+1)=false:=by
         unfold back;rw[yB0];intro i hi;have hi:i<j+1:=by simpa using hi
         simp only[yAd,beq_iff_eq,not_and,Bool.not_eq_true];intro h;exfalso;rcases yAT i j with h1|h1;·exact hp (zou hb h1 (by omega) hk' h.1 h.2)
         ·have:i=j:=by omega
          subst this;exact hp h
        rw[hno,Bool.or_false];refine zaD ?_;dsimp only;rw[show decide ((0:Int)<=(j:Int))=true from by simp,zac,zan hjl,zaa,zaa,<-zfY hjl,<-zfY hk',zaa,<-zfX hjl,<-zfX hk',zai,zaa];rw[show (bif eF b j==eF b k then eT b j==eT b k else false)=false from by
         cases h1:eF b j==eF b k with
         |false=>rfl|true =>
           cases h2:eT b j==eT b k with
           |false=>rfl|true=>exact absurd ⟨by simpa using h1,by simpa using h2⟩ hp,zab]
    have hb0:=hback k false (yAi _);rw[zaH (by omega) (by omega),hb0,zaj];dsimp only;rw[Bool.false_or,show back b scope k k=eTw b scope k from rfl];cases htw:eTw b scope k with
    |true=>rfl|false =>
    have e1:zdh (keq un .str) b.Kh[k].from_ 0 (zfP b b.Ka.length)=((eP b k).1:Int):=(by rw[<-zfY hk'];exact hb.map_num (hb.ends k hk').1);have e2:zdh (keq un .str) b.Kh[k].to 0 (zfP b b.Ka.length)=((eP b k).2:Int):=(by rw[<-zfX hk'];exact hb.map_num (hb.ends k hk').2.1);have l1:(eP b k).1<(za6 s.1).length:=(by rw[zeC,hI.l1];exact Ks.1);have l2:(eP b k).2<(za6 s.2).length:=(by rw[zeC,hI.l2];exact Ks.2);have q1:=hI.r1 (eP b k).1;have q2:=hI.r2 (eP b k).2;rw[Bool.not_false,zac,e1,e2,zle l1,zaa,znY (by rw[hI.l1];exact Ks.1),zaa,zbc (by simp[ofN,lim];omega),zaa,zaa,zgJ l1,cond_true,zle l2,zaa,znY (by rw[hI.l2];exact Ks.2),zaa,zbc (by simp[ofN,lim];omega),zaa,zaa,zgJ l2,cond_true,zaj];dsimp only;rw[show ofN (row s.1 (eP b k).1)++[((eP b k).2:Int)]=ofN (row s.1 (eP b k).1++[(eP b k).2]) from by simp[ofN],show ofN (row s.2 (eP b k).2)++[((eP b k).1:Int)]=ofN (row s.2 (eP b k).2++[(eP b k).1]) from by simp[ofN],zeB,zeB];rfl
 ·dsimp only;rw[yBe,show decide ((b.Kh.length:Int)<len b.Kh)=false from by simp[len],zab]
end Tryz
end Pe
end
