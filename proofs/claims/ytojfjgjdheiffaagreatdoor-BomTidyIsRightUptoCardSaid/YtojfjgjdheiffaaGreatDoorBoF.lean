/- PROVED HERE: a part of the seat's proofs; see the text that holds the claim's theorem. -/
import Derived.Test.YtojfjgjdheiffaaGreatDoorPeS
import Derived.Test.YtojfjgjdheiffaaGreatDoorBoD
set_option maxRecDepth 100000
section
set_option linter.unusedVariables false
namespace Pe
open Go
def inB{α R:Type}(e:α->α->Option Bool)(t7:List α×Int×Int×Int×J):Option ((List α×Int×Int×Int×J)⊕((List α×Int×J)⊕R)) :=
 (br (decide (t7.2.2.1<(len (List.drop (Int.toNat t7.2.2.2.1) t7.1)))) (ob (zcX (List.drop (Int.toNat t7.2.2.2.1) t7.1) t7.2.2.1) λk8=>ob (zdc t7.1 ((Int.toNat t7.2.2.2.1)+k8)) λy9=>ob (zcX (List.drop (Int.toNat t7.2.2.2.1) t7.1) (IntKind.i64.wrap (t7.2.2.1 - 1))) λk10=>ob (zdc t7.1 ((Int.toNat t7.2.2.2.1)+k10)) λy11=>ob (e y9 y11) λb=>br (!b) (ob (zcX (List.drop (Int.toNat t7.2.2.2.1) t7.1) t7.2.2.1) λk12=>ob (zdc t7.1 ((Int.toNat t7.2.2.2.1)+k12)) λy13=>ob (zcX t7.1 t7.2.1) λj14=>ob (zdc t7.1 j14) λy15=>some (.inl (t7.1.set j14 y13,IntKind.i64.wrap (t7.2.1+1),IntKind.i64.wrap (t7.2.2.1+1),(((Int.toNat t7.2.2.2.1):Nat):Int),()))) (some (.inl (t7.1,t7.2.1,IntKind.i64.wrap (t7.2.2.1+1),(((Int.toNat t7.2.2.2.1):Nat):Int),())))) (some (.inr (.inl (t7.1,t7.2.1,())))))
noncomputable def zry{α R:Type}(z:α)(e:α->α->Option Bool)(t1:List α×Int×J):Option ((List α×Int×J)⊕((List α×J)⊕((List α×J)⊕R))) :=
 (br (decide (t1.2.1<(len t1.1))) (zaE (σ:=List α×Int×J) (R:=(List α×Int×J)⊕((List α×J)⊕((List α×J)⊕R))) (ob (zcX t1.1 t1.2.1) λj2=>ob (zdc t1.1 j2) λy3=>ob (zcX t1.1 (IntKind.i64.wrap (t1.2.1 - 1))) λj4=>ob (zdc t1.1 j4) λy5=>ob (e y3 y5) λb=>br b (ob (zhs t1.1 t1.2.1) λi6=>zaE (σ:=List α×Int×J) (R:=(List α×Int×J)⊕((List α×Int×J)⊕((List α×J)⊕((List α×J)⊕R)))) (zak (σ:=List α×Int×Int×Int×J) (inB e) (t1.1,t1.2.1,1,((i6:Nat):Int),())) λ(t16:List α×Int×J)=>ob (zhs t16.1 t16.2.1) λi17=>bif (Nat.ble i17 (List.length t16.1)) then (ob (zhN ((List.take i17 t16.1)++(List.replicate ((List.length t16.1) - i17) z)) 0 t16.2.1) λs18=>some (.inr (.inr (.inr (.inl (s18,())))))) else none) (some (.inl (t1.1,t1.2.1,())))) λ(t19:List α×Int×J)=>some (.inl (t19.1,IntKind.i64.wrap (t19.2.1+1),()))) (some (.inr (.inl (t1.1,())))))
noncomputable def znb{α R:Type}(z:α)(e:α->α->Option Bool)(s:List α):Option ((List α×J)⊕R) :=
 (br (decide ((len s)<2)) (some (.inl (s,()))) (zaE (σ:=List α×J) (zak (σ:=List α×Int×J) (zry z e) (s,1,())) λ(t20:List α×J)=>some (.inl (t20.1,()))))
def zhn{α:Type}(t:α->α->Bool)(s:List α):Nat->List α
 |0=>[]|m+1=>match s[m]? with
   |none=>zhn t s m|some x=>bif (Nat.blt 0 m)&&(match s[m - 1]? with|some y=>t x y|none=>false) then zhn t s m else zhn t s m++[x]
theorem zj9{α:Type}(t:α->α->Bool){s:List α}(h:0<s.length):zhn t s 1=s.take 1:=by
 cases s with
 |nil=>simp at h|cons x r=>rfl
theorem zie{α:Type}(t:α->α->Bool){s:List α}{m:Nat}(h0:0<m)(h:m<s.length):zhn t s (m+1)=if t s[m] (s[m - 1]'(by omega)) then zhn t s m else zhn t s m++[s[m]]:=by
 simp only[zhn,yAe h,yAe (show m - 1<s.length by omega)];have:Nat.blt 0 m=true:=by simpa[yAN] using h0
 rw[this];cases t s[m] (s[m - 1]'(by omega))<;>simp
theorem zfj{α:Type}{l:List α}{k:Nat}(h:k<l.length):zcX l (k:Int)=some k:=by
 show (bif Nat.blt k l.length then some k else none)=_;have:Nat.blt k l.length=true:=by simpa[yAN] using h
 rw[this];rfl
theorem zmq{α:Type}{l:List α}{k:Nat}(h:k<=l.length)(h0:0<l.length):zhs l (k:Int)=some k:=by
 show (bif Nat.ble k l.length&&Nat.blt 0 l.length then some k else none)=_;have h1:Nat.ble k l.length=true:=by simpa[yAK] using h
 have h2:Nat.blt 0 l.length=true:=by simpa[yAN] using h0
 rw[h1,h2];rfl
theorem zfk{α:Type}{l:List α}{k:Nat}(h:k<l.length):zdc l k=some l[k]:=yAe h
theorem zpm{α:Type}{r s:List α}{j m:Nat}(h:r.drop j=s.drop j)(hm:j<=m):r[m]?=s[m]? :=by
 have h1:(r.drop j)[m - j]?=(s.drop j)[m - j]? :=by rw[h]
 rw[yAu,yAu,show j+(m - j)=m by omega] at h1;exact h1
theorem zrN{α R:Type}{e:α->α->Option Bool}{t:α->α->Bool}{s:List α}(he:∀x∈s,∀y∈s,e x y=some (t x y))(hn:s.length<=4294967296){k0:Nat} :
  ∀(d k2 k:Nat)(row:List α),s.length=k0+k2+d->1<=k2->row.length=s.length->1<=k->k<=k0+k2 - 1->row.take k=zhn t s (k0+k2)->row.drop (k0+k2 - 1)=s.drop (k0+k2 - 1) ->
   ∃row' k':_,zak (inB (R:=R) e) (row,(k:Int),(k2:Int),(k0:Int),())=some (.inl (row',((k':Nat):Int),()))/\row'.length=s.length/\1<=k'/\k'<=s.length/\row'.take k'=zhn t s s.length
 |0,k2,k,row,h1,h2,h3,h4,h5,h6,h7=>by
   refine ⟨row,k,zaD ?_,h3,h4,by omega,by rw[h6];congr 1;omega⟩;have:¬((k2:Int)<len (List.drop (Int.toNat (k0:Int)) row)):=by rw[zao];simp only[yAL,h3,Int.toNat_natCast];omega
   simp only[inB,this,decide_false,zab]
 |d+1,k2,k,row,h1,h2,h3,h4,h5,h6,h7=>by
   have hd:k2<(List.drop k0 row).length:=(by rw[yAL,h3];omega);have hd1:k2 - 1<(List.drop k0 row).length:=(by omega);have a1:k0+k2<row.length:=(by omega);have a2:k0+(k2 - 1)<row.length:=(by omega);have b1:k0+k2<s.length:=(by omega);have b2:k0+(k2 - 1)<s.length:=(by omega);have g1:row[k0+k2]=s[k0+k2]:=(by have:=zpm h7 (m:=k0+k2) (by omega);rw[yAe a1,yAe b1] at this;exact yAS this);have g2:row[k0+(k2 - 1)]=s[k0+(k2 - 1)]:=(by have:=zpm h7 (m:=k0+(k2 - 1)) (by omega);rw[yAe a2,yAe b2] at this;exact yAS this);have hw1:IntKind.i64.wrap ((k2:Int) - 1)=((k2 - 1:Nat):Int):=(by rw[zaH (by omega) (by omega)];omega);have hw2:IntKind.i64.wrap ((k2:Int)+1)=((k2+1:Nat):Int):=zaf (n:=s.length) (by omega) (by omega);have hw3:IntKind.i64.wrap ((k:Int)+1)=((k+1:Nat):Int):=zaf (n:=s.length) (by omega) (by omega);have Ks:((k2:Int)<len (List.drop k0 row)):=(by rw[zao];exact hd);have hc:=zie t (s:=s) (m:=k0+k2) (by omega) b1;have he1:=he s[k0+k2] (yAy _) (s[k0+(k2 - 1)]) (yAy _);have hkr:k<row.length:=(by omega);have step:inB (R:=R) e (row,(k:Int),(k2:Int),(k0:Int),())=some (.inl (if t s[k0+k2] s[k0+(k2 - 1)] then (row,(k:Int),((k2+1:Nat):Int),(k0:Int),()) else (row.set k s[k0+k2],((k+1:Nat):Int),((k2+1:Nat):Int),(k0:Int),()))):=(by simp only[inB,Int.toNat_natCast,Ks,decide_true,zac,zfj hd,zaa,zfk a1,hw1,zfj hd1,zfk a2,g1,g2,he1,hw2,hw3,zfj hkr,zfk hkr];cases t s[k0+k2] s[k0+(k2 - 1)]<;>rfl);rw[zaR step];have Vh:k0+k2 - 1=k0+(k2 - 1):=by omega
   have hdrop:∀r:List α,r.drop (k0+k2 - 1)=s.drop (k0+k2 - 1)->r.drop (k0+(k2+1) - 1)=s.drop (k0+(k2+1) - 1):=λr hr=>by have:=congrArg (List.drop 1) hr;rw[yBh,yBh,show k0+k2 - 1+1=k0+(k2+1) - 1 by omega] at this;exact this
   by_cases ht:t s[k0+k2] s[k0+(k2 - 1)]=true;·rw[if_pos ht];refine zrN he hn d (k2+1) k row (by omega) (by omega) h3 h4 (by omega) ?_ (hdrop row h7);rw[h6,show k0+(k2+1)=k0+k2+1 by omega,hc];simp only[Vh,ht,if_true]
   ·rw[if_neg ht];refine zrN he hn d (k2+1) (k+1) _ (by omega) (by omega) (by simpa using h3) (by omega) (by omega) ?_ ?_;·rw[show k0+(k2+1)=k0+k2+1 by omega,hc];simp only[Vh,ht];rw[<-h6,yCk,yAx hkr,List.take_set_of_le (yAi _)];simp
    ·refine Eq.trans ?_ (hdrop row h7);rw[List.drop_set_of_lt (by omega)]
theorem zsB{α R:Type}{z:α}{e:α->α->Option Bool}{t:α->α->Bool}{s:List α}(he:∀x∈s,∀y∈s,e x y=some (t x y))(hn:s.length<=4294967296) :
  ∀(d k:Nat),s.length=k+d->1<=k->zhn t s k=s.take k->∃x,zak (zry (R:=R) z e) (s,(k:Int),())=some x/\(x= .inl (zhn t s s.length,())\/x= .inr (.inl (zhn t s s.length,())))
 |0,k,h1,h2,h3=>by
   refine ⟨_,zaD (r:= .inl (s,())) ?_,.inl ?_⟩
   ·have:¬((k:Int)<len s):=by rw[zao];omega
    simp only[zry,this,decide_false,zab]
   ·rw[show s.length=k by omega,h3,yA7 (by omega)]
 |d+1,k,h1,h2,h3=>by
   have b1:k<s.length:=(by omega);have b2:k - 1<s.length:=(by omega);have hw1:IntKind.i64.wrap ((k:Int) - 1)=((k - 1:Nat):Int):=(by rw[zaH (by omega) (by omega)];omega);have hw2:IntKind.i64.wrap ((k:Int)+1)=((k+1:Nat):Int):=zaf (n:=s.length) (by omega) (by omega);have Ks:((k:Int)<len s):=(by rw[zao];exact b1);have hc:=zie t (s:=s) (m:=k) (by omega) b1;have he1:=he s[k] (yAy _) (s[k - 1]) (yAy _);by_cases ht:t s[k] s[k - 1]=true
   ·obtain ⟨row',k',q1,q2,q3,q4,q5⟩:=zrN (R:=(List α×Int×J)⊕((List α×Int×J)⊕((List α×J)⊕((List α×J)⊕R)))) he hn (k0:=k) d 1 k s (by omega) (by omega) rfl h2 (by omega) (by rw[hc,if_pos ht,h3]) rfl;refine ⟨.inr (.inl (zhn t s s.length,())),zaD ?_,.inr rfl⟩;have hp:zhN ((List.take k' row')++(List.replicate ((List.length row') - k') z)) 0 (k':Int)=some (zhn t s s.length):=by
     rw[show (0:Int)=((0:Nat):Int) from rfl,zhM (yAA _) (by simp;omega)];rw[yBo,Nat.sub_zero,List.take_append_of_le_length (by simp;omega),List.take_take,Nat.min_self,q5]
    have hbl:Nat.ble k' row'.length=true:=(by rw[yAK,q2];exact q4);have q1':zak (inB (R:=(List α×Int×J)⊕((List α×Int×J)⊕((List α×J)⊕((List α×J)⊕R)))) e) (s,(k:Int),(1:Int),(k:Int),())=some (.inl (row',((k':Nat):Int),())):=q1;simp only[zry,Ks,decide_true,zac,zfj b1,zaa,zfk b1,hw1,zfj b2,zfk b2,he1,ht,zmq (yBf b1) (by omega:0<s.length),q1',zaj,zmq (l:=row') (k:=k') (by omega) (by omega),hbl,cond_true,hp,zaU]
   ·have step:zry (R:=R) z e (s,(k:Int),())=some (.inl (s,((k+1:Nat):Int),())):=by
     simp only[zry,Ks,decide_true,zac,zfj b1,zaa,zfk b1,hw1,zfj b2,zfk b2,he1,ht,zab,zaj,hw2]
    rw[zaR step];refine zsB he hn d (k+1) (by omega) (by omega) ?_;rw[hc,if_neg ht,h3,yCk,yAe b1];rfl
theorem zmg{α R:Type}{z:α}{e:α->α->Option Bool}{t:α->α->Bool}{s:List α}(he:∀x∈s,∀y∈s,e x y=some (t x y))(hn:s.length<=4294967296):znb (R:=R) z e s=some (.inl (zhn t s s.length,())):=by
 unfold znb;by_cases h2:s.length<2
 ·have:(len s<2):=by unfold len;omega
  rw[decide_eq_true this,zac]
  match s,h2 with
  |[],_=>rfl|[x],_=>simp[zj9 t (s:=[x]) (by simp)]|_::_::r,h2=>exact absurd h2 (by simp only[yAw];omega)
 ·have:¬(len s<2):=by unfold len;omega
  rw[decide_eq_false this,zab];obtain ⟨x,h3,h4⟩:=zsB (R:=R) (z:=z) he hn (s.length - 1) 1 (by omega) (yAi _) (zj9 t (by omega));have h3':zak (zry (R:=R) z e) (s,(1:Int),())=some x:=h3;rw[h3'];rcases h4 with rfl|rfl;·rw[zaj]
  ·rw[zaU]
end Pe
end
section
set_option linter.unusedVariables false
namespace Pe
open Go
def zpW{α:Type}(c:α->α->Int)(l:List α):Prop:=l.Pairwise λx y=>c x y<0
structure OrdAll {α:Type} (c:α->α->Int):Prop where
 irr:∀x,¬c x x<0
 trans:∀x y z,c x y<0->c y z<0->c x z<0
 eq:∀x y,¬c x y<0->¬c y x<0->x=y
theorem OrdAll.on{α:Type}{c:α->α->Int}(h:OrdAll c)(l:List α):OrdOn l c:=⟨λx _=>h.irr x,λx _ y _ z _=>h.trans x y z,λx _ y _=>h.eq x y⟩
theorem znA{α:Type}{c:α->α->Int}(h:OrdAll c){a b:List α}(ha:zpW c a)(hb:zpW c b)(hm:∀x,x∈a↔x∈b):a=b:=by have nd:∀{l:List α},zpW c l->l.Nodup:=λ{l} hl=>List.Pairwise.imp (λ{x y} hxy he=>by subst he;exact h.irr _ hxy) hl;have asn:∀{l:List α},zpW c l->zq3 c l:=λ{l} hl=>List.Pairwise.imp (λ{x y} hxy hyx=>h.irr x (h.trans x y x hxy hyx)) hl;refine zjm (h.on a) (asn ha) (asn hb) ((List.perm_ext_iff_of_nodup (nd ha) (nd hb)).2 hm)
theorem znc{α:Type}{c:α->α->Int}(h:OrdAll c){t:α->α->Bool}(ht:∀x y,t x y=true↔x=y){l:List α}(hl:zq3 c l):∀m,m<=l.length->zpW c (zhn t l m)/\∀x,x∈zhn t l m↔x∈l.take m
 |0,_=>⟨List.Pairwise.nil,λx=>by simp[zhn]⟩|1,hm=>by rw[zj9 t (by omega)];refine ⟨?_,λx=>Iff.rfl⟩;match l,hm with|x::r,_=>exact yBs _ _
 |m+2,hm=>by
   obtain ⟨h1,h2⟩:=znc h ht hl (m+1) (by omega);have hb:m+1<l.length:=by omega
   have hb':m<l.length:=(by omega);rw[zie t (by omega:0<m+1) hb];have hs:m+1 - 1=m:=by omega
   simp only[hs];by_cases hx:l[m+1]=l[m];·rw[if_pos ((ht _ _).2 hx)];refine ⟨h1,λx=>?_⟩;rw[h2,yCk (i:=m+1),yAe hb,yAp,hx];simp only[Option.toList_some,yBp];refine ⟨.inl,λhx2=>hx2.elim id λhx2=>?_⟩;subst hx2;exact List.mem_take_iff_getElem.2 ⟨m,by omega,rfl⟩
   ·have hx':¬t l[m+1] l[m]=true:=λhc=>hx ((ht _ _).1 hc);rw[if_neg hx'];refine ⟨List.pairwise_append.2 ⟨h1,yBs _ _,λy hy z hz=>?_⟩,λx=>?_⟩
    ·rw[yBp] at hz;subst hz;obtain ⟨i,hi,rfl⟩:=List.mem_take_iff_getElem.1 ((h2 y).1 hy);have hi':i<m+1:=by omega
     have asc:=yAH.1 hl;have g1:=asc i (m+1) (by omega) hb hi';by_cases g2:c l[i] l[m+1]<0;·exact g2
     ·exfalso;have e1:=h.eq _ _ g2 g1;have g3:=asc m (m+1) hb' hb (by omega);apply hx;by_cases him:i=m;·subst him;exact e1.symm
      ·have g4:=asc i m (by omega) hb' (by omega);rw[e1] at g4;exact h.eq _ _ g3 g4
    ·rw[yAp,h2,yCk (i:=m+1),yAe hb,yAp];simp
theorem zgX(a b:By):Op.bytesLess a b=decide (a<b):=Go.Proofs.bytesLess_eq a b
def cS(x y:By):Int:=if x<y then -1 else if y<x then 1 else 0
theorem zc4(x y:By):cS x y<0↔x<y:=by
 unfold cS;by_cases h1:x<y;·simp[h1]
 ·by_cases h2:y<x<;>simp[h1,h2]
theorem zly:OrdAll cS:=⟨λx=>by rw[zc4];exact yBn x,λx y z=>by simp only[zc4];exact yCa,λx y h1 h2=>by rw[zc4] at h1 h2;exact List.le_antisymm (List.not_lt.1 h2) (List.not_lt.1 h1)⟩
def zzg(s:By):List By->List By|[]=>[s]|y::r=>if y=s then y::r else if s<y then s::y::r else y::zzg s r
theorem zyH(s:By):∀(l:List By)(x:By),x∈zzg s l↔x=s\/x∈l
 |[],x=>by simp[zzg]
 |y::r,x=>by
   unfold zzg;split;·rename_i h;subst h;simp
   ·split;·simp
    ·simp only[yAm,zyH s r x];exact ⟨λh=>h.elim (λh=>.inr (.inl h)) λh=>h.elim .inl λh=>.inr (.inr h),λh=>h.elim (λh=>.inr (.inl h)) λh=>h.elim .inl λh=>.inr (.inr h)⟩
theorem zyP(s:By):∀(l:List By),zpW cS l->zpW cS (zzg s l)
 |[],_=>yBs _ _|y::r,h=>by
   obtain ⟨h1,h2⟩:=yBU.1 h;unfold zzg;split;·exact h
   ·rename_i hne;split
    ·rename_i Ks;refine yBU.2 ⟨λz hz=>?_,h⟩;rcases yAm.1 hz with rfl|hz;·exact (zc4 _ _).2 Ks
     ·exact zly.trans _ _ _ ((zc4 _ _).2 Ks) (h1 z hz)
    ·rename_i K5;refine yBU.2 ⟨λz hz=>?_,zyP s r h2⟩;rcases (zyH s r z).1 hz with rfl|hz
     ·rw[zc4];rcases (List.le_iff_lt_or_eq (l₁:=y) (l₂:=z)).1 (List.not_lt.1 K5) with h3|h3;·exact h3
      ·exact absurd h3 hne
     ·exact h1 z hz
def zyF(acc d:List By):List By:=d.foldl (λa s=>zzg s a) acc
theorem zy9:∀(d acc:List By)(x:By),x∈zyF acc d↔x∈acc\/x∈d
 |[],acc,x=>by simp[zyF]
 |s::d,acc,x=>by show x∈zyF (zzg s acc) d↔_;rw[zy9 d,zyH];simp only[yAm];exact ⟨λh=>h.elim (λh=>h.elim (λh=>.inr (.inl h)) .inl) λh=>.inr (.inr h),λh=>h.elim (λh=>.inl (.inr h)) λh=>h.elim (λh=>.inl (.inl h)) .inr⟩
theorem zy7:∀(d acc:List By),zpW cS acc->zpW cS (zyF acc d)|[],_,h=>h|s::d,acc,h=>zy7 d _ (zyP s acc h)
end Pe
end
section
namespace Pe
theorem zle{α:Type}{l:List α}{k:Nat}(h:k<l.length):zcX l (k:Int)=some k:=by show (bif Nat.blt k l.length then some k else none)=some k;rw[show Nat.blt k l.length=true from by simpa[yAN] using h];rfl
end Pe
end
section
namespace Pe.Tryz
open Go
def cR(b:Gt.Kr)(k:Nat):By:=(b.Kc[k]?.map (·.ref)).getD []
theorem zcU{b:Gt.Kr}{k:Nat}(h:k<b.Kc.length):cR b k=b.Kc[k].ref:=by unfold cR;rw[yAe h];rfl
def zbm(b:Gt.Kr)(r:By):Prop:=∃k,k<b.Kc.length/\cR b k=r
theorem zeG(x y:El Sx .str):keq un .str x y=true↔x=y:=by show (@BEq.beq By _ x y)=true↔_;exact beq_iff_eq
end Pe.Tryz
end
