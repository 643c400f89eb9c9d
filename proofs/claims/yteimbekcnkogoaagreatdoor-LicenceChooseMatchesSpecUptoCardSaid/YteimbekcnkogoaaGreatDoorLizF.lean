/- PROVED HERE: a part of the seat's proofs; see the text that holds the claim's theorem. -/
import Derived.Test.YteimbekcnkogoaaGreatDoorNm
import Derived.Sort.Walk0
import Derived.Test.YteimbekcnkogoaaGreatDoorPeE
import Derived.Test.YteimbekcnkogoaaGreatDoorPeSf
import Derived.Test.YteimbekcnkogoaaGreatDoorLizE
section
/- Sorted rows zbh repeats: slices.Compact as it is read, over no program. -/
set_option linter.unusedVariables false
namespace Pe
open Go
def inB {α R:Type} (e:α→α→Option Bool) (t7:List α×Int×Int×Int×Unit):Option ((List α×Int×Int×Int×Unit)⊕((List α×Int×Unit)⊕R)) :=
 (br (decide (t7.2.2.1<(len (List.drop (Int.toNat t7.2.2.2.1) t7.1)))) (ob (zeb (List.drop (Int.toNat t7.2.2.2.1) t7.1) t7.2.2.1) fun k8=>(ob (zez t7.1 ((Int.toNat t7.2.2.2.1)+k8)) fun y9=>(ob (zeb (List.drop (Int.toNat t7.2.2.2.1) t7.1) (IntKind.i64.wrap (t7.2.2.1 - 1))) fun k10=>(ob (zez t7.1 ((Int.toNat t7.2.2.2.1)+k10)) fun y11=>(ob (e y9 y11) fun b=>(br (!b) (ob (zeb (List.drop (Int.toNat t7.2.2.2.1) t7.1) t7.2.2.1) fun k12=>(ob (zez t7.1 ((Int.toNat t7.2.2.2.1)+k12)) fun y13=>(ob (zeb t7.1 t7.2.1) fun j14=>(ob (zez t7.1 j14) fun y15=>(some (.inl ((t7.1.set j14 y13),(IntKind.i64.wrap (t7.2.1+1)),(IntKind.i64.wrap (t7.2.2.1+1)),(((Int.toNat t7.2.2.2.1):Nat):Int),()))))))) (some (.inl (t7.1,t7.2.1,(IntKind.i64.wrap (t7.2.2.1+1)),(((Int.toNat t7.2.2.2.1):Nat):Int),()))))))))) (some (.inr (.inl (t7.1,t7.2.1,())))))
noncomputable def zrW {α R:Type} (z:α) (e:α→α→Option Bool) (t1:List α×Int×Unit):Option ((List α×Int×Unit)⊕((List α×Unit)⊕((List α×Unit)⊕R))) :=
 (br (decide (t1.2.1<(len t1.1))) (zaz (σ:=List α×Int×Unit) (R:=(List α×Int×Unit)⊕((List α×Unit)⊕((List α×Unit)⊕R))) (ob (zeb t1.1 t1.2.1) fun j2=>(ob (zez t1.1 j2) fun y3=>(ob (zeb t1.1 (IntKind.i64.wrap (t1.2.1 - 1))) fun j4=>(ob (zez t1.1 j4) fun y5=>(ob (e y3 y5) fun b=>(br b (ob (zge t1.1 t1.2.1) fun i6=>(zaz (σ:=List α×Int×Unit) (R:=(List α×Int×Unit)⊕((List α×Int×Unit)⊕((List α×Unit)⊕((List α×Unit)⊕R)))) (zan (σ:=List α×Int×Int×Int×Unit) (inB e) (t1.1,t1.2.1,1,((i6:Nat):Int),())) fun (t16:List α×Int×Unit)=>(ob (zge t16.1 t16.2.1) fun i17=>(bif (Nat.ble i17 (List.length t16.1)) then (ob (za8 ((List.take i17 t16.1)++(List.replicate ((List.length t16.1) - i17) z)) 0 t16.2.1) fun s18=>(some (.inr (.inr (.inr (.inl (s18,()))))))) else none)))) (some (.inl (t1.1,t1.2.1,()))))))))) fun (t19:List α×Int×Unit)=>(some (.inl (t19.1,(IntKind.i64.wrap (t19.2.1+1)),())))) (some (.inr (.inl (t1.1,())))))
noncomputable def zeS {α R:Type} (z:α) (e:α→α→Option Bool) (s:List α):Option ((List α×Unit)⊕R) :=
 (br (decide ((len s)<2)) (some (.inl (s,()))) (zaz (σ:=List α×Unit) (zan (σ:=List α×Int×Unit) (zrW z e) (s,1,())) fun (t20:List α×Unit)=>(some (.inl (t20.1,())))))
def zid {α:Type} (t:α→α→Bool) (s:List α):Nat→List α
 | 0=>[]
 | m+1=>match s[m]? with
   | none=>zid t s m
   | some x=>bif (Nat.blt 0 m)&&(match s[m - 1]? with | some y=>t x y | none=>false) then zid t s m else zid t s m++[x]
theorem zki {α:Type} (t:α→α→Bool) {s:List α} (h:0<s.length):zid t s 1=s.take 1:=by
 cases s with
 | nil=>simp at h
 | cons x r=>rfl
theorem zic {α:Type} (t:α→α→Bool) {s:List α} {m:Nat} (h0:0<m) (h:m<s.length):zid t s (m+1)=if t s[m] (s[m - 1]'(by omega)) then zid t s m else zid t s m++[s[m]]:=by
 simp only [zid,yAe h,yAe (show m - 1<s.length by omega)]
 have:Nat.blt 0 m=true:=by simpa [yA4] using h0
 rw [this]
 cases t s[m] (s[m - 1]'(by omega))<;>simp
theorem zex {α:Type} {l:List α} {k:Nat} (h:k<l.length):zeb l (k:Int)=some k:=by
 show (bif Nat.blt k l.length then some k else none)=_
 have:Nat.blt k l.length=true:=by simpa [yA4] using h
 rw [this];rfl
theorem zmL {α:Type} {l:List α} {k:Nat} (h:k≤l.length) (h0:0<l.length):zge l (k:Int)=some k:=by
 show (bif Nat.ble k l.length&&Nat.blt 0 l.length then some k else none)=_
 have h1:Nat.ble k l.length=true:=by simpa [yAR] using h
 have h2:Nat.blt 0 l.length=true:=by simpa [yA4] using h0
 rw [h1,h2];rfl
theorem zey {α:Type} {l:List α} {k:Nat} (h:k<l.length):zez l k=some l[k]:=yAe h
theorem zpZ {α:Type} {r s:List α} {j m:Nat} (h:r.drop j=s.drop j) (hm:j≤m):r[m]? =s[m]? :=by
 have h1:(r.drop j)[m - j]? =(s.drop j)[m - j]? :=by rw [h]
 rw [yAu,yAu,show j+(m - j)=m by omega] at h1
 exact h1
theorem zsV {α R:Type} {e:α→α→Option Bool} {t:α→α→Bool} {s:List α} (he:∀x∈s,∀y∈s,e x y=some (t x y)) (hn:s.length≤4294967296) {k0:Nat} :
  ∀(d k2 k:Nat) (row:List α),s.length=k0+k2+d→1≤k2→row.length=s.length→1≤k→k≤k0+k2 - 1→row.take k=zid t s (k0+k2)→row.drop (k0+k2 - 1)=s.drop (k0+k2 - 1) →
   ∃row' k':_,zan (inB (R:=R) e) (row,(k:Int),(k2:Int),(k0:Int),())=some (.inl (row',((k':Nat):Int),()))∧row'.length=s.length∧1≤k'∧k'≤s.length∧row'.take k'=zid t s s.length
 | 0,k2,k,row,h1,h2,h3,h4,h5,h6,h7=>by
   refine ⟨row,k,zaw ?_,h3,h4,by omega,by rw [h6];congr 1;omega⟩
   have:¬((k2:Int)<len (List.drop (Int.toNat (k0:Int)) row)):=by
    rw [zam];simp only [yA2,h3,Int.toNat_natCast];omega
   simp only [inB,this,decide_false,zab]
 | d+1,k2,k,row,h1,h2,h3,h4,h5,h6,h7=>by
   have hd:k2<(List.drop k0 row).length:=by rw [yA2,h3];omega
   have hd1:k2 - 1<(List.drop k0 row).length:=by omega
   have a1:k0+k2<row.length:=by omega
   have a2:k0+(k2 - 1)<row.length:=by omega
   have b1:k0+k2<s.length:=by omega
   have b2:k0+(k2 - 1)<s.length:=by omega
   have g1:row[k0+k2]=s[k0+k2]:=by
    have:=zpZ h7 (m:=k0+k2) (by omega)
    rw [yAe a1,yAe b1] at this
    exact yAB this
   have g2:row[k0+(k2 - 1)]=s[k0+(k2 - 1)]:=by
    have:=zpZ h7 (m:=k0+(k2 - 1)) (by omega)
    rw [yAe a2,yAe b2] at this
    exact yAB this
   have hw1:IntKind.i64.wrap ((k2:Int) - 1)=((k2 - 1:Nat):Int):=by rw [za5 (by omega) (by omega)];omega
   have hw2:IntKind.i64.wrap ((k2:Int)+1)=((k2+1:Nat):Int):=zae (n:=s.length) (by omega) (by omega)
   have hw3:IntKind.i64.wrap ((k:Int)+1)=((k+1:Nat):Int):=zae (n:=s.length) (by omega) (by omega)
   have hlt:((k2:Int)<len (List.drop k0 row)):=by rw [zam];exact hd
   have hc:=zic t (s:=s) (m:=k0+k2) (by omega) b1
   have he1:=he s[k0+k2] (yAl _) (s[k0+(k2 - 1)]) (yAl _)
   have hkr:k<row.length:=by omega
   have step:inB (R:=R) e (row,(k:Int),(k2:Int),(k0:Int),())=some (.inl (if t s[k0+k2] s[k0+(k2 - 1)] then (row,(k:Int),((k2+1:Nat):Int),(k0:Int),()) else (row.set k s[k0+k2],((k+1:Nat):Int),((k2+1:Nat):Int),(k0:Int),()))):=by
    simp only [inB,Int.toNat_natCast,hlt,decide_true,zad,zex hd,zaa,zey a1,hw1,zex hd1,zey a2,g1,g2,he1,hw2,hw3,zex hkr,zey hkr]
    cases t s[k0+k2] s[k0+(k2 - 1)]<;>rfl
   rw [zaC step]
   have hidx:k0+k2 - 1=k0+(k2 - 1):=by omega
   have hdrop:∀r:List α,r.drop (k0+k2 - 1)=s.drop (k0+k2 - 1)→r.drop (k0+(k2+1) - 1)=s.drop (k0+(k2+1) - 1):=fun r hr=>by
    have:=congrArg (List.drop 1) hr
    rw [yBF,yBF,show k0+k2 - 1+1=k0+(k2+1) - 1 by omega] at this
    exact this
   by_cases ht:t s[k0+k2] s[k0+(k2 - 1)]=true
   ·rw [if_pos ht]
    refine zsV he hn d (k2+1) k row (by omega) (by omega) h3 h4 (by omega) ?_ (hdrop row h7)
    rw [h6,show k0+(k2+1)=k0+k2+1 by omega,hc]
    simp only [hidx,ht,if_true]
   ·rw [if_neg ht]
    refine zsV he hn d (k2+1) (k+1) _ (by omega) (by omega) (by simpa using h3) (by omega) (by omega) ?_ ?_
    ·rw [show k0+(k2+1)=k0+k2+1 by omega,hc]
     simp only [hidx,ht]
     rw [←h6,yBX,yAV hkr,List.take_set_of_le (yAi _)]
     simp
    ·refine Eq.trans ?_ (hdrop row h7)
     rw [List.drop_set_of_lt (by omega)]
theorem ztH {α R:Type} {z:α} {e:α→α→Option Bool} {t:α→α→Bool} {s:List α} (he:∀x∈s,∀y∈s,e x y=some (t x y)) (hn:s.length≤4294967296) :
  ∀(d k:Nat),s.length=k+d→1≤k→zid t s k=s.take k→∃x,zan (zrW (R:=R) z e) (s,(k:Int),())=some x∧(x= .inl (zid t s s.length,())∨x= .inr (.inl (zid t s s.length,())))
 | 0,k,h1,h2,h3=>by
   refine ⟨_,zaw (r:= .inl (s,())) ?_,.inl ?_⟩
   ·have:¬((k:Int)<len s):=by rw [zam];omega
    simp only [zrW,this,decide_false,zab]
   ·rw [show s.length=k by omega,h3,yBm (by omega)]
 | d+1,k,h1,h2,h3=>by
   have b1:k<s.length:=by omega
   have b2:k - 1<s.length:=by omega
   have hw1:IntKind.i64.wrap ((k:Int) - 1)=((k - 1:Nat):Int):=by rw [za5 (by omega) (by omega)];omega
   have hw2:IntKind.i64.wrap ((k:Int)+1)=((k+1:Nat):Int):=zae (n:=s.length) (by omega) (by omega)
   have hlt:((k:Int)<len s):=by rw [zam];exact b1
   have hc:=zic t (s:=s) (m:=k) (by omega) b1
   have he1:=he s[k] (yAl _) (s[k - 1]) (yAl _)
   by_cases ht:t s[k] s[k - 1]=true
   ·obtain ⟨row',k',q1,q2,q3,q4,q5⟩:=zsV (R:=(List α×Int×Unit)⊕((List α×Int×Unit)⊕((List α×Unit)⊕((List α×Unit)⊕R)))) he hn (k0:=k) d 1 k s (by omega) (by omega) rfl h2 (by omega) (by rw [hc,if_pos ht,h3]) rfl
    refine ⟨.inr (.inl (zid t s s.length,())),zaw ?_,.inr rfl⟩
    have hp:za8 ((List.take k' row')++(List.replicate ((List.length row') - k') z)) 0 (k':Int)=some (zid t s s.length):=by
     rw [show (0:Int)=((0:Nat):Int) from rfl,zc4 (yAD _) (by simp;omega)]
     rw [yBa,Nat.sub_zero,List.take_append_of_le_length (by simp;omega),List.take_take,Nat.min_self,q5]
    have hbl:Nat.ble k' row'.length=true:=by rw [yAR,q2];exact q4
    have q1':zan (inB (R:=(List α×Int×Unit)⊕((List α×Int×Unit)⊕((List α×Unit)⊕((List α×Unit)⊕R)))) e) (s,(k:Int),(1:Int),(k:Int),())=some (.inl (row',((k':Nat):Int),())):=q1
    simp only [zrW,hlt,decide_true,zad,zex b1,zaa,zey b1,hw1,zex b2,zey b2,he1,ht,zmL (yBl b1) (by omega:0<s.length),q1',zaj,zmL (l:=row') (k:=k') (by omega) (by omega),hbl,cond_true,hp,zaG]
   ·have step:zrW (R:=R) z e (s,(k:Int),())=some (.inl (s,((k+1:Nat):Int),())):=by
     simp only [zrW,hlt,decide_true,zad,zex b1,zaa,zey b1,hw1,zex b2,zey b2,he1,ht,zab,zaj,hw2]
    rw [zaC step]
    refine ztH he hn d (k+1) (by omega) (by omega) ?_
    rw [hc,if_neg ht,h3,yBX,yAe b1]
    rfl
theorem zfs {α R:Type} {z:α} {e:α→α→Option Bool} {t:α→α→Bool} {s:List α} (he:∀x∈s,∀y∈s,e x y=some (t x y)) (hn:s.length≤4294967296):zeS (R:=R) z e s=some (.inl (zid t s s.length,())):=by
 unfold zeS
 by_cases h2:s.length<2
 ·have:(len s<2):=by unfold len;omega
  rw [decide_eq_true this,zad]
  match s,h2 with
  | [],_=>rfl
  | [x],_=>simp [zki t (s:=[x]) (by simp)]
  | _::_::r,h2=>exact absurd h2 (by simp only [yAt];omega)
 ·have:¬(len s<2):=by unfold len;omega
  rw [decide_eq_false this,zab]
  obtain ⟨x,h3,h4⟩:=ztH (R:=R) (z:=z) he hn (s.length - 1) 1 (by omega) (yAi _) (zki t (by omega))
  have h3':zan (zrW (R:=R) z e) (s,(1:Int),())=some x:=h3
  rw [h3']
  rcases h4 with rfl | rfl
  ·rw [zaj]
  ·rw [zaG]
end Pe
end
section
/- slices.Concat of two as it is read; what is sorted and zbh repeats; the order of texts: over no program. -/
set_option linter.unusedVariables false
namespace Pe
open Go
noncomputable def zro {α:Type} (z:α) (n:Int):Option ((List α×Unit)⊕(Unit)):=(zaz (σ:=Unit) (R:=_) (br (decide (n<0)) none (some (.inl (())))) fun (t1:Unit)=>(br (decide (0<(IntKind.i64.wrap (n - (IntKind.i64.wrap (0 - 0)))))) (ob (zqt (IntKind.i64.wrap (n - (IntKind.i64.wrap (0 - 0)))) z) fun l2=>(bif (Nat.blt 0 (List.length l2)) then (ob (za8 l2 0 0) fun s3=>(some (.inl (s3,())))) else none)) (some (.inl ([],())))))
noncomputable def zkd {α:Type} (g:Int→Option ((List α×Unit)⊕Unit)) (slices:List (List α)):Option ((List α×Unit)⊕(Unit)):=(zaz (σ:=Int×Unit) (R:=_) (zan (σ:=Int×Int×Unit) (R:=_) (fun (t1:Int×Int×Unit)=>(br (decide (t1.2.1<(len slices))) (ob (at? slices t1.2.1) fun y2=>(br (decide ((IntKind.i64.wrap (t1.1+(len y2)))<0)) none (some (.inl ((IntKind.i64.wrap (t1.1+(len y2))),(IntKind.i64.wrap (t1.2.1+1)),()))))) (some (.inr (.inl (t1.1,())))))) (0,0,())) fun (t3:Int×Unit)=>(oc (α:=List α×Unit) (β:=Unit) (g t3.1) (fun (r4:List α×Unit)=>(zaz (σ:=List α×Unit) (R:=_) (zan (σ:=List α×Int×Unit) (R:=_) (fun (t6:List α×Int×Unit)=>(br (decide (t6.2.1<(len slices))) (ob (at? slices t6.2.1) fun y7=>(ob (zaS t6.1 y7) fun l8=>(some (.inl (l8,(IntKind.i64.wrap (t6.2.1+1)),()))))) (some (.inr (.inl (t6.1,())))))) (r4.1,0,())) fun (t9:List α×Unit)=>(some (.inl (t9.1,()))))) fun (p5:Unit)=>(some (.inr (())))))
theorem znv {α:Type} (z:α) {n:Nat} (h:n≤1073741824):zro z (n:Int)=some (.inl ([],())):=by
 have h0:IntKind.i64.wrap (0 - 0)=0:=by rfl
 have h1:¬((n:Int)<0):=by omega
 have h2:IntKind.i64.wrap ((n:Int) - 0)=(n:Int):=by rw [za5 (by omega) (by omega)];omega
 unfold zro
 simp only [h1,decide_false,zab,zaj,h0,h2]
 by_cases hn:0<n
 ·have e1:((0:Int)<(n:Int)):=by omega
  have e2:zqt (n:Int) z=some (List.replicate n z):=by
   show (bif Nat.ble n 1073741824 then _ else _)=_
   have:Nat.ble n 1073741824=true:=by simpa [yAR] using h
   rw [this];rfl
  have e3:Nat.blt 0 (List.replicate n z).length=true:=by simpa [yA4] using hn
  have e4:za8 (List.replicate n z) 0 0=some []:=by
   rw [show (0:Int)=((0:Nat):Int) from rfl,zc4 (yAi _) (yAD _)];simp
  simp only [e1,decide_true,zad,e2,zaa,e3,cond_true,e4]
 ·have e1:¬((0:Int)<(n:Int)):=by omega
  simp only [e1,decide_false,zab]
theorem zib {α:Type} {g:Int→Option ((List α×Unit)⊕Unit)} {a b:List α} (hg:∀n:Nat,n≤1073741824→g (n:Int)=some (.inl ([],()))) (h:a.length+b.length≤1073741824):zkd g [a,b]=some (.inl (a++b,())):=by
 have w1:IntKind.i64.wrap ((0:Int)+len a)=(a.length:Int):=by unfold len;rw [za5 (by omega) (by omega)];omega
 have w2:IntKind.i64.wrap ((a.length:Int)+len b)=((a.length+b.length:Nat):Int):=by unfold len;rw [za5 (by omega) (by omega)];omega
 have n1:¬((a.length:Int)<0):=by omega
 have n2:¬(((a.length+b.length:Nat):Int)<0):=by omega
 have l0:((0:Int)<len [a,b]):=by simp [len]
 have l1:((1:Int)<len [a,b]):=by simp [len]
 have l2:¬((2:Int)<len [a,b]):=by simp [len]
 have a0:at? [a,b] 0=some a:=rfl
 have a1:at? [a,b] 1=some b:=rfl
 have s0:IntKind.i64.wrap ((0:Int)+1)=1:=by rfl
 have s1:IntKind.i64.wrap ((1:Int)+1)=2:=by rfl
 have c1:zaS ([]:List α) a=some a:=by rw [zax (by unfold lim;simp;omega)];rfl
 have c2:zaS a b=some (a++b):=zax (by unfold lim;omega)
 unfold zkd
 rw [zaC (y:=((a.length:Int),1,())) (by simp only [l0,decide_true,zad,a0,zaa,w1,n1,decide_false,zab,s0]),
  zaC (y:=(((a.length+b.length:Nat):Int),2,())) (by simp only [l1,decide_true,zad,a1,zaa,w2,n2,decide_false,zab,s1]),
  zaw (r:= .inl (((a.length+b.length:Nat):Int),())) (by simp only [l2,decide_false,zab])]
 simp only [zaj,hg _ h,za4]
 rw [zaC (y:=(a,1,())) (by simp only [l0,decide_true,zad,a0,zaa,c1,s0]),
  zaC (y:=(a++b,2,())) (by simp only [l1,decide_true,zad,a1,zaa,c2,s1]),
  zaw (r:= .inl (a++b,())) (by simp only [l2,decide_false,zab])]
 rfl
def zcg {α:Type} (c:α→α→Int) (l:List α):Prop:=l.Pairwise fun x y=>c x y<0
structure OrdAll {α:Type} (c:α→α→Int):Prop where
 irr:∀x,¬c x x<0
 trans:∀x y z,c x y<0→c y z<0→c x z<0
 eq:∀x y,¬c x y<0→¬c y x<0→x=y
theorem OrdAll.on {α:Type} {c:α→α→Int} (h:OrdAll c) (l:List α):OrdOn l c:=⟨fun x _=>h.irr x,fun x _ y _ z _=>h.trans x y z,fun x _ y _=>h.eq x y⟩
theorem zeI {α:Type} {c:α→α→Int} (h:OrdAll c) {a b:List α} (ha:zcg c a) (hb:zcg c b) (hm:∀x,x∈a↔x∈b):a=b:=by
 have nd:∀{l:List α},zcg c l→l.Nodup:=fun {l} hl=>List.Pairwise.imp (fun {x y} hxy he=>by subst he;exact h.irr _ hxy) hl
 have asn:∀{l:List α},zcg c l→zqx c l:=fun {l} hl=>List.Pairwise.imp (fun {x y} hxy hyx=>h.irr x (h.trans x y x hxy hyx)) hl
 refine zgL (h.on a) (asn ha) (asn hb) ((List.perm_ext_iff_of_nodup (nd ha) (nd hb)).2 hm)
theorem znI {α:Type} {c:α→α→Int} (h:OrdAll c) {t:α→α→Bool} (ht:∀x y,t x y=true↔x=y) {l:List α} (hl:zqx c l):∀m,m≤l.length→zcg c (zid t l m)∧∀x,x∈zid t l m↔x∈l.take m
 | 0,_=>⟨List.Pairwise.nil,fun x=>by simp [zid]⟩
 | 1,hm=>by rw [zki t (by omega)];refine ⟨?_,fun x=>Iff.rfl⟩;match l,hm with | x::r,_=>exact yAT _ _
 | m+2,hm=>by
   obtain ⟨h1,h2⟩:=znI h ht hl (m+1) (by omega)
   have hb:m+1<l.length:=by omega
   have hb':m<l.length:=by omega
   rw [zic t (by omega:0<m+1) hb]
   have hs:m+1 - 1=m:=by omega
   simp only [hs]
   by_cases hx:l[m+1]=l[m]
   ·rw [if_pos ((ht _ _).2 hx)]
    refine ⟨h1,fun x=> ?_⟩
    rw [h2,yBX (i:=m+1),yAe hb,yAv,hx]
    simp only [Option.toList_some,yA3]
    refine ⟨.inl,fun hx2=>hx2.elim id fun hx2=> ?_⟩
    subst hx2
    exact yCc.2 ⟨m,by omega,rfl⟩
   ·have hx':¬t l[m+1] l[m]=true:=fun hc=>hx ((ht _ _).1 hc)
    rw [if_neg hx']
    refine ⟨yAX.2 ⟨h1,yAT _ _,fun y hy z hz=> ?_⟩,fun x=> ?_⟩
    ·rw [yA3] at hz
     subst hz
     obtain ⟨i,hi,rfl⟩:=yCc.1 ((h2 y).1 hy)
     have hi':i<m+1:=by omega
     have asc:=yAH.1 hl
     have g1:=asc i (m+1) (by omega) hb hi'
     by_cases g2:c l[i] l[m+1]<0
     ·exact g2
     ·exfalso
      have e1:=h.eq _ _ g2 g1
      have g3:=asc m (m+1) hb' hb (by omega)
      apply hx
      by_cases him:i=m
      ·subst him;exact e1.symm
      ·have g4:=asc i m (by omega) hb' (by omega)
       rw [e1] at g4
       exact h.eq _ _ g3 g4
    ·rw [yAv,h2,yBX (i:=m+1),yAe hb,yAv]
     simp
theorem zlb {α:Type} {c:α→α→Int} (h:OrdAll c) {t:α→α→Bool} (ht:∀x y,t x y=true↔x=y) {l r:List α} (hr:zcg c r) (hm:∀x,x∈r↔x∈l):zid t (zdi c l) (zdi c l).length=r:=by
 obtain ⟨h1,h2⟩:=znI h ht (zfE (h.on l)) (zdi c l).length (yAi _)
 refine zeI h h1 hr fun x=> ?_
 rw [h2,List.take_length,(zbc c l).mem_iff,hm]
theorem zdp (a b:List UInt8):Op.bytesLess a b=decide (a<b):=Go.Proofs.bytesLess_eq a b
def cS (x y:List UInt8):Int:=if x<y then -1 else if y<x then 1 else 0
theorem zgY (x y:List UInt8):cS x y<0↔x<y:=by
 unfold cS
 by_cases h1:x<y
 ·simp [h1]
 ·by_cases h2:y<x<;>simp [h1,h2]
theorem zgX:OrdAll cS:=⟨fun x=>by rw [zgY];exact yBd x,fun x y z=>by simp only [zgY];exact yB9,fun x y h1 h2=>by
 rw [zgY] at h1 h2
 exact List.le_antisymm (yBN.1 h2) (yBN.1 h1)⟩
def zin (s:List UInt8):List (List UInt8)→List (List UInt8)
 | []=>[s]
 | y::r=>if y=s then y::r else if s<y then s::y::r else y::zin s r
theorem zjL (s:List UInt8):∀(l:List (List UInt8)) (x:List UInt8),x∈zin s l↔x=s∨x∈l
 | [],x=>by simp [zin]
 | y::r,x=>by
   unfold zin
   split
   ·rename_i h;subst h;simp
   ·split
    ·simp
    ·simp only [yAj,zjL s r x]
     exact ⟨fun h=>h.elim (fun h=> .inr (.inl h)) fun h=>h.elim .inl fun h=> .inr (.inr h),fun h=>h.elim (fun h=> .inr (.inl h)) fun h=>h.elim .inl fun h=> .inr (.inr h)⟩
theorem zmP (s:List UInt8):∀(l:List (List UInt8)),zcg cS l→zcg cS (zin s l)
 | [],_=>yAT _ _
 | y::r,h=>by
   obtain ⟨h1,h2⟩:=yAE.1 h
   unfold zin
   split
   ·exact h
   ·rename_i hne
    split
    ·rename_i hlt
     refine yAE.2 ⟨fun z hz=> ?_,h⟩
     rcases yAj.1 hz with rfl | hz
     ·exact (zgY _ _).2 hlt
     ·exact zgX.trans _ _ _ ((zgY _ _).2 hlt) (h1 z hz)
    ·rename_i hge
     refine yAE.2 ⟨fun z hz=> ?_,zmP s r h2⟩
     rcases (zjL s r z).1 hz with rfl | hz
     ·rw [zgY]
      rcases (List.le_iff_lt_or_eq (l₁:=y) (l₂:=z)).1 (yBN.1 hge) with h3 | h3
      ·exact h3
      ·exact absurd h3 hne
     ·exact h1 z hz
def zbS (acc d:List (List UInt8)):List (List UInt8):=d.foldl (fun a s=>zin s a) acc
theorem ziT:∀(d acc:List (List UInt8)) (x:List UInt8),x∈zbS acc d↔x∈acc∨x∈d
 | [],acc,x=>by simp [zbS]
 | s::d,acc,x=>by
   show x∈zbS (zin s acc) d↔_
   rw [ziT d,zjL]
   simp only [yAj]
   exact ⟨fun h=>h.elim (fun h=>h.elim (fun h=> .inr (.inl h)) .inl) fun h=> .inr (.inr h),fun h=>h.elim (fun h=> .inl (.inr h)) fun h=>h.elim (fun h=> .inl (.inl h)) .inr⟩
theorem zgf:∀(d acc:List (List UInt8)),zcg cS acc→zcg cS (zbS acc d)
 | [],_,h=>h
 | s::d,acc,h=>zgf d _ (zmP s acc h)
theorem zoq {a d:List (List UInt8)} (ha:zcg cS a):zid (fun x y=>x==y) (zdi cS (a++d)) (zdi cS (a++d)).length=zbS a d :=
 zlb zgX (fun x y=>by simp) (zgf d a ha) fun x=>by rw [ziT,yAv]
end Pe
end
section
/- The law of obligations in plain, first part: rows that are merged; duties; what is owed. -/
set_option maxRecDepth 100000
namespace Pe.Tryz
open Go Go.Proofs Pe LicSpec
theorem L93 (n:Nat) (x y:List UInt8):m93 (zah (n+1)) x y=some (cS x y,()):=by
 unfold m93
 rw [q128,q128]
 unfold m128
 simp only [bne_self_eq_false,zaa,zab,zdp]
 unfold cS
 by_cases h1:x<y
 ·simp [h1,zad]
 ·by_cases h2:y<x
  ·have h3:¬x=y:=fun he=>by subst he;exact h1 h2
   have h3':(x==y)=false:=by simpa using h3
   simp [h1,h2,h3',zad,zab]
  ·have h3:x=y:=List.le_antisymm (yBN.1 h2) (yBN.1 h1)
   subst h3
   simp [h1,zab]
theorem q131 (n:Nat) (l:List (List UInt8)): @Eq (Option (List (List UInt8))) ((zah (n+1)).p 131 .str 9 [.func (.func 93) [] []] l) (zef (S:=Sx) (zah n) 93 .str l) :=
 (show _=opt1 (zef (S:=Sx) (zah n) 93 .str l) by kernel_rfl).trans (zmg _)
theorem m168_gen (o:Orc Sx) (n:Int):m168 o n=zro [] n:=rfl
theorem m130_gen (o:Orc Sx) (s:List (List (List UInt8))):m130 o s=zkd (fun n=>o.l 168 sg168 ((n,()):Int×Unit)) s:=rfl
theorem m132_gen (o:Orc Sx) (s:List (List UInt8)):m132 o s=zeS (R:=Unit) [] (fun a b=>some (a==b)) s:=rfl
noncomputable def zmk (orc:Orc Sx) (a d:List (List UInt8)):Option (List (List UInt8)×Unit) :=
 oc (α:=List (List UInt8)×Unit) (β:=Unit) (orc.l 130 sg130 (([a,d],()):List (List (List UInt8))×Unit)) (fun (r5:List (List UInt8)×Unit)=>(ob (α:=List (List UInt8)) (orc.p 131 .str 9 [.func (.func 93) [] []] r5.1) fun (l7:List (List UInt8))=>(oc (α:=List (List UInt8)×Unit) (β:=Unit) (orc.l 132 sg132 ((l7,()):List (List UInt8)×Unit)) (fun (r8:List (List UInt8)×Unit)=>(some (r8.1,()))) fun (_:Unit)=>none))) fun (_:Unit)=>none
theorem zqN {n:Nat} (hn:2≤n) {l:List (List UInt8)} (hl:l.length≤lim): @Eq (Option (List (List UInt8))) (zef (S:=Sx) (zah n) 93 .str l) (some (zdi cS l)):=by
 obtain ⟨n,rfl⟩:∃k,n=k+2:=⟨n - 2,by omega⟩
 refine zjq (S:=Sx) (u:= .str) (c:=cS) (fun x _ y _=> ?_) (zgX.on l) hl rfl
 exact (q93 (n+1) x y).trans (L93 n x y)
theorem zor {n:Nat} (hn:3≤n) {a d:List (List UInt8)} (ha:zcg cS a) (hl:a.length+d.length≤1073741824):zmk (zah n) a d=some (zbS a d,()):=by
 obtain ⟨n,rfl⟩:∃k,n=k+2:=⟨n - 2,by omega⟩
 unfold zmk
 have h1: @Eq (Option ((List (List UInt8)×Unit)⊕Unit)) ((zah (n+2)).l 130 sg130 (([a,d],()):List (List (List UInt8))×Unit)) (some (.inl (a++d,()))):=by
  rw [q130,m130_gen]
  exact zib (fun m hm=>by rw [q168,m168_gen,znv _ hm];rfl) hl
 have h2: @Eq (Option (List (List UInt8))) ((zah (n+2)).p 131 .str 9 [.func (.func 93) [] []] (a++d)) (some (zdi cS (a++d))):=by
  rw [q131];exact zqN (by omega) (by unfold lim;simp;omega)
 have h3: @Eq (Option ((List (List UInt8)×Unit)⊕Unit)) ((zah (n+2)).l 132 sg132 ((zdi cS (a++d),()):List (List UInt8)×Unit)) (some (.inl (zbS a d,()))):=by
  rw [q132,m132_gen,zfs (t:=fun x y=>x==y) (fun _ _ _ _=>rfl) (by rw [(zbc cS _).length_eq];simp;omega),zoq ha]
 rw [h1,za4]
 show ob ((zah (n+2)).p 131 .str 9 [.func (.func 93) [] []] (a++d)) _=_
 refine (congrArg (fun z=>ob z _) h2).trans ?_
 exact congrArg (fun z=>oc z (fun (r8:List (List UInt8)×Unit)=>some (r8.1,())) (fun (_:Unit)=>none)) h3
theorem L97 (o:Orc Sx) {l:List (List UInt8)} (hl:l.length≤1000000000) (s:List UInt8):m97 o l s=some (zin s l,()):=by
 have hlim:lim=4294967296:=rfl
 unfold m97
 generalize hf:(fun (t1:List (List UInt8)×Int×Unit)=>(br (decide (t1.2.1<(len l))) _ _:Option ((List (List UInt8)×Int×Unit)⊕((List (List UInt8)×Unit)⊕(List (List UInt8)×Unit)))))=f
 have key:∀d k:Nat,l.length=k+d→zaz (zan f (l.take k,(k:Int),())) (fun (t29:List (List UInt8)×Unit)=>(ob (zaS t29.1 [s]) fun l30=>(some (l30,()))))=some (l.take k++zin s (l.drop k),()):=by
  intro d
  induction d with
  | zero =>
    intro k hk
    have h1:¬((k:Int)<len l):=by rw [zam];omega
    rw [zaw (r:= .inl (l.take k,())) (by subst hf;simp only [h1,decide_false,zab]),zaj,zax (by simp;omega),yAx (by omega)]
    rfl
  | succ d ih =>
    intro k hk
    have hk2:k<l.length:=by omega
    have h1:((k:Int)<len l):=by rw [zam];exact hk2
    have hp:za8 l (k:Int) (len l)=some (l.drop k):=by
     rw [show len l=((l.length:Nat):Int) from rfl,zc4 (yBl hk2) (yAi _),yBm (by simp)]
    have hc1:zaS (l.take k) [s]=some (l.take k++[s]):=zax (by simp;omega)
    have hc2:zaS (l.take k++[s]) (l.drop k)=some (l.take k++[s]++l.drop k):=zax (by simp;omega)
    have hc3:zaS (l.take k) [l[k]]=some (l.take k++[l[k]]):=zax (by simp;omega)
    have hd:l.drop k=l[k]::l.drop (k+1):=yAr hk2
    by_cases e1:l[k]=s
    ·rw [zaw (r:= .inr (l,())) (by subst hf;simp only [h1,decide_true,zad,zak hk2,zaa,e1,beq_self_eq_true]),zaG,hd,zin,if_pos e1,←hd,yCq]
    ·have e1':(l[k]==s)=false:=by simpa using e1
     by_cases e2:s<l[k]
     ·have e3:¬l[k]<s:=fun h=>yBd _ (yB9 h e2)
      rw [zaw (r:= .inr (l.take k++[s]++l.drop k,())) (by subst hf;simp only [h1,decide_true,zad,zab,zak hk2,zaa,e1',zdp,e3,decide_false,Bool.or_self,yBE,hp,hc1,hc2,zb4]),zaG,hd,zin,if_neg e1,if_pos e2]
      simp
     ·have e3:l[k]<s:=by
       rcases (List.le_iff_lt_or_eq (l₁:=l[k]) (l₂:=s)).1 (yBN.1 e2) with h | h
       ·exact h
       ·exact absurd h e1
      rw [zaC (y:=(l.take k++[l[k]],((k+1:Nat):Int),())) (by subst hf;simp only [h1,decide_true,zad,zab,zak hk2,zaa,e1',zdp,e3,Bool.true_or,yA9,hc3,zae hk2 (by omega:l.length≤9223372036854775807)])]
      have h4:l.take k++[l[k]]=l.take (k+1):=by rw [yBX,yAe hk2];rfl
      rw [h4,ih (k+1) (by omega),hd,zin,if_neg e1,if_neg e2,←h4,yAU]
      rfl
 have:=key l.length 0 (by omega)
 simpa using this
end Pe.Tryz
end
section
/- The law of obligations in plain, second part: uses; duties; what is owed; clashes. -/
set_option maxRecDepth 100000
namespace Pe.Tryz
open Go Go.Proofs Pe LicSpec
def use0:Gt.Use:=⟨[],[]⟩
def uAt (l:List Gt.Use) (k:Nat):Gt.Use:=l[k]?.getD use0
theorem zo0 {l:List Gt.Use} {k:Nat} (h:k<l.length):l[k]=uAt l k:=by simp [uAt,h]
def uF (c:Cat) (u:Gt.Use):Int :=
 bif (lIx c u.name).isNone then 4 else bif u.with_==[] then 0 else bif (xIx c u.with_).isNone|| !hasT (zfu c u.with_).for_ u.name then 4 else 0
def zsc (c:Cat) (l:List Gt.Use):Int:=bif decide (40<len l) then 3 else ff (fun k=>uF c (uAt l k)) l.length
def zjX (c:Cat) (l:List Gt.Use):Int:=bif zf1 c != 0 then zf1 c else zsc c l
theorem at_x {c:Cat} {s:List UInt8} (h:(xIx c s).isNone=false):at? c.exceptions (ixI (xIx c s))=some (zfu c s):=by
 unfold zfu
 cases hx:xIx c s with
 | none=>rw [hx] at h;cases h
 | some k=>exact zti (ziv hx)
theorem at_l {c:Cat} {s:List UInt8} (h:(lIx c s).isNone=false):at? c.licences (ixI (lIx c s))=some (zdu c s):=by
 unfold zdu
 cases hx:lIx c s with
 | none=>rw [hx] at h;cases h
 | some k=>exact zqw (zhW hx)
def dP (c:Cat) (u:Gt.Use) (s:List UInt8):Option (List UInt8):=bif u.with_==[]|| !hasT (zfu c u.with_).lifts s then some s else none
def zhj (c:Cat) (u:Gt.Use):List (List UInt8):=(zdu c u.name).obligations.filterMap (dP c u)
theorem zgx {c:Cat} (hc:SmallC c) (s:List UInt8):Txs (zdu c s).obligations:=by
 unfold zdu
 cases h:lIx c s with
 | none=>exact ⟨by simp [zqY],by simp [zqY]⟩
 | some k=>exact (hc.lic _ (zl2 (zhW h))).2.2
theorem zho {c:Cat} (hc:SmallC c) (s:List UInt8):Txs (zfu c s).lifts:=by
 unfold zfu
 cases h:xIx c s with
 | none=>exact ⟨by simp [ztu],by simp [ztu]⟩
 | some k=>exact (hc.exc _ (zj7 (ziv h))).2.2
theorem zj8 {c:Cat} (hc:SmallC c) (u:Gt.Use):(zhj c u).length≤2000000:=yAk (yBS _ _) (zgx hc u.name).1
theorem L68 {n:Nat} (hn:2≤n) {c:Cat} (hc:SmallC c) (u:Gt.Use):m68 (zah n) c u=some (zhj c u,()):=by
 obtain ⟨n,rfl⟩:∃k,n=k+1:=⟨n - 1,by omega⟩
 have hl:=zgx hc u.name
 have hx:=zho hc u.with_
 unfold m68 zhj
 rw [q108,L108 (zah n) hc.lics]
 simp only [zaa,q109,L109 (zah n) hc.excs]
 rw [zcO (zdu c u.name).obligations (dP c u) (fun l=> .inl (l,())) ?h1 ?h2]
 case h1 =>
  intro k hk a ha
  have hl1:=hl.1
  simp only [zam,hk,decide_true,zad,zak hk,zaa,q86,L86 (by omega:1≤n) (by have:=hx.1;omega:(zfu c u.with_).lifts.length≤1000000000),zjF,zae hk (by omega:(zdu c u.name).obligations.length≤9223372036854775807)]
  rw [zax (by have:lim=4294967296:=rfl;simp;omega)]
  simp only [zaa]
  unfold dP
  cases (u.with_==[]|| !hasT (zfu c u.with_).lifts (zdu c u.name).obligations[k])<;>rfl
 case h2=>intro a;simp [len,zab]
 rfl
def zdz (c:Cat) (l:List Gt.Use):List (List UInt8):=l.foldl (fun a u=>zbS a (zhj c u)) []
theorem zcT:∀(d acc:List (List UInt8)),(zbS acc d).length≤acc.length+d.length
 | [],acc=>by simp [zbS]
 | s::d,acc=>by
   show (zbS (zin s acc) d).length≤_
   have h1:=zcT d (zin s acc)
   have h2:∀l:List (List UInt8),(zin s l).length≤l.length+1:=by
    intro l
    induction l with
    | nil=>simp [zin]
    | cons y r ih =>
      unfold zin
      split
      ·simp
      ·split
       ·simp
       ·simpa using ih
   have:=h2 acc
   simp only [yAt];omega
theorem L62 {n:Nat} (hn:4≤n) {c:Cat} (hc:SmallC c) {l:List Gt.Use} (hl:l.length≤40):m62 (zah n) c l=some (zdz c l,()):=by
 obtain ⟨n,rfl⟩:∃k,n=k+1:=⟨n - 1,by omega⟩
 unfold m62 zdz
 rw [show (([]:List (List UInt8)),(0:Int),())=((fun (k:Nat) (a:List (List UInt8))=>(a,(k:Int),())) 0 []) from rfl]
 rw [zbe (fun (k:Nat) (a:List (List UInt8))=>(a,(k:Int),())) l (fun a u=>zbS a (zhj c u)) (fun a=> .inl (a,())) (fun k a=>zcg cS a∧a.length≤k*2000000) ?h1 ?h2 [] ⟨List.Pairwise.nil,by simp⟩]
 case h1 =>
  intro k hk a ha
  have hd:=zj8 hc l[k]
  have hm:=zor (n:=n+1) (by omega) ha.1 (d:=zhj c l[k]) (by have:=ha.2;omega)
  unfold zmk at hm
  simp only [zam,hk,decide_true,zad,zak hk,zaa,q68,L68 (by omega:2≤n) hc,zae hk (by omega:l.length≤9223372036854775807),hm]
  exact ⟨trivial,zgf _ _ ha.1,by have:=zcT (zhj c l[k]) a;have:=ha.2;omega⟩
 case h2=>intro a _;simp [len,zab]
 rfl
def zqq (c:Cat) (l:List Gt.Use):Prop:=∀u∈l,(lIx c u.name).isNone=false∧(u.with_≠[]→(xIx c u.with_).isNone=false)
theorem L64 {n:Nat} (hn:2≤n) {c:Cat} (hc:SmallC c) {l:List Gt.Use} (hl:l.length≤40) (hk:zqq c l):m64 (zah n) c l=some (zdz c l,()):=by
 obtain ⟨n,rfl⟩:∃k,n=k+1:=⟨n - 1,by omega⟩
 unfold m64 zdz
 rw [show (([]:List (List UInt8)),(0:Int),())=((fun (k:Nat) (a:List (List UInt8))=>(a,(k:Int),())) 0 []) from rfl]
 rw [zbe (fun (k:Nat) (a:List (List UInt8))=>(a,(k:Int),())) l (fun a u=>zbS a (zhj c u)) (fun a=> .inl (a,())) (fun k a=>a.length≤k*2000000) ?h1 ?h2 [] (by simp)]
 case h1 =>
  intro k hk1 a ha
  obtain ⟨k1,k2⟩:=hk l[k] (yAl _)
  have hd:=zj8 hc l[k]
  refine ⟨?_,by have:=zcT (zhj c l[k]) a;omega⟩
  have hob:=zgx hc l[k].name
  have hx:=zho hc l[k].with_
  simp only [zam,hk1,decide_true,zad,zak hk1,zaa,q105,L105 (zah n) hc.lics,at_l k1]
  have hfold:zbS a (zhj c l[k])=(zdu c l[k].name).obligations.foldl (fun a s=>match dP c l[k] s with | some y=>zin y a | none=>a) a:=by
   unfold zbS zhj
   rw [List.foldl_filterMap]
   exact congrArg (fun f=>List.foldl f a _) (funext fun x=>funext fun y=>by cases dP c l[k] y<;>rfl)
  rw [show (a,(0:Int),())=((fun (j:Nat) (b:List (List UInt8))=>(b,(j:Int),())) 0 a) from rfl]
  rw [zbe (fun (j:Nat) (b:List (List UInt8))=>(b,(j:Int),())) (zdu c l[k].name).obligations (fun a s=>match dP c l[k] s with | some y=>zin y a | none=>a) (fun a=> .inl (a,())) (fun j b=>b.length≤a.length+j) ?g1 ?g2 a (yAi _)]
  case g1 =>
   intro j hj b hb
   have hl1:=hob.1
   have hwr:=zae hj (by omega:(zdu c l[k].name).obligations.length≤9223372036854775807)
   have hput:(zin (zdu c l[k].name).obligations[j] b).length≤b.length+1:=by simpa [zbS] using zcT [(zdu c l[k].name).obligations[j]] b
   cases hw:(l[k].with_==[]) with
   | true =>
     have hw':(l[k].with_ != [])=false:=by rw [bne,hw];rfl
     have hdp:dP c l[k] (zdu c l[k].name).obligations[j]=some (zdu c l[k].name).obligations[j]:=by unfold dP;rw [hw];rfl
     simp only [zam,hj,decide_true,zad,hw',zab,zaa,yBE,zak hj,q97,L97 (zah n) (by omega:b.length≤1000000000),hwr,hdp]
     exact ⟨trivial,by omega⟩
   | false =>
     have hw':(l[k].with_ != [])=true:=by rw [bne,hw];rfl
     have hne:=k2 (by simpa using hw)
     have hdp:dP c l[k] (zdu c l[k].name).obligations[j]=bif !hasT (zfu c l[k].with_).lifts (zdu c l[k].name).obligations[j] then some (zdu c l[k].name).obligations[j] else none:=by unfold dP;rw [hw];rfl
     simp only [zam,hj,decide_true,zad,hw',zaa,q106,L106 (zah n) hc.excs,at_x hne,zak hj,q88,L88 (zah n) (by have:=hx.1;omega:(zfu c l[k].with_).lifts.length≤1000000000),q97,L97 (zah n) (by omega:b.length≤1000000000),hwr,hdp]
     cases hasT (zfu c l[k].with_).lifts (zdu c l[k].name).obligations[j]
     ·exact ⟨rfl,by show (zin _ b).length≤_;omega⟩
     ·exact ⟨rfl,by show b.length≤_;omega⟩
  case g2=>intro b _;simp [len,zab]
  rw [zaj,←hfold,zae hk1 (by omega:l.length≤9223372036854775807)]
 case h2=>intro a _;simp [len,zab]
 rfl
def clP (o:List (List UInt8)) (p:Gt.A2_string):Option Gt.A2_string:=bif hasT o p.e0&&hasT o p.e1 then some p else none
def clS (c:Cat) (o:List (List UInt8)):List Gt.A2_string:=c.clashes.filterMap (clP o)
theorem L65 {n:Nat} (hn:2≤n) {c:Cat} (hc:SmallC c) {o:List (List UInt8)} (ho:o.length≤1000000000):m65 (zah n) c o=some (clS c o,()):=by
 obtain ⟨n,rfl⟩:∃k,n=k+1:=⟨n - 1,by omega⟩
 have hl:=hc.cls
 unfold m65 clS
 rw [zcO c.clashes (clP o) (fun l=> .inl (l,())) ?h1 ?h2]
 case h1 =>
  intro k hk a ha
  simp only [zam,hk,decide_true,zad,zak hk,zaa,q86,L86 (by omega:1≤n) ho,zhN,zae hk (by omega:c.clashes.length≤9223372036854775807)]
  rw [zax (by have:lim=4294967296:=rfl;simp;omega)]
  simp only [zaa]
  unfold clP
  cases (hasT o c.clashes[k].e0&&hasT o c.clashes[k].e1)<;>rfl
 case h2=>intro a;simp [len,zab]
 rfl
theorem zq6 {c:Cat} (hc:SmallC c) {l:List Gt.Use} (hl:l.length≤40):(zdz c l).length≤80000000:=by
 have key:∀(l:List Gt.Use) (a:List (List UInt8)),(l.foldl (fun a u=>zbS a (zhj c u)) a).length≤a.length+l.length*2000000:=by
  intro l
  induction l with
  | nil=>intro a;simp
  | cons u r ih =>
    intro a
    have h1:=ih (zbS a (zhj c u))
    have h2:=zcT (zhj c u) a
    have h3:=zj8 hc u
    simp only [yAW,yAt,yAw,yAN]
    omega
 have:=key l []
 have h4:l.length*2000000≤40*2000000:=yAm _ hl
 unfold zdz
 simp only [yCs] at this
 omega
theorem L66 {n:Nat} (hn:3≤n) {c:Cat} (hc:SmallC c) {l:List Gt.Use} (hl:l.length≤40) (hk:zqq c l):m66 (zah n) c l=some (clS c (zdz c l),()):=by
 obtain ⟨n,rfl⟩:∃k,n=k+1:=⟨n - 1,by omega⟩
 have hcl:=hc.cls
 have ho:=zq6 hc hl
 unfold m66 clS
 rw [q64,L64 (by omega) hc hl hk]
 simp only [zaa]
 rw [zcO c.clashes (clP (zdz c l)) (fun l=> .inl (l,())) ?h1 ?h2]
 case h1 =>
  intro k hk a ha
  simp only [zam,hk,decide_true,zad,zak hk,zaa,q88,L88 (zah n) (by omega:(zdz c l).length≤1000000000),zhN,zae hk (by omega:c.clashes.length≤9223372036854775807)]
  rw [zax (by have:lim=4294967296:=rfl;simp;omega)]
  simp only [zaa]
  unfold clP
  cases (hasT (zdz c l) c.clashes[k].e0&&hasT (zdz c l) c.clashes[k].e1)<;>rfl
 case h2=>intro a;simp [len,zab]
 rfl
theorem zgv {c:Cat} {l:List Gt.Use} (h:zjX c l=0):zf1 c=0∧l.length≤40∧∀u∈l,uF c u=0:=by
 unfold zjX at h
 cases h1:zf1 c != 0 with
 | true=>rw [h1] at h;exact absurd h (by simpa using h1)
 | false =>
 rw [h1] at h
 simp only [cond_false] at h
 unfold zsc at h
 cases h2:decide (40<len l) with
 | true=>rw [h2] at h;cases h
 | false =>
 rw [h2] at h
 simp only [cond_false] at h
 refine ⟨by simpa using h1,by have:=of_decide_eq_false h2;unfold len at this;omega,fun u hu=> ?_⟩
 obtain ⟨k,hk,rfl⟩:=yBs hu
 have:=zrt h hk
 rwa [←zo0 hk] at this
theorem zoZ {c:Cat} {u:Gt.Use} (h:uF c u=0):(lIx c u.name).isNone=false∧(u.with_≠[]→(xIx c u.with_).isNone=false):=by
 unfold uF at h
 cases h1:(lIx c u.name).isNone with
 | true=>rw [h1] at h;cases h
 | false =>
 rw [h1] at h
 simp only [cond_false] at h
 refine ⟨rfl,fun h2=> ?_⟩
 have h3:(u.with_==[])=false:=by simpa using h2
 rw [h3] at h
 simp only [cond_false] at h
 cases h4:(xIx c u.with_).isNone with
 | true=>rw [h4] at h;cases h
 | false=>rfl
theorem zno {c:Cat} {l:List Gt.Use} (h:zjX c l=0):zqq c l:=fun u hu=>zoZ ((zgv h).2.2 u hu)
end Pe.Tryz
end
section
/- The law of obligations in plain, third part: what is right is small; the notice. -/
set_option maxRecDepth 100000
namespace Pe.Tryz
open Go Go.Proofs Pe LicSpec
theorem zcR {b:Bool} {c X:Int} (hc:c≠0) (h:(bif b then c else X)=0):b=false∧X=0:=by
 cases b with
 | true=>exact absurd h hc
 | false=>exact ⟨rfl,h⟩
theorem zaZ {s:List UInt8} (h:isName s=true):s.length≤60:=by
 unfold isName at h
 simp only [yAd,yBf,yBc,decide_eq_false_iff_not] at h
 have:=h.1.1.1.1.2
 omega
theorem zrl {l:List Gt.LicenceRule} {k:Nat} (h:lF l k=0):isName (rAt l k).name=true∧(rAt l k).obligations.length≤50∧nFs (rAt l k).obligations=0:=by
 unfold lF at h
 obtain ⟨h1,h⟩:=zcR (by decide) h
 obtain ⟨_,h⟩:=zcR (by decide) h
 obtain ⟨_,h⟩:=zcR (by decide) h
 obtain ⟨_,h⟩:=zcR (by decide) h
 obtain ⟨_,h⟩:=zcR (by decide) h
 obtain ⟨_,h⟩:=zcR (by decide) h
 obtain ⟨h2,h⟩:=zcR (by decide) h
 exact ⟨by simpa using h1,by have:=of_decide_eq_false h2;unfold len at this;omega,h⟩
theorem zqA {c:Cat} {k:Nat} (h:xF c k=0):isName (eAt c.exceptions k).name=true:=by
 unfold xF at h
 obtain ⟨h1,_⟩:=zcR (by decide) h
 simpa using h1
theorem zq9 {l:List (List UInt8)} (h:nFs l=0):(∀s∈l,isName s=true)∧zcg cS l:=by
 have hk:∀k,k<l.length→isName (sAt l k)=true∧(0<k→sAt l (k - 1)<sAt l k):=by
  intro k hk
  have h1:=zrt h hk
  unfold nF at h1
  obtain ⟨h2,h1⟩:=zcR (by decide) h1
  refine ⟨by simpa using h2,fun h0=> ?_⟩
  have h3:(decide (0<k)&&leN (sAt l k) (sAt l (k - 1)))=false:=by
   cases hb:(decide (0<k)&&leN (sAt l k) (sAt l (k - 1))) with
   | false=>rfl
   | true=>rw [hb] at h1;cases h1
  rw [decide_eq_true h0,yCk] at h3
  exact zlj h3
 refine ⟨fun s hs=> ?_,yAH.2 fun i j hi hj hij=> ?_⟩
 ·obtain ⟨k,hk2,rfl⟩:=yBs hs
  rw [zjs hk2];exact (hk k hk2).1
 ·rw [zgY,zjs hi,zjs hj]
  have key:∀d,i+d+1<l.length→sAt l i<sAt l (i+d+1):=by
   intro d
   induction d with
   | zero=>intro hd;exact (hk (i+0+1) hd).2 (by omega)
   | succ d ih=>intro hd;exact yB9 (ih (by omega)) ((hk (i+(d+1)+1) hd).2 (by omega))
  have:=key (j - i - 1) (by omega)
  rwa [show i+(j - i - 1)+1=j by omega] at this
structure FineU (c:Cat) (u:Gt.Use):Prop where
 name:u.name.length≤60
 wth:u.with_.length≤60
 num:(zhj c u).length≤50
 duty:∀s∈zhj c u,s.length≤60
 str:zcg cS (zhj c u)
theorem zs4 {c:Cat} {l:List Gt.Use} (h:zjX c l=0) {u:Gt.Use} (hu:u∈l):FineU c u:=by
 obtain ⟨h1,_,h2⟩:=zgv h
 obtain ⟨k1,k2⟩:=zoZ (h2 u hu)
 obtain ⟨c1,c2,_⟩:=zif h1
 cases hi:lIx c u.name with
 | none=>rw [hi] at k1;cases k1
 | some k =>
   have hk:=zhW hi
   obtain ⟨g1,g2,g3⟩:=zrl (c1 k hk)
   obtain ⟨g4,g5⟩:=zq9 g3
   have hn:(rAt c.licences k).name=u.name:=by
    have:=(yAZ.1 hi).2.1
    rw [zeo hk] at this
    simpa using this
   have hg:zdu c u.name=rAt c.licences k:=by unfold zdu;rw [hi]
   have hsub:∀s∈zhj c u,s∈(rAt c.licences k).obligations:=by
    intro s hs
    unfold zhj at hs
    rw [hg] at hs
    obtain ⟨y,hy,hy2⟩:=yAY.1 hs
    unfold dP at hy2
    cases hb:(u.with_==[]|| !hasT (zfu c u.with_).lifts y) with
    | true=>rw [hb] at hy2;cases hy2;exact hy
    | false=>rw [hb] at hy2;cases hy2
   refine ⟨by rw [←hn];exact zaZ g1,?_,?_,fun s hs=>zaZ (g4 s (hsub s hs)),?_⟩
   ·by_cases hw:u.with_=[]
    ·rw [hw];exact yAD _
    ·have:=k2 hw
     cases hx:xIx c u.with_ with
     | none=>rw [hx] at this;cases this
     | some j =>
       have hj:=ziv hx
       have hnx:(eAt c.exceptions j).name=u.with_:=by
        have:=(yAZ.1 hx).2.1
        rw [zmw hj] at this
        simpa using this
       rw [←hnx];exact zaZ (zqA (c2 j hj))
   ·unfold zhj;rw [hg];exact yAk (yBS _ _) g2
   ·unfold zhj
    rw [hg]
    refine List.Pairwise.filterMap _ (fun a a' haa b hb b' hb'=> ?_) g5
    unfold dP at hb hb'
    cases hq:(u.with_==[]|| !hasT (zfu c u.with_).lifts a) with
    | false=>rw [hq] at hb;cases hb
    | true =>
      cases hq':(u.with_==[]|| !hasT (zfu c u.with_).lifts a') with
      | false=>rw [hq'] at hb';cases hb'
      | true=>rw [hq] at hb;rw [hq'] at hb';cases hb;cases hb';exact haa
end Pe.Tryz
end
section
/- The law of obligations in plain, last part. -/
set_option maxRecDepth 100000
namespace Pe.Tryz
open Go Go.Proofs Pe LicSpec
theorem zm5 {c:Cat} {l:List Gt.Use} (h:zjX c l=0):(zdz c l).length≤2000:=by
 have key:∀(l:List Gt.Use),(∀u∈l,FineU c u)→∀(a:List (List UInt8)),(l.foldl (fun a u=>zbS a (zhj c u)) a).length≤a.length+l.length*50:=by
  intro l
  induction l with
  | nil=>intro _ a;simp
  | cons u r ih =>
    intro hf a
    have h1:=ih (fun x hx=>hf x (by simp [hx])) (zbS a (zhj c u))
    have h2:=zcT (zhj c u) a
    have h3:=(hf u (by simp)).num
    simp only [yAW,yAt,yAw,yAN]
    omega
 have:=key l (fun u hu=>zs4 h hu) []
 have h4:l.length*50≤40*50:=yAm _ (zgv h).2.1
 unfold zdz
 simp only [yCs] at this
 omega
end Pe.Tryz
end
