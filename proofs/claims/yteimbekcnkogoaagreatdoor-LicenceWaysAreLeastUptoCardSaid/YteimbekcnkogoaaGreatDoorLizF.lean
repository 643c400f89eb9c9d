/- PROVED HERE: a part of the seat's proofs; see the text that holds the claim's theorem. -/
import Derived.Sort.Walk0
import Derived.Test.YteimbekcnkogoaaGreatDoorPeE
import Derived.Test.YteimbekcnkogoaaGreatDoorPeSf
import Derived.Test.YteimbekcnkogoaaGreatDoorLizE
section
/- Sorted rows without repeats: slices.Compact as it is read, over no program. -/
set_option linter.unusedVariables false
namespace Pe
open Go
def inB {α R:Type} (e:α→α→Option Bool) (t7:List α×Int×Int×Int×Unit):Option ((List α×Int×Int×Int×Unit)⊕((List α×Int×Unit)⊕R)) :=
 (br (decide (t7.2.2.1<(len (List.drop (Int.toNat t7.2.2.2.1) t7.1)))) (ob (idx? (List.drop (Int.toNat t7.2.2.2.1) t7.1) t7.2.2.1) fun k8=>(ob (get? t7.1 ((Int.toNat t7.2.2.2.1)+k8)) fun y9=>(ob (idx? (List.drop (Int.toNat t7.2.2.2.1) t7.1) (IntKind.i64.wrap (t7.2.2.1 - 1))) fun k10=>(ob (get? t7.1 ((Int.toNat t7.2.2.2.1)+k10)) fun y11=>(ob (e y9 y11) fun b=>(br (!b) (ob (idx? (List.drop (Int.toNat t7.2.2.2.1) t7.1) t7.2.2.1) fun k12=>(ob (get? t7.1 ((Int.toNat t7.2.2.2.1)+k12)) fun y13=>(ob (idx? t7.1 t7.2.1) fun j14=>(ob (get? t7.1 j14) fun y15=>(some (.inl ((t7.1.set j14 y13),(IntKind.i64.wrap (t7.2.1+1)),(IntKind.i64.wrap (t7.2.2.1+1)),(((Int.toNat t7.2.2.2.1):Nat):Int),()))))))) (some (.inl (t7.1,t7.2.1,(IntKind.i64.wrap (t7.2.2.1+1)),(((Int.toNat t7.2.2.2.1):Nat):Int),()))))))))) (some (.inr (.inl (t7.1,t7.2.1,())))))
noncomputable def outB {α R:Type} (z:α) (e:α→α→Option Bool) (t1:List α×Int×Unit):Option ((List α×Int×Unit)⊕((List α×Unit)⊕((List α×Unit)⊕R))) :=
 (br (decide (t1.2.1<(len t1.1))) (cutM (σ:=List α×Int×Unit) (R:=(List α×Int×Unit)⊕((List α×Unit)⊕((List α×Unit)⊕R))) (ob (idx? t1.1 t1.2.1) fun j2=>(ob (get? t1.1 j2) fun y3=>(ob (idx? t1.1 (IntKind.i64.wrap (t1.2.1 - 1))) fun j4=>(ob (get? t1.1 j4) fun y5=>(ob (e y3 y5) fun b=>(br b (ob (tail? t1.1 t1.2.1) fun i6=>(cutM (σ:=List α×Int×Unit) (R:=(List α×Int×Unit)⊕((List α×Int×Unit)⊕((List α×Unit)⊕((List α×Unit)⊕R)))) (loopM (σ:=List α×Int×Int×Int×Unit) (inB e) (t1.1,t1.2.1,1,((i6:Nat):Int),())) fun (t16:List α×Int×Unit)=>(ob (tail? t16.1 t16.2.1) fun i17=>(bif (Nat.ble i17 (List.length t16.1)) then (ob (part? ((List.take i17 t16.1)++(List.replicate ((List.length t16.1) - i17) z)) 0 t16.2.1) fun s18=>(some (.inr (.inr (.inr (.inl (s18,()))))))) else none)))) (some (.inl (t1.1,t1.2.1,()))))))))) fun (t19:List α×Int×Unit)=>(some (.inl (t19.1,(IntKind.i64.wrap (t19.2.1+1)),())))) (some (.inr (.inl (t1.1,())))))
noncomputable def compactM {α R:Type} (z:α) (e:α→α→Option Bool) (s:List α):Option ((List α×Unit)⊕R) :=
 (br (decide ((len s)<2)) (some (.inl (s,()))) (cutM (σ:=List α×Unit) (loopM (σ:=List α×Int×Unit) (outB z e) (s,1,())) fun (t20:List α×Unit)=>(some (.inl (t20.1,())))))
def cmp? {α:Type} (t:α→α→Bool) (s:List α):Nat→List α
 | 0=>[]
 | m+1=>match s[m]? with
   | none=>cmp? t s m
   | some x=>bif (Nat.blt 0 m)&&(match s[m - 1]? with | some y=>t x y | none=>false) then cmp? t s m else cmp? t s m++[x]
theorem cmp?_one {α:Type} (t:α→α→Bool) {s:List α} (h:0<s.length):cmp? t s 1=s.take 1:=by
 cases s with
 | nil=>simp at h
 | cons x r=>rfl
theorem cmp?_succ {α:Type} (t:α→α→Bool) {s:List α} {m:Nat} (h0:0<m) (h:m<s.length):cmp? t s (m+1)=if t s[m] (s[m - 1]'(by omega)) then cmp? t s m else cmp? t s m++[s[m]]:=by
 simp only [cmp?,List.getElem?_eq_getElem h,List.getElem?_eq_getElem (show m - 1<s.length by omega)]
 have:Nat.blt 0 m=true:=by simpa [Nat.blt_eq] using h0
 rw [this]
 cases t s[m] (s[m - 1]'(by omega))<;>simp
theorem idx?_ok {α:Type} {l:List α} {k:Nat} (h:k<l.length):idx? l (k:Int)=some k:=by
 show (bif Nat.blt k l.length then some k else none)=_
 have:Nat.blt k l.length=true:=by simpa [Nat.blt_eq] using h
 rw [this];rfl
theorem tail?_ok {α:Type} {l:List α} {k:Nat} (h:k≤l.length) (h0:0<l.length):tail? l (k:Int)=some k:=by
 show (bif Nat.ble k l.length&&Nat.blt 0 l.length then some k else none)=_
 have h1:Nat.ble k l.length=true:=by simpa [Nat.ble_eq] using h
 have h2:Nat.blt 0 l.length=true:=by simpa [Nat.blt_eq] using h0
 rw [h1,h2];rfl
theorem get?_ok {α:Type} {l:List α} {k:Nat} (h:k<l.length):get? l k=some l[k]:=List.getElem?_eq_getElem h
theorem drop_at {α:Type} {r s:List α} {j m:Nat} (h:r.drop j=s.drop j) (hm:j≤m):r[m]? =s[m]? :=by
 have h1:(r.drop j)[m - j]? =(s.drop j)[m - j]? :=by rw [h]
 rw [List.getElem?_drop,List.getElem?_drop,show j+(m - j)=m by omega] at h1
 exact h1
theorem inner {α R:Type} {e:α→α→Option Bool} {t:α→α→Bool} {s:List α} (he:∀x∈s,∀y∈s,e x y=some (t x y)) (hn:s.length≤4294967296) {k0:Nat} :
  ∀(d k2 k:Nat) (row:List α),s.length=k0+k2+d→1≤k2→row.length=s.length→1≤k→k≤k0+k2 - 1→row.take k=cmp? t s (k0+k2)→row.drop (k0+k2 - 1)=s.drop (k0+k2 - 1) →
   ∃row' k':_,loopM (inB (R:=R) e) (row,(k:Int),(k2:Int),(k0:Int),())=some (.inl (row',((k':Nat):Int),()))∧row'.length=s.length∧1≤k'∧k'≤s.length∧row'.take k'=cmp? t s s.length
 | 0,k2,k,row,h1,h2,h3,h4,h5,h6,h7=>by
   refine ⟨row,k,loopM_end ?_,h3,h4,by omega,by rw [h6];congr 1;omega⟩
   have:¬((k2:Int)<len (List.drop (Int.toNat (k0:Int)) row)):=by
    rw [len_lt];simp only [List.length_drop,h3,Int.toNat_natCast];omega
   simp only [inB,this,decide_false,br_false]
 | d+1,k2,k,row,h1,h2,h3,h4,h5,h6,h7=>by
   have hd:k2<(List.drop k0 row).length:=by rw [List.length_drop,h3];omega
   have hd1:k2 - 1<(List.drop k0 row).length:=by omega
   have a1:k0+k2<row.length:=by omega
   have a2:k0+(k2 - 1)<row.length:=by omega
   have b1:k0+k2<s.length:=by omega
   have b2:k0+(k2 - 1)<s.length:=by omega
   have g1:row[k0+k2]=s[k0+k2]:=by
    have:=drop_at h7 (m:=k0+k2) (by omega)
    rw [List.getElem?_eq_getElem a1,List.getElem?_eq_getElem b1] at this
    exact Option.some.inj this
   have g2:row[k0+(k2 - 1)]=s[k0+(k2 - 1)]:=by
    have:=drop_at h7 (m:=k0+(k2 - 1)) (by omega)
    rw [List.getElem?_eq_getElem a2,List.getElem?_eq_getElem b2] at this
    exact Option.some.inj this
   have hw1:IntKind.i64.wrap ((k2:Int) - 1)=((k2 - 1:Nat):Int):=by rw [wrap_id (by omega) (by omega)];omega
   have hw2:IntKind.i64.wrap ((k2:Int)+1)=((k2+1:Nat):Int):=wrap_succ (n:=s.length) (by omega) (by omega)
   have hw3:IntKind.i64.wrap ((k:Int)+1)=((k+1:Nat):Int):=wrap_succ (n:=s.length) (by omega) (by omega)
   have hlt:((k2:Int)<len (List.drop k0 row)):=by rw [len_lt];exact hd
   have hc:=cmp?_succ t (s:=s) (m:=k0+k2) (by omega) b1
   have he1:=he s[k0+k2] (List.getElem_mem _) (s[k0+(k2 - 1)]) (List.getElem_mem _)
   have hkr:k<row.length:=by omega
   have step:inB (R:=R) e (row,(k:Int),(k2:Int),(k0:Int),())=some (.inl (if t s[k0+k2] s[k0+(k2 - 1)] then (row,(k:Int),((k2+1:Nat):Int),(k0:Int),()) else (row.set k s[k0+k2],((k+1:Nat):Int),((k2+1:Nat):Int),(k0:Int),()))):=by
    simp only [inB,Int.toNat_natCast,hlt,decide_true,br_true,idx?_ok hd,ob_some_eq,get?_ok a1,hw1,idx?_ok hd1,get?_ok a2,g1,g2,he1,hw2,hw3,idx?_ok hkr,get?_ok hkr]
    cases t s[k0+k2] s[k0+(k2 - 1)]<;>rfl
   rw [loopM_next step]
   have hidx:k0+k2 - 1=k0+(k2 - 1):=by omega
   have hdrop:∀r:List α,r.drop (k0+k2 - 1)=s.drop (k0+k2 - 1)→r.drop (k0+(k2+1) - 1)=s.drop (k0+(k2+1) - 1):=fun r hr=>by
    have:=congrArg (List.drop 1) hr
    rw [List.drop_drop,List.drop_drop,show k0+k2 - 1+1=k0+(k2+1) - 1 by omega] at this
    exact this
   by_cases ht:t s[k0+k2] s[k0+(k2 - 1)]=true
   ·rw [if_pos ht]
    refine inner he hn d (k2+1) k row (by omega) (by omega) h3 h4 (by omega) ?_ (hdrop row h7)
    rw [h6,show k0+(k2+1)=k0+k2+1 by omega,hc]
    simp only [hidx,ht,if_true]
   ·rw [if_neg ht]
    refine inner he hn d (k2+1) (k+1) _ (by omega) (by omega) (by simpa using h3) (by omega) (by omega) ?_ ?_
    ·rw [show k0+(k2+1)=k0+k2+1 by omega,hc]
     simp only [hidx,ht]
     rw [←h6,List.take_add_one,List.getElem?_set_self hkr,List.take_set_of_le (Nat.le_refl _)]
     simp
    ·refine Eq.trans ?_ (hdrop row h7)
     rw [List.drop_set_of_lt (by omega)]
theorem outer {α R:Type} {z:α} {e:α→α→Option Bool} {t:α→α→Bool} {s:List α} (he:∀x∈s,∀y∈s,e x y=some (t x y)) (hn:s.length≤4294967296) :
  ∀(d k:Nat),s.length=k+d→1≤k→cmp? t s k=s.take k→∃x,loopM (outB (R:=R) z e) (s,(k:Int),())=some x∧(x= .inl (cmp? t s s.length,())∨x= .inr (.inl (cmp? t s s.length,())))
 | 0,k,h1,h2,h3=>by
   refine ⟨_,loopM_end (r:= .inl (s,())) ?_,.inl ?_⟩
   ·have:¬((k:Int)<len s):=by rw [len_lt];omega
    simp only [outB,this,decide_false,br_false]
   ·rw [show s.length=k by omega,h3,List.take_of_length_le (by omega)]
 | d+1,k,h1,h2,h3=>by
   have b1:k<s.length:=by omega
   have b2:k - 1<s.length:=by omega
   have hw1:IntKind.i64.wrap ((k:Int) - 1)=((k - 1:Nat):Int):=by rw [wrap_id (by omega) (by omega)];omega
   have hw2:IntKind.i64.wrap ((k:Int)+1)=((k+1:Nat):Int):=wrap_succ (n:=s.length) (by omega) (by omega)
   have hlt:((k:Int)<len s):=by rw [len_lt];exact b1
   have hc:=cmp?_succ t (s:=s) (m:=k) (by omega) b1
   have he1:=he s[k] (List.getElem_mem _) (s[k - 1]) (List.getElem_mem _)
   by_cases ht:t s[k] s[k - 1]=true
   ·obtain ⟨row',k',q1,q2,q3,q4,q5⟩:=inner (R:=(List α×Int×Unit)⊕((List α×Int×Unit)⊕((List α×Unit)⊕((List α×Unit)⊕R)))) he hn (k0:=k) d 1 k s (by omega) (by omega) rfl h2 (by omega) (by rw [hc,if_pos ht,h3]) rfl
    refine ⟨.inr (.inl (cmp? t s s.length,())),loopM_end ?_,.inr rfl⟩
    have hp:part? ((List.take k' row')++(List.replicate ((List.length row') - k') z)) 0 (k':Int)=some (cmp? t s s.length):=by
     rw [show (0:Int)=((0:Nat):Int) from rfl,part?_nat (Nat.zero_le _) (by simp;omega)]
     rw [List.drop_zero,Nat.sub_zero,List.take_append_of_le_length (by simp;omega),List.take_take,Nat.min_self,q5]
    have hbl:Nat.ble k' row'.length=true:=by rw [Nat.ble_eq,q2];exact q4
    have q1':loopM (inB (R:=(List α×Int×Unit)⊕((List α×Int×Unit)⊕((List α×Unit)⊕((List α×Unit)⊕R)))) e) (s,(k:Int),(1:Int),(k:Int),())=some (.inl (row',((k':Nat):Int),())):=q1
    simp only [outB,hlt,decide_true,br_true,idx?_ok b1,ob_some_eq,get?_ok b1,hw1,idx?_ok b2,get?_ok b2,he1,ht,tail?_ok (Nat.le_of_lt b1) (by omega:0<s.length),q1',cutM_inl,tail?_ok (l:=row') (k:=k') (by omega) (by omega),hbl,cond_true,hp,cutM_inr]
   ·have step:outB (R:=R) z e (s,(k:Int),())=some (.inl (s,((k+1:Nat):Int),())):=by
     simp only [outB,hlt,decide_true,br_true,idx?_ok b1,ob_some_eq,get?_ok b1,hw1,idx?_ok b2,get?_ok b2,he1,ht,br_false,cutM_inl,hw2]
    rw [loopM_next step]
    refine outer he hn d (k+1) (by omega) (by omega) ?_
    rw [hc,if_neg ht,h3,List.take_add_one,List.getElem?_eq_getElem b1]
    rfl
theorem compactM_eq {α R:Type} {z:α} {e:α→α→Option Bool} {t:α→α→Bool} {s:List α} (he:∀x∈s,∀y∈s,e x y=some (t x y)) (hn:s.length≤4294967296):compactM (R:=R) z e s=some (.inl (cmp? t s s.length,())):=by
 unfold compactM
 by_cases h2:s.length<2
 ·have:(len s<2):=by unfold len;omega
  rw [decide_eq_true this,br_true]
  match s,h2 with
  | [],_=>rfl
  | [x],_=>simp [cmp?_one t (s:=[x]) (by simp)]
  | _::_::r,h2=>exact absurd h2 (by simp only [List.length_cons];omega)
 ·have:¬(len s<2):=by unfold len;omega
  rw [decide_eq_false this,br_false]
  obtain ⟨x,h3,h4⟩:=outer (R:=R) (z:=z) he hn (s.length - 1) 1 (by omega) (Nat.le_refl _) (cmp?_one t (by omega))
  have h3':loopM (outB (R:=R) z e) (s,(1:Int),())=some x:=h3
  rw [h3']
  rcases h4 with rfl | rfl
  ·rw [cutM_inl]
  ·rw [cutM_inr]
end Pe
end
section
/- slices.Concat of two as it is read; what is sorted and without repeats; the order of texts: over no program. -/
set_option linter.unusedVariables false
namespace Pe
open Go
noncomputable def growM {α:Type} (z:α) (n:Int):Option ((List α×Unit)⊕(Unit)):=(cutM (σ:=Unit) (R:=_) (br (decide (n<0)) none (some (.inl (())))) fun (t1:Unit)=>(br (decide (0<(IntKind.i64.wrap (n - (IntKind.i64.wrap (0 - 0)))))) (ob (rep? (IntKind.i64.wrap (n - (IntKind.i64.wrap (0 - 0)))) z) fun l2=>(bif (Nat.blt 0 (List.length l2)) then (ob (part? l2 0 0) fun s3=>(some (.inl (s3,())))) else none)) (some (.inl ([],())))))
noncomputable def concatM {α:Type} (g:Int→Option ((List α×Unit)⊕Unit)) (slices:List (List α)):Option ((List α×Unit)⊕(Unit)):=(cutM (σ:=Int×Unit) (R:=_) (loopM (σ:=Int×Int×Unit) (R:=_) (fun (t1:Int×Int×Unit)=>(br (decide (t1.2.1<(len slices))) (ob (at? slices t1.2.1) fun y2=>(br (decide ((IntKind.i64.wrap (t1.1+(len y2)))<0)) none (some (.inl ((IntKind.i64.wrap (t1.1+(len y2))),(IntKind.i64.wrap (t1.2.1+1)),()))))) (some (.inr (.inl (t1.1,())))))) (0,0,())) fun (t3:Int×Unit)=>(oc (α:=List α×Unit) (β:=Unit) (g t3.1) (fun (r4:List α×Unit)=>(cutM (σ:=List α×Unit) (R:=_) (loopM (σ:=List α×Int×Unit) (R:=_) (fun (t6:List α×Int×Unit)=>(br (decide (t6.2.1<(len slices))) (ob (at? slices t6.2.1) fun y7=>(ob (cat? t6.1 y7) fun l8=>(some (.inl (l8,(IntKind.i64.wrap (t6.2.1+1)),()))))) (some (.inr (.inl (t6.1,())))))) (r4.1,0,())) fun (t9:List α×Unit)=>(some (.inl (t9.1,()))))) fun (p5:Unit)=>(some (.inr (())))))
theorem growM_eq {α:Type} (z:α) {n:Nat} (h:n≤1073741824):growM z (n:Int)=some (.inl ([],())):=by
 have h0:IntKind.i64.wrap (0 - 0)=0:=by rfl
 have h1:¬((n:Int)<0):=by omega
 have h2:IntKind.i64.wrap ((n:Int) - 0)=(n:Int):=by rw [wrap_id (by omega) (by omega)];omega
 unfold growM
 simp only [h1,decide_false,br_false,cutM_inl,h0,h2]
 by_cases hn:0<n
 ·have e1:((0:Int)<(n:Int)):=by omega
  have e2:rep? (n:Int) z=some (List.replicate n z):=by
   show (bif Nat.ble n 1073741824 then _ else _)=_
   have:Nat.ble n 1073741824=true:=by simpa [Nat.ble_eq] using h
   rw [this];rfl
  have e3:Nat.blt 0 (List.replicate n z).length=true:=by simpa [Nat.blt_eq] using hn
  have e4:part? (List.replicate n z) 0 0=some []:=by
   rw [show (0:Int)=((0:Nat):Int) from rfl,part?_nat (Nat.le_refl _) (Nat.zero_le _)];simp
  simp only [e1,decide_true,br_true,e2,ob_some_eq,e3,cond_true,e4]
 ·have e1:¬((0:Int)<(n:Int)):=by omega
  simp only [e1,decide_false,br_false]
theorem concatM_two {α:Type} {g:Int→Option ((List α×Unit)⊕Unit)} {a b:List α} (hg:∀n:Nat,n≤1073741824→g (n:Int)=some (.inl ([],()))) (h:a.length+b.length≤1073741824):concatM g [a,b]=some (.inl (a++b,())):=by
 have w1:IntKind.i64.wrap ((0:Int)+len a)=(a.length:Int):=by unfold len;rw [wrap_id (by omega) (by omega)];omega
 have w2:IntKind.i64.wrap ((a.length:Int)+len b)=((a.length+b.length:Nat):Int):=by unfold len;rw [wrap_id (by omega) (by omega)];omega
 have n1:¬((a.length:Int)<0):=by omega
 have n2:¬(((a.length+b.length:Nat):Int)<0):=by omega
 have l0:((0:Int)<len [a,b]):=by simp [len]
 have l1:((1:Int)<len [a,b]):=by simp [len]
 have l2:¬((2:Int)<len [a,b]):=by simp [len]
 have a0:at? [a,b] 0=some a:=rfl
 have a1:at? [a,b] 1=some b:=rfl
 have s0:IntKind.i64.wrap ((0:Int)+1)=1:=by rfl
 have s1:IntKind.i64.wrap ((1:Int)+1)=2:=by rfl
 have c1:cat? ([]:List α) a=some a:=by rw [cat?_ok (by unfold lim;simp;omega)];rfl
 have c2:cat? a b=some (a++b):=cat?_ok (by unfold lim;omega)
 unfold concatM
 rw [loopM_next (y:=((a.length:Int),1,())) (by simp only [l0,decide_true,br_true,a0,ob_some_eq,w1,n1,decide_false,br_false,s0]),
  loopM_next (y:=(((a.length+b.length:Nat):Int),2,())) (by simp only [l1,decide_true,br_true,a1,ob_some_eq,w2,n2,decide_false,br_false,s1]),
  loopM_end (r:= .inl (((a.length+b.length:Nat):Int),())) (by simp only [l2,decide_false,br_false])]
 simp only [cutM_inl,hg _ h,oc_inl]
 rw [loopM_next (y:=(a,1,())) (by simp only [l0,decide_true,br_true,a0,ob_some_eq,c1,s0]),
  loopM_next (y:=(a++b,2,())) (by simp only [l1,decide_true,br_true,a1,ob_some_eq,c2,s1]),
  loopM_end (r:= .inl (a++b,())) (by simp only [l2,decide_false,br_false])]
 rfl
def StrC {α:Type} (c:α→α→Int) (l:List α):Prop:=l.Pairwise fun x y=>c x y<0
structure OrdAll {α:Type} (c:α→α→Int):Prop where
 irr:∀x,¬c x x<0
 trans:∀x y z,c x y<0→c y z<0→c x z<0
 eq:∀x y,¬c x y<0→¬c y x<0→x=y
theorem OrdAll.on {α:Type} {c:α→α→Int} (h:OrdAll c) (l:List α):OrdOn l c:=⟨fun x _=>h.irr x,fun x _ y _ z _=>h.trans x y z,fun x _ y _=>h.eq x y⟩
theorem str_unique {α:Type} {c:α→α→Int} (h:OrdAll c) {a b:List α} (ha:StrC c a) (hb:StrC c b) (hm:∀x,x∈a↔x∈b):a=b:=by
 have nd:∀{l:List α},StrC c l→l.Nodup:=fun {l} hl=>List.Pairwise.imp (fun {x y} hxy he=>by subst he;exact h.irr _ hxy) hl
 have asn:∀{l:List α},StrC c l→AscC c l:=fun {l} hl=>List.Pairwise.imp (fun {x y} hxy hyx=>h.irr x (h.trans x y x hxy hyx)) hl
 refine asc_unique (h.on a) (asn ha) (asn hb) ((List.perm_ext_iff_of_nodup (nd ha) (nd hb)).2 hm)
theorem cmp?_str {α:Type} {c:α→α→Int} (h:OrdAll c) {t:α→α→Bool} (ht:∀x y,t x y=true↔x=y) {l:List α} (hl:AscC c l):∀m,m≤l.length→StrC c (cmp? t l m)∧∀x,x∈cmp? t l m↔x∈l.take m
 | 0,_=>⟨List.Pairwise.nil,fun x=>by simp [cmp?]⟩
 | 1,hm=>by rw [cmp?_one t (by omega)];refine ⟨?_,fun x=>Iff.rfl⟩;match l,hm with | x::r,_=>exact List.pairwise_singleton _ _
 | m+2,hm=>by
   obtain ⟨h1,h2⟩:=cmp?_str h ht hl (m+1) (by omega)
   have hb:m+1<l.length:=by omega
   have hb':m<l.length:=by omega
   rw [cmp?_succ t (by omega:0<m+1) hb]
   have hs:m+1 - 1=m:=by omega
   simp only [hs]
   by_cases hx:l[m+1]=l[m]
   ·rw [if_pos ((ht _ _).2 hx)]
    refine ⟨h1,fun x=> ?_⟩
    rw [h2,List.take_add_one (i:=m+1),List.getElem?_eq_getElem hb,List.mem_append,hx]
    simp only [Option.toList_some,List.mem_singleton]
    refine ⟨.inl,fun hx2=>hx2.elim id fun hx2=> ?_⟩
    subst hx2
    exact List.mem_take_iff_getElem.2 ⟨m,by omega,rfl⟩
   ·have hx':¬t l[m+1] l[m]=true:=fun hc=>hx ((ht _ _).1 hc)
    rw [if_neg hx']
    refine ⟨List.pairwise_append.2 ⟨h1,List.pairwise_singleton _ _,fun y hy z hz=> ?_⟩,fun x=> ?_⟩
    ·rw [List.mem_singleton] at hz
     subst hz
     obtain ⟨i,hi,rfl⟩:=List.mem_take_iff_getElem.1 ((h2 y).1 hy)
     have hi':i<m+1:=by omega
     have asc:=List.pairwise_iff_getElem.1 hl
     have g1:=asc i (m+1) (by omega) hb hi'
     by_cases g2:c l[i] l[m+1]<0
     ·exact g2
     ·exfalso
      have e1:=h.eq _ _ g2 g1
      have g3:=asc m (m+1) hb' hb (by omega)
      apply hx
      by_cases him:i=m
      ·subst him;exact e1.symm
      ·have g4:=asc i m (by omega) hb' (by omega)
       rw [e1] at g4
       exact h.eq _ _ g3 g4
    ·rw [List.mem_append,h2,List.take_add_one (i:=m+1),List.getElem?_eq_getElem hb,List.mem_append]
     simp
theorem merged_eq {α:Type} {c:α→α→Int} (h:OrdAll c) {t:α→α→Bool} (ht:∀x y,t x y=true↔x=y) {l r:List α} (hr:StrC c r) (hm:∀x,x∈r↔x∈l):cmp? t (sortC c l) (sortC c l).length=r:=by
 obtain ⟨h1,h2⟩:=cmp?_str h ht (sortC_asc (h.on l)) (sortC c l).length (Nat.le_refl _)
 refine str_unique h h1 hr fun x=> ?_
 rw [h2,List.take_length,(sortC_perm c l).mem_iff,hm]
theorem bytesLess_lt (a b:List UInt8):Op.bytesLess a b=decide (a<b):=Go.Proofs.bytesLess_eq a b
def cS (x y:List UInt8):Int:=if x<y then -1 else if y<x then 1 else 0
theorem cS_neg (x y:List UInt8):cS x y<0↔x<y:=by
 unfold cS
 by_cases h1:x<y
 ·simp [h1]
 ·by_cases h2:y<x<;>simp [h1,h2]
theorem cS_ord:OrdAll cS:=⟨fun x=>by rw [cS_neg];exact List.lt_irrefl x,fun x y z=>by simp only [cS_neg];exact List.lt_trans,fun x y h1 h2=>by
 rw [cS_neg] at h1 h2
 exact List.le_antisymm (List.not_lt.1 h2) (List.not_lt.1 h1)⟩
def putS (s:List UInt8):List (List UInt8)→List (List UInt8)
 | []=>[s]
 | y::r=>if y=s then y::r else if s<y then s::y::r else y::putS s r
theorem mem_putS (s:List UInt8):∀(l:List (List UInt8)) (x:List UInt8),x∈putS s l↔x=s∨x∈l
 | [],x=>by simp [putS]
 | y::r,x=>by
   unfold putS
   split
   ·rename_i h;subst h;simp
   ·split
    ·simp
    ·simp only [List.mem_cons,mem_putS s r x]
     exact ⟨fun h=>h.elim (fun h=> .inr (.inl h)) fun h=>h.elim .inl fun h=> .inr (.inr h),fun h=>h.elim (fun h=> .inr (.inl h)) fun h=>h.elim .inl fun h=> .inr (.inr h)⟩
theorem str_putS (s:List UInt8):∀(l:List (List UInt8)),StrC cS l→StrC cS (putS s l)
 | [],_=>List.pairwise_singleton _ _
 | y::r,h=>by
   obtain ⟨h1,h2⟩:=List.pairwise_cons.1 h
   unfold putS
   split
   ·exact h
   ·rename_i hne
    split
    ·rename_i hlt
     refine List.pairwise_cons.2 ⟨fun z hz=> ?_,h⟩
     rcases List.mem_cons.1 hz with rfl | hz
     ·exact (cS_neg _ _).2 hlt
     ·exact cS_ord.trans _ _ _ ((cS_neg _ _).2 hlt) (h1 z hz)
    ·rename_i hge
     refine List.pairwise_cons.2 ⟨fun z hz=> ?_,str_putS s r h2⟩
     rcases (mem_putS s r z).1 hz with rfl | hz
     ·rw [cS_neg]
      rcases (List.le_iff_lt_or_eq (l₁:=y) (l₂:=z)).1 (List.not_lt.1 hge) with h3 | h3
      ·exact h3
      ·exact absurd h3 hne
     ·exact h1 z hz
def putAll (acc d:List (List UInt8)):List (List UInt8):=d.foldl (fun a s=>putS s a) acc
theorem mem_putAll:∀(d acc:List (List UInt8)) (x:List UInt8),x∈putAll acc d↔x∈acc∨x∈d
 | [],acc,x=>by simp [putAll]
 | s::d,acc,x=>by
   show x∈putAll (putS s acc) d↔_
   rw [mem_putAll d,mem_putS]
   simp only [List.mem_cons]
   exact ⟨fun h=>h.elim (fun h=>h.elim (fun h=> .inr (.inl h)) .inl) fun h=> .inr (.inr h),fun h=>h.elim (fun h=> .inl (.inr h)) fun h=>h.elim (fun h=> .inl (.inl h)) .inr⟩
theorem str_putAll:∀(d acc:List (List UInt8)),StrC cS acc→StrC cS (putAll acc d)
 | [],_,h=>h
 | s::d,acc,h=>str_putAll d _ (str_putS s acc h)
end Pe
end
section
/- The law of obligations in plain, first part: rows that are merged; duties; what is owed. -/
set_option maxRecDepth 100000
namespace Pe.Tryz
open Go Go.Proofs Pe LicSpec
theorem L93 (n:Nat) (x y:List UInt8):m93 (orcN (n+1)) x y=some (cS x y,()):=by
 unfold m93
 rw [q128,q128]
 unfold m128
 simp only [bne_self_eq_false,ob_some_eq,br_false,bytesLess_lt]
 unfold cS
 by_cases h1:x<y
 ·simp [h1,br_true]
 ·by_cases h2:y<x
  ·have h3:¬x=y:=fun he=>by subst he;exact h1 h2
   have h3':(x==y)=false:=by simpa using h3
   simp [h1,h2,h3',br_true,br_false]
  ·have h3:x=y:=List.le_antisymm (List.not_lt.1 h2) (List.not_lt.1 h1)
   subst h3
   simp [h1,br_false]
end Pe.Tryz
end
section
/- The law of obligations in plain, second part: uses; duties; what is owed; clashes. -/
set_option maxRecDepth 100000
namespace Pe.Tryz
open Go Go.Proofs Pe LicSpec
def use0:Gt.Use:=⟨[],[]⟩
def uAt (l:List Gt.Use) (k:Nat):Gt.Use:=l[k]?.getD use0
theorem uAt_get {l:List Gt.Use} {k:Nat} (h:k<l.length):l[k]=uAt l k:=by simp [uAt,h]
theorem at_u {l:List Gt.Use} {k:Nat} (h:k<l.length):at? l (k:Int)=some (uAt l k):=by rw [at?_get h,uAt_get h]
def uF (c:Cat) (u:Gt.Use):Int :=
 bif (lIx c u.name).isNone then 4 else bif u.with_==[] then 0 else bif (xIx c u.with_).isNone|| !hasT (xGet c u.with_).for_ u.name then 4 else 0
def usesF (c:Cat) (l:List Gt.Use):Int:=bif decide (40<len l) then 3 else ff (fun k=>uF c (uAt l k)) l.length
def listF (c:Cat) (l:List Gt.Use):Int:=bif catF c != 0 then catF c else usesF c l
theorem isNone_not {α:Type} (o:Option α):(!o.isSome)=o.isNone:=by cases o<;>rfl
theorem L75 {n:Nat} (hn:2≤n) {c:Cat} (hc:SmallC c) (l:List Gt.Use):m75 (orcN n) c l=some (usesF c l,()):=by
 obtain ⟨n,rfl⟩:∃k,n=k+1:=⟨n - 1,by omega⟩
 unfold m75 usesF
 refine br_ret 3 fun hb=> ?_
 have hll:l.length≤40:=by have:=of_decide_eq_false hb;unfold len at this;omega
 rw [loop_ff1 l.length (fun k=>uF c (uAt l k)) (fun c=> .inr (c,())) (.inl ()) ?h1 ?h2]
 case h1 =>
  intro k hk _
  have hx:=xGet_small hc (uAt l k).with_
  simp only [len_lt,hk,decide_true,br_true,at_u hk,ob_some_eq,q108,L108 (orcN n) hc.lics,q109,L109 (orcN n) hc.excs,q86,L86 (by omega:1≤n) (by have:=hx.1;omega:(xGet c (uAt l k).with_).for_.length≤1000000000),isNone_not,ob_or,wrap_succ hk (by omega:l.length≤9223372036854775807)]
  refine br_ff (out:=fun c=>Sum.inr (c,())) 4 (by decide) fun _=> ?_
  cases ((uAt l k).with_==[]) with
  | true=>rfl
  | false=>exact br_ff (out:=fun c=>Sum.inr (c,())) 4 (by decide) fun _=>rfl
 case h2=>simp [len,br_false]
 by_cases h0:ff (fun k=>uF c (uAt l k)) l.length=0
 ·simp [h0,cutM_inl]
 ·simp [h0,cutM_inr]
def dP (c:Cat) (u:Gt.Use) (s:List UInt8):Option (List UInt8):=bif u.with_==[]|| !hasT (xGet c u.with_).lifts s then some s else none
def dutS (c:Cat) (u:Gt.Use):List (List UInt8):=(lGet c u.name).obligations.filterMap (dP c u)
end Pe.Tryz
end
section
/- The law of obligations in plain, third part: what is right is small; the notice. -/
set_option maxRecDepth 100000
namespace Pe.Tryz
open Go Go.Proofs Pe LicSpec
theorem isName_len {s:List UInt8} (h:isName s=true):s.length≤60:=by
 unfold isName at h
 simp only [Bool.and_eq_true,Bool.not_eq_true',Bool.or_eq_false_iff,decide_eq_false_iff_not] at h
 have:=h.1.1.1.1.2
 omega
structure FineU (c:Cat) (u:Gt.Use):Prop where
 name:u.name.length≤60
 wth:u.with_.length≤60
 num:(dutS c u).length≤50
 duty:∀s∈dutS c u,s.length≤60
 str:StrC cS (dutS c u)
end Pe.Tryz
end
section
/- The law of obligations in plain, last part. -/
set_option maxRecDepth 100000
namespace Pe.Tryz
open Go Go.Proofs Pe LicSpec
end Pe.Tryz
end
