/- PROVED HERE: a part of the seat's proofs; see the text that holds the claim's theorem. -/
import Derived.Test.YteimbekcnkogoaaGreatDoorNm
import Derived.Test.YteimbekcnkogoaaGreatDoorLizG
import Derived.Test.YteimbekcnkogoaaGreatDoorLizE
section
/- The laws of ways in plain, first part: the program's ways. -/
set_option maxRecDepth 100000
namespace Pe.Tryz
open Go Go.Proofs Pe LicSpec
theorem zt3 (a b:Gt.Use):((a.name==b.name)&&((a.with_==b.with_)&&true))=(a==b):=by rw [yB6];rfl
theorem zqh (a b:Gt.Use):(a==b)=(b==a):=by rw [yCb,beq_iff_eq,beq_iff_eq];exact eq_comm
def zpQ (l:Way) (u:Gt.Use):Bool:=l.any fun y=>y==u
theorem zmO (a b:Way):zdR a b=a.all (zpQ b):=rfl
theorem L114 (o:Orc Sx) {l:Way} (hl:l.length≤1000000000) (u:Gt.Use):m114 o l u=some (zpQ l u,()):=by
 unfold m114
 rw [zaO l (fun y=>y==u) (fun _=> .inr (true,())) (.inl ()) ?h1 ?h2]
 case h1 =>
  intro k hk
  simp only [zam,hk,decide_true,zad,zak hk,zaa,zt3,zae hk (by omega:l.length≤9223372036854775807)]
  cases l[k]==u<;>rfl
 case h2=>simp [len,zab]
 unfold zpQ
 rw [←zbk]
 cases l.findIdx? (fun y=>y==u)<;>rfl
theorem L122 (o:Orc Sx) {l:Way} (hl:l.length≤1000000000) (u:Gt.Use):m122 o l u=some (ixI (l.findIdx? fun y=>u==y),()):=by
 unfold m122
 rw [zaO l (fun y=>u==y) (fun k=> .inr ((k:Int),())) (.inl ()) ?h1 ?h2]
 case h1 =>
  intro k hk
  simp only [zam,hk,decide_true,zad,zak hk,zaa,zt3,zae hk (by omega:l.length≤9223372036854775807)]
  cases u==l[k]<;>rfl
 case h2=>simp [len,zab]
 cases l.findIdx? (fun y=>u==y)<;>rfl
theorem L83 {n:Nat} (hn:1≤n) {l:Way} (hl:l.length≤1000000000) (u:Gt.Use):m83 (zah n) l u=some (zpQ l u,()):=by
 obtain ⟨n,rfl⟩:∃k,n=k+1:=⟨n - 1,by omega⟩
 unfold m83
 rw [q122,L122 (zah n) hl]
 simp only [zaa,zpN,zbk]
 unfold zpQ
 simp only [zqh u]
theorem L73 {n:Nat} (hn:2≤n) {a b:Way} (ha:a.length≤1000000000) (hb:b.length≤1000000000):m73 (zah n) a b=some (zdR a b,()):=by
 obtain ⟨n,rfl⟩:∃k,n=k+1:=⟨n - 1,by omega⟩
 unfold m73
 rw [zjS a (zpQ b) (false,()) ?h1 ?h2]
 case h1 =>
  intro j hj
  simp only [zam,hj,decide_true,zad,zak hj,zaa,q83,L83 (by omega:1≤n) hb,zae hj (by omega:a.length≤9223372036854775807)]
  cases zpQ b a[j]<;>rfl
 case h2=>simp [len,zab]
 rw [zmO]
 cases a.all (zpQ b)<;>rfl
theorem L74 {n:Nat} (hn:1≤n) {a b:Way} (ha:a.length≤1000000000) (hb:b.length≤1000000000):m74 (zah n) a b=some (zdR a b,()):=by
 obtain ⟨n,rfl⟩:∃k,n=k+1:=⟨n - 1,by omega⟩
 unfold m74
 rw [zjS a (zpQ b) (false,()) ?h1 ?h2]
 case h1 =>
  intro j hj
  simp only [zam,hj,decide_true,zad,zak hj,zaa,q114,L114 (zah n) hb,zae hj (by omega:a.length≤9223372036854775807)]
  cases zpQ b a[j]<;>rfl
 case h2=>simp [len,zab]
 rw [zmO]
 cases a.all (zpQ b)<;>rfl
theorem znK (x y:List UInt8):(x<y∧cS x y= -1)∨(x=y∧cS x y=0)∨(y<x∧cS x y=1):=by
 unfold cS
 by_cases h1:x<y
 ·exact .inl ⟨h1,if_pos h1⟩
 ·by_cases h2:y<x
  ·exact .inr (.inr ⟨h2,by rw [if_neg h1,if_pos h2]⟩)
  ·exact .inr (.inl ⟨List.le_antisymm (yBN.1 h2) (yBN.1 h1),by rw [if_neg h1,if_neg h2]⟩)
theorem L206_two (o:Orc Sx) (a b:Int):m206 o [a,b]=some (if a=0 then b else a,()):=by
 unfold m206
 have l0:((0:Int)<len [a,b]):=by simp [len]
 have l1:((1:Int)<len [a,b]):=by simp [len]
 have l2:¬((2:Int)<len [a,b]):=by simp [len]
 have a0:at? [a,b] 0=some a:=rfl
 have a1:at? [a,b] 1=some b:=rfl
 have s0:IntKind.i64.wrap ((0:Int)+1)=1:=by rfl
 have s1:IntKind.i64.wrap ((1:Int)+1)=2:=by rfl
 by_cases h0:a=0
 ·have e0:(a != 0)=false:=by simp [h0]
  rw [if_pos h0]
  rw [zaC (y:=(1,())) (by simp only [l0,decide_true,zad,a0,zaa,e0,zab,s0])]
  by_cases h1:b=0
  ·have e1:(b != 0)=false:=by simp [h1]
   rw [zaC (y:=(2,())) (by simp only [l1,decide_true,zad,a1,zaa,e1,zab,s1]),zaw (r:= .inl ()) (by simp only [l2,decide_false,zab])]
   rw [zaj,h1]
  ·have e1:(b != 0)=true:=by simpa using h1
   rw [zaw (r:= .inr (b,())) (by simp only [l1,decide_true,zad,a1,zaa,e1])]
   rfl
 ·have e0:(a != 0)=true:=by simpa using h0
  rw [if_neg h0]
  rw [zaw (r:= .inr (a,())) (by simp only [l0,decide_true,zad,a0,zaa,e0])]
  rfl
theorem G206 {n:Nat} (hn:1≤n) (a b:Int): @Eq (Option (Int×Unit)) ((zah n).d 206 [.sl (.int .i64) ([a,b]:List Int)] [.int .i64]) (some (if a=0 then b else a,())):=by
 obtain ⟨n,rfl⟩:∃k,n=k+1:=⟨n - 1,by omega⟩
 exact (q206 n [a,b]).trans (L206_two _ a b)
theorem L184 {n:Nat} (hn:2≤n) (a b:Gt.Use):m184 (zah n) a b=some (cU a b,()):=by
 obtain ⟨n,rfl⟩:∃k,n=k+2:=⟨n - 2,by omega⟩
 unfold m184
 rw [q93,q93,L93,L93]
 simp only [zaa]
 exact congrArg (fun z=>ob (α:=Int×Unit) z fun r=>some (r.1,())) (G206 (n:=n+2) (by omega) _ _)
theorem L156 (o:Orc Sx) (a b:Gt.Use):m156 o a b=some (cU a b,()):=by
 unfold m156 cU
 simp only [zdp]
 rcases znK a.name b.name with ⟨h1,e1⟩ | ⟨h1,e1⟩ | ⟨h1,e1⟩
 ·have h2:(a.name==b.name)=false:=by
   simp only [beq_eq_false_iff_ne,ne_eq];intro he;rw [he] at h1;exact yBd _ h1
  rw [e1,h2]
  simp [h1,zad,zab,zaa]
 ·rw [e1,h1]
  rcases znK a.with_ b.with_ with ⟨h3,e3⟩ | ⟨h3,e3⟩ | ⟨h3,e3⟩
  ·have h4:(a.with_==b.with_)=false:=by
    simp only [beq_eq_false_iff_ne,ne_eq];intro he;rw [he] at h3;exact yBd _ h3
   rw [e3,h4]
   simp [h3,yBd,zad,zab,zaa]
  ·rw [e3,h3]
   simp [zad]
  ·have h4:(a.with_==b.with_)=false:=by
    simp only [beq_eq_false_iff_ne,ne_eq];intro he;rw [he] at h3;exact yBd _ h3
   have h5:¬a.with_<b.with_:=fun h=>yBd _ (yB9 h h3)
   rw [e3,h4]
   simp [h5,yBd,zad,zab,zaa]
 ·have h2:(a.name==b.name)=false:=by
   simp only [beq_eq_false_iff_ne,ne_eq];intro he;rw [he] at h1;exact yBd _ h1
  have h5:¬a.name<b.name:=fun h=>yBd _ (yB9 h h1)
  rw [e1,h2]
  simp [h5,zab,zaa]
theorem L207 {n:Nat} (hn:1≤n) (x y:Int):m207 (zah n) x y=some (if x<y then -1 else if y<x then 1 else 0,()):=by
 obtain ⟨n,rfl⟩:∃k,n=k+1:=⟨n - 1,by omega⟩
 unfold m207
 rw [q230,q230]
 unfold m230
 simp only [bne_self_eq_false,zaa,zab]
 by_cases h1:x<y
 ·simp [h1,zad]
 ·by_cases h2:y<x
  ·simp [h1,h2,zad,zab]
  ·simp [h1,h2,zab]
def zkh:Way→Way→Option Int
 | [],_=>none
 | _::_,[]=>some 1
 | x::a,y::b=>if cU x y≠0 then some (cU x y) else zkh a b
theorem zkg:∀{a b:Way},a.length=b.length→(match zkh a b with | some v=>v | none=>0)=zlO cU a b
 | [],[],_=>rfl
 | x::a,y::b,hl=>by
   simp only [zkh,zlO]
   by_cases h:cU x y=0
   ·rw [if_neg (by simp [h]),if_pos h];exact zkg (by simpa using hl)
   ·rw [if_pos h,if_neg h]
def cmpR (o:Option Int):Unit⊕(Int×Unit):=match o with | some v=> .inr (v,()) | none=> .inl ()
theorem zkf {f:Int×Unit→Option ((Int×Unit)⊕(Unit⊕(Int×Unit)))} {a b:Way}
  (h1:∀k (ha:k<a.length) (hb:k<b.length),f ((k:Int),())=if cU a[k] b[k]≠0 then some (.inr (.inr (cU a[k] b[k],()))) else some (.inl (((k+1:Nat):Int),())))
  (h2:∀k,k<a.length→b.length≤k→f ((k:Int),())=some (.inr (.inr (1,())))) (h3:f ((a.length:Int),())=some (.inr (.inl ()))) :
  ∀d k:Nat,a.length=k+d→zan f ((k:Int),())=some (cmpR (zkh (a.drop k) (b.drop k)))
 | 0,k,hk=>by
   have:k=a.length:=by omega
   subst this
   rw [zaw h3,yAx (yAi _)];rfl
 | d+1,k,hk=>by
   have ha:k<a.length:=by omega
   by_cases hb:k<b.length
   ·have:=h1 k ha hb
    rw [yAr ha,yAr hb]
    simp only [zkh]
    by_cases hc:cU a[k] b[k]≠0
    ·rw [if_pos hc] at this ⊢
     rw [zaw this];rfl
    ·rw [if_neg hc] at this ⊢
     rw [zaC this]
     exact zkf h1 h2 h3 d (k+1) (by omega)
   ·rw [zaw (h2 k ha (by omega)),yAr ha,yAx (by omega:b.length≤k)]
    rfl
theorem L180 {n:Nat} (hn:3≤n) {a b:Way} (ha:a.length≤1000000000) (_:b.length≤1000000000):m180 (zah n) a b=some (cR cU a b,()):=by
 obtain ⟨n,rfl⟩:∃k,n=k+1:=⟨n - 1,by omega⟩
 unfold m180
 rw [q207,L207 (by omega:1≤n)]
 simp only [zaa]
 generalize hf:(fun (t3:Int×Unit)=>(br (decide (t3.1<(len a))) _ _:Option ((Int×Unit)⊕(Unit⊕(Int×Unit)))))=f
 have hl:=zkf (f:=f) (a:=a) (b:=b) (fun k h1 h2=>by
  subst hf
  have e1:¬(len b≤(k:Int)):=by unfold len;omega
  simp only [zam,h1,decide_true,zad,zak h1,zak h2,zaa,e1,decide_false,zab,q184,L184 (by omega:2≤n),zae h1 (by omega:a.length≤9223372036854775807)]
  by_cases hc:cU a[k] b[k]=0
  ·simp [hc,zab]
  ·have:(cU a[k] b[k] != 0)=true:=by simpa using hc
   rw [this,zad,if_pos hc]) (fun k h1 h2=>by
  subst hf
  have e1:(len b≤(k:Int)):=by unfold len;omega
  simp only [zam,h1,decide_true,zad,zak h1,zaa,e1]) (by subst hf;simp [len,zab]) a.length 0 (by omega)
 have hl':zan f ((0:Int),())=some (cmpR (zkh a b)):=hl
 rw [hl']
 have hx:∃v,(zaz (some (cmpR (zkh a b))) (fun (_:Unit)=>(br (decide ((len a)<(len b))) (some ((-1),())) (some (0,())))):Option (Int×Unit))=some (v,())∧(a.length=b.length→v=zlO cU a b):=by
  have:= @zkg a b
  cases hc:zkh a b with
  | some v=>rw [hc] at this;exact ⟨v,rfl,this⟩
  | none =>
    rw [hc] at this
    refine ⟨if len a<len b then -1 else 0,?_,fun he=> ?_⟩
    ·show br (decide (len a<len b)) _ _=_
     by_cases h:len a<len b<;>simp [h,zad,zab]
    ·rw [if_neg (by unfold len;omega)];exact this he
 obtain ⟨v,hv,hv2⟩:=hx
 rw [hv]
 simp only [zaa]
 refine (congrArg (fun z=>ob (α:=Int×Unit) z fun r=>some (r.1,())) (G206 (n:=n+1) (by omega) _ _)).trans ?_
 simp only [zaa]
 unfold cR
 have e1:(len a<len b)=(a.length<b.length):=by unfold len;simp
 have e2:(len b<len a)=(b.length<a.length):=by unfold len;simp
 simp only [e1,e2]
 by_cases h1:a.length<b.length
 ·simp [h1]
 ·by_cases h2:b.length<a.length
  ·simp [h1,h2]
  ·simp [h1,h2,hv2 (by omega)]
theorem L155 {n:Nat} (hn:1≤n) {a b:Way} (ha:a.length≤1000000000) (_:b.length≤1000000000):m155 (zah n) a b=some (cR cU a b,()):=by
 obtain ⟨n,rfl⟩:∃k,n=k+1:=⟨n - 1,by omega⟩
 unfold m155 cR
 have e1:(len a<len b)=(a.length<b.length):=by unfold len;simp
 simp only [e1]
 by_cases h0:a.length=b.length
 ·have e0:(len a != len b)=false:=by unfold len;simp [h0]
  rw [e0,zab]
  generalize hf:(fun (t1:Int×Unit)=>(br (decide (t1.1<(len a))) _ _:Option ((Int×Unit)⊕(Unit⊕(Int×Unit)))))=f
  have hl:=zkf (f:=f) (a:=a) (b:=b) (fun k h1 h2=>by
   subst hf
   simp only [zam,h1,decide_true,zad,zak h1,zak h2,zaa,q156,L156,zae h1 (by omega:a.length≤9223372036854775807)]
   by_cases hc:cU a[k] b[k]=0
   ·simp [hc,zab]
   ·have:(cU a[k] b[k] != 0)=true:=by simpa using hc
    rw [this,zad,if_pos hc]) (fun k h1 h2=>by omega) (by subst hf;simp [len,zab]) a.length 0 (by omega)
  have hl':zan f ((0:Int),())=some (cmpR (zkh a b)):=hl
  rw [hl',if_neg (by omega),if_neg (by omega),←zkg h0]
  cases zkh a b<;>rfl
 ·have e0:(len a != len b)=true:=by unfold len;rw [bne_iff_ne];omega
  rw [e0,zad]
  by_cases h1:a.length<b.length
  ·simp [h1,zad]
  ·rw [if_neg h1,if_pos (by omega)]
   simp [h1,zab]
theorem L46 (o:Orc Sx) {a b:Way} (ha:a.length≤1000000000):m46 o a b=some (a==b,()):=by
 unfold m46
 by_cases h0:a.length=b.length
 ·have e0:(len a != len b)=false:=by unfold len;simp [h0]
  rw [e0,zab]
  generalize hf:(fun (t1:Int×Unit)=>(br (decide (t1.1<(len a))) _ _:Option ((Int×Unit)⊕(Unit⊕(Bool×Unit)))))=f
  have key:∀d k:Nat,a.length=k+d→zan f ((k:Int),())=some (if (a.drop k==b.drop k)=true then .inl () else .inr (false,())):=by
   intro d
   induction d with
   | zero =>
     intro k hk
     have h1:¬((k:Int)<len a):=by rw [zam];omega
     rw [zaw (r:= .inl ()) (by subst hf;simp only [h1,decide_false,zab]),yAx (by omega),yAx (by omega)]
     rfl
   | succ d ih =>
     intro k hk
     have h1:k<a.length:=by omega
     have h2:k<b.length:=by omega
     rw [yAr h1,yAr h2,List.cons_beq_cons]
     cases hc:a[k]==b[k] with
     | true =>
       rw [zaC (y:=(((k+1:Nat):Int),())) (by subst hf;simp only [zam,h1,decide_true,zad,zak h1,zak h2,zaa,zt3,hc,yA9,zab,zae h1 (by omega:a.length≤9223372036854775807)]),ih (k+1) (by omega),yCk]
     | false =>
       rw [zaw (r:= .inr (false,())) (by subst hf;simp only [zam,h1,decide_true,zad,zak h1,zak h2,zaa,zt3,hc,yBE])]
       simp
  have:=key a.length 0 (by omega)
  simp only [yBa] at this
  have this':zan f ((0:Int),())=_:=this
  rw [this']
  cases a==b<;>rfl
 ·have e0:(len a != len b)=true:=by unfold len;rw [bne_iff_ne];omega
  rw [e0,zad]
  have:(a==b)=false:=by
   rw [beq_eq_false_iff_ne];intro he;rw [he] at h0;exact h0 rfl
  rw [this]
theorem L182 {n:Nat} (hn:1≤n) {a b:Way} (ha:a.length≤1000000000):m182 (zah n) a b=some (a==b,()):=by
 obtain ⟨n,rfl⟩:∃k,n=k+1:=⟨n - 1,by omega⟩
 unfold m182
 rw [q46,L46 (zah n) ha];rfl
theorem q179 (n:Nat) (l:List Way): @Eq (Option (List Way)) ((zah (n+1)).p 179 (.sl (.st 6)) 43 [.func (.func 180) [] []] l) (zef (S:=Sx) (zah n) 180 (.sl (.st 6)) l) :=
 (show _=opt1 (zef (S:=Sx) (zah n) 180 (.sl (.st 6)) l) by kernel_rfl).trans (zmg _)
theorem q210 (n:Nat) (l:Way): @Eq (Option Way) ((zah (n+1)).p 210 (.st 6) 64 [.func (.func 184) [] []] l) (zef (S:=Sx) (zah n) 184 (.st 6) l) :=
 (show _=opt1 (zef (S:=Sx) (zah n) 184 (.st 6) l) by kernel_rfl).trans (zmg _)
theorem zo9 {n:Nat} (hn:5≤n) {l:List Way} (h:∀w∈l,w.length≤1000000) (hl:l.length≤lim): @Eq (Option (List Way)) (zef (S:=Sx) (zah n) 180 (.sl (.st 6)) l) (some (zdi (cR cU) l)):=by
 obtain ⟨n,rfl⟩:∃k,n=k+2:=⟨n - 2,by omega⟩
 refine zjq (S:=Sx) (u:= .sl (.st 6)) (c:=cR cU) (fun x hx y hy=> ?_) (zbY.on l) hl rfl
 exact (q180 (n+1) x y).trans (L180 (by omega) (by have:=h x hx;omega) (by have:=h y hy;omega))
theorem zpa {n:Nat} (hn:4≤n) {l:Way} (hl:l.length≤lim): @Eq (Option Way) (zef (S:=Sx) (zah n) 184 (.st 6) l) (some (zdi cU l)):=by
 obtain ⟨n,rfl⟩:∃k,n=k+2:=⟨n - 2,by omega⟩
 refine zjq (S:=Sx) (u:= .st 6) (c:=cU) (fun x _ y _=> ?_) (zeC.on l) hl rfl
 exact (q184 (n+1) x y).trans (L184 (by omega) x y)
theorem m231_gen (o:Orc Sx) (n:Int):m231 o n=zro (Gt.Use.mk [] []) n:=rfl
theorem m209_gen (o:Orc Sx) (s:List Way):m209 o s=zkd (fun n=>o.l 231 sg231 ((n,()):Int×Unit)) s:=rfl
theorem m211_gen (o:Orc Sx) (s:Way):m211 o s=zeS (R:=Unit) (Gt.Use.mk [] []) (fun a b=>some ((a.name==b.name)&&((a.with_==b.with_)&&true))) s:=rfl
theorem m181_gen (o:Orc Sx) (s:List Way):m181 o s=zke [] (fun a b=>o.d 182 [.sl (.st 6) a,.sl (.st 6) b] [.bool]) s:=rfl
theorem L181 {n:Nat} (hn:2≤n) {s:List Way} (h:∀w∈s,w.length≤1000000) (hl:s.length≤4294967296):m181 (zah n) s=some (.inl (zid (fun a b=>a==b) s s.length,())):=by
 obtain ⟨n,rfl⟩:∃k,n=k+1:=⟨n - 1,by omega⟩
 refine (m181_gen _ s).trans ((zmx _ _ s).trans ?_)
 refine zfs (fun x hx y hy=> ?_) hl
 exact congrArg (fun z=>ob (α:=Bool×Unit) z fun r=>some r.1) ((q182 n x y).trans (L182 (by omega) (by have:=h x hx;omega)))
theorem zrJ {s:List Way} (hs:zcg (cR cU) s):(s.any fun w=>decide (40<w.length))=(match s.getLast? with | some w=>decide (40<w.length) | none=>false):=by
 cases h:s.getLast? with
 | none =>
   have:s=[]:=List.getLast?_eq_none_iff.1 h
   rw [this];rfl
 | some w =>
   obtain ⟨r,rfl⟩:=List.getLast?_eq_some_iff.1 h
   obtain ⟨_,_,h3⟩:=yAX.1 hs
   rw [yCt]
   simp only [List.any_cons,List.any_nil,Bool.or_false]
   cases hw:decide (40<w.length) with
   | true=>simp
   | false =>
     rw [Bool.or_false,yBB]
     intro v hv
     have h4:=ztZ (h3 v hv w (by simp))
     have:=of_decide_eq_false hw
     simp;omega
def zsb (o:Option (List Way)):List Way×Bool×Unit:=match o with | some W=>(W,true,()) | none=>([],false,())
theorem L151 {n:Nat} (hn:6≤n) {l:List Way} (h:∀w∈l,w.length≤1000000) (hl:l.length≤100000000):m151 (zah n) l=some (.inl (zsb (zg6 l))):=by
 obtain ⟨n,rfl⟩:∃k,n=k+1:=⟨n - 1,by omega⟩
 have hlim:lim=4294967296:=rfl
 unfold m151
 have h1: @Eq (Option (List Way)) ((zah (n+1)).p 179 (.sl (.st 6)) 43 [.func (.func 180) [] []] l) (some (zdi (cR cU) l)):=by
  rw [q179];exact zo9 (by omega) h (by omega)
 have hsl:=(zbc (cR cU) l).length_eq
 have h2: @Eq (Option ((List Way×Unit)⊕Unit)) ((zah (n+1)).l 181 sg181 ((zdi (cR cU) l,()):List Way×Unit)) (some (.inl (zb0 l,()))):=by
  rw [q181,L181 (by omega:2≤n) (fun w hw=>h w ((zbc (cR cU) l).mem_iff.1 hw)) (by omega),ziS zbY (fun x y=>by simp)]
  rfl
 refine (congrArg (fun z=>ob (α:=List Way) z _) h1).trans ?_
 rw [zaa]
 refine (congrArg (fun z=>oc (α:=List Way×Unit) (β:=Unit) z _ _) h2).trans ?_
 rw [za4]
 have hst:zcg (cR cU) (zb0 l):=zfA zbY l
 have hsn:(zb0 l).length≤100000000:=by
  have:∀(l a:List Way),(l.foldl (fun a x=>zg3 (cR cU) x a) a).length≤a.length+l.length:=by
   have hp:∀(x:Way) (l:List Way),(zg3 (cR cU) x l).length≤l.length+1:=by
    intro x l
    induction l with
    | nil=>simp [zg3]
    | cons y r ih =>
      unfold zg3
      split
      ·simpa using ih
      ·split<;>simp
   intro l
   induction l with
   | nil=>intro a;simp
   | cons x r ih =>
     intro a
     have:=ih (zg3 (cR cU) x a)
     have:=hp x a
     simp only [yAW,yAt];omega
  show (l.foldl (fun a x=>zg3 (cR cU) x a) []).length≤_
  exact yAk (this l []) (by simp;omega)
 have hb:big (zb0 l)=(decide (300<len (zb0 l))||(match (zb0 l).getLast? with | some w=>decide (40<w.length) | none=>false)):=by
  unfold big
  rw [zrJ hst]
  congr 1
  exact decide_eq_decide.2 (by unfold len;omega)
 unfold zg6
 generalize zb0 l=s at hb hsn
 rw [hb]
 cases h3:decide (300<len s) with
 | true=>simp [zad,zaa,zsb]
 | false =>
   simp only [zab,yCl]
   cases hs:s.getLast? with
   | none =>
     have:s=[]:=List.getLast?_eq_none_iff.1 hs
     subst this
     simp [len,zab,zaa,zsb]
   | some w =>
     have hne:s≠[]:=fun h=>by rw [h] at hs;cases hs
     have hpos:0<s.length:=List.length_pos_iff.2 hne
     have h0:((0:Int)<len s):=by unfold len;omega
     have hw:IntKind.i64.wrap (len s - 1)=((s.length - 1:Nat):Int):=by unfold len;rw [za5 (by omega) (by omega)];omega
     have hi:s.length - 1<s.length:=by omega
     have hg:s[s.length - 1]=w:=by
      rw [List.getLast?_eq_getElem?,yAe hi] at hs
      exact yAB hs
     have hd:decide (40<len w)=decide (40<w.length):=decide_eq_decide.2 (by unfold len;omega)
     simp only [h0,decide_true,zad,hw,zex hi,zaa,zey hi,hg,hd]
     by_cases h40:40<w.length
     ·have e1:decide (40<w.length)=true:=decide_eq_true h40
      simp only [e1,zad,if_true];rfl
     ·have e1:decide (40<w.length)=false:=decide_eq_false h40
      simp only [e1,zab,yCf,if_false];rfl
noncomputable def zjK (orc:Orc Sx) (v w:Way):Option (Way×Unit) :=
 (oc (α:=List (Gt.Use)×Unit) (β:=Unit) (orc.l 209 sg209 (([v,w],()):List (List (Gt.Use))×Unit)) (fun (r6:List (Gt.Use)×Unit)=>(ob (α:=List (Gt.Use)) (orc.p 210 (.st 6) 64 [.func (.func 184) [] []] r6.1) fun (l8:List (Gt.Use))=>(oc (α:=List (Gt.Use)×Unit) (β:=Unit) (orc.l 211 sg211 ((l8,()):List (Gt.Use)×Unit)) (fun (r9:List (Gt.Use)×Unit)=>(some (r9.1,()))) fun (_:Unit)=>none))) fun (_:Unit)=>none)
theorem zmj {n:Nat} (hn:5≤n) {v w:Way} (hl:v.length+w.length≤1073741824):zjK (zah n) v w=some (zoe (v++w),()):=by
 obtain ⟨n,rfl⟩:∃k,n=k+2:=⟨n - 2,by omega⟩
 unfold zjK
 have h1: @Eq (Option ((Way×Unit)⊕Unit)) ((zah (n+2)).l 209 sg209 (([v,w],()):List Way×Unit)) (some (.inl (v++w,()))):=by
  rw [q209,m209_gen]
  exact zib (fun m hm=>by rw [q231,m231_gen,znv _ hm];rfl) hl
 have h2: @Eq (Option Way) ((zah (n+2)).p 210 (.st 6) 64 [.func (.func 184) [] []] (v++w)) (some (zdi cU (v++w))):=by
  rw [q210];exact zpa (by omega) (by unfold lim;simp;omega)
 have h3: @Eq (Option ((Way×Unit)⊕Unit)) ((zah (n+2)).l 211 sg211 ((zdi cU (v++w),()):Way×Unit)) (some (.inl (zoe (v++w),()))):=by
  rw [q211,m211_gen]
  refine (zfs (t:=fun (a b:Gt.Use)=>(a.name==b.name)&&((a.with_==b.with_)&&true)) (fun _ _ _ _=>rfl) (by rw [(zbc cU _).length_eq];simp;omega)).trans ?_
  exact congrArg (fun z=>some (Sum.inl (z,()))) (ziS zeC (fun x y=>by rw [zt3];simp) (v++w))
 rw [h1,za4]
 refine (congrArg (fun z=>ob (α:=Way) z _) h2).trans ?_
 exact congrArg (fun z=>oc z (fun (r8:Way×Unit)=>some (r8.1,())) (fun (_:Unit)=>none)) h3
theorem zm1 (a b:List Way):(zbN a b).length=a.length*b.length:=by
 unfold zbN
 induction a with
 | nil=>simp
 | cons v r ih=>rw [yBn,yAG,ih,yCa,yAt,yAw];omega
theorem L152 {n:Nat} (hn:5≤n) {a b:List Way} (ha:a.length≤1000) (hb:b.length≤1000) (ha2:∀w∈a,w.length≤1000000) (hb2:∀w∈b,w.length≤1000000):m152 (zah n) a b=some (.inl (zbN a b,())):=by
 have hlim:lim=4294967296:=rfl
 unfold m152
 rw [show (([]:List Way),(0:Int),())=((fun (k:Nat) (x:List Way)=>(x,(k:Int),())) 0 []) from rfl]
 rw [zbe (fun (k:Nat) (x:List Way)=>(x,(k:Int),())) a (fun x v=>x++b.map fun w=>zoe (v++w)) (fun x=> .inl (x,())) (fun k x=>x.length≤k*1000) ?h1 ?h2 [] (by simp)]
 case h1 =>
  intro k hk x hx
  have hk2:k*1000≤1000*1000:=yAm _ (by omega)
  have hva:=ha2 _ (yAl hk)
  simp only [zam,hk,decide_true,zad,zak hk,zaa]
  rw [show (x,(0:Int),())=((fun (j:Nat) (y:List Way)=>(y,(j:Int),())) 0 x) from rfl]
  rw [zbe (fun (j:Nat) (y:List Way)=>(y,(j:Int),())) b (fun y w=>y++[zoe (a[k]++w)]) (fun y=> .inl (y,())) (fun j y=>y.length≤1000000+j) ?g1 ?g2 x (by omega)]
  case g1 =>
   intro j hj y hy
   have hwb:=hb2 _ (yAl hj)
   have hm:=zmj (n:=n) hn (v:=a[k]) (w:=b[j]) (by omega)
   unfold zjK at hm
   simp only [zam,hj,decide_true,zad,zak hj,zaa,hm,zae hj (by omega:b.length≤9223372036854775807)]
   rw [zax (by simp;omega)]
   exact ⟨rfl,by simp;omega⟩
  case g2=>intro y _;simp [len,zab]
  have hfm:∀(l y:List Way),l.foldl (fun y w=>y++[zoe (a[k]++w)]) y=y++l.map fun w=>zoe (a[k]++w):=by
   intro l
   induction l with
   | nil=>intro y;simp
   | cons w r ih=>intro y;rw [yAW,ih,yAn,yAU];rfl
  rw [hfm]
  simp only [zaj,zae hk (by omega:a.length≤9223372036854775807)]
  refine ⟨trivial,?_⟩
  rw [yAG,yCa,yAw];omega
 case h2=>intro x _;simp [len,zab]
 rw [zaj]
 have:∀(l x:List Way),l.foldl (fun x v=>x++b.map fun w=>zoe (v++w)) x=x++l.flatMap fun v=>b.map fun w=>zoe (v++w):=by
  intro l
  induction l with
  | nil=>intro x;simp
  | cons v r ih=>intro x;rw [yAW,ih,yBn,yAU]
 rw [this]
 rfl
noncomputable def zta (orc:Orc Sx) (L:List Way) (x:Way):Option (Bool×Unit) :=
 (ob (α:=Int×Unit) (zaz (σ:=Unit) (R:=Int×Unit) (zan (σ:=Int×Unit) (R:=Unit⊕(Int×Unit)) (fun (t5:Int×Unit)=>(br (decide (t5.1<(len L))) (ob (at? L t5.1) fun y6=>(ob (α:=Bool×Unit) (ob (α:=Bool×Unit) (orc.d 73 [.sl (.st 6) y6,.sl (.st 6) x] [.bool]) fun (r8:Bool×Unit)=>(some (r8.1,()))) fun (r9:Bool×Unit)=>(br r9.1 (some (.inr (.inr (t5.1,())))) (some (.inl ((IntKind.i64.wrap (t5.1+1)),())))))) (some (.inr (.inl (())))))) (0,())) fun (_:Unit)=>(some ((-1),()))) fun (r11:Int×Unit)=>(some ((decide (0≤r11.1)),())))
theorem zrz {n:Nat} (hn:3≤n) {L:List Way} {x:Way} (hL:L.length≤1000000000) (h1:∀w∈L,w.length≤1000000000) (hx:x.length≤1000000000):zta (zah n) L x=some (perm L x,()):=by
 obtain ⟨n,rfl⟩:∃k,n=k+1:=⟨n - 1,by omega⟩
 unfold zta
 rw [zaO L (fun w=>zdR w x) (fun k=> .inr ((k:Int),())) (.inl ()) ?h1 ?h2]
 case h1 =>
  intro k hk
  simp only [zam,hk,decide_true,zad,zak hk,zaa,q73,L73 (by omega:2≤n) (h1 _ (yAl hk)) hx,zae hk (by omega:L.length≤9223372036854775807)]
  cases zdR L[k] x<;>rfl
 case h2=>simp [len,zab]
 unfold perm
 rw [←zbk]
 cases L.findIdx? (fun w=>zdR w x) with
 | none=>rfl
 | some k =>
   have:((0:Int)≤(k:Int)):=by omega
   simp [zaG,zaa,this]
theorem L153 {n:Nat} (hn:3≤n) {l:List Way} (hl:zcg (cR cU) l) (hs:∀w∈l,zcg cU w) (hn2:l.length≤1000000) (hw:∀w∈l,w.length≤1000000):m153 (zah n) l=some (zbs cU l,()):=by
 have hlim:lim=4294967296:=rfl
 unfold m153
 rw [show (([]:List Way),(0:Int),())=((fun (k:Nat) (x:List Way)=>(x,(k:Int),())) 0 []) from rfl]
 rw [zbe (fun (k:Nat) (x:List Way)=>(x,(k:Int),())) l (fun out w=>if out.any (fun v=>zdR v w)=true then out else out++[w]) (fun x=> .inl (x,())) (fun k x=>x.length≤k∧∀w∈x,w∈l) ?h1 ?h2 [] ⟨yAi _,by simp⟩]
 case h1 =>
  intro k hk x hx
  have hm:=zrz (n:=n) hn (L:=x) (x:=l[k]) (by have:=hx.1;omega) (fun w hwx=>by have:=hw w (hx.2 w hwx);omega) (by have:=hw _ (yAl hk);omega)
  unfold zta at hm
  simp only [zam,hk,decide_true,zad,zak hk,zaa,hm,zae hk (by omega:l.length≤9223372036854775807)]
  rw [zax (by have:=hx.1;simp;omega)]
  have hp:perm x l[k]=x.any (fun v=>zdR v l[k]):=rfl
  rw [hp]
  cases x.any (fun v=>zdR v l[k]) with
  | true=>exact ⟨rfl,by rw [if_pos rfl];exact ⟨by have:=hx.1;omega,hx.2⟩⟩
  | false =>
    refine ⟨rfl,?_⟩
    rw [if_neg (by simp)]
    refine ⟨by have:=hx.1;simp;omega,fun w hwx=> ?_⟩
    rcases yAv.1 hwx with h | h
    ·exact hx.2 w h
    ·rw [yA3] at h;subst h;exact yAl hk
 case h2=>intro x _;simp [len,zab]
 rw [zaj,zov zeC zik hl hs]
end Pe.Tryz
end
section
/- The laws of ways in plain, second part: the program's ways of an expression, Permits, Weaker. -/
set_option maxRecDepth 100000
namespace Pe.Tryz
open Go Go.Proofs Pe LicSpec
theorem znJ {c:Cat} (hc:SmallC c) (e:Ex):(zkk c e).length≤2000000:=by
 unfold zkk
 cases (lIx c e.name).isSome with
 | true=>exact yAk (yBS _ _) hc.lics
 | false=>simp
theorem zpv (c:Cat):∀(l:List Ex) (W:List Way),zbo c l=some W→W.length≤l.length*300∧∀w∈W,w.length≤40
 | [],W,h=>by simp only [zbo] at h;cases h;simp
 | k::r,W,h=>by
   simp only [zbo] at h
   obtain ⟨m,h1,h2⟩:=yAK.1 h
   obtain ⟨l,h3,rfl⟩:=yAM.1 h2
   have g:=zbP c k m h1
   obtain ⟨i1,i2⟩:=zpv c r l h3
   refine ⟨?_,fun w hw=>(yAv.1 hw).elim (g.len w) (i2 w)⟩
   have:=g.num
   rw [yAG,yAt,yAw];omega
theorem zhn (c:Cat):∀(l:List Ex) (a W:List Way),GoodW a→zaT c l a=some W→GoodW W
 | [],a,W,ha,h=>by simp only [zaT] at h;cases h;exact ha
 | k::r,a,W,ha,h=>by
   simp only [zaT] at h
   obtain ⟨m,h1,h2⟩:=yAK.1 h
   obtain ⟨l',h3,h4⟩:=yAK.1 h2
   exact zhn c r l' W (zcd zfK h3).1 h4
theorem zhi:GoodW [[]]:=⟨yAT _ _,fun w hw=>by rw [yA3] at hw;subst hw;exact List.Pairwise.nil,by simp,fun w hw=>by rw [yA3] at hw;subst hw;simp⟩
theorem zkz (v w:Way):(zoe (v++w)).length≤v.length+w.length:=by
 have:∀(l a:Way),(l.foldl (fun a x=>zg3 cU x a) a).length≤a.length+l.length:=by
  have hp:∀(x:Gt.Use) (l:Way),(zg3 cU x l).length≤l.length+1:=by
   intro x l
   induction l with
   | nil=>simp [zg3]
   | cons y r ih =>
     unfold zg3
     split
     ·simpa using ih
     ·split<;>simp
  intro l
  induction l with
  | nil=>intro a;simp
  | cons x r ih =>
    intro a
    have:=ih (zg3 cU x a)
    have:=hp x a
    simp only [yAW,yAt];omega
 show ((v++w).foldl (fun a x=>zg3 cU x a) []).length≤_
 exact yAk (this (v++w) []) (by simp)
theorem zkV {a b:List Way} (ha:∀w∈a,w.length≤40) (hb:∀w∈b,w.length≤40):∀w∈zbN a b,w.length≤1000000:=by
 intro w hw
 obtain ⟨v,hv,h1⟩:=List.mem_flatMap.1 hw
 obtain ⟨x,hx,rfl⟩:=yA1.1 h1
 have:=zkz v x
 have:=ha v hv
 have:=hb x hx
 omega
theorem zjh {n:Nat} (hn:8≤n) {l:List Way} (hs:∀w∈l,zcg cU w) (h:∀w∈l,w.length≤1000000) (hl:l.length≤100000000) :
  (oc (α:=List (List (Gt.Use))×Bool×Unit) (β:=Unit) ((zah n).l 151 sg151 ((l,()):List (List (Gt.Use))×Unit)) (fun (r17:List (List (Gt.Use))×Bool×Unit)=>(ob (α:=List (List (Gt.Use))×Unit) ((zah n).d 153 [.sl (.sl (.st 6)) r17.1] [(.sl (.sl (.st 6)))]) fun (r19:List (List (Gt.Use))×Unit)=>(some (r19.1,r17.2.1,())))) fun (_:Unit)=>none)=some (zsb ((zg6 l).map (zbs cU))):=by
 obtain ⟨n,rfl⟩:∃k,n=k+1:=⟨n - 1,by omega⟩
 rw [q151,L151 (by omega:6≤n) h hl,za4]
 cases hb:zg6 l with
 | none =>
   show ob ((zah (n+1)).d 153 [.sl (.sl (.st 6)) ([]:List Way)] [(.sl (.sl (.st 6)))]) _=_
   have h3: @Eq (Option (List Way×Unit)) ((zah (n+1)).d 153 [.sl (.sl (.st 6)) ([]:List Way)] [(.sl (.sl (.st 6)))]) (some (zbs cU [],())):=by
    rw [q153];exact L153 (by omega) List.Pairwise.nil (by simp) (by simp) (by simp)
   refine (congrArg (fun z=>ob (α:=List Way×Unit) z _) h3).trans ?_
   rfl
 | some s =>
   obtain ⟨g,_⟩:=zcd hs hb
   have h3: @Eq (Option (List Way×Unit)) ((zah (n+1)).d 153 [.sl (.sl (.st 6)) s] [(.sl (.sl (.st 6)))]) (some (zbs cU s,())):=by
    rw [q153];exact L153 (by omega) g.str g.each (by have:=g.num;omega) fun w hw=>by have:=g.len w hw;omega
   show ob ((zah (n+1)).d 153 [.sl (.sl (.st 6)) s] [(.sl (.sl (.st 6)))]) _=_
   refine (congrArg (fun z=>ob (α:=List Way×Unit) z _) h3).trans ?_
   rfl
theorem L112 {c:Cat} (hc:SmallC c):∀(n:Nat) (e:Ex),e.lev+20≤n→zcf e=0→e.cnt≤200→m112 (zah n) c e=some (zsb (zdh c e)):=by
 intro n
 induction n with
 | zero=>intro e h;omega
 | succ n ih =>
   intro e hl hf hcn
   obtain ⟨h1,h2⟩:=zbW hf
   have hlim:lim=4294967296:=rfl
   have hkl:e.kids.length<e.cnt:=zgD
   unfold m112
   rw [zmE]
   have kid:∀k (hk:k<e.kids.length),m112 (zah n) c e.kids[k]=some (zsb (zdh c e.kids[k])):=fun k hk=>by
    have hmem:=yAl hk
    have:=zdt hmem
    have:=zfY hmem
    exact ih _ (by omega) (zbX h2 hmem) (by omega)
   by_cases hk1:e.kind=1
   ·have e1:(e.kind==1)=true:=by simpa using hk1
    rw [e1,if_pos hk1]
    simp only [zad,Ex.eta,q150,L150 (by omega:3≤n) hc e,zaa]
    have hcl:=znJ hc e
    rw [zcO (zkk c e) (fun u=>some [u]) (fun l=> .inl (l,())) ?h1 ?h2]
    case h1 =>
     intro k hk a ha
     simp only [zam,hk,decide_true,zad,zak hk,zaa,zae hk (by omega:(zkk c e).length≤9223372036854775807)]
     rw [zax (by simp;omega)]
     rfl
    case h2=>intro a;simp [len,zab]
    rw [zaj,List.filterMap_eq_map']
    refine zjh (by omega) (fun w hw=> ?_) (fun w hw=> ?_) (by simp;omega)
    ·obtain ⟨u,_,rfl⟩:=yA1.1 hw
     exact yAT _ _
    ·obtain ⟨u,_,rfl⟩:=yA1.1 hw
     simp
   ·have e1:(e.kind==1)=false:=by simpa using hk1
    rw [e1,if_neg hk1,zab]
    by_cases hk3:e.kind=3
    ·have e3:(e.kind==3)=true:=by simpa using hk3
     rw [e3,if_pos hk3,zad]
     rw [show (([]:List Way),(0:Int),())=((fun (k:Nat) (x:List Way)=>(x,(k:Int),())) 0 []) from rfl]
     rw [zb9 (R:=(List Way×Unit)⊕(List Way×Bool×Unit)) (fun (k:Nat) (x:List Way)=>(x,(k:Int),())) e.kids.length (fun k x=>match zbo c (e.kids.drop k) with | some l=> .inl (x++l,()) | none=> .inr ([],false,())) (fun k x=>x.length≤k*300) ?g1 0 [] (yAD _) (by simp)]
     case g1 =>
      intro k x hk' hx
      by_cases hlt:k<e.kids.length
      ·have hd:e.kids.drop k=e.kids[k]::e.kids.drop (k+1):=yAr hlt
       have hk3:k*300≤200*300:=yAm _ (by omega)
       have hkk:=kid k hlt
       cases hw:zdh c e.kids[k] with
       | none =>
         rw [hw] at hkk
         right
         simp only [zam,hlt,decide_true,zad,zak hlt,zaa,Ex.eta,q112,hkk]
         rw [hd]
         simp only [zbo,hw]
         rfl
       | some m =>
         rw [hw] at hkk
         have g:=zbP c _ m hw
         left
         refine ⟨x++m,hlt,?_,?_,?_⟩
         ·simp only [zam,hlt,decide_true,zad,zak hlt,zaa,Ex.eta,q112,hkk,zae hlt (by omega:e.kids.length≤9223372036854775807)]
          show br (!true) _ (ob (zaS x m) _)=_
          rw [zax (by have:=g.num;omega)]
          rfl
         ·have:=g.num
          rw [yAG,yAw];omega
         ·rw [hd]
          simp only [zbo,hw,yAs]
          cases zbo c (e.kids.drop (k+1))<;>simp
      ·right
       have hke:k=e.kids.length:=by omega
       subst hke
       simp [len,zab,zbo]
     simp only [yBa,yBe]
     cases hw:zbo c e.kids with
     | none=>simp only;rfl
     | some l =>
       simp only [zaj,yAs]
       obtain ⟨i1,i2⟩:=zpv c _ l hw
       have hk3:e.kids.length*300≤200*300:=yAm _ (by omega)
       exact zjh (by omega) (zcZ c _ l hw) (fun w hw=>by have:=i2 w hw;omega) (by omega)
    ·have e3:(e.kind==3)=false:=by simpa using hk3
     rw [e3,if_neg hk3,zab]
     rw [show (([[]]:List Way),(0:Int),())=((fun (k:Nat) (x:List Way)=>(x,(k:Int),())) 0 [[]]) from rfl]
     rw [zb9 (R:=(List Way×Unit)⊕(List Way×Bool×Unit)) (fun (k:Nat) (x:List Way)=>(x,(k:Int),())) e.kids.length (fun k x=>match zaT c (e.kids.drop k) x with | some l=> .inl (l,()) | none=> .inr ([],false,())) (fun k x=>GoodW x) ?g1 0 [[]] (yAD _) zhi]
     case g1 =>
      intro k x hk' hx
      by_cases hlt:k<e.kids.length
      ·have hd:e.kids.drop k=e.kids[k]::e.kids.drop (k+1):=yAr hlt
       have hkk:=kid k hlt
       cases hw:zdh c e.kids[k] with
       | none =>
         rw [hw] at hkk
         right
         simp only [zam,hlt,decide_true,zad,zak hlt,zaa,Ex.eta,q112,hkk]
         rw [hd]
         simp only [zaT,hw]
         rfl
       | some m =>
         rw [hw] at hkk
         have g:=zbP c _ m hw
         have h152:=L152 (n:=n) (by omega) (a:=x) (b:=m) (by have:=hx.num;omega) (by have:=g.num;omega) (fun w hw=>by have:=hx.len w hw;omega) (fun w hw=>by have:=g.len w hw;omega)
         have hpl:(zbN x m).length≤100000000:=by
          rw [zm1]
          have:=yB1 hx.num g.num
          omega
         have h151:=L151 (n:=n) (by omega) (zkV hx.len g.len) hpl
         have g152: @Eq (Option ((List Way×Unit)⊕Unit)) ((zah (n+1)).l 152 sg152 ((x,m,()):List Way×List Way×Unit)) (some (.inl (zbN x m,()))):=by rw [q152];exact h152
         have g151: @Eq (Option ((List Way×Bool×Unit)⊕Unit)) ((zah (n+1)).l 151 sg151 ((zbN x m,()):List Way×Unit)) (some (.inl (zsb (zg6 (zbN x m))))):=by rw [q151];exact h151
         cases hb:zg6 (zbN x m) with
         | none =>
           rw [hb] at g151
           right
           simp only [zam,hlt,decide_true,zad,zak hlt,zaa,Ex.eta,q112,hkk]
           rw [hd]
           simp only [zaT,hw,yAs,hb]
           show oc (α:=List Way×Unit) (β:=Unit) ((zah (n+1)).l 152 sg152 ((x,m,()):List Way×List Way×Unit)) _ _=_
           refine (congrArg (fun z=>oc (α:=List Way×Unit) (β:=Unit) z _ _) g152).trans ?_
           show oc (α:=List Way×Bool×Unit) (β:=Unit) ((zah (n+1)).l 151 sg151 ((zbN x m,()):List Way×Unit)) _ _=_
           refine (congrArg (fun z=>oc (α:=List Way×Bool×Unit) (β:=Unit) z _ _) g151).trans ?_
           rfl
         | some s =>
           rw [hb] at g151
           left
           refine ⟨s,hlt,?_,(zcd zfK hb).1,?_⟩
           ·simp only [zam,hlt,decide_true,zad,zak hlt,zaa,Ex.eta,q112,hkk,zae hlt (by omega:e.kids.length≤9223372036854775807)]
            show oc (α:=List Way×Unit) (β:=Unit) ((zah (n+1)).l 152 sg152 ((x,m,()):List Way×List Way×Unit)) _ _=_
            refine (congrArg (fun z=>oc (α:=List Way×Unit) (β:=Unit) z _ _) g152).trans ?_
            show oc (α:=List Way×Bool×Unit) (β:=Unit) ((zah (n+1)).l 151 sg151 ((zbN x m,()):List Way×Unit)) _ _=_
            refine (congrArg (fun z=>oc (α:=List Way×Bool×Unit) (β:=Unit) z _ _) g151).trans ?_
            rfl
           ·rw [hd]
            simp only [zaT,hw,yAs,hb]
      ·right
       have hke:k=e.kids.length:=by omega
       subst hke
       simp [len,zab,zaT]
     simp only [yBa]
     cases hw:zaT c e.kids [[]] with
     | none=>simp only;rfl
     | some l =>
       simp only [zaj,yAs]
       have g:=zhn c _ _ l zhi hw
       exact zjh (by omega) g.each (fun w hw=>by have:=g.len w hw;omega) (by have:=g.num;omega)
def wOf (c:Cat) (e:Ex):List Way×Int×Unit :=
 bif zf1 c != 0 then ([],zf1 c,()) else bif chk e != 0 then ([],chk e,()) else if zg2 c e≠[] then ([],4,()) else match zdh c e with | some W=>(W,0,()) | none=>([],3,())
theorem zeE {c:Cat} {e:Ex}:GoodW (wOf c e).1:=by
 have gn:GoodW []:=⟨List.Pairwise.nil,by simp,by simp,by simp⟩
 unfold wOf
 cases zf1 c != 0 with
 | true=>exact gn
 | false =>
   cases chk e != 0 with
   | true=>exact gn
   | false =>
     simp only [cond_false]
     split
     ·exact gn
     ·cases h:zdh c e with
      | some W=>exact zbP c e W h
      | none=>exact gn
theorem L70 {n:Nat} {c:Cat} (hc:SmallC c) {e:Ex} (hs:Small e) (hn:e.lev+60≤n):m70 (zah n) c e=some (wOf c e):=by
 obtain ⟨n,rfl⟩:∃k,n=k+1:=⟨n - 1,by omega⟩
 unfold m70 wOf
 rw [Ex.eta,q110,L110 hc hs (by omega)]
 simp only [zaa]
 cases h1:zf1 c != 0 with
 | true=>simp only [cond_true,h1,zad]
 | false =>
 simp only [cond_false]
 cases h2:chk e != 0 with
 | true=>rfl
 | false =>
 obtain ⟨c1,c2,c3⟩:=zkj (zcy h2)
 simp only [zab,cond_false,q111,L111 hc n e (by omega) c3 c1,zaa,q112,L112 hc n e (by omega) c3 c1]
 by_cases hu:zg2 c e=[]
 ·have:¬((0:Int)<len (zg2 c e)):=by rw [hu];simp [len]
  rw [decide_eq_false this,zab,if_neg (by simp [hu])]
  cases zdh c e<;>rfl
 ·have:((0:Int)<len (zg2 c e)):=by have:=List.length_pos_iff.2 hu;unfold len;omega
  rw [decide_eq_true this,zad,if_pos hu]
end Pe.Tryz
end
section
/- The laws of ways in plain, third part: the reference's ways. -/
set_option maxRecDepth 100000
namespace Pe.Tryz
open Go Go.Proofs Pe LicSpec
theorem ztK {lo hi:Nat} (h:lo+hi≤4000000000):IntKind.i64.wrap (Int.tdiv (IntKind.i64.wrap ((lo:Int)+(hi:Int))) 2)=(((lo+hi) / 2:Nat):Int):=by
 rw [za5 (n:=(lo:Int)+(hi:Int)) (by omega) (by omega)]
 have:Int.tdiv ((lo:Int)+(hi:Int)) 2=(((lo+hi) / 2:Nat):Int):=rfl
 rw [this,za5 (by omega) (by omega)]
def zjA (w:Way) (l:List Way):List Way:=zg3 (cR cU) w l
theorem zqZ (w:Way) (l:List Way):(zjA w l).length≤l.length+1:=by
 unfold zjA
 induction l with
 | nil=>simp [zg3]
 | cons y r ih =>
   unfold zg3
   split
   ·simpa using ih
   ·split<;>simp
structure Bd (N:Nat) (x:List Way):Prop where
 str:zcg (cR cU) x
 num:x.length≤N
 len:∀w∈x,w.length≤1000000
theorem Bd.nil:Bd 0 []:=⟨List.Pairwise.nil,by simp,by simp⟩
theorem Bd.put {N:Nat} {x:List Way} (h:Bd N x) {w:Way} (hw:w.length≤1000000):Bd (N+1) (zjA w x) :=
 ⟨zfB zbY w x h.str,by have:=zqZ w x;have:=h.num;omega,fun v hv=>by
  rcases (zeO zbY w x v).1 hv with rfl | hv
  ·exact hw
  ·exact h.len v hv⟩
theorem Bd.mono {N M:Nat} {x:List Way} (h:Bd N x) (hm:N≤M):Bd M x:=⟨h.str,yAk h.num hm,h.len⟩
theorem L117 {n N:Nat} (hn:2≤n) {l:List Way} (hb:Bd N l) (hN:N≤100000000) {w:Way} (hw:w.length≤1000000):m117 (zah n) l w=some (zjA w l,()):=by
 obtain ⟨n,rfl⟩:∃k,n=k+1:=⟨n - 1,by omega⟩
 have hlim:lim=4294967296:=rfl
 have hnum:=hb.num
 have asc:=yAH.1 hb.str
 have call:∀j (hj:j<l.length),m155 (zah n) l[j] w=some (cR cU l[j] w,()):=fun j hj=>L155 (by omega) (by have:=hb.len _ (yAl hj);omega) (by omega)
 unfold m117
 generalize hf:(fun (t1:Int×Int×Unit)=>(br (decide (t1.1<t1.2.1)) _ _:Option ((Int×Int×Unit)⊕((Int×Unit)⊕(List Way×Unit)))))=f
 have key:∀d lo hi:Nat,hi - lo≤d→lo≤hi→hi≤l.length→(∀j (hj:j<l.length),j<lo→cR cU l[j] w<0)→(∀j (hj:j<l.length),hi≤j→¬cR cU l[j] w<0) →
   ∃p:Nat,zan f ((lo:Int),(hi:Int),())=some (.inl ((p:Int),()))∧p≤l.length∧(∀j (hj:j<l.length),j<p→cR cU l[j] w<0)∧(∀j (hj:j<l.length),p≤j→¬cR cU l[j] w<0):=by
  intro d
  induction d with
  | zero =>
    intro lo hi h1 h2 h3 h4 h5
    have hh:lo=hi:=by omega
    subst hh
    refine ⟨lo,zaw ?_,h3,h4,h5⟩
    subst hf
    have:¬((lo:Int)<(lo:Int)):=by omega
    simp only [this,decide_false,zab]
  | succ d ih =>
    intro lo hi h1 h2 h3 h4 h5
    by_cases hh:lo=hi
    ·subst hh
     refine ⟨lo,zaw ?_,h3,h4,h5⟩
     subst hf
     have:¬((lo:Int)<(lo:Int)):=by omega
     simp only [this,decide_false,zab]
    ·have hlt:((lo:Int)<(hi:Int)):=by omega
     have hm:(lo+hi) / 2<l.length:=by omega
     have hmid:=ztK (lo:=lo) (hi:=hi) (by omega)
     by_cases hc:cR cU l[(lo+hi) / 2] w<0
     ·have hw1:IntKind.i64.wrap ((((lo+hi) / 2:Nat):Int)+1)=(((lo+hi) / 2+1:Nat):Int):=by rw [za5 (by omega) (by omega)];omega
      rw [zaC (y:=((((lo+hi) / 2+1:Nat):Int),(hi:Int),())) (by
       subst hf
       simp only [hlt,decide_true,zad,hmid,zak hm,zaa,q155,call _ hm,hc,hw1])]
      refine ih _ _ (by omega) (by omega) h3 (fun j hj hjl=> ?_) h5
      by_cases hjm:j=(lo+hi) / 2
      ·subst hjm;exact hc
      ·exact zbY.trans _ _ _ (asc j _ hj hm (by omega)) hc
     ·rw [zaC (y:=((lo:Int),(((lo+hi) / 2:Nat):Int),())) (by
       subst hf
       simp only [hlt,decide_true,zad,hmid,zak hm,zaa,q155,call _ hm,hc,decide_false,zab])]
      refine ih _ _ (by omega) (by omega) (by omega) h4 (fun j hj hjl hc2=> ?_)
      by_cases hjm:j=(lo+hi) / 2
      ·subst hjm;exact hc hc2
      ·exact hc (zbY.trans _ _ _ (asc _ j hm hj (by omega)) hc2)
 obtain ⟨p,hp,hpl,hp1,hp2⟩:=key l.length 0 l.length (by omega) (by omega) (yAi _) (fun j _ hj=>by omega) (fun j hj hj2=>by omega)
 have hp':zan f ((0:Int),(len l),())=some (.inl ((p:Int),())):=hp
 rw [hp',zaj]
 have hcond:(ob (br (decide ((p:Int)<(len l))) (ob (at? l (p:Int)) fun y5=>(ob (α:=Int×Unit) ((zah (n+1)).d 155 [.sl (.st 6) y5,.sl (.st 6) w] [(.int .i64)]) fun (r6:Int×Unit)=>(some (r6.1==0)))) (some false)) fun b7=>some b7)=some (if h:p<l.length then (cR cU l[p] w==0) else false):=by
  by_cases h:p<l.length
  ·simp only [zam,h,decide_true,zad,zak h,zaa,q155,call _ h,dite_true]
  ·simp only [zam,h,decide_false,zab,zaa,dite_false]
 have hob:∀{α β:Type} (x:Option α) (f:α→Option β),ob x f=ob (ob x fun b=>some b) f:=fun x f=>by cases x<;>rfl
 rw [hob,hcond,zaa]
 by_cases hfound:∃h:p<l.length,cR cU l[p] w=0
 ·obtain ⟨h,hz⟩:=hfound
  have hwl:l[p]=w:=(zp8 _ _).1 hz
  have e1:(if h:p<l.length then (cR cU l[p] w==0) else false)=true:=by rw [dif_pos h,hz];rfl
  rw [e1,zad]
  have:l=zjA w l:=zeI zbY hb.str (zfB zbY w l hb.str) fun z=>by
   unfold zjA
   rw [zeO zbY]
   refine ⟨.inr,fun hz=>hz.elim (fun hz=> ?_) id⟩
   subst hz;rw [←hwl];exact yAl h
  rw [←this]
 ·have e1:(if h:p<l.length then (cR cU l[p] w==0) else false)=false:=by
   by_cases h:p<l.length
   ·rw [dif_pos h]
    cases hz:cR cU l[p] w==0 with
    | false=>rfl
    | true=>exact absurd ⟨h,by simpa using hz⟩ hfound
   ·rw [dif_neg h]
  rw [e1,zab]
  have k1:za8 l 0 (p:Int)=some (l.take p):=by
   rw [show (0:Int)=((0:Nat):Int) from rfl,zc4 (yAD _) hpl];simp
  have k2:za8 l (p:Int) (len l)=some (l.drop p):=by
   rw [show len l=((l.length:Nat):Int) from rfl,zc4 hpl (yAi _),yBm (by simp)]
  have k3:zaS ([]:List Way) (l.take p)=some (l.take p):=by rw [zax (by simp;omega)];rfl
  have k4:zaS (l.take p) [w]=some (l.take p++[w]):=zax (by simp;omega)
  have k5:zaS (l.take p++[w]) (l.drop p)=some (l.take p++[w]++l.drop p):=zax (by simp;omega)
  simp only [k1,k2,k3,k4,k5,zaa,zb4]
  have hr:l.take p++[w]++l.drop p=zjA w l:=by
   refine zeI zbY ?_ (zfB zbY w l hb.str) fun z=> ?_
   ·have hs:=hb.str
    rw [←yCq p l] at hs
    obtain ⟨s1,s2,s3⟩:=yAX.1 hs
    have tk:∀x∈l.take p,cR cU x w<0:=fun x hx=>by
     obtain ⟨j,hj,rfl⟩:=yCc.1 hx
     exact hp1 j (by omega) (by omega)
    have dr:∀y∈l.drop p,cR cU w y<0:=fun y hy=>by
     obtain ⟨j,hj0,rfl⟩:=List.mem_drop_iff_getElem.1 hy
     have hj:p+j<l.length:=by omega
     have hge:=hp2 (p+j) hj (by omega)
     by_cases hc:cR cU w l[p+j]<0
     ·exact hc
     ·exfalso
      have he:=zbY.eq _ _ hge hc
      by_cases h0:j=0
      ·subst h0
       exact hfound ⟨by omega,(zp8 _ _).2 he⟩
      ·have hpp:p<l.length:=by omega
       have:=asc p (p+j) hpp hj (by omega)
       have hge2:=hp2 p hpp (yAi _)
       rw [he] at this
       exact hge2 this
    rw [yAU]
    refine yAX.2 ⟨s1,yAE.2 ⟨dr,s2⟩,fun x hx y hy=> ?_⟩
    rcases yAj.1 hy with rfl | hy
    ·exact tk x hx
    ·exact s3 x hx y hy
   ·unfold zjA
    rw [zeO zbY]
    conv=>rhs;rw [←yCq p l]
    simp only [yAv,yA3]
    exact ⟨fun h=>h.elim (fun h=>h.elim (fun h=> .inr (.inl h)) .inl) fun h=> .inr (.inr h),fun h=>h.elim (fun h=> .inl (.inr h)) fun h=>h.elim (fun h=> .inl (.inl h)) .inr⟩
  rw [hr]
theorem L118 (o:Orc Sx) {l:List Way} (hl:l.length≤100000000):m118 o l=some (big l,()):=by
 unfold m118 big
 have e1:decide (300<len l)=decide (300<l.length):=decide_eq_decide.2 (by unfold len;omega)
 rw [e1]
 cases decide (300<l.length) with
 | true=>rfl
 | false =>
   rw [zab,yCl]
   rw [zaO l (fun w=>decide (40<w.length)) (fun _=> .inr (true,())) (.inl ()) ?h1 ?h2]
   case h1 =>
    intro k hk
    have e2:decide (40<len l[k])=decide (40<l[k].length):=decide_eq_decide.2 (by unfold len;omega)
    simp only [zam,hk,decide_true,zad,zak hk,zaa,e2,zae hk (by omega:l.length≤9223372036854775807)]
    cases decide (40<l[k].length)<;>rfl
   case h2=>simp [len,zab]
   rw [←zbk]
   cases l.findIdx? (fun w=>decide (40<w.length))<;>rfl
theorem L119 {n:Nat} (hn:1≤n) {a b:Way} (ha:a.length≤1000000) (hb:b.length≤1000000):m119 (zah n) a b=some (zbC cU a b,()):=by
 obtain ⟨n,rfl⟩:∃k,n=k+1:=⟨n - 1,by omega⟩
 have hlim:lim=4294967296:=rfl
 unfold m119
 generalize hf:(fun (t1:Way×Int×Int×Unit)=>(ob (br (decide (t1.2.1<(len a))) _ _) _:Option ((Way×Int×Int×Unit)⊕((Way×Unit)⊕(Way×Unit)))))=f
 have key:∀(d i k:Nat) (acc:Way),(a.length - i)+(b.length - k)≤d→i≤a.length→k≤b.length→acc.length≤i+k→zan f (acc,(i:Int),(k:Int),())=some (.inl (acc++zbC cU (a.drop i) (b.drop k),())):=by
  intro d
  induction d with
  | zero =>
    intro i k acc h1 h2 h3 h4
    have hi:i=a.length:=by omega
    have hk:k=b.length:=by omega
    have e1:¬(i<a.length):=by omega
    have e2:¬(k<b.length):=by omega
    refine (zaw (r:= .inl (acc,())) ?_).trans ?_
    ·subst hf
     simp only [zam,e1,e2,decide_false,zab,zaa]
    ·rw [yAx (by omega),zdG,yAx (by omega),yAO]
  | succ d ih =>
    intro i k acc h1 h2 h3 h4
    by_cases hend:i=a.length∧k=b.length
    ·obtain ⟨hi,hk⟩:=hend
     have e1:¬(i<a.length):=by omega
     have e2:¬(k<b.length):=by omega
     refine (zaw (r:= .inl (acc,())) ?_).trans ?_
     ·subst hf
      simp only [zam,e1,e2,decide_false,zab,zaa]
     ·rw [yAx (by omega),zdG,yAx (by omega),yAO]
    have wi:i<a.length→IntKind.i64.wrap ((i:Int)+1)=((i+1:Nat):Int):=fun h=>zae h (by omega)
    have wk:k<b.length→IntKind.i64.wrap ((k:Int)+1)=((k+1:Nat):Int):=fun h=>zae h (by omega)
    have c1:∀x:Gt.Use,zaS acc [x]=some (acc++[x]):=fun x=>zax (by simp;omega)
    by_cases hi:i<a.length
    ·by_cases hk:k<b.length
     ·have e2:((k:Int)==len b)=false:=by unfold len;rw [beq_eq_false_iff_ne];omega
      have e3:((i:Int)==len a)=false:=by unfold len;rw [beq_eq_false_iff_ne];omega
      have hda:=yAr hi
      have hdb:=yAr hk
      by_cases hc1:cU a[i] b[k]<0
      ·rw [zaC (y:=(acc++[a[i]],((i+1:Nat):Int),(k:Int),())) (by
        subst hf
        simp only [zam,hi,hk,decide_true,zad,zaa,e2,zab,zak hi,zak hk,q156,L156,hc1,c1,wi hi])]
       rw [ih (i+1) k _ (by omega) (by omega) h3 (by simp;omega),hda,hdb,zbC,if_pos hc1,yAU];rfl
      ·by_cases hc2:cU b[k] a[i]<0
       ·rw [zaC (y:=(acc++[b[k]],(i:Int),((k+1:Nat):Int),())) (by
         subst hf
         simp only [zam,hi,hk,decide_true,zad,zaa,e2,e3,zab,zak hi,zak hk,q156,L156,hc1,hc2,decide_false,c1,wk hk])]
        rw [ih i (k+1) _ (by omega) h2 (by omega) (by simp;omega),hda,hdb,zbC,if_neg hc1,if_pos hc2,yAU];rfl
       ·rw [zaC (y:=(acc++[a[i]],((i+1:Nat):Int),((k+1:Nat):Int),())) (by
         subst hf
         simp only [zam,hi,hk,decide_true,zad,zaa,e2,e3,zab,zak hi,zak hk,q156,L156,hc1,hc2,decide_false,c1,wi hi,wk hk])]
        rw [ih (i+1) (k+1) _ (by omega) (by omega) (by omega) (by simp;omega),hda,hdb,zbC,if_neg hc1,if_neg hc2,yAU];rfl
     ·have e2:((k:Int)==len b)=true:=by unfold len;rw [beq_iff_eq];omega
      have hda:=yAr hi
      rw [zaC (y:=(acc++[a[i]],((i+1:Nat):Int),(k:Int),())) (by
       subst hf
       simp only [zam,hi,decide_true,zad,zaa,e2,zak hi,c1,wi hi])]
      rw [ih (i+1) k _ (by omega) (by omega) h3 (by simp;omega),hda,yAx (by omega:b.length≤k),zdI,zdI,yAU];rfl
    ·have hk:k<b.length:=by omega
     have e2:((k:Int)==len b)=false:=by unfold len;rw [beq_eq_false_iff_ne];omega
     have e3:((i:Int)==len a)=true:=by unfold len;rw [beq_iff_eq];omega
     have hdb:=yAr hk
     rw [zaC (y:=(acc++[b[k]],(i:Int),((k+1:Nat):Int),())) (by
      subst hf
      simp only [zam,hi,hk,decide_true,decide_false,zad,zab,zaa,e2,e3,zak hk,c1,wk hk])]
     rw [ih i (k+1) _ (by omega) h2 (by omega) (by simp;omega),hdb,yAx (by omega:a.length≤i),zdG,zdG,yAU];rfl
 have:=key _ 0 0 [] (yAi _) (yAD _) (yAD _) (by simp)
 have this':zan f (([]:Way),(0:Int),(0:Int),())=_:=this
 rw [this',zaj]
 simp
theorem zrr (l:List Nat) (p:Nat→Bool) (b:Bool):l.foldl (fun b j=>b&&p j) b=(b&&l.all p):=by
 induction l generalizing b with
 | nil=>simp
 | cons x r ih=>rw [yAW,ih,yBT,Bool.and_assoc]
theorem L120 {n:Nat} (hn:2≤n) {l:List Way} (hl:GoodW l):m120 (zah n) l=some (zbs cU l,()):=by
 obtain ⟨n,rfl⟩:∃k,n=k+1:=⟨n - 1,by omega⟩
 have hlim:lim=4294967296:=rfl
 have hnum:=hl.num
 unfold m120 zbs
 rw [show (([]:List Way),(0:Int),())=((fun (k:Nat) (x:List Way)=>(x,(k:Int),())) 0 []) from rfl]
 rw [zb9 (R:=(List Way×Unit)⊕(List Way×Unit)) (fun (k:Nat) (x:List Way)=>(x,(k:Int),())) l.length (fun k x=> .inl (x++(l.drop k).filter (fun w=> !(l.any fun v=>decide (cR cU v w<0)&&zdR v w)),())) (fun k x=>x.length≤k) ?g1 0 [] (yAD _) (yAi _)]
 case g1 =>
  intro k x hk' hx
  by_cases hlt:k<l.length
  ·left
   have hfl:(List.range l.length).foldl (fun b j=>b&&(decide (j=k)|| !zdR (l[j]?.getD []) l[k])) true= !(l.any fun v=>decide (cR cU v l[k]<0)&&zdR v l[k]):=by
    rw [zrr,yCk,←zml zeC zik hl.str hl.each hlt]
    rw [yCb,yBf,yAQ,yBB]
    refine forall_congr' fun j=>forall_congr' fun _=> ?_
    by_cases hj:j=k
    ·simp [hj]
    ·simp [hj]
   have hin:zan (σ:=List Way×Bool×Int×Unit) (R:=(List Way×Bool×Unit)⊕((List Way×Unit)⊕((List Way×Int×Unit)⊕((List Way×Unit)⊕(List Way×Unit))))) (fun (t2:List Way×Bool×Int×Unit)=>(br (decide (t2.2.2.1<(len l))) (ob (br t2.2.1 (ob (br (t2.2.2.1==(k:Int)) (some true) (ob (at? l t2.2.2.1) fun y3=>(ob (at? l (k:Int)) fun y4=>(ob (α:=Bool×Unit) ((zah (n+1)).d 74 [.sl (.st 6) y3,.sl (.st 6) y4] [.bool]) fun (r5:Bool×Unit)=>(some (!r5.1)))))) fun b6=>(some b6)) (some false)) fun b7=>(some (.inl (t2.1,b7,(IntKind.i64.wrap (t2.2.2.1+1)),())))) (some (.inr (.inl (t2.1,t2.2.1,())))))) (x,true,0,())=some (.inl (x,!(l.any fun v=>decide (cR cU v l[k]<0)&&zdR v l[k]),())):=by
    rw [show (x,true,(0:Int),())=((fun (j:Nat) (b:Bool)=>(x,b,(j:Int),())) 0 true) from rfl]
    rw [zbe (fun (j:Nat) (b:Bool)=>(x,b,(j:Int),())) (List.range l.length) (fun b j=>b&&(decide (j=k)|| !zdR (l[j]?.getD []) l[k])) (fun b=> .inl (x,b,())) (fun _ _=>True) ?i1 ?i2 true trivial]
    case i1 =>
     intro j hj b _
     have hj':j<l.length:=by simpa using hj
     refine ⟨?_,trivial⟩
     have e3:((j:Int)==(k:Int))=decide (j=k):=by
      by_cases hkj:j=k
      ·subst hkj;simp
      ·have:¬((j:Int)=(k:Int)):=by omega
       simp [hkj,this]
     have l1:=hl.len _ (yAl hj')
     have l2:=hl.len _ (yAl hlt)
     simp only [zam,hj',decide_true,zad,zak hj',zak hlt,zaa,q74,L74 (by omega:1≤n) (by omega:l[j].length≤1000000000) (by omega:l[k].length≤1000000000),e3,zae hj' (by omega:l.length≤9223372036854775807),yBi,yAe hj',yB5]
     cases b<;>cases decide (j=k)<;>rfl
    case i2=>intro b _;simp [len,zab]
    rw [hfl]
   generalize hgb:(!(l.any fun v=>decide (cR cU v l[k]<0)&&zdR v l[k]))=gb at hin
   have hrest:(l.drop k).filter (fun w=> !(l.any fun v=>decide (cR cU v w<0)&&zdR v w))=(bif gb then [l[k]] else [])++(l.drop (k+1)).filter (fun w=> !(l.any fun v=>decide (cR cU v w<0)&&zdR v w)):=by
    rw [yAr hlt,yCn,hgb]
    cases gb<;>rfl
   refine ⟨x++(bif gb then [l[k]] else []),hlt,?_,?_,?_⟩
   ·simp only [zam,hlt,decide_true,zad]
    rw [hin]
    simp only [zaj,zak hlt,zaa,zae hlt (by omega:l.length≤9223372036854775807)]
    rw [zax (by simp;omega)]
    cases gb<;>simp [zad,zab,zaa,zaj]
   ·cases gb<;>simp<;>omega
   ·rw [hrest,yAU]
  ·right
   have hke:k=l.length:=by omega
   subst hke
   simp [len,zab]
 rw [zaj]
 simp
end Pe.Tryz
end
section
/- The laws of ways in plain, fourth part: the reference's ways of an expression; Weaker of both sides; the law of Weaker. -/
set_option maxRecDepth 100000
namespace Pe.Tryz
open Go Go.Proofs Pe LicSpec
def zud (o:Option (List Way)) (r:Option (List Way×Bool×Unit)):Prop:=match o with | some W=>r=some (W,true,()) | none=>∃l,r=some (l,false,())
theorem zdC {N:Nat}:∀{m x:List Way},Bd N x→(∀w∈m,w.length≤1000000)→Bd (N+m.length) (m.foldl (fun a w=>zjA w a) x)
 | [],x,h,_=>h
 | w::m,x,h,hm=>by
   have:=zdC (N:=N+1) (m:=m) (h.put (hm w (by simp))) fun v hv=>hm v (by simp [hv])
   exact this.mono (by simp only [yAt];omega)
theorem zeL (m:List Way):m.foldl (fun a w=>zjA w a) []=zb0 m:=rfl
theorem zhd {R:Type} {n N:Nat} (hn:3≤n) {f:List Way×Int×Unit→Option ((List Way×Int×Unit)⊕((List Way×Unit)⊕R))} {m x:List Way} (hx:Bd N x) (hm:∀w∈m,w.length≤1000000) (hN:N+m.length≤100000000)
  (h:∀k (hk:k<m.length) (a:List Way),f (a,(k:Int),())=ob (α:=List Way×Unit) ((zah n).d 117 [.sl (.sl (.st 6)) a,.sl (.st 6) m[k]] [(.sl (.sl (.st 6)))]) fun r=>some (.inl (r.1,((k+1:Nat):Int),())))
  (he:∀a,f (a,(m.length:Int),())=some (.inr (.inl (a,())))):zan f (x,(0:Int),())=some (.inl (m.foldl (fun a w=>zjA w a) x,())):=by
 obtain ⟨n,rfl⟩:∃k,n=k+1:=⟨n - 1,by omega⟩
 have:=zbe (f:=f) (fun (k:Nat) (a:List Way)=>(a,(k:Int),())) m (fun a w=>zjA w a) (fun a=> .inl (a,())) (fun k a=>Bd (N+k) a) (fun k hk a ha=> ?_) (fun a _=>he a) x hx
 ·exact this
 ·refine ⟨?_,ha.put (hm _ (yAl hk))⟩
  rw [h k hk a]
  have h7: @Eq (Option (List Way×Unit)) ((zah (n+1)).d 117 [.sl (.sl (.st 6)) a,.sl (.st 6) m[k]] [(.sl (.sl (.st 6)))]) (some (zjA m[k] a,())):=by
   rw [q117];exact L117 (by omega) ha (by omega) (hm _ (yAl hk))
  exact congrArg (fun z=>ob (α:=List Way×Unit) z fun r=>(some (.inl (r.1,((k+1:Nat):Int),())):Option ((List Way×Int×Unit)⊕((List Way×Unit)⊕R)))) h7
theorem zpq (a b:List Way) (h1:∀w∈a,zcg cU w) (h2:∀w∈b,zcg cU w):a.foldl (fun x v=>(b.map fun w=>zbC cU v w).foldl (fun a w=>zjA w a) x) []=zb0 (zbN a b):=by
 have key:∀(a x:List Way),(∀w∈a,zcg cU w)→a.foldl (fun x v=>(b.map fun w=>zbC cU v w).foldl (fun a w=>zjA w a) x) x=(zbN a b).foldl (fun a w=>zjA w a) x:=by
  intro a
  induction a with
  | nil=>intro x _;rfl
  | cons v r ih =>
    intro x h
    rw [yAW,ih _ fun w hw=>h w (by simp [hw])]
    have:zbN (v::r) b=(b.map fun w=>zoe (v++w))++zbN r b:=by unfold zbN;rw [yBn]
    rw [this,List.foldl_append]
    congr 2
    exact List.map_congr_left fun w hw=>zlc zeC (h v (by simp)) (h2 w hw)
 rw [key a [] h1];rfl
theorem zq0 {m:List Way} (h:GoodW m):zbN [[]] m=m:=by
 unfold zbN
 rw [yBn,List.flatMap_nil,yAO]
 have:∀w∈m,zoe ([]++w)=w:=fun w hw=>zhz zeC (h.each w hw)
 rw [List.map_congr_left (g:=id) this,List.map_id]
theorem zrp {m:List Way} (h:GoodW m):zb0 m=m:=zhz zbY h.str
theorem znw {m:List Way} (h:GoodW m):big m=false:=by
 unfold big
 have h2:decide (300<m.length)=false:=decide_eq_false (by have:=h.num;omega)
 have h3:(m.any fun w=>decide (40<w.length))=false:=yBB.2 fun w hw=>by have:=h.len w hw;simp;omega
 rw [h2,h3];rfl
theorem zpG {s:List Way} (h:∀w∈s,zcg cU w∧w.length=1):zbs cU s=s:=by
 refine List.filter_eq_self.2 fun w hw=> ?_
 cases ha:s.any fun v=>decide (cR cU v w<0)&&zdR v w with
 | false=>rfl
 | true =>
   exfalso
   obtain ⟨v,hv,h1⟩:=yA5.1 ha
   simp only [yAd,decide_eq_true_eq] at h1
   have hne:v≠w:=fun he=>by subst he;exact zbY.irr _ h1.1
   have:=zkB zeC (h v hv).1 (h w hw).1 h1.2 hne
   have:=(h v hv).2
   have:=(h w hw).2
   omega
theorem zmG {c:Cat} {e:Ex} (h:zj0 c e=[]):(∃m,lIx c e.name=some m)∧(e.wth=[]∨(xIx c e.wth).isSome=true):=by
 unfold zj0 at h
 obtain ⟨h1,h2⟩:=yBW.1 h
 refine ⟨?_,?_⟩
 ·cases hm:lIx c e.name with
  | some m=>exact ⟨m,rfl⟩
  | none=>rw [hm] at h1;cases h1
 ·cases hw:e.wth==[] with
  | true=>exact .inl (by simpa using hw)
  | false =>
    right
    rw [hw] at h2
    cases hx:(xIx c e.wth).isSome with
    | true=>rfl
    | false=>rw [hx] at h2;cases h2
theorem zmH {c:Cat}:∀{l:List Ex},zkr c l=[]→∀k∈l,zg2 c k=[]
 | [],_,k,hk=>by simp at hk
 | x::r,h,k,hk=>by
   simp only [zkr] at h
   obtain ⟨h1,h2⟩:=yBW.1 h
   rcases yAj.1 hk with rfl | hk
   ·exact h1
   ·exact zmH h2 k hk
theorem L79 {c:Cat} (hc:SmallC c) (hcat:zf1 c=0):∀(n:Nat) (e:Ex),e.lev+20≤n→zcf e=0→e.cnt≤200→zg2 c e=[]→zud (zdh c e) (m79 (zah n) c e):=by
 intro n
 induction n with
 | zero=>intro e h;omega
 | succ n ih =>
   intro e hl hf hcn hun
   obtain ⟨h1,h2⟩:=zbW hf
   obtain ⟨k1,k3,o1,o2⟩:=zfN h1
   have hlim:lim=4294967296:=rfl
   have hkl:e.kids.length<e.cnt:=zgD
   unfold m79
   rw [zmE]
   by_cases hk1:e.kind=1
   ·have e1:(e.kind==1)=true:=by simpa using hk1
    rw [zhq,if_neg (by simp [hk1])] at hun
    obtain ⟨⟨m,hm⟩,hw⟩:=zmG hun
    rw [e1,if_pos hk1]
    simp only [zad,Ex.eta,q116,L116 (by omega:3≤n) hc hm hw,←zoV hcat hm,zaa]
    have hcl:=znJ hc e
    generalize zkk c e=us at hcl
    have hpl:=zhd (R:=(List Way×Unit)⊕(List Way×Bool×Unit)) (n:=n+1) (N:=0) (by omega) (m:=us.map fun u=>[u]) (x:=[]) Bd.nil (fun w hw=>by
     obtain ⟨u,_,rfl⟩:=yA1.1 hw;simp) (by simp;omega)
     (f:=fun (t2:List (List (Gt.Use))×Int×Unit)=>(br (decide (t2.2.1<(len us))) (ob (at? us t2.2.1) fun y3=>(ob (α:=List (List (Gt.Use))×Unit) ((zah (n+1)).d 117 [.sl (.sl (.st 6)) t2.1,.sl (.st 6) [y3]] [(.sl (.sl (.st 6)))]) fun (r4:List (List (Gt.Use))×Unit)=>(some (.inl (r4.1,(IntKind.i64.wrap (t2.2.1+1)),()))))) (some (.inr (.inl (t2.1,()))))))
     (fun k hk a=>by
      have hk':k<us.length:=by simpa using hk
      simp only [zam,hk',decide_true,zad,zak hk',zaa,zae hk' (by omega:us.length≤9223372036854775807),List.getElem_map]
      rfl)
     (fun a=>by simp [len,zab])
    rw [zeL] at hpl
    generalize hs:zb0 (us.map fun u=>[u])=s at hpl
    have hbd:zg6 (us.map fun u=>[u])=if big s=true then none else some s:=by unfold zg6;rw [hs]
    have hsl:s.length≤100000000:=by
     rw [←hs]
     have:=(zdC (N:=0) (m:=us.map fun u=>[u]) (x:=[]) Bd.nil (fun w hw=>by obtain ⟨u,_,rfl⟩:=yA1.1 hw;simp)).num
     rw [zeL] at this
     simp at this;omega
    have hone:∀w∈s,zcg cU w∧w.length=1:=by
     intro w hw
     rw [←hs] at hw
     obtain ⟨u,_,rfl⟩:=yA1.1 ((zfR zbY _ w).1 hw)
     exact ⟨yAT _ _,rfl⟩
    have h118: @Eq (Option (Bool×Unit)) ((zah (n+1)).d 118 [.sl (.sl (.st 6)) s] [.bool]) (some (big s,())):=by
     rw [q118];exact L118 _ hsl
    have hx:∀(k:List Way×Unit→Option (List Way×Bool×Unit)),(zaz (σ:=List Way×Unit) (R:=List Way×Bool×Unit) (zaz (σ:=List Way×Unit) (R:=(List Way×Unit)⊕(List Way×Bool×Unit)) (some (.inl (s,()))) fun (t5:List (List (Gt.Use))×Unit)=>(ob (α:=Bool×Unit) ((zah (n+1)).d 118 [.sl (.sl (.st 6)) t5.1] [.bool]) fun (r6:Bool×Unit)=>(some (.inr (t5.1,(!r6.1),()))))) k)=some (s,!big s,()):=by
     intro k
     rw [zaj]
     exact (congrArg (fun z=>zaz (σ:=List Way×Unit) (R:=List Way×Bool×Unit) (ob (α:=Bool×Unit) z fun (r6:Bool×Unit)=>(some (.inr (s,(!r6.1),())))) k) h118)
    have hans:zud ((zg6 (us.map fun u=>[u])).map (zbs cU)) (some (s,!big s,())):=by
     rw [hbd]
     cases hb:big s with
     | true=>exact ⟨s,rfl⟩
     | false =>
       show some (s,true,())=some (zbs cU s,true,())
       rw [zpG hone]
    refine (congrArg (zud _) ?_).mpr hans
    refine (congrArg (fun z=>zaz (σ:=List Way×Unit) (R:=List Way×Bool×Unit) (zaz (σ:=List Way×Unit) (R:=(List Way×Unit)⊕(List Way×Bool×Unit)) z _) _) hpl).trans ?_
    exact hx _
   ·have e1:(e.kind==1)=false:=by simpa using hk1
    rw [zhq,if_pos hk1] at hun
    have kid:∀k (hk:k<e.kids.length),zud (zdh c e.kids[k]) (m79 (zah n) c e.kids[k]):=fun k hk=>by
     have hmem:=yAl hk
     have:=zdt hmem
     have:=zfY hmem
     exact ih _ (by omega) (zbX h2 hmem) (by omega) (zmH hun _ hmem)
    rw [e1,if_neg hk1]
    simp only [zab,zaj]
    by_cases hk3:e.kind=3
    ·have e3:(e.kind==3)=true:=by simpa using hk3
     have e2:(e.kind==2)=false:=by rw [hk3];rfl
     rw [if_pos hk3]
     rw [show (([]:List Way),(0:Int),())=((fun (k:Nat) (x:List Way)=>(x,(k:Int),())) 0 []) from rfl]
     rw [zb9 (R:=(List Way×Unit)⊕(List Way×Bool×Unit)) (fun (k:Nat) (x:List Way)=>(x,(k:Int),())) e.kids.length (fun k x=>match zbo c (e.kids.drop k) with | some l=> .inl (l.foldl (fun a w=>zjA w a) x,()) | none=> .inr ([],false,())) (fun k x=>Bd (k*300) x) ?g1 0 [] (yAD _) (Bd.nil.mono (by omega))]
     case g1 =>
      intro k x hk' hx
      by_cases hlt:k<e.kids.length
      ·have hd:e.kids.drop k=e.kids[k]::e.kids.drop (k+1):=yAr hlt
       have hk3:k*300≤200*300:=yAm _ (by omega)
       have hkk:=kid k hlt
       cases hw:zdh c e.kids[k] with
       | none =>
         rw [hw] at hkk
         obtain ⟨l0,hkk⟩:=hkk
         right
         simp only [zam,hlt,decide_true,zad,zak hlt,zaa,q79,hkk]
         rw [hd]
         simp only [zbo,hw]
         rfl
       | some m =>
         rw [hw] at hkk
         have hkk:m79 (zah n) c e.kids[k]=some (m,true,()):=hkk
         have g:=zbP c _ m hw
         left
         have hpl:=zhd (R:=((List Way×Unit)⊕((List Way×Int×Unit)⊕((List Way×Unit)⊕(List Way×Bool×Unit))))) (n:=n+1) (N:=k*300) (by omega) (m:=m) (x:=x) hx (fun w hw=>by have:=g.len w hw;omega) (by have:=g.num;omega)
          (f:=fun (t12:List (List (Gt.Use))×Int×Unit)=>(br (decide (t12.2.1<(len m))) (ob (at? m t12.2.1) fun y13=>(ob (α:=List (List (Gt.Use))×Unit) ((zah (n+1)).d 117 [.sl (.sl (.st 6)) t12.1,.sl (.st 6) y13] [(.sl (.sl (.st 6)))]) fun (r14:List (List (Gt.Use))×Unit)=>(some (.inl (r14.1,(IntKind.i64.wrap (t12.2.1+1)),()))))) (some (.inr (.inl (t12.1,()))))))
          (fun j hj a=>by
           have:=g.num
           simp only [zam,hj,decide_true,zad,zak hj,zaa,zae hj (by omega:m.length≤9223372036854775807)])
          (fun a=>by simp [len,zab])
         refine ⟨m.foldl (fun a w=>zjA w a) x,hlt,?_,?_,?_⟩
         ·simp only [zam,hlt,decide_true,zad,zak hlt,zaa,q79,hkk,e3,e2,yA9,zab,zae hlt (by omega:e.kids.length≤9223372036854775807)]
          refine (congrArg (fun z=>zaz (σ:=List Way×Unit) (R:=(List Way×Int×Unit)⊕((List Way×Unit)⊕(List Way×Bool×Unit))) (zaz (σ:=List Way×Unit) (R:=(List Way×Unit)⊕((List Way×Int×Unit)⊕((List Way×Unit)⊕(List Way×Bool×Unit)))) z _) _) hpl).trans ?_
          rfl
         ·have:=zdC (m:=m) hx fun w hw=>by have:=g.len w hw;omega
          exact this.mono (by have:=g.num;rw [yAw];omega)
         ·rw [hd]
          simp only [zbo,hw,yAs]
          cases zbo c (e.kids.drop (k+1))<;>simp [List.foldl_append]
      ·right
       have hke:k=e.kids.length:=by omega
       subst hke
       simp [len,zab,zbo]
     simp only [yBa]
     cases hw:zbo c e.kids with
     | none=>exact ⟨[],rfl⟩
     | some l =>
       obtain ⟨i1,i2⟩:=zpv c _ l hw
       have hk3:e.kids.length*300≤200*300:=yAm _ (by omega)
       have hbd:=zdC (N:=0) (m:=l) Bd.nil fun w hw=>by have:=i2 w hw;omega
       rw [zeL] at hbd
       have hnum:=hbd.num
       simp only [zaj,zeL,yAs]
       have h118: @Eq (Option (Bool×Unit)) ((zah (n+1)).d 118 [.sl (.sl (.st 6)) (zb0 l)] [.bool]) (some (big (zb0 l),())):=by
        rw [q118];exact L118 _ (by omega)
       have hstep:∀k:Bool×Unit→Option (List Way×Bool×Unit),ob (α:=Bool×Unit) ((zah (n+1)).d 118 [.sl (.sl (.st 6)) (zb0 l)] [.bool]) k=k (big (zb0 l),()):=fun k=>congrArg (fun z=>ob (α:=Bool×Unit) z k) h118
       refine (congrArg (zud _) (hstep _)).mpr ?_
       simp only
       unfold zg6
       cases hb:big (zb0 l) with
       | true =>
         rw [if_pos rfl]
         exact ⟨[],rfl⟩
       | false =>
         rw [if_neg (by simp)]
         have hbs:zg6 l=some (zb0 l):=by unfold zg6;rw [if_neg (by simp [hb])]
         have g:=(zcd (zcZ c _ l hw) hbs).1
         have h120: @Eq (Option (List Way×Unit)) ((zah (n+1)).d 120 [.sl (.sl (.st 6)) (zb0 l)] [(.sl (.sl (.st 6)))]) (some (zbs cU (zb0 l),())):=by
          rw [q120];exact L120 (by omega) g
         exact congrArg (fun z=>ob (α:=List Way×Unit) z fun r=>some (r.1,true,())) h120
    ·have hk2:e.kind=2:=by omega
     have e3:(e.kind==3)=false:=by rw [hk2];rfl
     have e2:(e.kind==2)=true:=by rw [hk2];rfl
     have hkn:=(o2 hk1).2.2.2
     rw [if_neg hk3]
     rw [show (([]:List Way),(0:Int),())=((fun (k:Nat) (x:List Way)=>(x,(k:Int),())) 0 []) from rfl]
     rw [zb9 (R:=(List Way×Unit)⊕(List Way×Bool×Unit)) (fun (k:Nat) (x:List Way)=>(x,(k:Int),())) e.kids.length (fun k x=>match zaT c (e.kids.drop k) (if k=0 then [[]] else x) with | some l=> .inl (l,()) | none=> .inr ([],false,())) (fun k x=>(k=0∧x=[])∨(0<k∧GoodW x)) ?g1 0 [] (yAD _) (.inl ⟨rfl,rfl⟩)]
     case g1 =>
      intro k x hk' hx
      by_cases hlt:k<e.kids.length
      ·have hd:e.kids.drop k=e.kids[k]::e.kids.drop (k+1):=yAr hlt
       have hkk:=kid k hlt
       cases hw:zdh c e.kids[k] with
       | none =>
         rw [hw] at hkk
         obtain ⟨l0,hkk⟩:=hkk
         right
         simp only [zam,hlt,decide_true,zad,zak hlt,zaa,q79,hkk]
         rw [hd]
         simp only [zaT,hw]
         rfl
       | some m =>
         rw [hw] at hkk
         have hkk:m79 (zah n) c e.kids[k]=some (m,true,()):=hkk
         have g:=zbP c _ m hw
         rcases hx with ⟨rfl,rfl⟩ | ⟨hpos,hx⟩
         ·left
          have hpl:=zhd (R:=((List Way×Unit)⊕((List Way×Int×Unit)⊕((List Way×Unit)⊕(List Way×Bool×Unit))))) (n:=n+1) (N:=0) (by omega) (m:=m) (x:=[]) Bd.nil (fun w hw=>by have:=g.len w hw;omega) (by have:=g.num;omega)
           (f:=fun (t12:List (List (Gt.Use))×Int×Unit)=>(br (decide (t12.2.1<(len m))) (ob (at? m t12.2.1) fun y13=>(ob (α:=List (List (Gt.Use))×Unit) ((zah (n+1)).d 117 [.sl (.sl (.st 6)) t12.1,.sl (.st 6) y13] [(.sl (.sl (.st 6)))]) fun (r14:List (List (Gt.Use))×Unit)=>(some (.inl (r14.1,(IntKind.i64.wrap (t12.2.1+1)),()))))) (some (.inr (.inl (t12.1,()))))))
           (fun j hj a=>by
            have:=g.num
            simp only [zam,hj,decide_true,zad,zak hj,zaa,zae hj (by omega:m.length≤9223372036854775807)])
           (fun a=>by simp [len,zab])
          rw [zeL,zrp g] at hpl
          have h118: @Eq (Option (Bool×Unit)) ((zah (n+1)).d 118 [.sl (.sl (.st 6)) m] [.bool]) (some (false,())):=by
           rw [q118,L118 _ (by have:=g.num;omega),znw g]
          refine ⟨m,hlt,?_,.inr ⟨by omega,g⟩,?_⟩
          ·simp only [zam,hlt,decide_true,zad,zak hlt,zaa,q79,hkk,e3,e2,yA9,zab,show (((0:Nat):Int)==0)=true from rfl,zae hlt (by omega:e.kids.length≤9223372036854775807)]
           refine (congrArg (fun z=>zaz (σ:=List Way×Unit) (R:=(List Way×Int×Unit)⊕((List Way×Unit)⊕(List Way×Bool×Unit))) (zaz (σ:=List Way×Unit) (R:=(List Way×Unit)⊕((List Way×Int×Unit)⊕((List Way×Unit)⊕(List Way×Bool×Unit)))) z _) _) hpl).trans ?_
           rw [zaj]
           refine (congrArg (fun z=>zaz (σ:=List Way×Unit) (R:=(List Way×Int×Unit)⊕((List Way×Unit)⊕(List Way×Bool×Unit))) (ob (ob (α:=Bool×Unit) z fun r24=>some r24.1) _) _) h118).trans ?_
           rfl
          ·rw [hd]
           simp only [zaT,hw,yAs,if_true,zq0 g,znN g]
           rw [if_neg (by omega)]
         ·-- behind the first one
          have hpl:(zan (σ:=List Way×Int×Unit) (R:=(List Way×Unit)⊕((List Way×Unit)⊕((List Way×Unit)⊕((List Way×Int×Unit)⊕((List Way×Unit)⊕(List Way×Bool×Unit)))))) (fun (t15:List (List (Gt.Use))×Int×Unit)=>(br (decide (t15.2.1<(len x))) (zaz (σ:=List (List (Gt.Use))×Unit) (R:=(List Way×Int×Unit)⊕((List Way×Unit)⊕((List Way×Unit)⊕((List Way×Unit)⊕((List Way×Int×Unit)⊕((List Way×Unit)⊕(List Way×Bool×Unit))))))) (zan (σ:=List (List (Gt.Use))×Int×Unit) (R:=_) (fun (t16:List (List (Gt.Use))×Int×Unit)=>(br (decide (t16.2.1<(len m))) (ob (at? x t15.2.1) fun y17=>(ob (at? m t16.2.1) fun y18=>(ob (α:=List (Gt.Use)×Unit) ((zah (n+1)).d 119 [.sl (.st 6) y17,.sl (.st 6) y18] [(.sl (.st 6))]) fun (r19:List (Gt.Use)×Unit)=>(ob (α:=List (List (Gt.Use))×Unit) ((zah (n+1)).d 117 [.sl (.sl (.st 6)) t16.1,.sl (.st 6) r19.1] [(.sl (.sl (.st 6)))]) fun (r20:List (List (Gt.Use))×Unit)=>(some (.inl (r20.1,(IntKind.i64.wrap (t16.2.1+1)),()))))))) (some (.inr (.inl (t16.1,())))))) (t15.1,0,())) fun (t21:List (List (Gt.Use))×Unit)=>(some (.inl (t21.1,(IntKind.i64.wrap (t15.2.1+1)),())))) (some (.inr (.inl (t15.1,())))))) ([],0,()))=some (.inl (zb0 (zbN x m),())):=by
           rw [←zpq x m hx.each g.each]
           rw [show (([]:List Way),(0:Int),())=((fun (k:Nat) (a:List Way)=>(a,(k:Int),())) 0 []) from rfl]
           rw [zbe (fun (k:Nat) (a:List Way)=>(a,(k:Int),())) x (fun a v=>(m.map fun w=>zbC cU v w).foldl (fun a w=>zjA w a) a) (fun a=> .inl (a,())) (fun j a=>Bd (j*300) a) ?p1 ?p2 [] (Bd.nil.mono (by omega))]
           case p1 =>
            intro j hj a ha
            have hnx:=hx.num
            have hnm:=g.num
            have hj3:j*300≤300*300:=yAm _ (by omega)
            have hlx:=hx.len _ (yAl hj)
            have hml:∀w∈(m.map fun w=>zbC cU x[j] w),w.length≤1000000:=by
             intro w hw
             obtain ⟨v,hv,rfl⟩:=yA1.1 hw
             rw [zlc zeC (hx.each _ (yAl hj)) (g.each v hv)]
             have:=zkz x[j] v
             have:=g.len v hv
             show (zoe (x[j]++v)).length≤_
             omega
            have hin:=zhd (R:=(List Way×Int×Unit)⊕((List Way×Unit)⊕((List Way×Unit)⊕((List Way×Unit)⊕((List Way×Int×Unit)⊕((List Way×Unit)⊕(List Way×Bool×Unit))))))) (n:=n+1) (N:=j*300) (by omega) (m:=m.map fun w=>zbC cU x[j] w) (x:=a) ha hml (by simp;omega)
             (f:=fun (t16:List (List (Gt.Use))×Int×Unit)=>(br (decide (t16.2.1<(len m))) (ob (at? x (j:Int)) fun y17=>(ob (at? m t16.2.1) fun y18=>(ob (α:=List (Gt.Use)×Unit) ((zah (n+1)).d 119 [.sl (.st 6) y17,.sl (.st 6) y18] [(.sl (.st 6))]) fun (r19:List (Gt.Use)×Unit)=>(ob (α:=List (List (Gt.Use))×Unit) ((zah (n+1)).d 117 [.sl (.sl (.st 6)) t16.1,.sl (.st 6) r19.1] [(.sl (.sl (.st 6)))]) fun (r20:List (List (Gt.Use))×Unit)=>(some (.inl (r20.1,(IntKind.i64.wrap (t16.2.1+1)),()))))))) (some (.inr (.inl (t16.1,()))))))
             (fun i hi a=>by
              have hi':i<m.length:=by simpa using hi
              have hlm:=g.len _ (yAl hi')
              simp only [zam,hi',decide_true,zad,zak hi',zak hj,zaa,q119,L119 (by omega:1≤n) (by omega:x[j].length≤1000000) (by omega:m[i].length≤1000000),zae hi' (by omega:m.length≤9223372036854775807),List.getElem_map])
             (fun a=>by simp [len,zab])
            simp only [zam,hj,decide_true,zad]
            refine ⟨?_,?_⟩
            ·refine (congrArg (fun z=>zaz (σ:=List Way×Unit) (R:=(List Way×Int×Unit)⊕((List Way×Unit)⊕((List Way×Unit)⊕((List Way×Unit)⊕((List Way×Int×Unit)⊕((List Way×Unit)⊕(List Way×Bool×Unit))))))) z _) hin).trans ?_
             rw [zaj]
             simp only [zae hj (by omega:x.length≤9223372036854775807)]
            ·have:=zdC ha hml
             exact this.mono (by rw [yCa,yAw];omega)
           case p2=>intro a _;simp [len,zab]
          have hk0:((k:Int)==0)=false:=by rw [beq_eq_false_iff_ne];omega
          have hbs:zg6 (zbN x m)=if big (zb0 (zbN x m))=true then none else some (zb0 (zbN x m)):=rfl
          have hnm:(zb0 (zbN x m)).length≤100000000:=by
           have:=(zdC (N:=0) (m:=zbN x m) Bd.nil (zkV hx.len g.len)).num
           rw [zeL,zm1] at this
           have h9:=yB1 hx.num g.num
           omega
          have h118: @Eq (Option (Bool×Unit)) ((zah (n+1)).d 118 [.sl (.sl (.st 6)) (zb0 (zbN x m))] [.bool]) (some (big (zb0 (zbN x m)),())):=by
           rw [q118];exact L118 _ hnm
          cases hb:big (zb0 (zbN x m)) with
          | true =>
            rw [hb] at h118 hbs
            rw [if_pos rfl] at hbs
            right
            rw [hd,if_neg (by omega)]
            simp only [zaT,hw,yAs,hbs,Option.bind_none]
            simp only [zam,hlt,decide_true,zad,zak hlt,zaa,q79,hkk,e3,e2,hk0,yA9,zab,zae hlt (by omega:e.kids.length≤9223372036854775807)]
            refine (congrArg (fun z=>zaz (σ:=List Way×Unit) (R:=(List Way×Int×Unit)⊕((List Way×Unit)⊕(List Way×Bool×Unit))) (zaz (σ:=List Way×Unit) (R:=(List Way×Unit)⊕((List Way×Int×Unit)⊕((List Way×Unit)⊕(List Way×Bool×Unit)))) (zaz (σ:=List Way×Unit) (R:=(List Way×Unit)⊕((List Way×Unit)⊕((List Way×Int×Unit)⊕((List Way×Unit)⊕(List Way×Bool×Unit))))) z _) _) _) hpl).trans ?_
            rw [zaj,zaj]
            refine (congrArg (fun z=>zaz (σ:=List Way×Unit) (R:=(List Way×Int×Unit)⊕((List Way×Unit)⊕(List Way×Bool×Unit))) (ob (ob (α:=Bool×Unit) z fun r24=>some r24.1) _) _) h118).trans ?_
            rfl
          | false =>
            rw [hb] at h118 hbs
            rw [if_neg (by simp)] at hbs
            left
            refine ⟨zb0 (zbN x m),hlt,?_,.inr ⟨by omega,(zcd zfK hbs).1⟩,?_⟩
            ·simp only [zam,hlt,decide_true,zad,zak hlt,zaa,q79,hkk,e3,e2,hk0,yA9,zab,zae hlt (by omega:e.kids.length≤9223372036854775807)]
             refine (congrArg (fun z=>zaz (σ:=List Way×Unit) (R:=(List Way×Int×Unit)⊕((List Way×Unit)⊕(List Way×Bool×Unit))) (zaz (σ:=List Way×Unit) (R:=(List Way×Unit)⊕((List Way×Int×Unit)⊕((List Way×Unit)⊕(List Way×Bool×Unit)))) (zaz (σ:=List Way×Unit) (R:=(List Way×Unit)⊕((List Way×Unit)⊕((List Way×Int×Unit)⊕((List Way×Unit)⊕(List Way×Bool×Unit))))) z _) _) _) hpl).trans ?_
             rw [zaj,zaj]
             refine (congrArg (fun z=>zaz (σ:=List Way×Unit) (R:=(List Way×Int×Unit)⊕((List Way×Unit)⊕(List Way×Bool×Unit))) (ob (ob (α:=Bool×Unit) z fun r24=>some r24.1) _) _) h118).trans ?_
             rfl
            ·rw [hd,if_neg (by omega),if_neg (by omega)]
             simp only [zaT,hw,yAs,hbs]
      ·right
       have hke:k=e.kids.length:=by omega
       subst hke
       simp only [zam,Nat.lt_irrefl,decide_false,zab,List.drop_length,zaT]
       rw [if_neg (by omega)]
     simp only [yBa,if_true]
     cases hw:zaT c e.kids [[]] with
     | none=>exact ⟨[],rfl⟩
     | some l =>
       have g:=zhn c _ _ l zhi hw
       simp only [zaj,yAs,znN g,yAg]
       have h118: @Eq (Option (Bool×Unit)) ((zah (n+1)).d 118 [.sl (.sl (.st 6)) l] [.bool]) (some (false,())):=by
        rw [q118,L118 _ (by have:=g.num;omega),znw g]
       have h120: @Eq (Option (List Way×Unit)) ((zah (n+1)).d 120 [.sl (.sl (.st 6)) l] [(.sl (.sl (.st 6)))]) (some (zbs cU l,())):=by
        rw [q120];exact L120 (by omega) g
       refine (congrArg (fun z=>ob (α:=Bool×Unit) z _) h118).trans ?_
       exact congrArg (fun z=>ob (α:=List Way×Unit) z fun r=>some (r.1,true,())) h120
theorem zql:∀(r l:List (List UInt8)),l≠[]→r.foldl zlK l≠[]
 | [],l,h=>h
 | s::r,l,h=>by
   rw [yAW]
   refine zql r _ ?_
   unfold zlK
   cases hasT l s
   ·simp
   ·exact h
theorem L34 {n:Nat} {c:Cat} (hc:SmallC c) {e:Ex} (hs:Small e) (hb:e.lev≤100000000) (hn:e.lev+60≤n):m34 (zah n) c e=some (wOf c e):=by
 obtain ⟨n,rfl⟩:∃k,n=k+1:=⟨n - 1,by omega⟩
 unfold m34 wOf
 rw [Ex.eta,q77,L77 hc hs hb (by omega)]
 simp only [zaa]
 cases h1:zf1 c != 0 with
 | true=>simp only [cond_true,h1,zad]
 | false =>
 simp only [cond_false]
 cases h2:chk e != 0 with
 | true=>rfl
 | false =>
 obtain ⟨c1,c2,c3⟩:=zkj (zcy h2)
 simp only [zab,cond_false,q78,L78 hc (zcy h1) n e [] (by omega) c3 c1 (by simp;omega),za4]
 by_cases hu:zg2 c e=[]
 ·have:¬((0:Int)<len ((zg2 c e).foldl zlK [])):=by rw [hu];simp [len]
  rw [decide_eq_false this,zab,if_neg (by simp [hu])]
  have h79:=L79 hc (zcy h1) n e (by omega) c3 c1 hu
  cases hw:zdh c e with
  | some W =>
    rw [hw] at h79
    have h79:m79 (zah n) c e=some (W,true,()):=h79
    simp only [q79,h79,zaa]
    rfl
  | none =>
    rw [hw] at h79
    obtain ⟨l,h79⟩:=h79
    simp only [q79,h79,zaa]
    rfl
 ·have hne:(zg2 c e).foldl zlK []≠[]:=by
   cases hx:zg2 c e with
   | nil=>exact absurd hx hu
   | cons s r=>rw [yAW];exact zql r _ (by simp [zlK,hasT])
  have:((0:Int)<len ((zg2 c e).foldl zlK [])):=by have:=List.length_pos_iff.2 hne;unfold len;omega
  rw [decide_eq_true this,zad,if_pos hu]
end Pe.Tryz
end
section
/- The law of Ways and Permits in plain. -/
set_option maxRecDepth 100000
namespace Pe.Tryz
open Go Go.Proofs Pe LicSpec
theorem q38 (n:Nat) (l:Way): @Eq (Option (Way×Unit)) ((zah (n+1)).d 38 [.sl (.st 6) l] [(.sl (.st 6))]) (bif Nat.ble l.length 1000000 then some (l,()) else none):=by kernel_rfl
theorem G38 {n:Nat} (hn:1≤n) {l:Way} (hl:l.length≤1000000): @Eq (Option (Way×Unit)) ((zah n).d 38 [.sl (.st 6) l] [(.sl (.st 6))]) (some (l,())):=by
 obtain ⟨n,rfl⟩:∃k,n=k+1:=⟨n - 1,by omega⟩
 rw [q38]
 have:Nat.ble l.length 1000000=true:=by rw [yAR];exact hl
 rw [this];rfl
theorem zsa {c:Cat} {e:Ex} (h:(wOf c e).2.1≠0):wOf c e=([],(wOf c e).2.1,()):=by
 unfold wOf at h ⊢
 cases h1:zf1 c != 0 with
 | true=>rfl
 | false =>
   rw [h1] at h
   simp only [cond_false] at h ⊢
   cases h2:chk e != 0 with
   | true=>rfl
   | false =>
     rw [h2] at h
     simp only [cond_false] at h ⊢
     split
     ·rfl
     ·rename_i hu
      rw [if_neg hu] at h
      cases hw:zdh c e with
      | none=>rfl
      | some W=>rw [hw] at h;exact absurd rfl h
end Pe.Tryz
end
