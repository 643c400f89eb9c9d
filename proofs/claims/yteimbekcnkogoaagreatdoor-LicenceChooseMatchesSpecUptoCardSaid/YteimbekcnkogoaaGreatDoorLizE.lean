/- PROVED HERE: a part of the seat's proofs; see the text that holds the claim's theorem. -/
import Derived.Test.YteimbekcnkogoaaGreatDoorNm
import Derived.Sort.Walk0
import Derived.Test.YteimbekcnkogoaaGreatDoorLizD
import Derived.Test.YteimbekcnkogoaaGreatDoorPeE
section
/- Loops of models: PeLoop's. -/
end
section
/- The fourth law in plain, first part: what of a catalogue is wrong. -/
set_option maxRecDepth 100000
namespace Pe.Tryz
open Go Go.Proofs Pe LicSpec
abbrev Cat:=Gt.Catalog
def leN (a b:List UInt8):Bool:=Op.bytesLess a b||a==b
def sAt (l:List (List UInt8)) (k:Nat):List UInt8:=l[k]?.getD []
def nF (l:List (List UInt8)) (k:Nat):Int:=bif !isName (sAt l k) then 8 else bif decide (0<k)&&leN (sAt l k) (sAt l (k - 1)) then 10 else 0
def nFs (l:List (List UInt8)):Int:=ff (nF l) l.length
def zqY:Gt.LicenceRule:=⟨[],[],0,[]⟩
def ztu:Gt.Exception:=⟨[],[],[]⟩
def rAt (l:List Gt.LicenceRule) (k:Nat):Gt.LicenceRule:=l[k]?.getD zqY
def eAt (l:List Gt.Exception) (k:Nat):Gt.Exception:=l[k]?.getD ztu
def ze8 (l:List Gt.LicenceRule) (f:List UInt8) (o:Int) (k:Nat):Bool:=(l.take k).any fun r=>r.family==f&&r.order==o
def lF (l:List Gt.LicenceRule) (k:Nat):Int :=
 bif !isName (rAt l k).name then 8 else
 bif decide (0<k)&&leN (rAt l k).name (rAt l (k - 1)).name then 10 else
 bif (rAt l k).family != []&& !isName (rAt l k).family then 8 else
 bif (rAt l k).family==[]&&(rAt l k).order != 0 then 2 else
 bif (rAt l k).family != []&&ze8 l (rAt l k).family (rAt l k).order k then 5 else
 bif decide ((rAt l k).order<0)||decide (1000000<(rAt l k).order) then 9 else
 bif decide (50<len (rAt l k).obligations) then 3 else nFs (rAt l k).obligations
def lIx (c:Cat) (s:List UInt8):Option Nat:=c.licences.findIdx? fun r=>r.name==s
def xIx (c:Cat) (s:List UInt8):Option Nat:=c.exceptions.findIdx? fun r=>r.name==s
def oF (c:Cat) (x:Gt.Exception) (k:Nat):Int:=bif (lIx c (sAt x.for_ k)).isNone then 4 else bif decide (0<k)&&leN (sAt x.for_ k) (sAt x.for_ (k - 1)) then 10 else 0
def xOne (c:Cat) (x:Gt.Exception):Int :=
 bif decide (500<len x.for_) then 3 else bif ff (oF c x) x.for_.length != 0 then ff (oF c x) x.for_.length else bif decide (50<len x.lifts) then 3 else nFs x.lifts
def xF (c:Cat) (k:Nat):Int :=
 bif !isName (eAt c.exceptions k).name then 8 else bif decide (0<k)&&leN (eAt c.exceptions k).name (eAt c.exceptions (k - 1)).name then 10 else xOne c (eAt c.exceptions k)
def pAt (l:List Gt.A2_string) (k:Nat):Gt.A2_string:=l[k]?.getD ⟨[],[]⟩
def zej (p q:Gt.A2_string):Bool:=p.e0==q.e0&&p.e1==q.e1
def cF (l:List Gt.A2_string) (k:Nat):Int :=
 bif !isName (pAt l k).e0|| !isName (pAt l k).e1 then 8 else bif leN (pAt l k).e1 (pAt l k).e0 then 10 else bif (l.take k).any (fun q=>zej q (pAt l k)) then 5 else 0
def zf1 (c:Cat):Int :=
 bif decide (500<len c.licences)||decide (50<len c.exceptions)||decide (200<len c.clashes) then 3 else
 bif ff (lF c.licences) c.licences.length != 0 then ff (lF c.licences) c.licences.length else
 bif ff (xF c) c.exceptions.length != 0 then ff (xF c) c.exceptions.length else ff (cF c.clashes) c.clashes.length
def Txs (l:List (List UInt8)):Prop:=l.length≤2000000∧∀s∈l,s.length≤2000000
structure SmallC (c:Cat):Prop where
 lics:c.licences.length≤2000000
 lic:∀r∈c.licences,r.name.length≤2000000∧r.family.length≤2000000∧Txs r.obligations
 excs:c.exceptions.length≤2000000
 exc:∀x∈c.exceptions,x.name.length≤2000000∧Txs x.for_∧Txs x.lifts
 cls:c.clashes.length≤2000000
 cl:∀p∈c.clashes,p.e0.length≤2000000∧p.e1.length≤2000000
theorem zjs {l:List (List UInt8)} {k:Nat} (h:k<l.length):l[k]=sAt l k:=by simp [sAt,h]
theorem zeo {l:List Gt.LicenceRule} {k:Nat} (h:k<l.length):l[k]=rAt l k:=by simp [rAt,h]
theorem zmw {l:List Gt.Exception} {k:Nat} (h:k<l.length):l[k]=eAt l k:=by simp [eAt,h]
theorem zme {l:List Gt.A2_string} {k:Nat} (h:k<l.length):l[k]=pAt l k:=by simp [pAt,h]
theorem zr4 {l:List (List UInt8)} {k:Nat} (h:k<l.length):at? l (k:Int)=some (sAt l k):=by rw [zak h,zjs h]
theorem zqw {l:List Gt.LicenceRule} {k:Nat} (h:k<l.length):at? l (k:Int)=some (rAt l k):=by rw [zak h,zeo h]
theorem zti {l:List Gt.Exception} {k:Nat} (h:k<l.length):at? l (k:Int)=some (eAt l k):=by rw [zak h,zmw h]
theorem at_p {l:List Gt.A2_string} {k:Nat} (h:k<l.length):at? l (k:Int)=some (pAt l k):=by rw [zak h,zme h]
theorem zpf {l:List (List UInt8)} (h:Txs l) (k:Nat):(sAt l k).length≤1000000000:=by
 unfold sAt
 cases he:l[k]? with
 | none=>simp
 | some s=>have:=h.2 s (yAc he);simp;omega
theorem zcY {k n:Nat} (h:0<k) (hk:k≤n) (hn:n≤9223372036854775807):IntKind.i64.wrap ((k:Int) - 1)=((k - 1:Nat):Int):=by
 rw [za5 (by omega) (by omega)];omega
theorem zsT (k:Nat):decide ((0:Int)<(k:Int))=decide (0<k):=decide_eq_decide.2 (by omega)
theorem zrn (k:Nat):((k:Int)==0)= !decide (0<k):=by
 by_cases h:k=0
 ·subst h;rfl
 ·have:0<k:=by omega
  simp [this];omega
theorem zgI {α:Type} {k:Nat} {X:Option α} {g:α→Bool} (y0:α) (h:0<k→X=some y0):br (decide ((0:Int)<(k:Int))) (ob X fun y=>some (g y)) (some false)=some (decide (0<k)&&g y0):=by
 rw [zsT]
 by_cases h0:0<k
 ·rw [h h0];simp [h0,zad,zaa]
 ·simp [h0,zab]
theorem L176 (o:Orc Sx) {l:List (List UInt8)} {k:Nat} (hk:k<l.length) (hl:l.length≤9223372036854775807):m176 o l (k:Int)=some (!(decide (0<k)&&leN (sAt l k) (sAt l (k - 1))),()):=by
 unfold m176
 rw [zrn]
 by_cases h:0<k
 ·rw [zcY h (yBl hk) hl,zr4 hk,zr4 (by omega:k - 1<l.length)];simp [h,zab,zaa,leN]
 ·simp [h,zad,zaa]
theorem L175 {n:Nat} (hn:2≤n) {l:List (List UInt8)} (h:Txs l):m175 (zah n) l=some (nFs l,()):=by
 unfold m175
 obtain ⟨n,rfl⟩:∃k,n=k+1:=⟨n - 1,by omega⟩
 have hl:=h.1
 rw [zcN l.length (nF l) (fun c=> .inr (c,())) (.inl ()) ?h1 ?h2]
 case h1 =>
  intro k hk _
  simp only [zam,hk,decide_true,zad,zr4 hk,zaa,G100 hn (zpf h k),q176,L176 (zah n) hk (by omega),Bool.not_not,zae hk (by omega:l.length≤9223372036854775807)]
  exact zdQ (out:=fun c=>Sum.inr (c,())) 8 (by decide) fun _=>zdQ (out:=fun c=>Sum.inr (c,())) 10 (by decide) fun _=>rfl
 case h2=>simp [len,zab]
 unfold nFs
 by_cases h0:ff (nF l) l.length=0
 ·simp [h0,zaj]
 ·simp [h0,zaG]
theorem L178 {n:Nat} (hn:2≤n) {l:List (List UInt8)} (h:Txs l) (most:Int):m178 (zah n) l most=some (bif decide (most<len l) then 3 else nFs l,()):=by
 unfold m178
 have hl:=h.1
 refine zdP 3 fun _=> ?_
 rw [zcN l.length (nF l) (fun c=> .inr (c,())) (.inl ()) ?h1 ?h2]
 case h1 =>
  intro k hk _
  simp only [zam,hk,decide_true,zad,zr4 hk,zaa,G135 hn (zpf h k),zae hk (by omega:l.length≤9223372036854775807)]
  rw [zgI (sAt l (k - 1)) fun h0=>by rw [zcY h0 (yBl hk) (by omega),zr4 (by omega:k - 1<l.length)]]
  exact zdQ (out:=fun c=>Sum.inr (c,())) 8 (by decide) fun _=>zdQ (out:=fun c=>Sum.inr (c,())) 10 (by decide) fun _=>rfl
 case h2=>simp [len,zab]
 unfold nFs
 by_cases h0:ff (nF l) l.length=0
 ·simp [h0,zaj]
 ·simp [h0,zaG]
end Pe.Tryz
end
section
/- The fourth law in plain, second part: a whole catalogue. -/
set_option maxRecDepth 100000
namespace Pe.Tryz
open Go Go.Proofs Pe LicSpec
theorem znq (x y:Gt.Licence_rank):keq un (.st 8) x y=(x.family==y.family&&(x.order==y.order&&true)):=by kernel_rfl
theorem zsQ (x y:Gt.Licence_rank):keq un (.st 8) x y=true↔x=y:=by
 rw [znq]
 cases x;cases y;simp
theorem zn3 {l:List Gt.LicenceRule} {k:Nat} (hk:k<l.length) (f:List UInt8) (o:Int):ze8 l f o (k+1)=(ze8 l f o k||((rAt l k).family==f&&(rAt l k).order==o)):=by
 unfold ze8
 rw [yBQ hk,yCt,zeo hk];simp
theorem zl2 {l:List Gt.LicenceRule} {k:Nat} (hk:k<l.length):rAt l k∈l:=by rw [←zeo hk];exact yAl hk
theorem zj7 {l:List Gt.Exception} {k:Nat} (hk:k<l.length):eAt l k∈l:=by rw [←zmw hk];exact yAl hk
theorem zpt {l:List Gt.A2_string} {k:Nat} (hk:k<l.length):pAt l k∈l:=by rw [←zme hk];exact yAl hk
def zqm (l:List Gt.LicenceRule):Prop:=l.length≤2000000∧∀r∈l,r.name.length≤2000000∧r.family.length≤2000000∧Txs r.obligations
theorem zhN {b c:Bool} {α:Type} {f:Bool→Option α}:ob (br b (some c) (some false)) f=f (b&&c):=by rw [zaI,zaa,zhl]
theorem zjF {b c:Bool} {α:Type} {f:Bool→Option α}:ob (br b (some true) (some c)) f=f (b||c):=by rw [zaI,zaa,zcn]
theorem L140 {n:Nat} (hn:4≤n) {l:List Gt.LicenceRule} (h:zqm l):m140 (zah n) l=some (ff (lF l) l.length,()):=by
 unfold m140
 obtain ⟨n,rfl⟩:∃k,n=k+1:=⟨n - 1,by omega⟩
 have hl:=h.1
 have hm:=zri (R:=(List (Gt.Licence_rank×Bool)×Unit)⊕(Int×Unit)) (f:=fun (t1:Int×List ((Gt.Licence_rank)×(Bool))×Unit)=>(br (decide (t1.1<(len l))) (ob (at? l t1.1) fun y2=>(ob (α:=Bool×Unit) ((zah (n+1)).d 100 [.str (Gt.LicenceRule.name y2)] [.bool]) fun (r3:Bool×Unit)=>(br (!r3.1) (some (.inr (.inr (8,())))) (ob (br (decide (0<t1.1)) (ob (at? l (IntKind.i64.wrap (t1.1 - 1))) fun y4=>(some ((Op.bytesLess (Gt.LicenceRule.name y2) (Gt.LicenceRule.name y4))||((Gt.LicenceRule.name y2)==(Gt.LicenceRule.name y4))))) (some false)) fun b5=>(br b5 (some (.inr (.inr (10,())))) (ob (br ((Gt.LicenceRule.family y2) != []) (ob (α:=Bool×Unit) ((zah (n+1)).d 100 [.str (Gt.LicenceRule.family y2)] [.bool]) fun (r6:Bool×Unit)=>(some (!r6.1))) (some false)) fun b7=>(br b7 (some (.inr (.inr (8,())))) (ob (br ((Gt.LicenceRule.family y2)==[]) (some ((Gt.LicenceRule.order y2) != 0)) (some false)) fun b8=>(br b8 (some (.inr (.inr (2,())))) (ob (br ((Gt.LicenceRule.family y2) != []) (some (znc (keq un (.st 8)) (Gt.Licence_rank.mk (Gt.LicenceRule.family y2) (Gt.LicenceRule.order y2)) false t1.2.1)) (some false)) fun b9=>(br b9 (some (.inr (.inr (5,())))) (ob (br (decide ((Gt.LicenceRule.order y2)<0)) (some true) (some (decide (1000000<(Gt.LicenceRule.order y2))))) fun b10=>(br b10 (some (.inr (.inr (9,())))) (br (decide (50<(len (Gt.LicenceRule.obligations y2)))) (some (.inr (.inr (3,())))) (ob (α:=Int×Unit) ((zah (n+1)).d 175 [.sl .str (Gt.LicenceRule.obligations y2)] [(.int .i64)]) fun (r11:Int×Unit)=>(br (r11.1 != 0) (some (.inr (.inr (r11.1,())))) (some (.inl ((IntKind.i64.wrap (t1.1+1)),(zm9 (keq un (.st 8)) (Gt.Licence_rank.mk (Gt.LicenceRule.family y2) (Gt.LicenceRule.order y2)) true t1.2.1),()))))))))))))))))))) (some (.inr (.inl (t1.2.1,()))))))
  (fun (k:Nat) (m:List (Gt.Licence_rank×Bool))=>((k:Int),m,())) l.length (lF l) (fun c=> .inr (c,())) (fun m=> .inl (m,())) (fun k m=>∀q:Gt.Licence_rank,znc (keq un (.st 8)) q false m=ze8 l q.family q.order k) ?h1 ?h2 [] (fun q=>rfl)
 case h1 =>
  intro k m hk hI _
  obtain ⟨r1,r2,r3⟩:=h.2 _ (zl2 hk)
  refine ⟨zm9 (keq un (.st 8)) ⟨(rAt l k).family,(rAt l k).order⟩ true m,fun q=> ?_,?_⟩
  ·refine (zla (K:=Gt.Licence_rank) (V:=Bool) (eq:=keq un (.st 8)) zsQ _ q true false m).trans ?_
   have e:∀g b:Bool,g=ze8 l q.family q.order k→b=(q.family==(rAt l k).family&&(q.order==(rAt l k).order&&true))→(bif b then true else g)=ze8 l q.family q.order (k+1):=by
    rintro _ _ rfl rfl
    rw [zn3 hk,show (q.family==(rAt l k).family)=((rAt l k).family==q.family) from BEq.comm,show (q.order==(rAt l k).order)=((rAt l k).order==q.order) from BEq.comm]
    generalize ((rAt l k).family==q.family)=b1
    generalize ((rAt l k).order==q.order)=b2
    generalize ze8 l q.family q.order k=b3
    cases b1<;>cases b2<;>cases b3<;>rfl
   exact e _ _ (hI q) (znq q _)
  ·simp only [zam,hk,decide_true,zad,zqw hk,zaa,G100 (by omega:2≤n+1) (by omega:(rAt l k).name.length≤1000000000),G100 (by omega:2≤n+1) (by omega:(rAt l k).family.length≤1000000000),zae hk (by omega:l.length≤9223372036854775807),hI,zhN,zjF,q175,L175 (by omega:2≤n) r3]
   rw [zgI (rAt l (k - 1)) fun h0=>by rw [zcY h0 (yBl hk) (by omega),zqw (by omega:k - 1<l.length)]]
   unfold lF
   exact zdQ (out:=fun c=>Sum.inr (c,())) 8 (by decide) fun _=>zdQ (out:=fun c=>Sum.inr (c,())) 10 (by decide) fun _=>zdQ (out:=fun c=>Sum.inr (c,())) 8 (by decide) fun _ =>
    zdQ (out:=fun c=>Sum.inr (c,())) 2 (by decide) fun _=>zdQ (out:=fun c=>Sum.inr (c,())) 5 (by decide) fun _=>zdQ (out:=fun c=>Sum.inr (c,())) 9 (by decide) fun _ =>
    zdQ (out:=fun c=>Sum.inr (c,())) 3 (by decide) fun _=>zrG (out:=fun c=>Sum.inr (c,()))
 case h2=>intro a _;simp [len,zab]
 obtain ⟨m',hm⟩:=hm
 rw [show ((0:Int),([]:List (Gt.Licence_rank×Bool)),())=(((0:Nat):Int),([]:List (Gt.Licence_rank×Bool)),()) from rfl,hm]
 by_cases h0:ff (lF l) l.length=0
 ·simp [h0,zaj]
 ·simp [h0,zaG]
end Pe.Tryz
namespace Pe.Tryz
open Go Go.Proofs Pe LicSpec
theorem zjR {R:Type} {f:Int×Unit→Option ((Int×Unit)⊕R)} (n:Nat) (p:Nat→Bool) (yes no:R)
  (h:∀k,k<n→f ((k:Int),())=if p k=true then some (.inr yes) else some (.inl (((k+1:Nat):Int),())))
  (he:f ((n:Int),())=some (.inr no)):zan f ((0:Int),())=some (bif (List.range n).any p then yes else no):=by
 have:=zaO (f:=f) (List.range n) p (fun _=>yes) no (fun k hk=>by
  have hk':k<n:=by simpa using hk
  rw [h k hk',yBi]) (by simpa using he)
 rw [this]
 cases hf:(List.range n).findIdx? p with
 | some k =>
   have:(List.range n).any p=true:=by
    rw [yAZ] at hf
    obtain ⟨h1,h2,_⟩:=hf
    exact yA5.2 ⟨_,yAl h1,h2⟩
   rw [this];rfl
 | none =>
   have:(List.range n).any p=false:=by
    rw [yBy] at hf
    rw [yBB];intro x hx;simpa using hf x hx
   rw [this];rfl
theorem ze5 {α:Type} {l:List α} {n:Nat} (hn:n≤l.length) (p:α→Bool) (q:Nat→Bool) (h:∀k (hk:k<l.length),q k=p l[k]):(List.range n).any q=(l.take n).any p:=by
 induction n with
 | zero=>simp
 | succ n ih =>
   rw [List.range_succ,yCt,ih (by omega),yBQ (by omega),yCt]
   simp [h n (by omega)]
theorem L143 {n:Nat} (hn:4≤n) {l:List Gt.LicenceRule} (h:zqm l) {k:Nat} (hk:k<l.length):m143 (zah n) l (k:Int)=some (lF l k,()):=by
 unfold m143
 obtain ⟨n,rfl⟩:∃k,n=k+1:=⟨n - 1,by omega⟩
 have hl:=h.1
 obtain ⟨r1,r2,r3⟩:=h.2 _ (zl2 hk)
 simp only [zqw hk,zaa,G135 (by omega:2≤n+1) (by omega:(rAt l k).name.length≤1000000000),G135 (by omega:2≤n+1) (by omega:(rAt l k).family.length≤1000000000),zhN,zjF,q178,L178 (by omega:2≤n) r3]
 rw [zgI (rAt l (k - 1)) fun h0=>by rw [zcY h0 (yBl hk) (by omega),zqw (by omega:k - 1<l.length)]]
 rw [zjR k (fun j=>(rAt l k).family != []&&((rAt l j).family==(rAt l k).family&&(rAt l j).order==(rAt l k).order)) (.inr (5,())) (.inl ()) ?h1 ?h2]
 case h1 =>
  intro j hj
  have hjl:j<l.length:=by omega
  have e:decide ((j:Int)<(k:Int))=true:=decide_eq_true (by omega)
  simp only [e,zad,zqw hjl,zaa,zae hj (by omega:k≤9223372036854775807),zhN]
  cases (rAt l k).family != []<;>cases (rAt l j).family==(rAt l k).family<;>cases (rAt l j).order==(rAt l k).order<;>rfl
 case h2=>simp [zab]
 rw [ze5 (yBl hk) (fun r=>(rAt l k).family != []&&(r.family==(rAt l k).family&&r.order==(rAt l k).order)) _ (fun j hj=>by rw [←zeo hj])]
 have ha:((l.take k).any fun r=>(rAt l k).family != []&&(r.family==(rAt l k).family&&r.order==(rAt l k).order))=((rAt l k).family != []&&ze8 l (rAt l k).family (rAt l k).order k):=by
  cases (rAt l k).family != [] with
  | true=>rfl
  | false=>simp
 rw [ha]
 unfold lF
 refine zdP 8 fun _=>zdP 10 fun _=>zdP 8 fun _=>zdP 2 fun _=> ?_
 cases ((rAt l k).family != []&&ze8 l (rAt l k).family (rAt l k).order k) with
 | true=>rfl
 | false=>exact zdP 9 fun _=>rfl
def ixI:Option Nat→Int
 | some k=>(k:Int)
 | none=> -1
theorem ziZ (o:Option Nat):decide (ixI o<0)=o.isNone:=by
 cases o with
 | none=>rfl
 | some k=>exact decide_eq_false (by simp only [ixI];omega)
theorem zpN (o:Option Nat):decide (0≤ixI o)=o.isSome:=by
 cases o with
 | none=>rfl
 | some k=>exact decide_eq_true (by simp only [ixI];omega)
theorem L105 (o:Orc Sx) {c:Cat} (h:c.licences.length≤2000000) (s:List UInt8):m105 o c s=some (ixI (lIx c s),()):=by
 unfold m105
 rw [zaO c.licences (fun r=>r.name==s) (fun k=> .inr ((k:Int),())) (.inl ()) ?h1 ?h2]
 case h1 =>
  intro k hk
  simp only [zam,hk,decide_true,zad,zak hk,zaa,zae hk (by omega:c.licences.length≤9223372036854775807)]
  cases (c.licences[k].name==s)<;>rfl
 case h2=>simp [len,zab]
 unfold lIx
 cases c.licences.findIdx? fun r=>r.name==s<;>rfl
theorem L106 (o:Orc Sx) {c:Cat} (h:c.exceptions.length≤2000000) (s:List UInt8):m106 o c s=some (ixI (xIx c s),()):=by
 unfold m106
 rw [zaO c.exceptions (fun r=>r.name==s) (fun k=> .inr ((k:Int),())) (.inl ()) ?h1 ?h2]
 case h1 =>
  intro k hk
  simp only [zam,hk,decide_true,zad,zak hk,zaa,zae hk (by omega:c.exceptions.length≤9223372036854775807)]
  cases (c.exceptions[k].name==s)<;>rfl
 case h2=>simp [len,zab]
 unfold xIx
 cases c.exceptions.findIdx? fun r=>r.name==s<;>rfl
def zdu (c:Cat) (s:List UInt8):Gt.LicenceRule:=match lIx c s with | some k=>rAt c.licences k | none=>zqY
def zfu (c:Cat) (s:List UInt8):Gt.Exception:=match xIx c s with | some k=>eAt c.exceptions k | none=>ztu
theorem zhW {c:Cat} {s:List UInt8} {k:Nat} (h:lIx c s=some k):k<c.licences.length:=(yAZ.1 h).1
theorem ziv {c:Cat} {s:List UInt8} {k:Nat} (h:xIx c s=some k):k<c.exceptions.length:=(yAZ.1 h).1
theorem L108 (o:Orc Sx) {c:Cat} (h:c.licences.length≤2000000) (s:List UInt8):m108 o c s=some (zdu c s,(lIx c s).isSome,()):=by
 unfold m108
 rw [zaO c.licences (fun r=>r.name==s) (fun k=> .inr ((k:Int),())) (.inl ()) ?h1 ?h2]
 case h1 =>
  intro k hk
  simp only [zam,hk,decide_true,zad,zak hk,zaa,zae hk (by omega:c.licences.length≤9223372036854775807)]
  cases (c.licences[k].name==s)<;>rfl
 case h2=>simp [len,zab]
 unfold zdu
 cases hx:lIx c s with
 | none=>unfold lIx at hx;rw [hx];rfl
 | some k =>
   have hk:=zhW hx
   unfold lIx at hx
   rw [hx]
   simp only [zaG,zaa,zqw hk,show decide ((k:Int)<0)=false from decide_eq_false (by omega),zab]
   rfl
theorem L109 (o:Orc Sx) {c:Cat} (h:c.exceptions.length≤2000000) (s:List UInt8):m109 o c s=some (zfu c s,(xIx c s).isSome,()):=by
 unfold m109
 rw [zaO c.exceptions (fun r=>r.name==s) (fun k=> .inr ((k:Int),())) (.inl ()) ?h1 ?h2]
 case h1 =>
  intro k hk
  simp only [zam,hk,decide_true,zad,zak hk,zaa,zae hk (by omega:c.exceptions.length≤9223372036854775807)]
  cases (c.exceptions[k].name==s)<;>rfl
 case h2=>simp [len,zab]
 unfold zfu
 cases hx:xIx c s with
 | none=>unfold xIx at hx;rw [hx];rfl
 | some k =>
   have hk:=ziv hx
   unfold xIx at hx
   rw [hx]
   simp only [zaG,zaa,zti hk,show decide ((k:Int)<0)=false from decide_eq_false (by omega),zab]
   rfl
end Pe.Tryz
end
section
/- The fourth law in plain, third part: CheckCatalog of both sides. -/
set_option maxRecDepth 100000
namespace Pe.Tryz
open Go Go.Proofs Pe LicSpec
theorem SmallC.rules {c:Cat} (h:SmallC c):zqm c.licences:=⟨h.lics,h.lic⟩
theorem L141 {n:Nat} (hn:4≤n) {c:Cat} (hc:SmallC c) {x:Gt.Exception} (hx:Txs x.for_∧Txs x.lifts):m141 (zah n) c x=some (xOne c x,()):=by
 unfold m141
 obtain ⟨n,rfl⟩:∃k,n=k+1:=⟨n - 1,by omega⟩
 have hl:=hx.1.1
 unfold xOne
 refine zdP 3 fun _=> ?_
 rw [zcN x.for_.length (oF c x) (fun c=> .inr (c,())) (.inl ()) ?h1 ?h2]
 case h1 =>
  intro k hk _
  simp only [zam,hk,decide_true,zad,zr4 hk,zaa,q108,L108 (zah n) hc.lics,q176,L176 (zah n) hk (by omega),Bool.not_not,zae hk (by omega:x.for_.length≤9223372036854775807),Option.not_isSome]
  exact zdQ (out:=fun c=>Sum.inr (c,())) 4 (by decide) fun _=>zdQ (out:=fun c=>Sum.inr (c,())) 10 (by decide) fun _=>rfl
 case h2=>simp [len,zab]
 by_cases h0:ff (oF c x) x.for_.length=0
 ·simp only [h0,bne_self_eq_false,cond_false,ne_eq,not_true,if_false,zaj,q175,L175 (by omega:2≤n) hx.2,zaa]
  exact zdP 3 fun _=>rfl
 ·have:(ff (oF c x) x.for_.length != 0)=true:=by simpa using h0
  rw [if_pos h0,zaG,this];rfl
theorem L144 {n:Nat} (hn:4≤n) {c:Cat} (hc:SmallC c) {k:Nat} (hk:k<c.exceptions.length):m144 (zah n) c (k:Int)=some (xF c k,()):=by
 unfold m144
 obtain ⟨n,rfl⟩:∃k,n=k+1:=⟨n - 1,by omega⟩
 have hl:=hc.excs
 obtain ⟨r1,r2,r3⟩:=hc.exc _ (zj7 hk)
 have hl2:=r2.1
 simp only [zti hk,zaa,G135 (by omega:2≤n+1) (by omega:(eAt c.exceptions k).name.length≤1000000000)]
 rw [zgI (eAt c.exceptions (k - 1)) fun h0=>by rw [zcY h0 (yBl hk) (by omega),zti (by omega:k - 1<c.exceptions.length)]]
 unfold xF xOne
 simp only [zaa]
 refine zdP 8 fun _=>zdP 10 fun _=>zdP 3 fun _=> ?_
 rw [zcN (eAt c.exceptions k).for_.length (oF c (eAt c.exceptions k)) (fun c=> .inr (c,())) (.inl ()) ?h1 ?h2]
 case h1 =>
  intro j hj _
  simp only [zam,hj,decide_true,zad,zr4 hj,zaa,q105,L105 (zah n) hc.lics,ziZ,zae hj (by omega:(eAt c.exceptions k).for_.length≤9223372036854775807)]
  rw [zgI (sAt (eAt c.exceptions k).for_ (j - 1)) fun h0=>by rw [zcY h0 (yBl hj) (by omega),zr4 (by omega:j - 1<(eAt c.exceptions k).for_.length)]]
  exact zdQ (out:=fun c=>Sum.inr (c,())) 4 (by decide) fun _=>zdQ (out:=fun c=>Sum.inr (c,())) 10 (by decide) fun _=>rfl
 case h2=>simp [len,zab]
 by_cases h0:ff (oF c (eAt c.exceptions k)) (eAt c.exceptions k).for_.length=0
 ·simp only [h0,bne_self_eq_false,cond_false,ne_eq,not_true,if_false,zaj,q178,L178 (by omega:2≤n) r3,zaa]
 ·have:(ff (oF c (eAt c.exceptions k)) (eAt c.exceptions k).for_.length != 0)=true:=by simpa using h0
  rw [if_pos h0,zaG,this];rfl
theorem zof (p q:Gt.A2_string):zej p q=zej q p:=by
 unfold zej;rw [show (p.e0==q.e0)=(q.e0==p.e0) from BEq.comm,show (p.e1==q.e1)=(q.e1==p.e1) from BEq.comm]
theorem L177 (o:Orc Sx) {l:List Gt.A2_string} (hl:l.length≤2000000) (v:Gt.A2_string):m177 o l v=some (ixI (l.findIdx? (zej v)),()):=by
 unfold m177
 rw [zaO l (zej v) (fun k=> .inr ((k:Int),())) (.inl ()) ?h1 ?h2]
 case h1 =>
  intro k hk
  simp only [zam,hk,decide_true,zad,zak hk,zaa,zae hk (by omega:l.length≤9223372036854775807),yB6]
  show br (zej v l[k]) _ _=_
  cases zej v l[k]<;>rfl
 case h2=>simp [len,zab]
 cases l.findIdx? (zej v)<;>rfl
theorem zbk {α:Type} (l:List α) (p:α→Bool):(l.findIdx? p).isSome=l.any p:=by
 rw [List.findIdx?_isSome]
theorem L142 {n:Nat} (hn:1≤n) {l:List Gt.A2_string} (hl:l.length≤2000000) (v:Gt.A2_string):m142 (zah n) l v=some (l.any (zej v),()):=by
 obtain ⟨n,rfl⟩:∃k,n=k+1:=⟨n - 1,by omega⟩
 unfold m142
 simp only [q177,L177 (zah n) hl,zaa,zpN,zbk]
theorem L104 {n:Nat} (hn:5≤n) {c:Cat} (hc:SmallC c):m104 (zah n) c=some (zf1 c,()):=by
 unfold m104
 obtain ⟨n,rfl⟩:∃k,n=k+1:=⟨n - 1,by omega⟩
 unfold zf1
 have l1:=hc.lics;have l2:=hc.excs;have l3:=hc.cls
 simp only [zjF]
 refine zdP 3 fun _=> ?_
 rw [zcN c.licences.length (lF c.licences) (fun c=> .inr (c,())) (.inl ()) ?h1 ?h2]
 case h1 =>
  intro k hk _
  simp only [zam,hk,decide_true,zad,zaa,q143,L143 (by omega:4≤n) hc.rules hk,zae hk (by omega:c.licences.length≤9223372036854775807)]
  exact zrG (out:=fun c=>Sum.inr (c,()))
 case h2=>simp [len,zab]
 by_cases h0:ff (lF c.licences) c.licences.length=0
 case neg =>
  have:(ff (lF c.licences) c.licences.length != 0)=true:=by simpa using h0
  rw [if_pos h0,zaG,this];rfl
 simp only [h0,bne_self_eq_false,cond_false,ne_eq,not_true,if_false,zaj]
 rw [zcN c.exceptions.length (xF c) (fun c=> .inr (c,())) (.inl ()) ?h3 ?h4]
 case h3 =>
  intro k hk _
  simp only [zam,hk,decide_true,zad,zaa,q144,L144 (by omega:4≤n) hc hk,zae hk (by omega:c.exceptions.length≤9223372036854775807)]
  exact zrG (out:=fun c=>Sum.inr (c,()))
 case h4=>simp [len,zab]
 by_cases h1:ff (xF c) c.exceptions.length=0
 case neg =>
  have:(ff (xF c) c.exceptions.length != 0)=true:=by simpa using h1
  rw [if_pos h1,zaG,this];rfl
 simp only [h1,bne_self_eq_false,cond_false,ne_eq,not_true,if_false,zaj]
 rw [zcN c.clashes.length (cF c.clashes) (fun c=> .inr (c,())) (.inl ()) ?h5 ?h6]
 case h5 =>
  intro k hk _
  obtain ⟨s1,s2⟩:=hc.cl _ (zpt hk)
  simp only [zam,hk,decide_true,zad,at_p hk,zaa,G135 (by omega:2≤n+1) (by omega:(pAt c.clashes k).e0.length≤1000000000),G135 (by omega:2≤n+1) (by omega:(pAt c.clashes k).e1.length≤1000000000),zjF,zae hk (by omega:c.clashes.length≤9223372036854775807)]
  rw [zjR k (fun j=>zej (pAt c.clashes j) (pAt c.clashes k)) (.inr (.inr (.inr (5,())))) (.inl ()) ?h7 ?h8]
  case h7 =>
   intro j hj
   have hjl:j<c.clashes.length:=by omega
   have e:decide ((j:Int)<(k:Int))=true:=decide_eq_true (by omega)
   simp only [e,zad,at_p hjl,zaa,zae hj (by omega:k≤9223372036854775807),yB6]
   show br (zej (pAt c.clashes j) (pAt c.clashes k)) _ _=_
   cases zej (pAt c.clashes j) (pAt c.clashes k)<;>rfl
  case h8=>simp [zab]
  rw [ze5 (yBl hk) (fun r=>zej r (pAt c.clashes k)) _ (fun j hj=>by rw [←zme hj])]
  unfold cF leN
  cases (!isName (pAt c.clashes k).e0|| !isName (pAt c.clashes k).e1) with
  | true=>rfl
  | false =>
    cases (Op.bytesLess (pAt c.clashes k).e1 (pAt c.clashes k).e0||(pAt c.clashes k).e1==(pAt c.clashes k).e0) with
    | true=>rfl
    | false=>cases ((c.clashes.take k).any fun r=>zej r (pAt c.clashes k))<;>rfl
 case h6=>simp [len,zab]
 by_cases h2:ff (cF c.clashes) c.clashes.length=0
 ·simp [h2,zaj]
 ·simp [h2,zaG]
theorem L103 {n:Nat} (hn:5≤n) {c:Cat} (hc:SmallC c):m103 (zah n) c=some (zf1 c,()):=by
 unfold m103
 obtain ⟨n,rfl⟩:∃k,n=k+1:=⟨n - 1,by omega⟩
 unfold zf1
 have l1:=hc.lics;have l2:=hc.excs;have l3:=hc.cls
 simp only [zjF]
 refine zdP 3 fun _=> ?_
 simp only [q140,L140 (by omega:4≤n) hc.rules,zaa]
 by_cases h0:ff (lF c.licences) c.licences.length=0
 case neg =>
  have:(ff (lF c.licences) c.licences.length != 0)=true:=by simpa using h0
  rw [this];rfl
 simp only [h0,bne_self_eq_false,cond_false,zab]
 rw [zcN c.exceptions.length (xF c) (fun c=> .inr (c,())) (.inl ()) ?h3 ?h4]
 case h3 =>
  intro k hk _
  obtain ⟨r1,r2⟩:=hc.exc _ (zj7 hk)
  simp only [zam,hk,decide_true,zad,zti hk,zaa,G100 (by omega:2≤n+1) (by omega:(eAt c.exceptions k).name.length≤1000000000),q141,L141 (by omega:4≤n) hc r2,zae hk (by omega:c.exceptions.length≤9223372036854775807)]
  rw [zgI (eAt c.exceptions (k - 1)) fun h0=>by rw [zcY h0 (yBl hk) (by omega),zti (by omega:k - 1<c.exceptions.length)]]
  exact zdQ (out:=fun c=>Sum.inr (c,())) 8 (by decide) fun _=>zdQ (out:=fun c=>Sum.inr (c,())) 10 (by decide) fun _=>zrG (out:=fun c=>Sum.inr (c,()))
 case h4=>simp [len,zab]
 by_cases h1:ff (xF c) c.exceptions.length=0
 case neg =>
  have:(ff (xF c) c.exceptions.length != 0)=true:=by simpa using h1
  rw [if_pos h1,zaG,this];rfl
 simp only [h1,bne_self_eq_false,cond_false,ne_eq,not_true,if_false,zaj]
 rw [zcN c.clashes.length (cF c.clashes) (fun c=> .inr (c,())) (.inl ()) ?h5 ?h6]
 case h5 =>
  intro k hk _
  obtain ⟨s1,s2⟩:=hc.cl _ (zpt hk)
  simp only [zam,hk,decide_true,zad,at_p hk,zaa,G100 (by omega:2≤n+1) (by omega:(pAt c.clashes k).e0.length≤1000000000),G100 (by omega:2≤n+1) (by omega:(pAt c.clashes k).e1.length≤1000000000),zjF,zae hk (by omega:c.clashes.length≤9223372036854775807)]
  rw [show ((0:Int))=((0:Nat):Int) from rfl,zc4 (yAD _) (yBl hk)]
  simp only [zaa,q142,yBa,Nat.sub_zero,L142 (by omega:1≤n) (by simp;omega:(c.clashes.take k).length≤2000000)]
  unfold cF
  rw [show (c.clashes.take k).any (zej (pAt c.clashes k))=(c.clashes.take k).any (fun q=>zej q (pAt c.clashes k)) from congrArg (List.any _) (funext fun q=>zof _ _)]
  exact zdQ (out:=fun c=>Sum.inr (c,())) 8 (by decide) fun _=>zdQ (out:=fun c=>Sum.inr (c,())) 10 (by decide) fun _=>zdQ (out:=fun c=>Sum.inr (c,())) 5 (by decide) fun _=>rfl
 case h6=>simp [len,zab]
 by_cases h2:ff (cF c.clashes) c.clashes.length=0
 ·simp [h2,zaj]
 ·simp [h2,zaG]
end Pe.Tryz
end
section
/- The fourth law in plain, fourth part: the uses that a licence can be. -/
set_option maxRecDepth 100000
namespace Pe.Tryz
open Go Go.Proofs Pe LicSpec
def hasT (l:List (List UInt8)) (s:List UInt8):Bool:=l.any (· ==s)
theorem L88 (o:Orc Sx) {l:List (List UInt8)} (hl:l.length≤1000000000) (s:List UInt8):m88 o l s=some (hasT l s,()):=by
 unfold m88
 rw [zaO l (· ==s) (fun k=> .inr (true,())) (.inl ()) ?h1 ?h2]
 case h1 =>
  intro k hk
  simp only [zam,hk,decide_true,zad,zak hk,zaa,zae hk (by omega:l.length≤9223372036854775807)]
  cases (l[k]==s)<;>rfl
 case h2=>simp [len,zab]
 unfold hasT
 rw [←zbk]
 cases l.findIdx? (· ==s)<;>rfl
theorem L86 {n:Nat} (hn:1≤n) {l:List (List UInt8)} (hl:l.length≤1000000000) (s:List UInt8):m86 (zah n) l s=some (hasT l s,()):=by
 obtain ⟨n,rfl⟩:∃k,n=k+1:=⟨n - 1,by omega⟩
 unfold m86
 rw [q124]
 unfold m124
 rw [zaO l (· ==s) (fun k=> .inr ((k:Int),())) (.inl ()) ?h1 ?h2]
 case h1 =>
  intro k hk
  simp only [zam,hk,decide_true,zad,zak hk,zaa,zae hk (by omega:l.length≤9223372036854775807)]
  rw [show (s==l[k])=(l[k]==s) from BEq.comm]
  cases (l[k]==s)<;>rfl
 case h2=>simp [len,zab]
 unfold hasT
 rw [←zbk]
 cases l.findIdx? (· ==s) with
 | none=>rfl
 | some k =>
   simp only [zaG,zaa,yCg]
   rw [show decide (0≤(k:Int))=true from decide_eq_true (by omega)]
def laterR (c:Cat) (e:Ex) (r:Gt.LicenceRule):Bool:=((e.later&&(zdu c e.name).family != [])&&r.family==(zdu c e.name).family)&&decide ((zdu c e.name).order≤r.order)
def pick (c:Cat) (e:Ex) (r:Gt.LicenceRule):Option Gt.Use:=bif (r.name != (zdu c e.name).name&& !laterR c e r)||(e.wth != []&& !hasT (zfu c e.wth).for_ r.name) then none else some ⟨r.name,e.wth⟩
def zkk (c:Cat) (e:Ex):List Gt.Use:=bif (lIx c e.name).isSome then c.licences.filterMap (pick c e) else []
theorem ziw {c:Cat} (hc:SmallC c) (s:List UInt8):Txs (zfu c s).for_:=by
 unfold zfu
 cases h:xIx c s with
 | none=>exact ⟨by simp [ztu],by simp [ztu]⟩
 | some k=>exact (hc.exc _ (zj7 (ziv h))).2.1
theorem L150 {n:Nat} (hn:3≤n) {c:Cat} (hc:SmallC c) (e:Ex):m150 (zah n) c e=some (zkk c e,()):=by
 obtain ⟨n,rfl⟩:∃k,n=k+1:=⟨n - 1,by omega⟩
 have hl:=hc.lics
 unfold m150 zkk
 rw [q108,L108 (zah n) hc.lics]
 simp only [zaa]
 cases hk:(lIx c e.name).isSome with
 | false=>rfl
 | true =>
 simp only [yA9,zab,q109,L109 (zah n) hc.excs,zaa,cond_true]
 have hx:=ziw hc e.wth
 rw [zcO c.licences (pick c e) (fun l=> .inl (l,())) ?h1 ?h2]
 case h1 =>
  intro k hk a ha
  simp only [zam,hk,decide_true,zad,zak hk,zaa,zhN,zjF,zae hk (by omega:c.licences.length≤9223372036854775807),q86,L86 (by omega:1≤n) (by have:=hx.1;omega:(zfu c e.wth).for_.length≤1000000000)]
  rw [zax (by have:lim=4294967296:=rfl;simp;omega)]
  simp only [zaa]
  show br ((c.licences[k].name != (zdu c e.name).name&& !laterR c e c.licences[k])||(e.wth != []&& !hasT (zfu c e.wth).for_ c.licences[k].name)) _ _=_
  unfold pick
  cases ((c.licences[k].name != (zdu c e.name).name&& !laterR c e c.licences[k])||(e.wth != []&& !hasT (zfu c e.wth).for_ c.licences[k].name))<;>rfl
 case h2=>intro a;simp [len,zab]
 rfl
def zhY (c:Cat) (e:Ex) (r:Gt.LicenceRule):Bool:=r.family==(zdu c e.name).family&&decide ((zdu c e.name).order≤r.order)
def zlB (c:Cat) (e:Ex) (n:Nat):List Nat:=bif !e.later||(zdu c e.name).family==[] then [n] else (List.range c.licences.length).filter fun i=>zhY c e (rAt c.licences i)
theorem L154 {n:Nat} (hn:1≤n) {c:Cat} (hc:SmallC c) {e:Ex} {m:Nat} (hm:lIx c e.name=some m):m154 (zah n) c e=some ((zlB c e m).map Int.ofNat,()):=by
 obtain ⟨n,rfl⟩:∃k,n=k+1:=⟨n - 1,by omega⟩
 have hl:=hc.lics
 unfold m154 zlB
 have hml:=zhW hm
 have hg:zdu c e.name=rAt c.licences m:=by unfold zdu;rw [hm]
 simp only [q105,L105 (zah n) hc.lics,hm,ixI,zaa,zqw hml,←hg,zjF]
 cases (!e.later||(zdu c e.name).family==[]) with
 | true=>rfl
 | false =>
 simp only [zab,cond_false]
 rw [zcO (List.range c.licences.length) (fun i=>bif zhY c e (rAt c.licences i) then some (Int.ofNat i) else none) (fun l=> .inl (l,())) ?h1 ?h2]
 case h1 =>
  intro k hk' a ha
  have hk:k<c.licences.length:=by simpa using hk'
  simp only [zam,hk,decide_true,zad,zqw hk,zaa,zhN,zae hk (by omega:c.licences.length≤9223372036854775807),yBi]
  rw [zax (by have:lim=4294967296:=rfl;simp;omega)]
  simp only [zaa]
  show br (zhY c e (rAt c.licences k)) _ _=_
  cases zhY c e (rAt c.licences k)<;>rfl
 case h2=>intro a;simp [len,zab]
 simp only [zaj]
 congr 2
 generalize List.range c.licences.length=r
 induction r with
 | nil=>rfl
 | cons i r ih=>simp only [yAC,yCn];cases zhY c e (rAt c.licences i)<;>simp_all
def zmc (c:Cat) (e:Ex) (i:Nat):Option Gt.Use:=bif e.wth==[]||hasT (zfu c e.wth).for_ (rAt c.licences i).name then some ⟨(rAt c.licences i).name,e.wth⟩ else none
theorem zs5 {c:Cat} {e:Ex} {m:Nat} (hm:lIx c e.name=some m) {i:Nat} (h:i∈zlB c e m):i<c.licences.length:=by
 unfold zlB at h
 cases hb:(!e.later||(zdu c e.name).family==[]) with
 | true=>rw [hb] at h;simp at h;subst h;exact zhW hm
 | false=>rw [hb] at h;simp at h;exact h.1
theorem zru {c:Cat} (hc:SmallC c) {e:Ex} {m:Nat}:(zlB c e m).length≤2000000:=by
 unfold zlB
 cases (!e.later||(zdu c e.name).family==[]) with
 | true=>simp
 | false=>have:=yBZ (fun i=>zhY c e (rAt c.licences i)) (List.range c.licences.length);have:=hc.lics;simp at *;omega
theorem L116 {n:Nat} (hn:3≤n) {c:Cat} (hc:SmallC c) {e:Ex} {m:Nat} (hm:lIx c e.name=some m) (hw:e.wth=[]∨(xIx c e.wth).isSome=true) :
  m116 (zah n) c e=some ((zlB c e m).filterMap (zmc c e),()):=by
 obtain ⟨n,rfl⟩:∃k,n=k+1:=⟨n - 1,by omega⟩
 unfold m116
 have hfl:=zru hc (e:=e) (m:=m)
 rw [Ex.eta,q154,L154 (by omega:1≤n) hc hm]
 simp only [zaa]
 have hx:=ziw hc e.wth
 rw [zcO (zlB c e m) (zmc c e) (fun l=> .inl (l,())) ?h1 ?h2]
 case h1 =>
  intro k hk a ha
  have hk2:k<((zlB c e m).map Int.ofNat).length:=by simpa using hk
  have hi:=zs5 hm (yAl hk)
  have hat:at? c.licences (Int.ofNat (zlB c e m)[k])=some (rAt c.licences (zlB c e m)[k]):=zqw hi
  simp only [zam,hk2,decide_true,zad,zak hk2,zaa,zae hk (by omega:(zlB c e m).length≤9223372036854775807),List.getElem_map,hat,q106,L106 (zah n) hc.excs]
  rw [zax (by have:lim=4294967296:=rfl;simp;omega)]
  have hb:(br (e.wth==[]) (some true) (ob (at? c.exceptions (ixI (xIx c e.wth))) fun y6=>(ob (α:=Bool×Unit) ((zah (n+1)).d 88 [.sl .str (Gt.Exception.for_ y6),.str (Gt.LicenceRule.name (rAt c.licences (zlB c e m)[k]))] [.bool]) fun (r7:Bool×Unit)=>(some r7.1))))=some (e.wth==[]||hasT (zfu c e.wth).for_ (rAt c.licences (zlB c e m)[k]).name):=by
   rcases hw with hw | hw
   ·rw [hw];rfl
   ·cases hxi:xIx c e.wth with
    | none=>rw [hxi] at hw;cases hw
    | some j =>
      have hg:zfu c e.wth=eAt c.exceptions j:=by unfold zfu;rw [hxi]
      simp only [ixI,zti (ziv hxi),←hg,zaa,q88,L88 (zah n) (by have:=hx.1;omega:(zfu c e.wth).for_.length≤1000000000),zaI,zcn]
  rw [hb]
  simp only [zaa]
  unfold zmc
  cases (e.wth==[]||hasT (zfu c e.wth).for_ (rAt c.licences (zlB c e m)[k]).name)<;>rfl
 case h2=>intro a;simp [len,zab]
 rfl
end Pe.Tryz
end
section
/- The fourth law in plain, fifth part: the names of a right catalogue are different; what is not known. -/
set_option maxRecDepth 100000
namespace Pe.Tryz
open Go Go.Proofs Pe LicSpec
theorem zlj {a b:List UInt8} (h:leN a b=false):b<a:=by
 unfold leN at h
 rw [bytesLess_eq] at h
 simp at h
 obtain ⟨h1,h2⟩:=h
 rcases (List.le_iff_lt_or_eq (l₁:=b) (l₂:=a)).1 (yBN.1 (by simpa using h1)) with h3 | h3
 ·exact h3
 ·exact absurd h3.symm h2
theorem zif {c:Cat} (h:zf1 c=0):(∀k,k<c.licences.length→lF c.licences k=0)∧(∀k,k<c.exceptions.length→xF c k=0)∧¬(500<len c.licences):=by
 unfold zf1 at h
 cases h1:(decide (500<len c.licences)||decide (50<len c.exceptions)||decide (200<len c.clashes)) with
 | true=>rw [h1] at h;cases h
 | false =>
 rw [h1] at h
 simp only [cond_false] at h
 by_cases h2:ff (lF c.licences) c.licences.length=0
 case neg=>have:(ff (lF c.licences) c.licences.length != 0)=true:=by simpa using h2
           rw [this] at h;exact absurd h h2
 simp only [h2,bne_self_eq_false,cond_false] at h
 by_cases h3:ff (xF c) c.exceptions.length=0
 case neg=>have:(ff (xF c) c.exceptions.length != 0)=true:=by simpa using h3
           rw [this] at h;exact absurd h h3
 refine ⟨fun k hk=>zrt h2 hk,fun k hk=>zrt h3 hk,fun h4=> ?_⟩
 rw [decide_eq_true h4] at h1;cases h1
theorem zpJ {l:List Gt.LicenceRule} {k:Nat} (h:lF l k=0):isName (rAt l k).name=true∧(0<k→(rAt l (k - 1)).name<(rAt l k).name):=by
 unfold lF at h
 cases h1:isName (rAt l k).name with
 | false=>rw [h1] at h;cases h
 | true =>
 rw [h1] at h
 simp only [yA9,cond_false] at h
 refine ⟨rfl,fun h0=> ?_⟩
 cases h2:leN (rAt l k).name (rAt l (k - 1)).name with
 | true=>rw [h2,decide_eq_true h0] at h;cases h
 | false=>exact zlj h2
theorem zjH {c:Cat} (h:zf1 c=0):∀d i,i+d+1<c.licences.length→(rAt c.licences i).name<(rAt c.licences (i+d+1)).name
 | 0,i,hi=>(zpJ ((zif h).1 (i+1) hi)).2 (by omega)
 | d+1,i,hi=>yB9 (zjH h d i (by omega)) ((zpJ ((zif h).1 (i+(d+1)+1) hi)).2 (by omega))
theorem zq8 {c:Cat} (h:zf1 c=0) {i j:Nat} (hi:i<c.licences.length) (hj:j<c.licences.length) (he:(rAt c.licences i).name=(rAt c.licences j).name):i=j:=by
 rcases Nat.lt_trichotomy i j with hij | hij | hij
 ·have:=zjH h (j - i - 1) i (by omega)
  rw [show i+(j - i - 1)+1=j by omega,he] at this
  exact absurd this (yBd _)
 ·exact hij
 ·have:=zjH h (i - j - 1) j (by omega)
  rw [show j+(i - j - 1)+1=i by omega,he] at this
  exact absurd this (yBd _)
theorem zpz {c:Cat}:c.licences=(List.range c.licences.length).map (rAt c.licences):=by
 apply List.ext_getElem
 ·simp
 ·intro i h1 h2;simp [←zeo h1]
theorem zj4 {α β:Type} {f:α→Option β} {l:List α} {n:Nat} (hn:n<l.length) (h:∀j (hj:j<l.length),j≠n→f l[j]=none):l.filterMap f=(f l[n]).toList:=by
 induction l generalizing n with
 | nil=>simp at hn
 | cons a r ih =>
   cases n with
   | zero =>
     have hr:r.filterMap f=[]:=by
      rw [List.filterMap_eq_nil_iff]
      intro x hx
      obtain ⟨j,hj,rfl⟩:=yBs hx
      exact h (j+1) (by simpa using hj) (by omega)
     rw [yAC,hr]
     show (match f a with | none=>[] | some b=>[b])=_
     cases hf:f a<;>simp [hf]
   | succ n =>
     have h0:=h 0 (by simp) (by omega)
     simp at h0
     rw [yAC,h0]
     exact ih (by simpa using hn) fun j hj hjn=>h (j+1) (by simpa using hj) (by omega)
theorem znz {α β:Type} {f g:α→Option β}:∀{l:List α},(∀x∈l,f x=g x)→l.filterMap f=l.filterMap g
 | [],_=>rfl
 | a::r,h=>by rw [yAC,yAC,h a (by simp),znz fun x hx=>h x (by simp [hx])]
theorem zoV {c:Cat} (h:zf1 c=0) {e:Ex} {m:Nat} (hm:lIx c e.name=some m):zkk c e=(zlB c e m).filterMap (zmc c e):=by
 have hml:=zhW hm
 have hg:zdu c e.name=rAt c.licences m:=by unfold zdu;rw [hm]
 unfold zkk zlB
 rw [hm]
 simp only [yCg,cond_true]
 have key:∀i,i<c.licences.length→pick c e (rAt c.licences i)=bif decide (i=m)||laterR c e (rAt c.licences i) then zmc c e i else none:=by
  intro i hi
  have hn:((rAt c.licences i).name != (zdu c e.name).name)= !decide (i=m):=by
   rw [hg]
   by_cases him:i=m
   ·subst him;simp
   ·rw [decide_eq_false him];simpa using fun he=>him (zq8 h hi hml he)
  unfold pick zmc
  rw [hn]
  cases decide (i=m)<;>cases laterR c e (rAt c.licences i)<;>cases hw:(e.wth==[])<;>cases hasT (zfu c e.wth).for_ (rAt c.licences i).name<;>simp [bne,hw]
 cases hb:(!e.later||(zdu c e.name).family==[]) with
 | true =>
   have hl:∀r,laterR c e r=false:=by
    intro r;unfold laterR
    cases h1:e.later<;>cases h2:(zdu c e.name).family==[]<;>simp_all [bne]
   simp only [cond_true]
   rw [zj4 (n:=m) hml]
   ·rw [zeo hml,key m hml,decide_eq_true rfl]
    simp only [Bool.true_or,cond_true,yAC,List.filterMap_nil]
    cases zmc c e m<;>rfl
   ·intro j hj hjm
    rw [zeo hj,key j hj,hl,decide_eq_false hjm];rfl
 | false =>
   simp only [cond_false]
   have hfam:∀r,laterR c e r=zhY c e r:=by
    intro r;unfold laterR zhY
    simp only [yBc,Bool.not_eq_false'] at hb
    rw [hb.1,bne,hb.2];rfl
   have hself:zhY c e (rAt c.licences m)=true:=by unfold zhY;rw [hg];simp
   rw [List.filterMap_filter]
   conv=>lhs;rw [zpz (c:=c),List.filterMap_map]
   refine znz fun i hi=> ?_
   have hi':i<c.licences.length:=by simpa using hi
   show pick c e (rAt c.licences i)=_
   rw [key i hi',hfam]
   by_cases him:i=m
   ·subst him;rw [hself];simp
   ·rw [decide_eq_false him];cases zhY c e (rAt c.licences i)<;>simp
def tW (e:Ex):List UInt8:=(e.name++[32,87,73,84,72,32])++e.wth
def zj0 (c:Cat) (e:Ex):List (List UInt8) :=
 (bif (lIx c e.name).isSome then [] else [e.name])++(bif e.wth==[] then [] else bif (xIx c e.wth).isSome then (bif len (zkk c e)==0 then [tW e] else []) else [e.wth])
mutual
def zg2 (c:Cat):Ex→List (List UInt8)
 | .mk k nm la w ks=>if k≠1 then zkr c ks else zj0 c (.mk k nm la w ks)
def zkr (c:Cat):List Ex→List (List UInt8)
 | []=>[]
 | e::r=>zg2 c e++zkr c r
end
theorem zhq (c:Cat) (e:Ex):zg2 c e=if e.kind≠1 then zkr c e.kids else zj0 c e:=by cases e;simp only [zg2]
theorem zpH (c:Cat) (e:Ex):(zj0 c e).length≤2:=by
 unfold zj0
 cases (lIx c e.name).isSome<;>cases e.wth==[]<;>cases (xIx c e.wth).isSome<;>cases len (zkk c e)==0<;>simp
mutual
theorem zjl (c:Cat):∀e:Ex,(zg2 c e).length≤2*e.cnt
 | .mk k nm la w ks=>by
   simp only [zg2,Ex.cnt]
   split
   ·have:=zmI c ks;omega
   ·have:=zpH c (.mk k nm la w ks);omega
theorem zmI (c:Cat):∀l:List Ex,(zkr c l).length≤2*zf8 l
 | []=>by simp [zkr]
 | e::r=>by
   simp only [zkr,zf8,yAG]
   have:=zjl c e;have:=zmI c r;omega
end
theorem zky (c:Cat):∀(l:List Ex) (a:List (List UInt8)),l.foldl (fun a k=>a++zg2 c k) a=a++zkr c l
 | [],a=>by simp [zkr]
 | e::r,a=>by simp only [yAW,zkr];rw [zky c r,yAU]
theorem zi5 {e:Ex} (h:zcf e=0) (hk:e.kind=1):e.kids=[]∧e.name.length≤60∧e.wth.length≤60:=by
 obtain ⟨h1,_⟩:=zbW h
 obtain ⟨_,_,h4,_⟩:=zfN h1
 obtain ⟨h5,h6,h7⟩:=h4 hk
 refine ⟨h5,zaZ h6,?_⟩
 rcases h7 with h7 | h7
 ·rw [h7];simp
 ·exact zaZ h7
theorem L111 {c:Cat} (hc:SmallC c):∀(n:Nat) (e:Ex),e.lev+4≤n→zcf e=0→e.cnt≤200→m111 (zah n) c e=some (zg2 c e,()):=by
 intro n
 induction n with
 | zero=>intro e h;omega
 | succ n ih =>
   intro e hl hf hcn
   have hlim:lim=4294967296:=rfl
   have hkl:=zgD (e:=e)
   unfold m111
   rw [zhq]
   by_cases hk:e.kind=1
   ·have hb:(e.kind != 1)=false:=by simp [hk]
    obtain ⟨f1,f2,f3⟩:=zi5 hf hk
    rw [hb,if_neg (by simp [hk])]
    simp only [zab,zaj,Ex.eta,q108,L108 (zah n) hc.lics,zaa,q109,L109 (zah n) hc.excs,q150,L150 (by omega:3≤n) hc e]
    unfold zj0
    rw [zax (by simp;omega),zax (by simp;omega)]
    simp only [zaa]
    rw [zax (by simp;omega)]
    simp only [zaa]
    cases (lIx c e.name).isSome<;>cases he:e.wth==[]<;>cases (xIx c e.wth).isSome<;>simp only [yA9,yBE,zad,zab,zaj,cond_true,cond_false,yBe,yAO]<;>(try rw [zax (by simp;omega)])<;>(try rw [zax (by simp;omega)])<;>cases len (zkk c e)==0<;>rfl
   ·have hb:(e.kind != 1)=true:=by simpa using hk
    rw [hb,if_pos hk]
    simp only [zad]
    rw [show (([]:List (List UInt8)),(0:Int),())=((fun (k:Nat) (a:List (List UInt8))=>(a,(k:Int),())) 0 []) from rfl]
    rw [zbe (fun (k:Nat) (a:List (List UInt8))=>(a,(k:Int),())) e.kids (fun a k=>a++zg2 c k) (fun a=> .inl (a,())) (fun k a=>a.length+2*zf8 (e.kids.drop k)≤400) ?h1 ?h2 [] ?h3]
    case h1 =>
     intro k hk a ha
     have hmem:e.kids[k]∈e.kids:=yAl hk
     have hlk:=zdt hmem
     have hck:=zfY hmem
     have h29:=ih e.kids[k] (by omega) (zbX (zbW hf).2 hmem) (by omega)
     have hul:=zjl c e.kids[k]
     rw [zdd hk] at ha
     simp only [zf8] at ha
     simp only [zam,hk,decide_true,zad,zak hk,zaa,Ex.eta,q111,h29,zae hk (by omega:e.kids.length≤9223372036854775807)]
     rw [zax (by omega)]
     exact ⟨rfl,by simp;omega⟩
    case h2=>intro a _;simp [len,zab]
    case h3=>have:e.cnt=1+zf8 e.kids:=by cases e;simp only [Ex.cnt]
             simp;omega
    rw [zky];rfl
end Pe.Tryz
end
section
/- The fourth law in plain, last part. -/
set_option maxRecDepth 100000
namespace Pe.Tryz
open Go Go.Proofs Pe LicSpec
def zlK (l:List (List UInt8)) (s:List UInt8):List (List UInt8):=bif hasT l s then l else l++[s]
theorem znV (l:List (List UInt8)) (s:List UInt8):(zlK l s).length≤l.length+1:=by
 unfold zlK;cases hasT l s<;>simp
theorem znW:∀(r l:List (List UInt8)),(r.foldl zlK l).length≤l.length+r.length
 | [],l=>by simp
 | s::r,l=>by
   have h1:=znW r (zlK l s)
   have h2:=znV l s
   simp only [yAW,yAt];omega
theorem L115 {n:Nat} (hn:1≤n) {l:List (List UInt8)} (hl:l.length≤1000000) (s:List UInt8):m115 (zah n) l s=some (.inl (zlK l s,())):=by
 obtain ⟨n,rfl⟩:∃k,n=k+1:=⟨n - 1,by omega⟩
 unfold m115 zlK
 rw [q88,L88 (zah n) (by omega)]
 simp only [zaa]
 rw [zax (by have:lim=4294967296:=rfl;simp;omega)]
 cases hasT l s<;>rfl
theorem ziz (c:Cat):∀(l:List Ex) (a:List (List UInt8)),l.foldl (fun a k=>(zg2 c k).foldl zlK a) a=(zkr c l).foldl zlK a
 | [],a=>by simp [zkr]
 | e::r,a=>by simp only [yAW,zkr];rw [ziz c r,List.foldl_append]
theorem L78 {c:Cat} (hc:SmallC c) (hcat:zf1 c=0):∀(n:Nat) (e:Ex) (l:List (List UInt8)),e.lev+4≤n→zcf e=0→e.cnt≤200→l.length+2*e.cnt≤1000→m78 (zah n) c e l=some (.inl ((zg2 c e).foldl zlK l,())):=by
 intro n
 induction n with
 | zero=>intro e l h;omega
 | succ n ih =>
   intro e l hl hf hcn hll
   have hlim:lim=4294967296:=rfl
   have hkl:=zgD (e:=e)
   unfold m78
   rw [zhq]
   by_cases hk:e.kind=1
   ·have hb:(e.kind != 1)=false:=by simp [hk]
    obtain ⟨f1,f2,f3⟩:=zi5 hf hk
    have hcp:=e.cnt_pos
    rw [hb,if_neg (by simp [hk])]
    simp only [zab,zaj,Ex.eta,q105,L105 (zah n) hc.lics,zpN,zaa,q106,L106 (zah n) hc.excs,ziZ,q115,L115 (by omega:1≤n) (by omega:l.length≤1000000),za4]
    rw [zax (by simp;omega:e.name.length+([32,87,73,84,72,32]:List UInt8).length≤lim)]
    simp only [zaa]
    rw [zax (by simp;omega)]
    simp only [zaa]
    unfold zj0
    have ha:=znV l e.name
    cases hm:lIx c e.name with
    | none =>
      have hcan:zkk c e=[]:=by unfold zkk;rw [hm];rfl
      simp only [Option.isSome_none,yBE,zad,zaj,cond_false,L115 (by omega:1≤n) (by omega:(zlK l e.name).length≤1000000),za4,zaa,hcan]
      cases e.wth==[] with
      | true=>rfl
      | false=>cases (xIx c e.wth)<;>rfl
    | some m =>
      simp only [yCg,yA9,zab,zaj,cond_true,L115 (by omega:1≤n) (by omega:l.length≤1000000),za4]
      cases hw:e.wth==[] with
      | true=>rfl
      | false =>
        cases hx:xIx c e.wth with
        | none=>rfl
        | some j =>
          rw [q116,L116 (by omega:3≤n) hc hm (.inr (by rw [hx];rfl)),←zoV hcat hm]
          simp only [zaa,Option.isNone_some,yCg,zab,cond_true,cond_false]
          cases len (zkk c e)==0<;>rfl
   ·have hb:(e.kind != 1)=true:=by simpa using hk
    rw [hb,if_pos hk]
    simp only [zad]
    rw [show (l,(0:Int),())=((fun (k:Nat) (a:List (List UInt8))=>(a,(k:Int),())) 0 l) from rfl]
    rw [zbe (fun (k:Nat) (a:List (List UInt8))=>(a,(k:Int),())) e.kids (fun a k=>(zg2 c k).foldl zlK a) (fun a=> .inl (a,())) (fun k a=>a.length+2*zf8 (e.kids.drop k)≤1000) ?h1 ?h2 l ?h3]
    case h1 =>
     intro k hk a ha
     have hmem:e.kids[k]∈e.kids:=yAl hk
     have hlk:=zdt hmem
     have hck:=zfY hmem
     rw [zdd hk] at ha
     simp only [zf8] at ha
     have h32:=ih e.kids[k] a (by omega) (zbX (zbW hf).2 hmem) (by omega) (by omega)
     have hul:=zjl c e.kids[k]
     have hal:=znW (zg2 c e.kids[k]) a
     simp only [zam,hk,decide_true,zad,zak hk,zaa,q78,h32,za4,zae hk (by omega:e.kids.length≤9223372036854775807)]
     exact ⟨trivial,by omega⟩
    case h2=>intro a _;simp [len,zab]
    case h3=>have:e.cnt=1+zf8 e.kids:=by cases e;simp only [Ex.cnt]
             simp;omega
    rw [ziz];rfl
theorem L110 {n:Nat} {c:Cat} (hc:SmallC c) {e:Ex} (hs:Small e) (hn:e.lev+10≤n):m110 (zah n) c e=some (bif zf1 c != 0 then zf1 c else chk e,()):=by
 obtain ⟨n,rfl⟩:∃k,n=k+1:=⟨n - 1,by omega⟩
 unfold m110
 rw [q103,L103 (by omega) hc,Ex.eta,q18,L18 n e (by omega) hs]
 simp only [zaa]
 cases zf1 c != 0<;>rfl
theorem L77 {n:Nat} {c:Cat} (hc:SmallC c) {e:Ex} (hs:Small e) (hb:e.lev≤100000000) (hn:e.lev+10≤n):m77 (zah n) c e=some (bif zf1 c != 0 then zf1 c else chk e,()):=by
 obtain ⟨n,rfl⟩:∃k,n=k+1:=⟨n - 1,by omega⟩
 unfold m77
 rw [q104,L104 (by omega) hc,Ex.eta,q19,L19 n e (by omega) hb hs]
 simp only [zaa]
 cases zf1 c != 0<;>rfl
theorem zcy {a b:Int} (h:(a != b)=false):a=b:=by simpa using h
theorem zoL (s:List UInt8):(s != s)=false:=by simp
theorem L21 (o:Orc Sx) {l:List (List UInt8)} (hl:l.length≤1000000):m21 o l l=some (true,()):=by
 unfold m21
 rw [show (len l != len l)=false by simp]
 simp only [zab]
 rw [zaO l (fun _=>false) (fun _=> .inr (false,())) (.inl ()) ?h1 ?h2]
 case h1 =>
  intro k hk
  simp only [zam,hk,decide_true,zad,zak hk,zaa,zae hk (by omega:l.length≤9223372036854775807),zoL,zab]
  rfl
 case h2=>simp [len,zab]
 have:l.findIdx? (fun _=>false)=none:=by rw [yBy];simp
 rw [this];rfl
end Pe.Tryz
end
