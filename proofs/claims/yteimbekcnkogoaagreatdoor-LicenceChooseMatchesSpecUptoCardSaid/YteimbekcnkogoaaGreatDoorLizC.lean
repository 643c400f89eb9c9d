/- PROVED HERE: a part of the seat's proofs; see the text that holds the claim's theorem. -/
import Derived.Test.YteimbekcnkogoaaGreatDoorNm
import Derived.Test.YteimbekcnkogoaaGreatDoorLizB
import Derived.Test.YteimbekcnkogoaaGreatDoorPeE
section
/- The plain laws of what the licence functions compute: aids, and the functions on bytes and names. -/
set_option maxRecDepth 100000
namespace Pe
end Pe
namespace LicSpec
theorem Ex.eta (e:Ex):Ex.mk e.kind e.name e.later e.wth e.kids=e:=by cases e;rfl
end LicSpec
namespace Pe.Tryz
open Go Go.Proofs Pe LicSpec
theorem zlo (c:UInt8):LicSpec.isRun c=((decide (97≤(c.toNat:Int))&&decide ((c.toNat:Int)≤122))||(decide (65≤(c.toNat:Int))&&decide ((c.toNat:Int)≤90))||(decide (48≤(c.toNat:Int))&&decide ((c.toNat:Int)≤57))||(c.toNat:Int)==46||(c.toNat:Int)==45):=by
 have h:∀n:Nat,n<256→(UInt8.ofNat n).toNat=n:=fun n hn=>by simp [UInt8.toNat_ofNat'];omega
 have h2:∀n:Nat,n<256→LicSpec.isRun (UInt8.ofNat n)=((decide (97≤(n:Int))&&decide ((n:Int)≤122))||(decide (65≤(n:Int))&&decide ((n:Int)≤90))||(decide (48≤(n:Int))&&decide ((n:Int)≤57))||(n:Int)==46||(n:Int)==45):=by decide+revert
 have h3:=h2 c.toNat c.toNat_lt
 simpa using h3
theorem L134 (o:Orc Sx) (c:UInt8):m134 o (c.toNat:Int)=some (LicSpec.isRun c,()):=by
 unfold m134
 simp only [zaI,zaa,zcn,zhl,zlo,Bool.or_assoc]
theorem L171 (o:Orc Sx) (c:UInt8):m171 o (c.toNat:Int)=some (LicSpec.isRun c,()):=by
 unfold m171
 simp only [zaI,zaa,zcn,zhl,zlo,Bool.or_assoc]
theorem L133 (o:Orc Sx) (s:List UInt8):m133 o s=some (LicSpec.isWord s,()):=by
 unfold m133 LicSpec.isWord zfc sOR zbL ztp sor zn6
 simp only [zaI]
 cases s==[65,78,68]<;>cases s==[79,82]<;>cases s==[87,73,84,72]<;>cases s==[97,110,100]<;>cases s==[111,114]<;>cases s==[119,105,116,104]<;>rfl
theorem L170 (o:Orc Sx) (s:List UInt8):m170 o s=some (LicSpec.wordR s,()):=by
 unfold m170 LicSpec.wordR zfc sOR zbL ztp sor zn6
 by_cases h1:s=[65,78,68]
 ·subst h1;rfl
 by_cases h2:s=[97,110,100]
 ·subst h2;rfl
 by_cases h3:s=[79,82]
 ·subst h3;rfl
 by_cases h4:s=[111,114]
 ·subst h4;rfl
 by_cases h5:s=[87,73,84,72]
 ·subst h5;rfl
 by_cases h6:s=[119,105,116,104]
 ·subst h6;rfl
 have e:∀t:List UInt8,s≠t→(s==t)=false:=fun t ht=>by simpa using ht
 simp only [e _ h1,e _ h2,e _ h3,e _ h4,e _ h5,e _ h6,zab,zaj,h1,h2,h3,h4,h5,h6,or_self,if_false]
theorem znG {s:List UInt8} {k:Nat} (h:k<s.length):(s.drop k).all LicSpec.isRun=(LicSpec.isRun s[k]&&(s.drop (k+1)).all LicSpec.isRun):=by
 rw [yAr h];rfl
theorem L100 (n:Nat) (s:List UInt8) (hs:s.length≤1000000000):m100 (zah (n+1)) s=some (LicSpec.isName s,()):=by
 unfold m100
 have hloop:zan (R:=Unit⊕(Bool×Unit)) (fun (t8:Int×Unit)=>(br (decide (t8.1<(len s))) (ob (at? s t8.1) fun c9=>(ob (α:=Bool×Unit) ((zah (n+1)).d 134 [.int .u8 (UInt8.toNat c9:Int)] [.bool]) fun (r10:Bool×Unit)=>(br (!r10.1) (some (.inr (.inr (false,())))) (some (.inl ((IntKind.i64.wrap (t8.1+1)),())))))) (some (.inr (.inl (())))))) (((0:Nat):Int),())=some (if s.all LicSpec.isRun then .inl () else .inr (false,())):=by
  have:=zjQ (f:=fun (t8:Int×Unit)=>(br (decide (t8.1<(len s))) (ob (at? s t8.1) fun c9=>(ob (α:=Bool×Unit) ((zah (n+1)).d 134 [.int .u8 (UInt8.toNat c9:Int)] [.bool]) fun (r10:Bool×Unit)=>(br (!r10.1) (some (.inr (.inr (false,())))) (some (.inl ((IntKind.i64.wrap (t8.1+1)),())))))) (some (.inr (.inl (())))))) s.length (fun k=>if (s.drop k).all LicSpec.isRun then (.inl ():Unit⊕(Bool×Unit)) else .inr (false,())) (fun k hk=> ?_) 0 (yAD _)
  ·simpa using this
  ·by_cases hlt:k<s.length
   ·simp only [zam,hlt,decide_true,zad,zak hlt,zaa,q134,L134]
    cases hr:LicSpec.isRun s[k] with
    | true =>
      left
      simp only [yA9,zab]
      exact ⟨by first | trivial | exact hlt,by rw [zae hlt (by omega)],by rw [znG hlt,hr];rfl⟩
    | false =>
      right
      simp only [yBE,zad]
      rw [znG hlt,hr];rfl
   ·right
    simp only [zam,hlt,decide_false,zab]
    rw [yAx (by omega)];rfl
 rw [show ((0:Int),())=(((0:Nat):Int),()) from rfl,hloop]
 simp only [zaI,zaa,zcn]
 unfold LicSpec.isName
 cases s with
 | nil=>rfl
 | cons c r =>
   have h0:at? (c::r) 0=some c:=rfl
   have e46:(((c.toNat:Int))==46)=(some c==some 46):=by
    have:((c.toNat:Int)=46)↔c=46:=⟨fun h=>UInt8.toNat.inj (by simpa using (by omega:c.toNat=46)),fun h=>by subst h;rfl⟩
    by_cases h:c=46
    ·subst h;rfl
    ·have h1:¬(c.toNat:Int)=46:=fun h'=>h (this.1 h')
     rw [beq_eq_false_iff_ne.2 h1,beq_eq_false_iff_ne.2 (by simpa using h)]
   have e45:(((c.toNat:Int))==45)=(some c==some 45):=by
    have:((c.toNat:Int)=45)↔c=45:=⟨fun h=>UInt8.toNat.inj (by simpa using (by omega:c.toNat=45)),fun h=>by subst h;rfl⟩
    by_cases h:c=45
    ·subst h;rfl
    ·have h1:¬(c.toNat:Int)=45:=fun h'=>h (this.1 h')
     rw [beq_eq_false_iff_ne.2 h1,beq_eq_false_iff_ne.2 (by simpa using h)]
   have e60:decide (60<len (c::r))=decide (60<(c::r).length):=by unfold len;exact decide_eq_decide.2 (by omega)
   simp only [h0,zaa,q133,L133,e46,e45,e60,List.isEmpty_cons,List.head?_cons,yCl,show ((c::r)==([]:List UInt8))=false from rfl,zaI,zcn]
   cases hA:decide (60<(c::r).length) with
   | true=>simp [zp9,zaz]
   | false =>
     cases hB:(some c==some 46) with
     | true=>simp [zp9,zaz]
     | false =>
       cases hC:(some c==some 45) with
       | true=>simp [zp9,zaz]
       | false =>
         cases hD:LicSpec.isWord (c::r) with
         | true=>simp [zp9,zaz]
         | false =>
           cases hE:(c::r).all LicSpec.isRun<;>simp [zp9,zaz]
end Pe.Tryz
end
section
/- The plain laws of the token reader. -/
set_option maxRecDepth 100000
namespace Pe.Tryz
open Go Go.Proofs Pe LicSpec
theorem q172 (n:Nat) (s:List UInt8): @Eq (Option (List UInt8×Unit)) ((zah (n+1)).d 172 [.str s] [.str]) (bif Nat.ble s.length 1000000&&s.all (fun b=>Nat.blt b.toNat 128) then some (Lib.toUpperA s,()) else none):=by kernel_rfl
theorem q102 (n:Nat) (s:List UInt8): @Eq (Option (Ex×Gt.Licence_fault×Unit)) ((zah (n+1)).d 102 [.str s] [.st 4,.st 7]) (match zmi (zah n) s with
 | some (.inl c)=>some c
 | some (.inr p)=>some (LicSpec.Ex.zero,⟨p.1,p.2.1⟩,())
 | none=>none):=by kernel_rfl
theorem q89 (n:Nat) (l:List (List UInt8)) (s:List UInt8): @Eq (Option (List UInt8×Unit)) ((zah (n+1)).d 89 [.sl .str l,.str s] [.str]) (bif Nat.ble l.length 1000000&&Nat.ble (Lib.join l s).length 100000000 then some (Lib.join l s,()) else none):=by kernel_rfl
theorem zn1 {s:List UInt8} (h:LicSpec.isWord s=true):s.length≤4∧s.all (fun b=>Nat.blt b.toNat 128)=true∧Lib.toUpperA s=LicSpec.wordR s:=by
 unfold LicSpec.isWord at h
 simp only [yBA,beq_iff_eq] at h
 rcases h with ((((rfl | rfl) | rfl) | rfl) | rfl) | rfl<;>exact ⟨by decide,by decide,by decide⟩
theorem L172 (n:Nat) {s:List UInt8} (h:LicSpec.isWord s=true): @Eq (Option (List UInt8×Unit)) ((zah (n+1)).d 172 [.str s] [.str]) (some (LicSpec.wordR s,())):=by
 obtain ⟨h1,h2,h3⟩:=zn1 h
 rw [q172,h2,h3]
 have:Nat.ble s.length 1000000=true:=by rw [yAR];omega
 rw [this];rfl
theorem zgH (c d:UInt8):(((c.toNat:Int))==(d.toNat:Int))=(c==d):=by
 by_cases h:c=d
 ·subst h;simp
 ·have h1:¬(c.toNat:Int)=(d.toNat:Int):=fun h'=>h (UInt8.toNat.inj (by omega))
  rw [beq_eq_false_iff_ne.2 h1,beq_eq_false_iff_ne.2 h]
theorem zqe (c:UInt8):LicSpec.isBlank c=((((c.toNat:Int))==32||((c.toNat:Int))==9)||((c.toNat:Int))==10):=by
 have h1:=zgH c 32
 have h2:=zgH c 9
 have h3:=zgH c 10
 unfold LicSpec.isBlank
 rw [←h1,←h2,←h3];rfl
theorem zqP {S:List UInt8} {k:Nat} (h:k<S.length):LicSpec.skipB (S.drop k)=if LicSpec.isBlank S[k] then LicSpec.skipB (S.drop (k+1))+1 else 0:=by
 rw [yAr h];rfl
theorem zsv {S:List UInt8} {k:Nat} (h:k<S.length):LicSpec.runL (S.drop k)=if LicSpec.isRun S[k] then LicSpec.runL (S.drop (k+1))+1 else 0:=by
 rw [yAr h];rfl
theorem zmR (r:List UInt8):LicSpec.skipB r≤r.length:=by
 induction r with
 | nil=>simp [LicSpec.skipB]
 | cons c r ih=>unfold LicSpec.skipB;split<;>simp<;>omega
def toR (S:List UInt8) (s:PS):Gt.Rdr:=⟨S,s.fin,⟨s.kind,s.text,s.at_,s.tight⟩,s.opn⟩
def zcz {α β:Type} (S:List UInt8) (inj:α→β):Res α→((Gt.Rdr×Unit)×β)⊕(Int×Int×Unit)
 | .ok a s=> .inl ((toR S s,()),inj a)
 | .err a c=> .inr ((a:Int),c,())
theorem zt4 (S:List UInt8) (k:Nat):((k:Int)==len S)=decide (k=S.length):=by
 unfold len
 by_cases h:k=S.length
 ·subst h;simp
 ·have:¬(k:Int)=(S.length:Int):=by omega
  rw [beq_eq_false_iff_ne.2 this];simp [h]
theorem L139 (n:Nat) (a c:Int): @Eq (Option ((Unit×Unit)⊕(Int×Int×Unit))) ((zah (n+1)).e 139 [.int .i64 a,.int .i64 c] [] [] () [] [.int .i64,.int .i64] 123) (some (.inr (a,c,()))):=by
 rw [q139];rfl
set_option maxHeartbeats 1000000 in
theorem L137 (n:Nat) (S:List UInt8) (s:PS) (hS:S.length≤1000000) (hf:s.fin≤S.length) :
  m137 (zah (n+2)) (toR S s,())=some (zcz S (fun _=>()) (zb2 S s)):=by
 unfold m137
 simp only [toR]
 rw [zjQ (R:=(Int×Unit)⊕(((Gt.Rdr×Unit)×Unit)⊕(Int×Int×Unit))) S.length (fun k=> .inl (((k+LicSpec.skipB (S.drop k):Nat):Int),())) ?h1 s.fin hf]
 case h1 =>
  intro k hk
  by_cases hlt:k<S.length
  ·simp only [zam,hlt,decide_true,zak hlt,zaa,zaI,zcn,←zqe]
   rw [zqP hlt]
   cases hb:LicSpec.isBlank S[k] with
   | true=>left;exact ⟨trivial,by rw [zae hlt (by omega)];rfl,by simp;omega⟩
   | false=>right;simp
  ·right
   simp only [zam,hlt,decide_false,zab,zaa]
   rw [yAx (by omega)];rfl
 simp only [zaj]
 have hsk:=zmR (S.drop s.fin)
 rw [yA2] at hsk
 unfold zb2
 generalize ha:s.fin+LicSpec.skipB (S.drop s.fin)=a
 have hale:a≤S.length:=by omega
 have htight:(bif ((a:Int)==(s.fin:Int)) then decide (0<(a:Int)) else false)=(decide (a=s.fin)&&decide (0<a)):=by
  rw [zhl]
  congr 1
  ·by_cases h:a=s.fin
   ·rw [h];simp
   ·have:¬(a:Int)=(s.fin:Int):=by omega
    rw [beq_eq_false_iff_ne.2 this];simp [h]
  ·exact decide_eq_decide.2 (by omega)
 simp only [zaI,htight,zaa,zt4]
 by_cases hend:a=S.length
 ·have hd:S.drop a=[]:=yAx (by omega)
  simp only [hend,decide_true,zad]
  rw [←hend,hd]
  simp [zcH,zcz,toR]
 ·have hlt:a<S.length:=by omega
  simp only [hend,decide_false,zab]
  rw [show ((0:Int),())=(((0:Nat):Int),()) from rfl]
  rw [zjQ (R:=(Int×Unit)⊕(((Gt.Rdr×Unit)×Unit)⊕(Int×Int×Unit))) (S.length - a) (fun k=> .inl (((k+LicSpec.runL (S.drop (a+k)):Nat):Int),())) ?h2 0 (by omega)]
  case h2 =>
   intro k hk
   have hw:IntKind.i64.wrap ((a:Int)+(k:Int))=((a+k:Nat):Int):=by rw [za5 (by omega) (by omega)];rfl
   simp only [hw]
   by_cases hlt2:a+k<S.length
   ·simp only [zam,hlt2,decide_true,zad,zak hlt2,zaa,q134,L134]
    rw [zsv hlt2]
    cases hb:LicSpec.isRun S[a+k] with
    | true=>left;exact ⟨by omega,by rw [zae (n:=S.length) (by omega) (by omega)];rfl,by simp [yBK];omega⟩
    | false=>right;simp
   ·right
    simp only [zam,hlt2,decide_false,zab,zaa]
    rw [yAx (by omega)];rfl
  simp only [yBG,yA0]
  simp only [zaj]
  have hrl:=zjw (S.drop a)
  rw [yA2] at hrl
  obtain ⟨c,r,hcr⟩:∃c r,S.drop a=c::r:=⟨_,_,yAr hlt⟩
  have hc:S[a]=c:=by
   have h:=yAr hlt
   rw [hcr] at h
   injection h with h1 _
   exact h1.symm
  generalize hrn:LicSpec.runL (S.drop a)=m at hrl ⊢
  unfold zcH
  rw [hcr]
  simp only
  rw [←hcr,hrn]
  by_cases hm:m=0
  ·subst hm
   simp only [zak hlt,zaa,hc,show (((0:Nat):Int)==0)=true from rfl,zad,if_true,L139,zbr,zb4]
   have hw1:IntKind.i64.wrap ((a:Int)+1)=((a+1:Nat):Int):=by rw [za5 (by omega) (by omega)];rfl
   have b43:((c.toNat:Int)==43)=(c==43):=zgH c 43
   have b40:((c.toNat:Int)==40)=(c==40):=zgH c 40
   have b41:((c.toNat:Int)==41)=(c==41):=zgH c 41
   rw [b43,b40,b41]
   by_cases h43:c=43
   ·subst h43
    simp [zad,zaj,hw1,zcz,toR]
   ·by_cases h40:c=40
    ·subst h40
     simp [zad,zab,zaj,hw1,zcz,toR]
    ·by_cases h41:c=41
     ·subst h41
      simp [zad,zab,zaj,hw1,zcz,toR]
     ·simp [beq_eq_false_iff_ne.2 h43,beq_eq_false_iff_ne.2 h40,beq_eq_false_iff_ne.2 h41,zab,zaG,zcz,h43,h40,h41]
  ·have hm0:(((m:Nat):Int)==0)=false:=by rw [beq_eq_false_iff_ne];omega
   have hw:IntKind.i64.wrap ((a:Int)+(m:Int))=((a+m:Nat):Int):=by rw [za5 (by omega) (by omega)];rfl
   simp only [hm0,zab,zb4,hw,zc4 (show a≤a+m by omega) (show a+m≤S.length by omega),yA7,zaa,zaj,q133,L133,hm,if_false]
   have hlen:((S.drop a).take m).length≤1000000000:=by rw [yA8,yA2];omega
   cases hw1:LicSpec.isWord ((S.drop a).take m) with
   | true =>
     simp only [zad,L172 (n+1) hw1,zaa,zaj,if_true,hw]
     simp [zcz,toR]
   | false =>
     simp only [zab,q100,L100 n _ hlen,zaa]
     cases hn1:LicSpec.isName ((S.drop a).take m) with
     | true=>simp [zab,zaj,hw,zcz,toR]
     | false=>simp [zad,L139,zbr,zaG,zcz]
end Pe.Tryz
end
section
/- The plain laws of the token reader: expressions. -/
set_option maxRecDepth 100000
namespace Pe.Tryz
open Go Go.Proofs Pe LicSpec
theorem L41e (n:Nat) (S:List UInt8) (s:PS) (hS:S.length≤1000000) (hf:s.fin≤S.length) :
  @Eq (Option (((Gt.Rdr×Unit)×Unit)⊕(Int×Int×Unit))) ((zah (n+3)).e 137 [.ptr 0 0] [162] [.st 9] ((toR S s,()):Gt.Rdr×Unit) [] [.int .i64,.int .i64] 123) (some (zcz S (fun _=>()) (zb2 S s))):=by
 rw [q137,L137 n S s hS hf]
theorem tok_n {r:List UInt8} {k:Int} {t:List UInt8} {n:Nat} (h:zcH r=some (k,t,n)):n≤r.length∧(k=0∨0<n):=by
 unfold zcH at h
 split at h
 ·cases h;exact ⟨by simp,.inl rfl⟩
 ·rename_i c r'
  simp only at h
  split at h
  ·split at h
   ·cases h;exact ⟨by simp,.inr (by decide)⟩
   ·split at h
    ·cases h;exact ⟨by simp,.inr (by decide)⟩
    ·split at h
     ·cases h;exact ⟨by simp,.inr (by decide)⟩
     ·cases h
  ·rename_i h0
   have hle:=zjw (c::r')
   split at h
   ·cases h;exact ⟨hle,.inr (by omega)⟩
   ·split at h
    ·cases h;exact ⟨hle,.inr (by omega)⟩
    ·cases h
theorem zdj {S:List UInt8} {s s':PS} {u:Unit} (h:zb2 S s= .ok u s') (hf:s.fin≤S.length):s'.fin≤S.length∧s.fin≤s'.fin∧(s'.kind≠0→s.fin<s'.fin)∧s'.opn=s.opn:=by
 unfold zb2 at h
 simp only at h
 have hsk:=zmR (S.drop s.fin)
 rw [yA2] at hsk
 split at h
 ·cases h
 ·rename_i k t n htok
  obtain ⟨h1,h2⟩:=tok_n htok
  rw [yA2] at h1
  cases h
  simp only
  by_cases hk:k=0
  ·subst hk;simp;omega
  ·rw [if_neg hk]
   rcases h2 with h2 | h2
   ·exact absurd h2 hk
   ·exact ⟨by omega,by omega,fun _=>by omega,trivial⟩
theorem L203 (n:Nat) (S:List UInt8) (s:PS) (w:List UInt8) (hS:S.length≤1000000) (hf:s.fin≤S.length) :
  @Eq (Option (((Gt.Rdr×Unit)×(Bool×Unit))⊕(Int×Int×Unit))) ((zah (n+4)).e 203 [.ptr 0 0,.str w] [162] [.st 9] ((toR S s,()):Gt.Rdr×Unit) [.bool] [.int .i64,.int .i64] 123) (some (zcz S (fun b=>(b,())) (pIs S w s))):=by
 rw [q203]
 unfold m203 pIs
 simp only [L41e n S s hS hf]
 by_cases hk:s.kind=2
 ·by_cases ht:s.text=w
  ·simp only [hk,ht,and_self,if_true]
   have e1:(toR S s).now.kind=2:=hk
   have e2:(toR S s).now.text=w:=ht
   simp only [e1,e2,show ((2:Int) != 2)=false from rfl,bne_self_eq_false,zab,zaa]
   cases hp:zb2 S s with
   | ok u s'=>simp [zcz,za4]
   | err a c=>simp [zcz,zbr]
  ·have e1:(toR S s).now.kind=2:=hk
   have e2:((toR S s).now.text != w)=true:=by simpa [toR] using ht
   simp only [e1,e2,show ((2:Int) != 2)=false from rfl,zab,zad,zaa,hk,ht,and_false,if_false]
   simp [zcz]
 ·have e1:((toR S s).now.kind != 2)=true:=by simpa [toR] using hk
  simp only [e1,zad,zaa,hk,false_and,if_false]
  simp [zcz]
theorem L221 (n:Nat) (S:List UInt8) (s:PS) (hS:S.length≤1000000) (hf:s.fin≤S.length) :
  @Eq (Option (((Gt.Rdr×Unit)×(List UInt8×Unit))⊕(Int×Int×Unit))) ((zah (n+4)).e 221 [.ptr 0 0] [162] [.st 9] ((toR S s,()):Gt.Rdr×Unit) [.str] [.int .i64,.int .i64] 123) (some (zcz S (fun b=>(b,())) (zdr S s))):=by
 rw [q221]
 unfold m221 zdr
 simp only [L41e n S s hS hf]
 by_cases hk:s.kind=1
 ·have e1:(toR S s).now.kind=1:=hk
  simp only [e1,show ((1:Int) != 1)=false from rfl,zab,zaj,hk,ne_eq,not_true_eq_false,if_false]
  cases hp:zb2 S s with
  | ok u s'=>simp [zcz,za4,toR]
  | err a c=>simp [zcz,zbr]
 ·have e1:((toR S s).now.kind != 1)=true:=by simpa [toR] using hk
  simp only [e1,zad,L139,zbr,zaG,hk,ne_eq,not_false_eq_true,if_true]
  simp [zcz,toR]
end Pe.Tryz
end
section
/- The plain laws of the token reader: rows of expressions, and all of a text. -/
set_option maxRecDepth 100000
namespace Pe.Tryz
open Go Go.Proofs Pe LicSpec
abbrev RTup:=List UInt8×Int×Int×List UInt8×Int×Bool×Int×Int×List UInt8×Bool×List UInt8×List Ex×Unit
noncomputable def zrT (orc:Orc Sx) (f:FuncId) (w:List UInt8):RTup→Option (RTup⊕(RTup⊕(((Gt.Rdr×Unit)×(Ex×Unit))⊕(Int×Int×Unit)))):=(fun (t4:List UInt8×Int×Int×List UInt8×Int×Bool×Int×Int×List UInt8×Bool×List UInt8×List (LicSpec.Ex)×Unit)=>(oc (α:=((Gt.Rdr×Unit)×(Bool×Unit))) (β:=Int×Int×Unit) (orc.e 203 [.ptr 0 0,.str w] [162] [(.st 9)] (((Gt.Rdr.mk t4.1 t4.2.1 (Gt.Tok.mk t4.2.2.1 t4.2.2.2.1 t4.2.2.2.2.1 t4.2.2.2.2.2.1) t4.2.2.2.2.2.2.1),()):Gt.Rdr×Unit) [.bool] [(.int .i64),(.int .i64)] 123) (fun (r5:((Gt.Rdr×Unit)×(Bool×Unit)))=>(br r5.2.1 (same (oc (α:=((Gt.Rdr×Unit)×(LicSpec.Ex×Unit))) (β:=Int×Int×Unit) (orc.e f [.ptr 0 0] [162] [(.st 9)] ((r5.1.1,()):Gt.Rdr×Unit) [(.st 4)] [(.int .i64),(.int .i64)] 123) (fun (r6:((Gt.Rdr×Unit)×(LicSpec.Ex×Unit)))=>(ob (zaS t4.2.2.2.2.2.2.2.2.2.2.2.1 [r6.2.1]) fun l7=>(some (.inl ((Gt.Rdr.s r6.1.1),(Gt.Rdr.end_ r6.1.1),(Gt.Tok.kind (Gt.Rdr.now r6.1.1)),(Gt.Tok.text (Gt.Rdr.now r6.1.1)),(Gt.Tok.at_ (Gt.Rdr.now r6.1.1)),(Gt.Tok.tight (Gt.Rdr.now r6.1.1)),(Gt.Rdr.open_ r6.1.1),t4.2.2.2.2.2.2.2.1,t4.2.2.2.2.2.2.2.2.1,t4.2.2.2.2.2.2.2.2.2.1,t4.2.2.2.2.2.2.2.2.2.2.1,l7,()))))) fun (p8:Int×Int×Unit)=>(some (.inr (.inr (.inr (p8.1,p8.2.1,())))))) (oc (α:=((Gt.Rdr×Unit)×(LicSpec.Ex×Unit))) (β:=Int×Int×Unit) (orc.e f [.ptr 0 0] [162] [(.st 9)] ((r5.1.1,()):Gt.Rdr×Unit) [(.st 4)] [(.int .i64),(.int .i64)] 123) (fun (r9:((Gt.Rdr×Unit)×(LicSpec.Ex×Unit)))=>(same (ob (zaS t4.2.2.2.2.2.2.2.2.2.2.2.1 [r9.2.1]) fun l10=>(some (.inl ((Gt.Rdr.s r9.1.1),(Gt.Rdr.end_ r9.1.1),(Gt.Tok.kind (Gt.Rdr.now r9.1.1)),(Gt.Tok.text (Gt.Rdr.now r9.1.1)),(Gt.Tok.at_ (Gt.Rdr.now r9.1.1)),(Gt.Tok.tight (Gt.Rdr.now r9.1.1)),(Gt.Rdr.open_ r9.1.1),t4.2.2.2.2.2.2.2.1,t4.2.2.2.2.2.2.2.2.1,t4.2.2.2.2.2.2.2.2.2.1,t4.2.2.2.2.2.2.2.2.2.2.1,l10,())))) (ob (zaS t4.2.2.2.2.2.2.2.2.2.2.2.1 [r9.2.1]) fun l11=>(some (.inl ((Gt.Rdr.s r9.1.1),(Gt.Rdr.end_ r9.1.1),(Gt.Tok.kind (Gt.Rdr.now r9.1.1)),(Gt.Tok.text (Gt.Rdr.now r9.1.1)),(Gt.Tok.at_ (Gt.Rdr.now r9.1.1)),(Gt.Tok.tight (Gt.Rdr.now r9.1.1)),(Gt.Rdr.open_ r9.1.1),t4.2.2.2.2.2.2.2.1,t4.2.2.2.2.2.2.2.2.1,t4.2.2.2.2.2.2.2.2.2.1,t4.2.2.2.2.2.2.2.2.2.2.1,l11,())))))) fun (p12:Int×Int×Unit)=>(some (.inr (.inr (.inr (p12.1,p12.2.1,()))))))) (some (.inr (.inl ((Gt.Rdr.s r5.1.1),(Gt.Rdr.end_ r5.1.1),(Gt.Tok.kind (Gt.Rdr.now r5.1.1)),(Gt.Tok.text (Gt.Rdr.now r5.1.1)),(Gt.Tok.at_ (Gt.Rdr.now r5.1.1)),(Gt.Tok.tight (Gt.Rdr.now r5.1.1)),(Gt.Rdr.open_ r5.1.1),t4.2.2.2.2.2.2.2.1,t4.2.2.2.2.2.2.2.2.1,t4.2.2.2.2.2.2.2.2.2.1,t4.2.2.2.2.2.2.2.2.2.2.1,t4.2.2.2.2.2.2.2.2.2.2.2.1,())))))) fun (p13:Int×Int×Unit)=>(some (.inr (.inr (.inr (p13.1,p13.2.1,())))))))
noncomputable def rowM (orc:Orc Sx) (f:FuncId) (kind:Int) (w:List UInt8) (rc:Gt.Rdr×Unit):Option (((Gt.Rdr×Unit)×(LicSpec.Ex×Unit))⊕(Int×Int×Unit)):=(oc (α:=((Gt.Rdr×Unit)×(LicSpec.Ex×Unit))) (β:=Int×Int×Unit) (oc (α:=((Gt.Rdr×Unit)×(LicSpec.Ex×Unit))) (β:=Int×Int×Unit) (orc.e f [.ptr 0 0] [162] [(.st 9)] ((rc.1,()):Gt.Rdr×Unit) [(.st 4)] [(.int .i64),(.int .i64)] 123) (fun (r2:((Gt.Rdr×Unit)×(LicSpec.Ex×Unit)))=>(ob (br ((Gt.Tok.kind (Gt.Rdr.now r2.1.1)) != 2) (some true) (some ((Gt.Tok.text (Gt.Rdr.now r2.1.1)) != w))) fun b3=>(br b3 (some (.inl ((r2.1.1,()),((LicSpec.Ex.mk (LicSpec.Ex.kind r2.2.1) (LicSpec.Ex.name r2.2.1) (LicSpec.Ex.later r2.2.1) (LicSpec.Ex.wth r2.2.1) (LicSpec.Ex.kids r2.2.1)),())))) (zaz (σ:=List UInt8×Int×Int×List UInt8×Int×Bool×Int×Int×List UInt8×Bool×List UInt8×List (LicSpec.Ex)×Unit) (R:=_) (zan (σ:=List UInt8×Int×Int×List UInt8×Int×Bool×Int×Int×List UInt8×Bool×List UInt8×List (LicSpec.Ex)×Unit) (R:=_) (zrT orc f w) ((Gt.Rdr.s r2.1.1),(Gt.Rdr.end_ r2.1.1),(Gt.Tok.kind (Gt.Rdr.now r2.1.1)),(Gt.Tok.text (Gt.Rdr.now r2.1.1)),(Gt.Tok.at_ (Gt.Rdr.now r2.1.1)),(Gt.Tok.tight (Gt.Rdr.now r2.1.1)),(Gt.Rdr.open_ r2.1.1),kind,[],false,[],[(LicSpec.Ex.mk (LicSpec.Ex.kind r2.2.1) (LicSpec.Ex.name r2.2.1) (LicSpec.Ex.later r2.2.1) (LicSpec.Ex.wth r2.2.1) (LicSpec.Ex.kids r2.2.1))],())) fun (t14:List UInt8×Int×Int×List UInt8×Int×Bool×Int×Int×List UInt8×Bool×List UInt8×List (LicSpec.Ex)×Unit)=>(some (.inl (((Gt.Rdr.mk t14.1 t14.2.1 (Gt.Tok.mk t14.2.2.1 t14.2.2.2.1 t14.2.2.2.2.1 t14.2.2.2.2.2.1) t14.2.2.2.2.2.2.1),()),((LicSpec.Ex.mk t14.2.2.2.2.2.2.2.1 t14.2.2.2.2.2.2.2.2.1 t14.2.2.2.2.2.2.2.2.2.1 t14.2.2.2.2.2.2.2.2.2.2.1 t14.2.2.2.2.2.2.2.2.2.2.2.1),())))))))) fun (p15:Int×Int×Unit)=>(some (.inr (p15.1,p15.2.1,())))) (fun (r16:((Gt.Rdr×Unit)×(LicSpec.Ex×Unit)))=>(some (.inl ((r16.1.1,()),((LicSpec.Ex.mk (LicSpec.Ex.kind r16.2.1) (LicSpec.Ex.name r16.2.1) (LicSpec.Ex.later r16.2.1) (LicSpec.Ex.wth r16.2.1) (LicSpec.Ex.kids r16.2.1)),()))))) fun (p17:Int×Int×Unit)=>(some (.inr (p17.1,p17.2.1,()))))
theorem m174_row (orc:Orc Sx) (rc:Gt.Rdr×Unit):m174 orc rc=rowM orc 204 2 zfc rc:=rfl
theorem m138_row (orc:Orc Sx) (rc:Gt.Rdr×Unit):m138 orc rc=rowM orc 174 3 sOR rc:=rfl
def mkT (S:List UInt8) (kind:Int) (s:PS) (acc:List Ex):RTup:=(S,s.fin,s.kind,s.text,s.at_,s.tight,s.opn,kind,[],false,[],acc,())
def ztm (S:List UInt8) (o:Nat) (one:PS→Res Ex):Prop:=∀s,s.fin≤S.length→s.opn=o→∀e s',one s= .ok e s'→s.kind≠0∧s.fin≤s'.fin∧s'.fin≤S.length∧s'.opn=o
def zr9 (orc:Orc Sx) (f:FuncId) (S:List UInt8) (o:Nat) (one:PS→Res Ex):Prop:=∀s,s.fin≤S.length→s.opn=o →
 @Eq (Option (((Gt.Rdr×Unit)×(Ex×Unit))⊕(Int×Int×Unit))) (orc.e f [.ptr 0 0] [162] [.st 9] ((toR S s,()):Gt.Rdr×Unit) [.st 4] [.int .i64,.int .i64] 123) (some (zcz S (fun e=>(e,())) (one s)))
def zlN (orc:Orc Sx) (S:List UInt8) (w:List UInt8):Prop:=∀s,s.fin≤S.length →
 @Eq (Option (((Gt.Rdr×Unit)×(Bool×Unit))⊕(Int×Int×Unit))) (orc.e 203 [.ptr 0 0,.str w] [162] [.st 9] ((toR S s,()):Gt.Rdr×Unit) [.bool] [.int .i64,.int .i64] 123) (some (zcz S (fun b=>(b,())) (pIs S w s)))
theorem zk2 {S w:List UInt8} {s s':PS} {b:Bool} (h:pIs S w s= .ok b s') (hf:s.fin≤S.length):s'.fin≤S.length∧s.fin≤s'.fin∧s'.opn=s.opn∧(b=true→s'.kind≠0→s.fin<s'.fin):=by
 unfold pIs at h
 split at h
 ·split at h
  ·cases h
  ·rename_i u s1 hn
   cases h
   obtain ⟨h1,h2,h3,h4⟩:=zdj hn hf
   exact ⟨h1,h2,h4,fun _=>h3⟩
 ·cases h;exact ⟨hf,yAi _,rfl,fun h=>by cases h⟩
theorem zty (S:List UInt8) (s:PS):(Gt.Rdr.mk S s.fin (Gt.Tok.mk s.kind s.text s.at_ s.tight) s.opn)=toR S s:=rfl
theorem zpk {orc:Orc Sx} {f:FuncId} {S:List UInt8} {o:Nat} {kind:Int} {w:List UInt8} {one:PS→Res Ex} (ha:zr9 orc f S o one) (hi:zlN orc S w) (s:PS) (acc:List Ex) (hf:s.fin≤S.length) (ho:s.opn=o) (hacc:acc.length≤2000000) :
  zrT orc f w (mkT S kind s acc)=match pIs S w s with
   | .err a c=>some (.inr (.inr (.inr ((a:Int),c,()))))
   | .ok false s'=>some (.inr (.inl (mkT S kind s' acc)))
   | .ok true s'=>match one s' with
     | .err a c=>some (.inr (.inr (.inr ((a:Int),c,()))))
     | .ok e s''=>some (.inl (mkT S kind s'' (acc++[e]))):=by
 unfold zrT
 simp only [mkT,zty]
 rw [hi s hf]
 cases hp:pIs S w s with
 | err a c=>simp [zcz,zbr]
 | ok b s1 =>
   obtain ⟨k1,k2,k3,_⟩:=zk2 hp hf
   simp only [zcz,za4]
   cases b with
   | false=>simp [zab,toR]
   | true =>
     simp only [zad]
     rw [ha s1 k1 (k3.trans ho)]
     cases h1:one s1 with
     | err a c=>simp [zcz,zbr,zb4]
     | ok e s2 =>
       have hc:zaS acc [e]=some (acc++[e]):=zax (by simp [lim];omega)
       simp only [zcz,za4,hc,zaa,zb4]
       rfl
theorem zmY {orc:Orc Sx} {f:FuncId} {S:List UInt8} {o:Nat} {kind:Int} {w:List UInt8} {one:PS→Res Ex} (hS:S.length≤1000000) (hg:ztm S o one) (ha:zr9 orc f S o one) (hi:zlN orc S w) :
  ∀(F:Nat) (acc:List Ex) (s:PS),s.fin≤S.length→s.opn=o→S.length - s.fin<F→acc.length≤s.fin+1 →
   zan (zrT orc f w) (mkT S kind s acc)=some (match zcp S w one F acc s with | .ok l s'=> .inl (mkT S kind s' l) | .err a c=> .inr (.inr ((a:Int),c,()))) ∧
   ∀l s',zcp S w one F acc s= .ok l s'→s.fin≤s'.fin∧s'.fin≤S.length∧s'.opn=o:=by
 intro F
 induction F with
 | zero=>intro acc s _ _ h _;omega
 | succ F ih =>
   intro acc s hf ho hF hacc
   have hst:=zpk (kind:=kind) ha hi s acc hf ho (by omega)
   unfold zcp
   cases hp:pIs S w s with
   | err a c =>
     rw [hp] at hst
     exact ⟨zaw hst,fun l s' h=>by cases h⟩
   | ok b s1 =>
     rw [hp] at hst
     obtain ⟨k1,k2,k3,k4⟩:=zk2 hp hf
     cases b with
     | false=>exact ⟨zaw hst,fun l s' h=>by cases h;exact ⟨k2,k1,k3.trans ho⟩⟩
     | true =>
       simp only at hst ⊢
       cases h1:one s1 with
       | err a c =>
         rw [h1] at hst
         exact ⟨zaw hst,fun l s' h=>by cases h⟩
       | ok e s2 =>
         rw [h1] at hst
         obtain ⟨g1,g2,g3,g4⟩:=hg s1 k1 (k3.trans ho) e s2 h1
         have hlt:=k4 rfl g1
         obtain ⟨i1,i2⟩:=ih (acc++[e]) s2 g3 g4 (by omega) (by simp;omega)
         exact ⟨by rw [zaC hst,i1],fun l s' h=>by
          obtain ⟨j1,j2,j3⟩:=i2 l s' h
          exact ⟨by omega,j2,j3⟩⟩
theorem zpi {orc:Orc Sx} {f:FuncId} {S:List UInt8} {o:Nat} {kind:Int} {w:List UInt8} {one:PS→Res Ex} (hS:S.length≤1000000) (hg:ztm S o one) (ha:zr9 orc f S o one) (hi:zlN orc S w) (s:PS) (hf:s.fin≤S.length) (ho:s.opn=o) :
  rowM orc f kind w (toR S s,())=some (zcz S (fun e=>(e,())) (zg4 S kind w one s)):=by
 unfold rowM zg4
 simp only
 rw [ha s hf ho]
 cases h1:one s with
 | err a c=>simp [zcz,zbr]
 | ok e s1 =>
   obtain ⟨hk0,hf1,hf2,ho1⟩:=hg s hf ho e s1 h1
   simp only [zcz,za4,Ex.eta,zaI,zaa,zcn]
   have hcond:((toR S s1).now.kind != 2||(toR S s1).now.text != w)= !(decide (s1.kind=2∧s1.text=w)):=by
    simp only [toR]
    by_cases a1:s1.kind=2<;>by_cases a2:s1.text=w<;>simp [a1,a2]
   rw [hcond]
   by_cases hc:s1.kind=2∧s1.text=w
   ·simp only [hc,and_self,decide_true,yA9,zab,if_true]
    have hl:=(zmY (kind:=kind) hS hg ha hi (S.length+1) [e] s1 hf2 ho1 (by omega) (by simp)).1
    rw [show ((toR S s1).s,(toR S s1).end_,(toR S s1).now.kind,(toR S s1).now.text,(toR S s1).now.at_,(toR S s1).now.tight,(toR S s1).open_,kind,([]:List UInt8),false,([]:List UInt8),[e],())=mkT S kind s1 [e] from rfl,hl]
    cases zcp S w one (S.length+1) [e] s1 with
    | ok l s'=>simp only [zaj,za4];rfl
    | err a c=>simp only [zaG,zbr]
   ·simp [hc,zad,za4]
theorem zk1 {orc:Orc Sx} {f:FuncId} {S:List UInt8} {o:Nat} {kind:Int} {w:List UInt8} {one:PS→Res Ex} (hS:S.length≤1000000) (hg:ztm S o one) (ha:zr9 orc f S o one) (hi:zlN orc S w):ztm S o (zg4 S kind w one):=by
 intro s hf ho e s' h
 unfold zg4 at h
 cases h1:one s with
 | err a c=>rw [h1] at h;cases h
 | ok e1 s1 =>
   rw [h1] at h
   obtain ⟨hk0,hf1,hf2,ho1⟩:=hg s hf ho e1 s1 h1
   simp only at h
   split at h
   ·have hl:=(zmY (kind:=kind) hS hg ha hi (S.length+1) [e1] s1 hf2 ho1 (by omega) (by simp)).2
    cases hl2:zcp S w one (S.length+1) [e1] s1 with
    | err a c=>rw [hl2] at h;cases h
    | ok l s2 =>
      rw [hl2] at h
      cases h
      obtain ⟨j1,j2,j3⟩:=hl l _ hl2
      exact ⟨hk0,by omega,j2,j3⟩
   ·cases h;exact ⟨hk0,hf1,hf2,ho1⟩
theorem zj1 (n:Nat) {S:List UInt8} (w:List UInt8) (hS:S.length≤1000000):zlN (zah (n+4)) S w:=fun s hf=>L203 n S s w hS hf
theorem zpu {n:Nat} {S:List UInt8} {o d:Nat} (hS:S.length≤1000000) (hg:ztm S o (za9 S d)) (ha:zr9 (zah (n+4)) 204 S o (za9 S d)) :
  ztm S o (zg4 S 3 sOR (zg4 S 2 zfc (za9 S d)))∧zr9 (zah (n+6)) 138 S o (zg4 S 3 sOR (zg4 S 2 zfc (za9 S d))):=by
 have g2:=zk1 (kind:=2) hS hg ha (zj1 n zfc hS)
 have a2:zr9 (zah (n+5)) 174 S o (zg4 S 2 zfc (za9 S d)):=fun s hf ho=>by
  rw [q174,m174_row]
  exact zpi hS hg ha (zj1 n zfc hS) s hf ho
 have g3:=zk1 (kind:=3) hS g2 a2 (zj1 (n+1) sOR hS)
 refine ⟨g3,fun s hf ho=> ?_⟩
 rw [q138,m138_row]
 exact zpi hS g2 a2 (zj1 (n+1) sOR hS) s hf ho
theorem G137 {n:Nat} (h:3≤n) {S:List UInt8} {s:PS} (hS:S.length≤1000000) (hf:s.fin≤S.length) :
  @Eq (Option (((Gt.Rdr×Unit)×Unit)⊕(Int×Int×Unit))) ((zah n).e 137 [.ptr 0 0] [162] [.st 9] ((toR S s,()):Gt.Rdr×Unit) [] [.int .i64,.int .i64] 123) (some (zcz S (fun _=>()) (zb2 S s))):=by
 obtain ⟨k,rfl⟩:∃k,n=k+3:=⟨n - 3,by omega⟩
 exact L41e k S s hS hf
theorem G139 {n:Nat} (h:1≤n) (a c:Int): @Eq (Option ((Unit×Unit)⊕(Int×Int×Unit))) ((zah n).e 139 [.int .i64 a,.int .i64 c] [] [] () [] [.int .i64,.int .i64] 123) (some (.inr (a,c,()))):=by
 obtain ⟨k,rfl⟩:∃k,n=k+1:=⟨n - 1,by omega⟩
 exact L139 k a c
theorem G203 {n:Nat} (h:4≤n) {S:List UInt8} {s:PS} (w:List UInt8) (hS:S.length≤1000000) (hf:s.fin≤S.length) :
  @Eq (Option (((Gt.Rdr×Unit)×(Bool×Unit))⊕(Int×Int×Unit))) ((zah n).e 203 [.ptr 0 0,.str w] [162] [.st 9] ((toR S s,()):Gt.Rdr×Unit) [.bool] [.int .i64,.int .i64] 123) (some (zcz S (fun b=>(b,())) (pIs S w s))):=by
 obtain ⟨k,rfl⟩:∃k,n=k+4:=⟨n - 4,by omega⟩
 exact L203 k S s w hS hf
theorem G221 {n:Nat} (h:4≤n) {S:List UInt8} {s:PS} (hS:S.length≤1000000) (hf:s.fin≤S.length) :
  @Eq (Option (((Gt.Rdr×Unit)×(List UInt8×Unit))⊕(Int×Int×Unit))) ((zah n).e 221 [.ptr 0 0] [162] [.st 9] ((toR S s,()):Gt.Rdr×Unit) [.str] [.int .i64,.int .i64] 123) (some (zcz S (fun b=>(b,())) (zdr S s))):=by
 obtain ⟨k,rfl⟩:∃k,n=k+4:=⟨n - 4,by omega⟩
 exact L221 k S s hS hf
theorem zjD {S:List UInt8} {s s':PS} {x:List UInt8} (h:zdr S s= .ok x s') (hf:s.fin≤S.length):s.kind=1∧s.fin≤s'.fin∧s'.fin≤S.length∧s'.opn=s.opn:=by
 unfold zdr at h
 by_cases hk:s.kind=1
 ·rw [if_neg (by simpa using hk)] at h
  cases hn:zb2 S s with
  | err a c=>rw [hn] at h;cases h
  | ok u s1 =>
    rw [hn] at h;cases h
    obtain ⟨h1,h2,_,h4⟩:=zdj hn hf
    exact ⟨hk,h2,h1,h4⟩
 ·rw [if_pos hk] at h;cases h
theorem zq5 {S:List UInt8} {s s':PS} {x:List UInt8} {e:Ex} (h:zjC S x s= .ok e s') (hf:s.fin≤S.length):s.fin≤s'.fin∧s'.fin≤S.length∧s'.opn=s.opn:=by
 unfold zjC at h
 have rest:∀(later:Bool) (s1:PS),s.fin≤s1.fin→s1.fin≤S.length→s1.opn=s.opn→(match pIs S zbL s1 with
   | .err a c=> .err a c
   | .ok false s2=> .ok (.mk 1 x later [] []) s2
   | .ok true s2=>match zdr S s2 with
     | .err a c=> .err a c
     | .ok y s3=> .ok (.mk 1 x later y []) s3:Res Ex)= .ok e s'→s.fin≤s'.fin∧s'.fin≤S.length∧s'.opn=s.opn:=by
  intro later s1 q1 q2 q3 h
  cases hi:pIs S zbL s1 with
  | err a c=>rw [hi] at h;cases h
  | ok b s2 =>
    rw [hi] at h
    obtain ⟨k1,k2,k3,_⟩:=zk2 hi q2
    cases b with
    | false=>cases h;exact ⟨by omega,k1,k3.trans q3⟩
    | true =>
      simp only at h
      cases hn:zdr S s2 with
      | err a c=>rw [hn] at h;cases h
      | ok y s3 =>
        rw [hn] at h;cases h
        obtain ⟨_,j1,j2,j3⟩:=zjD hn k1
        exact ⟨by omega,j2,j3.trans (k3.trans q3)⟩
 by_cases hc:s.kind=3∧s.tight=true
 ·rw [if_pos hc] at h
  cases hn:zb2 S s with
  | err a c=>rw [hn] at h;cases h
  | ok u s1 =>
    rw [hn] at h
    obtain ⟨h1,h2,_,h4⟩:=zdj hn hf
    exact rest true s1 h2 h1 h4 h
 ·rw [if_neg hc] at h
  exact rest false s (yAi _) hf rfl h
set_option maxHeartbeats 1000000 in
theorem m204_name {n:Nat} (hn:4≤n) {S:List UInt8} (hS:S.length≤1000000) (s:PS) (hf:s.fin≤S.length) (hk:s.kind≠4) :
  m204 (zah n) (toR S s,())=some (zcz S (fun e=>(e,())) (match zdr S s with | .err a c=> .err a c | .ok x s1=>zjC S x s1)):=by
 unfold m204
 have e4:((toR S s).now.kind==4)=false:=by simpa [toR] using hk
 simp only [e4,zab,G221 hn hS hf]
 cases hp:zdr S s with
 | err a c=>simp [zcz,zbr]
 | ok x s1 =>
   obtain ⟨_,_,hf1,_⟩:=zjD hp hf
   simp only [zcz,za4]
   have hc2:br ((toR S s1).now.kind==3) (some (toR S s1).now.tight) (some false)=some (decide (s1.kind=3∧s1.tight=true)):=by
    simp only [toR,zaI]
    by_cases a1:s1.kind=3
    ·cases a2:s1.tight<;>simp [a1]
    ·simp [beq_eq_false_iff_ne.2 a1,a1]
   rw [hc2]
   simp only [zaa]
   unfold zjC
   by_cases hc:s1.kind=3∧s1.tight=true
   ·simp only [hc,and_self,decide_true,zad,if_true,G137 (by omega:3≤n) hS hf1]
    cases hq:zb2 S s1 with
    | err a c=>simp [zcz,zbr,zaG]
    | ok u s2 =>
      obtain ⟨hf2,_,_,_⟩:=zdj hq hf1
      simp only [zcz,za4,zaj]
      rw [show (Gt.Rdr.mk (toR S s2).s (toR S s2).end_ (Gt.Tok.mk (toR S s2).now.kind (toR S s2).now.text (toR S s2).now.at_ (toR S s2).now.tight) (toR S s2).open_)=toR S s2 from rfl]
      have h87:=G203 hn zbL hS hf2
      rw [show zbL=[87,73,84,72] from rfl] at h87
      rw [h87]
      cases hi:pIs S zbL s2 with
      | err a c=>rw [show ([87,73,84,72]:List UInt8)=zbL from rfl,hi];simp [zcz,zbr]
      | ok b s3 =>
        obtain ⟨hf3,_,_,_⟩:=zk2 hi hf2
        rw [show ([87,73,84,72]:List UInt8)=zbL from rfl,hi]
        cases b with
        | false=>simp [zcz,za4,zab]
        | true =>
          simp only [zcz,za4,zad,G221 hn hS hf3]
          cases hx:zdr S s3 with
          | err a c=>simp [zbr]
          | ok y s4=>simp [za4]
   ·simp only [hc,decide_false,zab,if_false,zaj]
    rw [show (Gt.Rdr.mk (toR S s1).s (toR S s1).end_ (Gt.Tok.mk (toR S s1).now.kind (toR S s1).now.text (toR S s1).now.at_ (toR S s1).now.tight) (toR S s1).open_)=toR S s1 from rfl]
    have h87:=G203 hn zbL hS hf1
    rw [show zbL=[87,73,84,72] from rfl] at h87
    rw [h87]
    cases hi:pIs S zbL s1 with
    | err a c=>rw [show ([87,73,84,72]:List UInt8)=zbL from rfl,hi];simp [zcz,zbr]
    | ok b s3 =>
      obtain ⟨hf3,_,_,_⟩:=zk2 hi hf1
      rw [show ([87,73,84,72]:List UInt8)=zbL from rfl,hi]
      cases b with
      | false=>simp [zcz,za4,zab]
      | true =>
        simp only [zcz,za4,zad,G221 hn hS hf3]
        cases hx:zdr S s3 with
        | err a c=>simp [zbr]
        | ok y s4=>simp [za4]
theorem zd4 {S:List UInt8} {s s':PS} {e:Ex} (h:(match zdr S s with | .err a c=> .err a c | .ok x s1=>zjC S x s1:Res Ex)= .ok e s') (hf:s.fin≤S.length):s.kind≠0∧s.fin≤s'.fin∧s'.fin≤S.length∧s'.opn=s.opn:=by
 cases hp:zdr S s with
 | err a c=>rw [hp] at h;cases h
 | ok x s1 =>
   rw [hp] at h
   obtain ⟨h1,h2,h3,h4⟩:=zjD hp hf
   obtain ⟨k1,k2,k3⟩:=zq5 h h3
   exact ⟨by omega,by omega,k2,k3.trans h4⟩
set_option maxHeartbeats 1000000 in
theorem zoa {S:List UInt8} (hS:S.length≤1000000):∀(d o:Nat),o+d=30→∀n,3*d+6≤n→ztm S o (za9 S d)∧zr9 (zah n) 204 S o (za9 S d):=by
 intro d
 induction d with
 | zero =>
   intro o hod n hn
   obtain ⟨m,rfl⟩:∃m,n=m+1:=⟨n - 1,by omega⟩
   constructor
   ·intro s hf ho e s' h
    unfold za9 at h
    by_cases hk:s.kind=4
    ·rw [if_pos hk] at h;cases h
    ·rw [if_neg hk] at h
     obtain ⟨k1,k2,k3,k4⟩:=zd4 h hf
     exact ⟨k1,k2,k3,k4.trans ho⟩
   ·intro s hf ho
    rw [q204]
    unfold za9
    by_cases hk:s.kind=4
    ·rw [if_pos hk]
     unfold m204
     have e4:((toR S s).now.kind==4)=true:=by simpa [toR] using hk
     have hw:decide (30<IntKind.i64.wrap ((toR S s).open_+1))=true:=by
      have:IntKind.i64.wrap ((s.opn:Int)+1)=((s.opn+1:Nat):Int):=by rw [za5 (by omega) (by omega)];rfl
      show decide (30<IntKind.i64.wrap ((s.opn:Int)+1))=true
      rw [this];simp;omega
     simp only [e4,zad,hw,G139 (by omega:1≤m),zbr,zaG]
     rfl
    ·rw [if_neg hk]
     exact m204_name (by omega) hS s hf hk
 | succ d ih =>
   intro o hod n hn
   obtain ⟨m,rfl⟩:∃m,n=m+7:=⟨n - 7,by omega⟩
   obtain ⟨gs,asks⟩:=ih (o+1) (by omega) (m+4) (by omega)
   obtain ⟨gr,ar⟩:=zpu (n:=m) hS gs asks
   constructor
   ·intro s hf ho e s' h
    unfold za9 at h
    by_cases hk:s.kind=4
    ·rw [if_pos hk] at h
     simp only at h
     cases hp:zb2 S { s with opn:=s.opn+1 } with
     | err a c=>rw [hp] at h;cases h
     | ok u s1 =>
       rw [hp] at h
       simp only at h
       obtain ⟨h1,h2,_,h4⟩:=zdj hp hf
       cases hr:zg4 S 3 sOR (zg4 S 2 zfc (za9 S d)) s1 with
       | err a c=>rw [hr] at h;cases h
       | ok e2 s2 =>
         rw [hr] at h
         simp only at h
         obtain ⟨_,g2,g3,g4⟩:=gr s1 h1 (by rw [h4];show s.opn+1=o+1;omega) e2 s2 hr
         by_cases h5:s2.kind=5
         ·rw [if_neg (by simpa using h5)] at h
          cases hq:zb2 S { s2 with opn:=s2.opn - 1 } with
          | err a c=>rw [hq] at h;cases h
          | ok u s3 =>
            rw [hq] at h
            cases h
            obtain ⟨j1,j2,_,j4⟩:=zdj hq g3
            refine ⟨by omega,?_,j1,by rw [j4];show s2.opn - 1=o;omega⟩
            have e1:s.fin≤s1.fin:=h2
            have e2:s2.fin≤s'.fin:=j2
            omega
         ·rw [if_pos h5] at h;cases h
    ·rw [if_neg hk] at h
     obtain ⟨k1,k2,k3,k4⟩:=zd4 h hf
     exact ⟨k1,k2,k3,k4.trans ho⟩
   ·intro s hf ho
    rw [q204]
    unfold za9
    by_cases hk:s.kind=4
    ·rw [if_pos hk]
     unfold m204
     have e4:((toR S s).now.kind==4)=true:=by simpa [toR] using hk
     have hwr:IntKind.i64.wrap ((toR S s).open_+1)=((s.opn+1:Nat):Int):=by
      show IntKind.i64.wrap ((s.opn:Int)+1)=_
      rw [za5 (by omega) (by omega)];rfl
     have hw:decide (30<(((s.opn+1:Nat):Int)))=false:=by simp;omega
     simp only [e4,zad,hwr,hw,zab,zaj]
     rw [show (Gt.Rdr.mk (toR S s).s (toR S s).end_ (Gt.Tok.mk (toR S s).now.kind (toR S s).now.text (toR S s).now.at_ (toR S s).now.tight) (((s.opn+1:Nat):Int)))=toR S { s with opn:=s.opn+1 } from rfl]
     rw [G137 (by omega:3≤m+6) hS (s:={ s with opn:=s.opn+1 }) hf]
     cases hp:zb2 S { s with opn:=s.opn+1 } with
     | err a c=>simp [zcz,zbr]
     | ok u s1 =>
       obtain ⟨h1,h2,_,h4⟩:=zdj hp hf
       have ho1:s1.opn=o+1:=by rw [h4];show s.opn+1=o+1;omega
       simp only [zcz,za4]
       rw [ar s1 h1 ho1]
       cases hr:zg4 S 3 sOR (zg4 S 2 zfc (za9 S d)) s1 with
       | err a c=>simp [zcz,zbr]
       | ok e2 s2 =>
         obtain ⟨_,g2,g3,g4⟩:=gr s1 h1 ho1 e2 s2 hr
         simp only [zcz,za4]
         by_cases h5:s2.kind=5
         ·have e5:((toR S s2).now.kind != 5)=false:=by simp [toR,h5]
          have hwr2:IntKind.i64.wrap ((toR S s2).open_ - 1)=((s2.opn - 1:Nat):Int):=by
           show IntKind.i64.wrap ((s2.opn:Int) - 1)=_
           rw [za5 (by omega) (by omega)];omega
          simp only [e5,zab,zaj,hwr2]
          rw [show (Gt.Rdr.mk (toR S s2).s (toR S s2).end_ (toR S s2).now (((s2.opn - 1:Nat):Int)))=toR S { s2 with opn:=s2.opn - 1 } from rfl]
          rw [G137 (by omega:3≤m+6) hS (s:={ s2 with opn:=s2.opn - 1 }) g3]
          rw [if_neg (by simpa using h5)]
          cases hq:zb2 S { s2 with opn:=s2.opn - 1 } with
          | err a c=>simp [zcz,zbr]
          | ok u s3=>simp [zcz,za4,Ex.eta]
         ·have e5:((toR S s2).now.kind != 5)=true:=by simpa [toR] using h5
          simp only [e5,zad,G139 (by omega:1≤m+6),zbr,zaG]
          rw [if_pos h5]
          rfl
    ·rw [if_neg hk]
     exact m204_name (by omega) hS s hf hk
end Pe.Tryz
end
section
/- The plain laws of Check, of the program and of the reference. -/
set_option maxRecDepth 100000
namespace LicSpec
mutual
def Small:Ex→Prop
 | .mk _ name _ wth kids=>name.length≤2000000∧wth.length≤2000000∧kids.length≤2000000∧SmallL kids
def SmallL:List Ex→Prop
 | []=>True
 | k::r=>Small k∧SmallL r
end
theorem SmallL.mem:∀{l:List Ex} {k:Ex},SmallL l→k∈l→Small k
 | x::r,k,h,hk=>by
   simp only [SmallL] at h
   rcases yAj.1 hk with rfl | hk
   ·exact h.1
   ·exact h.2.mem hk
theorem zhx:∀{l:List Ex},(∀k∈l,Small k)→SmallL l
 | [],_=>by simp only [SmallL]
 | x::r,h=>by simp only [SmallL];exact ⟨h x (by simp),zhx fun k hk=>h k (by simp [hk])⟩
theorem zpF:∀{ks:List Ex} {k:Ex},k∈ks→k.lev≤ziV ks
 | k0::r,k,h=>by
   simp only [ziV]
   rcases yAj.1 h with rfl | h
   ·omega
   ·have:=zpF h;omega
theorem Small.kid {e k:Ex} (h:Small e) (hk:k∈e.kids):Small k:=by
 cases e with
 | mk a b c d l=>simp only [Small] at h;exact h.2.2.2.mem hk
theorem Small.kids {e:Ex} (h:Small e):e.kids.length≤2000000∧e.name.length≤2000000∧e.wth.length≤2000000:=by
 cases e with
 | mk a b c d l=>simp only [Small] at h;exact ⟨h.2.2.1,h.1,h.2.1⟩
theorem zdt {e k:Ex} (hk:k∈e.kids):k.lev<e.lev:=by
 cases e with
 | mk a b c d l=>simp only [Ex.lev];have:=zpF hk;simp only at this;omega
theorem zsI (e:Ex) (level:Nat):zeP e level=if 30<level then (1,level) else zeV e.kids level (1,level):=by cases e;simp only [zeP]
theorem zh6 (e:Ex):zcf e=if LicSpec.one e≠0 then LicSpec.one e else zbF e.kids:=by cases e;simp only [zcf]
theorem ztN (e:Ex):e.lev=ziV e.kids+1:=by cases e;simp only [Ex.lev]
theorem zq4 (e:Ex) (most:Nat):zb7 e most=zcv e.kids most 1:=by cases e;simp only [zb7]
end LicSpec
namespace Pe.Tryz
open Go Go.Proofs Pe LicSpec
theorem zdd {α:Type} {l:List α} {k:Nat} (h:k<l.length):l.drop k=l[k]::l.drop (k+1):=yAr h
theorem L54:∀(n:Nat) (e:Ex) (level:Nat),e.lev≤n→level≤31→Small e→m54 (zah n) e level=some (((zeP e level).1:Int),((zeP e level).2:Int),()):=by
 intro n
 induction n with
 | zero=>intro e level h;have:=e.lev_pos;omega
 | succ n ih =>
   intro e level hl hlev hs
   unfold m54
   rw [zsI]
   by_cases h30:30<level
   ·have:decide (30<(level:Int))=true:=by simp;omega
    rw [this,if_pos h30];rfl
   ·have hd:decide (30<(level:Int))=false:=by simp;omega
    rw [hd,if_neg h30]
    simp only [zab]
    have hw:IntKind.i64.wrap ((level:Int)+1)=((level+1:Nat):Int):=by rw [za5 (by omega) (by omega)];rfl
    have hkl:=hs.kids.1
    rw [show ((1:Int),(level:Int),(0:Int),())=((fun (k:Nat) (a:Nat×Nat)=>((a.1:Int),(a.2:Int),(k:Int),())) 0 (1,level)) from rfl]
    rw [zb9 (R:=(Int×Int×Unit)⊕(Int×Int×Unit)) (fun (k:Nat) (a:Nat×Nat)=>((a.1:Int),(a.2:Int),(k:Int),())) e.kids.length (fun k a=> .inl (((zeV (e.kids.drop k) level a).1:Int),((zeV (e.kids.drop k) level a).2:Int),())) (fun _ a=>a.1≤201) ?h1 0 (1,level) (yAD _) (by simp)]
    case h1 =>
     intro k a hk ha
     simp only
     by_cases hlt:k<e.kids.length
     ·left
      have hmem:e.kids[k]∈e.kids:=yAl hlt
      have hlk:=zdt hmem
      have hih:=ih e.kids[k] (level+1) (by omega) (by omega) (hs.kid hmem)
      obtain ⟨⟨m1,m2,m3,m4⟩,_,_⟩:=zjM e.kids[k] (level+1) (by omega) (by omega)
      have hw2:IntKind.i64.wrap ((a.1:Int)+((zeP e.kids[k] (level+1)).1:Int))=((a.1+(zeP e.kids[k] (level+1)).1:Nat):Int):=by rw [za5 (by omega) (by omega)];rfl
      refine ⟨(min (a.1+(zeP e.kids[k] (level+1)).1) 201,max a.2 (zeP e.kids[k] (level+1)).2),hlt,?_,by simp;omega,?_⟩
      ·simp only [zam,hlt,decide_true,zad,zak hlt,zaa,Ex.eta,hw,q54,hih,hw2,zae hlt (by omega)]
       have e1:(min (((a.1+(zeP e.kids[k] (level+1)).1:Nat)):Int) 201)=((min (a.1+(zeP e.kids[k] (level+1)).1) 201:Nat):Int):=by omega
       have e2:(max (a.2:Int) ((zeP e.kids[k] (level+1)).2:Int))=((max a.2 (zeP e.kids[k] (level+1)).2:Nat):Int):=by omega
       rw [e1,e2]
      ·rw [zdd hlt];simp only [zeV]
     ·right
      simp only [zam,hlt,decide_false,zab]
      rw [yAx (by omega)];simp only [zeV]
    simp only [zaj,yBa]
theorem G100 {n:Nat} (h:2≤n) {s:List UInt8} (hs:s.length≤1000000000): @Eq (Option (Bool×Unit)) ((zah n).d 100 [.str s] [.bool]) (some (LicSpec.isName s,())):=by
 obtain ⟨k,rfl⟩:∃k,n=k+2:=⟨n - 2,by omega⟩
 rw [q100,L100 k s hs]
theorem zil (s:List UInt8):(s != [])=decide (s≠[]):=by cases s<;>rfl
theorem zi6 {f:Int×Unit→Option ((Int×Unit)⊕(Unit⊕(Int×Unit)))} {kids:List Ex} (_:kids.length≤2000000)
  (hf:∀(k:Nat) (h:k<kids.length),f ((k:Int),())=if zcf kids[k]≠0 then some (.inr (.inr (zcf kids[k],()))) else some (.inl (((k+1:Nat):Int),())))
  (he:f ((kids.length:Int),())=some (.inr (.inl ()))):zan f ((0:Int),())=some (if zbF kids≠0 then .inr (zbF kids,()) else .inl ()):=by
 have:=zjQ (f:=f) kids.length (fun k=>if zbF (kids.drop k)≠0 then (.inr (zbF (kids.drop k),()):Unit⊕(Int×Unit)) else .inl ()) (fun k hk'=>by
  by_cases hlt:k<kids.length
  ·rw [hf k hlt]
   rw [zdd hlt]
   simp only [zbF]
   by_cases h0:zcf kids[k]≠0
   ·right;simp only [if_pos h0]
   ·left;simp only [if_neg h0];exact ⟨hlt,trivial,trivial⟩
  ·right
   have:k=kids.length:=by omega
   subst this
   rw [he,yAx (yAi _)];simp [zbF]) 0 (yAD _)
 simpa using this
theorem one_cases (e:Ex):LicSpec.one e=if e.kind<1∨3<e.kind then 7
  else if e.kind≠1 then (if e.name≠[]∨e.later=true∨e.wth≠[]∨e.kids.length<2 then 2 else 0)
  else if 0<e.kids.length then 2
  else if isName e.name=false∨(e.wth≠[]∧isName e.wth=false) then 8 else 0:=by cases e;simp only [LicSpec.one]
theorem L55:∀(n:Nat) (e:Ex),e.lev+2≤n→Small e→m55 (zah n) e=some (zcf e,()):=by
 intro n
 induction n with
 | zero=>intro e h;omega
 | succ n ih =>
   intro e hl hs
   obtain ⟨k1,k2,k3⟩:=hs.kids
   have hlp:=e.lev_pos
   unfold m55
   rw [zh6]
   simp only [zaI,zaa,zcn]
   by_cases hk:e.kind<1∨3<e.kind
   ·have:(decide (e.kind<1)||decide (3<e.kind))=true:=by simpa using hk
    have ho:LicSpec.one e=7:=by rw [one_cases,if_pos hk]
    rw [this,ho];rfl
   ·have hd:(decide (e.kind<1)||decide (3<e.kind))=false:=by simpa using hk
    rw [hd]
    simp only [zab]
    by_cases h1:e.kind=1
    ·have e1:(e.kind==1)=true:=by simpa using h1
     rw [e1]
     simp only [zad]
     by_cases hkids:0<e.kids.length
     ·have:decide (0<len e.kids)=true:=by unfold len;exact decide_eq_true (by omega)
      have ho:LicSpec.one e=2:=by rw [one_cases,if_neg hk,if_neg (by simpa using h1),if_pos hkids]
      rw [this,ho];rfl
     ·have:decide (0<len e.kids)=false:=by unfold len;exact decide_eq_false (by omega)
      have hnil:e.kids=[]:=yAJ.1 (by omega)
      have ho:LicSpec.one e=if isName e.name=false∨(e.wth≠[]∧isName e.wth=false) then 8 else 0:=by rw [one_cases,if_neg hk,if_neg (by simpa using h1),if_neg hkids]
      rw [this,ho,hnil]
      simp only [zab,G100 (by omega:2≤n+1) (yAk k2 (by decide)),G100 (by omega:2≤n+1) (yAk k3 (by decide)),zaa,zil]
      cases hA:isName e.name with
      | false=>simp [zad,zaa]
      | true =>
        by_cases hB:e.wth=[]
        ·simp [hB,zab,zaa,zbF]
        ·cases hC:isName e.wth<;>simp [hB,zab,zad,zaa,zbF]
    ·have e1:(e.kind==1)=false:=by simpa using h1
     rw [e1]
     simp only [zab,zil]
     have hc:(decide (e.name≠[])||e.later||decide (e.wth≠[])||decide (len e.kids<2))=decide (e.name≠[]∨e.later=true∨e.wth≠[]∨e.kids.length<2):=by
      have h2:decide (len e.kids<2)=decide (e.kids.length<2):=by unfold len;exact decide_eq_decide.2 (by omega)
      rw [h2];simp only [Bool.decide_or,Bool.or_assoc]
      cases e.later<;>rfl
     rw [hc]
     by_cases hx:e.name≠[]∨e.later=true∨e.wth≠[]∨e.kids.length<2
     ·have ho:LicSpec.one e=2:=by rw [one_cases,if_neg hk,if_pos h1,if_pos hx]
      rw [decide_eq_true hx,ho];rfl
     ·have ho:LicSpec.one e=0:=by rw [one_cases,if_neg hk,if_pos h1,if_neg hx]
      rw [decide_eq_false hx,ho]
      simp only [zab,ne_eq,not_true_eq_false,if_false]
      rw [zi6 (kids:=e.kids) k1 (fun k hlt=>by
       have hmem:e.kids[k]∈e.kids:=yAl hlt
       have hlk:=zdt hmem
       have hih:=ih e.kids[k] (by omega) (hs.kid hmem)
       simp only [zam,hlt,decide_true,zad,zak hlt,zaa,Ex.eta,q55,hih]
       by_cases h0:zcf e.kids[k]=0
       ·simp [h0,zae hlt (by omega:e.kids.length≤9223372036854775807)]
       ·have:(zcf e.kids[k] != 0)=true:=by simpa using h0
        simp [this,h0]) (by simp [len,zab])]
      by_cases hz:zbF e.kids=0
      ·simp [hz,zaz]
      ·simp [hz,zaz]
theorem L18 (n:Nat) (e:Ex) (hl:e.lev+3≤n) (hs:Small e):m18 (zah n) e=some (chk e,()):=by
 obtain ⟨k,rfl⟩:∃k,n=k+1:=⟨n - 1,by omega⟩
 unfold m18
 simp only [Ex.eta]
 have h44:=L54 k e 1 (by omega) (by omega) hs
 have h45:=L55 k e (by omega) hs
 have q1: @Eq (Option (Int×Int×Unit)) ((zah (k+1)).d 54 [.st 4 e,.int .i64 1] [.int .i64,.int .i64]) (some (((zeP e 1).1:Int),((zeP e 1).2:Int),())):=by rw [q54];exact h44
 rw [q1]
 simp only [zaa,zaI,zcn,q55,h45]
 have hsz:=(zmS e).1
 unfold chk
 by_cases h:200<e.cnt∨30<e.lev
 ·have h2:=hsz.2 h
  have:(decide (30<((zeP e 1).2:Int))||decide (200<((zeP e 1).1:Int)))=true:=by simp;omega
  rw [this,if_pos h];rfl
 ·have h2:¬(30<(zeP e 1).2∨200<(zeP e 1).1):=fun hx=>h (hsz.1 hx)
  have:(decide (30<((zeP e 1).2:Int))||decide (200<((zeP e 1).1:Int)))=false:=by simp;omega
  rw [this,if_neg h];rfl
theorem L135 (n:Nat) (s:List UInt8) (hs:s.length≤1000000000):m135 (zah (n+1)) s=some (LicSpec.isName s,()):=by
 have h34:=L100 n s hs
 unfold m135
 unfold m100 at h34
 rw [←h34]
 have e1:(fun (t8:Int×Unit)=>(br (decide (t8.1<(len s))) (ob (at? s t8.1) fun c9=>(ob (α:=Bool×Unit) ((zah (n+1)).d 171 [.int .u8 (UInt8.toNat c9:Int)] [.bool]) fun (r10:Bool×Unit)=>(br (!r10.1) (some (Sum.inr (Sum.inr (false,())))) (some (Sum.inl ((IntKind.i64.wrap (t8.1+1)),())))))) (some (Sum.inr (Sum.inl ())))))=(fun (t8:Int×Unit)=>(br (decide (t8.1<(len s))) (ob (at? s t8.1) fun c9=>(ob (α:=Bool×Unit) ((zah (n+1)).d 134 [.int .u8 (UInt8.toNat c9:Int)] [.bool]) fun (r10:Bool×Unit)=>(br (!r10.1) (some (Sum.inr (Sum.inr (false,())):(Int×Unit)⊕(Unit⊕(Bool×Unit)))) (some (Sum.inl ((IntKind.i64.wrap (t8.1+1)),())))))) (some (Sum.inr (Sum.inl ()))))):=by
  funext t8
  simp only [q171,q134,L171,L134]
 rw [e1]
 have e2:(ob (α:=List UInt8×Unit) ((zah (n+1)).d 170 [.str s] [.str]) fun (r6:List UInt8×Unit)=>some (r6.1 != []))=(ob (α:=Bool×Unit) ((zah (n+1)).d 133 [.str s] [.bool]) fun (r6:Bool×Unit)=>some r6.1):=by
  rw [q170,q133,L170,L133]
  simp only [zaa]
  rcases zhp s with ⟨h1,h2⟩ | ⟨h1,h2⟩
  ·rw [h1,zil,decide_eq_true h2]
  ·rw [h1,h2];rfl
 rw [e2]
theorem G135 {n:Nat} (h:2≤n) {s:List UInt8} (hs:s.length≤1000000000): @Eq (Option (Bool×Unit)) ((zah n).d 135 [.str s] [.bool]) (some (LicSpec.isName s,())):=by
 obtain ⟨k,rfl⟩:∃k,n=k+2:=⟨n - 2,by omega⟩
 rw [q135,L135 k s hs]
theorem L56:∀(n:Nat) (e:Ex) (most:Nat),e.lev≤n→most≤1000→Small e→m56 (zah n) e most=some ((zb7 e most:Int),()):=by
 intro n
 induction n with
 | zero=>intro e most h;have:=e.lev_pos;omega
 | succ n ih =>
   intro e most hl hm hs
   unfold m56
   rw [zq4]
   have hkl:=hs.kids.1
   rw [show ((1:Int),(0:Int),())=((fun (k:Nat) (a:Nat)=>((a:Int),(k:Int),())) 0 1) from rfl]
   rw [zb9 (R:=(Int×Unit)⊕(Int×Unit)) (fun (k:Nat) (a:Nat)=>((a:Int),(k:Int),())) e.kids.length (fun k a=> .inl ((zcv (e.kids.drop k) most a:Int),())) (fun _ a=>a≤most+1) ?h1 0 1 (yAD _) (by omega)]
   case h1 =>
    intro k a hk ha
    simp only
    by_cases hlt:k<e.kids.length
    ·have hmem:e.kids[k]∈e.kids:=yAl hlt
     have hlk:=zdt hmem
     by_cases ham:a≤most
     ·left
      have hih:=ih e.kids[k] (most - a) (by omega) (by omega) (hs.kid hmem)
      have hple:=zkZ e.kids[k] (most - a)
      have hw:IntKind.i64.wrap ((most:Int) - (a:Int))=((most - a:Nat):Int):=by rw [za5 (by omega) (by omega)];omega
      have hw2:IntKind.i64.wrap ((a:Int)+(zb7 e.kids[k] (most - a):Int))=((a+zb7 e.kids[k] (most - a):Nat):Int):=by rw [za5 (by omega) (by omega)];rfl
      have hd:decide ((a:Int)≤(most:Int))=true:=decide_eq_true (by omega)
      refine ⟨a+zb7 e.kids[k] (most - a),hlt,?_,by omega,?_⟩
      ·simp only [zam,hlt,decide_true,zad,zaa,hd,zak hlt,hw,q56,hih,hw2,zae hlt (by omega:e.kids.length≤9223372036854775807)]
      ·rw [zdd hlt];simp only [zcv];rw [if_pos ham]
     ·right
      have hd:decide ((a:Int)≤(most:Int))=false:=decide_eq_false (by omega)
      simp only [zam,hlt,decide_true,zad,zaa,hd,zab]
      rw [zmd _ (by omega)]
    ·right
     simp only [zam,hlt,decide_false,zab,zaa]
     rw [yAx (by omega)];simp only [zcv]
   simp only [zaj,yBa]
theorem L57:∀(n:Nat) (e:Ex),e.lev≤n→e.lev≤100000000→Small e→m57 (zah n) e=some ((e.lev:Int),()):=by
 intro n
 induction n with
 | zero=>intro e h;have:=e.lev_pos;omega
 | succ n ih =>
   intro e hl hm hs
   unfold m57
   have hkl:=hs.kids.1
   rw [show ((0:Int),(0:Int),())=((fun (k:Nat) (a:Nat)=>((a:Int),(k:Int),())) 0 0) from rfl]
   rw [zb9 (R:=(Int×Unit)⊕(Int×Unit)) (fun (k:Nat) (a:Nat)=>((a:Int),(k:Int),())) e.kids.length (fun k a=> .inl ((max a (ziV (e.kids.drop k)):Nat),())) (fun _ a=>True) ?h1 0 0 (yAD _) trivial]
   case h1 =>
    intro k a hk ha
    simp only
    by_cases hlt:k<e.kids.length
    ·have hmem:e.kids[k]∈e.kids:=yAl hlt
     have hlk:=zdt hmem
     left
     have hih:=ih e.kids[k] (by omega) (by omega) (hs.kid hmem)
     have e2:(max (a:Int) (e.kids[k].lev:Int))=((max a e.kids[k].lev:Nat):Int):=by omega
     refine ⟨max a e.kids[k].lev,hlt,?_,trivial,?_⟩
     ·simp only [zam,hlt,decide_true,zad,zaa,zak hlt,q57,hih,e2,zae hlt (by omega:e.kids.length≤9223372036854775807)]
     ·rw [zdd hlt];simp only [ziV];rw [Nat.max_assoc]
    ·right
     simp only [zam,hlt,decide_false,zab]
     rw [yAx (by omega)];simp only [ziV];simp
   simp only [zaj,yBa]
   have hle:=ztN e
   have hw:IntKind.i64.wrap (((max 0 (ziV e.kids):Nat):Int)+1)=(e.lev:Int):=by rw [za5 (by omega) (by omega)];omega
   rw [hw]
theorem L101 (n:Nat) (hn:2≤n) (e:Ex) (hs:Small e):m101 (zah n) e=some (LicSpec.one e,()):=by
 obtain ⟨k1,k2,k3⟩:=hs.kids
 unfold m101
 simp only [zaI,zaa,zcn]
 by_cases hk:e.kind<1∨3<e.kind
 ·have:(decide (e.kind<1)||decide (3<e.kind))=true:=by simpa using hk
  have ho:LicSpec.one e=7:=by rw [one_cases,if_pos hk]
  rw [this,ho];rfl
 ·have hd:(decide (e.kind<1)||decide (3<e.kind))=false:=by simpa using hk
  rw [hd]
  simp only [zab]
  by_cases h1:e.kind=1
  ·have e1:(e.kind != 1)=false:=by simp [h1]
   rw [e1]
   simp only [zab]
   by_cases hkids:0<e.kids.length
   ·have:decide (0<len e.kids)=true:=by unfold len;exact decide_eq_true (by omega)
    have ho:LicSpec.one e=2:=by rw [one_cases,if_neg hk,if_neg (by simpa using h1),if_pos hkids]
    rw [this,ho];rfl
   ·have:decide (0<len e.kids)=false:=by unfold len;exact decide_eq_false (by omega)
    have ho:LicSpec.one e=if isName e.name=false∨(e.wth≠[]∧isName e.wth=false) then 8 else 0:=by rw [one_cases,if_neg hk,if_neg (by simpa using h1),if_neg hkids]
    rw [this,ho]
    simp only [zab,G135 hn (yAk k2 (by decide):e.name.length≤1000000000),G135 hn (yAk k3 (by decide):e.wth.length≤1000000000),zaa,zil]
    cases hA:isName e.name with
    | false=>simp [zad,zaa]
    | true =>
      by_cases hB:e.wth=[]
      ·simp [hB,zab,zaa]
      ·cases hC:isName e.wth<;>simp [hB,zab,zad,zaa]
  ·have e1:(e.kind != 1)=true:=by simpa using h1
   rw [e1]
   simp only [zad,zil]
   have hc:(decide (e.name≠[])||e.later||decide (e.wth≠[])||decide (len e.kids<2))=decide (e.name≠[]∨e.later=true∨e.wth≠[]∨e.kids.length<2):=by
    have h2:decide (len e.kids<2)=decide (e.kids.length<2):=by unfold len;exact decide_eq_decide.2 (by omega)
    rw [h2];simp only [Bool.decide_or,Bool.or_assoc]
    cases e.later<;>rfl
   rw [hc]
   have ho:LicSpec.one e=if e.name≠[]∨e.later=true∨e.wth≠[]∨e.kids.length<2 then 2 else 0:=by rw [one_cases,if_neg hk,if_pos h1]
   rw [ho]
   by_cases hx:e.name≠[]∨e.later=true∨e.wth≠[]∨e.kids.length<2
   ·rw [decide_eq_true hx,if_pos hx];rfl
   ·rw [decide_eq_false hx,if_neg hx];rfl
theorem L58:∀(n:Nat) (e:Ex),e.lev+2≤n→Small e→m58 (zah n) e=some (zcf e,()):=by
 intro n
 induction n with
 | zero=>intro e h;omega
 | succ n ih =>
   intro e hl hs
   obtain ⟨k1,k2,k3⟩:=hs.kids
   have hlp:=e.lev_pos
   unfold m58
   rw [zh6]
   simp only [Ex.eta,q101,L101 n (by omega) e hs,zaa]
   by_cases ho:LicSpec.one e=0
   ·rw [ho]
    simp only [show ((0:Int) != 0)=false from rfl,zab,ne_eq,not_true_eq_false,if_false]
    rw [zi6 (kids:=e.kids) k1 (fun k hlt=>by
     have hmem:e.kids[k]∈e.kids:=yAl hlt
     have hlk:=zdt hmem
     have hih:=ih e.kids[k] (by omega) (hs.kid hmem)
     simp only [zam,hlt,decide_true,zad,zak hlt,zaa,q58,hih]
     by_cases h0:zcf e.kids[k]=0
     ·simp [h0,zab,zae hlt (by omega:e.kids.length≤9223372036854775807)]
     ·have:(zcf e.kids[k] != 0)=true:=by simpa using h0
      simp [this,zad,h0]) (by simp [len,zab])]
    by_cases hz:zbF e.kids=0
    ·simp [hz,zaz]
    ·simp [hz,zaz]
   ·have h1:(LicSpec.one e != 0)=true:=by simpa using ho
    rw [h1,if_pos ho];rfl
theorem L19 (n:Nat) (e:Ex) (hl:e.lev+3≤n) (hb:e.lev≤100000000) (hs:Small e):m19 (zah n) e=some (chk e,()):=by
 obtain ⟨k,rfl⟩:∃k,n=k+1:=⟨n - 1,by omega⟩
 unfold m19
 simp only [Ex.eta]
 have q1: @Eq (Option (Int×Unit)) ((zah (k+1)).d 56 [.st 4 e,.int .i64 200] [.int .i64]) (some ((zb7 e 200:Int),())):=by rw [q56];exact L56 k e 200 (by omega) (by omega) hs
 rw [q1]
 have hsz:=(zmS e).2
 simp only [zaa,q57,L57 k e (by omega) hb hs,q58,L58 k e (by omega) hs,zaI,zcn]
 unfold chk
 by_cases h:200<e.cnt∨30<e.lev
 ·have:(decide (200<(zb7 e 200:Int))||decide (30<(e.lev:Int)))=true:=by simp;omega
  rw [this,if_pos h];rfl
 ·have:(decide (200<(zb7 e 200:Int))||decide (30<(e.lev:Int)))=false:=by simp;omega
  rw [this,if_neg h];rfl
end Pe.Tryz
end
section
/- The plain laws of the reference's reader. -/
set_option maxRecDepth 100000
namespace Pe.Tryz
open Go Go.Proofs Pe LicSpec
theorem zkM {S:List UInt8} {q:RS} (h:q.at_≤S.length):(zrV S q).length=runL (S.drop q.at_)∧q.at_+runL (S.drop q.at_)≤S.length:=by
 have:=zjw (S.drop q.at_)
 rw [yA2] at this
 exact ⟨by unfold zrV;rw [zdS],by omega⟩
end Pe.Tryz
end
section
/- Read of both sides. -/
set_option maxRecDepth 100000
namespace LicSpec
def Fit (m:Nat) (e:Ex):Prop:=Small e∧e.lev≤m
theorem zaZ {t:Str} (h:isName t=true):t.length≤60:=by
 unfold isName at h
 simp only [yAd,yBf,yBc,decide_eq_false_iff_not] at h
 omega
theorem zhI (S:Str) (q:RS):(zfi S q).1.length≤60:=by
 unfold zfi
 simp only
 split
 ·rename_i h;exact zaZ h
 ·simp
theorem zj3 {x y:Str} {l:Bool} {m:Nat} (h1:x.length≤60) (h2:y.length≤60) (hm:1≤m):Fit m (.mk 1 x l y []):=by
 refine ⟨?_,?_⟩
 ·simp only [Small,SmallL,yCs];exact ⟨by omega,by omega,by omega,trivial⟩
 ·simp only [Ex.lev,ziV];omega
theorem znB {S x:Str} {q:RS} {m:Nat} (h:x.length≤60) (hm:1≤m):Fit m (zhH S x q).1:=by
 unfold zhH
 have rest:∀(later:Bool) (s1:RS),Fit m (if s1.no=0 then
  let (t,s2):=zbp S zbL s1
  if t then
   let (x',s3):=zfi S s2
   (.mk 1 x later x' [],s3)
  else (.mk 1 x later [] [],s2)
 else ((.mk 1 x later [] [],s1):Ex×RS)).1:=by
  intro later s1
  split
  ·simp only
   split
   ·exact zj3 h (zhI _ _) hm
   ·exact zj3 h (by simp) hm
  ·exact zj3 h (by simp) hm
 simp only
 split
 ·exact rest _ _
 ·exact rest _ _
theorem zrh {S w:Str} {one':RS→Ex×RS} {m:Nat} (h:∀q,Fit m (one' q).1):∀f acc q,(∀e∈acc,Fit m e)→(∀e∈(zaN S w one' f acc q).1,Fit m e)∧(zaN S w one' f acc q).1.length≤acc.length+f:=by
 intro f
 induction f with
 | zero=>intro acc q ha;exact ⟨ha,by simp [zaN]⟩
 | succ f ih =>
   intro acc q ha
   unfold zaN
   split
   ·exact ⟨ha,by simp⟩
   ·split
    ·exact ⟨ha,by simp⟩
    ·rename_i s1 _
     have:=h s1
     cases ho:one' s1 with
     | mk e s2 =>
       rw [ho] at this
       obtain ⟨i1,i2⟩:=ih (acc++[e]) s2 (fun e' he'=>by
        rcases yAv.1 he' with h1 | h1
        ·exact ha _ h1
        ·rcases yA3.1 h1 with rfl;exact this)
       exact ⟨i1,by simp only [yAG,List.length_singleton] at i2;simp only;omega⟩
theorem znh {ks:List Ex} {m:Nat} (h:∀k∈ks,k.lev≤m):ziV ks≤m:=by
 induction ks with
 | nil=>simp [ziV]
 | cons k r ih =>
   simp only [ziV]
   have:=h k (by simp)
   have:=ih fun k hk=>h k (by simp [hk])
   omega
theorem zhh {S w:Str} {kind:Int} {one':RS→Ex×RS} {m:Nat} (hS:S.length≤1000000) (h:∀q,Fit m (one' q).1) (q:RS):Fit (m+1) (zc3 S kind w one' q).1:=by
 unfold zc3
 have h0:=h q
 cases ho:one' q with
 | mk e0 s0 =>
   rw [ho] at h0
   simp only
   obtain ⟨i1,i2⟩:=zrh (S:=S) (w:=w) h (S.length+1) [e0] s0 (fun e he=>by rcases yA3.1 he with rfl;exact h0)
   have hmk:∀l:List Ex,(∀e∈l,Fit m e)→l.length≤S.length+2→Fit (m+1) (.mk kind [] false [] l):=by
    intro l h1 h2
    refine ⟨?_,?_⟩
    ·simp only [Small,yCs]
     exact ⟨by omega,by omega,by omega,zhx fun k hk=>(h1 k hk).1⟩
    ·simp only [Ex.lev]
     have:=znh fun k hk=>(h1 k hk).2
     omega
   cases hl:zaN S w one' (S.length+1) [e0] s0 with
   | mk l s1 =>
     rw [hl] at i1 i2
     simp only [List.length_singleton] at i1 i2
     match l with
     | [e]=>exact ⟨(i1 e (by simp)).1,by have:e.lev≤m:=(i1 e (by simp)).2;show e.lev≤m+1;omega⟩
     | []=>exact hmk _ i1 (by omega)
     | a::b::r=>exact hmk _ i1 (by omega)
theorem zob {S:Str} (hS:S.length≤1000000):∀d q,Fit (2*d+1) (zbz S d q).1:=by
 intro d
 induction d with
 | zero =>
   intro q
   unfold zbz
   simp only
   split
   ·refine ⟨?_,?_⟩
    ·simp [Ex.zero,Small,SmallL]
    ·simp [Ex.zero,Ex.lev,ziV]
   ·exact znB (zhI _ _) (by omega)
 | succ d ih =>
   intro q
   unfold zbz
   simp only
   split
   ·have hL:=zhh (kind:=3) (w:=sOR) hS (zhh (kind:=2) (w:=zfc) hS ih) (zb6 S 40 (zat S q)).2
    split
    ·split
     ·exact hL
     ·exact hL
    ·exact hL
   ·exact znB (zhI _ _) (by omega)
theorem zps {S:Str} (hS:S.length≤1000000):Fit 63 (zkS S).1:=by
 unfold zkS
 have hL:=zhh (kind:=3) (w:=sOR) hS (zhh (kind:=2) (w:=zfc) hS (zob hS 30)) ⟨0,0,0⟩
 simp only
 split
 ·exact hL
 ·exact hL
def licR (S:Str):Ex×Int×Int×Unit :=
 if 4000<S.length then (.zero,0,3,()) else
 match zhL S with
 | .err a c=>(.zero,(a:Int),c,())
 | .ok e _=>if chk e≠0 then (.zero,0,chk e,()) else (e,0,0,())
theorem zom {S:Str} {e:Ex} {s:PS} (hS:S.length≤1000000) (h:zhL S= .ok e s):Fit 63 e:=by
 have h1:=zm2 S
 rw [h] at h1
 obtain ⟨q,h2,_⟩:=h1
 have:=zps hS
 rw [h2] at this
 exact this
end LicSpec
namespace Pe.Tryz
open Go Go.Proofs Pe LicSpec
theorem zp1 (S:List UInt8):decide (4000<len S)=decide (4000<S.length):=by
 unfold len;congr 1;exact propext (by omega)
theorem L102 {n:Nat} (hn:110≤n) {S:List UInt8} (hS:S.length≤1000000) :
  zmi (zah n) S=some (match zhL S with | .err a c=> .inr ((a:Int),c,()) | .ok e _=> .inl (e,⟨0,0⟩,())):=by
 obtain ⟨m,rfl⟩:∃m,n=m+6:=⟨n - 6,by omega⟩
 obtain ⟨gs,hA⟩:=zoa hS 30 0 (by omega) (m+4) (by omega)
 obtain ⟨gO,aO⟩:=zpu hS gs hA
 unfold zmi zhL
 have h41:=G137 (n:=m+6) (by omega) (s:=ziO) hS (yAD _)
 rw [show (toR S ziO)=(Gt.Rdr.mk S 0 (Gt.Tok.mk 0 [] 0 false) 0) from rfl] at h41
 rw [h41]
 cases h1:zb2 S ziO with
 | err a c=>simp only [zcz,zbr]
 | ok u s =>
   obtain ⟨p1,_,_,p4⟩:=zdj h1 (yAD _)
   simp only [zcz,za4]
   rw [aO s p1 p4]
   unfold zjE
   cases h2:zg4 S 3 sOR (zg4 S 2 zfc (za9 S 30)) s with
   | err a c=>simp only [zcz,zbr]
   | ok e s' =>
     simp only [zcz,za4,toR,Ex.eta]
     by_cases hk:s'.kind=0
     ·have:(s'.kind != 0)=false:=by simp [hk]
      rw [this];simp [zab,zaj,hk]
     ·have:(s'.kind != 0)=true:=by simp [hk]
      rw [this]
      simp [zad,G139 (by omega:1≤m+6),zbr,zaG,hk]
theorem L60 {n:Nat} (hn:120≤n) (S:List UInt8):m60 (zah n) S=some (licR S):=by
 unfold m60 licR
 rw [zp1]
 by_cases h4:4000<S.length
 ·rw [decide_eq_true h4,if_pos h4];rfl
 rw [decide_eq_false h4,if_neg h4]
 simp only [zab]
 have hS:S.length≤1000000:=by omega
 obtain ⟨m,rfl⟩:∃m,n=m+1:=⟨n - 1,by omega⟩
 rw [q102,L102 (by omega) hS]
 have hpe:=zm2 S
 cases hp:zhL S with
 | err a c =>
   rw [hp] at hpe
   have:(c != 0)=true:=by simpa using hpe.1
   simp only [zaa,zb4,this,zad];rfl
 | ok e s =>
   have hf:=zom hS hp
   have h20:=L18 m e (by have:=hf.2;omega) hf.1
   refine Eq.trans (b:=ob (α:=Int×Unit) ((zah (m+1)).d 18 [.st 4 (Ex.mk e.kind e.name e.later e.wth e.kids)] [.int .i64]) fun (r2:Int×Unit)=>(br (r2.1 != 0) (some ((LicSpec.Ex.mk 0 [] false [] []),0,r2.1,())) (some ((LicSpec.Ex.mk e.kind e.name e.later e.wth e.kids),0,0,())))) rfl ?_
   simp only [zaa,Ex.eta,q18,h20]
   by_cases hc:chk e=0
   ·simp [hc,zab]
   ·have:(chk e != 0)=true:=by simpa using hc
    simp [hc,this,zad,LicSpec.Ex.zero]
theorem G60 {n:Nat} (hn:121≤n) (S:List UInt8): @Eq (Option (LicSpec.Ex×Int×Int×Unit)) ((zah n).d 60 [.str S] [(.st 4),(.int .i64),(.int .i64)]) (some (licR S)):=by
 obtain ⟨m,rfl⟩:∃m,n=m+1:=⟨n - 1,by omega⟩
 rw [q60];exact L60 (by omega) S
end Pe.Tryz
end
section
/- Print, the told text, and the first law in plain. -/
set_option maxRecDepth 100000
namespace LicSpec
open Go
def zo3:Str:=[32,87,73,84,72,32]
def tOR:Str:=[32,79,82,32]
def zsm:Str:=[32,65,78,68,32]
mutual
def txt:Ex→Str
 | .mk kind name later wth kids =>
   if kind=1 then (if later=true then name++[43] else name)++(if wth≠[] then zo3++wth else [])
   else Lib.join (zlX kind kids) (if kind=3 then tOR else zsm)
def zlX:Int→List Ex→List Str
 | _,[]=>[]
 | kind,k::r=>(if k.kind=kind∨k.kind=3 then [40]++txt k++[41] else txt k)::zlX kind r
end
def par (kind:Int) (k:Ex):Str:=if k.kind=kind∨k.kind=3 then [40]++txt k++[41] else txt k
theorem zhs (kind:Int) (k:Ex) (r:List Ex):zlX kind (k::r)=par kind k::zlX kind r:=by simp only [zlX,par]
theorem zrN (e:Ex):txt e=if e.kind=1 then (if e.later=true then e.name++[43] else e.name)++(if e.wth≠[] then zo3++e.wth else [])
  else Lib.join (zlX e.kind e.kids) (if e.kind=3 then tOR else zsm):=by cases e;simp only [txt]
theorem zlW (kind:Int) (l:List Ex):(zlX kind l).length=l.length:=by
 induction l with
 | nil=>simp [zlX]
 | cons k r ih=>simp [zhs,ih]
theorem zbX:∀{l:List Ex} {k:Ex},zbF l=0→k∈l→zcf k=0
 | x::r,k,h,hk=>by
   simp only [zbF] at h
   by_cases hx:zcf x=0
   ·rw [if_neg (by simp [hx])] at h
    rcases yAj.1 hk with rfl | hk
    ·exact hx
    ·exact zbX h hk
   ·rw [if_pos hx] at h;exact absurd h hx
theorem zbW {e:Ex} (h:zcf e=0):LicSpec.one e=0∧zbF e.kids=0:=by
 rw [zh6] at h
 by_cases ho:LicSpec.one e=0
 ·rw [if_neg (by simp [ho])] at h;exact ⟨ho,h⟩
 ·rw [if_pos ho] at h;exact absurd h ho
theorem zfN {e:Ex} (h:LicSpec.one e=0):1≤e.kind∧e.kind≤3∧(e.kind=1→e.kids=[]∧isName e.name=true∧(e.wth=[]∨isName e.wth=true))∧(e.kind≠1→e.name=[]∧e.later=false∧e.wth=[]∧2≤e.kids.length):=by
 rw [Pe.Tryz.one_cases] at h
 by_cases hk:e.kind<1∨3<e.kind
 ·rw [if_pos hk] at h;omega
 rw [if_neg hk] at h
 refine ⟨by omega,by omega,fun h1=> ?_,fun h1=> ?_⟩
 ·rw [if_neg (by simp [h1])] at h
  by_cases h2:0<e.kids.length
  ·rw [if_pos h2] at h;omega
  rw [if_neg h2] at h
  by_cases h3:isName e.name=false∨(e.wth≠[]∧isName e.wth=false)
  ·rw [if_pos h3] at h;omega
  ·refine ⟨yAJ.1 (by omega),?_,?_⟩
   ·cases hn:isName e.name with
    | true=>rfl
    | false=>exact absurd (.inl hn) h3
   ·by_cases hw:e.wth=[]
    ·exact .inl hw
    ·cases hn:isName e.wth with
     | true=>exact .inr rfl
     | false=>exact absurd (.inr ⟨hw,hn⟩) h3
 ·rw [if_pos h1] at h
  by_cases h2:e.name≠[]∨e.later=true∨e.wth≠[]∨e.kids.length<2
  ·rw [if_pos h2] at h;omega
  ·refine ⟨Classical.byContradiction fun h=>h2 (.inl h),?_,Classical.byContradiction fun h=>h2 (.inr (.inr (.inl h))),?_⟩
   ·cases hl:e.later with
    | false=>rfl
    | true=>exact absurd (.inr (.inl hl)) h2
   ·exact Nat.le_of_not_lt fun h=>h2 (.inr (.inr (.inr h)))
theorem zln (sep:Str) (hs:sep.length≤5) (r:List Str):(Lib.joinTail sep r).length≤(r.map (fun x=>x.length+5)).sum:=by
 induction r with
 | nil=>simp [Lib.joinTail]
 | cons y r ih =>
   unfold Lib.joinTail at ih ⊢
   simp only [yAn,yBC,yAG,yB7]
   omega
theorem zrm (sep:Str) (hs:sep.length≤5) (l:List Str):(Lib.join l sep).length≤(l.map (fun x=>x.length+5)).sum:=by
 cases l with
 | nil=>simp [Lib.join_nil]
 | cons x r =>
   rw [Lib.join_cons]
   have:=zln sep hs r
   simp only [yAG,yAn,yB7];omega
theorem zsp (kind:Int):(if kind=3 then tOR else zsm:Str).length≤5:=by split<;>decide
mutual
theorem zlV:∀(e:Ex),zcf e=0→(txt e).length+10≤140*e.cnt
 | .mk kind name later wth kids,h=>by
   obtain ⟨h1,h2⟩:=zbW h
   obtain ⟨_,_,o1,o2⟩:=zfN h1
   simp only at o1 o2 h2
   simp only [txt,Ex.cnt]
   by_cases hk:kind=1
   ·obtain ⟨rfl,n1,n2⟩:=o1 hk
    have l1:=zaZ n1
    rw [if_pos hk]
    have l2:(if later=true then name++[43] else name:Str).length≤61:=by
     split
     ·simp;omega
     ·omega
    have l3:(if wth≠[] then zo3++wth else []:Str).length≤66:=by
     rcases n2 with rfl | n2
     ·simp
     ·have:=zaZ n2
      split
      ·simp [zo3];omega
      ·simp
    rw [yAG];omega
   ·rw [if_neg hk]
    have:=zmJ kind kids h2
    have:=zrm (if kind=3 then tOR else zsm) (zsp kind) (zlX kind kids)
    omega
theorem zmJ:∀(kind:Int) (l:List Ex),zbF l=0→((zlX kind l).map (fun x=>x.length+5)).sum≤140*zf8 l
 | _,[],_=>by simp [zlX]
 | kind,k::r,h=>by
   have h1:=zlV k (zbX h (by simp))
   have h2:zbF r=0:=by
    simp only [zbF] at h
    split at h
    ·rename_i hx;exact absurd h hx
    ·exact h
   have h3:=zmJ kind r h2
   rw [zhs,yAn,yB7]
   simp only [zf8]
   have:(par kind k).length≤(txt k).length+2:=by
    unfold par;split
    ·simp
    ·omega
   omega
end
theorem zfY {e k:Ex} (h:k∈e.kids):k.cnt<e.cnt:=by
 cases e with
 | mk a b c d l=>have:k.cnt≤zf8 l:=zp4 h;simp only [Ex.cnt];omega
theorem zgD {e:Ex}:e.kids.length<e.cnt:=by
 cases e with
 | mk a b c d l =>
   simp only [Ex.cnt]
   have:∀l:List Ex,l.length≤zf8 l:=by
    intro l
    induction l with
    | nil=>simp
    | cons k r ih=>have:=k.cnt_pos;simp only [zf8,yAt];omega
   have:=this l
   omega
mutual
theorem ziF:∀(e:Ex),zcf e=0→e.cnt≤200→Small e
 | .mk kind name later wth kids,h,hc=>by
   obtain ⟨h1,h2⟩:=zbW h
   obtain ⟨_,_,o1,o2⟩:=zfN h1
   have hl:=zgD (e:= .mk kind name later wth kids)
   simp only at o1 o2 h2 hl
   simp only [Ex.cnt] at hc hl
   simp only [Small]
   refine ⟨?_,?_,by omega,zhw kids h2 (by omega)⟩
   ·by_cases hk:kind=1
    ·have:=zaZ (o1 hk).2.1;omega
    ·rw [(o2 hk).1];simp
   ·by_cases hk:kind=1
    ·rcases (o1 hk).2.2 with rfl | n
     ·simp
     ·have:=zaZ n;omega
    ·rw [(o2 hk).2.2.1];simp
theorem zhw:∀(l:List Ex),zbF l=0→zf8 l≤200→SmallL l
 | [],_,_=>by simp only [SmallL]
 | k::r,h,hc=>by
   simp only [zf8] at hc
   simp only [SmallL]
   refine ⟨ziF k (zbX h (by simp)) (by omega),zhw r ?_ (by omega)⟩
   simp only [zbF] at h
   split at h
   ·rename_i hx;exact absurd h hx
   ·exact h
end
theorem zkj {e:Ex} (h:chk e=0):e.cnt≤200∧e.lev≤30∧zcf e=0:=by
 unfold chk at h
 split at h
 ·omega
 ·exact ⟨by omega,by omega,h⟩
end LicSpec
namespace Pe.Tryz
open Go Go.Proofs Pe LicSpec
theorem L47:∀(n:Nat) (e:Ex),e.lev≤n→zcf e=0→e.cnt≤200→m47 (zah n) e=some (txt e,()):=by
 intro n
 induction n with
 | zero=>intro e h;have:=e.lev_pos;omega
 | succ n ih =>
   intro e hl hf hc
   obtain ⟨h1,h2⟩:=zbW hf
   obtain ⟨k1,k3,o1,o2⟩:=zfN h1
   have hlen:=zlV e hf
   unfold m47
   rw [zrN]
   by_cases hk:e.kind=1
   ·obtain ⟨n0,n1,n2⟩:=o1 hk
    have l1:=zaZ n1
    have e1:(e.kind==1)=true:=by simpa using hk
    rw [e1,if_pos hk]
    simp only [zad]
    have hw:e.wth.length≤60:=by
     rcases n2 with h | h
     ·rw [h];simp
     ·exact zaZ h
    have hlim:lim=4294967296:=rfl
    rw [zax (l:=e.name) (r:=[43]) (by simp;omega)]
    have fin:∀a:List UInt8,a.length≤61→(br (e.wth != []) (ob (zaS ([32,87,73,84,72,32]:List UInt8) e.wth) fun s3=>(ob (zaS a s3) fun s4=>(some (s4,())))) (some (a,())))=some (a++(if e.wth≠[] then zo3++e.wth else []),()):=by
     intro a ha
     by_cases h0:e.wth=[]
     ·simp [h0,zab]
     ·have:(e.wth != [])=true:=by simpa using h0
      rw [this,zax (by simp;omega),if_pos h0]
      simp only [zad,zaa]
      rw [zax (by simp;omega)];rfl
    cases hla:e.later with
    | true =>
      simp only [zad,zaa,zaj,if_true]
      exact fin _ (by simp;omega)
    | false =>
      simp only [zab,zaa,zaj,yCf,if_false]
      exact fin _ (by omega)
   ·have e1:(e.kind==1)=false:=by simpa using hk
    rw [e1,if_neg hk]
    simp only [zab]
    have e3:br (e.kind==3) (some (Sum.inl ([32,79,82,32],())):Option ((List UInt8×Unit)⊕(List UInt8×Unit))) (some (.inl ([32,65,78,68,32],())))=some (.inl ((if e.kind=3 then tOR else zsm),())):=by
     by_cases h3:e.kind=3
     ·simp [h3,zad,tOR]
     ·have:(e.kind==3)=false:=by simpa using h3
      simp [h3,this,zab,zsm]
    rw [e3]
    simp only [zaj]
    have hkl:e.kids.length<e.cnt:=zgD
    have hlim:lim=4294967296:=rfl
    rw [show (([]:List (List UInt8)),(0:Int),())=((fun (k:Nat) (a:List (List UInt8))=>(a,(k:Int),())) 0 []) from rfl]
    rw [zb9 (R:=(List (List UInt8)×Unit)⊕(List UInt8×Unit)) (fun (k:Nat) (a:List (List UInt8))=>(a,(k:Int),())) e.kids.length (fun k a=> .inl (a++zlX e.kind (e.kids.drop k),())) (fun k a=>a.length=k) ?h1 0 [] (yAD _) rfl]
    case h1 =>
     intro k a hk' ha
     simp only
     by_cases hlt:k<e.kids.length
     ·have hmem:e.kids[k]∈e.kids:=yAl hlt
      have hlk:=zdt hmem
      have hck:=zfY hmem
      have hfk:=zbX h2 hmem
      have hih:=ih e.kids[k] (by omega) hfk (by omega)
      have htl:=zlV _ hfk
      left
      refine ⟨a++[par e.kind e.kids[k]],hlt,?_,by simp [ha],?_⟩
      ·simp only [zam,hlt,decide_true,zad,zaa,zak hlt,Ex.eta,q47,hih,zaI,zcn]
       have hcond:((e.kids[k].kind==e.kind)||(e.kids[k].kind==3))=decide (e.kids[k].kind=e.kind∨e.kids[k].kind=3):=by
        by_cases a1:e.kids[k].kind=e.kind<;>by_cases a2:e.kids[k].kind=3<;>simp [a1,a2]
       rw [hcond]
       unfold par
       by_cases hp:e.kids[k].kind=e.kind∨e.kids[k].kind=3
       ·rw [decide_eq_true hp,if_pos hp]
        simp only [zad]
        rw [zax (by simp;omega)]
        simp only [zaa]
        rw [zax (by simp;omega)]
        simp only [zaa,zaj]
        rw [zax (by simp;omega)]
        simp only [zaa,zae hlt (by omega:e.kids.length≤9223372036854775807)]
       ·rw [decide_eq_false hp,if_neg hp]
        simp only [zab,zaj]
        rw [zax (by simp;omega)]
        simp only [zaa,zae hlt (by omega:e.kids.length≤9223372036854775807)]
      ·rw [zdd hlt,zhs];simp
     ·right
      simp only [zam,hlt,decide_false,zab]
      rw [yAx (by omega)];simp [zlX]
    simp only [zaj,yBa,yBe]
    rw [q89]
    have b1:Nat.ble (zlX e.kind e.kids).length 1000000=true:=by rw [yAR,zlW];omega
    have b2:Nat.ble (Lib.join (zlX e.kind e.kids) (if e.kind=3 then tOR else zsm)).length 100000000=true:=by
     rw [yAR]
     rw [zrN,if_neg hk] at hlen
     omega
    rw [b1,b2];rfl
theorem L12 {n:Nat} (hn:220≤n) {e:Ex} (h:chk e=0):m12 (zah n) e=some (if 4000<(txt e).length then ([],3,()) else (txt e,0,())):=by
 obtain ⟨c1,c2,c3⟩:=zkj h
 obtain ⟨m,rfl⟩:∃m,n=m+1:=⟨n - 1,by omega⟩
 have h20:=L18 m e (by omega) (ziF e c3 c1)
 have h26:=L47 m e (by omega) c3 c1
 unfold m12
 simp only [Ex.eta,q18,h20,zaa,h,show ((0:Int) != 0)=false from rfl,zab,q47,h26,zp1]
 by_cases hx:4000<(txt e).length
 ·rw [decide_eq_true hx,if_pos hx];rfl
 ·rw [decide_eq_false hx,if_neg hx];rfl
def zsd:List UInt8:=[109,105,116,32,111,114,32,40,103,112,108,45,50,43,32,119,105,116,104,32,108,105,110,107,105,110,103,32,97,110,100,32,98,115,100,41]
def toldT:List UInt8:=[109,105,116,32,79,82,32,103,112,108,45,50,43,32,87,73,84,72,32,108,105,110,107,105,110,103,32,65,78,68,32,98,115,100]
def zse:Ex:= .mk 3 [] false [] [.mk 1 [109,105,116] false [] [],.mk 2 [] false [] [.mk 1 [103,112,108,45,50] true [108,105,110,107,105,110,103] [],.mk 1 [98,115,100] false [] []]]
theorem zqG:chk zse=0:=by kernel_rfl
theorem zo1:licR zsd=(zse,0,0,()):=by kernel_rfl
theorem zqF:txt zse=toldT:=by kernel_rfl
theorem L22 {n:Nat} (hn:230≤n):m22 (zah n)=some (true,()):=by
 obtain ⟨m,rfl⟩:∃m,n=m+1:=⟨n - 1,by omega⟩
 unfold m22
 have h7:=G60 (n:=m+1) (by omega) zsd
 rw [zo1] at h7
 rw [show ([109,105,116,32,111,114,32,40,103,112,108,45,50,43,32,119,105,116,104,32,108,105,110,107,105,110,103,32,97,110,100,32,98,115,100,41]:List UInt8)=zsd from rfl,h7]
 have h11:=L12 (n:=m) (by omega) zqG
 rw [zqF,if_neg (by decide)] at h11
 simp only [zaa,Ex.eta,q12,h11]
 rfl
theorem G22 {n:Nat} (hn:231≤n): @Eq (Option (Bool×Unit)) ((zah n).d 22 [] [.bool]) (some (true,())):=by
 obtain ⟨m,rfl⟩:∃m,n=m+1:=⟨n - 1,by omega⟩
 rw [q22];exact L22 (by omega)
end Pe.Tryz
end
