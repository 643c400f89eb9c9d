/- PROVED HERE: a part of the seat's proofs; see the text that holds the claim's theorem. -/
import Derived.Test.YteimbekcnkogoaaGreatDoorLizB
import Derived.Test.YteimbekcnkogoaaGreatDoorPeE
section
/- The plain laws of what the licence functions compute: aids, and the functions on bytes and names. -/
set_option maxRecDepth 100000
namespace Pe
end Pe
namespace LicSpec
theorem Ex.eta (e:Ex):Ex.mk e.kind e.name e.later e.wth e.kids=e:=by cases e;rfl
end LicSpec
namespace Pe.Tryz
open Go Go.Proofs Pe LicSpec
theorem isRun_int (c:UInt8):LicSpec.isRun c=((decide (97≤(c.toNat:Int))&&decide ((c.toNat:Int)≤122))||(decide (65≤(c.toNat:Int))&&decide ((c.toNat:Int)≤90))||(decide (48≤(c.toNat:Int))&&decide ((c.toNat:Int)≤57))||(c.toNat:Int)==46||(c.toNat:Int)==45):=by
 have h:∀n:Nat,n<256→(UInt8.ofNat n).toNat=n:=fun n hn=>by simp [UInt8.toNat_ofNat'];omega
 have h2:∀n:Nat,n<256→LicSpec.isRun (UInt8.ofNat n)=((decide (97≤(n:Int))&&decide ((n:Int)≤122))||(decide (65≤(n:Int))&&decide ((n:Int)≤90))||(decide (48≤(n:Int))&&decide ((n:Int)≤57))||(n:Int)==46||(n:Int)==45):=by decide+revert
 have h3:=h2 c.toNat c.toNat_lt
 simpa using h3
theorem L134 (o:Orc Sx) (c:UInt8):m134 o (c.toNat:Int)=some (LicSpec.isRun c,()):=by
 unfold m134
 simp only [br_some_eq,ob_some_eq,cond_or,cond_and,isRun_int,Bool.or_assoc]
theorem L133 (o:Orc Sx) (s:List UInt8):m133 o s=some (LicSpec.isWord s,()):=by
 unfold m133 LicSpec.isWord sAND sOR sWITH sand sor swith
 simp only [br_some_eq]
 cases s==[65,78,68]<;>cases s==[79,82]<;>cases s==[87,73,84,72]<;>cases s==[97,110,100]<;>cases s==[111,114]<;>cases s==[119,105,116,104]<;>rfl
theorem drop_all {s:List UInt8} {k:Nat} (h:k<s.length):(s.drop k).all LicSpec.isRun=(LicSpec.isRun s[k]&&(s.drop (k+1)).all LicSpec.isRun):=by
 rw [List.drop_eq_getElem_cons h];rfl
theorem L100 (n:Nat) (s:List UInt8) (hs:s.length≤1000000000):m100 (orcN (n+1)) s=some (LicSpec.isName s,()):=by
 unfold m100
 have hloop:loopM (R:=Unit⊕(Bool×Unit)) (fun (t8:Int×Unit)=>(br (decide (t8.1<(len s))) (ob (at? s t8.1) fun c9=>(ob (α:=Bool×Unit) ((orcN (n+1)).d 134 [.int .u8 (UInt8.toNat c9:Int)] [.bool]) fun (r10:Bool×Unit)=>(br (!r10.1) (some (.inr (.inr (false,())))) (some (.inl ((IntKind.i64.wrap (t8.1+1)),())))))) (some (.inr (.inl (())))))) (((0:Nat):Int),())=some (if s.all LicSpec.isRun then .inl () else .inr (false,())):=by
  have:=loop_ix (f:=fun (t8:Int×Unit)=>(br (decide (t8.1<(len s))) (ob (at? s t8.1) fun c9=>(ob (α:=Bool×Unit) ((orcN (n+1)).d 134 [.int .u8 (UInt8.toNat c9:Int)] [.bool]) fun (r10:Bool×Unit)=>(br (!r10.1) (some (.inr (.inr (false,())))) (some (.inl ((IntKind.i64.wrap (t8.1+1)),())))))) (some (.inr (.inl (())))))) s.length (fun k=>if (s.drop k).all LicSpec.isRun then (.inl ():Unit⊕(Bool×Unit)) else .inr (false,())) (fun k hk=> ?_) 0 (Nat.zero_le _)
  ·simpa using this
  ·by_cases hlt:k<s.length
   ·simp only [len_lt,hlt,decide_true,br_true,at?_get hlt,ob_some_eq,q134,L134]
    cases hr:LicSpec.isRun s[k] with
    | true =>
      left
      simp only [Bool.not_true,br_false]
      exact ⟨by first | trivial | exact hlt,by rw [wrap_succ hlt (by omega)],by rw [drop_all hlt,hr];rfl⟩
    | false =>
      right
      simp only [Bool.not_false,br_true]
      rw [drop_all hlt,hr];rfl
   ·right
    simp only [len_lt,hlt,decide_false,br_false]
    rw [List.drop_of_length_le (by omega)];rfl
 rw [show ((0:Int),())=(((0:Nat):Int),()) from rfl,hloop]
 simp only [br_some_eq,ob_some_eq,cond_or]
 unfold LicSpec.isName
 cases s with
 | nil=>rfl
 | cons c r =>
   have h0:at? (c::r) 0=some c:=rfl
   have e46:(((c.toNat:Int))==46)=(some c==some 46):=by
    have:((c.toNat:Int)=46)↔c=46:=⟨fun h=>UInt8.toNat.inj (by simpa using (by omega:c.toNat=46)),fun h=>by subst h;rfl⟩
    by_cases h:c=46
    ·subst h;rfl
    ·have h1:¬(c.toNat:Int)=46:=fun h'=>h (this.1 h')
     rw [beq_eq_false_iff_ne.2 h1,beq_eq_false_iff_ne.2 (by simpa using h)]
   have e45:(((c.toNat:Int))==45)=(some c==some 45):=by
    have:((c.toNat:Int)=45)↔c=45:=⟨fun h=>UInt8.toNat.inj (by simpa using (by omega:c.toNat=45)),fun h=>by subst h;rfl⟩
    by_cases h:c=45
    ·subst h;rfl
    ·have h1:¬(c.toNat:Int)=45:=fun h'=>h (this.1 h')
     rw [beq_eq_false_iff_ne.2 h1,beq_eq_false_iff_ne.2 (by simpa using h)]
   have e60:decide (60<len (c::r))=decide (60<(c::r).length):=by unfold len;exact decide_eq_decide.2 (by omega)
   simp only [h0,ob_some_eq,q133,L133,e46,e45,e60,List.isEmpty_cons,List.head?_cons,Bool.false_or,show ((c::r)==([]:List UInt8))=false from rfl,br_some_eq,cond_or]
   cases hA:decide (60<(c::r).length) with
   | true=>simp [br_if,cutM]
   | false =>
     cases hB:(some c==some 46) with
     | true=>simp [br_if,cutM]
     | false =>
       cases hC:(some c==some 45) with
       | true=>simp [br_if,cutM]
       | false =>
         cases hD:LicSpec.isWord (c::r) with
         | true=>simp [br_if,cutM]
         | false =>
           cases hE:(c::r).all LicSpec.isRun<;>simp [br_if,cutM]
end Pe.Tryz
end
section
/- The plain laws of the token reader. -/
set_option maxRecDepth 100000
namespace Pe.Tryz
open Go Go.Proofs Pe LicSpec
theorem q172 (n:Nat) (s:List UInt8): @Eq (Option (List UInt8×Unit)) ((orcN (n+1)).d 172 [.str s] [.str]) (bif Nat.ble s.length 1000000&&s.all (fun b=>Nat.blt b.toNat 128) then some (Lib.toUpperA s,()) else none):=by kernel_rfl
theorem q102 (n:Nat) (s:List UInt8): @Eq (Option (Ex×Gt.Licence_fault×Unit)) ((orcN (n+1)).d 102 [.str s] [.st 4,.st 7]) (match mread (orcN n) s with
 | some (.inl c)=>some c
 | some (.inr p)=>some (LicSpec.Ex.zero,⟨p.1,p.2.1⟩,())
 | none=>none):=by kernel_rfl
theorem q89 (n:Nat) (l:List (List UInt8)) (s:List UInt8): @Eq (Option (List UInt8×Unit)) ((orcN (n+1)).d 89 [.sl .str l,.str s] [.str]) (bif Nat.ble l.length 1000000&&Nat.ble (Lib.join l s).length 100000000 then some (Lib.join l s,()) else none):=by kernel_rfl
theorem upper_word {s:List UInt8} (h:LicSpec.isWord s=true):s.length≤4∧s.all (fun b=>Nat.blt b.toNat 128)=true∧Lib.toUpperA s=LicSpec.wordR s:=by
 unfold LicSpec.isWord at h
 simp only [Bool.or_eq_true,beq_iff_eq] at h
 rcases h with ((((rfl | rfl) | rfl) | rfl) | rfl) | rfl<;>exact ⟨by decide,by decide,by decide⟩
theorem L172 (n:Nat) {s:List UInt8} (h:LicSpec.isWord s=true): @Eq (Option (List UInt8×Unit)) ((orcN (n+1)).d 172 [.str s] [.str]) (some (LicSpec.wordR s,())):=by
 obtain ⟨h1,h2,h3⟩:=upper_word h
 rw [q172,h2,h3]
 have:Nat.ble s.length 1000000=true:=by rw [Nat.ble_eq];omega
 rw [this];rfl
theorem byte_eq (c d:UInt8):(((c.toNat:Int))==(d.toNat:Int))=(c==d):=by
 by_cases h:c=d
 ·subst h;simp
 ·have h1:¬(c.toNat:Int)=(d.toNat:Int):=fun h'=>h (UInt8.toNat.inj (by omega))
  rw [beq_eq_false_iff_ne.2 h1,beq_eq_false_iff_ne.2 h]
theorem blank_int (c:UInt8):LicSpec.isBlank c=((((c.toNat:Int))==32||((c.toNat:Int))==9)||((c.toNat:Int))==10):=by
 have h1:=byte_eq c 32
 have h2:=byte_eq c 9
 have h3:=byte_eq c 10
 unfold LicSpec.isBlank
 rw [←h1,←h2,←h3];rfl
theorem skipB_at {S:List UInt8} {k:Nat} (h:k<S.length):LicSpec.skipB (S.drop k)=if LicSpec.isBlank S[k] then LicSpec.skipB (S.drop (k+1))+1 else 0:=by
 rw [List.drop_eq_getElem_cons h];rfl
theorem runL_at {S:List UInt8} {k:Nat} (h:k<S.length):LicSpec.runL (S.drop k)=if LicSpec.isRun S[k] then LicSpec.runL (S.drop (k+1))+1 else 0:=by
 rw [List.drop_eq_getElem_cons h];rfl
theorem skipB_le (r:List UInt8):LicSpec.skipB r≤r.length:=by
 induction r with
 | nil=>simp [LicSpec.skipB]
 | cons c r ih=>unfold LicSpec.skipB;split<;>simp<;>omega
def toR (S:List UInt8) (s:PS):Gt.Rdr:=⟨S,s.fin,⟨s.kind,s.text,s.at_,s.tight⟩,s.opn⟩
def outR {α β:Type} (S:List UInt8) (inj:α→β):Res α→((Gt.Rdr×Unit)×β)⊕(Int×Int×Unit)
 | .ok a s=> .inl ((toR S s,()),inj a)
 | .err a c=> .inr ((a:Int),c,())
theorem at_end (S:List UInt8) (k:Nat):((k:Int)==len S)=decide (k=S.length):=by
 unfold len
 by_cases h:k=S.length
 ·subst h;simp
 ·have:¬(k:Int)=(S.length:Int):=by omega
  rw [beq_eq_false_iff_ne.2 this];simp [h]
theorem L139 (n:Nat) (a c:Int): @Eq (Option ((Unit×Unit)⊕(Int×Int×Unit))) ((orcN (n+1)).e 139 [.int .i64 a,.int .i64 c] [] [] () [] [.int .i64,.int .i64] 123) (some (.inr (a,c,()))):=by
 rw [q139];rfl
set_option maxHeartbeats 1000000 in
theorem L137 (n:Nat) (S:List UInt8) (s:PS) (hS:S.length≤1000000) (hf:s.fin≤S.length) :
  m137 (orcN (n+2)) (toR S s,())=some (outR S (fun _=>()) (pNext S s)):=by
 unfold m137
 simp only [toR]
 rw [loop_ix (R:=(Int×Unit)⊕(((Gt.Rdr×Unit)×Unit)⊕(Int×Int×Unit))) S.length (fun k=> .inl (((k+LicSpec.skipB (S.drop k):Nat):Int),())) ?h1 s.fin hf]
 case h1 =>
  intro k hk
  by_cases hlt:k<S.length
  ·simp only [len_lt,hlt,decide_true,at?_get hlt,ob_some_eq,br_some_eq,cond_or,←blank_int]
   rw [skipB_at hlt]
   cases hb:LicSpec.isBlank S[k] with
   | true=>left;exact ⟨trivial,by rw [wrap_succ hlt (by omega)];rfl,by simp;omega⟩
   | false=>right;simp
  ·right
   simp only [len_lt,hlt,decide_false,br_false,ob_some_eq]
   rw [List.drop_of_length_le (by omega)];rfl
 simp only [cutM_inl]
 have hsk:=skipB_le (S.drop s.fin)
 rw [List.length_drop] at hsk
 unfold pNext
 generalize ha:s.fin+LicSpec.skipB (S.drop s.fin)=a
 have hale:a≤S.length:=by omega
 have htight:(bif ((a:Int)==(s.fin:Int)) then decide (0<(a:Int)) else false)=(decide (a=s.fin)&&decide (0<a)):=by
  rw [cond_and]
  congr 1
  ·by_cases h:a=s.fin
   ·rw [h];simp
   ·have:¬(a:Int)=(s.fin:Int):=by omega
    rw [beq_eq_false_iff_ne.2 this];simp [h]
  ·exact decide_eq_decide.2 (by omega)
 simp only [br_some_eq,htight,ob_some_eq,at_end]
 by_cases hend:a=S.length
 ·have hd:S.drop a=[]:=List.drop_of_length_le (by omega)
  simp only [hend,decide_true,br_true]
  rw [←hend,hd]
  simp [tokAt,outR,toR]
 ·have hlt:a<S.length:=by omega
  simp only [hend,decide_false,br_false]
  rw [show ((0:Int),())=(((0:Nat):Int),()) from rfl]
  rw [loop_ix (R:=(Int×Unit)⊕(((Gt.Rdr×Unit)×Unit)⊕(Int×Int×Unit))) (S.length - a) (fun k=> .inl (((k+LicSpec.runL (S.drop (a+k)):Nat):Int),())) ?h2 0 (by omega)]
  case h2 =>
   intro k hk
   have hw:IntKind.i64.wrap ((a:Int)+(k:Int))=((a+k:Nat):Int):=by rw [wrap_id (by omega) (by omega)];rfl
   simp only [hw]
   by_cases hlt2:a+k<S.length
   ·simp only [len_lt,hlt2,decide_true,br_true,at?_get hlt2,ob_some_eq,q134,L134]
    rw [runL_at hlt2]
    cases hb:LicSpec.isRun S[a+k] with
    | true=>left;exact ⟨by omega,by rw [wrap_succ (n:=S.length) (by omega) (by omega)];rfl,by simp [Nat.add_assoc];omega⟩
    | false=>right;simp
   ·right
    simp only [len_lt,hlt2,decide_false,br_false,ob_some_eq]
    rw [List.drop_of_length_le (by omega)];rfl
  simp only [Nat.add_zero,Nat.zero_add]
  simp only [cutM_inl]
  have hrl:=runL_le (S.drop a)
  rw [List.length_drop] at hrl
  obtain ⟨c,r,hcr⟩:∃c r,S.drop a=c::r:=⟨_,_,List.drop_eq_getElem_cons hlt⟩
  have hc:S[a]=c:=by
   have h:=List.drop_eq_getElem_cons hlt
   rw [hcr] at h
   injection h with h1 _
   exact h1.symm
  generalize hrn:LicSpec.runL (S.drop a)=m at hrl ⊢
  unfold tokAt
  rw [hcr]
  simp only
  rw [←hcr,hrn]
  by_cases hm:m=0
  ·subst hm
   simp only [at?_get hlt,ob_some_eq,hc,show (((0:Nat):Int)==0)=true from rfl,br_true,if_true,L139,oc_inr,same_self]
   have hw1:IntKind.i64.wrap ((a:Int)+1)=((a+1:Nat):Int):=by rw [wrap_id (by omega) (by omega)];rfl
   have b43:((c.toNat:Int)==43)=(c==43):=byte_eq c 43
   have b40:((c.toNat:Int)==40)=(c==40):=byte_eq c 40
   have b41:((c.toNat:Int)==41)=(c==41):=byte_eq c 41
   rw [b43,b40,b41]
   by_cases h43:c=43
   ·subst h43
    simp [br_true,cutM_inl,hw1,outR,toR]
   ·by_cases h40:c=40
    ·subst h40
     simp [br_true,br_false,cutM_inl,hw1,outR,toR]
    ·by_cases h41:c=41
     ·subst h41
      simp [br_true,br_false,cutM_inl,hw1,outR,toR]
     ·simp [beq_eq_false_iff_ne.2 h43,beq_eq_false_iff_ne.2 h40,beq_eq_false_iff_ne.2 h41,br_false,cutM_inr,outR,h43,h40,h41]
  ·have hm0:(((m:Nat):Int)==0)=false:=by rw [beq_eq_false_iff_ne];omega
   have hw:IntKind.i64.wrap ((a:Int)+(m:Int))=((a+m:Nat):Int):=by rw [wrap_id (by omega) (by omega)];rfl
   simp only [hm0,br_false,same_self,hw,part?_nat (show a≤a+m by omega) (show a+m≤S.length by omega),Nat.add_sub_cancel_left,ob_some_eq,cutM_inl,q133,L133,hm,if_false]
   have hlen:((S.drop a).take m).length≤1000000000:=by rw [List.length_take,List.length_drop];omega
   cases hw1:LicSpec.isWord ((S.drop a).take m) with
   | true =>
     simp only [br_true,L172 (n+1) hw1,ob_some_eq,cutM_inl,if_true,hw]
     simp [outR,toR]
   | false =>
     simp only [br_false,q100,L100 n _ hlen,ob_some_eq]
     cases hn1:LicSpec.isName ((S.drop a).take m) with
     | true=>simp [br_false,cutM_inl,hw,outR,toR]
     | false=>simp [br_true,L139,oc_inr,cutM_inr,outR]
end Pe.Tryz
end
section
/- The plain laws of the token reader: expressions. -/
set_option maxRecDepth 100000
namespace Pe.Tryz
open Go Go.Proofs Pe LicSpec
theorem L41e (n:Nat) (S:List UInt8) (s:PS) (hS:S.length≤1000000) (hf:s.fin≤S.length) :
  @Eq (Option (((Gt.Rdr×Unit)×Unit)⊕(Int×Int×Unit))) ((orcN (n+3)).e 137 [.ptr 0 0] [162] [.st 9] ((toR S s,()):Gt.Rdr×Unit) [] [.int .i64,.int .i64] 123) (some (outR S (fun _=>()) (pNext S s))):=by
 rw [q137,L137 n S s hS hf]
theorem tok_n {r:List UInt8} {k:Int} {t:List UInt8} {n:Nat} (h:tokAt r=some (k,t,n)):n≤r.length∧(k=0∨0<n):=by
 unfold tokAt at h
 split at h
 ·cases h;exact ⟨by simp,.inl rfl⟩
 ·rename_i c r'
  simp only at h
  split at h
  ·split at h
   ·cases h;exact ⟨by simp,.inr (by decide)⟩
   ·split at h
    ·cases h;exact ⟨by simp,.inr (by decide)⟩
    ·split at h
     ·cases h;exact ⟨by simp,.inr (by decide)⟩
     ·cases h
  ·rename_i h0
   have hle:=runL_le (c::r')
   split at h
   ·cases h;exact ⟨hle,.inr (by omega)⟩
   ·split at h
    ·cases h;exact ⟨hle,.inr (by omega)⟩
    ·cases h
theorem pNext_ok {S:List UInt8} {s s':PS} {u:Unit} (h:pNext S s= .ok u s') (hf:s.fin≤S.length):s'.fin≤S.length∧s.fin≤s'.fin∧(s'.kind≠0→s.fin<s'.fin)∧s'.opn=s.opn:=by
 unfold pNext at h
 simp only at h
 have hsk:=skipB_le (S.drop s.fin)
 rw [List.length_drop] at hsk
 split at h
 ·cases h
 ·rename_i k t n htok
  obtain ⟨h1,h2⟩:=tok_n htok
  rw [List.length_drop] at h1
  cases h
  simp only
  by_cases hk:k=0
  ·subst hk;simp;omega
  ·rw [if_neg hk]
   rcases h2 with h2 | h2
   ·exact absurd h2 hk
   ·exact ⟨by omega,by omega,fun _=>by omega,trivial⟩
theorem L203 (n:Nat) (S:List UInt8) (s:PS) (w:List UInt8) (hS:S.length≤1000000) (hf:s.fin≤S.length) :
  @Eq (Option (((Gt.Rdr×Unit)×(Bool×Unit))⊕(Int×Int×Unit))) ((orcN (n+4)).e 203 [.ptr 0 0,.str w] [162] [.st 9] ((toR S s,()):Gt.Rdr×Unit) [.bool] [.int .i64,.int .i64] 123) (some (outR S (fun b=>(b,())) (pIs S w s))):=by
 rw [q203]
 unfold m203 pIs
 simp only [L41e n S s hS hf]
 by_cases hk:s.kind=2
 ·by_cases ht:s.text=w
  ·simp only [hk,ht,and_self,if_true]
   have e1:(toR S s).now.kind=2:=hk
   have e2:(toR S s).now.text=w:=ht
   simp only [e1,e2,show ((2:Int) != 2)=false from rfl,bne_self_eq_false,br_false,ob_some_eq]
   cases hp:pNext S s with
   | ok u s'=>simp [outR,oc_inl]
   | err a c=>simp [outR,oc_inr]
  ·have e1:(toR S s).now.kind=2:=hk
   have e2:((toR S s).now.text != w)=true:=by simpa [toR] using ht
   simp only [e1,e2,show ((2:Int) != 2)=false from rfl,br_false,br_true,ob_some_eq,hk,ht,and_false,if_false]
   simp [outR]
 ·have e1:((toR S s).now.kind != 2)=true:=by simpa [toR] using hk
  simp only [e1,br_true,ob_some_eq,hk,false_and,if_false]
  simp [outR]
theorem L221 (n:Nat) (S:List UInt8) (s:PS) (hS:S.length≤1000000) (hf:s.fin≤S.length) :
  @Eq (Option (((Gt.Rdr×Unit)×(List UInt8×Unit))⊕(Int×Int×Unit))) ((orcN (n+4)).e 221 [.ptr 0 0] [162] [.st 9] ((toR S s,()):Gt.Rdr×Unit) [.str] [.int .i64,.int .i64] 123) (some (outR S (fun b=>(b,())) (pName S s))):=by
 rw [q221]
 unfold m221 pName
 simp only [L41e n S s hS hf]
 by_cases hk:s.kind=1
 ·have e1:(toR S s).now.kind=1:=hk
  simp only [e1,show ((1:Int) != 1)=false from rfl,br_false,cutM_inl,hk,ne_eq,not_true_eq_false,if_false]
  cases hp:pNext S s with
  | ok u s'=>simp [outR,oc_inl,toR]
  | err a c=>simp [outR,oc_inr]
 ·have e1:((toR S s).now.kind != 1)=true:=by simpa [toR] using hk
  simp only [e1,br_true,L139,oc_inr,cutM_inr,hk,ne_eq,not_false_eq_true,if_true]
  simp [outR,toR]
end Pe.Tryz
end
section
/- The plain laws of the token reader: rows of expressions, and all of a text. -/
set_option maxRecDepth 100000
namespace Pe.Tryz
open Go Go.Proofs Pe LicSpec
abbrev RTup:=List UInt8×Int×Int×List UInt8×Int×Bool×Int×Int×List UInt8×Bool×List UInt8×List Ex×Unit
noncomputable def rowB (orc:Orc Sx) (f:FuncId) (w:List UInt8):RTup→Option (RTup⊕(RTup⊕(((Gt.Rdr×Unit)×(Ex×Unit))⊕(Int×Int×Unit)))):=(fun (t4:List UInt8×Int×Int×List UInt8×Int×Bool×Int×Int×List UInt8×Bool×List UInt8×List (LicSpec.Ex)×Unit)=>(oc (α:=((Gt.Rdr×Unit)×(Bool×Unit))) (β:=Int×Int×Unit) (orc.e 203 [.ptr 0 0,.str w] [162] [(.st 9)] (((Gt.Rdr.mk t4.1 t4.2.1 (Gt.Tok.mk t4.2.2.1 t4.2.2.2.1 t4.2.2.2.2.1 t4.2.2.2.2.2.1) t4.2.2.2.2.2.2.1),()):Gt.Rdr×Unit) [.bool] [(.int .i64),(.int .i64)] 123) (fun (r5:((Gt.Rdr×Unit)×(Bool×Unit)))=>(br r5.2.1 (same (oc (α:=((Gt.Rdr×Unit)×(LicSpec.Ex×Unit))) (β:=Int×Int×Unit) (orc.e f [.ptr 0 0] [162] [(.st 9)] ((r5.1.1,()):Gt.Rdr×Unit) [(.st 4)] [(.int .i64),(.int .i64)] 123) (fun (r6:((Gt.Rdr×Unit)×(LicSpec.Ex×Unit)))=>(ob (cat? t4.2.2.2.2.2.2.2.2.2.2.2.1 [r6.2.1]) fun l7=>(some (.inl ((Gt.Rdr.s r6.1.1),(Gt.Rdr.end_ r6.1.1),(Gt.Tok.kind (Gt.Rdr.now r6.1.1)),(Gt.Tok.text (Gt.Rdr.now r6.1.1)),(Gt.Tok.at_ (Gt.Rdr.now r6.1.1)),(Gt.Tok.tight (Gt.Rdr.now r6.1.1)),(Gt.Rdr.open_ r6.1.1),t4.2.2.2.2.2.2.2.1,t4.2.2.2.2.2.2.2.2.1,t4.2.2.2.2.2.2.2.2.2.1,t4.2.2.2.2.2.2.2.2.2.2.1,l7,()))))) fun (p8:Int×Int×Unit)=>(some (.inr (.inr (.inr (p8.1,p8.2.1,())))))) (oc (α:=((Gt.Rdr×Unit)×(LicSpec.Ex×Unit))) (β:=Int×Int×Unit) (orc.e f [.ptr 0 0] [162] [(.st 9)] ((r5.1.1,()):Gt.Rdr×Unit) [(.st 4)] [(.int .i64),(.int .i64)] 123) (fun (r9:((Gt.Rdr×Unit)×(LicSpec.Ex×Unit)))=>(same (ob (cat? t4.2.2.2.2.2.2.2.2.2.2.2.1 [r9.2.1]) fun l10=>(some (.inl ((Gt.Rdr.s r9.1.1),(Gt.Rdr.end_ r9.1.1),(Gt.Tok.kind (Gt.Rdr.now r9.1.1)),(Gt.Tok.text (Gt.Rdr.now r9.1.1)),(Gt.Tok.at_ (Gt.Rdr.now r9.1.1)),(Gt.Tok.tight (Gt.Rdr.now r9.1.1)),(Gt.Rdr.open_ r9.1.1),t4.2.2.2.2.2.2.2.1,t4.2.2.2.2.2.2.2.2.1,t4.2.2.2.2.2.2.2.2.2.1,t4.2.2.2.2.2.2.2.2.2.2.1,l10,())))) (ob (cat? t4.2.2.2.2.2.2.2.2.2.2.2.1 [r9.2.1]) fun l11=>(some (.inl ((Gt.Rdr.s r9.1.1),(Gt.Rdr.end_ r9.1.1),(Gt.Tok.kind (Gt.Rdr.now r9.1.1)),(Gt.Tok.text (Gt.Rdr.now r9.1.1)),(Gt.Tok.at_ (Gt.Rdr.now r9.1.1)),(Gt.Tok.tight (Gt.Rdr.now r9.1.1)),(Gt.Rdr.open_ r9.1.1),t4.2.2.2.2.2.2.2.1,t4.2.2.2.2.2.2.2.2.1,t4.2.2.2.2.2.2.2.2.2.1,t4.2.2.2.2.2.2.2.2.2.2.1,l11,())))))) fun (p12:Int×Int×Unit)=>(some (.inr (.inr (.inr (p12.1,p12.2.1,()))))))) (some (.inr (.inl ((Gt.Rdr.s r5.1.1),(Gt.Rdr.end_ r5.1.1),(Gt.Tok.kind (Gt.Rdr.now r5.1.1)),(Gt.Tok.text (Gt.Rdr.now r5.1.1)),(Gt.Tok.at_ (Gt.Rdr.now r5.1.1)),(Gt.Tok.tight (Gt.Rdr.now r5.1.1)),(Gt.Rdr.open_ r5.1.1),t4.2.2.2.2.2.2.2.1,t4.2.2.2.2.2.2.2.2.1,t4.2.2.2.2.2.2.2.2.2.1,t4.2.2.2.2.2.2.2.2.2.2.1,t4.2.2.2.2.2.2.2.2.2.2.2.1,())))))) fun (p13:Int×Int×Unit)=>(some (.inr (.inr (.inr (p13.1,p13.2.1,())))))))
noncomputable def rowM (orc:Orc Sx) (f:FuncId) (kind:Int) (w:List UInt8) (rc:Gt.Rdr×Unit):Option (((Gt.Rdr×Unit)×(LicSpec.Ex×Unit))⊕(Int×Int×Unit)):=(oc (α:=((Gt.Rdr×Unit)×(LicSpec.Ex×Unit))) (β:=Int×Int×Unit) (oc (α:=((Gt.Rdr×Unit)×(LicSpec.Ex×Unit))) (β:=Int×Int×Unit) (orc.e f [.ptr 0 0] [162] [(.st 9)] ((rc.1,()):Gt.Rdr×Unit) [(.st 4)] [(.int .i64),(.int .i64)] 123) (fun (r2:((Gt.Rdr×Unit)×(LicSpec.Ex×Unit)))=>(ob (br ((Gt.Tok.kind (Gt.Rdr.now r2.1.1)) != 2) (some true) (some ((Gt.Tok.text (Gt.Rdr.now r2.1.1)) != w))) fun b3=>(br b3 (some (.inl ((r2.1.1,()),((LicSpec.Ex.mk (LicSpec.Ex.kind r2.2.1) (LicSpec.Ex.name r2.2.1) (LicSpec.Ex.later r2.2.1) (LicSpec.Ex.wth r2.2.1) (LicSpec.Ex.kids r2.2.1)),())))) (cutM (σ:=List UInt8×Int×Int×List UInt8×Int×Bool×Int×Int×List UInt8×Bool×List UInt8×List (LicSpec.Ex)×Unit) (R:=_) (loopM (σ:=List UInt8×Int×Int×List UInt8×Int×Bool×Int×Int×List UInt8×Bool×List UInt8×List (LicSpec.Ex)×Unit) (R:=_) (rowB orc f w) ((Gt.Rdr.s r2.1.1),(Gt.Rdr.end_ r2.1.1),(Gt.Tok.kind (Gt.Rdr.now r2.1.1)),(Gt.Tok.text (Gt.Rdr.now r2.1.1)),(Gt.Tok.at_ (Gt.Rdr.now r2.1.1)),(Gt.Tok.tight (Gt.Rdr.now r2.1.1)),(Gt.Rdr.open_ r2.1.1),kind,[],false,[],[(LicSpec.Ex.mk (LicSpec.Ex.kind r2.2.1) (LicSpec.Ex.name r2.2.1) (LicSpec.Ex.later r2.2.1) (LicSpec.Ex.wth r2.2.1) (LicSpec.Ex.kids r2.2.1))],())) fun (t14:List UInt8×Int×Int×List UInt8×Int×Bool×Int×Int×List UInt8×Bool×List UInt8×List (LicSpec.Ex)×Unit)=>(some (.inl (((Gt.Rdr.mk t14.1 t14.2.1 (Gt.Tok.mk t14.2.2.1 t14.2.2.2.1 t14.2.2.2.2.1 t14.2.2.2.2.2.1) t14.2.2.2.2.2.2.1),()),((LicSpec.Ex.mk t14.2.2.2.2.2.2.2.1 t14.2.2.2.2.2.2.2.2.1 t14.2.2.2.2.2.2.2.2.2.1 t14.2.2.2.2.2.2.2.2.2.2.1 t14.2.2.2.2.2.2.2.2.2.2.2.1),())))))))) fun (p15:Int×Int×Unit)=>(some (.inr (p15.1,p15.2.1,())))) (fun (r16:((Gt.Rdr×Unit)×(LicSpec.Ex×Unit)))=>(some (.inl ((r16.1.1,()),((LicSpec.Ex.mk (LicSpec.Ex.kind r16.2.1) (LicSpec.Ex.name r16.2.1) (LicSpec.Ex.later r16.2.1) (LicSpec.Ex.wth r16.2.1) (LicSpec.Ex.kids r16.2.1)),()))))) fun (p17:Int×Int×Unit)=>(some (.inr (p17.1,p17.2.1,()))))
theorem m174_row (orc:Orc Sx) (rc:Gt.Rdr×Unit):m174 orc rc=rowM orc 204 2 sAND rc:=rfl
theorem m138_row (orc:Orc Sx) (rc:Gt.Rdr×Unit):m138 orc rc=rowM orc 174 3 sOR rc:=rfl
def mkT (S:List UInt8) (kind:Int) (s:PS) (acc:List Ex):RTup:=(S,s.fin,s.kind,s.text,s.at_,s.tight,s.opn,kind,[],false,[],acc,())
def Good (S:List UInt8) (o:Nat) (one:PS→Res Ex):Prop:=∀s,s.fin≤S.length→s.opn=o→∀e s',one s= .ok e s'→s.kind≠0∧s.fin≤s'.fin∧s'.fin≤S.length∧s'.opn=o
def Asks (orc:Orc Sx) (f:FuncId) (S:List UInt8) (o:Nat) (one:PS→Res Ex):Prop:=∀s,s.fin≤S.length→s.opn=o →
 @Eq (Option (((Gt.Rdr×Unit)×(Ex×Unit))⊕(Int×Int×Unit))) (orc.e f [.ptr 0 0] [162] [.st 9] ((toR S s,()):Gt.Rdr×Unit) [.st 4] [.int .i64,.int .i64] 123) (some (outR S (fun e=>(e,())) (one s)))
def AsksIs (orc:Orc Sx) (S:List UInt8) (w:List UInt8):Prop:=∀s,s.fin≤S.length →
 @Eq (Option (((Gt.Rdr×Unit)×(Bool×Unit))⊕(Int×Int×Unit))) (orc.e 203 [.ptr 0 0,.str w] [162] [.st 9] ((toR S s,()):Gt.Rdr×Unit) [.bool] [.int .i64,.int .i64] 123) (some (outR S (fun b=>(b,())) (pIs S w s)))
theorem pIs_ok {S w:List UInt8} {s s':PS} {b:Bool} (h:pIs S w s= .ok b s') (hf:s.fin≤S.length):s'.fin≤S.length∧s.fin≤s'.fin∧s'.opn=s.opn∧(b=true→s'.kind≠0→s.fin<s'.fin):=by
 unfold pIs at h
 split at h
 ·split at h
  ·cases h
  ·rename_i u s1 hn
   cases h
   obtain ⟨h1,h2,h3,h4⟩:=pNext_ok hn hf
   exact ⟨h1,h2,h4,fun _=>h3⟩
 ·cases h;exact ⟨hf,Nat.le_refl _,rfl,fun h=>by cases h⟩
theorem toR_eq (S:List UInt8) (s:PS):(Gt.Rdr.mk S s.fin (Gt.Tok.mk s.kind s.text s.at_ s.tight) s.opn)=toR S s:=rfl
theorem rowB_step {orc:Orc Sx} {f:FuncId} {S:List UInt8} {o:Nat} {kind:Int} {w:List UInt8} {one:PS→Res Ex} (ha:Asks orc f S o one) (hi:AsksIs orc S w) (s:PS) (acc:List Ex) (hf:s.fin≤S.length) (ho:s.opn=o) (hacc:acc.length≤2000000) :
  rowB orc f w (mkT S kind s acc)=match pIs S w s with
   | .err a c=>some (.inr (.inr (.inr ((a:Int),c,()))))
   | .ok false s'=>some (.inr (.inl (mkT S kind s' acc)))
   | .ok true s'=>match one s' with
     | .err a c=>some (.inr (.inr (.inr ((a:Int),c,()))))
     | .ok e s''=>some (.inl (mkT S kind s'' (acc++[e]))):=by
 unfold rowB
 simp only [mkT,toR_eq]
 rw [hi s hf]
 cases hp:pIs S w s with
 | err a c=>simp [outR,oc_inr]
 | ok b s1 =>
   obtain ⟨k1,k2,k3,_⟩:=pIs_ok hp hf
   simp only [outR,oc_inl]
   cases b with
   | false=>simp [br_false,toR]
   | true =>
     simp only [br_true]
     rw [ha s1 k1 (k3.trans ho)]
     cases h1:one s1 with
     | err a c=>simp [outR,oc_inr,same_self]
     | ok e s2 =>
       have hc:cat? acc [e]=some (acc++[e]):=cat?_ok (by simp [lim];omega)
       simp only [outR,oc_inl,hc,ob_some_eq,same_self]
       rfl
theorem row_loop {orc:Orc Sx} {f:FuncId} {S:List UInt8} {o:Nat} {kind:Int} {w:List UInt8} {one:PS→Res Ex} (hS:S.length≤1000000) (hg:Good S o one) (ha:Asks orc f S o one) (hi:AsksIs orc S w) :
  ∀(F:Nat) (acc:List Ex) (s:PS),s.fin≤S.length→s.opn=o→S.length - s.fin<F→acc.length≤s.fin+1 →
   loopM (rowB orc f w) (mkT S kind s acc)=some (match pRowLoop S w one F acc s with | .ok l s'=> .inl (mkT S kind s' l) | .err a c=> .inr (.inr ((a:Int),c,()))) ∧
   ∀l s',pRowLoop S w one F acc s= .ok l s'→s.fin≤s'.fin∧s'.fin≤S.length∧s'.opn=o:=by
 intro F
 induction F with
 | zero=>intro acc s _ _ h _;omega
 | succ F ih =>
   intro acc s hf ho hF hacc
   have hst:=rowB_step (kind:=kind) ha hi s acc hf ho (by omega)
   unfold pRowLoop
   cases hp:pIs S w s with
   | err a c =>
     rw [hp] at hst
     exact ⟨loopM_end hst,fun l s' h=>by cases h⟩
   | ok b s1 =>
     rw [hp] at hst
     obtain ⟨k1,k2,k3,k4⟩:=pIs_ok hp hf
     cases b with
     | false=>exact ⟨loopM_end hst,fun l s' h=>by cases h;exact ⟨k2,k1,k3.trans ho⟩⟩
     | true =>
       simp only at hst ⊢
       cases h1:one s1 with
       | err a c =>
         rw [h1] at hst
         exact ⟨loopM_end hst,fun l s' h=>by cases h⟩
       | ok e s2 =>
         rw [h1] at hst
         obtain ⟨g1,g2,g3,g4⟩:=hg s1 k1 (k3.trans ho) e s2 h1
         have hlt:=k4 rfl g1
         obtain ⟨i1,i2⟩:=ih (acc++[e]) s2 g3 g4 (by omega) (by simp;omega)
         exact ⟨by rw [loopM_next hst,i1],fun l s' h=>by
          obtain ⟨j1,j2,j3⟩:=i2 l s' h
          exact ⟨by omega,j2,j3⟩⟩
theorem row_law {orc:Orc Sx} {f:FuncId} {S:List UInt8} {o:Nat} {kind:Int} {w:List UInt8} {one:PS→Res Ex} (hS:S.length≤1000000) (hg:Good S o one) (ha:Asks orc f S o one) (hi:AsksIs orc S w) (s:PS) (hf:s.fin≤S.length) (ho:s.opn=o) :
  rowM orc f kind w (toR S s,())=some (outR S (fun e=>(e,())) (pRow S kind w one s)):=by
 unfold rowM pRow
 simp only
 rw [ha s hf ho]
 cases h1:one s with
 | err a c=>simp [outR,oc_inr]
 | ok e s1 =>
   obtain ⟨hk0,hf1,hf2,ho1⟩:=hg s hf ho e s1 h1
   simp only [outR,oc_inl,Ex.eta,br_some_eq,ob_some_eq,cond_or]
   have hcond:((toR S s1).now.kind != 2||(toR S s1).now.text != w)= !(decide (s1.kind=2∧s1.text=w)):=by
    simp only [toR]
    by_cases a1:s1.kind=2<;>by_cases a2:s1.text=w<;>simp [a1,a2]
   rw [hcond]
   by_cases hc:s1.kind=2∧s1.text=w
   ·simp only [hc,and_self,decide_true,Bool.not_true,br_false,if_true]
    have hl:=(row_loop (kind:=kind) hS hg ha hi (S.length+1) [e] s1 hf2 ho1 (by omega) (by simp)).1
    rw [show ((toR S s1).s,(toR S s1).end_,(toR S s1).now.kind,(toR S s1).now.text,(toR S s1).now.at_,(toR S s1).now.tight,(toR S s1).open_,kind,([]:List UInt8),false,([]:List UInt8),[e],())=mkT S kind s1 [e] from rfl,hl]
    cases pRowLoop S w one (S.length+1) [e] s1 with
    | ok l s'=>simp only [cutM_inl,oc_inl];rfl
    | err a c=>simp only [cutM_inr,oc_inr]
   ·simp [hc,br_true,oc_inl]
theorem pRow_good {orc:Orc Sx} {f:FuncId} {S:List UInt8} {o:Nat} {kind:Int} {w:List UInt8} {one:PS→Res Ex} (hS:S.length≤1000000) (hg:Good S o one) (ha:Asks orc f S o one) (hi:AsksIs orc S w):Good S o (pRow S kind w one):=by
 intro s hf ho e s' h
 unfold pRow at h
 cases h1:one s with
 | err a c=>rw [h1] at h;cases h
 | ok e1 s1 =>
   rw [h1] at h
   obtain ⟨hk0,hf1,hf2,ho1⟩:=hg s hf ho e1 s1 h1
   simp only at h
   split at h
   ·have hl:=(row_loop (kind:=kind) hS hg ha hi (S.length+1) [e1] s1 hf2 ho1 (by omega) (by simp)).2
    cases hl2:pRowLoop S w one (S.length+1) [e1] s1 with
    | err a c=>rw [hl2] at h;cases h
    | ok l s2 =>
      rw [hl2] at h
      cases h
      obtain ⟨j1,j2,j3⟩:=hl l _ hl2
      exact ⟨hk0,by omega,j2,j3⟩
   ·cases h;exact ⟨hk0,hf1,hf2,ho1⟩
theorem is_asks (n:Nat) {S:List UInt8} (w:List UInt8) (hS:S.length≤1000000):AsksIs (orcN (n+4)) S w:=fun s hf=>L203 n S s w hS hf
theorem or_step {n:Nat} {S:List UInt8} {o d:Nat} (hS:S.length≤1000000) (hg:Good S o (pSingle S d)) (ha:Asks (orcN (n+4)) 204 S o (pSingle S d)) :
  Good S o (pRow S 3 sOR (pRow S 2 sAND (pSingle S d)))∧Asks (orcN (n+6)) 138 S o (pRow S 3 sOR (pRow S 2 sAND (pSingle S d))):=by
 have g2:=pRow_good (kind:=2) hS hg ha (is_asks n sAND hS)
 have a2:Asks (orcN (n+5)) 174 S o (pRow S 2 sAND (pSingle S d)):=fun s hf ho=>by
  rw [q174,m174_row]
  exact row_law hS hg ha (is_asks n sAND hS) s hf ho
 have g3:=pRow_good (kind:=3) hS g2 a2 (is_asks (n+1) sOR hS)
 refine ⟨g3,fun s hf ho=> ?_⟩
 rw [q138,m138_row]
 exact row_law hS g2 a2 (is_asks (n+1) sOR hS) s hf ho
theorem G137 {n:Nat} (h:3≤n) {S:List UInt8} {s:PS} (hS:S.length≤1000000) (hf:s.fin≤S.length) :
  @Eq (Option (((Gt.Rdr×Unit)×Unit)⊕(Int×Int×Unit))) ((orcN n).e 137 [.ptr 0 0] [162] [.st 9] ((toR S s,()):Gt.Rdr×Unit) [] [.int .i64,.int .i64] 123) (some (outR S (fun _=>()) (pNext S s))):=by
 obtain ⟨k,rfl⟩:∃k,n=k+3:=⟨n - 3,by omega⟩
 exact L41e k S s hS hf
theorem G139 {n:Nat} (h:1≤n) (a c:Int): @Eq (Option ((Unit×Unit)⊕(Int×Int×Unit))) ((orcN n).e 139 [.int .i64 a,.int .i64 c] [] [] () [] [.int .i64,.int .i64] 123) (some (.inr (a,c,()))):=by
 obtain ⟨k,rfl⟩:∃k,n=k+1:=⟨n - 1,by omega⟩
 exact L139 k a c
theorem G203 {n:Nat} (h:4≤n) {S:List UInt8} {s:PS} (w:List UInt8) (hS:S.length≤1000000) (hf:s.fin≤S.length) :
  @Eq (Option (((Gt.Rdr×Unit)×(Bool×Unit))⊕(Int×Int×Unit))) ((orcN n).e 203 [.ptr 0 0,.str w] [162] [.st 9] ((toR S s,()):Gt.Rdr×Unit) [.bool] [.int .i64,.int .i64] 123) (some (outR S (fun b=>(b,())) (pIs S w s))):=by
 obtain ⟨k,rfl⟩:∃k,n=k+4:=⟨n - 4,by omega⟩
 exact L203 k S s w hS hf
theorem G221 {n:Nat} (h:4≤n) {S:List UInt8} {s:PS} (hS:S.length≤1000000) (hf:s.fin≤S.length) :
  @Eq (Option (((Gt.Rdr×Unit)×(List UInt8×Unit))⊕(Int×Int×Unit))) ((orcN n).e 221 [.ptr 0 0] [162] [.st 9] ((toR S s,()):Gt.Rdr×Unit) [.str] [.int .i64,.int .i64] 123) (some (outR S (fun b=>(b,())) (pName S s))):=by
 obtain ⟨k,rfl⟩:∃k,n=k+4:=⟨n - 4,by omega⟩
 exact L221 k S s hS hf
theorem pName_ok {S:List UInt8} {s s':PS} {x:List UInt8} (h:pName S s= .ok x s') (hf:s.fin≤S.length):s.kind=1∧s.fin≤s'.fin∧s'.fin≤S.length∧s'.opn=s.opn:=by
 unfold pName at h
 by_cases hk:s.kind=1
 ·rw [if_neg (by simpa using hk)] at h
  cases hn:pNext S s with
  | err a c=>rw [hn] at h;cases h
  | ok u s1 =>
    rw [hn] at h;cases h
    obtain ⟨h1,h2,_,h4⟩:=pNext_ok hn hf
    exact ⟨hk,h2,h1,h4⟩
 ·rw [if_pos hk] at h;cases h
theorem pTail_ok {S:List UInt8} {s s':PS} {x:List UInt8} {e:Ex} (h:pTail S x s= .ok e s') (hf:s.fin≤S.length):s.fin≤s'.fin∧s'.fin≤S.length∧s'.opn=s.opn:=by
 unfold pTail at h
 have rest:∀(later:Bool) (s1:PS),s.fin≤s1.fin→s1.fin≤S.length→s1.opn=s.opn→(match pIs S sWITH s1 with
   | .err a c=> .err a c
   | .ok false s2=> .ok (.mk 1 x later [] []) s2
   | .ok true s2=>match pName S s2 with
     | .err a c=> .err a c
     | .ok y s3=> .ok (.mk 1 x later y []) s3:Res Ex)= .ok e s'→s.fin≤s'.fin∧s'.fin≤S.length∧s'.opn=s.opn:=by
  intro later s1 q1 q2 q3 h
  cases hi:pIs S sWITH s1 with
  | err a c=>rw [hi] at h;cases h
  | ok b s2 =>
    rw [hi] at h
    obtain ⟨k1,k2,k3,_⟩:=pIs_ok hi q2
    cases b with
    | false=>cases h;exact ⟨by omega,k1,k3.trans q3⟩
    | true =>
      simp only at h
      cases hn:pName S s2 with
      | err a c=>rw [hn] at h;cases h
      | ok y s3 =>
        rw [hn] at h;cases h
        obtain ⟨_,j1,j2,j3⟩:=pName_ok hn k1
        exact ⟨by omega,j2,j3.trans (k3.trans q3)⟩
 by_cases hc:s.kind=3∧s.tight=true
 ·rw [if_pos hc] at h
  cases hn:pNext S s with
  | err a c=>rw [hn] at h;cases h
  | ok u s1 =>
    rw [hn] at h
    obtain ⟨h1,h2,_,h4⟩:=pNext_ok hn hf
    exact rest true s1 h2 h1 h4 h
 ·rw [if_neg hc] at h
  exact rest false s (Nat.le_refl _) hf rfl h
set_option maxHeartbeats 1000000 in
theorem m204_name {n:Nat} (hn:4≤n) {S:List UInt8} (hS:S.length≤1000000) (s:PS) (hf:s.fin≤S.length) (hk:s.kind≠4) :
  m204 (orcN n) (toR S s,())=some (outR S (fun e=>(e,())) (match pName S s with | .err a c=> .err a c | .ok x s1=>pTail S x s1)):=by
 unfold m204
 have e4:((toR S s).now.kind==4)=false:=by simpa [toR] using hk
 simp only [e4,br_false,G221 hn hS hf]
 cases hp:pName S s with
 | err a c=>simp [outR,oc_inr]
 | ok x s1 =>
   obtain ⟨_,_,hf1,_⟩:=pName_ok hp hf
   simp only [outR,oc_inl]
   have hc2:br ((toR S s1).now.kind==3) (some (toR S s1).now.tight) (some false)=some (decide (s1.kind=3∧s1.tight=true)):=by
    simp only [toR,br_some_eq]
    by_cases a1:s1.kind=3
    ·cases a2:s1.tight<;>simp [a1]
    ·simp [beq_eq_false_iff_ne.2 a1,a1]
   rw [hc2]
   simp only [ob_some_eq]
   unfold pTail
   by_cases hc:s1.kind=3∧s1.tight=true
   ·simp only [hc,and_self,decide_true,br_true,if_true,G137 (by omega:3≤n) hS hf1]
    cases hq:pNext S s1 with
    | err a c=>simp [outR,oc_inr,cutM_inr]
    | ok u s2 =>
      obtain ⟨hf2,_,_,_⟩:=pNext_ok hq hf1
      simp only [outR,oc_inl,cutM_inl]
      rw [show (Gt.Rdr.mk (toR S s2).s (toR S s2).end_ (Gt.Tok.mk (toR S s2).now.kind (toR S s2).now.text (toR S s2).now.at_ (toR S s2).now.tight) (toR S s2).open_)=toR S s2 from rfl]
      have h87:=G203 hn sWITH hS hf2
      rw [show sWITH=[87,73,84,72] from rfl] at h87
      rw [h87]
      cases hi:pIs S sWITH s2 with
      | err a c=>rw [show ([87,73,84,72]:List UInt8)=sWITH from rfl,hi];simp [outR,oc_inr]
      | ok b s3 =>
        obtain ⟨hf3,_,_,_⟩:=pIs_ok hi hf2
        rw [show ([87,73,84,72]:List UInt8)=sWITH from rfl,hi]
        cases b with
        | false=>simp [outR,oc_inl,br_false]
        | true =>
          simp only [outR,oc_inl,br_true,G221 hn hS hf3]
          cases hx:pName S s3 with
          | err a c=>simp [oc_inr]
          | ok y s4=>simp [oc_inl]
   ·simp only [hc,decide_false,br_false,if_false,cutM_inl]
    rw [show (Gt.Rdr.mk (toR S s1).s (toR S s1).end_ (Gt.Tok.mk (toR S s1).now.kind (toR S s1).now.text (toR S s1).now.at_ (toR S s1).now.tight) (toR S s1).open_)=toR S s1 from rfl]
    have h87:=G203 hn sWITH hS hf1
    rw [show sWITH=[87,73,84,72] from rfl] at h87
    rw [h87]
    cases hi:pIs S sWITH s1 with
    | err a c=>rw [show ([87,73,84,72]:List UInt8)=sWITH from rfl,hi];simp [outR,oc_inr]
    | ok b s3 =>
      obtain ⟨hf3,_,_,_⟩:=pIs_ok hi hf1
      rw [show ([87,73,84,72]:List UInt8)=sWITH from rfl,hi]
      cases b with
      | false=>simp [outR,oc_inl,br_false]
      | true =>
        simp only [outR,oc_inl,br_true,G221 hn hS hf3]
        cases hx:pName S s3 with
        | err a c=>simp [oc_inr]
        | ok y s4=>simp [oc_inl]
theorem single_name_good {S:List UInt8} {s s':PS} {e:Ex} (h:(match pName S s with | .err a c=> .err a c | .ok x s1=>pTail S x s1:Res Ex)= .ok e s') (hf:s.fin≤S.length):s.kind≠0∧s.fin≤s'.fin∧s'.fin≤S.length∧s'.opn=s.opn:=by
 cases hp:pName S s with
 | err a c=>rw [hp] at h;cases h
 | ok x s1 =>
   rw [hp] at h
   obtain ⟨h1,h2,h3,h4⟩:=pName_ok hp hf
   obtain ⟨k1,k2,k3⟩:=pTail_ok h h3
   exact ⟨by omega,by omega,k2,k3.trans h4⟩
set_option maxHeartbeats 1000000 in
theorem single_law {S:List UInt8} (hS:S.length≤1000000):∀(d o:Nat),o+d=30→∀n,3*d+6≤n→Good S o (pSingle S d)∧Asks (orcN n) 204 S o (pSingle S d):=by
 intro d
 induction d with
 | zero =>
   intro o hod n hn
   obtain ⟨m,rfl⟩:∃m,n=m+1:=⟨n - 1,by omega⟩
   constructor
   ·intro s hf ho e s' h
    unfold pSingle at h
    by_cases hk:s.kind=4
    ·rw [if_pos hk] at h;cases h
    ·rw [if_neg hk] at h
     obtain ⟨k1,k2,k3,k4⟩:=single_name_good h hf
     exact ⟨k1,k2,k3,k4.trans ho⟩
   ·intro s hf ho
    rw [q204]
    unfold pSingle
    by_cases hk:s.kind=4
    ·rw [if_pos hk]
     unfold m204
     have e4:((toR S s).now.kind==4)=true:=by simpa [toR] using hk
     have hw:decide (30<IntKind.i64.wrap ((toR S s).open_+1))=true:=by
      have:IntKind.i64.wrap ((s.opn:Int)+1)=((s.opn+1:Nat):Int):=by rw [wrap_id (by omega) (by omega)];rfl
      show decide (30<IntKind.i64.wrap ((s.opn:Int)+1))=true
      rw [this];simp;omega
     simp only [e4,br_true,hw,G139 (by omega:1≤m),oc_inr,cutM_inr]
     rfl
    ·rw [if_neg hk]
     exact m204_name (by omega) hS s hf hk
 | succ d ih =>
   intro o hod n hn
   obtain ⟨m,rfl⟩:∃m,n=m+7:=⟨n - 7,by omega⟩
   obtain ⟨gs,asks⟩:=ih (o+1) (by omega) (m+4) (by omega)
   obtain ⟨gr,ar⟩:=or_step (n:=m) hS gs asks
   constructor
   ·intro s hf ho e s' h
    unfold pSingle at h
    by_cases hk:s.kind=4
    ·rw [if_pos hk] at h
     simp only at h
     cases hp:pNext S { s with opn:=s.opn+1 } with
     | err a c=>rw [hp] at h;cases h
     | ok u s1 =>
       rw [hp] at h
       simp only at h
       obtain ⟨h1,h2,_,h4⟩:=pNext_ok hp hf
       cases hr:pRow S 3 sOR (pRow S 2 sAND (pSingle S d)) s1 with
       | err a c=>rw [hr] at h;cases h
       | ok e2 s2 =>
         rw [hr] at h
         simp only at h
         obtain ⟨_,g2,g3,g4⟩:=gr s1 h1 (by rw [h4];show s.opn+1=o+1;omega) e2 s2 hr
         by_cases h5:s2.kind=5
         ·rw [if_neg (by simpa using h5)] at h
          cases hq:pNext S { s2 with opn:=s2.opn - 1 } with
          | err a c=>rw [hq] at h;cases h
          | ok u s3 =>
            rw [hq] at h
            cases h
            obtain ⟨j1,j2,_,j4⟩:=pNext_ok hq g3
            refine ⟨by omega,?_,j1,by rw [j4];show s2.opn - 1=o;omega⟩
            have e1:s.fin≤s1.fin:=h2
            have e2:s2.fin≤s'.fin:=j2
            omega
         ·rw [if_pos h5] at h;cases h
    ·rw [if_neg hk] at h
     obtain ⟨k1,k2,k3,k4⟩:=single_name_good h hf
     exact ⟨k1,k2,k3,k4.trans ho⟩
   ·intro s hf ho
    rw [q204]
    unfold pSingle
    by_cases hk:s.kind=4
    ·rw [if_pos hk]
     unfold m204
     have e4:((toR S s).now.kind==4)=true:=by simpa [toR] using hk
     have hwr:IntKind.i64.wrap ((toR S s).open_+1)=((s.opn+1:Nat):Int):=by
      show IntKind.i64.wrap ((s.opn:Int)+1)=_
      rw [wrap_id (by omega) (by omega)];rfl
     have hw:decide (30<(((s.opn+1:Nat):Int)))=false:=by simp;omega
     simp only [e4,br_true,hwr,hw,br_false,cutM_inl]
     rw [show (Gt.Rdr.mk (toR S s).s (toR S s).end_ (Gt.Tok.mk (toR S s).now.kind (toR S s).now.text (toR S s).now.at_ (toR S s).now.tight) (((s.opn+1:Nat):Int)))=toR S { s with opn:=s.opn+1 } from rfl]
     rw [G137 (by omega:3≤m+6) hS (s:={ s with opn:=s.opn+1 }) hf]
     cases hp:pNext S { s with opn:=s.opn+1 } with
     | err a c=>simp [outR,oc_inr]
     | ok u s1 =>
       obtain ⟨h1,h2,_,h4⟩:=pNext_ok hp hf
       have ho1:s1.opn=o+1:=by rw [h4];show s.opn+1=o+1;omega
       simp only [outR,oc_inl]
       rw [ar s1 h1 ho1]
       cases hr:pRow S 3 sOR (pRow S 2 sAND (pSingle S d)) s1 with
       | err a c=>simp [outR,oc_inr]
       | ok e2 s2 =>
         obtain ⟨_,g2,g3,g4⟩:=gr s1 h1 ho1 e2 s2 hr
         simp only [outR,oc_inl]
         by_cases h5:s2.kind=5
         ·have e5:((toR S s2).now.kind != 5)=false:=by simp [toR,h5]
          have hwr2:IntKind.i64.wrap ((toR S s2).open_ - 1)=((s2.opn - 1:Nat):Int):=by
           show IntKind.i64.wrap ((s2.opn:Int) - 1)=_
           rw [wrap_id (by omega) (by omega)];omega
          simp only [e5,br_false,cutM_inl,hwr2]
          rw [show (Gt.Rdr.mk (toR S s2).s (toR S s2).end_ (toR S s2).now (((s2.opn - 1:Nat):Int)))=toR S { s2 with opn:=s2.opn - 1 } from rfl]
          rw [G137 (by omega:3≤m+6) hS (s:={ s2 with opn:=s2.opn - 1 }) g3]
          rw [if_neg (by simpa using h5)]
          cases hq:pNext S { s2 with opn:=s2.opn - 1 } with
          | err a c=>simp [outR,oc_inr]
          | ok u s3=>simp [outR,oc_inl,Ex.eta]
         ·have e5:((toR S s2).now.kind != 5)=true:=by simpa [toR] using h5
          simp only [e5,br_true,G139 (by omega:1≤m+6),oc_inr,cutM_inr]
          rw [if_pos h5]
          rfl
    ·rw [if_neg hk]
     exact m204_name (by omega) hS s hf hk
end Pe.Tryz
end
section
/- The plain laws of Check, of the program and of the reference. -/
set_option maxRecDepth 100000
namespace LicSpec
mutual
def Small:Ex→Prop
 | .mk _ name _ wth kids=>name.length≤2000000∧wth.length≤2000000∧kids.length≤2000000∧SmallL kids
def SmallL:List Ex→Prop
 | []=>True
 | k::r=>Small k∧SmallL r
end
theorem SmallL.mem:∀{l:List Ex} {k:Ex},SmallL l→k∈l→Small k
 | x::r,k,h,hk=>by
   simp only [SmallL] at h
   rcases List.mem_cons.1 hk with rfl | hk
   ·exact h.1
   ·exact h.2.mem hk
theorem smallL_of:∀{l:List Ex},(∀k∈l,Small k)→SmallL l
 | [],_=>by simp only [SmallL]
 | x::r,h=>by simp only [SmallL];exact ⟨h x (by simp),smallL_of fun k hk=>h k (by simp [hk])⟩
theorem lev_mem:∀{ks:List Ex} {k:Ex},k∈ks→k.lev≤levL ks
 | k0::r,k,h=>by
   simp only [levL]
   rcases List.mem_cons.1 h with rfl | h
   ·omega
   ·have:=lev_mem h;omega
theorem Small.kid {e k:Ex} (h:Small e) (hk:k∈e.kids):Small k:=by
 cases e with
 | mk a b c d l=>simp only [Small] at h;exact h.2.2.2.mem hk
theorem Small.kids {e:Ex} (h:Small e):e.kids.length≤2000000∧e.name.length≤2000000∧e.wth.length≤2000000:=by
 cases e with
 | mk a b c d l=>simp only [Small] at h;exact ⟨h.2.2.1,h.1,h.2.1⟩
theorem lev_kid {e k:Ex} (hk:k∈e.kids):k.lev<e.lev:=by
 cases e with
 | mk a b c d l=>simp only [Ex.lev];have:=lev_mem hk;simp only at this;omega
theorem meas_eq (e:Ex) (level:Nat):meas e level=if 30<level then (1,level) else measL e.kids level (1,level):=by cases e;simp only [meas]
theorem fault_eq' (e:Ex):fault e=if LicSpec.one e≠0 then LicSpec.one e else faultL e.kids:=by cases e;simp only [fault]
end LicSpec
namespace Pe.Tryz
open Go Go.Proofs Pe LicSpec
theorem drop_get' {α:Type} {l:List α} {k:Nat} (h:k<l.length):l.drop k=l[k]::l.drop (k+1):=List.drop_eq_getElem_cons h
theorem L54:∀(n:Nat) (e:Ex) (level:Nat),e.lev≤n→level≤31→Small e→m54 (orcN n) e level=some (((meas e level).1:Int),((meas e level).2:Int),()):=by
 intro n
 induction n with
 | zero=>intro e level h;have:=e.lev_pos;omega
 | succ n ih =>
   intro e level hl hlev hs
   unfold m54
   rw [meas_eq]
   by_cases h30:30<level
   ·have:decide (30<(level:Int))=true:=by simp;omega
    rw [this,if_pos h30];rfl
   ·have hd:decide (30<(level:Int))=false:=by simp;omega
    rw [hd,if_neg h30]
    simp only [br_false]
    have hw:IntKind.i64.wrap ((level:Int)+1)=((level+1:Nat):Int):=by rw [wrap_id (by omega) (by omega)];rfl
    have hkl:=hs.kids.1
    rw [show ((1:Int),(level:Int),(0:Int),())=((fun (k:Nat) (a:Nat×Nat)=>((a.1:Int),(a.2:Int),(k:Int),())) 0 (1,level)) from rfl]
    rw [loop_st (R:=(Int×Int×Unit)⊕(Int×Int×Unit)) (fun (k:Nat) (a:Nat×Nat)=>((a.1:Int),(a.2:Int),(k:Int),())) e.kids.length (fun k a=> .inl (((measL (e.kids.drop k) level a).1:Int),((measL (e.kids.drop k) level a).2:Int),())) (fun _ a=>a.1≤201) ?h1 0 (1,level) (Nat.zero_le _) (by simp)]
    case h1 =>
     intro k a hk ha
     simp only
     by_cases hlt:k<e.kids.length
     ·left
      have hmem:e.kids[k]∈e.kids:=List.getElem_mem hlt
      have hlk:=lev_kid hmem
      have hih:=ih e.kids[k] (level+1) (by omega) (by omega) (hs.kid hmem)
      obtain ⟨⟨m1,m2,m3,m4⟩,_,_⟩:=meas_law e.kids[k] (level+1) (by omega) (by omega)
      have hw2:IntKind.i64.wrap ((a.1:Int)+((meas e.kids[k] (level+1)).1:Int))=((a.1+(meas e.kids[k] (level+1)).1:Nat):Int):=by rw [wrap_id (by omega) (by omega)];rfl
      refine ⟨(min (a.1+(meas e.kids[k] (level+1)).1) 201,max a.2 (meas e.kids[k] (level+1)).2),hlt,?_,by simp;omega,?_⟩
      ·simp only [len_lt,hlt,decide_true,br_true,at?_get hlt,ob_some_eq,Ex.eta,hw,q54,hih,hw2,wrap_succ hlt (by omega)]
       have e1:(min (((a.1+(meas e.kids[k] (level+1)).1:Nat)):Int) 201)=((min (a.1+(meas e.kids[k] (level+1)).1) 201:Nat):Int):=by omega
       have e2:(max (a.2:Int) ((meas e.kids[k] (level+1)).2:Int))=((max a.2 (meas e.kids[k] (level+1)).2:Nat):Int):=by omega
       rw [e1,e2]
      ·rw [drop_get' hlt];simp only [measL]
     ·right
      simp only [len_lt,hlt,decide_false,br_false]
      rw [List.drop_of_length_le (by omega)];simp only [measL]
    simp only [cutM_inl,List.drop_zero]
theorem G100 {n:Nat} (h:2≤n) {s:List UInt8} (hs:s.length≤1000000000): @Eq (Option (Bool×Unit)) ((orcN n).d 100 [.str s] [.bool]) (some (LicSpec.isName s,())):=by
 obtain ⟨k,rfl⟩:∃k,n=k+2:=⟨n - 2,by omega⟩
 rw [q100,L100 k s hs]
theorem bne_nil (s:List UInt8):(s != [])=decide (s≠[]):=by cases s<;>rfl
theorem fault_loop {f:Int×Unit→Option ((Int×Unit)⊕(Unit⊕(Int×Unit)))} {kids:List Ex} (_:kids.length≤2000000)
  (hf:∀(k:Nat) (h:k<kids.length),f ((k:Int),())=if fault kids[k]≠0 then some (.inr (.inr (fault kids[k],()))) else some (.inl (((k+1:Nat):Int),())))
  (he:f ((kids.length:Int),())=some (.inr (.inl ()))):loopM f ((0:Int),())=some (if faultL kids≠0 then .inr (faultL kids,()) else .inl ()):=by
 have:=loop_ix (f:=f) kids.length (fun k=>if faultL (kids.drop k)≠0 then (.inr (faultL (kids.drop k),()):Unit⊕(Int×Unit)) else .inl ()) (fun k hk'=>by
  by_cases hlt:k<kids.length
  ·rw [hf k hlt]
   rw [drop_get' hlt]
   simp only [faultL]
   by_cases h0:fault kids[k]≠0
   ·right;simp only [if_pos h0]
   ·left;simp only [if_neg h0];exact ⟨hlt,trivial,trivial⟩
  ·right
   have:k=kids.length:=by omega
   subst this
   rw [he,List.drop_of_length_le (Nat.le_refl _)];simp [faultL]) 0 (Nat.zero_le _)
 simpa using this
theorem one_cases (e:Ex):LicSpec.one e=if e.kind<1∨3<e.kind then 7
  else if e.kind≠1 then (if e.name≠[]∨e.later=true∨e.wth≠[]∨e.kids.length<2 then 2 else 0)
  else if 0<e.kids.length then 2
  else if isName e.name=false∨(e.wth≠[]∧isName e.wth=false) then 8 else 0:=by cases e;simp only [LicSpec.one]
theorem L55:∀(n:Nat) (e:Ex),e.lev+2≤n→Small e→m55 (orcN n) e=some (fault e,()):=by
 intro n
 induction n with
 | zero=>intro e h;omega
 | succ n ih =>
   intro e hl hs
   obtain ⟨k1,k2,k3⟩:=hs.kids
   have hlp:=e.lev_pos
   unfold m55
   rw [fault_eq']
   simp only [br_some_eq,ob_some_eq,cond_or]
   by_cases hk:e.kind<1∨3<e.kind
   ·have:(decide (e.kind<1)||decide (3<e.kind))=true:=by simpa using hk
    have ho:LicSpec.one e=7:=by rw [one_cases,if_pos hk]
    rw [this,ho];rfl
   ·have hd:(decide (e.kind<1)||decide (3<e.kind))=false:=by simpa using hk
    rw [hd]
    simp only [br_false]
    by_cases h1:e.kind=1
    ·have e1:(e.kind==1)=true:=by simpa using h1
     rw [e1]
     simp only [br_true]
     by_cases hkids:0<e.kids.length
     ·have:decide (0<len e.kids)=true:=by unfold len;exact decide_eq_true (by omega)
      have ho:LicSpec.one e=2:=by rw [one_cases,if_neg hk,if_neg (by simpa using h1),if_pos hkids]
      rw [this,ho];rfl
     ·have:decide (0<len e.kids)=false:=by unfold len;exact decide_eq_false (by omega)
      have hnil:e.kids=[]:=List.length_eq_zero_iff.1 (by omega)
      have ho:LicSpec.one e=if isName e.name=false∨(e.wth≠[]∧isName e.wth=false) then 8 else 0:=by rw [one_cases,if_neg hk,if_neg (by simpa using h1),if_neg hkids]
      rw [this,ho,hnil]
      simp only [br_false,G100 (by omega:2≤n+1) (Nat.le_trans k2 (by decide)),G100 (by omega:2≤n+1) (Nat.le_trans k3 (by decide)),ob_some_eq,bne_nil]
      cases hA:isName e.name with
      | false=>simp [br_true,ob_some_eq]
      | true =>
        by_cases hB:e.wth=[]
        ·simp [hB,br_false,ob_some_eq,faultL]
        ·cases hC:isName e.wth<;>simp [hB,br_false,br_true,ob_some_eq,faultL]
    ·have e1:(e.kind==1)=false:=by simpa using h1
     rw [e1]
     simp only [br_false,bne_nil]
     have hc:(decide (e.name≠[])||e.later||decide (e.wth≠[])||decide (len e.kids<2))=decide (e.name≠[]∨e.later=true∨e.wth≠[]∨e.kids.length<2):=by
      have h2:decide (len e.kids<2)=decide (e.kids.length<2):=by unfold len;exact decide_eq_decide.2 (by omega)
      rw [h2];simp only [Bool.decide_or,Bool.or_assoc]
      cases e.later<;>rfl
     rw [hc]
     by_cases hx:e.name≠[]∨e.later=true∨e.wth≠[]∨e.kids.length<2
     ·have ho:LicSpec.one e=2:=by rw [one_cases,if_neg hk,if_pos h1,if_pos hx]
      rw [decide_eq_true hx,ho];rfl
     ·have ho:LicSpec.one e=0:=by rw [one_cases,if_neg hk,if_pos h1,if_neg hx]
      rw [decide_eq_false hx,ho]
      simp only [br_false,ne_eq,not_true_eq_false,if_false]
      rw [fault_loop (kids:=e.kids) k1 (fun k hlt=>by
       have hmem:e.kids[k]∈e.kids:=List.getElem_mem hlt
       have hlk:=lev_kid hmem
       have hih:=ih e.kids[k] (by omega) (hs.kid hmem)
       simp only [len_lt,hlt,decide_true,br_true,at?_get hlt,ob_some_eq,Ex.eta,q55,hih]
       by_cases h0:fault e.kids[k]=0
       ·simp [h0,wrap_succ hlt (by omega:e.kids.length≤9223372036854775807)]
       ·have:(fault e.kids[k] != 0)=true:=by simpa using h0
        simp [this,h0]) (by simp [len,br_false])]
      by_cases hz:faultL e.kids=0
      ·simp [hz,cutM]
      ·simp [hz,cutM]
theorem L18 (n:Nat) (e:Ex) (hl:e.lev+3≤n) (hs:Small e):m18 (orcN n) e=some (chk e,()):=by
 obtain ⟨k,rfl⟩:∃k,n=k+1:=⟨n - 1,by omega⟩
 unfold m18
 simp only [Ex.eta]
 have h44:=L54 k e 1 (by omega) (by omega) hs
 have h45:=L55 k e (by omega) hs
 have q1: @Eq (Option (Int×Int×Unit)) ((orcN (k+1)).d 54 [.st 4 e,.int .i64 1] [.int .i64,.int .i64]) (some (((meas e 1).1:Int),((meas e 1).2:Int),())):=by rw [q54];exact h44
 rw [q1]
 simp only [ob_some_eq,br_some_eq,cond_or,q55,h45]
 have hsz:=(size_law e).1
 unfold chk
 by_cases h:200<e.cnt∨30<e.lev
 ·have h2:=hsz.2 h
  have:(decide (30<((meas e 1).2:Int))||decide (200<((meas e 1).1:Int)))=true:=by simp;omega
  rw [this,if_pos h];rfl
 ·have h2:¬(30<(meas e 1).2∨200<(meas e 1).1):=fun hx=>h (hsz.1 hx)
  have:(decide (30<((meas e 1).2:Int))||decide (200<((meas e 1).1:Int)))=false:=by simp;omega
  rw [this,if_neg h];rfl
end Pe.Tryz
end
section
/- The plain laws of the reference's reader. -/
set_option maxRecDepth 100000
namespace Pe.Tryz
open Go Go.Proofs Pe LicSpec
theorem run_le {S:List UInt8} {q:RS} (h:q.at_≤S.length):(rRun S q).length=runL (S.drop q.at_)∧q.at_+runL (S.drop q.at_)≤S.length:=by
 have:=runL_le (S.drop q.at_)
 rw [List.length_drop] at this
 exact ⟨by unfold rRun;rw [take_runL_len],by omega⟩
end Pe.Tryz
end
section
/- Read of both sides. -/
set_option maxRecDepth 100000
namespace LicSpec
def Fit (m:Nat) (e:Ex):Prop:=Small e∧e.lev≤m
theorem isName_len {t:Str} (h:isName t=true):t.length≤60:=by
 unfold isName at h
 simp only [Bool.and_eq_true,Bool.not_eq_true',Bool.or_eq_false_iff,decide_eq_false_iff_not] at h
 omega
theorem rName_len (S:Str) (q:RS):(rName S q).1.length≤60:=by
 unfold rName
 simp only
 split
 ·rename_i h;exact isName_len h
 ·simp
theorem fit_leaf {x y:Str} {l:Bool} {m:Nat} (h1:x.length≤60) (h2:y.length≤60) (hm:1≤m):Fit m (.mk 1 x l y []):=by
 refine ⟨?_,?_⟩
 ·simp only [Small,SmallL,List.length_nil];exact ⟨by omega,by omega,by omega,trivial⟩
 ·simp only [Ex.lev,levL];omega
theorem fit_tail {S x:Str} {q:RS} {m:Nat} (h:x.length≤60) (hm:1≤m):Fit m (rTail S x q).1:=by
 unfold rTail
 have rest:∀(later:Bool) (s1:RS),Fit m (if s1.no=0 then
  let (t,s2):=rTakeWord S sWITH s1
  if t then
   let (x',s3):=rName S s2
   (.mk 1 x later x' [],s3)
  else (.mk 1 x later [] [],s2)
 else ((.mk 1 x later [] [],s1):Ex×RS)).1:=by
  intro later s1
  split
  ·simp only
   split
   ·exact fit_leaf h (rName_len _ _) hm
   ·exact fit_leaf h (by simp) hm
  ·exact fit_leaf h (by simp) hm
 simp only
 split
 ·exact rest _ _
 ·exact rest _ _
theorem loop_fit {S w:Str} {one':RS→Ex×RS} {m:Nat} (h:∀q,Fit m (one' q).1):∀f acc q,(∀e∈acc,Fit m e)→(∀e∈(rListLoop S w one' f acc q).1,Fit m e)∧(rListLoop S w one' f acc q).1.length≤acc.length+f:=by
 intro f
 induction f with
 | zero=>intro acc q ha;exact ⟨ha,by simp [rListLoop]⟩
 | succ f ih =>
   intro acc q ha
   unfold rListLoop
   split
   ·exact ⟨ha,by simp⟩
   ·split
    ·exact ⟨ha,by simp⟩
    ·rename_i s1 _
     have:=h s1
     cases ho:one' s1 with
     | mk e s2 =>
       rw [ho] at this
       obtain ⟨i1,i2⟩:=ih (acc++[e]) s2 (fun e' he'=>by
        rcases List.mem_append.1 he' with h1 | h1
        ·exact ha _ h1
        ·rcases List.mem_singleton.1 h1 with rfl;exact this)
       exact ⟨i1,by simp only [List.length_append,List.length_singleton] at i2;simp only;omega⟩
theorem levL_le' {ks:List Ex} {m:Nat} (h:∀k∈ks,k.lev≤m):levL ks≤m:=by
 induction ks with
 | nil=>simp [levL]
 | cons k r ih =>
   simp only [levL]
   have:=h k (by simp)
   have:=ih fun k hk=>h k (by simp [hk])
   omega
theorem list_fit {S w:Str} {kind:Int} {one':RS→Ex×RS} {m:Nat} (hS:S.length≤1000000) (h:∀q,Fit m (one' q).1) (q:RS):Fit (m+1) (rList S kind w one' q).1:=by
 unfold rList
 have h0:=h q
 cases ho:one' q with
 | mk e0 s0 =>
   rw [ho] at h0
   simp only
   obtain ⟨i1,i2⟩:=loop_fit (S:=S) (w:=w) h (S.length+1) [e0] s0 (fun e he=>by rcases List.mem_singleton.1 he with rfl;exact h0)
   have hmk:∀l:List Ex,(∀e∈l,Fit m e)→l.length≤S.length+2→Fit (m+1) (.mk kind [] false [] l):=by
    intro l h1 h2
    refine ⟨?_,?_⟩
    ·simp only [Small,List.length_nil]
     exact ⟨by omega,by omega,by omega,smallL_of fun k hk=>(h1 k hk).1⟩
    ·simp only [Ex.lev]
     have:=levL_le' fun k hk=>(h1 k hk).2
     omega
   cases hl:rListLoop S w one' (S.length+1) [e0] s0 with
   | mk l s1 =>
     rw [hl] at i1 i2
     simp only [List.length_singleton] at i1 i2
     match l with
     | [e]=>exact ⟨(i1 e (by simp)).1,by have:e.lev≤m:=(i1 e (by simp)).2;show e.lev≤m+1;omega⟩
     | []=>exact hmk _ i1 (by omega)
     | a::b::r=>exact hmk _ i1 (by omega)
theorem single_fit {S:Str} (hS:S.length≤1000000):∀d q,Fit (2*d+1) (rSingle S d q).1:=by
 intro d
 induction d with
 | zero =>
   intro q
   unfold rSingle
   simp only
   split
   ·refine ⟨?_,?_⟩
    ·simp [Ex.zero,Small,SmallL]
    ·simp [Ex.zero,Ex.lev,levL]
   ·exact fit_tail (rName_len _ _) (by omega)
 | succ d ih =>
   intro q
   unfold rSingle
   simp only
   split
   ·have hL:=list_fit (kind:=3) (w:=sOR) hS (list_fit (kind:=2) (w:=sAND) hS ih) (rTakeByte S 40 (rBlanks S q)).2
    split
    ·split
     ·exact hL
     ·exact hL
    ·exact hL
   ·exact fit_tail (rName_len _ _) (by omega)
theorem parse_fit {S:Str} (hS:S.length≤1000000):Fit 63 (rParse S).1:=by
 unfold rParse
 have hL:=list_fit (kind:=3) (w:=sOR) hS (list_fit (kind:=2) (w:=sAND) hS (single_fit hS 30)) ⟨0,0,0⟩
 simp only
 split
 ·exact hL
 ·exact hL
def licR (S:Str):Ex×Int×Int×Unit :=
 if 4000<S.length then (.zero,0,3,()) else
 match pParse S with
 | .err a c=>(.zero,(a:Int),c,())
 | .ok e _=>if chk e≠0 then (.zero,0,chk e,()) else (e,0,0,())
theorem pParse_fit {S:Str} {e:Ex} {s:PS} (hS:S.length≤1000000) (h:pParse S= .ok e s):Fit 63 e:=by
 have h1:=parse_eq S
 rw [h] at h1
 obtain ⟨q,h2,_⟩:=h1
 have:=parse_fit hS
 rw [h2] at this
 exact this
end LicSpec
namespace Pe.Tryz
open Go Go.Proofs Pe LicSpec
theorem dec_len (S:List UInt8):decide (4000<len S)=decide (4000<S.length):=by
 unfold len;congr 1;exact propext (by omega)
theorem L102 {n:Nat} (hn:110≤n) {S:List UInt8} (hS:S.length≤1000000) :
  mread (orcN n) S=some (match pParse S with | .err a c=> .inr ((a:Int),c,()) | .ok e _=> .inl (e,⟨0,0⟩,())):=by
 obtain ⟨m,rfl⟩:∃m,n=m+6:=⟨n - 6,by omega⟩
 obtain ⟨gs,hA⟩:=single_law hS 30 0 (by omega) (m+4) (by omega)
 obtain ⟨gO,aO⟩:=or_step hS gs hA
 unfold mread pParse
 have h41:=G137 (n:=m+6) (by omega) (s:=pStart) hS (Nat.zero_le _)
 rw [show (toR S pStart)=(Gt.Rdr.mk S 0 (Gt.Tok.mk 0 [] 0 false) 0) from rfl] at h41
 rw [h41]
 cases h1:pNext S pStart with
 | err a c=>simp only [outR,oc_inr]
 | ok u s =>
   obtain ⟨p1,_,_,p4⟩:=pNext_ok h1 (Nat.zero_le _)
   simp only [outR,oc_inl]
   rw [aO s p1 p4]
   unfold pEither
   cases h2:pRow S 3 sOR (pRow S 2 sAND (pSingle S 30)) s with
   | err a c=>simp only [outR,oc_inr]
   | ok e s' =>
     simp only [outR,oc_inl,toR,Ex.eta]
     by_cases hk:s'.kind=0
     ·have:(s'.kind != 0)=false:=by simp [hk]
      rw [this];simp [br_false,cutM_inl,hk]
     ·have:(s'.kind != 0)=true:=by simp [hk]
      rw [this]
      simp [br_true,G139 (by omega:1≤m+6),oc_inr,cutM_inr,hk]
theorem L60 {n:Nat} (hn:120≤n) (S:List UInt8):m60 (orcN n) S=some (licR S):=by
 unfold m60 licR
 rw [dec_len]
 by_cases h4:4000<S.length
 ·rw [decide_eq_true h4,if_pos h4];rfl
 rw [decide_eq_false h4,if_neg h4]
 simp only [br_false]
 have hS:S.length≤1000000:=by omega
 obtain ⟨m,rfl⟩:∃m,n=m+1:=⟨n - 1,by omega⟩
 rw [q102,L102 (by omega) hS]
 have hpe:=parse_eq S
 cases hp:pParse S with
 | err a c =>
   rw [hp] at hpe
   have:(c != 0)=true:=by simpa using hpe.1
   simp only [ob_some_eq,same_self,this,br_true];rfl
 | ok e s =>
   have hf:=pParse_fit hS hp
   have h20:=L18 m e (by have:=hf.2;omega) hf.1
   refine Eq.trans (b:=ob (α:=Int×Unit) ((orcN (m+1)).d 18 [.st 4 (Ex.mk e.kind e.name e.later e.wth e.kids)] [.int .i64]) fun (r2:Int×Unit)=>(br (r2.1 != 0) (some ((LicSpec.Ex.mk 0 [] false [] []),0,r2.1,())) (some ((LicSpec.Ex.mk e.kind e.name e.later e.wth e.kids),0,0,())))) rfl ?_
   simp only [ob_some_eq,Ex.eta,q18,h20]
   by_cases hc:chk e=0
   ·simp [hc,br_false]
   ·have:(chk e != 0)=true:=by simpa using hc
    simp [hc,this,br_true,LicSpec.Ex.zero]
theorem G60 {n:Nat} (hn:121≤n) (S:List UInt8): @Eq (Option (LicSpec.Ex×Int×Int×Unit)) ((orcN n).d 60 [.str S] [(.st 4),(.int .i64),(.int .i64)]) (some (licR S)):=by
 obtain ⟨m,rfl⟩:∃m,n=m+1:=⟨n - 1,by omega⟩
 rw [q60];exact L60 (by omega) S
end Pe.Tryz
end
section
/- Print, the told text, and the first law in plain. -/
set_option maxRecDepth 100000
namespace LicSpec
open Go
def tWITH:Str:=[32,87,73,84,72,32]
def tOR:Str:=[32,79,82,32]
def tAND:Str:=[32,65,78,68,32]
mutual
def txt:Ex→Str
 | .mk kind name later wth kids =>
   if kind=1 then (if later=true then name++[43] else name)++(if wth≠[] then tWITH++wth else [])
   else Lib.join (txtL kind kids) (if kind=3 then tOR else tAND)
def txtL:Int→List Ex→List Str
 | _,[]=>[]
 | kind,k::r=>(if k.kind=kind∨k.kind=3 then [40]++txt k++[41] else txt k)::txtL kind r
end
def par (kind:Int) (k:Ex):Str:=if k.kind=kind∨k.kind=3 then [40]++txt k++[41] else txt k
theorem txtL_cons (kind:Int) (k:Ex) (r:List Ex):txtL kind (k::r)=par kind k::txtL kind r:=by simp only [txtL,par]
theorem txt_eq (e:Ex):txt e=if e.kind=1 then (if e.later=true then e.name++[43] else e.name)++(if e.wth≠[] then tWITH++e.wth else [])
  else Lib.join (txtL e.kind e.kids) (if e.kind=3 then tOR else tAND):=by cases e;simp only [txt]
theorem txtL_length (kind:Int) (l:List Ex):(txtL kind l).length=l.length:=by
 induction l with
 | nil=>simp [txtL]
 | cons k r ih=>simp [txtL_cons,ih]
theorem faultL_mem:∀{l:List Ex} {k:Ex},faultL l=0→k∈l→fault k=0
 | x::r,k,h,hk=>by
   simp only [faultL] at h
   by_cases hx:fault x=0
   ·rw [if_neg (by simp [hx])] at h
    rcases List.mem_cons.1 hk with rfl | hk
    ·exact hx
    ·exact faultL_mem h hk
   ·rw [if_pos hx] at h;exact absurd h hx
theorem fault_zero {e:Ex} (h:fault e=0):LicSpec.one e=0∧faultL e.kids=0:=by
 rw [fault_eq'] at h
 by_cases ho:LicSpec.one e=0
 ·rw [if_neg (by simp [ho])] at h;exact ⟨ho,h⟩
 ·rw [if_pos ho] at h;exact absurd h ho
theorem one_zero {e:Ex} (h:LicSpec.one e=0):1≤e.kind∧e.kind≤3∧(e.kind=1→e.kids=[]∧isName e.name=true∧(e.wth=[]∨isName e.wth=true))∧(e.kind≠1→e.name=[]∧e.later=false∧e.wth=[]∧2≤e.kids.length):=by
 rw [Pe.Tryz.one_cases] at h
 by_cases hk:e.kind<1∨3<e.kind
 ·rw [if_pos hk] at h;omega
 rw [if_neg hk] at h
 refine ⟨by omega,by omega,fun h1=> ?_,fun h1=> ?_⟩
 ·rw [if_neg (by simp [h1])] at h
  by_cases h2:0<e.kids.length
  ·rw [if_pos h2] at h;omega
  rw [if_neg h2] at h
  by_cases h3:isName e.name=false∨(e.wth≠[]∧isName e.wth=false)
  ·rw [if_pos h3] at h;omega
  ·refine ⟨List.length_eq_zero_iff.1 (by omega),?_,?_⟩
   ·cases hn:isName e.name with
    | true=>rfl
    | false=>exact absurd (.inl hn) h3
   ·by_cases hw:e.wth=[]
    ·exact .inl hw
    ·cases hn:isName e.wth with
     | true=>exact .inr rfl
     | false=>exact absurd (.inr ⟨hw,hn⟩) h3
 ·rw [if_pos h1] at h
  by_cases h2:e.name≠[]∨e.later=true∨e.wth≠[]∨e.kids.length<2
  ·rw [if_pos h2] at h;omega
  ·refine ⟨Classical.byContradiction fun h=>h2 (.inl h),?_,Classical.byContradiction fun h=>h2 (.inr (.inr (.inl h))),?_⟩
   ·cases hl:e.later with
    | false=>rfl
    | true=>exact absurd (.inr (.inl hl)) h2
   ·exact Nat.le_of_not_lt fun h=>h2 (.inr (.inr (.inr h)))
theorem joinTail_len (sep:Str) (hs:sep.length≤5) (r:List Str):(Lib.joinTail sep r).length≤(r.map (fun x=>x.length+5)).sum:=by
 induction r with
 | nil=>simp [Lib.joinTail]
 | cons y r ih =>
   unfold Lib.joinTail at ih ⊢
   simp only [List.map_cons,List.flatten_cons,List.length_append,List.sum_cons]
   omega
theorem join_len (sep:Str) (hs:sep.length≤5) (l:List Str):(Lib.join l sep).length≤(l.map (fun x=>x.length+5)).sum:=by
 cases l with
 | nil=>simp [Lib.join_nil]
 | cons x r =>
   rw [Lib.join_cons]
   have:=joinTail_len sep hs r
   simp only [List.length_append,List.map_cons,List.sum_cons];omega
theorem sep_len (kind:Int):(if kind=3 then tOR else tAND:Str).length≤5:=by split<;>decide
mutual
theorem txt_len:∀(e:Ex),fault e=0→(txt e).length+10≤140*e.cnt
 | .mk kind name later wth kids,h=>by
   obtain ⟨h1,h2⟩:=fault_zero h
   obtain ⟨_,_,o1,o2⟩:=one_zero h1
   simp only at o1 o2 h2
   simp only [txt,Ex.cnt]
   by_cases hk:kind=1
   ·obtain ⟨rfl,n1,n2⟩:=o1 hk
    have l1:=isName_len n1
    rw [if_pos hk]
    have l2:(if later=true then name++[43] else name:Str).length≤61:=by
     split
     ·simp;omega
     ·omega
    have l3:(if wth≠[] then tWITH++wth else []:Str).length≤66:=by
     rcases n2 with rfl | n2
     ·simp
     ·have:=isName_len n2
      split
      ·simp [tWITH];omega
      ·simp
    rw [List.length_append];omega
   ·rw [if_neg hk]
    have:=txtL_len kind kids h2
    have:=join_len (if kind=3 then tOR else tAND) (sep_len kind) (txtL kind kids)
    omega
theorem txtL_len:∀(kind:Int) (l:List Ex),faultL l=0→((txtL kind l).map (fun x=>x.length+5)).sum≤140*cntL l
 | _,[],_=>by simp [txtL]
 | kind,k::r,h=>by
   have h1:=txt_len k (faultL_mem h (by simp))
   have h2:faultL r=0:=by
    simp only [faultL] at h
    split at h
    ·rename_i hx;exact absurd h hx
    ·exact h
   have h3:=txtL_len kind r h2
   rw [txtL_cons,List.map_cons,List.sum_cons]
   simp only [cntL]
   have:(par kind k).length≤(txt k).length+2:=by
    unfold par;split
    ·simp
    ·omega
   omega
end
theorem cnt_kids {e k:Ex} (h:k∈e.kids):k.cnt<e.cnt:=by
 cases e with
 | mk a b c d l=>have:k.cnt≤cntL l:=cnt_mem h;simp only [Ex.cnt];omega
theorem cnt_len {e:Ex}:e.kids.length<e.cnt:=by
 cases e with
 | mk a b c d l =>
   simp only [Ex.cnt]
   have:∀l:List Ex,l.length≤cntL l:=by
    intro l
    induction l with
    | nil=>simp
    | cons k r ih=>have:=k.cnt_pos;simp only [cntL,List.length_cons];omega
   have:=this l
   omega
mutual
theorem small_fine:∀(e:Ex),fault e=0→e.cnt≤200→Small e
 | .mk kind name later wth kids,h,hc=>by
   obtain ⟨h1,h2⟩:=fault_zero h
   obtain ⟨_,_,o1,o2⟩:=one_zero h1
   have hl:=cnt_len (e:= .mk kind name later wth kids)
   simp only at o1 o2 h2 hl
   simp only [Ex.cnt] at hc hl
   simp only [Small]
   refine ⟨?_,?_,by omega,small_fineL kids h2 (by omega)⟩
   ·by_cases hk:kind=1
    ·have:=isName_len (o1 hk).2.1;omega
    ·rw [(o2 hk).1];simp
   ·by_cases hk:kind=1
    ·rcases (o1 hk).2.2 with rfl | n
     ·simp
     ·have:=isName_len n;omega
    ·rw [(o2 hk).2.2.1];simp
theorem small_fineL:∀(l:List Ex),faultL l=0→cntL l≤200→SmallL l
 | [],_,_=>by simp only [SmallL]
 | k::r,h,hc=>by
   simp only [cntL] at hc
   simp only [SmallL]
   refine ⟨small_fine k (faultL_mem h (by simp)) (by omega),small_fineL r ?_ (by omega)⟩
   simp only [faultL] at h
   split at h
   ·rename_i hx;exact absurd h hx
   ·exact h
end
theorem chk_zero {e:Ex} (h:chk e=0):e.cnt≤200∧e.lev≤30∧fault e=0:=by
 unfold chk at h
 split at h
 ·omega
 ·exact ⟨by omega,by omega,h⟩
end LicSpec
namespace Pe.Tryz
open Go Go.Proofs Pe LicSpec
theorem L47:∀(n:Nat) (e:Ex),e.lev≤n→fault e=0→e.cnt≤200→m47 (orcN n) e=some (txt e,()):=by
 intro n
 induction n with
 | zero=>intro e h;have:=e.lev_pos;omega
 | succ n ih =>
   intro e hl hf hc
   obtain ⟨h1,h2⟩:=fault_zero hf
   obtain ⟨k1,k3,o1,o2⟩:=one_zero h1
   have hlen:=txt_len e hf
   unfold m47
   rw [txt_eq]
   by_cases hk:e.kind=1
   ·obtain ⟨n0,n1,n2⟩:=o1 hk
    have l1:=isName_len n1
    have e1:(e.kind==1)=true:=by simpa using hk
    rw [e1,if_pos hk]
    simp only [br_true]
    have hw:e.wth.length≤60:=by
     rcases n2 with h | h
     ·rw [h];simp
     ·exact isName_len h
    have hlim:lim=4294967296:=rfl
    rw [cat?_ok (l:=e.name) (r:=[43]) (by simp;omega)]
    have fin:∀a:List UInt8,a.length≤61→(br (e.wth != []) (ob (cat? ([32,87,73,84,72,32]:List UInt8) e.wth) fun s3=>(ob (cat? a s3) fun s4=>(some (s4,())))) (some (a,())))=some (a++(if e.wth≠[] then tWITH++e.wth else []),()):=by
     intro a ha
     by_cases h0:e.wth=[]
     ·simp [h0,br_false]
     ·have:(e.wth != [])=true:=by simpa using h0
      rw [this,cat?_ok (by simp;omega),if_pos h0]
      simp only [br_true,ob_some_eq]
      rw [cat?_ok (by simp;omega)];rfl
    cases hla:e.later with
    | true =>
      simp only [br_true,ob_some_eq,cutM_inl,if_true]
      exact fin _ (by simp;omega)
    | false =>
      simp only [br_false,ob_some_eq,cutM_inl,Bool.false_eq_true,if_false]
      exact fin _ (by omega)
   ·have e1:(e.kind==1)=false:=by simpa using hk
    rw [e1,if_neg hk]
    simp only [br_false]
    have e3:br (e.kind==3) (some (Sum.inl ([32,79,82,32],())):Option ((List UInt8×Unit)⊕(List UInt8×Unit))) (some (.inl ([32,65,78,68,32],())))=some (.inl ((if e.kind=3 then tOR else tAND),())):=by
     by_cases h3:e.kind=3
     ·simp [h3,br_true,tOR]
     ·have:(e.kind==3)=false:=by simpa using h3
      simp [h3,this,br_false,tAND]
    rw [e3]
    simp only [cutM_inl]
    have hkl:e.kids.length<e.cnt:=cnt_len
    have hlim:lim=4294967296:=rfl
    rw [show (([]:List (List UInt8)),(0:Int),())=((fun (k:Nat) (a:List (List UInt8))=>(a,(k:Int),())) 0 []) from rfl]
    rw [loop_st (R:=(List (List UInt8)×Unit)⊕(List UInt8×Unit)) (fun (k:Nat) (a:List (List UInt8))=>(a,(k:Int),())) e.kids.length (fun k a=> .inl (a++txtL e.kind (e.kids.drop k),())) (fun k a=>a.length=k) ?h1 0 [] (Nat.zero_le _) rfl]
    case h1 =>
     intro k a hk' ha
     simp only
     by_cases hlt:k<e.kids.length
     ·have hmem:e.kids[k]∈e.kids:=List.getElem_mem hlt
      have hlk:=lev_kid hmem
      have hck:=cnt_kids hmem
      have hfk:=faultL_mem h2 hmem
      have hih:=ih e.kids[k] (by omega) hfk (by omega)
      have htl:=txt_len _ hfk
      left
      refine ⟨a++[par e.kind e.kids[k]],hlt,?_,by simp [ha],?_⟩
      ·simp only [len_lt,hlt,decide_true,br_true,ob_some_eq,at?_get hlt,Ex.eta,q47,hih,br_some_eq,cond_or]
       have hcond:((e.kids[k].kind==e.kind)||(e.kids[k].kind==3))=decide (e.kids[k].kind=e.kind∨e.kids[k].kind=3):=by
        by_cases a1:e.kids[k].kind=e.kind<;>by_cases a2:e.kids[k].kind=3<;>simp [a1,a2]
       rw [hcond]
       unfold par
       by_cases hp:e.kids[k].kind=e.kind∨e.kids[k].kind=3
       ·rw [decide_eq_true hp,if_pos hp]
        simp only [br_true]
        rw [cat?_ok (by simp;omega)]
        simp only [ob_some_eq]
        rw [cat?_ok (by simp;omega)]
        simp only [ob_some_eq,cutM_inl]
        rw [cat?_ok (by simp;omega)]
        simp only [ob_some_eq,wrap_succ hlt (by omega:e.kids.length≤9223372036854775807)]
       ·rw [decide_eq_false hp,if_neg hp]
        simp only [br_false,cutM_inl]
        rw [cat?_ok (by simp;omega)]
        simp only [ob_some_eq,wrap_succ hlt (by omega:e.kids.length≤9223372036854775807)]
      ·rw [drop_get' hlt,txtL_cons];simp
     ·right
      simp only [len_lt,hlt,decide_false,br_false]
      rw [List.drop_of_length_le (by omega)];simp [txtL]
    simp only [cutM_inl,List.drop_zero,List.nil_append]
    rw [q89]
    have b1:Nat.ble (txtL e.kind e.kids).length 1000000=true:=by rw [Nat.ble_eq,txtL_length];omega
    have b2:Nat.ble (Lib.join (txtL e.kind e.kids) (if e.kind=3 then tOR else tAND)).length 100000000=true:=by
     rw [Nat.ble_eq]
     rw [txt_eq,if_neg hk] at hlen
     omega
    rw [b1,b2];rfl
theorem L12 {n:Nat} (hn:220≤n) {e:Ex} (h:chk e=0):m12 (orcN n) e=some (if 4000<(txt e).length then ([],3,()) else (txt e,0,())):=by
 obtain ⟨c1,c2,c3⟩:=chk_zero h
 obtain ⟨m,rfl⟩:∃m,n=m+1:=⟨n - 1,by omega⟩
 have h20:=L18 m e (by omega) (small_fine e c3 c1)
 have h26:=L47 m e (by omega) c3 c1
 unfold m12
 simp only [Ex.eta,q18,h20,ob_some_eq,h,show ((0:Int) != 0)=false from rfl,br_false,q47,h26,dec_len]
 by_cases hx:4000<(txt e).length
 ·rw [decide_eq_true hx,if_pos hx];rfl
 ·rw [decide_eq_false hx,if_neg hx];rfl
def toldS:List UInt8:=[109,105,116,32,111,114,32,40,103,112,108,45,50,43,32,119,105,116,104,32,108,105,110,107,105,110,103,32,97,110,100,32,98,115,100,41]
def toldT:List UInt8:=[109,105,116,32,79,82,32,103,112,108,45,50,43,32,87,73,84,72,32,108,105,110,107,105,110,103,32,65,78,68,32,98,115,100]
def toldE:Ex:= .mk 3 [] false [] [.mk 1 [109,105,116] false [] [],.mk 2 [] false [] [.mk 1 [103,112,108,45,50] true [108,105,110,107,105,110,103] [],.mk 1 [98,115,100] false [] []]]
theorem told_chk:chk toldE=0:=by kernel_rfl
theorem told_read:licR toldS=(toldE,0,0,()):=by kernel_rfl
theorem told_txt:txt toldE=toldT:=by kernel_rfl
theorem L22 {n:Nat} (hn:230≤n):m22 (orcN n)=some (true,()):=by
 obtain ⟨m,rfl⟩:∃m,n=m+1:=⟨n - 1,by omega⟩
 unfold m22
 have h7:=G60 (n:=m+1) (by omega) toldS
 rw [told_read] at h7
 rw [show ([109,105,116,32,111,114,32,40,103,112,108,45,50,43,32,119,105,116,104,32,108,105,110,107,105,110,103,32,97,110,100,32,98,115,100,41]:List UInt8)=toldS from rfl,h7]
 have h11:=L12 (n:=m) (by omega) told_chk
 rw [told_txt,if_neg (by decide)] at h11
 simp only [ob_some_eq,Ex.eta,q12,h11]
 rfl
theorem G22 {n:Nat} (hn:231≤n): @Eq (Option (Bool×Unit)) ((orcN n).d 22 [] [.bool]) (some (true,())):=by
 obtain ⟨m,rfl⟩:∃m,n=m+1:=⟨n - 1,by omega⟩
 rw [q22];exact L22 (by omega)
end Pe.Tryz
end
