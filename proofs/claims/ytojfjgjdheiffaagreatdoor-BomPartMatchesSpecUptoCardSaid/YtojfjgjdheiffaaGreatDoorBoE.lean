/- PROVED HERE: a part of the seat's proofs; see the text that holds the claim's theorem. -/
import Derived.Test.YtojfjgjdheiffaaGreatDoorBoB
set_option maxRecDepth 100000
section
namespace Pe
end Pe
namespace Kb
theorem Ex.eta(e:Ex):Ex.mk e.kind e.name e.later e.wth e.kids=e:=by cases e;rfl
end Kb
namespace Pe.Tryz
open Go Go.Proofs Pe Kb
theorem zla(c:UInt8):Kb.isRun c=((decide (97<=(c.toNat:Int))&&decide ((c.toNat:Int)<=122))||(decide (65<=(c.toNat:Int))&&decide ((c.toNat:Int)<=90))||(decide (48<=(c.toNat:Int))&&decide ((c.toNat:Int)<=57))||(c.toNat:Int)==46||(c.toNat:Int)==45):=by
 have h:∀n:Nat,n<256->(UInt8.ofNat n).toNat=n:=λn hn=>by grind[UInt8.toNat_ofNat']
 have h2:∀n:Nat,n<256->Kb.isRun (UInt8.ofNat n)=((decide (97<=(n:Int))&&decide ((n:Int)<=122))||(decide (65<=(n:Int))&&decide ((n:Int)<=90))||(decide (48<=(n:Int))&&decide ((n:Int)<=57))||(n:Int)==46||(n:Int)==45):=by decide+revert
 have h3:=h2 c.toNat c.toNat_lt;simp_all
theorem L303(o:Orc Sx)(c:UInt8):m303 o (c.toNat:Int)=some (Kb.isRun c,()):=by simp_all[m303,zai,zaa,zla]
theorem L327(o:Orc Sx)(c:UInt8):m327 o (c.toNat:Int)=some (Kb.isRun c,()):=by simp_all[m327,zai,zaa,zla]
theorem L304(o:Orc Sx)(s:By):m304 o s=some (Kb.isWord s,()):=by unfold m304 Kb.isWord zc6 sOR za4 zse sor zny;grind[zai]
theorem L315(o:Orc Sx)(s:By):m315 o s=some (Kb.wordR s,()):=by
 unfold m315 Kb.wordR zc6 sOR za4 zse sor zny;by_cases h1:s=[65,78,68];·subst h1;rfl
 by_cases h2:s=[97,110,100];·subst h2;rfl
 by_cases h3:s=[79,82];·subst h3;rfl
 by_cases h4:s=[111,114];·subst h4;rfl
 by_cases h5:s=[87,73,84,72];·subst h5;rfl
 by_cases h6:s=[119,105,116,104];·subst h6;rfl
 have e:∀t:By,s≠t->(s==t)=false:=λt ht=>by grind
 simp only[e _ h1,e _ h2,e _ h3,e _ h4,e _ h5,e _ h6,zab,zaj,h1,h2,h3,h4,h5,h6,or_self,if_false]
theorem zm9{s:By}{k:Nat}(h:k<s.length):(s.drop k).all Kb.isRun=(Kb.isRun s[k]&&(s.drop (k+1)).all Kb.isRun):=by rw[yAV h];rfl
theorem L306(n:Nat)(s:By)(hs:s.length<=1000000000):m306 (zah (n+1)) s=some (Kb.isName s,()):=by
 unfold m306;have Q8:zak (R:=J⊕(Bool×J)) (λ(t8:Int×J)=>br (decide (t8.1<(len s))) (ob (at? s t8.1) λc9=>ob (α:=Bool×J) ((zah (n+1)).d 303 [.int .u8 (UInt8.toNat c9:Int)] [.bool]) λ(r10:Bool×J)=>br (!r10.1) (some (.inr (.inr (false,())))) (some (.inl (IntKind.i64.wrap (t8.1+1),())))) (some (.inr (.inl (()))))) (((0:Nat):Int),())=some (if s.all Kb.isRun then .inl () else .inr (false,())):=by
  have:=zhY (f:=λ(t8:Int×J)=>br (decide (t8.1<(len s))) (ob (at? s t8.1) λc9=>ob (α:=Bool×J) ((zah (n+1)).d 303 [.int .u8 (UInt8.toNat c9:Int)] [.bool]) λ(r10:Bool×J)=>br (!r10.1) (some (.inr (.inr (false,())))) (some (.inl (IntKind.i64.wrap (t8.1+1),())))) (some (.inr (.inl (()))))) s.length (λk=>if (s.drop k).all Kb.isRun then (.inl ():J⊕(Bool×J)) else .inr (false,())) (λk hk=>?_) 0 (yAA _);·grind
  ·by_cases Ks:k<s.length
   ·simp only[zao,Ks,decide_true,zac,zan Ks,zaa,q303,L303];cases hr:Kb.isRun s[k] with
    |true =>left;simp only[yBS,zab];grind[zaf,zm9]|false =>grind[zac,zm9]
   ·right;simp only[zao,Ks,decide_false,zab];simp_all[yAG]
 rw[show ((0:Int),())=(((0:Nat):Int),()) from rfl,Q8];simp only[zai,zaa,zbS];unfold Kb.isName;cases s with
 |nil=>rfl|cons c r =>
   have h0:at? (c::r) 0=some c:=rfl;have e46:((c.toNat:Int)==46)=(some c==some 46):=by
    have:((c.toNat:Int)=46)↔c=46:=⟨λh=>UInt8.toNat.inj (by grind),λh=>by subst h;rfl⟩;by_cases h:c=46;·subst h;rfl
    ·have h1:¬(c.toNat:Int)=46:=λh'=>h (this.1 h');rw[beq_eq_false_iff_ne.2 h1,beq_eq_false_iff_ne.2 (by simpa using h)]
   have e45:((c.toNat:Int)==45)=(some c==some 45):=by
    have:((c.toNat:Int)=45)↔c=45:=⟨λh=>UInt8.toNat.inj (by grind),λh=>by subst h;rfl⟩;by_cases h:c=45;·subst h;rfl
    ·have h1:¬(c.toNat:Int)=45:=λh'=>h (this.1 h');rw[beq_eq_false_iff_ne.2 h1,beq_eq_false_iff_ne.2 (by simpa using h)]
   have e60:decide (60<len (c::r))=decide (60<(c::r).length):=(by unfold len;exact decide_eq_decide.2 (by omega));simp only[h0,zaa,q304,L304,e46,e45,e60,List.isEmpty_cons,List.head?_cons,Bool.false_or,show ((c::r)==([]:By))=false from rfl,zai,zbS];grind[zfq,zaE]
end Pe.Tryz
end
section
namespace Pe.Tryz
open Go Go.Proofs Pe Kb
theorem q305(n:Nat)(s:By): @Eq (Option (By×J)) ((zah (n+1)).d 305 [.str s] [.str]) (bif Nat.ble s.length 1000000&&s.all (λb=>Nat.blt b.toNat 128) then some (Lib.toUpperA s,()) else none):=by kernel_rfl
theorem q234(n:Nat)(s:By): @Eq (Option (Ex×Gt.Licence_fault×J)) ((zah (n+1)).d 234 [.str s] [.st 9,.st 15]) (match zl4 (zah n) s with
 |some (.inl c)=>some c|some (.inr p)=>some (Kb.Ex.zero,⟨p.1,p.2.1⟩,())|none=>none):=by kernel_rfl
theorem znu{s:By}(h:Kb.isWord s=true):s.length<=4/\s.all (λb=>Nat.blt b.toNat 128)=true/\Lib.toUpperA s=Kb.wordR s:=by unfold Kb.isWord at h;simp only[yBF,beq_iff_eq] at h;rcases h with ((((rfl|rfl)|rfl)|rfl)|rfl)|rfl<;>exact ⟨by decide,by decide,by decide⟩
theorem L305(n:Nat){s:By}(h:Kb.isWord s=true): @Eq (Option (By×J)) ((zah (n+1)).d 305 [.str s] [.str]) (some (Kb.wordR s,())):=by
 obtain ⟨h1,h2,h3⟩:=znu h;rw[q305,h2,h3];have:Nat.ble s.length 1000000=true:=by rw[yAK];omega
 rw[this];rfl
theorem zer(c d:UInt8):((c.toNat:Int)==(d.toNat:Int))=(c==d):=by
 by_cases h:c=d;·subst h;simp
 ·have h1:¬(c.toNat:Int)=(d.toNat:Int):=λh'=>h (UInt8.toNat.inj (by omega));rw[beq_eq_false_iff_ne.2 h1,beq_eq_false_iff_ne.2 h]
theorem zlz(c:UInt8):Kb.isBlank c=(((c.toNat:Int)==32||(c.toNat:Int)==9)||(c.toNat:Int)==10):=by have h1:=zer c 32;have h2:=zer c 9;have h3:=zer c 10;grind[isBlank]
theorem zmr{S:By}{k:Nat}(h:k<S.length):Kb.skipB (S.drop k)=if Kb.isBlank S[k] then Kb.skipB (S.drop (k+1))+1 else 0:=by rw[yAV h];rfl
theorem zoy{S:By}{k:Nat}(h:k<S.length):Kb.runL (S.drop k)=if Kb.isRun S[k] then Kb.runL (S.drop (k+1))+1 else 0:=by rw[yAV h];rfl
theorem zjw(r:By):Kb.skipB r<=r.length:=by
 induction r with
 |nil=>grind[skipB]|cons c r ih=>grind[skipB]
def toR(S:By)(s:PS):Gt.Rd:=⟨S,s.fin,⟨s.kind,s.text,s.at_,s.tight⟩,s.opn⟩
def zci{α β:Type}(S:By)(inj:α->β):Res α->((Gt.Rd×J)×β)⊕(Int×Int×J)| .ok a s=>.inl ((toR S s,()),inj a)| .err a c=>.inr ((a:Int),c,())
theorem ztb(S:By)(k:Nat):((k:Int)==len S)=decide (k=S.length):=by
 unfold len;by_cases h:k=S.length;·subst h;simp
 ·have:¬(k:Int)=(S.length:Int):=by omega
  simp_all
theorem L279(n:Nat)(a c:Int): @Eq (Option ((J×J)⊕(Int×Int×J))) ((zah (n+1)).e 279 [.int .i64 a,.int .i64 c] [] [] () [] [.int .i64,.int .i64] 254) (some (.inr (a,c,()))):=by rw[q279];rfl
set_option maxHeartbeats 1000000 in
theorem L277(n:Nat)(S:By)(s:PS)(hS:S.length<=1000000)(hf:s.fin<=S.length) :
  m277 (zah (n+2)) (toR S s,())=some (zci S (λ_=>()) (zbG S s)):=by
 unfold m277;simp only[toR];rw[zhY (R:=(Int×J)⊕(((Gt.Rd×J)×J)⊕(Int×Int×J))) S.length (λk=>.inl (((k+Kb.skipB (S.drop k):Nat):Int),())) ?h1 s.fin hf]
 case h1 =>
  intro k hk;by_cases Ks:k<S.length
  ·simp only[zao,Ks,decide_true,zan Ks,zaa,zai,zbS,<-zlz];rw[zmr Ks];cases hb:Kb.isBlank S[k] with
   |true=>left;exact ⟨trivial,by rw[zaf Ks (by omega)];rfl,by simp;omega⟩|false=>right;simp
  ·right;simp only[zao,Ks,decide_false,zab,zaa];rw[yAG (by omega)];rfl
 simp only[zaj];have hsk:=zjw (S.drop s.fin);rw[yAL] at hsk;unfold zbG;generalize ha:s.fin+Kb.skipB (S.drop s.fin)=a;have hale:a<=S.length:=by omega
 have htight:(bif ((a:Int)==(s.fin:Int)) then decide (0<(a:Int)) else false)=(decide (a=s.fin)&&decide (0<a)):=by
  rw[zcw];congr 1
  ·by_cases h:a=s.fin;·rw[h];simp
   ·have:¬(a:Int)=(s.fin:Int):=by omega
    rw[beq_eq_false_iff_ne.2 this];simp[h]
  ·exact decide_eq_decide.2 (by omega)
 simp only[zai,htight,zaa,ztb];by_cases hend:a=S.length;·have hd:S.drop a=[]:=yAG (by omega);simp only[hend,decide_true,zac];rw[<-hend,hd];simp[zco,zci,toR]
 ·have Ks:a<S.length:=by omega
  simp only[hend,decide_false,zab];rw[show ((0:Int),())=(((0:Nat):Int),()) from rfl];rw[zhY (R:=(Int×J)⊕(((Gt.Rd×J)×J)⊕(Int×Int×J))) (S.length - a) (λk=>.inl (((k+Kb.runL (S.drop (a+k)):Nat):Int),())) ?h2 0 (by omega)]
  case h2 =>
   intro k hk;have hw:IntKind.i64.wrap ((a:Int)+(k:Int))=((a+k:Nat):Int):=by rw[zaH (by omega) (by omega)];rfl
   simp only[hw];by_cases hlt2:a+k<S.length
   ·simp only[zao,hlt2,decide_true,zac,zan hlt2,zaa,q303,L303];rw[zoy hlt2];cases hb:Kb.isRun S[a+k] with
    |true=>left;exact ⟨by omega,by rw[zaf (n:=S.length) (by omega) (by omega)];rfl,by simp[yBx];omega⟩|false=>right;simp
   ·right;simp only[zao,hlt2,decide_false,zab,zaa];rw[yAG (by omega)];rfl
  simp only[yBu,yAJ];simp only[zaj];have hrl:=zjA (S.drop a);rw[yAL] at hrl;obtain ⟨c,r,hcr⟩:∃c r,S.drop a=c::r:=⟨_,_,yAV Ks⟩;have hc:S[a]=c:=by
   have h:=yAV Ks;rw[hcr] at h;injection h with h1 _
   exact h1.symm
  generalize hrn:Kb.runL (S.drop a)=m at hrl ⊢;unfold zco;rw[hcr];simp only;rw[<-hcr,hrn];by_cases hm:m=0
  ·subst hm;simp only[zan Ks,zaa,hc,show (((0:Nat):Int)==0)=true from rfl,zac,if_true,L279,zbf,zd9];have hw1:IntKind.i64.wrap ((a:Int)+1)=((a+1:Nat):Int):=by rw[zaH (by omega) (by omega)];rfl
   have b43:((c.toNat:Int)==43)=(c==43):=zer c 43;have b40:((c.toNat:Int)==40)=(c==40):=zer c 40;have b41:((c.toNat:Int)==41)=(c==41):=zer c 41;rw[b43,b40,b41];by_cases h43:c=43;·subst h43;simp[zac,zaj,hw1,zci,toR]
   ·by_cases h40:c=40;·subst h40;simp[zac,zab,zaj,hw1,zci,toR]
    ·by_cases h41:c=41;·subst h41;simp[zac,zab,zaj,hw1,zci,toR]
     ·simp[beq_eq_false_iff_ne.2 h43,beq_eq_false_iff_ne.2 h40,beq_eq_false_iff_ne.2 h41,zab,zaU,zci,h43,h40,h41]
  ·have hm0:(((m:Nat):Int)==0)=false:=(by rw[beq_eq_false_iff_ne];omega);have hw:IntKind.i64.wrap ((a:Int)+(m:Int))=((a+m:Nat):Int):=(by rw[zaH (by omega) (by omega)];rfl);simp only[hm0,zab,zd9,hw,zhM (show a<=a+m by omega) (show a+m<=S.length by omega),yAP,zaa,zaj,q304,L304,hm,if_false];have Ku:((S.drop a).take m).length<=1000000000:=by rw[yAY,yAL];omega
   cases hw1:Kb.isWord ((S.drop a).take m) with
   |true =>simp only[zac,L305 (n+1) hw1,zaa,zaj,if_true,hw];simp[zci,toR]|false =>
     simp only[zab,q306,L306 n _ Ku,zaa];cases hn1:Kb.isName ((S.drop a).take m) with
     |true=>simp[zab,zaj,hw,zci,toR]|false=>simp[zac,L279,zbf,zaU,zci]
end Pe.Tryz
end
section
namespace Pe.Tryz
open Go Go.Proofs Pe Kb
theorem L41e(n:Nat)(S:By)(s:PS)(hS:S.length<=1000000)(hf:s.fin<=S.length) :
  @Eq (Option (((Gt.Rd×J)×J)⊕(Int×Int×J))) ((zah (n+3)).e 277 [.ptr 0 0] [293] [.st 16] ((toR S s,()):Gt.Rd×J) [] [.int .i64,.int .i64] 254) (some (zci S (λ_=>()) (zbG S s))):=by
 grind[q277,L277]
theorem tok_n{r:By}{k:Int}{t:By}{n:Nat}(h:zco r=some (k,t,n)):n<=r.length/\(k=0\/0<n):=by
 unfold zco at h;grind[zjA]
theorem zcZ{S:By}{s s':PS}{u:J}(h:zbG S s= .ok u s')(hf:s.fin<=S.length):s'.fin<=S.length/\s.fin<=s'.fin/\(s'.kind≠0->s.fin<s'.fin)/\s'.opn=s.opn:=by
 unfold zbG at h;simp only at h;have hsk:=zjw (S.drop s.fin);rw[yAL] at hsk;split at h;·cases h
 ·rename_i k t n htok;obtain ⟨h1,h2⟩:=tok_n htok;rw[yAL] at h1;cases h;simp only;by_cases hk:k=0;·grind
  ·rw[if_neg hk];rcases h2 with h2|h2;·grind
   ·exact ⟨by omega,by omega,λ_=>by omega,trivial⟩
theorem L324(n:Nat)(S:By)(s:PS)(w:By)(hS:S.length<=1000000)(hf:s.fin<=S.length) :
  @Eq (Option (((Gt.Rd×J)×(Bool×J))⊕(Int×Int×J))) ((zah (n+4)).e 324 [.ptr 0 0,.str w] [293] [.st 16] ((toR S s,()):Gt.Rd×J) [.bool] [.int .i64,.int .i64] 254) (some (zci S (λb=>(b,())) (pIs S w s))):=by
 rw[q324];unfold m324 pIs;simp only[L41e n S s hS hf];by_cases hk:s.kind=2
 ·by_cases ht:s.text=w
  ·simp only[hk,ht,and_self,if_true];have e1:(toR S s).now.kind=2:=hk;have e2:(toR S s).now.text=w:=ht;simp only[e1,e2,show ((2:Int) != 2)=false from rfl,bne_self_eq_false,zab,zaa];grind[zci,zaA,zbf]
  ·have e1:(toR S s).now.kind=2:=hk;have e2:((toR S s).now.text != w)=true:=(by grind[toR]);simp only[e1,e2,show ((2:Int) != 2)=false from rfl,zab,zac,zaa,hk,ht,and_false,if_false];simp[zci]
 ·have e1:((toR S s).now.kind != 2)=true:=by grind[toR]
  simp only[e1,zac,zaa,hk,false_and,if_false];simp[zci]
theorem L333(n:Nat)(S:By)(s:PS)(hS:S.length<=1000000)(hf:s.fin<=S.length) :
  @Eq (Option (((Gt.Rd×J)×(By×J))⊕(Int×Int×J))) ((zah (n+4)).e 333 [.ptr 0 0] [293] [.st 16] ((toR S s,()):Gt.Rd×J) [.str] [.int .i64,.int .i64] 254) (some (zci S (λb=>(b,())) (zc9 S s))):=by
 rw[q333];unfold m333 zc9;simp only[L41e n S s hS hf];by_cases hk:s.kind=1
 ·have e1:(toR S s).now.kind=1:=hk;simp only[e1,show ((1:Int) != 1)=false from rfl,zab,zaj,hk,ne_eq,not_true_eq_false,if_false];grind[zci,zaA,toR,zbf]
 ·have e1:((toR S s).now.kind != 1)=true:=by grind[toR]
  simp only[e1,zac,L279,zbf,zaU,hk,ne_eq,not_false_eq_true,if_true];simp[zci,toR]
end Pe.Tryz
end
section
namespace Pe.Tryz
open Go Go.Proofs Pe Kb
abbrev RTup:=By×Int×Int×By×Int×Bool×Int×Int×By×Bool×By×List Ex×J
noncomputable def zqk(orc:Orc Sx)(f:FuncId)(w:By):RTup->Option (RTup⊕(RTup⊕(((Gt.Rd×J)×(Ex×J))⊕(Int×Int×J)))):=λ(t4:By×Int×Int×By×Int×Bool×Int×Int×By×Bool×By×List Kb.Ex×J)=>oc (α:=(Gt.Rd×J)×(Bool×J)) (β:=Int×Int×J) (orc.e 324 [.ptr 0 0,.str w] [293] [.st 16] ((Gt.Rd.mk t4.1 t4.2.1 (Gt.Tk.mk t4.2.2.1 t4.2.2.2.1 t4.2.2.2.2.1 t4.2.2.2.2.2.1) t4.2.2.2.2.2.2.1,()):Gt.Rd×J) [.bool] [I6,I6] 254) (λ(r5:((Gt.Rd×J)×(Bool×J)))=>br r5.2.1 (oc (α:=(Gt.Rd×J)×(Kb.Ex×J)) (β:=Int×Int×J) (orc.e f [.ptr 0 0] [293] [.st 16] ((r5.1.1,()):Gt.Rd×J) [.st 9] [I6,I6] 254) (λ(r6:((Gt.Rd×J)×(Kb.Ex×J)))=>ob (zdJ t4.2.2.2.2.2.2.2.2.2.2.2.1 [r6.2.1]) λl7=>some (.inl (Gt.Rd.s r6.1.1,Gt.Rd.end_ r6.1.1,Gt.Tk.kind (Gt.Rd.now r6.1.1),Gt.Tk.text (Gt.Rd.now r6.1.1),Gt.Tk.at_ (Gt.Rd.now r6.1.1),Gt.Tk.tight (Gt.Rd.now r6.1.1),Gt.Rd.open_ r6.1.1,t4.2.2.2.2.2.2.2.1,t4.2.2.2.2.2.2.2.2.1,t4.2.2.2.2.2.2.2.2.2.1,t4.2.2.2.2.2.2.2.2.2.2.1,l7,()))) λ(p8:Int×Int×J)=>some (.inr (.inr (.inr (p8.1,p8.2.1,()))))) (some (.inr (.inl (Gt.Rd.s r5.1.1,Gt.Rd.end_ r5.1.1,Gt.Tk.kind (Gt.Rd.now r5.1.1),Gt.Tk.text (Gt.Rd.now r5.1.1),Gt.Tk.at_ (Gt.Rd.now r5.1.1),Gt.Tk.tight (Gt.Rd.now r5.1.1),Gt.Rd.open_ r5.1.1,t4.2.2.2.2.2.2.2.1,t4.2.2.2.2.2.2.2.2.1,t4.2.2.2.2.2.2.2.2.2.1,t4.2.2.2.2.2.2.2.2.2.2.1,t4.2.2.2.2.2.2.2.2.2.2.2.1,()))))) λ(p9:Int×Int×J)=>some (.inr (.inr (.inr (p9.1,p9.2.1,()))))
noncomputable def rowM(orc:Orc Sx)(f:FuncId)(kind:Int)(w:By)(rc:Gt.Rd×J):Option (((Gt.Rd×J)×(Kb.Ex×J))⊕(Int×Int×J)):=oc (α:=(Gt.Rd×J)×(Kb.Ex×J)) (β:=Int×Int×J) (oc (α:=(Gt.Rd×J)×(Kb.Ex×J)) (β:=Int×Int×J) (orc.e f [.ptr 0 0] [293] [.st 16] ((rc.1,()):Gt.Rd×J) [.st 9] [I6,I6] 254) (λ(r2:((Gt.Rd×J)×(Kb.Ex×J)))=>ob (br ((Gt.Tk.kind (Gt.Rd.now r2.1.1)) != 2) (some true) (some ((Gt.Tk.text (Gt.Rd.now r2.1.1)) != w))) λb3=>br b3 (some (.inl ((r2.1.1,()),(Kb.Ex.mk (Kb.Ex.kind r2.2.1) (Kb.Ex.name r2.2.1) (Kb.Ex.later r2.2.1) (Kb.Ex.wth r2.2.1) (Kb.Ex.kids r2.2.1),())))) (zaE (σ:=By×Int×Int×By×Int×Bool×Int×Int×By×Bool×By×List Kb.Ex×J) (zak (σ:=By×Int×Int×By×Int×Bool×Int×Int×By×Bool×By×List Kb.Ex×J) (zqk orc f w) (Gt.Rd.s r2.1.1,Gt.Rd.end_ r2.1.1,Gt.Tk.kind (Gt.Rd.now r2.1.1),Gt.Tk.text (Gt.Rd.now r2.1.1),Gt.Tk.at_ (Gt.Rd.now r2.1.1),Gt.Tk.tight (Gt.Rd.now r2.1.1),Gt.Rd.open_ r2.1.1,kind,[],false,[],[Kb.Ex.mk (Kb.Ex.kind r2.2.1) (Kb.Ex.name r2.2.1) (Kb.Ex.later r2.2.1) (Kb.Ex.wth r2.2.1) (Kb.Ex.kids r2.2.1)],())) λ(t10:By×Int×Int×By×Int×Bool×Int×Int×By×Bool×By×List Kb.Ex×J)=>some (.inl ((Gt.Rd.mk t10.1 t10.2.1 (Gt.Tk.mk t10.2.2.1 t10.2.2.2.1 t10.2.2.2.2.1 t10.2.2.2.2.2.1) t10.2.2.2.2.2.2.1,()),(Kb.Ex.mk t10.2.2.2.2.2.2.2.1 t10.2.2.2.2.2.2.2.2.1 t10.2.2.2.2.2.2.2.2.2.1 t10.2.2.2.2.2.2.2.2.2.2.1 t10.2.2.2.2.2.2.2.2.2.2.2.1,()))))) λ(p11:Int×Int×J)=>some (.inr (p11.1,p11.2.1,()))) (λ(r12:((Gt.Rd×J)×(Kb.Ex×J)))=>some (.inl ((r12.1.1,()),(Kb.Ex.mk (Kb.Ex.kind r12.2.1) (Kb.Ex.name r12.2.1) (Kb.Ex.later r12.2.1) (Kb.Ex.wth r12.2.1) (Kb.Ex.kids r12.2.1),())))) λ(p13:Int×Int×J)=>some (.inr (p13.1,p13.2.1,()))
theorem m308_row(orc:Orc Sx)(rc:Gt.Rd×J):m308 orc rc=rowM orc 325 2 zc6 rc:=rfl
theorem m278_row(orc:Orc Sx)(rc:Gt.Rd×J):m278 orc rc=rowM orc 308 3 sOR rc:=rfl
def mkT(S:By)(kind:Int)(s:PS)(acc:List Ex):RTup:=(S,s.fin,s.kind,s.text,s.at_,s.tight,s.opn,kind,[],false,[],acc,())
def zsb(S:By)(o:Nat)(one:PS->Res Ex):Prop:=∀s,s.fin<=S.length->s.opn=o->∀e s',one s= .ok e s'->s.kind≠0/\s.fin<=s'.fin/\s'.fin<=S.length/\s'.opn=o
def zrh(orc:Orc Sx)(f:FuncId)(S:By)(o:Nat)(one:PS->Res Ex):Prop:=∀s,s.fin<=S.length->s.opn=o ->
 @Eq (Option (((Gt.Rd×J)×(Ex×J))⊕(Int×Int×J))) (orc.e f [.ptr 0 0] [293] [.st 16] ((toR S s,()):Gt.Rd×J) [.st 9] [.int .i64,.int .i64] 254) (some (zci S (λe=>(e,())) (one s)))
def zlF(orc:Orc Sx)(S:By)(w:By):Prop:=∀s,s.fin<=S.length ->
 @Eq (Option (((Gt.Rd×J)×(Bool×J))⊕(Int×Int×J))) (orc.e 324 [.ptr 0 0,.str w] [293] [.st 16] ((toR S s,()):Gt.Rd×J) [.bool] [.int .i64,.int .i64] 254) (some (zci S (λb=>(b,())) (pIs S w s)))
theorem zkR{S w:By}{s s':PS}{b:Bool}(h:pIs S w s= .ok b s')(hf:s.fin<=S.length):s'.fin<=S.length/\s.fin<=s'.fin/\s'.opn=s.opn/\(b=true->s'.kind≠0->s.fin<s'.fin):=by
 unfold pIs at h;split at h
 ·split at h;·cases h
  ·rename_i u s1 hn;cases h;obtain ⟨h1,h2,h3,h4⟩:=zcZ hn hf;grind
 simp_all
theorem zsp(S:By)(s:PS):(Gt.Rd.mk S s.fin (Gt.Tk.mk s.kind s.text s.at_ s.tight) s.opn)=toR S s:=rfl
theorem zoD{orc:Orc Sx}{f:FuncId}{S:By}{o:Nat}{kind:Int}{w:By}{one:PS->Res Ex}(ha:zrh orc f S o one)(hi:zlF orc S w)(s:PS)(acc:List Ex)(hf:s.fin<=S.length)(ho:s.opn=o)(hacc:acc.length<=2000000) :
  zqk orc f w (mkT S kind s acc)=match pIs S w s with
   | .err a c=>some (.inr (.inr (.inr ((a:Int),c,()))))| .ok false s'=>some (.inr (.inl (mkT S kind s' acc)))| .ok true s'=>match one s' with
     | .err a c=>some (.inr (.inr (.inr ((a:Int),c,()))))| .ok e s''=>some (.inl (mkT S kind s'' (acc++[e]))):=by
 unfold zqk;simp only[mkT,zsp];rw[hi s hf];cases hp:pIs S w s with
 |err a c=>simp[zci,zbf]|ok b s1 =>
   obtain ⟨k1,k2,k3,_⟩:=zkR hp hf;simp only[zci,zaA];cases b with
   |false=>simp[zab,toR]|true =>
     simp only[zac];rw[ha s1 k1 (k3.trans ho)];cases h1:one s1 with
     |err a c=>simp[zci,zbf]|ok e s2 =>have hc:zdJ acc [e]=some (acc++[e]):=zbc (by grind[lim]);simp only[zci,zaA,hc,zaa];rfl
theorem zmy{orc:Orc Sx}{f:FuncId}{S:By}{o:Nat}{kind:Int}{w:By}{one:PS->Res Ex}(hS:S.length<=1000000)(hg:zsb S o one)(ha:zrh orc f S o one)(hi:zlF orc S w) :
  ∀(F:Nat)(acc:List Ex)(s:PS),s.fin<=S.length->s.opn=o->S.length - s.fin<F->acc.length<=s.fin+1 ->
   zak (zqk orc f w) (mkT S kind s acc)=some (match zb8 S w one F acc s with | .ok l s'=>.inl (mkT S kind s' l) | .err a c=>.inr (.inr ((a:Int),c,()))) /\
   ∀l s',zb8 S w one F acc s= .ok l s'->s.fin<=s'.fin/\s'.fin<=S.length/\s'.opn=o:=by
 intro F;induction F with
 |zero=>grind
 |succ F ih =>
   intro acc s hf ho hF hacc;have hst:=zoD (kind:=kind) ha hi s acc hf ho (by omega);unfold zb8;cases hp:pIs S w s with
   |err a c =>grind[zaD]|ok b s1 =>
     rw[hp] at hst;obtain ⟨k1,k2,k3,k4⟩:=zkR hp hf;cases b with
     |false=>exact ⟨zaD hst,λl s' h=>by cases h;omega⟩|true =>
       simp only at hst ⊢;cases h1:one s1 with
       |err a c =>grind[zaD]|ok e s2 =>rw[h1] at hst;obtain ⟨g1,g2,g3,g4⟩:=hg s1 k1 (k3.trans ho) e s2 h1;have Ks:=k4 rfl g1;obtain ⟨i1,i2⟩:=ih (acc++[e]) s2 g3 g4 (by omega) (by simp;omega);exact ⟨by rw[zaR hst,i1],λl s' h=>by obtain ⟨j1,j2,j3⟩:=i2 l s' h;grind⟩
theorem zoz{orc:Orc Sx}{f:FuncId}{S:By}{o:Nat}{kind:Int}{w:By}{one:PS->Res Ex}(hS:S.length<=1000000)(hg:zsb S o one)(ha:zrh orc f S o one)(hi:zlF orc S w)(s:PS)(hf:s.fin<=S.length)(ho:s.opn=o) :
  rowM orc f kind w (toR S s,())=some (zci S (λe=>(e,())) (zg2 S kind w one s)):=by
 unfold rowM zg2;simp only;rw[ha s hf ho];cases h1:one s with
 |err a c=>simp[zci,zbf]|ok e s1 =>
   obtain ⟨hk0,hf1,hf2,ho1⟩:=hg s hf ho e s1 h1;simp only[zci,zaA,Ex.eta,zai,zaa,zbS];have hcond:((toR S s1).now.kind != 2||(toR S s1).now.text != w)= !(decide (s1.kind=2/\s1.text=w)):=by grind[toR]
   rw[hcond];by_cases hc:s1.kind=2/\s1.text=w
   ·simp only[hc,and_self,decide_true,yBS,zab,if_true];have hl:=(zmy (kind:=kind) hS hg ha hi (S.length+1) [e] s1 hf2 ho1 (by omega) (by simp)).1;rw[show ((toR S s1).s,(toR S s1).end_,(toR S s1).now.kind,(toR S s1).now.text,(toR S s1).now.at_,(toR S s1).now.tight,(toR S s1).open_,kind,([]:By),false,([]:By),[e],())=mkT S kind s1 [e] from rfl,hl];cases zb8 S w one (S.length+1) [e] s1 with
    |ok l s'=>simp only[zaj,zaA];rfl|err a c=>grind[zaU,zbf]
   grind[zac,zaA]
theorem zkQ{orc:Orc Sx}{f:FuncId}{S:By}{o:Nat}{kind:Int}{w:By}{one:PS->Res Ex}(hS:S.length<=1000000)(hg:zsb S o one)(ha:zrh orc f S o one)(hi:zlF orc S w):zsb S o (zg2 S kind w one):=by
 intro s hf ho e s' h;unfold zg2 at h;cases h1:one s with
 |err a c=>grind|ok e1 s1 =>
   rw[h1] at h;obtain ⟨hk0,hf1,hf2,ho1⟩:=hg s hf ho e1 s1 h1;simp only at h;split at h
   ·have hl:=(zmy (kind:=kind) hS hg ha hi (S.length+1) [e1] s1 hf2 ho1 (by omega) (by simp)).2;grind
   grind
theorem zjZ(n:Nat){S:By}(w:By)(hS:S.length<=1000000):zlF (zah (n+4)) S w:=λs hf=>L324 n S s w hS hf
theorem zoR{n:Nat}{S:By}{o d:Nat}(hS:S.length<=1000000)(hg:zsb S o (zaZ S d))(ha:zrh (zah (n+4)) 325 S o (zaZ S d)) :
  zsb S o (zg2 S 3 sOR (zg2 S 2 zc6 (zaZ S d)))/\zrh (zah (n+6)) 278 S o (zg2 S 3 sOR (zg2 S 2 zc6 (zaZ S d))):=by
 have g2:=zkQ (kind:=2) hS hg ha (zjZ n zc6 hS);have a2:zrh (zah (n+5)) 308 S o (zg2 S 2 zc6 (zaZ S d)):=λs hf ho=>by grind[q308,m308_row,zoz,zjZ]
 have g3:=zkQ (kind:=3) hS g2 a2 (zjZ (n+1) sOR hS);refine ⟨g3,λs hf ho=>?_⟩;grind[q278,m278_row,zoz,zjZ]
theorem G277{n:Nat}(h:3<=n){S:By}{s:PS}(hS:S.length<=1000000)(hf:s.fin<=S.length) :
  @Eq (Option (((Gt.Rd×J)×J)⊕(Int×Int×J))) ((zah n).e 277 [.ptr 0 0] [293] [.st 16] ((toR S s,()):Gt.Rd×J) [] [.int .i64,.int .i64] 254) (some (zci S (λ_=>()) (zbG S s))):=by
 obtain ⟨k,rfl⟩:∃k,n=k+3:=⟨n - 3,by omega⟩;grind[L41e]
theorem G279{n:Nat}(h:1<=n)(a c:Int): @Eq (Option ((J×J)⊕(Int×Int×J))) ((zah n).e 279 [.int .i64 a,.int .i64 c] [] [] () [] [.int .i64,.int .i64] 254) (some (.inr (a,c,()))):=by obtain ⟨k,rfl⟩:∃k,n=k+1:=⟨n - 1,by omega⟩;grind[L279]
theorem G324{n:Nat}(h:4<=n){S:By}{s:PS}(w:By)(hS:S.length<=1000000)(hf:s.fin<=S.length) :
  @Eq (Option (((Gt.Rd×J)×(Bool×J))⊕(Int×Int×J))) ((zah n).e 324 [.ptr 0 0,.str w] [293] [.st 16] ((toR S s,()):Gt.Rd×J) [.bool] [.int .i64,.int .i64] 254) (some (zci S (λb=>(b,())) (pIs S w s))):=by
 obtain ⟨k,rfl⟩:∃k,n=k+4:=⟨n - 4,by omega⟩;grind[L324]
theorem G333{n:Nat}(h:4<=n){S:By}{s:PS}(hS:S.length<=1000000)(hf:s.fin<=S.length) :
  @Eq (Option (((Gt.Rd×J)×(By×J))⊕(Int×Int×J))) ((zah n).e 333 [.ptr 0 0] [293] [.st 16] ((toR S s,()):Gt.Rd×J) [.str] [.int .i64,.int .i64] 254) (some (zci S (λb=>(b,())) (zc9 S s))):=by
 obtain ⟨k,rfl⟩:∃k,n=k+4:=⟨n - 4,by omega⟩;grind[L333]
theorem zjJ{S:By}{s s':PS}{x:By}(h:zc9 S s= .ok x s')(hf:s.fin<=S.length):s.kind=1/\s.fin<=s'.fin/\s'.fin<=S.length/\s'.opn=s.opn:=by
 unfold zc9 at h;by_cases hk:s.kind=1
 ·rw[if_neg (by grind)] at h;cases hn:zbG S s with
  |err a c=>grind|ok u s1 =>rw[hn] at h;cases h;obtain ⟨h1,h2,_,h4⟩:=zcZ hn hf;grind
 simp_all
theorem zqq{S:By}{s s':PS}{x:By}{e:Ex}(h:zjI S x s= .ok e s')(hf:s.fin<=S.length):s.fin<=s'.fin/\s'.fin<=S.length/\s'.opn=s.opn:=by
 unfold zjI at h;have rest:∀(later:Bool)(s1:PS),s.fin<=s1.fin->s1.fin<=S.length->s1.opn=s.opn->(match pIs S za4 s1 with
   | .err a c=>.err a c| .ok false s2=>.ok (.mk 1 x later [] []) s2| .ok true s2=>match zc9 S s2 with
     | .err a c=>.err a c| .ok y s3=>.ok (.mk 1 x later y []) s3:Res Ex)= .ok e s'->s.fin<=s'.fin/\s'.fin<=S.length/\s'.opn=s.opn:=by
  grind[pIs,zkR,zc9,zjJ]
 by_cases hc:s.kind=3/\s.tight=true
 ·rw[if_pos hc] at h;cases hn:zbG S s with
  |err a c=>grind|ok u s1 =>rw[hn] at h;obtain ⟨h1,h2,_,h4⟩:=zcZ hn hf;exact rest true s1 h2 h1 h4 h
 ·rw[if_neg hc] at h;exact rest false s (yAi _) hf rfl h
set_option maxHeartbeats 1000000 in
theorem m325_name{n:Nat}(hn:4<=n){S:By}(hS:S.length<=1000000)(s:PS)(hf:s.fin<=S.length)(hk:s.kind≠4) :
  m325 (zah n) (toR S s,())=some (zci S (λe=>(e,())) (match zc9 S s with | .err a c=>.err a c | .ok x s1=>zjI S x s1)):=by
 unfold m325;have e4:((toR S s).now.kind==4)=false:=by grind[toR]
 simp only[e4,zab,G333 hn hS hf];cases hp:zc9 S s with
 |err a c=>simp[zci,zbf]|ok x s1 =>
   obtain ⟨_,_,hf1,_⟩:=zjJ hp hf;simp only[zci,zaA];have hc2:br ((toR S s1).now.kind==3) (some (toR S s1).now.tight) (some false)=some (decide (s1.kind=3/\s1.tight=true)):=by
    simp only[toR,zai];by_cases a1:s1.kind=3;·simp_all
    simp_all
   rw[hc2];simp only[zaa];unfold zjI;by_cases hc:s1.kind=3/\s1.tight=true
   ·simp only[hc,and_self,decide_true,zac,if_true,G277 (by omega:3<=n) hS hf1];cases hq:zbG S s1 with
    |err a c=>simp[zci,zbf,zaU]|ok u s2 =>
      obtain ⟨hf2,_,_,_⟩:=zcZ hq hf1;simp only[zci,zaA,zaj];rw[show (Gt.Rd.mk (toR S s2).s (toR S s2).end_ (Gt.Tk.mk (toR S s2).now.kind (toR S s2).now.text (toR S s2).now.at_ (toR S s2).now.tight) (toR S s2).open_)=toR S s2 from rfl];have h87:=G324 hn za4 hS hf2;rw[show za4=[87,73,84,72] from rfl] at h87;rw[h87];cases hi:pIs S za4 s2 with
      |err a c=>simp_all[za4,zci,zbf]|ok b s3 =>
        obtain ⟨hf3,_,_,_⟩:=zkR hi hf2;rw[show ([87,73,84,72]:By)=za4 from rfl,hi];grind[zci,zaA,zab,zac,G333,zbf]
   ·simp only[hc,decide_false,zab,if_false,zaj];rw[show (Gt.Rd.mk (toR S s1).s (toR S s1).end_ (Gt.Tk.mk (toR S s1).now.kind (toR S s1).now.text (toR S s1).now.at_ (toR S s1).now.tight) (toR S s1).open_)=toR S s1 from rfl];have h87:=G324 hn za4 hS hf1;rw[show za4=[87,73,84,72] from rfl] at h87;rw[h87];cases hi:pIs S za4 s1 with
    |err a c=>simp_all[za4,zci,zbf]|ok b s3 =>
      obtain ⟨hf3,_,_,_⟩:=zkR hi hf1;rw[show ([87,73,84,72]:By)=za4 from rfl,hi];grind[zci,zaA,zab,zac,G333,zbf]
theorem zdL{S:By}{s s':PS}{e:Ex}(h:(match zc9 S s with | .err a c=>.err a c | .ok x s1=>zjI S x s1:Res Ex)= .ok e s')(hf:s.fin<=S.length):s.kind≠0/\s.fin<=s'.fin/\s'.fin<=S.length/\s'.opn=s.opn:=by
 cases hp:zc9 S s with
 |err a c=>grind|ok x s1 =>rw[hp] at h;obtain ⟨h1,h2,h3,h4⟩:=zjJ hp hf;obtain ⟨k1,k2,k3⟩:=zqq h h3;omega
set_option maxHeartbeats 1000000 in
theorem znD{S:By}(hS:S.length<=1000000):∀(d o:Nat),o+d=30->∀n,3*d+6<=n->zsb S o (zaZ S d)/\zrh (zah n) 325 S o (zaZ S d):=by
 intro d;induction d with
 |zero =>
   intro o hod n hn;obtain ⟨m,rfl⟩:∃m,n=m+1:=⟨n - 1,by omega⟩;constructor
   ·intro s hf ho e s' h;unfold zaZ at h;by_cases hk:s.kind=4;·simp_all
    ·rw[if_neg hk] at h;grind[zdL]
   ·intro s hf ho;rw[q325];unfold zaZ;by_cases hk:s.kind=4
    ·rw[if_pos hk];unfold m325;have e4:((toR S s).now.kind==4)=true:=by grind[toR]
     have hw:decide (30<IntKind.i64.wrap ((toR S s).open_+1))=true:=by
      have:IntKind.i64.wrap ((s.opn:Int)+1)=((s.opn+1:Nat):Int):=by grind[zaH]
      show decide (30<IntKind.i64.wrap ((s.opn:Int)+1))=true;grind
     simp only[e4,zac,hw,G279 (by omega:1<=m),zbf,zaU];rfl
    ·rw[if_neg hk];grind[m325_name]
 |succ d ih =>
   intro o hod n hn;obtain ⟨m,rfl⟩:∃m,n=m+7:=⟨n - 7,by omega⟩;obtain ⟨gs,asks⟩:=ih (o+1) (by omega) (m+4) (by omega);obtain ⟨gr,ar⟩:=zoR (n:=m) hS gs asks;constructor
   ·intro s hf ho e s' h;unfold zaZ at h;by_cases hk:s.kind=4
    ·rw[if_pos hk] at h;simp only at h;cases hp:zbG S { s with opn:=s.opn+1 } with
     |err a c=>grind|ok u s1 =>
       rw[hp] at h;simp only at h;obtain ⟨h1,h2,_,h4⟩:=zcZ hp hf;cases hr:zg2 S 3 sOR (zg2 S 2 zc6 (zaZ S d)) s1 with
       |err a c=>grind|ok e2 s2 =>
         rw[hr] at h;simp only at h;obtain ⟨_,g2,g3,g4⟩:=gr s1 h1 (by grind) e2 s2 hr;by_cases h5:s2.kind=5
         ·rw[if_neg (by grind)] at h;cases hq:zbG S { s2 with opn:=s2.opn - 1 } with
          |err a c=>grind|ok u s3 =>rw[hq] at h;cases h;obtain ⟨j1,j2,_,j4⟩:=zcZ hq g3;grind
         simp_all
    ·rw[if_neg hk] at h;obtain ⟨k1,k2,k3,k4⟩:=zdL h hf;omega
   ·intro s hf ho;rw[q325];unfold zaZ;by_cases hk:s.kind=4
    ·rw[if_pos hk];unfold m325;have e4:((toR S s).now.kind==4)=true:=by simpa[toR] using hk
     have hwr:IntKind.i64.wrap ((toR S s).open_+1)=((s.opn+1:Nat):Int):=(by show IntKind.i64.wrap ((s.opn:Int)+1)=_;rw[zaH (by omega) (by omega)];rfl);have hw:decide (30<((s.opn+1:Nat):Int))=false:=(by simp;omega);simp only[e4,zac,hwr,hw,zab,zaj];rw[show (Gt.Rd.mk (toR S s).s (toR S s).end_ (Gt.Tk.mk (toR S s).now.kind (toR S s).now.text (toR S s).now.at_ (toR S s).now.tight) ((s.opn+1:Nat):Int))=toR S { s with opn:=s.opn+1 } from rfl];rw[G277 (by omega:3<=m+6) hS (s:={ s with opn:=s.opn+1 }) hf];cases hp:zbG S { s with opn:=s.opn+1 } with
     |err a c=>simp[zci,zbf]|ok u s1 =>
       obtain ⟨h1,h2,_,h4⟩:=zcZ hp hf;have ho1:s1.opn=o+1:=by rw[h4];show s.opn+1=o+1;omega
       simp only[zci,zaA];rw[ar s1 h1 ho1];cases hr:zg2 S 3 sOR (zg2 S 2 zc6 (zaZ S d)) s1 with
       |err a c=>simp[zci,zbf]|ok e2 s2 =>
         obtain ⟨_,g2,g3,g4⟩:=gr s1 h1 ho1 e2 s2 hr;simp only[zci,zaA];by_cases h5:s2.kind=5
         ·have e5:((toR S s2).now.kind != 5)=false:=(by simp[toR,h5]);have hwr2:IntKind.i64.wrap ((toR S s2).open_ - 1)=((s2.opn - 1:Nat):Int):=(by show IntKind.i64.wrap ((s2.opn:Int) - 1)=_;rw[zaH (by omega) (by omega)];omega);simp only[e5,zab,zaj,hwr2];rw[show (Gt.Rd.mk (toR S s2).s (toR S s2).end_ (toR S s2).now ((s2.opn - 1:Nat):Int))=toR S { s2 with opn:=s2.opn - 1 } from rfl];rw[G277 (by omega:3<=m+6) hS (s:={ s2 with opn:=s2.opn - 1 }) g3];rw[if_neg (by simpa using h5)];cases hq:zbG S { s2 with opn:=s2.opn - 1 } with
          |err a c=>simp[zci,zbf]|ok u s3=>simp[zci,zaA,Ex.eta]
         ·have e5:((toR S s2).now.kind != 5)=true:=(by simpa[toR] using h5);simp only[e5,zac,G279 (by omega:1<=m+6),zbf,zaU];rw[if_pos h5];rfl
    ·rw[if_neg hk];exact m325_name (by omega) hS s hf hk
end Pe.Tryz
end
section
namespace Kb
mutual
def Small:Ex->Prop| .mk _ name _ wth kids=>name.length<=2000000/\wth.length<=2000000/\kids.length<=2000000/\SmallL kids
def SmallL:List Ex->Prop|[]=>True|k::r=>Small k/\SmallL r
end
theorem SmallL.mem:∀{l:List Ex}{k:Ex},SmallL l->k∈l->Small k
 |x::r,k,h,hk=>by
   simp only[SmallL] at h;rcases yAm.1 hk with rfl|hk;·exact h.1
   ·exact h.2.mem hk
theorem zkt:∀{l:List Ex},(∀k∈l,Small k)->SmallL l
 |[],_=>by grind[SmallL]
 |x::r,h=>by simp only[SmallL];exact ⟨h x (by simp),zkt λk hk=>h k (by simp[hk])⟩
theorem zo3:∀{ks:List Ex}{k:Ex},k∈ks->k.lev<=zkh ks
 |k0::r,k,h=>by
   simp only[zkh];rcases yAm.1 h with rfl|h;·omega
   ·have:=zo3 h;omega
theorem Small.kid{e k:Ex}(h:Small e)(hk:k∈e.kids):Small k:=by
 cases e with
 |mk a b c d l=>simp only[Small] at h;exact h.2.2.2.mem hk
theorem Small.kids{e:Ex}(h:Small e):e.kids.length<=2000000/\e.name.length<=2000000/\e.wth.length<=2000000:=by
 cases e with
 |mk a b c d l=>grind[Small]
theorem zh0{e k:Ex}(hk:k∈e.kids):k.lev<e.lev:=by
 cases e with
 |mk a b c d l=>simp only[Ex.lev];have:=zo3 hk;grind
theorem zrD(e:Ex)(level:Nat):zeE e level=if 30<level then (1,level) else zeO e.kids level (1,level):=by cases e;grind[zeE]
theorem zlr(e:Ex):zem e=if Kb.one e≠0 then Kb.one e else zds e.kids:=by cases e;grind[zem]
theorem zsK(e:Ex):e.lev=zkh e.kids+1:=by cases e;grind[Ex.lev]
theorem zqp(e:Ex)(most:Nat):zbM e most=zcf e.kids most 1:=by cases e;grind[zbM]
end Kb
namespace Pe.Tryz
open Go Go.Proofs Pe Kb
theorem zfZ{α:Type}{l:List α}{k:Nat}(h:k<l.length):l.drop k=l[k]::l.drop (k+1):=yAV h
theorem L280:∀(n:Nat)(e:Ex)(level:Nat),e.lev<=n->level<=31->Small e->m280 (zah n) e level=some (((zeE e level).1:Int),((zeE e level).2:Int),()):=by
 intro n;induction n with
 |zero=>grind[Ex.lev_pos]
 |succ n ih =>
   intro e level hl hlev hs;unfold m280;rw[zrD];by_cases h30:30<level
   ·have:decide (30<(level:Int))=true:=by simp;omega
    rw[this,if_pos h30];rfl
   ·have hd:decide (30<(level:Int))=false:=(by simp;omega);rw[hd,if_neg h30];simp only[zab];have hw:IntKind.i64.wrap ((level:Int)+1)=((level+1:Nat):Int):=by grind[zaH]
    have hkl:=hs.kids.1;rw[show ((1:Int),(level:Int),(0:Int),())=((λ(k:Nat) (a:Nat×Nat)=>((a.1:Int),(a.2:Int),(k:Int),())) 0 (1,level)) from rfl];rw[zby (R:=(Int×Int×J)⊕(Int×Int×J)) (λ(k:Nat) (a:Nat×Nat)=>((a.1:Int),(a.2:Int),(k:Int),())) e.kids.length (λk a=>.inl (((zeO (e.kids.drop k) level a).1:Int),((zeO (e.kids.drop k) level a).2:Int),())) (λ_ a=>a.1<=201) ?h1 0 (1,level) (yAA _) (by simp)]
    case h1 =>
     intro k a hk ha;simp only;by_cases Ks:k<e.kids.length
     ·left;have Qa:e.kids[k]∈e.kids:=yAy Ks;have hlk:=zh0 Qa;have hih:=ih e.kids[k] (level+1) (by omega) (by omega) (hs.kid Qa);obtain ⟨⟨m1,m2,m3,m4⟩,_,_⟩:=zjR e.kids[k] (level+1) (by omega) (by omega);have hw2:IntKind.i64.wrap ((a.1:Int)+((zeE e.kids[k] (level+1)).1:Int))=((a.1+(zeE e.kids[k] (level+1)).1:Nat):Int):=by grind[zaH]
      refine ⟨(min (a.1+(zeE e.kids[k] (level+1)).1) 201,max a.2 (zeE e.kids[k] (level+1)).2),Ks,?_,by simp;omega,?_⟩
      ·simp only[zao,Ks,decide_true,zac,zan Ks,zaa,Ex.eta,hw,q280,hih,hw2,zaf Ks (by omega)];have e1:(min ((a.1+(zeE e.kids[k] (level+1)).1:Nat):Int) 201)=((min (a.1+(zeE e.kids[k] (level+1)).1) 201:Nat):Int):=by omega
       have e2:(max (a.2:Int) ((zeE e.kids[k] (level+1)).2:Int))=((max a.2 (zeE e.kids[k] (level+1)).2:Nat):Int):=(by omega);rw[e1,e2]
      grind[zfZ,zeO]
     ·right;simp only[zao,Ks,decide_false,zab];simp_all[yAG,zeO]
    simp_all[zaj]
theorem G306{n:Nat}(h:2<=n){s:By}(hs:s.length<=1000000000): @Eq (Option (Bool×J)) ((zah n).d 306 [.str s] [.bool]) (some (Kb.isName s,())):=by obtain ⟨k,rfl⟩:∃k,n=k+2:=⟨n - 2,by omega⟩;grind[q306,L306]
theorem zin(s:By):(s != [])=decide (s≠[]):=by cases s<;>rfl
theorem zja{f:Int×J->Option ((Int×J)⊕(J⊕(Int×J)))}{kids:List Ex}(_:kids.length<=2000000)
  (hf:∀(k:Nat)(h:k<kids.length),f ((k:Int),())=if zem kids[k]≠0 then some (.inr (.inr (zem kids[k],()))) else some (.inl (((k+1:Nat):Int),())))
  (he:f ((kids.length:Int),())=some (.inr (.inl ()))):zak f ((0:Int),())=some (if zds kids≠0 then .inr (zds kids,()) else .inl ()):=by
 have:=zhY (f:=f) kids.length (λk=>if zds (kids.drop k)≠0 then (.inr (zds (kids.drop k),()):J⊕(Int×J)) else .inl ()) (λk hk'=>by
  by_cases Ks:k<kids.length
  ·rw[hf k Ks];rw[zfZ Ks];simp only[zds];by_cases h0:zem kids[k]≠0;·simp_all
   simp_all
  grind[zds]) 0 (yAA _)
 grind
theorem zbN(e:Ex):Kb.one e=if e.kind<1\/3<e.kind then 7
  else if e.kind≠1 then (if e.name≠[]\/e.later=true\/e.wth≠[]\/e.kids.length<2 then 2 else 0)
  else if 0<e.kids.length then 2
  else if isName e.name=false\/(e.wth≠[]/\isName e.wth=false) then 8 else 0:=by cases e;grind[Kb.one]
theorem L281:∀(n:Nat)(e:Ex),e.lev+2<=n->Small e->m281 (zah n) e=some (zem e,()):=by
 intro n;induction n with
 |zero=>grind
 |succ n ih =>
   intro e hl hs;obtain ⟨k1,k2,k3⟩:=hs.kids;have hlp:=e.lev_pos;unfold m281;rw[zlr];simp only[zai,zaa,zbS];by_cases hk:e.kind<1\/3<e.kind
   ·have:(decide (e.kind<1)||decide (3<e.kind))=true:=by grind
    have ho:Kb.one e=7:=(by simp_all[zbN]);rw[this,ho];rfl
   ·have hd:(decide (e.kind<1)||decide (3<e.kind))=false:=(by grind);rw[hd];simp only[zab];by_cases h1:e.kind=1
    ·have e1:(e.kind==1)=true:=(by grind);rw[e1];simp only[zac];by_cases hkids:0<e.kids.length
     ·have:decide (0<len e.kids)=true:=by grind[len]
      have ho:Kb.one e=2:=(by simp_all[zbN]);rw[this,ho];rfl
     ·have:decide (0<len e.kids)=false:=by grind[len]
      have hnil:e.kids=[]:=yAU.1 (by omega);have ho:Kb.one e=if isName e.name=false\/(e.wth≠[]/\isName e.wth=false) then 8 else 0:=by simp_all[zbN]
      rw[this,ho,hnil];simp only[zab,G306 (by omega:2<=n+1) (yAo k2 (by decide)),G306 (by omega:2<=n+1) (yAo k3 (by decide)),zaa,zin];cases hA:isName e.name with
      |false=>simp[zac,zaa]|true =>
        by_cases hB:e.wth=[];·simp[hB,zab,zaa,zds]
        grind[zab,zac,zaa,zds]
    ·have e1:(e.kind==1)=false:=(by grind);rw[e1];simp only[zab,zin];have hc:(decide (e.name≠[])||e.later||decide (e.wth≠[])||decide (len e.kids<2))=decide (e.name≠[]\/e.later=true\/e.wth≠[]\/e.kids.length<2):=by
      have h2:decide (len e.kids<2)=decide (e.kids.length<2):=(by unfold len;exact decide_eq_decide.2 (by omega));grind
     rw[hc];by_cases hx:e.name≠[]\/e.later=true\/e.wth≠[]\/e.kids.length<2
     ·have ho:Kb.one e=2:=(by simp_all[zbN]);rw[decide_eq_true hx,ho];rfl
     ·have ho:Kb.one e=0:=(by simp_all[zbN,if_neg]);rw[decide_eq_false hx,ho];simp only[zab,ne_eq,not_true_eq_false,if_false];rw[zja (kids:=e.kids) k1 (λk Ks=>by
       have Qa:e.kids[k]∈e.kids:=yAy Ks;have hlk:=zh0 Qa;have hih:=ih e.kids[k] (by omega) (hs.kid Qa);simp only[zao,Ks,decide_true,zac,zan Ks,zaa,Ex.eta,q281,hih];by_cases h0:zem e.kids[k]=0;·simp[h0,zaf Ks (by omega:e.kids.length<=9223372036854775807)]
       ·have:(zem e.kids[k] != 0)=true:=by simpa using h0
        simp[this,h0]) (by simp[len,zab])]
      grind[zaE]
theorem L235(n:Nat)(e:Ex)(hl:e.lev+3<=n)(hs:Small e):m235 (zah n) e=some (chk e,()):=by
 obtain ⟨k,rfl⟩:∃k,n=k+1:=⟨n - 1,by omega⟩;unfold m235;simp only[Ex.eta];have h44:=L280 k e 1 (by omega) (by omega) hs;have h45:=L281 k e (by omega) hs;have q1: @Eq (Option (Int×Int×J)) ((zah (k+1)).d 280 [.st 9 e,.int .i64 1] [.int .i64,.int .i64]) (some (((zeE e 1).1:Int),((zeE e 1).2:Int),())):=by grind[q280]
 rw[q1];simp only[zaa,zai,zbS,q281,h45];have hsz:=(zms e).1;unfold chk;by_cases h:200<e.cnt\/30<e.lev
 ·have h2:=hsz.2 h;have:(decide (30<((zeE e 1).2:Int))||decide (200<((zeE e 1).1:Int)))=true:=by simp;omega
  rw[this,if_pos h];rfl
 ·have h2:¬(30<(zeE e 1).2\/200<(zeE e 1).1):=λhx=>h (hsz.1 hx);have:(decide (30<((zeE e 1).2:Int))||decide (200<((zeE e 1).1:Int)))=false:=by simp;omega
  rw[this,if_neg h];rfl
theorem L326(n:Nat)(s:By)(hs:s.length<=1000000000):m326 (zah (n+1)) s=some (Kb.isName s,()):=by
 have h34:=L306 n s hs;unfold m326;unfold m306 at h34;rw[<-h34];have e1:(λ(t8:Int×J)=>br (decide (t8.1<(len s))) (ob (at? s t8.1) λc9=>ob (α:=Bool×J) ((zah (n+1)).d 327 [.int .u8 (UInt8.toNat c9:Int)] [.bool]) λ(r10:Bool×J)=>br (!r10.1) (some (Sum.inr (Sum.inr (false,())))) (some (Sum.inl (IntKind.i64.wrap (t8.1+1),())))) (some (Sum.inr (Sum.inl ()))))=(λ(t8:Int×J)=>br (decide (t8.1<(len s))) (ob (at? s t8.1) λc9=>ob (α:=Bool×J) ((zah (n+1)).d 303 [.int .u8 (UInt8.toNat c9:Int)] [.bool]) λ(r10:Bool×J)=>br (!r10.1) (some (Sum.inr (Sum.inr (false,())):(Int×J)⊕(J⊕(Bool×J)))) (some (Sum.inl (IntKind.i64.wrap (t8.1+1),())))) (some (Sum.inr (Sum.inl ())))):=by grind[q327,q303,L327,L303]
 rw[e1];have e2:(ob (α:=By×J) ((zah (n+1)).d 315 [.str s] [.str]) λ(r6:By×J)=>some (r6.1 != []))=(ob (α:=Bool×J) ((zah (n+1)).d 304 [.str s] [.bool]) λ(r6:Bool×J)=>some r6.1):=by
  grind[q315,q304,L315,L304,zaa,zhp]
 rw[e2]
theorem G326{n:Nat}(h:2<=n){s:By}(hs:s.length<=1000000000): @Eq (Option (Bool×J)) ((zah n).d 326 [.str s] [.bool]) (some (Kb.isName s,())):=by obtain ⟨k,rfl⟩:∃k,n=k+2:=⟨n - 2,by omega⟩;grind[q326,L326]
theorem L293:∀(n:Nat)(e:Ex)(most:Nat),e.lev<=n->most<=1000->Small e->m293 (zah n) e most=some ((zbM e most:Int),()):=by
 intro n;induction n with
 |zero=>grind[Ex.lev_pos]
 |succ n ih =>
   intro e most hl hm hs;unfold m293;rw[zqp];have hkl:=hs.kids.1;rw[show ((1:Int),(0:Int),())=((λ(k:Nat) (a:Nat)=>((a:Int),(k:Int),())) 0 1) from rfl];rw[zby (R:=(Int×J)⊕(Int×J)) (λ(k:Nat) (a:Nat)=>((a:Int),(k:Int),())) e.kids.length (λk a=>.inl ((zcf (e.kids.drop k) most a:Int),())) (λ_ a=>a<=most+1) ?h1 0 1 (yAA _) (by omega)]
   case h1 =>
    intro k a hk ha;simp only;by_cases Ks:k<e.kids.length
    ·have Qa:e.kids[k]∈e.kids:=yAy Ks;have hlk:=zh0 Qa;by_cases ham:a<=most
     ·left;have hih:=ih e.kids[k] (most - a) (by omega) (by omega) (hs.kid Qa);have hple:=zkN e.kids[k] (most - a);have hw:IntKind.i64.wrap ((most:Int) - (a:Int))=((most - a:Nat):Int):=by grind[zaH]
      have hw2:IntKind.i64.wrap ((a:Int)+(zbM e.kids[k] (most - a):Int))=((a+zbM e.kids[k] (most - a):Nat):Int):=(by grind[zaH]);have hd:decide ((a:Int)<=(most:Int))=true:=decide_eq_true (by omega);refine ⟨a+zbM e.kids[k] (most - a),Ks,?_,by omega,?_⟩;·grind[zao,zac,zaa,q293,zan,zaf]
      ·rw[zfZ Ks];simp_all[zcf]
     ·right;have hd:decide ((a:Int)<=(most:Int))=false:=decide_eq_false (by omega);grind[zao,zac,zaa,zab,zlV]
    ·right;simp only[zao,Ks,decide_false,zab,zaa];simp_all[yAG,zcf]
   simp_all[zaj]
theorem L294:∀(n:Nat)(e:Ex),e.lev<=n->e.lev<=100000000->Small e->m294 (zah n) e=some ((e.lev:Int),()):=by
 intro n;induction n with
 |zero=>grind[Ex.lev_pos]
 |succ n ih =>
   intro e hl hm hs;unfold m294;have hkl:=hs.kids.1;rw[show ((0:Int),(0:Int),())=((λ(k:Nat) (a:Nat)=>((a:Int),(k:Int),())) 0 0) from rfl];rw[zby (R:=(Int×J)⊕(Int×J)) (λ(k:Nat) (a:Nat)=>((a:Int),(k:Int),())) e.kids.length (λk a=>.inl ((max a (zkh (e.kids.drop k)):Nat),())) (λ_ a=>True) ?h1 0 0 (yAA _) trivial]
   case h1 =>
    intro k a hk ha;simp only;by_cases Ks:k<e.kids.length
    ·have Qa:e.kids[k]∈e.kids:=yAy Ks;have hlk:=zh0 Qa;left;have hih:=ih e.kids[k] (by omega) (by omega) (hs.kid Qa);have e2:(max (a:Int) (e.kids[k].lev:Int))=((max a e.kids[k].lev:Nat):Int):=(by omega);refine ⟨max a e.kids[k].lev,Ks,?_,trivial,?_⟩;·grind[zao,zac,zaa,q294,zan,zaf]
     grind[zfZ,zkh]
    ·right;simp only[zao,Ks,decide_false,zab];simp_all[yAG,zkh]
   simp only[zaj,yBo];have hle:=zsK e;have hw:IntKind.i64.wrap (((max 0 (zkh e.kids):Nat):Int)+1)=(e.lev:Int):=by grind[zaH]
   rw[hw]
theorem L316(n:Nat)(hn:2<=n)(e:Ex)(hs:Small e):m316 (zah n) e=some (Kb.one e,()):=by
 obtain ⟨k1,k2,k3⟩:=hs.kids;unfold m316;simp only[zai,zaa,zbS];by_cases hk:e.kind<1\/3<e.kind
 ·have:(decide (e.kind<1)||decide (3<e.kind))=true:=by grind
  have ho:Kb.one e=7:=by simp_all[zbN]
  rw[this,ho];rfl
 ·have hd:(decide (e.kind<1)||decide (3<e.kind))=false:=by grind
  rw[hd];simp only[zab];by_cases h1:e.kind=1
  ·have e1:(e.kind != 1)=false:=(by simp[h1]);rw[e1];simp only[zab];by_cases hkids:0<e.kids.length
   ·have:decide (0<len e.kids)=true:=by grind[len]
    have ho:Kb.one e=2:=(by simp_all[zbN]);rw[this,ho];rfl
   ·have:decide (0<len e.kids)=false:=by grind[len]
    have ho:Kb.one e=if isName e.name=false\/(e.wth≠[]/\isName e.wth=false) then 8 else 0:=by simp_all[zbN]
    rw[this,ho];simp only[zab,G326 hn (yAo k2 (by decide):e.name.length<=1000000000),G326 hn (yAo k3 (by decide):e.wth.length<=1000000000),zaa,zin];cases hA:isName e.name with
    |false=>simp[zac,zaa]|true =>
      by_cases hB:e.wth=[];·simp[hB,zab,zaa]
      grind[zab,zac,zaa]
  ·have e1:(e.kind != 1)=true:=(by grind);rw[e1];simp only[zac,zin];have hc:(decide (e.name≠[])||e.later||decide (e.wth≠[])||decide (len e.kids<2))=decide (e.name≠[]\/e.later=true\/e.wth≠[]\/e.kids.length<2):=by
    have h2:decide (len e.kids<2)=decide (e.kids.length<2):=(by unfold len;exact decide_eq_decide.2 (by omega));grind
   rw[hc];have ho:Kb.one e=if e.name≠[]\/e.later=true\/e.wth≠[]\/e.kids.length<2 then 2 else 0:=by simp_all[zbN,if_neg]
   rw[ho];by_cases hx:e.name≠[]\/e.later=true\/e.wth≠[]\/e.kids.length<2;·simp_all
   simp_all[decide_eq_false]
theorem L295:∀(n:Nat)(e:Ex),e.lev+2<=n->Small e->m295 (zah n) e=some (zem e,()):=by
 intro n;induction n with
 |zero=>grind
 |succ n ih =>
   intro e hl hs;obtain ⟨k1,k2,k3⟩:=hs.kids;have hlp:=e.lev_pos;unfold m295;rw[zlr];simp only[Ex.eta,q316,L316 n (by omega) e hs,zaa];by_cases ho:Kb.one e=0
   ·rw[ho];simp only[show ((0:Int) != 0)=false from rfl,zab,ne_eq,not_true_eq_false,if_false];rw[zja (kids:=e.kids) k1 (λk Ks=>by
     have Qa:e.kids[k]∈e.kids:=yAy Ks;have hlk:=zh0 Qa;grind[Small.kid,zao,zac,zaa,q295,zan,zab,zaf]) (by simp[len,zab])]
    grind[zaE]
   ·have h1:(Kb.one e != 0)=true:=(by grind);rw[h1,if_pos ho];rfl
theorem L266(n:Nat)(e:Ex)(hl:e.lev+3<=n)(hb:e.lev<=100000000)(hs:Small e):m266 (zah n) e=some (chk e,()):=by
 obtain ⟨k,rfl⟩:∃k,n=k+1:=⟨n - 1,by omega⟩;unfold m266;simp only[Ex.eta];have q1: @Eq (Option (Int×J)) ((zah (k+1)).d 293 [.st 9 e,.int .i64 200] [.int .i64]) (some ((zbM e 200:Int),())):=by rw[q293];exact L293 k e 200 (by omega) (by omega) hs
 rw[q1];have hsz:=(zms e).2;simp only[zaa,q294,L294 k e (by omega) hb hs,q295,L295 k e (by omega) hs,zai,zbS];unfold chk;by_cases h:200<e.cnt\/30<e.lev
 ·have:(decide (200<(zbM e 200:Int))||decide (30<(e.lev:Int)))=true:=by simp;omega
  rw[this,if_pos h];rfl
 ·have:(decide (200<(zbM e 200:Int))||decide (30<(e.lev:Int)))=false:=by simp;omega
  rw[this,if_neg h];rfl
end Pe.Tryz
end
section
namespace Pe.Tryz
open Go Go.Proofs Pe Kb
abbrev QT:=Gt.R3
def toQ(S:By)(q:RS):QT:=⟨S,q.at_,q.pos,q.no⟩
theorem zsq(S:By)(q:RS):(Gt.R3.mk S q.at_ q.pos q.no)=toQ S q:=rfl
theorem L264(n:Nat)(S:By)(q:RS)(hS:S.length<=1000000)(hq:q.at_<=S.length):m264 (zah n) (toQ S q,())=some (.inl ((toQ S (zag S q),()),())):=by
 unfold m264;simp only[toQ];rw[show (S,(q.at_:Int),(q.pos:Int),q.no,())=((λ(k:Nat) (_:J)=>(S,(k:Int),(q.pos:Int),q.no,())) q.at_ ()) from rfl];rw[zby (R:=((QT×J)×J)⊕J) (λ(k:Nat) (_:J)=>(S,(k:Int),(q.pos:Int),q.no,())) S.length (λk _=>.inl ((⟨S,((k+skipB (S.drop k):Nat):Int),q.pos,q.no⟩,()),())) (λ_ _=>True) ?h1 q.at_ () hq trivial]
 case h1 =>
  intro k a hk _;simp only;by_cases Ks:k<S.length
  ·simp only[zao,Ks,decide_true,zan Ks,zaa,zai,zbS,<-zlz];rw[zmr Ks];cases hb:Kb.isBlank S[k] with
   |true=>left;exact ⟨(),trivial,by grind[zaf],trivial,by simp;omega⟩|false=>right;simp
  ·right;simp only[zao,Ks,decide_false,zab,zaa];rw[yAG (by omega)];rfl
 rfl
theorem za3{S:By}{q:RS}(h:q.at_<=S.length):(zag S q).at_<=S.length/\q.at_<=(zag S q).at_:=by have:=zjw (S.drop q.at_);rw[yAL] at this;grind[zag]
theorem G264{n:Nat}(h:1<=n){S:By}{q:RS}(hS:S.length<=1000000)(hq:q.at_<=S.length) :
  @Eq (Option (((QT×J)×J)⊕J)) ((zah n).e 264 [.ptr 0 0] [280] [.st 18] ((toQ S q,()):QT×J) [] [] 0) (some (.inl ((toQ S (zag S q),()),()))):=by
 obtain ⟨k,rfl⟩:∃k,n=k+1:=⟨n - 1,by omega⟩;grind[q264,L264]
theorem G265{n:Nat}(h:1<=n){S:By}{q:RS}(a:Nat)(c:Int) :
  @Eq (Option (((QT×J)×J)⊕J)) ((zah n).e 265 [.ptr 0 0,.int .i64 (a:Int),.int .i64 c] [280] [.st 18] ((toQ S q,()):QT×J) [] [] 0) (some (.inl ((toQ S (zc7 q a c),()),()))):=by
 obtain ⟨k,rfl⟩:∃k,n=k+1:=⟨n - 1,by omega⟩;grind[q265,m265,toQ,zc7,zac,zab]
theorem zhz{S:By}{q:RS}(h:q.at_<=S.length):(zis S q).length=runL (S.drop q.at_)/\q.at_+runL (S.drop q.at_)<=S.length:=by have:=zjA (S.drop q.at_);rw[yAL] at this;grind[zis]
theorem G314{n:Nat}(h:2<=n){S:By}{q:RS}(hS:S.length<=1000000)(hq:q.at_<=S.length) :
  @Eq (Option (((QT×J)×(By×J))⊕J)) ((zah n).e 314 [.ptr 0 0] [280] [.st 18] ((toQ S q,()):QT×J) [.str] [] 0) (some (.inl ((toQ S (zag S q),()),(zis S (zag S q),())))):=by
 obtain ⟨k,rfl⟩:∃k,n=k+2:=⟨n - 2,by omega⟩;rw[q314];unfold m314;simp only[G264 (by omega:1<=k+1) hS hq,zaA];obtain ⟨hb,_⟩:=za3 (S:=S) hq;generalize zag S q=q1 at hb ⊢;simp only[toQ];rw[zhY (R:=(Int×J)⊕(((QT×J)×(By×J))⊕J)) S.length (λk=>.inl (((k+runL (S.drop k):Nat):Int),())) ?h1 q1.at_ hb]
 case h1 =>
  intro i hi;by_cases Ks:i<S.length
  ·simp only[zao,Ks,decide_true,zac,zan Ks,zaa,q327,L327];rw[zoy Ks];cases hr:Kb.isRun S[i] with
   |true=>left;exact ⟨trivial,by rw[zaf Ks (by omega)];rfl,by simp;omega⟩|false=>grind[zab]
  ·right;simp only[zao,Ks,decide_false,zab,zaa];rw[yAG (by omega)];rfl
 obtain ⟨_,hr⟩:=zhz (S:=S) hb;simp only[zaj,zhM (show q1.at_<=q1.at_+runL (S.drop q1.at_) by omega) hr,zaa,yAP];rfl
theorem G315{n:Nat}(h:1<=n)(s:By): @Eq (Option (By×J)) ((zah n).d 315 [.str s] [.str]) (some (wordR s,())):=by obtain ⟨k,rfl⟩:∃k,n=k+1:=⟨n - 1,by omega⟩;rw[q315,L315]
theorem G292{n:Nat}(h:3<=n){S:By}{q:RS}(w:By)(hS:S.length<=1000000)(hq:q.at_<=S.length) :
  @Eq (Option (((QT×J)×(Bool×J))⊕J)) ((zah n).e 292 [.ptr 0 0,.str w] [280] [.st 18] ((toQ S q,()):QT×J) [.bool] [] 0) (some (.inl ((toQ S (zap S w q).2,()),((zap S w q).1,())))):=by
 obtain ⟨k,rfl⟩:∃k,n=k+1:=⟨n - 1,by omega⟩;rw[q292];unfold m292;simp only[G314 (by omega:2<=k) hS hq,zaA,G315 (by omega:1<=k),zaa];obtain ⟨hb,_⟩:=za3 (S:=S) hq;obtain ⟨hr1,hr2⟩:=zhz (S:=S) hb;unfold zap;simp only;by_cases hw:wordR (zis S (zag S q))=w
 ·have e1:(wordR (zis S (zag S q))==w)=true:=by grind
  rw[e1,if_pos hw];simp only[zac];have:IntKind.i64.wrap ((toQ S (zag S q)).at_+len (zis S (zag S q)))=(((zag S q).at_+(zis S (zag S q)).length:Nat):Int):=by show IntKind.i64.wrap (((zag S q).at_:Int)+((zis S (zag S q)).length:Int))=_;grind[zaH]
  rw[this];rfl
 ·have e1:(wordR (zis S (zag S q))==w)=false:=by grind
  rw[e1,if_neg hw];rfl
theorem G312{n:Nat}(h:2<=n){S:By}{q:RS}(b:UInt8)(hS:S.length<=1000000)(hq:q.at_<=S.length) :
  @Eq (Option (((QT×J)×(Bool×J))⊕J)) ((zah n).e 312 [.ptr 0 0,.int .u8 (b.toNat:Int)] [280] [.st 18] ((toQ S q,()):QT×J) [.bool] [] 0) (some (.inl ((toQ S (zar S b q).2,()),((zar S b q).1,())))):=by
 obtain ⟨k,rfl⟩:∃k,n=k+1:=⟨n - 1,by omega⟩;rw[q312];unfold m312;simp only[G264 (by omega:1<=k) hS hq,zaA];obtain ⟨hb,_⟩:=za3 (S:=S) hq;unfold zar;simp only;generalize zag S q=q1 at hb ⊢;simp only[toQ];by_cases Ks:q1.at_<S.length
 ·simp only[zao,Ks,decide_true,zac,zan Ks,zaa,zer];by_cases hc:S[q1.at_]=b
  ·have e1:(S[q1.at_]==b)=true:=(by grind);rw[e1,if_pos (by simp_all)];rw[zaf Ks (by omega:S.length<=9223372036854775807)];rfl
  ·have e1:(S[q1.at_]==b)=false:=(by grind);rw[e1,if_neg (by simp_all)];rfl
 ·simp only[zao,Ks,decide_false,zab,zaa];simp_all
theorem G313{n:Nat}(h:3<=n){S:By}{q:RS}(hS:S.length<=1000000)(hq:q.at_<=S.length) :
  @Eq (Option (((QT×J)×(By×J))⊕J)) ((zah n).e 313 [.ptr 0 0] [280] [.st 18] ((toQ S q,()):QT×J) [.str] [] 0) (some (.inl ((toQ S (zbs S q).2,()),((zbs S q).1,())))):=by
 obtain ⟨k,rfl⟩:∃k,n=k+1:=⟨n - 1,by omega⟩;rw[q313];unfold m313;obtain ⟨hb,_⟩:=za3 (S:=S) hq;obtain ⟨hr1,hr2⟩:=zhz (S:=S) hb;simp only[G314 (by omega:2<=k) hS hq,zaA,G326 (by omega:2<=k) (by omega:(zis S (zag S q)).length<=1000000000),zaa];unfold zbs;simp only;cases hn:isName (zis S (zag S q)) with
 |true =>
   simp only[yBS,zab,if_true];have:IntKind.i64.wrap ((toQ S (zag S q)).at_+len (zis S (zag S q)))=(((zag S q).at_+(zis S (zag S q)).length:Nat):Int):=by show IntKind.i64.wrap (((zag S q).at_:Int)+((zis S (zag S q)).length:Int))=_;grind[zaH]
   rw[this];rfl
 |false =>simp only[Bool.not_false,zac];have:=G265 (S:=S) (q:=zag S q) (by omega:1<=k) (zag S q).at_ 6;simp_all[toQ,zaA]
theorem zlL{S w:By}{q:RS}(hw:w≠[])(hq:q.at_<=S.length):(zap S w q).2.at_<=S.length/\q.at_<=(zap S w q).2.at_/\(zap S w q).2.no=q.no/\((zap S w q).1=true->q.at_<(zap S w q).2.at_):=by
 obtain ⟨hb,hb2⟩:=za3 (S:=S) hq;obtain ⟨hr1,hr2⟩:=zhz (S:=S) hb;unfold zap;simp only;by_cases h:wordR (zis S (zag S q))=w
 ·rw[if_pos h];refine ⟨by grind,by grind,rfl,λ_=>?_⟩;have:(zis S (zag S q)).length≠0:=λh0=>by
   have:=yAU.1 h0;rw[this,zho] at h;simp_all
  grind
 ·rw[if_neg h];exact ⟨hb,hb2,rfl,λh=>by cases h⟩
theorem zik{S:By}{b:UInt8}{q:RS}(hq:q.at_<=S.length):(zar S b q).2.at_<=S.length/\q.at_<=(zar S b q).2.at_/\(zar S b q).2.no=q.no:=by
 obtain ⟨hb,hb2⟩:=za3 (S:=S) hq;unfold zar;simp only;by_cases h:S[(zag S q).at_]?=some b;·rw[if_pos h];have:=(yAc.1 h).1;exact ⟨by grind,by grind,rfl⟩
 ·rw[if_neg h];exact ⟨hb,hb2,rfl⟩
theorem zmd{q:RS}{a:Nat}{c:Int}:(zc7 q a c).at_=q.at_:=by grind[zc7]
theorem zjO{S:By}{q:RS}(hq:q.at_<=S.length):(zbs S q).2.at_<=S.length/\q.at_<=(zbs S q).2.at_:=by
 grind[za3,zhz,zbs,zmd]
def zpN(S:By)(one:RS->Ex×RS):Prop:=∀q,q.at_<=S.length->q.no=0->(one q).2.at_<=S.length/\q.at_<=(one q).2.at_
def zof(orc:Orc Sx)(f:FuncId)(args:List (PV Sx))(S:By)(one:RS->Ex×RS):Prop:=∀q,q.at_<=S.length->q.no=0 ->
 @Eq (Option (((QT×J)×(Ex×J))⊕J)) (orc.e f (.ptr 0 0::args) [280] [.st 18] ((toQ S q,()):QT×J) [.st 9] [] 0) (some (.inl ((toQ S (one q).2,()),((one q).1,()))))
abbrev LTup:=List Ex×By×Int×Int×Int×J
def mkL(S:By)(q:RS)(acc:List Ex):LTup:=(acc,S,q.at_,q.pos,q.no,())
noncomputable def zo2(orc:Orc Sx)(kind deep:Int):LTup->Option (LTup⊕(LTup⊕(((QT×J)×(Ex×J))⊕J))):=λ(t1:List Kb.Ex×By×Int×Int×Int×J)=>br (t1.2.2.2.2.1==0) (zaE (σ:=List Kb.Ex×By×Int×Int×Int×J) (br (kind==3) (oc (α:=(Gt.R3×J)×(Kb.Ex×J)) (β:=J) (orc.e 263 [.ptr 0 0,.int .i64 2,.int .i64 deep] [280] [.st 18] ((Gt.R3.mk t1.2.1 t1.2.2.1 t1.2.2.2.1 t1.2.2.2.2.1,()):Gt.R3×J) [.st 9] [] 0) (λ(r2:((Gt.R3×J)×(Kb.Ex×J)))=>ob (zdJ t1.1 [r2.2.1]) λl3=>some (.inl (l3,Gt.R3.s r2.1.1,Gt.R3.at_ r2.1.1,Gt.R3.pos r2.1.1,Gt.R3.no r2.1.1,()))) λ(_:J)=>some (.inr (.inr (.inr (.inr (())))))) (oc (α:=(Gt.R3×J)×(Kb.Ex×J)) (β:=J) (orc.e 291 [.ptr 0 0,.int .i64 deep] [280] [.st 18] ((Gt.R3.mk t1.2.1 t1.2.2.1 t1.2.2.2.1 t1.2.2.2.2.1,()):Gt.R3×J) [.st 9] [] 0) (λ(r5:((Gt.R3×J)×(Kb.Ex×J)))=>ob (zdJ t1.1 [r5.2.1]) λl6=>some (.inl (l6,Gt.R3.s r5.1.1,Gt.R3.at_ r5.1.1,Gt.R3.pos r5.1.1,Gt.R3.no r5.1.1,()))) λ(_:J)=>some (.inr (.inr (.inr (.inr (()))))))) λ(t8:List Kb.Ex×By×Int×Int×Int×J)=>zaE (σ:=List Kb.Ex×By×J) (br (kind==3) (some (.inl (t8.1,[79,82],()))) (some (.inl (t8.1,[65,78,68],())))) λ(t9:List Kb.Ex×By×J)=>br (t8.2.2.2.2.1 != 0) (some (.inr (.inl (t9.1,t8.2.1,t8.2.2.1,t8.2.2.2.1,t8.2.2.2.2.1,())))) (oc (α:=(Gt.R3×J)×(Bool×J)) (β:=J) (orc.e 292 [.ptr 0 0,.str t9.2.1] [280] [.st 18] ((Gt.R3.mk t8.2.1 t8.2.2.1 t8.2.2.2.1 t8.2.2.2.2.1,()):Gt.R3×J) [.bool] [] 0) (λ(r10:((Gt.R3×J)×(Bool×J)))=>br (!r10.2.1) (some (.inr (.inl (t9.1,Gt.R3.s r10.1.1,Gt.R3.at_ r10.1.1,Gt.R3.pos r10.1.1,Gt.R3.no r10.1.1,())))) (some (.inl (t9.1,Gt.R3.s r10.1.1,Gt.R3.at_ r10.1.1,Gt.R3.pos r10.1.1,Gt.R3.no r10.1.1,())))) λ(_:J)=>some (.inr (.inr (.inr (())))))) (some (.inr (.inl (t1.1,t1.2.1,t1.2.2.1,t1.2.2.2.1,t1.2.2.2.2.1,()))))
noncomputable def zsH(orc:Orc Sx)(rc:QT×J)(kind deep:Int):Option (((Gt.R3×J)×(Kb.Ex×J))⊕(J)):=zaE (σ:=List Kb.Ex×By×Int×Int×Int×J) (zak (σ:=List Kb.Ex×By×Int×Int×Int×J) (zo2 orc kind deep) ([],Gt.R3.s rc.1,Gt.R3.at_ rc.1,Gt.R3.pos rc.1,Gt.R3.no rc.1,())) λ(t12:List Kb.Ex×By×Int×Int×Int×J)=>br ((len t12.1)==1) (ob (at? t12.1 0) λy13=>some (.inl ((Gt.R3.mk t12.2.1 t12.2.2.1 t12.2.2.2.1 t12.2.2.2.2.1,()),(Kb.Ex.mk (Kb.Ex.kind y13) (Kb.Ex.name y13) (Kb.Ex.later y13) (Kb.Ex.wth y13) (Kb.Ex.kids y13),())))) (some (.inl ((Gt.R3.mk t12.2.1 t12.2.2.1 t12.2.2.2.1 t12.2.2.2.2.1,()),(Kb.Ex.mk kind [] false [] t12.1,()))))
theorem m263_list(orc:Orc Sx)(rc:QT×J)(kind deep:Int):m263 orc rc kind deep=zsH orc rc kind deep:=rfl
theorem zo0{orc:Orc Sx}{S:By}{kind deep:Int}{w:By}{one:RS->Ex×RS}{f:FuncId}{args:List (PV Sx)}(hg:zpN S one)(ha:zof orc f args S one)
  (hk:(kind=3/\w=sOR/\f=263/\args=[.int .i64 2,.int .i64 deep])\/(kind=2/\w=zc6/\f=291/\args=[.int .i64 deep]))
  (hw:∀q,q.at_<=S.length-> @Eq (Option (((QT×J)×(Bool×J))⊕J)) (orc.e 292 [.ptr 0 0,.str w] [280] [.st 18] ((toQ S q,()):QT×J) [.bool] [] 0) (some (.inl ((toQ S (zap S w q).2,()),((zap S w q).1,())))))
  (q:RS) (acc:List Ex) (hq:q.at_<=S.length) (hno:q.no=0) (hacc:acc.length<=2000000) :
  zo2 orc kind deep (mkL S q acc)=if (one q).2.no≠0 then some (.inr (.inl (mkL S (one q).2 (acc++[(one q).1])))) else
   if (zap S w (one q).2).1=true then some (.inl (mkL S (zap S w (one q).2).2 (acc++[(one q).1]))) else some (.inr (.inl (mkL S (zap S w (one q).2).2 (acc++[(one q).1])))):=by
 unfold zo2;obtain ⟨g1,g2⟩:=hg q hq hno;have hc:zdJ acc [(one q).1]=some (acc++[(one q).1]):=zbc (by grind[lim]);have h0:(q.no==0)=true:=by grind
 rcases hk with ⟨rfl,rfl,rfl,rfl⟩|⟨rfl,rfl,rfl,rfl⟩
 all_goals
  simp only[mkL,h0,zac,zsq,show ((3:Int)==3)=true from rfl,show ((2:Int)==3)=false from rfl,zab];rw[ha q hq hno];simp only[zaA,hc,zaa,zaj];by_cases hn:(one q).2.no=0
  ·have e1:((toQ S (one q).2).no != 0)=false:=(by simp[toQ,hn]);rw[e1];simp only[zab,hn,ne_eq,not_true_eq_false,if_false];have hww:=hw (one q).2 g1;rw[show (Gt.R3.mk (toQ S (one q).2).s (toQ S (one q).2).at_ (toQ S (one q).2).pos (toQ S (one q).2).no)=toQ S (one q).2 from rfl]
   first|rw[show ([79,82]:By)=sOR from rfl]|rw[show ([65,78,68]:By)=zc6 from rfl]
   grind[zaA,zac,zab,toQ]
  grind[toQ,zac]
theorem zej{orc:Orc Sx}{S:By}{kind deep:Int}{w:By}{one:RS->Ex×RS}{f:FuncId}{args:List (PV Sx)}(hS:S.length<=1000000)(hwn:w≠[])(hg:zpN S one)(ha:zof orc f args S one)
  (hk:(kind=3/\w=sOR/\f=263/\args=[.int .i64 2,.int .i64 deep])\/(kind=2/\w=zc6/\f=291/\args=[.int .i64 deep]))
  (hw:∀q,q.at_<=S.length-> @Eq (Option (((QT×J)×(Bool×J))⊕J)) (orc.e 292 [.ptr 0 0,.str w] [280] [.st 18] ((toQ S q,()):QT×J) [.bool] [] 0) (some (.inl ((toQ S (zap S w q).2,()),((zap S w q).1,()))))) :
  ∀(F:Nat)(q:RS)(acc:List Ex),q.at_<=S.length->q.no=0->S.length - (one q).2.at_<F->acc.length<=q.at_ ->
   zak (zo2 orc kind deep) (mkL S q acc)=some (.inl (mkL S (zau S w one F (acc++[(one q).1]) (one q).2).2 (zau S w one F (acc++[(one q).1]) (one q).2).1)) /\
   (zau S w one F (acc++[(one q).1]) (one q).2).2.at_<=S.length/\q.at_<=(zau S w one F (acc++[(one q).1]) (one q).2).2.at_:=by
 intro F;induction F with
 |zero=>grind
 |succ F ih =>
   intro q acc hq hno hF hacc;obtain ⟨g1,g2⟩:=hg q hq hno;have hst:=zo0 (deep:=deep) hg ha hk hw q acc hq hno (by omega);unfold zau;by_cases hn:(one q).2.no=0
   ·rw[if_neg (by grind)] at hst ⊢;obtain ⟨w1,w2,w3,w4⟩:=zlL (S:=S) (q:=(one q).2) hwn g1;cases hb:zap S w (one q).2 with
    |mk b q1 =>
      rw[hb] at hst w1 w2 w3 w4;simp only at hst w1 w2 w3 w4;cases b with
      |false =>rw[if_neg (by simp)] at hst;grind[zaD]|true =>rw[if_pos rfl] at hst;have Ks:=w4 rfl;obtain ⟨h1,h2⟩:=hg q1 w1 (w3.trans hn);obtain ⟨i1,i2,i3⟩:=ih q1 (acc++[(one q).1]) w1 (w3.trans hn) (by omega) (by simp;omega);simp only;exact ⟨by rw[zaR hst,i1],i2,by omega⟩
   simp_all[zaD]
theorem zhj{orc:Orc Sx}{S:By}{kind deep:Int}{w:By}{one:RS->Ex×RS}{f:FuncId}{args:List (PV Sx)}(hS:S.length<=1000000)(hwn:w≠[])(hg:zpN S one)(ha:zof orc f args S one)
  (hk:(kind=3/\w=sOR/\f=263/\args=[.int .i64 2,.int .i64 deep])\/(kind=2/\w=zc6/\f=291/\args=[.int .i64 deep]))
  (hw:∀q,q.at_<=S.length-> @Eq (Option (((QT×J)×(Bool×J))⊕J)) (orc.e 292 [.ptr 0 0,.str w] [280] [.st 18] ((toQ S q,()):QT×J) [.bool] [] 0) (some (.inl ((toQ S (zap S w q).2,()),((zap S w q).1,()))))) :
  zpN S (zbn S kind w one)/\∀q,q.at_<=S.length->q.no=0->m263 orc (toQ S q,()) kind deep=some (.inl ((toQ S (zbn S kind w one q).2,()),((zbn S kind w one q).1,()))):=by
 have key:∀q,q.at_<=S.length->q.no=0->∃l q',zau S w one (S.length+1) [(one q).1] (one q).2=(l,q')/\zak (zo2 orc kind deep) (mkL S q [])=some (.inl (mkL S q' l))/\q'.at_<=S.length/\q.at_<=q'.at_:=by intro q hq hno;obtain ⟨h1,h2,h3⟩:=zej hS hwn hg ha hk hw (S.length+1) q [] hq hno (by omega) (by simp);simp only[yBb] at h1 h2 h3;exact ⟨_,_,rfl,h1,h2,h3⟩
 have spec:∀q,zbn S kind w one q=(match zau S w one (S.length+1) [(one q).1] (one q).2 with|([e],s1)=>(e,s1)|(l,s1)=>(.mk kind [] false [] l,s1)):=λq=>rfl;refine ⟨λq hq hno=>?_,λq hq hno=>?_⟩
 ·obtain ⟨l,q',h1,_,h3,h4⟩:=key q hq hno;rw[spec,h1]
  match l with
  |[e]=>grind|[]=>grind|a::b::r=>grind
 ·obtain ⟨l,q',h1,h2,_,_⟩:=key q hq hno;rw[m263_list,spec,h1];unfold zsH;rw[show (([]:List Ex),(toQ S q).s,(toQ S q).at_,(toQ S q).pos,(toQ S q).no,())=mkL S q [] from rfl,h2];simp only[zaj,mkL]
  match l with
  |[e]=>simp[len,zac,at?,zaa,Ex.eta,toQ]|[]=>simp[len,zab,toQ]|a::b::r =>
    have:(len (a::b::r)==1)=false:=by grind[len]
    rw[this];rfl
theorem zoo{S:By}{x:By}{q:RS}(hq:q.at_<=S.length):(zec S x q).2.at_<=S.length/\q.at_<=(zec S x q).2.at_:=by
 unfold zec
 have rest:∀(later:Bool)(s1:RS),s1.at_<=S.length->q.at_<=s1.at_->(if s1.no=0 then
   (let (t,s2):=zap S za4 s1
   if t then
    let (y,s3):=zbs S s2
    (Ex.mk 1 x later y [],s3)
   else (Ex.mk 1 x later [] [],s2))
  else (Ex.mk 1 x later [] [],s1)).2.at_<=S.length/\q.at_<=(if s1.no=0 then
   (let (t,s2):=zap S za4 s1
   if t then
    let (y,s3):=zbs S s2
    (Ex.mk 1 x later y [],s3)
   else (Ex.mk 1 x later [] [],s2))
  else (Ex.mk 1 x later [] [],s1)).2.at_:=by
  grind[zlL,za4,zjO]
 by_cases hc:q.no=0/\S[q.at_]?=some 43;·rw[if_pos hc];have:=(yAc.1 hc.2).1;grind
 simp_all[if_neg]
set_option maxHeartbeats 1000000 in
theorem m291_name{n:Nat}(hn:3<=n){S:By}(hS:S.length<=1000000)(q:RS)(deep:Int)(hq:q.at_<=S.length)(ht:(zar S 40 (zag S q)).1=false) :
  m291 (zah n) (toQ S q,()) deep=some (.inl ((toQ S (zec S (zbs S (zar S 40 (zag S q)).2).1 (zbs S (zar S 40 (zag S q)).2).2).2,()),((zec S (zbs S (zar S 40 (zag S q)).2).1 (zbs S (zar S 40 (zag S q)).2).2).1,()))):=by
 obtain ⟨hb,_⟩:=za3 (S:=S) hq;obtain ⟨hb1,_,_⟩:=zik (S:=S) (b:=40) (q:=zag S q) hb;unfold m291;have h71:=G312 (S:=S) (q:=zag S q) (by omega:2<=n) 40 hS hb;rw[show ((40:UInt8).toNat:Int)=40 from rfl] at h71;simp only[G264 (by omega:1<=n) hS hq,zaA,h71,ht,zab];generalize (zar S 40 (zag S q)).2=s1 at hb1 ⊢;rw[G313 hn hS hb1];obtain ⟨hn1,_⟩:=zjO (S:=S) hb1;generalize hx:zbs S s1=xs at hn1 ⊢;obtain ⟨x,s2⟩:=xs;simp only[zaA] at hn1 ⊢;unfold zec;have h47:=λ(s3:RS) (h3:s3.at_<=S.length)=>G292 (S:=S) (q:=s3) hn za4 hS h3;rw[show za4=[87,73,84,72] from rfl] at h47
 have fin:∀(later:Bool)(s3:RS),s3.at_<=S.length->(br (s3.no==0) (oc (α:=(QT×J)×(Bool×J)) (β:=J) ((zah n).e 292 [.ptr 0 0,.str [87,73,84,72]] [280] [.st 18] ((toQ S s3,()):QT×J) [.bool] [] 0) (λ(r16:((QT×J)×(Bool×J)))=>br r16.2.1 (oc (α:=(QT×J)×(By×J)) (β:=J) ((zah n).e 313 [.ptr 0 0] [280] [.st 18] ((r16.1.1,()):QT×J) [.str] [] 0) (λ(r17:((QT×J)×(By×J)))=>some (.inl ((r17.1.1,()),(Ex.mk 1 x later r17.2.1 [],())))) λ(p18:J)=>some (.inr (()))) (some (.inl ((r16.1.1,()),(Ex.mk 1 x later [] [],()))))) λ(p19:J)=>some (.inr (()))) (some (.inl ((toQ S s3,()),(Ex.mk 1 x later [] [],()))))) =
   (some (.inl ((toQ S (if s3.no=0 then
   (let (t,s4):=zap S za4 s3
   if t then
    let (y,s5):=zbs S s4
    (Ex.mk 1 x later y [],s5)
   else (Ex.mk 1 x later [] [],s4))
  else (Ex.mk 1 x later [] [],s3)).2,()),((if s3.no=0 then
   (let (t,s4):=zap S za4 s3
   if t then
    let (y,s5):=zbs S s4
    (Ex.mk 1 x later y [],s5)
   else (Ex.mk 1 x later [] [],s4))
  else (Ex.mk 1 x later [] [],s3)).1,()))):Option (((QT×J)×(Ex×J))⊕J)):=by
  intro later s3 h3;by_cases hno:s3.no=0
  ·have e1:(s3.no==0)=true:=(by grind);rw[e1,if_pos hno];simp only[zac];rw[h47 s3 h3];obtain ⟨w1,_,_,_⟩:=zlL (S:=S) (q:=s3) zes h3;rw[show ([87,73,84,72]:By)=za4 from rfl];cases hb:zap S za4 s3 with
   |mk t s4 =>
     rw[hb] at w1;simp only[zaA] at w1 ⊢;cases t with
     |false=>simp[zab]|true =>simp_all[zac,G313,zaA]
  ·have e1:(s3.no==0)=false:=(by grind);rw[e1,if_neg hno];rfl
 by_cases hc:s2.no=0/\S[s2.at_]?=some 43
 ·obtain ⟨hno,h43⟩:=hc;have Ks:=(yAc.1 h43).1;have hv:=(yAc.1 h43).2;rw[if_pos ⟨hno,h43⟩];have e1:((toQ S s2).no==0)=true:=by grind[toQ]
  have e2:decide ((toQ S s2).at_<len (toQ S s2).s)=true:=by exact decide_eq_true (by show (s2.at_:Int)<(S.length:Int);omega)
  have e3:at? (toQ S s2).s (toQ S s2).at_=some 43:=by show at? S (s2.at_:Int)=_;grind[zan]
  have e4:IntKind.i64.wrap ((toQ S s2).at_+1)=((s2.at_+1:Nat):Int):=zaf Ks (by omega);simp only[e1,e2,e3,e4,zac,zaa,show (((43:UInt8).toNat:Int)==43)=true from rfl,zaj];have h:=fin true { s2 with at_:=s2.at_+1 } (by grind);have e1':(({ s2 with at_:=s2.at_+1 }:RS).no==0)=true:=by grind
  rw[e1'] at h;simp only[zac] at h;have e5:(s2.no==0)=true:=by grind
  simp only[toQ] at h ⊢;omega
 ·rw[if_neg hc]
  have e0:ob (br ((toQ S s2).no==0) (some (decide ((toQ S s2).at_<len (toQ S s2).s))) (some false)) (λb12=>ob (br b12 (ob (at? (toQ S s2).s (toQ S s2).at_) λc13=>some ((UInt8.toNat c13:Int)==43)) (some false)) λb14=>br b14 (some (Sum.inl ((toQ S s2).s,IntKind.i64.wrap ((toQ S s2).at_+1),(toQ S s2).pos,(toQ S s2).no,(1:Int),x,true,([]:By),([]:List Ex),()):(By×Int×Int×Int×Int×By×Bool×By×List Ex×J)⊕(((QT×J)×(Ex×J))⊕J))) (some (.inl ((toQ S s2).s,(toQ S s2).at_,(toQ S s2).pos,(toQ S s2).no,1,x,false,[],[],())))) =
    some (.inl (S,(s2.at_:Int),(s2.pos:Int),s2.no,1,x,false,[],[],())):=by
   simp only[toQ];by_cases hno:s2.no=0
   ·have e1:(s2.no==0)=true:=(by simpa using hno);rw[e1];simp only[zac,zaa];by_cases Ks:s2.at_<S.length;·simp only[zao,Ks,decide_true,zac,zan Ks,zaa];have h43:S[s2.at_]≠43:=λh=>hc ⟨hno,by rw[yAe Ks,h]⟩;rw[show (((S[s2.at_]).toNat:Int)==43)=(S[s2.at_]==43) from zer _ 43,beq_eq_false_iff_ne.2 h43];rfl
    grind[zao,zab,zaa]
   ·have e1:(s2.no==0)=false:=(by simpa using hno);rw[e1];rfl
  rw[e0];simp only[zaj];refine Eq.trans ?_ ((fin false s2 hn1).trans ?_)<;>rfl
theorem zp8{S:By}(hS:S.length<=1000000):∀(d deep:Nat),deep+d=30->∀n,3*d+6<=n->zpN S (zaJ S d)/\zof (zah n) 291 [.int .i64 (deep:Int)] S (zaJ S d):=by
 intro d;induction d with
 |zero =>
   intro deep hd n hn;obtain ⟨m,rfl⟩:∃m,n=m+1:=⟨n - 1,by omega⟩;constructor
   ·intro q hq hno;obtain ⟨hb,hb2⟩:=za3 (S:=S) hq;obtain ⟨h1,h2,h3⟩:=zik (S:=S) (b:=40) (q:=zag S q) hb;unfold zaJ;simp only;cases ht:(zar S 40 (zag S q)).1 with
    |true=>simp only[if_true];grind[zmd]|false =>simp only[yBW,if_false];grind[zjO,zoo]
   ·intro q hq hno;rw[q291];obtain ⟨hb,hb2⟩:=za3 (S:=S) hq;cases ht:(zar S 40 (zag S q)).1 with
    |false =>rw[m291_name (by omega) hS q _ hq ht];simp_all[zaJ]|true =>
      unfold m291 zaJ;have h71:=G312 (S:=S) (q:=zag S q) (by omega:2<=m) 40 hS hb;rw[show ((40:UInt8).toNat:Int)=40 from rfl] at h71;have e30:((deep:Int)==30)=true:=by simp;omega
      simp only[G264 (by omega:1<=m) hS hq,zaA,h71,ht,zac,e30,if_true];have h23:=G265 (S:=S) (q:=(zar S 40 (zag S q)).2) (by omega:1<=m) (zag S q).at_ 3;rw[show (toQ S (zag S q)).at_=((zag S q).at_:Int) from rfl,h23];rfl
 |succ d ih =>
   intro deep hd n hn;obtain ⟨m,rfl⟩:∃m,n=m+3:=⟨n - 3,by omega⟩;obtain ⟨gs,asks⟩:=ih (deep+1) (by omega) m (by omega);have hw47:=λ(k:Nat) (hk:3<=k) (w:By) (q:RS) (hq:q.at_<=S.length)=>G292 (S:=S) (q:=q) hk w hS hq;obtain ⟨gA,mA⟩:=zhj (orc:=zah m) (kind:=2) (deep:=((deep+1:Nat):Int)) (w:=zc6) hS zd0 gs asks (.inr ⟨rfl,rfl,rfl,rfl⟩) (hw47 m (by omega) zc6);have aA:zof (zah (m+1)) 263 [.int .i64 2,.int .i64 ((deep+1:Nat):Int)] S (zbn S 2 zc6 (zaJ S d)):=λq hq hno=>by grind[q263]
   obtain ⟨gO,mO⟩:=zhj (orc:=zah (m+1)) (kind:=3) (deep:=((deep+1:Nat):Int)) (w:=sOR) hS ziB gA aA (.inl ⟨rfl,rfl,rfl,rfl⟩) (hw47 (m+1) (by omega) sOR);constructor
   ·intro q hq hno;obtain ⟨hb,hb2⟩:=za3 (S:=S) hq;obtain ⟨h1,h2,h3⟩:=zik (S:=S) (b:=40) (q:=zag S q) hb;unfold zaJ;simp only;cases ht:(zar S 40 (zag S q)).1 with
    |true =>
      simp only[if_true];obtain ⟨o1,o2⟩:=gO _ h1 (h3.trans hno);split
      ·obtain ⟨y1,y2,_⟩:=zik (S:=S) (b:=41) o1;split;·grind
       grind[zmd]
      grind
    |false =>simp only[yBW,if_false];grind[zjO,zoo]
   ·intro q hq hno;rw[q291];obtain ⟨hb,hb2⟩:=za3 (S:=S) hq;cases ht:(zar S 40 (zag S q)).1 with
    |false =>rw[m291_name (by omega) hS q _ hq ht];simp_all[zaJ]|true =>
      obtain ⟨h1,h2,h3⟩:=zik (S:=S) (b:=40) (q:=zag S q) hb;unfold m291 zaJ;have h71:=G312 (S:=S) (q:=zag S q) (by omega:2<=m+2) 40 hS hb;rw[show ((40:UInt8).toNat:Int)=40 from rfl] at h71;have e30:((deep:Int)==30)=false:=by rw[beq_eq_false_iff_ne];omega
      have hwr:IntKind.i64.wrap ((deep:Int)+1)=((deep+1:Nat):Int):=(by rw[zaH (by omega) (by omega)];rfl);simp only[G264 (by omega:1<=m+2) hS hq,zaA,h71,ht,zac,e30,zab,hwr,if_true];rw[q263,mO _ h1 (h3.trans hno)];obtain ⟨o1,o2⟩:=gO _ h1 (h3.trans hno);simp only[zaA,Ex.eta];generalize hL:zbn S 3 sOR (zbn S 2 zc6 (zaJ S d)) (zar S 40 (zag S q)).2=L at o1 ⊢;obtain ⟨e,s2⟩:=L;simp only at o1 ⊢;by_cases hn2:s2.no=0
      ·have e1:((toQ S s2).no==0)=true:=(by simpa[toQ] using hn2);rw[e1,if_pos hn2];have h41:=G312 (S:=S) (q:=s2) (by omega:2<=m+2) 41 hS o1;rw[show ((41:UInt8).toNat:Int)=41 from rfl] at h41;simp only[zac,h41,zaA];cases hb41:zar S 41 s2 with
       |mk t s3 =>
         cases t with
         |true=>simp[zab]|false =>simp only[Bool.not_false,zac];have h23:=G265 (S:=S) (q:=s3) (by omega:1<=m+2) s3.at_ 6;rw[show (toQ S s3).at_=(s3.at_:Int) from rfl,h23];simp[zaA]
      ·have e1:((toQ S s2).no==0)=false:=(by simpa[toQ] using hn2);rw[e1,if_neg hn2];rfl
end Pe.Tryz
end
section
namespace Kb
def Fit(m:Nat)(e:Ex):Prop:=Small e/\e.lev<=m
theorem znU{t:Str}(h:isName t=true):t.length<=60:=by simp_all[isName]
theorem zhI(S:Str)(q:RS):(zbs S q).1.length<=60:=by
 grind[zbs,znU]
theorem zj1{x y:Str}{l:Bool}{m:Nat}(h1:x.length<=60)(h2:y.length<=60)(hm:1<=m):Fit m (.mk 1 x l y []):=by
 refine ⟨?_,?_⟩;·simp only[Small,SmallL,List.length_nil];exact ⟨by omega,by omega,by omega,trivial⟩
 grind[Ex.lev,zkh]
theorem zm3{S x:Str}{q:RS}{m:Nat}(h:x.length<=60)(hm:1<=m):Fit m (zec S x q).1:=by
 unfold zec
 have rest:∀(later:Bool)(s1:RS),Fit m (if s1.no=0 then
  let (t,s2):=zap S za4 s1
  if t then
   let (x',s3):=zbs S s2
   (.mk 1 x later x' [],s3)
  else (.mk 1 x later [] [],s2)
 else ((.mk 1 x later [] [],s1):Ex×RS)).1:=by
  grind[zj1,zhI]
 grind
theorem zqA{S w:Str}{one':RS->Ex×RS}{m:Nat}(h:∀q,Fit m (one' q).1):∀f acc q,(∀e∈acc,Fit m e)->(∀e∈(zau S w one' f acc q).1,Fit m e)/\(zau S w one' f acc q).1.length<=acc.length+f:=by
 intro f;induction f with
 |zero=>grind[zau]
 |succ f ih =>
   intro acc q ha;unfold zau;split;·grind
   ·split;·grind
    ·rename_i s1 _;have:=h s1;cases ho:one' s1 with
     |mk e s2 =>
       rw[ho] at this;obtain ⟨i1,i2⟩:=ih (acc++[e]) s2 (λe' he'=>by
        rcases yAp.1 he' with h1|h1;·exact ha _ h1
        ·rcases yBp.1 h1 with rfl;exact this)
       exact ⟨i1,by simp only[yAI,List.length_singleton] at i2;grind⟩
theorem zqG{ks:List Ex}{m:Nat}(h:∀k∈ks,k.lev<=m):zkh ks<=m:=by
 induction ks with
 |nil=>simp[zkh]|cons k r ih =>grind[zkh]
theorem zhk{S w:Str}{kind:Int}{one':RS->Ex×RS}{m:Nat}(hS:S.length<=1000000)(h:∀q,Fit m (one' q).1)(q:RS):Fit (m+1) (zbn S kind w one' q).1:=by
 unfold zbn;have h0:=h q;cases ho:one' q with
 |mk e0 s0 =>
   rw[ho] at h0;simp only;obtain ⟨i1,i2⟩:=zqA (S:=S) (w:=w) h (S.length+1) [e0] s0 (λe he=>by simp_all);have hmk:∀l:List Ex,(∀e∈l,Fit m e)->l.length<=S.length+2->Fit (m+1) (.mk kind [] false [] l):=by
    intro l h1 h2;refine ⟨?_,?_⟩;·simp only[Small,List.length_nil];exact ⟨by omega,by omega,by omega,zkt λk hk=>(h1 k hk).1⟩
    ·simp only[Ex.lev];have:=zqG λk hk=>(h1 k hk).2;omega
   cases hl:zau S w one' (S.length+1) [e0] s0 with
   |mk l s1 =>
     rw[hl] at i1 i2;simp only[List.length_singleton] at i1 i2
     match l with
     |[e]=>exact ⟨(i1 e (by simp)).1,by have:e.lev<=m:=(i1 e (by simp)).2;grind⟩|[]=>grind|a::b::r=>grind
theorem znE{S:Str}(hS:S.length<=1000000):∀d q,Fit (2*d+1) (zaJ S d q).1:=by
 intro d;induction d with
 |zero =>
   intro q;unfold zaJ;simp only;split
   ·refine ⟨?_,?_⟩;·simp[Ex.zero,Small,SmallL]
    ·simp[Ex.zero,Ex.lev,zkh]
   grind[zm3,zhI]
 |succ d ih =>
   grind[zaJ,zhk,zm3,zhI]
theorem zkP{S:Str}(hS:S.length<=1000000):Fit 63 (ziP S).1:=by
 grind[ziP,zhk,znE]
def licR(S:Str):Ex×Int×Int×J :=
 if 4000<S.length then (.zero,0,3,()) else
 match zeV S with
 | .err a c=>(.zero,(a:Int),c,())| .ok e _=>if chk e≠0 then (.zero,0,chk e,()) else (e,0,0,())
theorem znN{S:Str}{e:Ex}{s:PS}(hS:S.length<=1000000)(h:zeV S= .ok e s):Fit 63 e:=by grind[zjG,zkP]
end Kb
namespace Pe.Tryz
open Go Go.Proofs Pe Kb
theorem zpp(S:By):decide (4000<len S)=decide (4000<S.length):=by grind[len]
theorem L213{n:Nat}(hn:110<=n)(S:By):m213 (zah n) S=some (licR S):=by
 unfold m213 licR;rw[zpp];by_cases h4:4000<S.length;·rw[decide_eq_true h4,if_pos h4];rfl
 rw[decide_eq_false h4,if_neg h4];simp only[zab];have hS:S.length<=1000000:=by omega
 obtain ⟨m,rfl⟩:∃m,n=m+2:=⟨n - 2,by omega⟩;obtain ⟨gs,asks⟩:=zp8 hS 30 0 (by omega) m (by omega);have hw47:=λ(k:Nat) (hk:3<=k) (w:By) (q:RS) (hq:q.at_<=S.length)=>G292 (S:=S) (q:=q) hk w hS hq;obtain ⟨gA,mA⟩:=zhj (orc:=zah m) (kind:=2) (deep:=((0:Nat):Int)) (w:=zc6) hS zd0 gs asks (.inr ⟨rfl,rfl,rfl,rfl⟩) (hw47 m (by omega) zc6);have aA:zof (zah (m+1)) 263 [.int .i64 2,.int .i64 ((0:Nat):Int)] S (zbn S 2 zc6 (zaJ S 30)):=λq hq hno=>by rw[q263];exact mA q hq hno
 obtain ⟨gO,mO⟩:=zhj (orc:=zah (m+1)) (kind:=3) (deep:=((0:Nat):Int)) (w:=sOR) hS ziB gA aA (.inl ⟨rfl,rfl,rfl,rfl⟩) (hw47 (m+1) (by omega) sOR);have hpe:=zjG S;have hfit:=zkP (S:=S) hS;have h0:=mO ⟨0,0,0⟩ (yAA _) rfl;obtain ⟨g1,_⟩:=gO ⟨0,0,0⟩ (yAA _) rfl;have e0:({ s:=S,at_:=0,pos:=0,no:=0 }:QT)=toQ S ⟨0,0,0⟩:=rfl;unfold ziP at hpe hfit;generalize hr:zbn S 3 sOR (zbn S 2 zc6 (zaJ S 30)) ⟨0,0,0⟩=r at hpe hfit h0 g1;obtain ⟨e,q⟩:=r;simp only at hpe hfit h0 g1;rw[e0,q263];rw[show ((0:Nat):Int)=0 from rfl] at h0;rw[h0];simp only[zaA,G264 (by omega:1<=m+2) hS g1,Ex.eta];obtain ⟨hb,_⟩:=za3 (S:=S) g1;generalize hs1:zag S q=s1 at hpe hfit hb
 -- the zem behind the end
 have ec:ob (br ((toQ S s1).no==0) (some (decide ((toQ S s1).at_<len S))) (some false)) (λb=>(some b:Option Bool))=some (decide (s1.no=0/\s1.at_<S.length)):=by
  simp only[toQ,zao];by_cases h1:s1.no=0
  ·have:(s1.no==0)=true:=by simpa using h1
   rw[this];simp[h1,zac,zaa]
  ·have:(s1.no==0)=false:=by simpa using h1
   rw[this];simp[h1,zab,zaa]
 have ec':br ((toQ S s1).no==0) (some (decide ((toQ S s1).at_<len S))) (some false)=some (decide (s1.no=0/\s1.at_<S.length)):=by rw[<-ec];cases br ((toQ S s1).no==0) (some (decide ((toQ S s1).at_<len S))) (some false)<;>rfl
 rw[ec'];simp only[zaa];have fin:∀(q2:RS),(match zeV S with
   | .ok e' _=>∃q',(e,q2)=(e',q')/\q'.no=0| .err a c=>c≠0/\∃e' q',(e,q2)=(e',q')/\q'.no=c/\q'.pos=a)->Fit 63 e ->
   (br (q2.no != 0) (some (Kb.Ex.mk 0 [] false [] [],(q2.pos:Int),q2.no,())) (ob (α:=Int×J) ((zah (m+2)).d 266 [.st 9 e] [I6]) λ(r7:Int×J)=>br (r7.1 != 0) (some (Kb.Ex.mk 0 [] false [] [],0,r7.1,())) (some (e,0,0,())))) =
   some (match zeV S with
    | .err a c=>(.zero,(a:Int),c,())| .ok e _=>if chk e≠0 then (.zero,0,chk e,()) else (e,0,0,())):=by
  intro q2 h2 hf;cases hp:zeV S with
  |err a c =>
    rw[hp] at h2;obtain ⟨hc,e',q',he,hno,hpos⟩:=h2;cases he;have:(q2.no != 0)=true:=by simp[hno,hc]
    rw[this];simp only[zac,hno,hpos];rfl
  |ok e' s' =>
    rw[hp] at h2;obtain ⟨q',he,hno⟩:=h2;cases he;have:(q2.no != 0)=false:=by simp[hno]
    rw[this];have h24:=L266 (m+1) e (by have:=hf.2;omega) (by have:=hf.2;omega) hf.1;simp only[zab,q266,h24,zaa];by_cases hc:chk e=0;·simp[hc,zab]
    ·have:(chk e != 0)=true:=by simpa using hc
     simp[hc,this,zac,Kb.Ex.zero]
 by_cases hx:s1.no=0/\s1.at_<S.length;·rw[if_pos hx] at hpe hfit;rw[decide_eq_true hx];have h23:=G265 (S:=S) (q:=s1) (by omega:1<=m+2) s1.at_ 6;simp only[zac,show (toQ S s1).at_=(s1.at_:Int) from rfl,h23,zaA,zaj,zd9];exact fin _ hpe hfit
 ·rw[if_neg hx] at hpe hfit;rw[decide_eq_false hx];simp only[zab,zaj,zd9];exact fin _ hpe hfit
theorem L234{n:Nat}(hn:110<=n){S:By}(hS:S.length<=1000000) :
  zl4 (zah n) S=some (match zeV S with | .err a c=>.inr ((a:Int),c,()) | .ok e _=>.inl (e,⟨0,0⟩,())):=by
 obtain ⟨m,rfl⟩:∃m,n=m+6:=⟨n - 6,by omega⟩;obtain ⟨gs,hA⟩:=znD hS 30 0 (by omega) (m+4) (by omega);obtain ⟨gO,aO⟩:=zoR hS gs hA;unfold zl4 zeV;have h41:=G277 (n:=m+6) (by omega) (s:=ziT) hS (yAA _);rw[show (toR S ziT)=(Gt.Rd.mk S 0 (Gt.Tk.mk 0 [] 0 false) 0) from rfl] at h41;rw[h41];cases h1:zbG S ziT with
 |err a c=>grind[zci,zbf]|ok u s =>
   obtain ⟨p1,_,_,p4⟩:=zcZ h1 (yAA _);simp only[zci,zaA];rw[aO s p1 p4];grind[zjK,zci,zbf,zaA,toR,Ex.eta,zab,zaj,zac,zaU,G279]
theorem L171{n:Nat}(hn:120<=n)(S:By):m171 (zah n) S=some (licR S):=by
 unfold m171 licR;rw[zpp];by_cases h4:4000<S.length;·rw[decide_eq_true h4,if_pos h4];rfl
 rw[decide_eq_false h4,if_neg h4];simp only[zab];have hS:S.length<=1000000:=by omega
 obtain ⟨m,rfl⟩:∃m,n=m+1:=⟨n - 1,by omega⟩;rw[q234,L234 (by omega) hS];have hpe:=zjG S;cases hp:zeV S with
 |err a c =>
   rw[hp] at hpe;have:(c != 0)=true:=by simpa using hpe.1
   simp only[zaa,zd9,this,zac];rfl
 |ok e s =>
   have hf:=znN hS hp;have h20:=L235 m e (by have:=hf.2;omega) hf.1;refine Eq.trans (b:=ob (α:=Int×J) ((zah (m+1)).d 235 [.st 9 (Ex.mk e.kind e.name e.later e.wth e.kids)] [.int .i64]) λ(r2:Int×J)=>br (r2.1 != 0) (some (Kb.Ex.mk 0 [] false [] [],0,r2.1,())) (some (Kb.Ex.mk e.kind e.name e.later e.wth e.kids,0,0,()))) rfl ?_;simp only[zaa,Ex.eta,q235,h20];by_cases hc:chk e=0;·simp[hc,zab]
   ·have:(chk e != 0)=true:=by simpa using hc
    simp[hc,this,zac,Kb.Ex.zero]
theorem G171{n:Nat}(hn:121<=n)(S:By): @Eq (Option (Kb.Ex×Int×Int×J)) ((zah n).d 171 [.str S] [.st 9,I6,I6]) (some (licR S)):=by obtain ⟨m,rfl⟩:∃m,n=m+1:=⟨n - 1,by omega⟩;grind[q171,L171]
theorem G213{n:Nat}(hn:121<=n)(S:By): @Eq (Option (Kb.Ex×Int×Int×J)) ((zah n).d 213 [.str S] [.st 9,I6,I6]) (some (licR S)):=by obtain ⟨m,rfl⟩:∃m,n=m+1:=⟨n - 1,by omega⟩;grind[q213,L213]
end Pe.Tryz
end
