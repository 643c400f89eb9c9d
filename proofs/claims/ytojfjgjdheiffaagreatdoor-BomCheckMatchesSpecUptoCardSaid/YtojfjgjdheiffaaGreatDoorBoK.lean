/- PROVED HERE: a part of the seat's proofs; see the text that holds the claim's theorem. -/
import Derived.Test.YtojfjgjdheiffaaGreatDoorBoJ
set_option maxRecDepth 100000
section
/- told: the small bill, step by step. -/
namespace Pe.Tryz
open Go Go.Proofs Pe
theorem T58a(o:Orc Sx):m58 o [[1],[2],[]] 0 1=some ([0, -1, -1],()):=by unfold m58;rw[show zlG (len ([[1],[2],[]]:List (List Int))) (0:Int)=some [0,0,0] from rfl,zaa];refine (congrArg (λz=>zaE z _) (zjW (n:=9) (r:= .inl ([-1, -1, -1],())) (by kernel_rfl))).trans ?_;show zaE (zak _ (([0, -1, -1],[0],()):List Int×List Int×J)) _=_;refine (congrArg (λz=>zaE z _) (Eq.trans (zaR (y:=([0, -1, -1],[],())) ?_) (zaD (r:= .inl ([0, -1, -1],())) rfl))).trans rfl;exact zjW (n:=9) (by kernel_rfl)
theorem T58b(o:Orc Sx):m58 o [[],[0],[1]] 2 (-1)=some ([2,1,0],()):=by
 unfold m58;rw[show zlG (len ([[],[0],[1]]:List (List Int))) (0:Int)=some [0,0,0] from rfl,zaa];refine (congrArg (λz=>zaE z _) (zjW (n:=9) (r:= .inl ([-1, -1, -1],())) (by kernel_rfl))).trans ?_;show zaE (zak _ (([-1, -1,0],[2],()):List Int×List Int×J)) _=_;refine (congrArg (λz=>zaE z _) (Eq.trans (zaR (y:=([-1,1,0],[1],())) ?_) (Eq.trans (zaR (y:=([2,1,0],[0],())) ?_) (Eq.trans (zaR (y:=([2,1,0],[],())) ?_) (zaD (r:= .inl ([2,1,0],())) rfl))))).trans rfl
 all_goals exact zjW (n:=9) (by kernel_rfl)
def cT(s:By):Gt.Kb:=Gt.Kb.mk s (Gt.K7.mk [112,108,97,105,110] [] s [] [] []) [] [] []
def zkn:Gt.Ks:=Gt.Ks.mk [120] [] [97] [cT [97],cT [98],cT [99]] [Gt.Ky.mk [97] [98] 1,Gt.Ky.mk [98] [99] 1]
def zuo:Gt.Gf:=Gt.Gf.mk zkn 0 [[1],[2],[]] [[],[0],[1]]
theorem T59(o:Orc Sx):m59 o zuo [1]=some ([[98]],()):=by unfold m59;exact (congrArg (λz=>zaE z _) (zjW (n:=9) (r:= .inl ([[98]],())) (by kernel_rfl))).trans rfl
theorem T67(n:Nat):m67 (zah (n+9)) zkn [99]=some (2,true,()):=by
 unfold m67;rw[zjW (n:=9) (r:= .inl (2,())) (by kernel_rfl)]
 kernel_rfl
theorem T122(n:Nat):m122 (zah (n+9)) zkn 1=some (zuo,()):=by unfold m122;refine (congrArg (λz=>zaE z _) (zjW (n:=9) (r:= .inl ([([97],0),([98],1),([99],2)],())) (by kernel_rfl))).trans ?_;show zaE (zak _ ((0,zkn.name,zkn.Kn,zkn.root,zkn.Kc,zkn.Kq,0,[[],[],[]],[[],[],[]],()):Int×By×By×By×List Gt.Kb×List Gt.Ky×Int×List (List Int)×List (List Int)×J)) _=_;refine (congrArg (λz=>zaE z _) (zjW (n:=9) (r:= .inl (zkn.name,zkn.Kn,zkn.root,zkn.Kc,zkn.Kq,0,[[1],[2],[]],[[],[0],[1]],())) (by kernel_rfl))).trans ?_;rw[zaj];exact (congrArg (λz=>zaE z _) (zjW (n:=9) (r:= .inl (zkn.name,zkn.Kn,zkn.root,zkn.Kc,zkn.Kq,0,[[1],[2],[]],[[],[0],[1]],())) (by kernel_rfl))).trans rfl
theorem T57(n:Nat):m57 (zah (n+1)) zuo 2=some ([0,1,2],()):=by
 unfold m57;rw[show @Eq (Option (List Int×J)) ((zah (n+1)).d 58 [.sl LI zuo.Ku,.int .i64 2,.int .i64 (-1)] [LI]) (some ([2,1,0],())) from (q58 n _ _ _).trans (T58b _),zaa];show zaE (zak _ (([0],0,()):List Int×Int×J)) _=_;refine (congrArg (λz=>zaE z _) (Eq.trans (zaR (y:=([0,1],1,())) ?_) (Eq.trans (zaR (y:=([0,1,2],2,())) ?_) (zaD (r:= .inl ([0,1,2],())) rfl)))).trans rfl
 all_goals
  show ob (zaE (zak _ ((0,()):Int×J)) _) _=_;rw[zjW (n:=9) (r:= .inr (0,())) (by kernel_rfl)];rfl
theorem zrj:SmB zkn:=⟨by decide,by decide,λc hc=>by simp only[zkn,yAm,yAX,or_false] at hc;rcases hc with rfl|rfl|rfl<;>exact ⟨by decide,by decide,by decide,λd hd=>by simp[cT] at hd,λf hf=>by simp[cT] at hf,by decide,by decide⟩⟩
theorem zp2:zfo zkn=0:=by kernel_rfl
theorem T79(n:Nat):m79 (zah (n+150)) zkn 1=some (zuo,0,()):=by unfold m79;rw[L40 (by omega) zrj,zaa,zp2];show ob (α:=Gt.Gf×J) _ _=_;rw[show @Eq (Option (Gt.Gf×J)) ((zah (n+150)).d 122 [.st 3 zkn,.int .i64 1] [.st 14]) (some (zuo,())) from (q122 (n+149) _ _).trans (T122 (n+140)),zaa]
theorem T14(n:Nat):m14 (zah (n+200)) zkn [99] 1=some ([[98]],0,()):=by
 unfold m14;rw[show @Eq (Option (Gt.Gf×Int×Int×J)) ((zah (n+200)).d 56 [.st 3 zkn,.str [99],.int .i64 1] [.st 14,I6,I6]) (some (zuo,2,0,())) from by
  refine (q56 (n+199) _ _ _).trans ?_;unfold m56
  rw[show @Eq (Option (Gt.Gf×Int×J)) ((zah (n+199)).d 79 [.st 3 zkn,.int .i64 1] [.st 14,I6]) (some (zuo,0,())) from (q79 (n+198) _ _).trans (T79 (n+48)),zaa,
   show @Eq (Option (Int×Bool×J)) ((zah (n+199)).d 67 [.st 3 zkn,.str [99]] [I6,.bool]) (some (2,true,())) from (q67 (n+198) _ _).trans (T67 (n+189)),zaa]
  rfl,zaa]
 show zaE (ob (α:=List Int×J) _ _) _=_;rw[show @Eq (Option (List Int×J)) ((zah (n+200)).d 57 [.st 14 zuo,.int .i64 2] [LI]) (some ([0,1,2],())) from (q57 (n+199) _ _).trans (T57 (n+198)),zaa];refine (congrArg (λz=>zaE z _) (Eq.trans (zaR (y:=([],1,())) rfl) (Eq.trans (zaR (y:=([1],2,())) ?_) (Eq.trans (zaR (y:=([1],3,())) rfl) (zaD (r:= .inl ([1],())) rfl))))).trans ?_;·dsimp only;rw[show at? [(0:Int),1,2] 1=some 1 from rfl,zaa,show @Eq (Option (List Int×J)) ((zah (n+200)).d 58 [.sl LI zuo.out,.int .i64 zuo.root,.int .i64 1] [LI]) (some ([0, -1, -1],())) from (q58 (n+199) _ _ _).trans (T58a _)];rfl
 ·rw[zaj];dsimp only;rw[show @Eq (Option (List By×J)) ((zah (n+200)).d 59 [.st 14 zuo,.sl I6 ([1]:List Int)] [LS]) (some ([[98]],())) from (q59 (n+199) _ _).trans (T59 _),zaa]
theorem L19{n:Nat}(hn:210<=n): @Eq (Option (Bool×J)) ((zah n).d 19 [] [.bool]) (some (true,())):=by obtain ⟨n,rfl⟩:∃k,n=k+210:=⟨n - 210,by omega⟩;refine (q19 (n+209)).trans ?_;unfold m19;have h66:∀s:By,@Eq (Option (Gt.Kb×J)) ((zah (n+209)).d 66 [.str s] [.st 5]) (some (cT s,())):=λs=>(q66 (n+208) s).trans rfl;rw[h66,zaa,h66,zaa,h66,zaa];dsimp only;rw[show @Eq (Option (List By×Int×J)) ((zah (n+209)).d 14 [.st 3 (Gt.Ks.mk [120] [] [97] [cT [97],cT [98],cT [99]] [Gt.Ky.mk [97] [98] 1,Gt.Ky.mk [98] [99] 1]),.str [99],.int .i64 1] [LS,I6]) (some ([[98]],0,())) from (q14 (n+208) zkn [99] 1).trans (T14 (n+8)),zaa];dsimp only;rw[show ((0:Int)==0)=true from rfl,zac];refine congrArg (λx:Option (Bool×J)=>ob x λr5=>some (r5.1,())) ((q18 (n+208) [[98]] [[98]]).trans (?_:_=some (true,())));unfold m18;rw[zjW (n:=9) (r:= .inl ()) (by kernel_rfl)];rfl
end Pe.Tryz
end
section
/- The canonical form of a right name is right, and its own canonical form. -/
namespace Pe.Tryz
open Go Go.Proofs Pe
end Pe.Tryz
end
section
/- equal: a bill is equal to itself. -/
namespace Pe.Tryz
open Go Go.Proofs Pe
structure SmL (c:Gt.Kb):Prop where
 quals:c.purl.Kf.length<=1000000000
 digs:c.K2.length<=1000000000
 files:c.files.length<=1000000000
theorem zty{R:Type}{f:Int×J->Option ((Int×J)⊕R)}{n:Nat}(fin:R)(h:∀k,k<n->f ((k:Int),())=some (.inl (((k+1:Nat):Int),())))(he:f ((n:Int),())=some (.inr fin)):zak f ((0:Int),())=some fin:=by
 refine zby (A:=J) (λk _=>((k:Int),())) n (λ_ _=>fin) (λ_ _=>True) (λk _ hk _=>?_) 0 () (yAA _) trivial;rcases yAT k n with h1|h1;·exact .inl ⟨(),h1,h k h1,trivial,rfl⟩
 ·have:k=n:=by omega
  subst this;exact .inr he
theorem m69_same(o:Orc Sx){l:List By}(hl:l.length<=1000000000):m69 o l l=some (true,()):=by
 unfold m69;rw[show (len l != len l)=false from by simp,zab];rw[zty (n:=l.length) (.inl ():J⊕(Bool×J)) (λk hk=>?_) ?_];·rfl
 ·dsimp only;rw[show decide ((l.length:Int)<len l)=false from by simp[len],zab]
 ·dsimp only;rw[show decide ((k:Int)<len l)=true from by simp[len];exact hk,zac,zan hk,zaa,zaa,show (l[k] != l[k])=false from by simp,zab,zaf hk (by omega)]
theorem m70_same(o:Orc Sx){p:Gt.K7}(hl:p.Kf.length<=1000000000):m70 o p p=some (true,()):=by
 have ne:∀l:By,(l != l)=false:=λl=>by simp
 unfold m70;simp only[ne,zab,zaa,show (len p.Kf != len p.Kf)=false from by simp];rw[zty (n:=p.Kf.length) (.inl ():J⊕(Bool×J)) (λk hk=>?_) ?_];·rfl
 ·dsimp only;rw[show decide ((p.Kf.length:Int)<len p.Kf)=false from by simp[len],zab]
 ·dsimp only;rw[show decide ((k:Int)<len p.Kf)=true from by simp[len];exact hk,zac,zan hk,zaa,zaa,zaf hk (by omega)];simp only[beq_self_eq_true,Bool.and_self,yBS,zab]
theorem L26(n:Nat){c:Gt.Kb}(hc:SmL c): @Eq (Option (Bool×J)) ((zah (n+2)).d 26 [.st 5 c,.st 5 c] [.bool]) (some (true,())):=by
 have ne:∀l:By,(l != l)=false:=λl=>by simp
 refine (q26 (n+1) c c).trans ?_;unfold m26
 rw[show @Eq (Option (Bool×J)) ((zah (n+1)).d 69 [.sl .str c.files,.sl .str c.files] [.bool]) (some (true,())) from (q69 n _ _).trans (m69_same _ hc.files),
  show @Eq (Option (Bool×J)) ((zah (n+1)).d 70 [.st 11 c.purl,.st 11 c.purl] [.bool]) (some (true,())) from (q70 n _ _).trans (m70_same _ hc.quals)]
 simp only[ne,zab,zaa,yBS,show (len c.K2 != len c.K2)=false from by simp];rw[zty (n:=c.K2.length) (.inl ():J⊕(Bool×J)) (λk hk=>?_) ?_];·rfl
 ·dsimp only;rw[show decide ((c.K2.length:Int)<len c.K2)=false from by simp[len],zab]
 ·dsimp only;rw[show decide ((k:Int)<len c.K2)=true from by simp[len];exact hk,zac,zan hk,zaa,zaa,zaf hk (by have:=hc.digs;omega)];simp only[beq_self_eq_true,Bool.and_self,yBS,zab]
theorem m55_same(o:Orc Sx){l:List Gt.Ky}(hl:l.length<=1000000000):m55 o l l=some (true,()):=by
 unfold m55;rw[show (len l != len l)=false from by simp,zab];rw[zty (n:=l.length) (.inl ():J⊕(Bool×J)) (λk hk=>?_) ?_];·rfl
 ·dsimp only;rw[show decide ((l.length:Int)<len l)=false from by simp[len],zab]
 ·dsimp only;rw[show decide ((k:Int)<len l)=true from by grind[len],zac,zan hk,zaa,zaa,zaf hk (by omega)];simp_all[zab]
theorem L38(n:Nat){b:Gt.Ks}(h1:b.Kc.length<=1000000000)(h2:b.Kq.length<=1000000000)(h:∀c∈b.Kc,SmL c): @Eq (Option (Bool×J)) ((zah (n+3)).d 38 [.st 3 b,.st 3 b] [.bool]) (some (true,())):=by
 refine (q38 (n+2) b b).trans ?_;unfold m38;simp only[beq_self_eq_true,zac,zaa,show (len b.Kc != len b.Kc)=false from by simp,zab];rw[zty (n:=b.Kc.length) (.inl ():J⊕(Bool×J)) (λk hk=>?_) ?_];·rw[zaj,zaa,zaa,zac,show @Eq (Option (Bool×J)) ((zah (n+2)).d 55 [.sl (.st 7) b.Kq,.sl (.st 7) b.Kq] [.bool]) (some (true,())) from (q55 (n+1) _ _).trans (m55_same _ h2),zaa,zaa]
 ·dsimp only;rw[show decide ((b.Kc.length:Int)<len b.Kc)=false from by simp[len],zab]
 ·dsimp only;rw[show decide ((k:Int)<len b.Kc)=true from by simp[len];exact hk,zac,zan hk,zaa,zaa,L26 n (h _ (yAy hk)),zaa,zaf hk (by omega)];rfl
end Pe.Tryz
end
section
/- Law 12: Check and Tidy return what is specified. -/
namespace Pe.Tryz
open Go Go.Proofs Pe
theorem zzX(l:List By):(zyq l).length<=l.length:=by
 unfold zyq;suffices ∀(l a:List By),(zyF a l).length<=a.length+l.length by simpa using this l []
 intro l;induction l with
 |nil=>intro a;exact yAi _
 |cons x l ih =>intro a;have h1:=ih (zzg x a);have h2:=zur x a;rw[show zyF a (x::l)=zyF (zzg x a) l from rfl,yAw];omega
theorem zzM{α:Type}(t:α->α->Bool)(s:List α):∀m,(zhn t s m).length<=m
 |0=>by simp[zhn]
 |m+1=>by
   have ih:=zzM t s m;unfold zhn;cases s[m]? with
   |none=>exact Nat.le_succ_of_le ih|some x =>
     dsimp only;generalize (Nat.blt 0 m&&_)=q;cases q with
     |true=>rw[cond_true];omega|false=>rw[cond_false,yAI];simp;omega
theorem zzY(l:List Gt.Ky):(zyJ l).length<=l.length:=by unfold zyJ;refine yAo (zzM _ _ _) ?_;rw[(zwy zpV l).length_eq];exact yAi _
theorem zAu{c:Gt.Kb}{w:Bool}(h:zyL w c=0):SmL (zyu c):=by obtain ⟨c1,c2,c3,c4,c5⟩:=zzC h;have hq:=(zyC c2).quals;have h4:=zzB c3;have h5:=zzX c.files;have h6:=zyS c5;exact ⟨by show (zyD c.purl).Kf.length<=_;show c.purl.Kf.length<=_;omega,by show c.K2.length<=_;omega,by show (zyq c.files).length<=_;omega⟩
theorem zz3(b:Gt.Ks):(sortT b).length=b.Kc.length:=by rw[(zyB b).length_eq,yBi]
theorem zAh{b:Gt.Ks}{c:Gt.Kb}:c∈sortT b↔∃d∈b.Kc,zyu d=c:=by rw[(zyB b).mem_iff,yBw]
theorem zAP(n:Nat){b:Gt.Ks}(h:zzs false b=0): @Eq (Option (Bool×J)) ((zah (n+3)).d 38 [.st 3 (zAs b),.st 3 (zAs b)] [.bool]) (some (true,())):=by
 obtain ⟨h1,h2,h3⟩:=zzh h;refine L38 n (b:=zAs b) ?_ ?_ λc hc=>?_;·show (sortT b).length<=_;rw[zz3];omega
 ·show (zyJ b.Kq).length<=_;have:=zzY b.Kq;omega
 ·obtain ⟨d,hd,rfl⟩:=zAh.1 hc;exact zAu (h3 d hd)
open Classical in
theorem zAr(n:Nat)(b:Gt.Ks): @Eq (Option (Bool×J)) ((zah (n+3)).d 38 [.st 3 (zzd b).1,.st 3 (zzd b).1] [.bool]) (some (true,())):=by
 unfold zzd;have hz: @Eq (Option (Bool×J)) ((zah (n+3)).d 38 [.st 3 noB,.st 3 noB] [.bool]) (some (true,())):=L38 n (b:=noB) (by decide) (by decide) (λc hc=>by cases hc);split;·exact hz
 ·rename_i h;split;·exact zAP n (by simpa using h)
  ·exact hz
theorem L12{n:Nat}(hn:220<=n){b:Gt.Ks}(hb:SmB b):m12 (zah n) b=some (true,()):=by obtain ⟨n,rfl⟩:∃k,n=k+220:=⟨n - 220,by omega⟩;unfold m12;rw[L52 (by omega) hb,L53 (by omega) hb,L40 (by omega) hb,L54 (by omega) hb,L19 (by omega)];simp only[zaa,beq_self_eq_true,zac];rw[zAr (n+217) b];rfl
end Pe.Tryz
end
section
/- What Tidy returns is right: the plain part. -/
namespace Pe.Tryz
open Go Go.Proofs Pe
end Pe.Tryz
end
