/- PROVED HERE: a part of the seat's proofs; see the text that holds the claim's theorem. -/
import Derived.Test.YtojfjgjdheiffaaGreatDoorBoJ
set_option maxRecDepth 100000
section
namespace Pe.Tryz
open Go Go.Proofs Pe
theorem T58a(o:Orc Sx):m58 o [[1],[2],[]] 0 1=some ([0, -1, -1],()):=by unfold m58;rw[show zlG (len ([[1],[2],[]]:List (List Int))) (0:Int)=some [0,0,0] from rfl,zaa];refine (congrArg (λz=>zaE z _) (zjW (n:=9) (r:= .inl ([-1, -1, -1],())) (by kernel_rfl))).trans ?_;show zaE (zak _ (([0, -1, -1],[0],()):List Int×List Int×J)) _=_;refine (congrArg (λz=>zaE z _) (Eq.trans (zaR (y:=([0, -1, -1],[],())) ?_) (zaD (r:= .inl ([0, -1, -1],())) rfl))).trans rfl;exact zjW (n:=9) (by kernel_rfl)
theorem T58b(o:Orc Sx):m58 o [[],[0],[1]] 2 (-1)=some ([2,1,0],()):=by
 unfold m58;rw[show zlG (len ([[],[0],[1]]:List (List Int))) (0:Int)=some [0,0,0] from rfl,zaa];refine (congrArg (λz=>zaE z _) (zjW (n:=9) (r:= .inl ([-1, -1, -1],())) (by kernel_rfl))).trans ?_;show zaE (zak _ (([-1, -1,0],[2],()):List Int×List Int×J)) _=_;refine (congrArg (λz=>zaE z _) (Eq.trans (zaR (y:=([-1,1,0],[1],())) ?_) (Eq.trans (zaR (y:=([2,1,0],[0],())) ?_) (Eq.trans (zaR (y:=([2,1,0],[],())) ?_) (zaD (r:= .inl ([2,1,0],())) rfl))))).trans rfl
 all_goals exact zjW (n:=9) (by kernel_rfl)
def cT(s:By):Gt.Kb:=Gt.Kb.mk s (Gt.K6.mk [112,108,97,105,110] [] s [] [] []) [] [] []
def zkn:Gt.Kr:=Gt.Kr.mk [120] [] [97] [cT [97],cT [98],cT [99]] [Gt.Kw.mk [97] [98] 1,Gt.Kw.mk [98] [99] 1]
def zuo:Gt.Gf:=Gt.Gf.mk zkn 0 [[1],[2],[]] [[],[0],[1]]
theorem T59(o:Orc Sx):m59 o zuo [1]=some ([[98]],()):=by unfold m59;exact (congrArg (λz=>zaE z _) (zjW (n:=9) (r:= .inl ([[98]],())) (by kernel_rfl))).trans rfl
theorem T67(n:Nat):m67 (zah (n+9)) zkn [99]=some (2,true,()):=by
 unfold m67;rw[zjW (n:=9) (r:= .inl (2,())) (by kernel_rfl)]
 kernel_rfl
theorem T122(n:Nat):m122 (zah (n+9)) zkn 1=some (zuo,()):=by unfold m122;refine (congrArg (λz=>zaE z _) (zjW (n:=9) (r:= .inl ([([97],0),([98],1),([99],2)],())) (by kernel_rfl))).trans ?_;show zaE (zak _ ((0,zkn.name,zkn.Km,zkn.root,zkn.Kc,zkn.Kn,0,[[],[],[]],[[],[],[]],()):Int×By×By×By×List Gt.Kb×List Gt.Kw×Int×List (List Int)×List (List Int)×J)) _=_;refine (congrArg (λz=>zaE z _) (zjW (n:=9) (r:= .inl (zkn.name,zkn.Km,zkn.root,zkn.Kc,zkn.Kn,0,[[1],[2],[]],[[],[0],[1]],())) (by kernel_rfl))).trans ?_;rw[zaj];exact (congrArg (λz=>zaE z _) (zjW (n:=9) (r:= .inl (zkn.name,zkn.Km,zkn.root,zkn.Kc,zkn.Kn,0,[[1],[2],[]],[[],[0],[1]],())) (by kernel_rfl))).trans rfl
theorem T57(n:Nat):m57 (zah (n+1)) zuo 2=some ([0,1,2],()):=by
 unfold m57;rw[show @Eq (Option (List Int×J)) ((zah (n+1)).d 58 [.sl LI zuo.Kt,.int .i64 2,.int .i64 (-1)] [LI]) (some ([2,1,0],())) from (q58 n _ _ _).trans (T58b _),zaa];show zaE (zak _ (([0],0,()):List Int×Int×J)) _=_;refine (congrArg (λz=>zaE z _) (Eq.trans (zaR (y:=([0,1],1,())) ?_) (Eq.trans (zaR (y:=([0,1,2],2,())) ?_) (zaD (r:= .inl ([0,1,2],())) rfl)))).trans rfl
 all_goals
  show ob (zaE (zak _ ((0,()):Int×J)) _) _=_;rw[zjW (n:=9) (r:= .inr (0,())) (by kernel_rfl)];rfl
theorem zrj:SmB zkn:=⟨by decide,by decide,λc hc=>by simp only[zkn,yAm,yAX,or_false] at hc;rcases hc with rfl|rfl|rfl<;>exact ⟨by decide,by decide,by decide,λd hd=>by simp[cT] at hd,λf hf=>by simp[cT] at hf,by decide,by decide⟩⟩
theorem zp2:zfo zkn=0:=by kernel_rfl
theorem T79(n:Nat):m79 (zah (n+150)) zkn 1=some (zuo,0,()):=by unfold m79;rw[L40 (by omega) zrj,zaa,zp2];show ob (α:=Gt.Gf×J) _ _=_;rw[show @Eq (Option (Gt.Gf×J)) ((zah (n+150)).d 122 [.st 3 zkn,.int .i64 1] [.st 14]) (some (zuo,())) from (q122 (n+149) _ _).trans (T122 (n+140)),zaa]
theorem T14(n:Nat):m14 (zah (n+200)) zkn [99] 1=some ([[98]],0,()):=by
 unfold m14;rw[show @Eq (Option (Gt.Gf×Int×Int×J)) ((zah (n+200)).d 56 [.st 3 zkn,.str [99],.int .i64 1] [.st 14,I6,I6]) (some (zuo,2,0,())) from by
  refine (q56 (n+199) _ _ _).trans ?_;unfold m56
  rw[show @Eq (Option (Gt.Gf×Int×J)) ((zah (n+199)).d 79 [.st 3 zkn,.int .i64 1] [.st 14,I6]) (some (zuo,0,())) from (q79 (n+198) _ _).trans (T79 (n+48)),zaa,
   show @Eq (Option (Int×Bool×J)) ((zah (n+199)).d 67 [.st 3 zkn,.str [99]] [I6,.bool]) (some (2,true,())) from (q67 (n+198) _ _).trans (T67 (n+189)),zaa]
  rfl,zaa]
 show zaE (ob (α:=List Int×J) _ _) _=_;rw[show @Eq (Option (List Int×J)) ((zah (n+200)).d 57 [.st 14 zuo,.int .i64 2] [LI]) (some ([0,1,2],())) from (q57 (n+199) _ _).trans (T57 (n+198)),zaa];refine (congrArg (λz=>zaE z _) (Eq.trans (zaR (y:=([],1,())) rfl) (Eq.trans (zaR (y:=([1],2,())) ?_) (Eq.trans (zaR (y:=([1],3,())) rfl) (zaD (r:= .inl ([1],())) rfl))))).trans ?_;·dsimp only;rw[show at? [(0:Int),1,2] 1=some 1 from rfl,zaa,show @Eq (Option (List Int×J)) ((zah (n+200)).d 58 [.sl LI zuo.out,.int .i64 zuo.root,.int .i64 1] [LI]) (some ([0, -1, -1],())) from (q58 (n+199) _ _ _).trans (T58a _)];rfl
 ·rw[zaj];dsimp only;rw[show @Eq (Option (List By×J)) ((zah (n+200)).d 59 [.st 14 zuo,.sl I6 ([1]:List Int)] [LS]) (some ([[98]],())) from (q59 (n+199) _ _).trans (T59 _),zaa]
theorem L19{n:Nat}(hn:210<=n): @Eq (Option (Bool×J)) ((zah n).d 19 [] [.bool]) (some (true,())):=by obtain ⟨n,rfl⟩:∃k,n=k+210:=⟨n - 210,by omega⟩;refine (q19 (n+209)).trans ?_;unfold m19;have h66:∀s:By,@Eq (Option (Gt.Kb×J)) ((zah (n+209)).d 66 [.str s] [.st 5]) (some (cT s,())):=λs=>(q66 (n+208) s).trans rfl;rw[h66,zaa,h66,zaa,h66,zaa];dsimp only;rw[show @Eq (Option (List By×Int×J)) ((zah (n+209)).d 14 [.st 3 (Gt.Kr.mk [120] [] [97] [cT [97],cT [98],cT [99]] [Gt.Kw.mk [97] [98] 1,Gt.Kw.mk [98] [99] 1]),.str [99],.int .i64 1] [LS,I6]) (some ([[98]],0,())) from (q14 (n+208) zkn [99] 1).trans (T14 (n+8)),zaa];dsimp only;rw[show ((0:Int)==0)=true from rfl,zac];refine congrArg (λx:Option (Bool×J)=>ob x λr5=>some (r5.1,())) ((q18 (n+208) [[98]] [[98]]).trans (?_:_=some (true,())));unfold m18;rw[zjW (n:=9) (r:= .inl ()) (by kernel_rfl)];rfl
end Pe.Tryz
end
section
namespace Pe.Tryz
open Go Go.Proofs Pe
def zBm(b:UInt8):List By->List By|[]=>[[b]]|x::r=>(b::x)::r
def zA6(c:UInt8):By->List By|[]=>[[]]|b::l=>bif b==c then []::zA6 c l else zBm b (zA6 c l)
theorem zBv(c:UInt8):∀s:By,Lib.splitK [c] 0 (s.count c) s=zA6 c s
 |[]=>rfl|b::l=>by
   have ih:=zBv c l;by_cases h:b=c
   ·subst h;have hix:Lib.index (b::l) [b]=0:=by rw[Lib.index];simp[List.isPrefixOf]
    rw[List.count_cons_self,Lib.splitK,hix];simp[zA6,ih]
   ·have hp:([c]:By).isPrefixOf (b::l)=false:=(by simp[List.isPrefixOf,Ne.symm h]);have hix:Lib.index (b::l) [c]=if Lib.index l [c]== -1 then -1 else Lib.index l [c]+1:=by rw[Lib.index,hp];simp
    have hb:(b==c)=false:=(by simpa using h);rw[List.count_cons_of_ne h];simp only[zA6,hb,cond_false];rw[<-ih];cases hk:l.count c with
    |zero=>rfl|succ k =>
      rw[Lib.splitK,Lib.splitK,hix];by_cases hm:Lib.index l [c]= -1;·simp[hm,zBm]
      ·have K5:=Lib.index_ge l [c];obtain ⟨j,hj⟩:∃j:Nat,Lib.index l [c]=j:=⟨(Lib.index l [c]).toNat,by omega⟩;rw[if_neg (λe=>hm (beq_iff_eq.1 e)),hj];have e1:((((j:Nat):Int)+1== -1)=false):=(by rw[beq_eq_false_iff_ne];omega);have e2:((((j:Nat):Int)== -1)=false):=(by rw[beq_eq_false_iff_ne];omega);rw[e1,e2];rw[show (((j:Nat):Int)+1).toNat=j+1 by omega,show ((j:Nat):Int).toNat=j by omega];simp[zBm]
theorem zBu(c:UInt8)(s:By):zbW c s=zA6 c s:=by unfold zbW;rw[Lib.splitB_data];have e:Lib.countB ⟨s.toArray⟩ ⟨#[c]⟩=s.count c:=Lib.count_one c s;rw[e];exact zBv c s
theorem zBR(c:UInt8):low (low c)=low c:=eq8 (f:=λc=>low (low c)) (g:=low) (by decide+kernel) c
theorem zBO(c:UInt8):(low c==47)=(c==47):=eq8 (f:=λc=>low c==47) (g:=λc=>c==47) (by decide+kernel) c
theorem zBK(c:UInt8):ctl (low c)=ctl c:=eq8 (f:=λc=>ctl (low c)) (g:=ctl) (by decide+kernel) c
theorem zBN(c:UInt8):zyt (low c)=zyt c:=eq8 (f:=λc=>zyt (low c)) (g:=zyt) (by decide+kernel) c
theorem zBp(s:By):zyA (zyA s)=zyA s:=by simp[zyA,zBR]
theorem zA5(s:By):(zyA s==[])=(s==[]):=by cases s<;>rfl
theorem zBH(s:By):(zyA s).any ctl=s.any ctl:=by unfold zyA;rw[List.any_map];congr 1;funext c;exact zBK c
theorem zA7:∀(b:Bool)(s:By),zyA (zyK b s)=zyK b (zyA s)
 |_,[]=>rfl|b,c::r=>by
   have h1:=zA7 true r;have h2:=zA7 false r;simp only[zyA,yAn] at h1 h2 ⊢;unfold zyK;rw[zBN];cases zyt c with
   |true=>cases b<;>simp[h1,show low 45=45 from rfl]|false=>simp[h2]
theorem zBe:∀(b:Bool)(s:By),zyK b (zyK b s)=zyK b s
 |_,[]=>rfl|b,c::r=>by
   have h1:=zBe true r;have h2:=zBe false r;rw[zyK];cases hc:zyt c with
   |true =>
     cases b with
     |true=>simp only[cond_true,yBb,h1]|false=>simp only[cond_true,cond_false,yA3,yBb,zyK,show zyt 45=true from rfl,h1]
   |false=>simp only[cond_false,zyK,hc,h2]
theorem zBx(s:By):(zyK false s==[])=(s==[]):=by
 cases s with
 |nil=>rfl|cons c r=>unfold zyK;cases zyt c<;>rfl
theorem zBl:∀(b:Bool)(s:By)(x:UInt8),x∈zyK b s->x=45\/x∈s
 |_,[],x,h=>by cases h
 |b,c::r,x,h=>by
   unfold zyK at h;cases hc:zyt c with
   |true =>
     rw[hc] at h;simp only[cond_true,yAp] at h;rcases h with h|h
     ·left;cases b with
      |true=>cases h|false=>simpa using h
     ·rcases zBl true r x h with h|h;·exact .inl h
      ·exact .inr (yB6 _ h)
   |false =>
     rw[hc] at h;simp only[cond_false,yAm] at h;rcases h with rfl|h;·exact .inr (List.mem_cons_self ..)
     ·rcases zBl false r x h with h|h;·exact .inl h
      ·exact .inr (yB6 _ h)
theorem zBy{p:UInt8->Bool}(hp:p 45=false){b:Bool}{s:By}(h:s.any p=false):(zyK b s).any p=false:=by
 rw[yB0] at *
 intro x hx;rcases zBl b s x hx with rfl|h2;·simp[hp]
 ·exact h x h2
theorem zBb(c:UInt8):∀s:By,decide (0<=Lib.indexByte s c)=s.any (· ==c)
 |[]=>rfl|b::l=>by
   have ih:=zBb c l;have K5:=Lib.indexByte_ge l c;unfold Lib.indexByte;rw[List.any_cons,<-ih];cases hb:(b==c) with
   |true=>simp|false =>
     simp only[Bool.false_or,yBW,if_false];by_cases h:Lib.indexByte l c= -1;·rw[if_pos (by simpa using h),h]
     ·rw[if_neg (by simpa using h),decide_eq_true (by omega),decide_eq_true (by omega)]
theorem zBC(g:UInt8->UInt8)(b:UInt8)(l:List By):zBm (g b) (l.map (List.map g))=(zBm b l).map (List.map g):=by cases l<;>rfl
theorem zBa:∀s:By,zA6 47 (zyA s)=(zA6 47 s).map zyA
 |[]=>rfl|c::r=>by
   have ih:=zBa r;simp only[zyA,yAn] at ih ⊢;unfold zA6;rw[zBO,ih];cases (c==47) with
   |true=>simp[zyA]|false=>exact zBC low c _
theorem zBA(s:By):zjy (zyA s)=(zjy s).map zyA:=by
 unfold zjy;rw[zA5];cases (s==[]) with
 |true=>rfl|false=>simp only[cond_false];rw[zBu,zBu,zBa]
theorem zBB(s:By):zbL (zjy (zyA s)) false=zbL (zjy s) false:=by
 rw[zBA];unfold zbL;have:((zjy s).map zyA).any (zkz false)=(zjy s).any (zkz false):=by rw[List.any_map];congr 1;funext x;simp only[Function.comp_def,zkz,zA5,cond_false]
 have h2:len ((zjy s).map zyA)=len (zjy s):=by simp[len]
 rw[this];simp only[h2]
theorem zBE{p:Gt.K6}:zdS p=0↔(zea p.kind).2.1=0/\zg5 p=false/\zfv (zea p.kind).1 p=false/\zbL (zjy p.K3) false=false/\zhO p=false/\qE p.Kf=0/\zbL (zjy p.sub) true=false/\zs0 p=false/\zsZ p=false:=by
 unfold zdS;generalize (zea p.kind).2.1=a;generalize zfv (zea p.kind).1 p=b;generalize zbL (zjy p.K3) false=c;generalize zbL (zjy p.sub) true=d;generalize qE p.Kf=e;by_cases ha:a=0
 ·subst ha;by_cases he:e=0;·subst he;cases zg5 p<;>cases b<;>cases c<;>cases zhO p<;>cases d<;>cases zs0 p<;>cases zsZ p<;>simp
  ·have:(e != 0)=true:=by simpa using he
   rw[this];cases zg5 p<;>cases b<;>cases c<;>cases zhO p<;>simp[he]
 ·have:(a != 0)=true:=by simpa using ha
  rw[this];simp[ha]
theorem zBj{s:By}(h:s.length<=200):big s=false:=decide_eq_false (by unfold len;omega)
theorem zBL{p:Gt.K6}(T:Tiny p):zg5 p=false:=by unfold zg5;rw[show (zga p).any big=false by simp[zga,zBj T.K3,zBj T.name,zBj T.Km,zBj T.sub]];simp only[cond_false];rw[show p.Kf.any zg6=false by rw[yB0];intro q hq;have:=T.each q hq;simp[zg6,zBj this.1,zBj this.2]];simp only[cond_false];exact decide_eq_false (by have:=T.quals;unfold len;omega)
theorem zBi(p:Gt.K6){pr:UInt8->Bool}(h45:pr 45=false)(hl:∀c,pr (low c)=pr c)(h:p.name.any pr=false):(zyD p).name.any pr=false:=by
 have hs:(zyA p.name).any pr=false:=by unfold zyA;rw[List.any_map,<-h];congr 1;funext c;exact hl c
 unfold zyD;cases (zea p.kind).1.small<;>cases (zea p.kind).1.dashes;·exact h
 ·exact zBy h45 h
 ·exact hs
 ·exact zBy h45 hs
theorem zBs{p:Gt.K6}(h:zdS p=0):zdS (zyD p)=0:=by
 have T:=zyC h;rw[zBE] at h ⊢;obtain ⟨h1,h2,h3,h4,h5,h6,h7,h8,h9⟩:=h;have hsp:((zyD p).K3==[])=(p.K3==[]):=by
  unfold zyD;cases (zea p.kind).1.small;·rfl
  ·exact zA5 _
 have hna:((zyD p).name==[])=(p.name==[]):=by
  unfold zyD;cases (zea p.kind).1.small<;>cases (zea p.kind).1.dashes;·rfl
  ·exact zBx _
  ·exact zA5 _
  ·exact (zBx _).trans (zA5 _)
 refine ⟨h1,zBL (zBz T),?_,?_,?_,h6,h7,?_,h9⟩
 ·have e:zfv (zea (zyD p).kind).1 (zyD p)=zfv (zea p.kind).1 p:=by
   unfold zfv;rw[show ((zyD p).K3 != [])=(p.K3 != []) from congrArg (!·) hsp,hsp];rfl
  rw[e];exact h3
 ·unfold zyD;cases (zea p.kind).1.small;·exact h4
  ·exact (zBB _).trans h4
 ·unfold zhO at h5 ⊢;rw[hna,zBb];rw[zBb] at h5;cases hn:(p.name==[]) with
  |true=>rw[hn] at h5;cases h5|false =>rw[hn] at h5;exact zBi p rfl (λc=>zBO c) h5
 ·unfold zs0 zga at h8 ⊢;simp only[List.any_cons,List.any_nil,Bool.or_false,yBl] at h8 ⊢;refine ⟨?_,zBi p rfl zBK h8.2.1,h8.2.2⟩;unfold zyD;cases (zea p.kind).1.small;·exact h8.1
  ·exact (zBH _).trans h8.1
theorem zBt(p:Gt.K6):zyD (zyD p)=zyD p:=by unfold zyD;cases (zea p.kind).1.small<;>cases (zea p.kind).1.dashes<;>simp[zBp,zA7,zBe]
end Pe.Tryz
end
section
namespace Pe.Tryz
open Go Go.Proofs Pe
structure SmL (c:Gt.Kb):Prop where
 quals:c.purl.Kf.length<=1000000000
 digs:c.K2.length<=1000000000
 files:c.files.length<=1000000000
theorem zty{R:Type}{f:Int×J->Option ((Int×J)⊕R)}{n:Nat}(fin:R)(h:∀k,k<n->f ((k:Int),())=some (.inl (((k+1:Nat):Int),())))(he:f ((n:Int),())=some (.inr fin)):zak f ((0:Int),())=some fin:=by
 refine zby (A:=J) (λk _=>((k:Int),())) n (λ_ _=>fin) (λ_ _=>True) (λk _ hk _=>?_) 0 () (yAA _) trivial;rcases yAT k n with h1|h1;·exact .inl ⟨(),h1,h k h1,trivial,rfl⟩
 ·have:k=n:=by omega
  subst this;exact .inr he
theorem m69_same(o:Orc Sx){l:List By}(hl:l.length<=1000000000):m69 o l l=some (true,()):=by
 unfold m69;rw[show (len l != len l)=false from by simp,zab];rw[zty (n:=l.length) (.inl ():J⊕(Bool×J)) (λk hk=>?_) ?_];·rfl
 ·dsimp only;rw[show decide ((l.length:Int)<len l)=false from by simp[len],zab]
 ·dsimp only;rw[show decide ((k:Int)<len l)=true from by simp[len];exact hk,zac,zan hk,zaa,zaa,show (l[k] != l[k])=false from by simp,zab,zaf hk (by omega)]
theorem m70_same(o:Orc Sx){p:Gt.K6}(hl:p.Kf.length<=1000000000):m70 o p p=some (true,()):=by
 have ne:∀l:By,(l != l)=false:=λl=>by simp
 unfold m70;simp only[ne,zab,zaa,show (len p.Kf != len p.Kf)=false from by simp];rw[zty (n:=p.Kf.length) (.inl ():J⊕(Bool×J)) (λk hk=>?_) ?_];·rfl
 ·dsimp only;rw[show decide ((p.Kf.length:Int)<len p.Kf)=false from by simp[len],zab]
 ·dsimp only;rw[show decide ((k:Int)<len p.Kf)=true from by simp[len];exact hk,zac,zan hk,zaa,zaa,zaf hk (by omega)];simp only[beq_self_eq_true,Bool.and_self,yBS,zab]
theorem L26(n:Nat){c:Gt.Kb}(hc:SmL c): @Eq (Option (Bool×J)) ((zah (n+2)).d 26 [.st 5 c,.st 5 c] [.bool]) (some (true,())):=by
 have ne:∀l:By,(l != l)=false:=λl=>by simp
 refine (q26 (n+1) c c).trans ?_;unfold m26
 rw[show @Eq (Option (Bool×J)) ((zah (n+1)).d 69 [.sl .str c.files,.sl .str c.files] [.bool]) (some (true,())) from (q69 n _ _).trans (m69_same _ hc.files),
  show @Eq (Option (Bool×J)) ((zah (n+1)).d 70 [.st 11 c.purl,.st 11 c.purl] [.bool]) (some (true,())) from (q70 n _ _).trans (m70_same _ hc.quals)]
 simp only[ne,zab,zaa,yBS,show (len c.K2 != len c.K2)=false from by simp];rw[zty (n:=c.K2.length) (.inl ():J⊕(Bool×J)) (λk hk=>?_) ?_];·rfl
 ·dsimp only;rw[show decide ((c.K2.length:Int)<len c.K2)=false from by simp[len],zab]
 ·dsimp only;rw[show decide ((k:Int)<len c.K2)=true from by simp[len];exact hk,zac,zan hk,zaa,zaa,zaf hk (by have:=hc.digs;omega)];simp only[beq_self_eq_true,Bool.and_self,yBS,zab]
theorem m55_same(o:Orc Sx){l:List Gt.Kw}(hl:l.length<=1000000000):m55 o l l=some (true,()):=by
 unfold m55;rw[show (len l != len l)=false from by simp,zab];rw[zty (n:=l.length) (.inl ():J⊕(Bool×J)) (λk hk=>?_) ?_];·rfl
 ·dsimp only;rw[show decide ((l.length:Int)<len l)=false from by simp[len],zab]
 ·dsimp only;rw[show decide ((k:Int)<len l)=true from by grind[len],zac,zan hk,zaa,zaa,zaf hk (by omega)];simp_all[zab]
theorem L38(n:Nat){b:Gt.Kr}(h1:b.Kc.length<=1000000000)(h2:b.Kn.length<=1000000000)(h:∀c∈b.Kc,SmL c): @Eq (Option (Bool×J)) ((zah (n+3)).d 38 [.st 3 b,.st 3 b] [.bool]) (some (true,())):=by
 refine (q38 (n+2) b b).trans ?_;unfold m38;simp only[beq_self_eq_true,zac,zaa,show (len b.Kc != len b.Kc)=false from by simp,zab];rw[zty (n:=b.Kc.length) (.inl ():J⊕(Bool×J)) (λk hk=>?_) ?_];·rw[zaj,zaa,zaa,zac,show @Eq (Option (Bool×J)) ((zah (n+2)).d 55 [.sl (.st 7) b.Kn,.sl (.st 7) b.Kn] [.bool]) (some (true,())) from (q55 (n+1) _ _).trans (m55_same _ h2),zaa,zaa]
 ·dsimp only;rw[show decide ((b.Kc.length:Int)<len b.Kc)=false from by simp[len],zab]
 ·dsimp only;rw[show decide ((k:Int)<len b.Kc)=true from by simp[len];exact hk,zac,zan hk,zaa,zaa,L26 n (h _ (yAy hk)),zaa,zaf hk (by omega)];rfl
end Pe.Tryz
end
section
namespace Pe.Tryz
open Go Go.Proofs Pe
theorem zzX(l:List By):(zyq l).length<=l.length:=by
 unfold zyq;suffices ∀(l a:List By),(zyF a l).length<=a.length+l.length by simpa using this l []
 intro l;induction l with
 |nil=>intro a;exact yAi _
 |cons x l ih =>intro a;have h1:=ih (zzg x a);have h2:=zur x a;rw[show zyF a (x::l)=zyF (zzg x a) l from rfl,yAw];omega
theorem zzM{α:Type}(t:α->α->Bool)(s:List α):∀m,(zhn t s m).length<=m
 |0=>by simp[zhn]
 |m+1=>by
   have ih:=zzM t s m;unfold zhn;cases s[m]? with
   |none=>exact Nat.le_succ_of_le ih|some x =>
     dsimp only;generalize (Nat.blt 0 m&&_)=q;cases q with
     |true=>rw[cond_true];omega|false=>rw[cond_false,yAI];simp;omega
theorem zzY(l:List Gt.Kw):(zyJ l).length<=l.length:=by unfold zyJ;refine yAo (zzM _ _ _) ?_;rw[(zwy zpV l).length_eq];exact yAi _
theorem zAu{c:Gt.Kb}{w:Bool}(h:zyL w c=0):SmL (zyu c):=by obtain ⟨c1,c2,c3,c4,c5⟩:=zzC h;have hq:=(zyC c2).quals;have h4:=zzB c3;have h5:=zzX c.files;have h6:=zyS c5;exact ⟨by show (zyD c.purl).Kf.length<=_;show c.purl.Kf.length<=_;omega,by show c.K2.length<=_;omega,by show (zyq c.files).length<=_;omega⟩
theorem zz3(b:Gt.Kr):(sortT b).length=b.Kc.length:=by rw[(zyB b).length_eq,yBi]
theorem zAh{b:Gt.Kr}{c:Gt.Kb}:c∈sortT b↔∃d∈b.Kc,zyu d=c:=by rw[(zyB b).mem_iff,yBw]
theorem zAP(n:Nat){b:Gt.Kr}(h:zzs false b=0): @Eq (Option (Bool×J)) ((zah (n+3)).d 38 [.st 3 (zAs b),.st 3 (zAs b)] [.bool]) (some (true,())):=by
 obtain ⟨h1,h2,h3⟩:=zzh h;refine L38 n (b:=zAs b) ?_ ?_ λc hc=>?_;·show (sortT b).length<=_;rw[zz3];omega
 ·show (zyJ b.Kn).length<=_;have:=zzY b.Kn;omega
 ·obtain ⟨d,hd,rfl⟩:=zAh.1 hc;exact zAu (h3 d hd)
end Pe.Tryz
end
section
namespace Pe.Tryz
open Go Go.Proofs Pe
theorem zBn(b:Gt.Kr):zzs true b=zfo b:=rfl
theorem zj0(b:Gt.Kr)(r:By):znV b r=true↔zbm b r:=zmL b _ r
theorem zBk{F:Nat->Int}:∀{n:Nat},(∀k,k<n->F k=0)->ff F n=0|0,_=>rfl|n+1,h=>by have ih:=zBk (F:=F) (n:=n) λk hk=>h k (by omega);show (if ff F n≠0 then ff F n else F n)=0;rw[ih,if_neg (by decide)];exact h n (by omega)
theorem zA8{b:Bool}{c x:Int}(h1:b=false)(h2:x=0):(bif b then c else x)=0:=by subst h1;exact h2
theorem zBI{a x:Int}(h1:a=0)(h2:x=0):(bif a != 0 then a else x)=0:=by subst h1;exact h2
theorem zBP{a b:By}(h:b<a):leS a b=false:=by
 unfold leS;rw[zgX,decide_eq_false (List.lt_asymm h),Bool.false_or,beq_eq_false_iff_ne]
 rintro rfl;exact yBn _ h
theorem zA4{α:Type}{l:List α}{k:Nat}(d:α)(h:k<l.length):l.getD k d∈l/\l.getD k d=l[k]:=by
 have:l.getD k d=l[k]:=by simp[yAj,h]
 exact ⟨this▸yAy h,this⟩
theorem zBf{α:Type}{l:List α}{k:Nat}(d:α)(h:k<l.length){P:α->α->Prop}(hp:l.Pairwise P){w:Bool}{r:α->α->Bool}(hr:∀x y,P x y->r y x=false) :
  (bif (bif w then decide (0<(k:Int)) else false) then r (l.getD k d) (l.getD (k - 1) d) else false)=false:=by
 cases w with
 |false=>rfl|true =>
   rw[cond_true];by_cases hk:0<k;·rw[show decide (0<(k:Int))=true from decide_eq_true (by omega),cond_true,(zA4 d h).2,(zA4 d (show k - 1<l.length by omega)).2];exact hr _ _ (yAH.1 hp (k - 1) k (by omega) h (by omega))
   ·rw[show decide (0<(k:Int))=false from decide_eq_false (by omega)];rfl
theorem zBq{l:List By}{w:Bool}(h:zyI false l=0):zyI w (zyq l)=0:=by
 unfold zyI at h;obtain ⟨h1,h2⟩:=zc5 (by decide) h;have hl:=zzX l;refine zA8 (decide_eq_false ?_) (zBk λk hk=>?_);·have:=of_decide_eq_false h1;unfold len at this ⊢;omega
 ·refine zA8 ?_ (zA8 ?_ rfl);·obtain ⟨j,hj,e⟩:=yBH (zzV.1 (zA4 [] hk).1);have:=zsV h2 hj;unfold zA0 at this;rw[(zA4 [] hj).2,e] at this;exact (zc5 (by decide) this).1
  ·exact zBf (r:=leS) [] hk (zza l) λx y hxy=>zBP ((zc4 _ _).1 hxy)
theorem zBD{c:Gt.Kb}{w:Bool}(h:zyL false c=0):zyL w (zyu c)=0:=by obtain ⟨c1,c2,c3,c4,c5⟩:=zzC h;exact zA8 (by show (!znJ c.ref 100)=false;rw[c1];rfl) (zBI (zBs c2) (zBI c3 (zBI c4 (zBq c5))))
theorem zBw{b:Gt.Kr}(h:Once b):(sortT b).Pairwise λx y=>x.ref<y.ref:=by
 have h1:(sortT b).Pairwise λx y=>x.ref≠y.ref:=(zyB b).symm.pairwise h.pair λ{x y} hxy=>Ne.symm hxy;have h2:=zz4 b;refine List.Pairwise.imp₂ (λ{x y} a c=>?_) h1 h2;rcases (List.le_iff_lt_or_eq).1 (show x.ref<=y.ref from c) with h3|h3;·exact h3
 ·exact absurd h3 a
theorem zBh{b:Gt.Kr}{r:By}:zbm b r↔∃c∈b.Kc,c.ref=r:=by
 constructor
 ·rintro ⟨k,hk,e⟩
  rw[zcU hk] at e;exact ⟨_,yAy hk,e⟩
 ·rintro ⟨c,hc,e⟩
  obtain ⟨j,hj,rfl⟩:=yBH hc;exact ⟨j,hj,(zcU hj).trans e⟩
theorem zBc(b:Gt.Kr)(r:By):znV (zAs b) r=znV b r:=by
 rw[yBC,zj0,zj0,zBh,zBh];constructor
 ·rintro ⟨c,hc,e⟩
  obtain ⟨d,hd,rfl⟩:=zAh.1 (show c∈sortT b from hc);exact ⟨d,hd,e⟩
 ·rintro ⟨d,hd,e⟩
  exact ⟨zyu d,zAh.2 ⟨d,hd,rfl⟩,e⟩
theorem zBg{b:Gt.Kr}{w:Bool}(h:zzs false b=0)(ho:Once b):zzs w (zAs b)=0:=by
 have hok:=(zzh h).2.2;unfold zzs at h;obtain ⟨h1,h⟩:=zc5 (by decide) h;obtain ⟨h2,h⟩:=zc5 (by decide) h;obtain ⟨h3,h⟩:=zni h;obtain ⟨h4,h⟩:=zc5 (by decide) h;have hl:=zz3 b;have he:=zzY b.Kn;refine zA8 h1 (zA8 ?_ (zBI (zBk λk hk=>?_) (zA8 ?_ (zBk λk hk=>?_))))
 ·show (bif decide (3000<len (sortT b)) then true else decide (20000<len (zyJ b.Kn)))=false;cases h5:decide (3000<len b.Kc) with
  |true=>rw[h5] at h2;cases h2|false =>rw[h5] at h2;have h6:=of_decide_eq_false h5;have h7:=of_decide_eq_false (show decide (20000<len b.Kn)=false from h2);unfold len at h6 h7 ⊢;rw[decide_eq_false (by omega),cond_false,decide_eq_false (by omega)]
 ·unfold zyr;obtain ⟨d,hd,e⟩:=zAh.1 (zA4 noC (show k<(sortT b).length from hk)).1;have hz:zyL w ((zAs b).Kc.getD k noC)=0:=by
   show zyL w ((sortT b).getD k noC)=0;rw[<-e];exact zBD (hok d hd)
  exact zBI hz (zA8 (zBf (l:=sortT b) (r:=λx y=>leS x.ref y.ref) noC hk (zBw ho) λx y hxy=>zBP hxy) rfl)
 ·show (!znV (zAs b) b.root)=false;rw[zBc];exact h4
 ·obtain ⟨j,hj,e⟩:=yBH (((zzb b.Kn).2 _).1 (zA4 noE (show k<(zyJ b.Kn).length from hk)).1);have:=zsV h hj;unfold zAQ at this ⊢;rw[(zA4 noE hj).2,e] at this;obtain ⟨e1,this⟩:=zc5 (by decide) this;obtain ⟨e2,this⟩:=zc5 (by decide) this;obtain ⟨e3,this⟩:=zc5 (by decide) this;refine zA8 e1 (zA8 ?_ (zA8 e3 (zA8 ?_ rfl)));·rw[zBc,zBc];exact e2
  ·exact zBf (l:=zyJ b.Kn) (r:=λx y=>decide (0<=zpV y x)) noE hk (zzb b.Kn).1 λx y hxy=>decide_eq_false (by omega)
theorem zBJ{b:Gt.Kr}:Once b↔b.Kc.Pairwise λx y=>x.ref≠y.ref:=by
 rw[yAH];constructor;·intro h i j hi hj hij;have:=h i j hij hj;rwa[zcU hi,zcU hj] at this
 ·intro h i j hij hj;rw[zcU (by omega),zcU hj];exact h i j (by omega) hj hij
theorem zBG{b:Gt.Kr}(ho:Once b):Once (zAs b) :=
 zBJ.2 (show (sortT b).Pairwise λx y=>x.ref≠y.ref from by refine (zBw ho).imp ?_;intro x y h e;rw[e] at h;exact yBn _ h)
theorem zBo(c:Gt.Kb):zyu (zyu c)=zyu c:=by show Gt.Kb.mk c.ref (zyD (zyD c.purl)) c.K2 c.Kv (zyq (zyq c.files))=_;rw[zBt,znA zly (zza (zyq c.files)) (zza c.files) λx=>zzV];rfl
theorem zBd{l:List Gt.Kw}(h:zpW zpV l):zyJ l=l:=znA zyv (zzb l).1 h (zzb l).2
theorem zBF(b:Gt.Kr):zAs (zAs b)=zAs b:=by
 have h1:(sortT b).map zyu=sortT b:=(List.map_congr_left (λc hc=>by obtain ⟨d,_,rfl⟩:=zAh.1 hc;exact zBo d)).trans (List.map_id _);have h2:sortT (zAs b)=sortT b:=by show ((sortT b).map zyu).mergeSort (λx y=>decide (x.ref<=y.ref))=_;rw[h1];exact List.mergeSort_of_pairwise ((zz4 b).imp λ{x y} h=>decide_eq_true (show x.ref<=y.ref from h))
 show Gt.Kr.mk b.name b.Km b.root (sortT (zAs b)) (zyJ (zyJ b.Kn))=_;rw[h2,zBd (zzb b.Kn).1];rfl
theorem zBQ{α:Type}{c:α->α->Int}(h:OrdAll c){l:List α}(ha:∀k (hk:k+1<l.length),c l[k] l[k+1]<0):zpW c l:=by
 unfold zpW;rw[yAH];intro i j hi hj hij;obtain ⟨m,rfl⟩:∃m,j=i+1+m:=⟨j - i - 1,by omega⟩;clear hij;induction m with
 |zero=>exact ha i hj|succ m ih=>exact h.trans _ _ _ (ih (by omega)) (ha (i+1+m) hj)
theorem zBr{b:Gt.Kr}(h:zfo b=0):zpW zpV b.Kn:=by rw[<-zBn] at h;unfold zzs at h;obtain ⟨h1,h⟩:=zc5 (by decide) h;obtain ⟨h2,h⟩:=zc5 (by decide) h;obtain ⟨h3,h⟩:=zni h;obtain ⟨h4,h⟩:=zc5 (by decide) h;refine zBQ zyv λk hk=>?_;have:=zsV h hk;unfold zAQ at this;obtain ⟨e1,this⟩:=zc5 (by decide) this;obtain ⟨e2,this⟩:=zc5 (by decide) this;obtain ⟨e3,this⟩:=zc5 (by decide) this;have e4:=(zc5 (by decide) this).1;rw[cond_true,show decide (0<((k+1:Nat):Int))=true from decide_eq_true (by omega),cond_true,(zA4 noE hk).2,yCf,(zA4 noE (show k<b.Kn.length by omega)).2] at e4;have:=of_decide_eq_false e4;omega
theorem zBM{b:Gt.Kr}(hb:SmB b)(h:zzs false b=0):SmB (zAs b):=⟨hb.name,hb.Km,λc hc=>by obtain ⟨d,hd,rfl⟩:=zAh.1 (show c∈sortT b from hc);have h1:=hb.comps d hd;have h2:=zzX d.files;exact ⟨h1.ref,h1.lic,h1.quals,h1.digs,λf hf=>h1.files f (zzV.1 hf),h1.dl,yAo h2 h1.fl⟩⟩
open Classical in
theorem L13{n:Nat}(hn:220<=n){b:Gt.Kr}(hb:SmB b):m13 (zah n) b=some (true,()):=by
 obtain ⟨n,rfl⟩:∃k,n=k+220:=⟨n - 220,by omega⟩;unfold m13;rw[L52 (by omega) hb,L53 (by omega) hb,L40 (by omega) hb,L19 (by omega)];simp only[zaa];by_cases h0:(zzd b).2=0
 ·rw[show ((zzd b).2 != 0)=false from by rw[h0];rfl,zab];have hz:zzs false b=0/\Once b:=by
   unfold zzd at h0;split at h0;·exact absurd h0 ‹_›
   ·rename_i h1;split at h0;·exact ⟨by simpa using h1,‹_›⟩
    ·cases h0
  have ht:zzd b=(zAs b,0):=by unfold zzd;rw[if_neg (by simpa using hz.1),if_pos hz.2]
  have ht2:zzd (zAs b)=(zAs b,0):=by unfold zzd;rw[if_neg (by simpa using zBg (w:=false) hz.1 hz.2),if_pos (zBG hz.2),zBF]
  have hs:=zBM hb hz.1;rw[ht];dsimp only;rw[L52 (by omega) hs,L40 (by omega) hs,ht2,<-zBn (zAs b),zBg (w:=true) hz.1 hz.2,zaa];dsimp only;rw[show ((0:Int) != 0)=false from rfl,zab,zAP (n+217) hz.1,zaa];simp only[zaa,yBS,zab];by_cases h1:zfo b=0;·rw[show (zfo b != 0)=false from by rw[h1];rfl,zab,show (zAs b).Kn=b.Kn from zBd (zBr h1),show @Eq (Option (Bool×J)) ((zah (n+220)).d 55 [.sl (.st 7) b.Kn,.sl (.st 7) b.Kn] [.bool]) (some (true,())) from (q55 (n+219) _ _).trans (m55_same _ (by have:=(zzh hz.1).2.1;omega)),zaa];dsimp only;rw[zac,show (len b.Kc==len (zAs b).Kc)=true from by rw[show len (zAs b).Kc=len b.Kc from congrArg Int.ofNat (zz3 b)];simp];rfl
  ·rw[show (zfo b != 0)=true from by simpa using h1,zac];rfl
 ·rw[show ((zzd b).2 != 0)=true from by simpa using h0,zac,beq_self_eq_true,zac];rfl
end Pe.Tryz
end
