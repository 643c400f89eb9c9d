/- PROVED HERE: a part of the seat's proofs; see the text that holds the claim's theorem. -/
import Derived.Test.YtojfjgjdheiffaaGreatDoorNm
import Derived.Test.YtojfjgjdheiffaaGreatDoorBoB
import Derived.Test.YtojfjgjdheiffaaGreatDoorBoI
import Derived.Test.YtojfjgjdheiffaaGreatDoorBoG
section
/- All paths from the root, the shorter ones first: the beginnings of the program. -/
set_option maxRecDepth 100000
namespace Pe.Tryz
open Go Go.Proofs Pe Pe.Bfs Go.Proofs.YtojfjgjdheiffaaGreatDoor
def zyy(p:List Nat):Nat:=p.getLastD 0
def zyw(p js:List Nat):List (List Nat):=(js.filter λj=>decide (j∉p)).map λj=>p++[j]
def idl(N:List (List Nat))(i:Nat)(most:Int):Nat->Nat->List (List Nat)->List (List Nat)->Option (List (List Nat))
 |0,_,_,_=>none|f+1,k,PL,out=>match PL[k]? with
   |none=>some out
   | some p=>if k=200000 then none else
     if zyy p=i then if (out.length:Int)+1=most then some (out++[p]) else idl N i most f (k+1) (PL++zyw p (row N (zyy p))) (out++[p])
     else idl N i most f (k+1) (PL++zyw p (row N (zyy p))) out
def Shape(n:Nat)(PL:List (List Nat)):Prop:=∀(j:Nat) p,PL[j]?=some p->p≠[]/\p.length<=j+1/\∀x∈p,x<n
theorem zyN{p:List Nat}(h:p≠[]):zyy p∈p:=by unfold zyy;rw[List.getLastD_eq_getLast?,List.getLast?_eq_some_getLast h];exact List.getLast_mem h
theorem zy3(q:List Nat)(x:Nat):zyy (q++[x])=x:=by simp[zyy]
theorem zyM{p js:List Nat}{j:Nat}:zyw p (j::js)=if j∈p then zyw p js else (p++[j])::zyw p js:=by
 unfold zyw;rw[List.filter_cons];by_cases h:j∈p;·rw[if_pos h,if_neg (by simpa using h)]
 ·rw[if_neg h,if_pos (by simpa using h)];rfl
theorem Shape.step{n:Nat}{PL:List (List Nat)}{N:List (List Nat)}(hN:∀i,∀j∈row N i,j<n){k:Nat}{p:List Nat}(h:Shape n PL)(hp:PL[k]?=some p):Shape n (PL++zyw p (row N (zyy p))):=by
 intro j q hq;by_cases hlt:j<PL.length;·rw[yAk hlt] at hq;exact h j q hq
 ·rw[yAF (by omega)] at hq;have hm:=yAb hq;unfold zyw at hm;obtain ⟨x,hx,rfl⟩:=yBw.1 hm;obtain ⟨h1,h2,h3⟩:=h k p hp;have hk:=(yAc.1 hp).1;refine ⟨by simp,by simp;omega,λy hy=>?_⟩;rcases yAp.1 hy with hy|hy;·exact h3 y hy
  ·obtain rfl:=yBp.1 hy;exact hN _ _ (yAO.1 hx).1
structure Bg (L:List (Int×Int)) (PL:List (List Nat)):Prop where
 len:L.length=PL.length
 at':∀(j:Nat) p,PL[j]?=some p->∃x:Nat,(L[j]?=some ((x:Int), -1)/\p=[x])\/∃(m:Nat) (q:List Nat),m<j/\L[j]?=some ((x:Int),(m:Int))/\PL[m]?=some q/\p=q++[x]
theorem Bg.last{L:List (Int×Int)}{PL:List (List Nat)}(h:Bg L PL){j:Nat}{p:List Nat}(hp:PL[j]?=some p):∃b,L[j]?=some ((zyy p:Int),b):=by
 obtain ⟨x,⟨h1,rfl⟩|⟨m,q,_,h1,_,rfl⟩⟩:=h.at' j p hp;·exact ⟨_,h1⟩
 ·rw[zy3];exact ⟨_,h1⟩
theorem Bg.push{L:List (Int×Int)}{PL:List (List Nat)}(h:Bg L PL){k:Nat}{p:List Nat}(hp:PL[k]?=some p)(j:Nat):Bg (L++[((j:Int),(k:Int))]) (PL++[p++[j]]):=by
 have hk:=(yAc.1 hp).1;refine ⟨by simp[h.len],λm q hq=>?_⟩;by_cases hlt:m<PL.length
 ·rw[yAk hlt] at hq;obtain ⟨x,⟨h1,rfl⟩|⟨m',q',h0,h1,h2,rfl⟩⟩:=h.at' m q hq;·exact ⟨x,.inl ⟨by rw[yAk (by rw[h.len];exact hlt)];exact h1,rfl⟩⟩
  ·exact ⟨x,.inr ⟨m',q',h0,by rw[yAk (by rw[h.len];exact hlt)];exact h1,by rw[yAk (by omega)];exact h2,rfl⟩⟩
 ·have hl:=(yAc.1 hq).1;obtain rfl:m=PL.length:=by simp at hl;omega
  simp at hq;subst hq;exact ⟨j,.inr ⟨k,p,hk,by rw[<-h.len];simp,by rw[yAk hk];exact hp,rfl⟩⟩
theorem Bg.whole{L:List (Int×Int)}{PL:List (List Nat)}(h:Bg L PL):∀(f j:Nat)(p:List Nat),PL[j]?=some p->j+1<f->zyF L f (j:Int)=some (ofN p).reverse:=by
 intro f;induction f with
 |zero=>intro j p _ hf;omega
 |succ f ih =>
   intro j p hp hf;rw[zyF,if_pos (by omega),zcV];obtain ⟨x,⟨h1,rfl⟩|⟨m,q,h0,h1,h2,rfl⟩⟩:=h.at' j p hp;·rw[h1];obtain ⟨f',rfl⟩:∃f',f=f'+1:=⟨f - 1,by omega⟩;simp only[yAB];rw[zyF,if_neg (by omega)];rfl
   ·rw[h1];simp only[yAB];rw[ih m q h2 (by omega)];simp[ofN]
theorem m116_eq'(orc:Orc Sx){L:List (Int×Int)}{PL:List (List Nat)}(h:Bg L PL){j:Nat}{p:List Nat}(hp:PL[j]?=some p)(x:Nat):m116 orc (toB L) (j:Int) (x:Int)=some (decide (x∈p),()):=by
 unfold m116;have key:∀(n j:Nat)(p:List Nat),j<=n->PL[j]?=some p->∀F:Int×Unit->Option ((Int×Unit)⊕(Unit⊕(Bool×Unit))),(∀t1,F t1=(br (decide (0<=t1.1)) (ob (at? (toB L) t1.1) λy2=>br ((Gt.Bom_beginning.last y2)==(x:Int)) (some (.inr (.inr (true,())))) (ob (at? (toB L) t1.1) λy3=>some (.inl (Gt.Bom_beginning.before y3,())))) (some (.inr (.inl (()))))))->zak F ((j:Int),())=some (if x∈p then .inr (true,()) else .inl ()):=by
  intro n;induction n with
  |zero =>
    intro j p hj hp F hF;obtain rfl:j=0:=by omega
    obtain ⟨y,⟨h1,rfl⟩|⟨m,q,h0,_⟩⟩:=h.at' 0 p hp
    ·have ha:at? (toB L) ((0:Nat):Int)=some ⟨(y:Int), -1⟩:=(by rw[zcV,toB,yAh,h1];rfl);by_cases hxy:x=y;·subst hxy;rw[if_pos (by simp)];refine zaD ?_;rw[hF];dsimp only;rw[ha];simp only[zaa];rw[show decide ((0:Int)<=((0:Nat):Int))=true from rfl,zac,show ((x:Int)==(x:Int))=true from by simp,zac]
     ·rw[if_neg (by simpa using hxy),zaR (y:=((-1:Int),())) (by
       rw[hF];dsimp only;rw[ha];simp only[zaa];rw[show decide ((0:Int)<=((0:Nat):Int))=true from rfl,zac,show ((y:Int)==(x:Int))=false from by simp;omega,zab])]
      refine zaD ?_;rw[hF];rfl
    ·omega
  |succ n ih =>
    intro j p hj hp F hF;have h0j:decide ((0:Int)<=(j:Int))=true:=by simp
    obtain ⟨y,⟨h1,rfl⟩|⟨m,q,h0,h1,h2,rfl⟩⟩:=h.at' j p hp
    ·have ha:at? (toB L) (j:Int)=some ⟨(y:Int), -1⟩:=(by rw[zcV,toB,yAh,h1];rfl);by_cases hxy:x=y;·subst hxy;rw[if_pos (by simp)];refine zaD ?_;rw[hF];dsimp only;rw[ha];simp only[zaa];rw[h0j,zac,show ((x:Int)==(x:Int))=true from by simp,zac]
     ·rw[if_neg (by simpa using hxy),zaR (y:=((-1:Int),())) (by
       rw[hF];dsimp only;rw[ha];simp only[zaa];rw[h0j,zac,show ((y:Int)==(x:Int))=false from by simp;omega,zab])]
      refine zaD ?_;rw[hF];rfl
    ·have ha:at? (toB L) (j:Int)=some ⟨(y:Int),(m:Int)⟩:=(by rw[zcV,toB,yAh,h1];rfl);by_cases hxy:x=y;·subst hxy;rw[if_pos (by simp)];refine zaD ?_;rw[hF];dsimp only;rw[ha];simp only[zaa];rw[h0j,zac,show ((x:Int)==(x:Int))=true from by simp,zac]
     ·rw[zaR (y:=((m:Int),())) (by
       rw[hF];dsimp only;rw[ha];simp only[zaa];rw[h0j,zac,show ((y:Int)==(x:Int))=false from by simp;omega,zab]),ih m q (by omega) h2 F hF]
      by_cases hq:x∈q;·rw[if_pos hq,if_pos (by simp[hq])]
      ·rw[if_neg hq,if_neg (by simp[hq,hxy])]
 rw[key j j p (yAi _) hp _ λ_=>rfl];by_cases hx:x∈p;·rw[if_pos hx,zaU];simp[hx]
 ·rw[if_neg hx,zaj];simp[hx]
theorem zyH{α:Type}(n:Nat)(a b:List α):(a.take n++b).take n=(a++b).take n:=by
 by_cases h:a.length<=n;·rw[yA7 h]
 ·rw[List.take_append_of_le_length (by simp;omega),List.take_take,Nat.min_self,List.take_append_of_le_length (by omega)]
theorem zzC{has:List (Int×Int)->Int->Int->Option Bool}{k:Nat}{p:List Nat}(hh:∀L PL,Bg L PL->PL[k]?=some p->∀j:Nat,has L k j=some (decide (j∈p))) :
  ∀(js:List Nat)(L:List (Int×Int))(PL:List (List Nat)),Bg L PL->PL.length<=200001->PL[k]?=some p->∃L',zzb has k (ofN js) L=some L'/\Bg L' ((PL++zyw p js).take 200001):=by
 intro js;induction js with
 |nil=>intro L PL hB hl hp;exact ⟨L,rfl,by rw[show zyw p []=[] from rfl,yAR,yA7 hl];exact hB⟩
 |cons j js ih =>
   intro L PL hB hl hp;show ∃L',zzb has k ((j:Int)::ofN js) L=some L'/\_;rw[zzb];by_cases hm:200000<L.length;·rw[if_pos hm];refine ⟨L,rfl,?_⟩;rw[List.take_append_of_le_length (by rw[<-hB.len];omega),yA7 (by omega)];exact hB
   ·rw[if_neg hm,hh L PL hB hp j];by_cases hj:j∈p;·rw[show decide (j∈p)=true from by simpa using hj];obtain ⟨L',h1,h2⟩:=ih L PL hB hl hp;exact ⟨L',h1,by rw[zyM,if_pos hj];exact h2⟩
    ·rw[show decide (j∈p)=false from by simpa using hj];have hk:=(yAc.1 hp).1;have hl':=hB.len;obtain ⟨L',h1,h2⟩:=ih _ _ (hB.push hp j) (by simp;omega) (by rw[yAk hk];exact hp);exact ⟨L',h1,by rw[zyM,if_neg hj];simpa using h2⟩
theorem zzy{N:List (List Nat)}(hN:Web N){i:Nat}{most:Int}{has:List (Int×Int)->Int->Int->Option Bool}{path:List (Int×Int)->Int->Option (List By)}{R:List Nat->List By}
  (hh:∀(k:Nat) p L PL,Bg L PL->PL[k]?=some p->∀j:Nat,has L k j=some (decide (j∈p)))
  (hp:∀(k:Nat) p L PL,k<200000->Bg L PL->PL[k]?=some p->p.length<=200000->(∀x∈p,x<N.length)->path L k=some (R p)) :
  ∀(f k:Nat)(PL out:List (List Nat))(L:List (Int×Int)),Bg L (PL.take 200001)->Shape N.length PL->k<=200000->200001<=f+k ->
   goS has path (za6 N) (i:Int) most f k L (out.map R)=some ((idl N i most f k PL out).map λl=>l.map R):=by
 intro f;induction f with
 |zero=>intro k PL out L _ _ h1 h2;omega
 |succ f ih =>
   intro k PL out L hB hS h1 h2;rw[goS,idl];have hkk:(PL.take 200001)[k]?=PL[k]? :=yAt (by omega);cases hPk:PL[k]? with
   |none =>
     rw[hPk] at hkk;have:L[k]?=none:=by rw[List.getElem?_eq_none_iff,hB.len];exact List.getElem?_eq_none_iff.1 hkk
     rw[this];rfl
   |some p =>
     rw[hPk] at hkk;obtain ⟨bf,hL⟩:=hB.last hkk;rw[hL];dsimp only;by_cases hk:k=200000;·rw[if_pos hk,if_pos hk];rfl
     ·rw[if_neg hk,if_neg hk];obtain ⟨s1,s2,s3⟩:=hS k p hPk;have hlt:zyy p<N.length:=s3 _ (zyN s1);obtain ⟨L',ha,hB'⟩:=zzC (hh k p) (row N (zyy p)) L _ hB (by simp;omega) hkk;rw[zyH] at hB';have hS':=hS.step hN.lt hPk;have hrow:Nat.ble (ofN (row N (zyy p))).length lim=true:=by
       have:=hN.rows (zyy p);rw[yAK];unfold ofN lim;rw[yBi];omega
      have hgo:∀vs',((at? (za6 N) (zyy p:Int)).bind λrow=>bif Nat.ble row.length lim then (zzb has k row L).bind λL'=>goS has path (za6 N) (i:Int) most f (k+1) L' vs' else none)=goS has path (za6 N) (i:Int) most f (k+1) L' vs':=λvs'=>by rw[zjl hlt];simp only[yAB,hrow,cond_true,ha]
      simp only[hgo];by_cases hi:zyy p=i
      ·rw[if_pos hi,if_pos (by rw[hi]),hp k p L _ (by omega) hB hkk (by omega) s3];simp only[yAB,yBi];by_cases hm:(out.length:Int)+1=most;·rw[if_pos hm,if_pos hm];simp
       ·rw[if_neg hm,if_neg hm];have:=ih (k+1) _ (out++[p]) L' hB' hS' (by omega) (by omega);simpa using this
      ·rw[if_neg hi,if_neg (show ¬((zyy p:Int)=(i:Int)) from by omega)];exact ih (k+1) _ out L' hB' hS' (by omega) (by omega)
end Pe.Tryz
end
section
/- Paths of both sides. -/
set_option maxRecDepth 100000
namespace Pe.Tryz
open Go Go.Proofs Pe Pe.Bfs Go.Proofs.YtojfjgjdheiffaaGreatDoor
variable{chk:Gt.Bill->Int}{orc:Orc Sx}
noncomputable def zyS(b:Gt.Bill)(scope:Int)(i:Nat)(most:Int):Option (List (List Nat)):=idl (outs b scope) i most zyA 0 [[num b b.root]] []
noncomputable def zyI(b:Gt.Bill)(scope:Int)(i:Nat)(most:Int):List (List By)×Int :=
 if most<1\/1000<most then ([],9) else match zyS b scope i most with|none=>([],12)|some l=>(l.map (zbd b),0)
theorem zy0{n r:Nat}(h:r<n):Shape n [[r]]:=by
 intro j p hp;cases j with
 |zero=>simp at hp;subst hp;exact ⟨by simp,by simp,by simpa using h⟩|succ j=>simp at hp
theorem m29_eq'{b:Gt.Bill}{orc':Orc Sx}(K:GrO chk orc b)(h116:∀(L:List Gt.Bom_beginning)(k j:Int),orc.d 116 [.sl (.st 12) L,.int .i64 k,.int .i64 j] [.bool]=(m116 orc' L k j:Option (Bool×Unit)))(r:By)(scope most:Int) :
  (za5 chk b r scope=0->m29 orc b r scope most=some ((zyI b scope (num b r) most).1,(zyI b scope (num b r) most).2,()))/\(za5 chk b r scope≠0->m29 orc b r scope most=some ([],za5 chk b r scope,())):=by
 refine ⟨λhe=>?_,λhe=>?_⟩
 ·obtain ⟨hb,hr⟩:=zjc K he;obtain ⟨w1,w2,w3,w4,w5⟩:=hb.web scope;have hrt:=(hb.num_lt hb.root).1;unfold m29;rw[(K.h56 r scope).1 he,zaa]
  have hgo:=zzy (N:=outs b scope) w1 (i:=num b r) (most:=most) (has:=zzm orc) (path:=zyT orc (zc3 b scope)) (R:=zbd b)
   (λk p L PL hB hp j=>by unfold zzm;rw[h116,m116_eq' orc' hB hp j];rfl)
   (λk p L PL hk hB hp hl hn=>by unfold zyT;rw[hB.whole zyA k p hp (by unfold zyA;omega)];simp only[yAB,List.reverse_reverse];rw[K.h59 b scope p hb (λi hi=>by rw[<-w3];exact hn i hi) (by omega)];rfl)
   zyA 0 [[num b b.root]] [] [((num b b.root:Int), -1)]
   (by rw[yA7 (by simp)];exact ⟨rfl,λj p hp=>by
    cases j with
    |zero=>simp at hp;subst hp;exact ⟨num b b.root,.inl ⟨rfl,rfl⟩⟩|succ j=>simp at hp⟩)
   (zy0 (by rw[w3];exact hrt)) (by omega) (by unfold zyA;omega)
  unfold zyL;rw[if_pos rfl];unfold zyI zyS;by_cases hm:most<1\/1000<most;·rw[if_pos hm,if_pos hm];rfl
  ·rw[if_neg hm,if_neg hm];have hgo:goS (zzm orc) (zyT orc (zc3 b scope)) (zc3 b scope).out (num b r:Int) most zyA 0 [((zc3 b scope).root, -1)] []=some ((idl (outs b scope) (num b r) most zyA 0 [[num b b.root]] []).map λl=>l.map (zbd b)):=hgo;rw[hgo];cases idl (outs b scope) (num b r) most zyA 0 [[num b b.root]] []<;>rfl
 ·unfold m29;obtain ⟨g,k,hg⟩:=(K.h56 r scope).2 he;rw[hg,zaa];unfold zyL;rw[if_neg he];rfl
end Pe.Tryz
end
section
/- Path and Paths: the law. -/
set_option maxRecDepth 100000
namespace Pe.Tryz
open Go Go.Proofs Pe Pe.Bfs Go.Proofs.YtojfjgjdheiffaaGreatDoor
variable{chk:Gt.Bill->Int}{orc:Orc Sx}
theorem zzf{σ R:Type}{f:σ->Option (σ⊕R)}(mk:Nat->σ)(n:Nat)(r:R)(h:∀k,k<n->f (mk k)=some (.inl (mk (k+1))))(he:f (mk n)=some (.inr r)){x:σ}(hx:x=mk 0):zak f x=some r:=by
 subst hx;exact zby (A:=Unit) (λk _=>mk k) n (λ_ _=>r) (λ_ _=>True) (λk _ hk _=>by
  by_cases hlt:k<n;·exact .inl ⟨(),hlt,h k hlt,trivial,rfl⟩
  ·right;rw[show k=n by omega];exact he) 0 () (yAA _) trivial
theorem zy4{N:List (List Nat)}(hN:Web N){i:Nat}{most:Int}:∀(f k:Nat)(PL out:List (List Nat))(l:List (List Nat)),Shape N.length PL->out.length<=k->k<=200000->(∀p∈out,p.length<=200001)->idl N i most f k PL out=some l->l.length<=200001/\∀p∈l,p.length<=200001:=by
 intro f;induction f with
 |zero=>intro k PL out l _ _ _ _ h;cases h
 |succ f ih =>
   intro k PL out l hS ho hk hs h;rw[idl] at h;cases hp:PL[k]? with
   |none=>rw[hp] at h;cases h;exact ⟨by omega,hs⟩|some p =>
     rw[hp] at h;dsimp only at h;by_cases h0:k=200000;·rw[if_pos h0] at h;cases h
     ·rw[if_neg h0] at h;have hpl:=(hS k p hp).2.1;have hs':∀q∈out++[p],q.length<=200001:=λq hq=>by
       rcases yAp.1 hq with hq|hq;·exact hs q hq
       ·obtain rfl:=yBp.1 hq;omega
      by_cases hi:zyy p=i
      ·rw[if_pos hi] at h;by_cases hm:(out.length:Int)+1=most;·rw[if_pos hm] at h;cases h;exact ⟨by simp;omega,hs'⟩
       ·rw[if_neg hm] at h;exact ih _ _ _ _ (hS.step hN.lt hp) (by simp;omega) (by omega) hs' h
      ·rw[if_neg hi] at h;exact ih _ _ _ _ (hS.step hN.lt hp) (by omega) (by omega) hs h
theorem q29(n:Nat)(b:Gt.Bill)(to:By)(scope most:Int): @Eq (Option (List (List By)×Int×Unit)) ((zah (n+1)).d 29 [.st 3 b,.str to,.int .i64 scope,.int .i64 most] [.sl LS,I6]) (m29 (zah n) b to scope most):=by kernel_rfl
end Pe.Tryz
end
