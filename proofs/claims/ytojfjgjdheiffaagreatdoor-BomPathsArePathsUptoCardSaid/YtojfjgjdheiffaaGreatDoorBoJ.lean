/- PROVED HERE: a part of the seat's proofs; see the text that holds the claim's theorem. -/
import Derived.Test.YtojfjgjdheiffaaGreatDoorNm
import Derived.Test.YtojfjgjdheiffaaGreatDoorBoG
import Derived.Test.YtojfjgjdheiffaaGreatDoorBoR
section
/- Needs and NeededBy of both sides. -/
set_option maxRecDepth 100000
namespace Pe.Tryz
open Go Go.Proofs Pe Pe.Bfs
variable{chk:Gt.Bill->Int}{orc:Orc Sx}
theorem m22_eq'{b:Gt.Bill}(K:GrO chk orc b)(r:By)(scope:Int) :
  (za5 chk b r scope=0->m22 orc b r scope=some (zbd b (row (outs b scope) (num b r)),0,()))/\(za5 chk b r scope≠0->m22 orc b r scope=some ([],za5 chk b r scope,())):=by
 refine ⟨λhe=>?_,λhe=>?_⟩;·obtain ⟨hb,hr⟩:=zjc K he;obtain ⟨w1,w2,w3,w4,w5⟩:=hb.web scope;have ht:=(hb.num_lt hr).1;unfold m22;rw[(K.h56 r scope).1 he,zaa];dsimp only;rw[show ((0:Int) != 0)=false from rfl,zab,show (zc3 b scope).out=za6 (outs b scope) from rfl,zjl (by rw[w3];exact ht),zaa,K.h59 b scope _ hb (λi hi=>by rw[<-w3];exact w1.lt _ i hi) (w1.rows _),zaa]
 ·obtain ⟨g,k,hg⟩:=(K.h56 r scope).2 he;unfold m22;rw[hg,zaa];dsimp only;rw[show (za5 chk b r scope != 0)=true from by simpa using he,zac]
end Pe.Tryz
end
section
/- All simple paths from the root, in order: what the list of beginnings keeps. -/
set_option maxRecDepth 100000
namespace Pe.Tryz
open Pe Pe.Bfs
inductive Pth (N:List (List Nat)) (r:Nat):List Nat->Prop
 |one:Pth N r [r]
 |go {p:List Nat} {j:Nat}:Pth N r p->j∈row N (zyy p)->j∉p->Pth N r (p++[j])
def lx(p q:List Nat):Prop:=∃c a b u v,p=c++a::u/\q=c++b::v/\a<b
def Bef(p q:List Nat):Prop:=p.length<q.length\/(p.length=q.length/\lx p q)
theorem zzS{p:List Nat}:¬lx p p:=by
 rintro ⟨c,a,b,u,v,h1,h2,h3⟩
 have:=List.append_cancel_left (h1.symm.trans h2);injection this;omega
theorem Bef.ne{p q:List Nat}(h:Bef p q):p≠q:=by
 rintro rfl
 rcases h with h|⟨_,h⟩;·omega
 ·exact zzS h
theorem Bef.le{p q:List Nat}(h:Bef p q):p.length<=q.length:=by rcases h with h|⟨h,_⟩<;>omega
theorem Bef.app{p q:List Nat}(h:Bef p q)(x y:Nat):Bef (p++[x]) (q++[y]):=by
 rcases h with h|⟨h,c,a,b,u,v,rfl,rfl,h3⟩;·exact .inl (by simpa using h)
 ·exact .inr ⟨by simpa using h,c,a,b,u++[x],v++[y],by simp,by simp,h3⟩
theorem Bef.same{p:List Nat}{x y:Nat}(h:x<y):Bef (p++[x]) (p++[y]):= .inr ⟨by simp,p,x,y,[],[],rfl,rfl,h⟩
section
variable{N:List (List Nat)}{r t:Nat}
theorem Pth.ne{p:List Nat}(h:Pth N r p):p≠[]:=by cases h<;>simp
theorem Pth.head{p:List Nat}(h:Pth N r p):p[0]?=some r:=by
 induction h with
 |one=>rfl|go h _ _ ih=>rw[yAk (List.length_pos_iff.2 h.ne)];exact ih
theorem Pth.edge{p:List Nat}(h:Pth N r p):∀k (hk:k+1<p.length),p[k+1]∈row N p[k]/\p[k+1]∉p.take (k+1):=by
 induction h with
 |one=>intro k hk;simp at hk
 |@go p j h h2 h3 ih =>
   intro k hk;by_cases hlt:k+1<p.length;·rw[List.getElem_append_left hlt,List.getElem_append_left (by omega),List.take_append_of_le_length (by omega)];exact ih k hlt
   ·have hl:k+1=p.length:=(by simp at hk;omega);have h0:=List.length_pos_iff.2 h.ne;have e1:(p++[j])[k+1]=j:=(by rw[List.getElem_append_right (by omega)];simp);have e2:(p++[j])[k]'(by omega)=p[k]'(by omega):=List.getElem_append_left (by omega);rw[e1,e2,List.take_append_of_le_length (by omega),hl,List.take_length];refine ⟨?_,h3⟩;have e:zyy p=p[k]:=(by unfold zyy;rw[List.getLastD_eq_getLast?,List.getLast?_eq_getElem?,yAe (by omega)];simp only[yB8];congr 1;omega);rw[<-e];exact h2
theorem Pth.lt{n:Nat}{p:List Nat}(h:Pth N r p)(hr:r<n)(hn:∀i,∀j∈row N i,j<n):∀x∈p,x<n:=by
 induction h with
 |one=>simpa using hr|go h h2 _ ih =>
   intro x hx;rcases yAp.1 hx with hx|hx;·exact ih x hx
   ·simp at hx;subst hx;exact hn _ _ h2
structure Iv (N:List (List Nat)) (r t k:Nat) (PL out:List (List Nat)):Prop where
 first:[r]∈PL
 pth:∀p∈PL,Pth N r p
 ord:PL.Pairwise Bef
 fr:∀q∈PL,q=[r]\/∃m p j,m<k/\PL[m]?=some p/\q=p++[j]
 clo:∀m p,m<k->PL[m]?=some p->∀j∈row N (zyy p),j∉p->p++[j]∈PL
 out:out=(PL.take k).filter λp=>decide (zyy p=t)
theorem zzE{p js q:List Nat}:q∈zyw p js↔∃j∈js,j∉p/\q=p++[j]:=by
 unfold zyw;simp only[yBw,yAO,decide_eq_true_eq];constructor
 ·rintro ⟨j,⟨h1,h2⟩,rfl⟩;exact ⟨j,h1,h2,rfl⟩
 ·rintro ⟨j,h1,h2,rfl⟩;exact ⟨j,⟨h1,h2⟩,rfl⟩
theorem Iv.start:Iv N r t 0 [[r]] [] :=
 ⟨by simp,λp hp=>by simp at hp;subst hp;exact .one,by simp,λq hq=>.inl (by simpa using hq),λm p hm=>by omega,by simp⟩
theorem Iv.step(hs:∀i,(row N i).Pairwise (· < ·)){k:Nat}{PL out:List (List Nat)}(h:Iv N r t k PL out){p:List Nat}(hp:PL[k]?=some p) :
  Iv N r t (k+1) (PL++zyw p (row N (zyy p))) (if zyy p=t then out++[p] else out):=by
 obtain ⟨hk,hpk⟩:=yAc.1 hp;have hP:=h.pth p (yAb hp);refine ⟨by simp[h.first],λq hq=>?_,?_,λq hq=>?_,λm q hm hq j hj hjq=>?_,?_⟩
 ·rcases yAp.1 hq with hq|hq;·exact h.pth q hq
  ·obtain ⟨j,h1,h2,rfl⟩:=zzE.1 hq;exact hP.go h1 h2
 ·refine List.pairwise_append.2 ⟨h.ord,?_,λq hq q' hq'=>?_⟩;·unfold zyw;rw[yA6];exact ((hs _).filter _).imp λh=>.same h
  ·obtain ⟨j,h1,h2,rfl⟩:=zzE.1 hq';rcases h.fr q hq with rfl|⟨m,p',j',hm,hpm,rfl⟩;·exact .inl (by have:=List.length_pos_iff.2 hP.ne;simp;omega)
   ·obtain ⟨hm',e⟩:=yAc.1 hpm;have:=yAH.1 h.ord m k hm' hk hm;rw[e,hpk] at this;exact this.app _ _
 ·rcases yAp.1 hq with hq|hq
  ·rcases h.fr q hq with h1|⟨m,p',j,hm,h2,h3⟩;·exact .inl h1
   ·exact .inr ⟨m,p',j,by omega,by rw[yAk (yAc.1 h2).1];exact h2,h3⟩
  ·obtain ⟨j,h1,h2,rfl⟩:=zzE.1 hq;exact .inr ⟨k,p,j,by omega,by rw[yAk hk];exact hp,rfl⟩
 ·rw[yAk (by omega)] at hq;by_cases hmk:m=k;·subst hmk;rw[hp] at hq;cases hq;exact yB5 _ (zzE.2 ⟨j,hj,hjq,rfl⟩)
  ·exact yBP _ (h.clo m q (by omega) hq j hj hjq)
 ·rw[List.take_append_of_le_length (by omega),yBQ hk,List.filter_append,<-h.out,hpk];by_cases hi:zyy p=t;·rw[if_pos hi];simp[hi]
  ·rw[if_neg hi];simp[hi]
theorem zzT(hs:∀i,(row N i).Pairwise (· < ·)){most:Int}:∀(f k:Nat)(PL out l:List (List Nat)),Iv N r t k PL out->idl N t most f k PL out=some l->∃k' PL',Iv N r t k' PL' l/\(PL'.length<=k'\/l≠[]):=by
 intro f;induction f with
 |zero=>intro k PL out l _ h;cases h
 |succ f ih =>
   intro k PL out l hI h;rw[idl] at h;cases hp:PL[k]? with
   |none=>rw[hp] at h;cases h;exact ⟨k,PL,hI,.inl (List.getElem?_eq_none_iff.1 hp)⟩|some p =>
     rw[hp] at h;dsimp only at h;have hI':=hI.step hs hp;by_cases h0:k=200000;·rw[if_pos h0] at h;cases h
     ·rw[if_neg h0] at h;by_cases hi:zyy p=t
      ·rw[if_pos hi] at h hI';by_cases hm:(out.length:Int)+1=most;·rw[if_pos hm] at h;cases h;exact ⟨_,_,hI',.inr (by simp)⟩
       ·rw[if_neg hm] at h;exact ih _ _ _ _ hI' h
      ·rw[if_neg hi] at h hI';exact ih _ _ _ _ hI' h
theorem Iv.told{k:Nat}{PL out:List (List Nat)}(h:Iv N r t k PL out):(∀p∈out,Pth N r p/\zyy p=t)/\out.Pairwise Bef:=by
 rw[h.out];refine ⟨λp hp=>?_,?_⟩;·obtain ⟨h1,h2⟩:=yAO.1 hp;exact ⟨h.pth p (List.mem_of_mem_take h1),by simpa using h2⟩
 ·exact (h.ord.sublist (List.take_sublist _ _)).filter _
theorem Iv.all{k:Nat}{PL out:List (List Nat)}(h:Iv N r t k PL out){q:List Nat}(hq:Pth N r q):q∈PL\/∃p∈PL.drop k,p <+: q:=by
 induction hq with
 |one=>exact .inl h.first|@go p j hp h2 h3 ih =>
   rcases ih with ih|⟨p',h4,h5⟩
   ·obtain ⟨m,hm⟩:=yAl ih;by_cases hmk:m<k;·exact .inl (h.clo m p hmk hm j h2 h3)
    ·refine .inr ⟨p,yAb (i:=m - k) ?_,List.prefix_append _ _⟩;rw[yAu,show k+(m - k)=m by omega];exact hm
   ·exact .inr ⟨p',h4,h5.trans (List.prefix_append _ _)⟩
theorem Iv.lst{k:Nat}{PL out:List (List Nat)}(h:Iv N r t k PL out)(he:PL.length<=k\/out≠[]){q:List Nat}(hq:Pth N r q)(hqt:zyy q=t)
  (hmin:∀p,Pth N r p->zyy p=t->q.length<=p.length/\(p.length=q.length->¬lx p q)):out[0]?=some q:=by
 have hbef:∀p,Pth N r p->zyy p=t->¬Bef p q:=λp h1 h2 h3=>by
  obtain ⟨h4,h5⟩:=hmin p h1 h2;rcases h3 with h3|⟨h3,h6⟩;·omega
  ·exact h5 h3 h6
 have hne:out≠[]:=by
  rcases he with he|he
  ·rcases h.all hq with h1|⟨p,h1,_⟩;·rw[h.out,yA7 he];exact List.ne_nil_of_mem (yAO.2 ⟨h1,by simpa using hqt⟩)
   ·rw[yBm he] at h1;simp at h1
  ·exact he
 obtain ⟨t1,t2⟩:=h.told;obtain ⟨f,rest,ho⟩:∃f rest,out=f::rest:=by cases out with|nil=>exact absurd rfl hne|cons f rest=>exact ⟨f,rest,rfl⟩
 obtain ⟨f1,f2⟩:=t1 f (by rw[ho];simp);have hf:f∈PL.take k:=by
  have:f∈out:=by rw[ho];simp
  rw[h.out] at this;exact (yAO.1 this).1
 have hd:∀p∈PL.drop k,Bef f p:=λp hp=>by have:=h.ord;rw[<-List.take_append_drop k PL] at this;exact (List.pairwise_append.1 this).2.2 f hf p hp
 have hfq:f=q:=by
  refine Classical.byContradiction λhfq=>?_;rcases h.all hq with h1|⟨p,h1,h2⟩
  ·rw[<-List.take_append_drop k PL] at h1;rcases yAp.1 h1 with h1|h1
   ·have:q∈out:=by rw[h.out];exact yAO.2 ⟨h1,by simpa using hqt⟩
    rw[ho] at this t2;rcases yAm.1 this with h3|h3;·exact hfq h3.symm
    ·exact hbef f f1 f2 (List.rel_of_pairwise_cons t2 h3)
   ·exact hbef f f1 f2 (hd q h1)
  ·have h3:=hd p h1;have h4:=h2.length_le;have h5:=(hmin f f1 f2).1;have:p=q:=h2.eq_of_length (by have:=h3.le;omega);subst this;exact hbef f f1 f2 h3
 rw[ho,hfq];rfl
end
end Pe.Tryz
end
section
/- Distances are the shortest ones; the walk along them is the first path. -/
set_option maxRecDepth 100000
namespace Pe.Bfs
section
variable{next:List (List Nat)}{from_:Nat}{wo:Int}
structure ShM (next:List (List Nat)) (wo:Int) (d:List Int) (i:Nat) (q done:List Nat):Prop where
 pos:0<=dAt d i
 asc:q.Pairwise λa b=>dAt d a<=dAt d b
 ge:∀a∈q,dAt d i<=dAt d a
 top:∀j,0<=dAt d j->dAt d j<=dAt d i+1
 cl:∀a,0<=dAt d a->a∈i::q\/∀j∈row next a,(0<=dAt d j/\dAt d j<=dAt d a+1)\/(j:Int)=wo
 dn:∀j∈done,0<=dAt d j\/(j:Int)=wo
structure Sh (next:List (List Nat)) (wo:Int) (d:List Int) (q:List Nat):Prop where
 pos:∀a∈q,0<=dAt d a
 asc:q.Pairwise λa b=>dAt d a<=dAt d b
 top:∀i∈q.head?,∀j,0<=dAt d j->dAt d j<=dAt d i+1
 cl:∀a,0<=dAt d a->a∈q\/∀j∈row next a,(0<=dAt d j/\dAt d j<=dAt d a+1)\/(j:Int)=wo
theorem ShM.push{d:List Int}{i:Nat}{q done:List Nat}(h:ShM next wo d i q done){j:Nat}(hj:j<d.length) :
  ShM next wo (push wo (dAt d i+1) (d,q) j).1 i (push wo (dAt d i+1) (d,q) j).2 (done++[j])/\dAt (push wo (dAt d i+1) (d,q) j).1 i=dAt d i/\(push wo (dAt d i+1) (d,q) j).1.length=d.length:=by
 unfold Bfs.push;by_cases hc:dAt d j<0/\(j:Int)≠wo
 ·rw[show (decide (dAt d j<0)&&((j:Int) != wo))=true by simp[hc.1,hc.2]];simp only[cond_true];have hs:∀k,dAt (d.set j (dAt d i+1)) k=if k=j then dAt d i+1 else dAt d k:=λk=>zmf hj
  have keep:∀k,0<=dAt d k->dAt (d.set j (dAt d i+1)) k=dAt d k:=λk hk=>by rw[hs,if_neg λe=>by subst e;omega]
  have hp:=h.pos;have hq:∀a∈q,0<=dAt d a:=λa ha=>by have:=h.ge a ha;omega
  have hi:=keep i hp;refine ⟨⟨by omega,?_,λa ha=>?_,λk hk=>?_,λa ha=>?_,λk hk=>?_⟩,hi,by simp⟩
  ·refine List.pairwise_append.2 ⟨h.asc.imp_of_mem λ{a b} ha hb hab=>?_,by simp,λa ha b hb=>?_⟩;·rw[keep a (hq a ha),keep b (hq b hb)];exact hab
   ·simp at hb;subst hb;rw[keep a (hq a ha),hs,if_pos rfl];exact h.top a (hq a ha)
  ·rw[hi];rcases yAp.1 ha with ha|ha;·rw[keep a (hq a ha)];exact h.ge a ha
   ·simp at ha;subst ha;rw[hs,if_pos rfl];omega
  ·rw[hi];rw[hs] at hk ⊢;split;·omega
   ·rename_i hkj;rw[if_neg hkj] at hk;exact h.top k hk
  ·by_cases haj:a=j;·left;simp[haj]
   ·rw[hs,if_neg haj] at ha;rcases h.cl a ha with h1|h1;·left;rcases yAm.1 h1 with rfl|h1<;>simp[*]
    ·right;intro k hk;rcases h1 k hk with h2|h2;·left;rw[keep k h2.1,keep a ha];exact h2
     ·exact .inr h2
  ·rcases yAp.1 hk with hk|hk
   ·rcases h.dn k hk with h1|h1;·left;rw[keep k h1];exact h1
    ·exact .inr h1
   ·simp at hk;subst hk;left;rw[hs,if_pos rfl];omega
 ·rw[show (decide (dAt d j<0)&&((j:Int) != wo))=false by rw[Bool.eq_false_iff];intro he;simp at he;exact hc he];simp only[cond_false];refine ⟨⟨h.pos,h.asc,h.ge,h.top,h.cl,λk hk=>?_⟩,by simp⟩;rcases yAp.1 hk with hk|hk;·exact h.dn k hk
  ·simp at hk;subst hk;by_cases h1:dAt d k<0;·right;exact Classical.byContradiction λh2=>hc ⟨h1,h2⟩
   ·left;omega
theorem ShM.fold{v:Int}{i:Nat}:∀(l:List Nat){d:List Int}{q done:List Nat},ShM next wo d i q done->v=dAt d i+1->(∀j∈l,j<d.length) ->
  ShM next wo (l.foldl (Bfs.push wo v) (d,q)).1 i (l.foldl (Bfs.push wo v) (d,q)).2 (done++l)
 |[],d,q,done,h,_,_=>by simpa using h
 |j::l,d,q,done,h,hv,hl=>by
   subst hv;obtain ⟨h1,h2,h3⟩:=h.push (hl j (by simp));have:=ShM.fold l h1 (v:=dAt d i+1) (by rw[h2]) λm hm=>by rw[h3];exact hl m (by simp[hm])
   rw[yCd];simpa using this
theorem Sh.round{d:List Int}{i:Nat}{q:List Nat}(h:Sh next wo d (i::q))(hl:∀j∈row next i,j<d.length):Sh next wo (round next wo (d,q) i).1 (round next wo (d,q) i).2:=by
 have ha:=yBU.1 h.asc;have hM:ShM next wo d i q []:=⟨h.pos i (by simp),ha.2,ha.1,h.top i (by simp),h.cl,by simp⟩
 have h1:=ShM.fold (row next i) hM rfl hl;unfold Bfs.round;dsimp only;refine ⟨λa ha=>by have:=h1.ge a ha;have:=h1.pos;omega,h1.asc,λa ha j hj=>?_,λa ha=>?_⟩;·have h2:=h1.top j hj;have h3:=h1.ge a (List.mem_of_mem_head? ha);omega
 ·rcases h1.cl a ha with h2|h2
  ·rcases yAm.1 h2 with rfl|h2
   ·right;intro j hj;rcases h1.dn j (by simpa using hj) with h3|h3;·exact .inl ⟨h3,h1.top j h3⟩
    ·exact .inr h3
   ·exact .inl h2
  ·exact .inr h2
theorem zzQ(hn:∀i,∀j∈row next i,j<next.length):∀(n:Nat){d:List Int}{q:List Nat},Ok next from_ wo d q->Sh next wo d q->neg d+q.length<=n->Sh next wo (run next wo n d q) []
 |n,d,[],_,h,_=>by
   have:run next wo n d []=d:=by cases n<;>rfl
   rw[this];exact h
 |0,d,i::q,_,h,hm=>by simp at hm
 |n+1,d,i::q,ho,h,hm=>by obtain ⟨h1,h2⟩:=zgn hn ho;exact zzQ hn n h1 (h.round λj hj=>by rw[ho.len];exact hn i j hj) (by simp only[yAw] at h2 hm;omega)
theorem zzR(hn:∀i,∀j∈row next i,j<next.length)(hf:from_<next.length)(hw:(from_:Int)≠wo){i j:Nat}(hi:0<=dAt (zeI next from_ wo) i)(hj:j∈row next i)(hjw:(j:Int)≠wo):0<=dAt (zeI next from_ wo) j/\dAt (zeI next from_ wo) j<=dAt (zeI next from_ wo) i+1:=by
 have h:Sh next wo (zeI next from_ wo) []:=by
  unfold zeI;rw[show ((from_:Int)==wo)=false by simpa using hw,cond_false];obtain ⟨h1,h2⟩:=zha (next:=next) hf hw;refine zzQ hn _ h1 ⟨h1.queue,by simp,λa ha j hj=>?_,λa ha=>?_⟩ (by simp;omega)
  ·simp at ha;subst ha;rcases h1.src j hj with ⟨_,h3⟩|⟨h3,m,h4,h5⟩;·rw[h3,h1.home];omega
   ·exfalso;have hrep:dAt (start next.length from_) j=if j=from_ then 0 else -1:=by
     unfold start;rw[zmf (by simpa using hf)];congr 1;unfold dAt;rw[yBt];split<;>rfl
    rw[hrep] at h3;split at h3<;>omega
  ·left;have hrep:dAt (start next.length from_) a=if a=from_ then 0 else -1:=by
    unfold start;rw[zmf (by simpa using hf)];congr 1;unfold dAt;rw[yBt];split<;>rfl
   rw[hrep] at ha;split at ha;·simp[*]
   ·omega
 rcases h.cl i hi with h1|h1;·simp at h1
 ·exact (h1 j hj).resolve_right hjw
end
end Pe.Bfs
namespace Pe.Tryz
open Pe Pe.Bfs
section
variable{N:List (List Nat)}{d:List Int}{r t:Nat}
def Ed(N:List (List Nat)):List Nat->Prop|[]=>True|[_]=>True|a::b::l=>b∈row N a/\Ed N (b::l)
theorem Ed.app:∀{p:List Nat}{j:Nat},Ed N p->(p≠[]->j∈row N (zyy p))->Ed N (p++[j])|[],_,_,_=>trivial|[a],j,_,h=>⟨h (by simp),trivial⟩|a::b::l,j,h,h2=>⟨h.1,Ed.app (p:=b::l) h.2 λ_=>h2 (by simp)⟩
theorem Ed.of_app:∀{p:List Nat}{j:Nat},Ed N (p++[j])->Ed N p/\(p≠[]->j∈row N (zyy p))|[],_,_=>⟨trivial,λh=>absurd rfl h⟩|[a],j,h=>⟨trivial,λ_=>h.1⟩|a::b::l,j,h=>by obtain ⟨h1,h2⟩:=Ed.of_app (p:=b::l) h.2;exact ⟨⟨h.1,h1⟩,λ_=>h2 (by simp)⟩
theorem Pth.ed{p:List Nat}(h:Pth N r p):Ed N p:=by
 induction h with
 |one=>trivial|go _ h2 _ ih=>exact ih.app λ_=>h2
theorem zzJ:∀(n:Nat){a:Nat}{l:List Nat},l.length<=n->Ed N (a::l)->(a::l).Nodup->Pth N a (a::l)
 |0,a,l,hl,_,_=>by obtain rfl:l=[]:=yAU.1 (by omega);exact .one
 |n+1,a,l,hl,he,hd=>by
   rcases List.eq_nil_or_concat l with rfl|⟨l',x,rfl⟩;·exact .one
   ·rw[List.concat_eq_append] at *
    rw[<-yA3] at he hd ⊢;obtain ⟨h1,h2⟩:=he.of_app;obtain ⟨h3,_,h4⟩:=List.nodup_append.1 hd;exact (zzJ n (by simp at hl;omega) h1 h3).go (h2 (by simp)) λhx=>h4 x hx x (by simp) rfl
theorem zzP(h0:dAt d t=0)(hb:∀x y,y∈row N x->0<=dAt d y->0<=dAt d x/\dAt d x<=dAt d y+1):∀(l:List Nat)(a:Nat),Ed N (a::l)->zyy (a::l)=t->0<=dAt d a/\dAt d a<=l.length
 |[],a,_,h=>by obtain rfl:a=t:=h;rw[h0];simp
 |b::l,a,h,hl=>by obtain ⟨h1,h2⟩:=zzP h0 hb l b h.2 hl;obtain ⟨h3,h4⟩:=hb a b h.1 h1;exact ⟨h3,by simp only[yAw];omega⟩
theorem zzF(k n:Nat):∃l,walk N d k n=n::l:=by cases k<;>exact ⟨_,rfl⟩
theorem zzH(hD:Down N d t):∀(k n:Nat),dAt d n=(k:Int)->Ed N (walk N d k n)/\(walk N d k n).Nodup/\zyy (walk N d k n)=t/\(walk N d k n).length=k+1/\∀x∈walk N d k n,dAt d x<=(k:Int)
 |0,n,h=>⟨trivial,by simp[walk],(hD.zero n).1 h,rfl,λx hx=>by simp[walk] at hx;subst hx;omega⟩|k+1,n,h=>by
   obtain ⟨m,_,h2,h3,h4,_⟩:=hD.next (n:=n) (by omega);obtain ⟨q1,q2,q3,q4,q5⟩:=zzH hD k (zgv N d n) (by omega);obtain ⟨l,hl⟩:=zzF (N:=N) (d:=d) k (zgv N d n);refine ⟨?_,?_,?_,by simp[walk,q4],λx hx=>?_⟩;·rw[walk,hl];exact ⟨yAb h3,by rw[<-hl];exact q1⟩
   ·rw[walk];exact yA2.2 ⟨λhx=>by have:=q5 n hx;omega,q2⟩
   ·rw[walk,hl];rw[hl] at q3;exact q3
   ·rw[walk] at hx;rcases yAm.1 hx with rfl|hx;·omega
    ·have:=q5 x hx;omega
theorem zzG(hD:Down N d t)(hb:∀x y,y∈row N x->0<=dAt d y->0<=dAt d x/\dAt d x<=dAt d y+1)(hs:∀i,(row N i).Pairwise (· < ·)):∀(k a:Nat)(l:List Nat),l.length=k->dAt d a=(k:Int)->Ed N (a::l)->zyy (a::l)=t->¬lx (a::l) (walk N d k a)
 |0,a,l,hl,_,_,_=>by obtain rfl:l=[]:=yAU.1 hl;exact zzS
 |k+1,a,[],hl,_,_,_=>by simp at hl
 |k+1,a,b::l,hl,hd,he,ht=>by
   rintro ⟨c,x,y,u,v,h1,h2,h3⟩
   cases c with
   |nil =>rw[walk] at h2;simp at h1 h2;omega|cons a' c =>
     rw[walk] at h2;simp only[yA3,yBB] at h1 h2;obtain ⟨_,h1⟩:=h1;obtain ⟨_,h2⟩:=h2;have hl':l.length=k:=by simpa using hl
     have h0:dAt d t=0:=(hD.zero t).2 rfl;obtain ⟨b1,b2⟩:=zzP h0 hb l b he.2 ht;obtain ⟨_,b3⟩:=hb a b he.1 b1;obtain ⟨m,n1,n2,n3,n4,_⟩:=hD.next (n:=a) (by omega);by_cases hbn:b=zgv N d a;·subst hbn;exact zzG hD hb hs k _ l hl' (by omega) he.2 ht ⟨c,x,y,u,v,h1,h2,h3⟩
     ·obtain ⟨l2,hl2⟩:=zzF (N:=N) (d:=d) k (zgv N d a);rw[hl2] at h2;cases c with
      |cons z c =>simp only[yA3,yBB] at h1 h2;exact hbn (h1.1.trans h2.1.symm)|nil =>
        simp only[yBb,yBB] at h1 h2;obtain ⟨m',hm',e⟩:=yBH he.1;obtain ⟨g1,g2,g3⟩:=yBv.1 n1;have hmm:¬m'<m:=λhlt=>by have:=g3 m' hlt;rw[e] at this;simp at this;omega
        have e2:zgv N d a=(row N a)[m]:=(by rw[yAe n2] at n3;simpa using n3.symm);by_cases hm2:m'=m;·subst hm2;exact hbn (by rw[e2,e])
        ·have:=yAH.1 (hs a) m m' n2 hm' (by omega);omega
theorem Iv.wlk(hD:Down N d t)(hb:∀x y,y∈row N x->0<=dAt d y->0<=dAt d x/\dAt d x<=dAt d y+1)(hs:∀i,(row N i).Pairwise (· < ·)){k k':Nat}{PL out:List (List Nat)}(h:Iv N r t k PL out)(he:PL.length<=k\/out≠[])(hr:dAt d r=(k':Int)):out[0]?=some (walk N d k' r):=by
 obtain ⟨w1,w2,w3,w4,w5⟩:=zzH hD k' r hr;obtain ⟨l,hl⟩:=zzF (N:=N) (d:=d) k' r;refine h.lst he (q:=Bfs.walk N d k' r) ?_ w3 λp hp hpt=>?_;·rw[hl] at w1 w2 ⊢;exact zzJ _ (yAi _) w1 w2
 ·have hh:=hp.head;obtain ⟨a,l',rfl⟩:∃a l',p=a::l':=by cases p with|nil=>exact absurd rfl hp.ne|cons a l'=>exact ⟨a,l',rfl⟩
  simp at hh;subst hh;have h1:=zzP ((hD.zero t).2 rfl) hb l' a hp.ed hpt;refine ⟨by rw[w4];simp;omega,λe=>zzG hD hb hs k' a l' (by rw[w4] at e;simpa using e) hr hp.ed hpt⟩
theorem Iv.no(h0:dAt d t=0)(hb:∀x y,y∈row N x->0<=dAt d y->0<=dAt d x/\dAt d x<=dAt d y+1){k:Nat}{PL out:List (List Nat)}(h:Iv N r t k PL out)(hr:dAt d r<0):out=[]:=by
 refine List.eq_nil_iff_forall_not_mem.2 λp hp=>?_;obtain ⟨h1,h2⟩:=h.told.1 p hp;have hh:=h1.head;obtain ⟨a,l',rfl⟩:∃a l',p=a::l':=by cases p with|nil=>exact absurd rfl h1.ne|cons a l'=>exact ⟨a,l',rfl⟩
 simp at hh;subst hh;have:=zzP h0 hb l' a h1.ed h2;omega
end
end Pe.Tryz
end
section
/- Each path that is told is a path: the law. -/
set_option maxRecDepth 100000
namespace Pe.Tryz
open Go Go.Proofs Pe Pe.Bfs Go.Proofs.YtojfjgjdheiffaaGreatDoor
variable{chk:Gt.Bill->Int}{orc:Orc Sx}
theorem m33_eq'(orc:Orc Sx)(s:List By)(v:By)(hs:s.length<=1000000):m33 orc s v=some ((match s.findIdx? (λy=>v==y) with|some k=>(k:Int)|none=> -1),()):=by
 unfold m33;rw[zei s (λy=>v==y) (λk=>(.inr ((k:Int),()):Unit⊕(Int×Unit))) (.inl ()) (λk hk=>?_) ?_];·cases s.findIdx? (λy=>v==y)<;>rfl
 ·dsimp only;rw[show decide ((s.length:Int)<len s)=false from by simp[len],zab]
 ·dsimp only;rw[show decide ((k:Int)<len s)=true from by simp[len];exact hk,zac,zan hk,zaa];cases hv:v==s[k] with
  |true=>rw[zac,if_pos rfl]|false=>rw[zab,if_neg (by simp),zaf hk (by omega)]
theorem m32_eq'{orc':Orc Sx}(h33:∀(s:List By)(v:By),orc.d 33 [.sl .str s,.str v] [I6]=(m33 orc' s v:Option (Int×Unit)))(s:List By)(v:By)(hs:s.length<=1000000):m32 orc s v=some (decide (v∈s),()):=by
 unfold m32;rw[h33,m33_eq' _ _ _ hs,zaa];cases h:s.findIdx? (λy=>v==y) with
 |none =>
   have:v∉s:=λhm=>by have:=yBA.1 h v hm;simp at this
   simp[this]
 |some k =>
   obtain ⟨h1,h2,_⟩:=yBv.1 h;have:v∈s:=by rw[show v=s[k] from by simpa using h2];exact yAy h1
   simp[this]
theorem m18_eq'(o:Orc Sx)(l r:List By)(hl:l.length<=1000000):m18 o l r=some (decide (l=r),()):=by
 unfold m18;by_cases he:l.length=r.length
 ·rw[show (len l != len r)=false from by simp[len,he],zab];rw[zei (l.zip r) (λx=>x.1 != x.2) (λ_=>(.inr (false,()):Unit⊕(Bool×Unit))) (.inl ()) (λk hk=>?_) ?_]
  ·cases h:(l.zip r).findIdx? (λx=>x.1 != x.2) with
   |none =>
     have:l=r:=List.ext_getElem he λk h1 h2=>by have:=yBA.1 h (l[k],r[k]) (by rw[<-List.getElem_zip (h:=by simp;omega)];exact yAy _);simpa using this
     subst this;simp;rfl
   |some k =>
     obtain ⟨h1,h2,_⟩:=yBv.1 h;have:l≠r:=by rintro rfl;simp at h2
     simp[this];rfl
  ·dsimp only;rw[show decide (((l.zip r).length:Int)<len l)=false from by simp[len,he],zab]
  ·have hk1:k<l.length:=(by simp at hk;omega);have hk2:k<r.length:=(by omega);dsimp only;rw[show decide ((k:Int)<len l)=true from by simp[len];exact hk1,zac,zan hk1,zaa,zan hk2,zaa,List.getElem_zip];cases hv:l[k] != r[k] with
   |true=>rw[zac,if_pos rfl]|false=>rw[zab,if_neg (by simp),zaf hk1 (by omega)]
 ·rw[show (len l != len r)=true from by simp[len];omega,zac,decide_eq_false λh=>he (by rw[h])]
theorem zzN{b:Gt.Bill}{r s:By}{scope:Int}(h:za5 chk b r scope=0)(hs:zbm b s):za5 chk b s scope=0:=by
 unfold za5 at h ⊢;split at h;·rename_i h1;exact absurd h h1
 ·rename_i h1;split at h;·cases h
  ·rename_i h2;rw[if_neg h1,if_neg h2,if_pos hs]
theorem zzO{b:Gt.Bill}(hb:Right b){p q:List Nat}(hp:∀x∈p,x<b.components.length)(hq:∀x∈q,x<b.components.length)(h:zbd b p=zbd b q):p=q:=by
 unfold zbd at h;induction p generalizing q with
 |nil=>cases q with
   |nil=>rfl|cons y q=>simp at h
 |cons x p ih=>cases q with
   |nil=>simp at h|cons y q =>simp only[yAn,yBB] at h;rw[hb.ref_inj (hp x (by simp)) (hq y (by simp)) h.1,ih (λz hz=>hp z (by simp[hz])) (λz hz=>hq z (by simp[hz])) h.2]
theorem zzK{b:Gt.Bill}(hb:Right b){p:List Nat}{i:Nat}(hp:∀x∈p,x<b.components.length)(hi:i<b.components.length):cR b i∈zbd b p↔i∈p:=by unfold zbd;rw[yBw];exact ⟨λ⟨x,h1,h2⟩=>by rw[<-hb.ref_inj (hp x h1) hi h2];exact h1,λh=>⟨i,h,rfl⟩⟩
theorem Right.outs_lt{b:Gt.Bill}(hb:Right b)(scope:Int)(i:Nat):(row (outs b scope) i).Pairwise (· < ·):=by
 have hE:=hb.edges scope;have h:zpW cI (ofN (row (outs b scope) i)):=by unfold outs;rw[(hE.web_row.2.2 i).1];exact (hE.out_eq i).2.1
 unfold zpW ofN at h;rw[yA6] at h;exact h.imp λ{a b} h=>by simp only[cI] at h;omega
theorem Right.back{b:Gt.Bill}(hb:Right b)(scope:Int){t:Nat}(ht:t<b.components.length)(x y:Nat)(h:y∈row (outs b scope) x)(hy:0<=dAt (left b scope t) y):0<=dAt (left b scope t) x/\dAt (left b scope t) x<=dAt (left b scope t) y+1:=by obtain ⟨w1,w2,w3,w4,w5⟩:=hb.web scope;exact zzR w2.lt (by rw[w4];exact ht) (by omega) hy ((w5 x y).1 h) (by omega)
theorem zzL{b:Gt.Bill}(hb:Right b)(scope most:Int){t:Nat}(ht:t<b.components.length){l:List (List Nat)}(h:zyS b scope t most=some l) :
  (∀p∈l,Pth (outs b scope) (num b b.root) p/\zyy p=t)/\l.Pairwise Bef/\(if dAt (left b scope t) (num b b.root)<0 then l=[] else l[0]?=some (zbV b scope t)):=by
 obtain ⟨k,PL,h1,h2⟩:=zzT (hb.outs_lt scope) _ _ _ _ _ Iv.start h;refine ⟨h1.told.1,h1.told.2,?_⟩;have hD:=hb.down scope ht;split;·rename_i h3;exact h1.no ((hD.zero t).2 rfl) (hb.back scope ht) h3
 ·rename_i h3;exact h1.wlk hD (hb.back scope ht) (hb.outs_lt scope) h2 (by omega)
theorem zzI{b:Gt.Bill}{p:List Nat}{k:Nat}(hk:k<p.length):at? (zbd b p) (k:Int)=some (cR b p[k]):=by rw[zcV];unfold zbd;rw[yAh,yAe hk];rfl
end Pe.Tryz
end
section
/- Each path that is told is a path: the law. -/
set_option maxRecDepth 100000
namespace Pe.Tryz
open Go Go.Proofs Pe Pe.Bfs Go.Proofs.YtojfjgjdheiffaaGreatDoor
theorem zzM{b:Gt.Bill}{p:List Nat}(h:p≠[])(hl:p.length<=1000000):at? (zbd b p) (IntKind.i64.wrap (len (zbd b p) - 1))=some (cR b (zyy p)):=by
 have h0:0<p.length:=List.length_pos_iff.2 h;have e:IntKind.i64.wrap (len (zbd b p) - 1)=((p.length - 1:Nat):Int):=by rw[show len (zbd b p)=(p.length:Int) from by simp[len,zbd],zaH (by omega) (by omega)];omega
 rw[e,zzI (by omega)];congr 2;unfold zyy;rw[List.getLastD_eq_getLast?,List.getLast?_eq_getElem?,yAe (by omega)];rfl
theorem L6{n:Nat}(hn:220<=n){b:Gt.Bill}(hb:SmB b)(r:By)(scope most:Int):m6 (zah n) b r scope most=some (true,()):=by
 obtain ⟨n,rfl⟩:∃k,n=k+220:=⟨n - 220,by omega⟩;have K:=grO (n:=n+219) (by omega) hb;have e18:∀l r:List By,l.length<=1000000-> @Eq (Option (Bool×Unit)) ((zah (n+220)).d 18 [.sl .str l,.sl .str r] [.bool]) (some (decide (l=r),())):=λl r hl=>(q18 (n+219) _ _).trans (m18_eq' _ _ _ hl);have e32:∀(s:List By)(v:By),s.length<=1000000-> @Eq (Option (Bool×Unit)) ((zah (n+220)).d 32 [.sl .str s,.str v] [.bool]) (some (decide (v∈s),())):=λs v hs=>(q32 (n+219) _ _).trans (m32_eq' (λs v=>q33 (n+218) s v) _ _ hs);have e27: @Eq (Option (List By×Bool×Int×Unit)) ((zah (n+220)).d 27 [.st 3 b,.str r,.int .i64 scope] [LS,.bool,I6]) (m27 (zah (n+219)) b r scope):=q27 _ _ _ _;have e29: @Eq (Option (List (List By)×Int×Unit)) ((zah (n+220)).d 29 [.st 3 b,.str r,.int .i64 scope,.int .i64 most] [.sl LS,I6]) (m29 (zah (n+219)) b r scope most):=q29 _ _ _ _ _;have e30: @Eq (Option (List (List By)×Int×Unit)) ((zah (n+220)).d 30 [.st 3 b,.str r,.int .i64 scope,.int .i64 most] [.sl LS,I6]) (m30 (zah (n+219)) b r scope most):=q30 _ _ _ _ _;have e22:∀s,@Eq (Option (List By×Int×Unit)) ((zah (n+220)).d 22 [.st 3 b,.str s,.int .i64 scope] [LS,I6]) (m22 (zah (n+219)) b s scope):=λs=>q22 _ _ _ _;have h116:∀(L:List Gt.Bom_beginning)(k j:Int),(zah (n+219)).d 116 [.sl (.st 12) L,.int .i64 k,.int .i64 j] [.bool]=(m116 (zah (n+218)) L k j:Option (Bool×Unit)):=λL k j=>q116 _ _ _ _;have h73:∀(l:List Int)(x:Int),(zah (n+219)).d 73 [.sl I6 l,.int .i64 x] [.bool]=(m73 (zah (n+218)) l x:Option (Bool×Unit)):=λl x=>q73 _ _ _;have e19:=L19 (n:=n+220) (by omega);have bad:∀e:Int,e≠0->m29 (zah (n+219)) b r scope most=some ([],e,())->m30 (zah (n+219)) b r scope most=some ([],e,())->m6 (zah (n+220)) b r scope most=some (true,()):=λe he h1 h2=>by unfold m6;rw[e29,h1,e30,h2];simp only[zaa];rw[show (e != 0)=true from by simpa using he,zac,show (e==e)=true from by simp,zac,e19];rfl
 by_cases he:za5 zfo b r scope=0
 rotate_left
 ·exact bad _ he ((m29_eq' K h116 r scope most).2 he) ((m30_eq' K h73 r scope most).2 he)
 obtain ⟨hR,hr⟩:=zjc K he;obtain ⟨ht,htr⟩:=hR.num_lt hr;obtain ⟨w1,w2,w3,w4,w5⟩:=hR.web scope;obtain ⟨hrt,hrr⟩:=hR.num_lt hR.root;have h29:=(m29_eq' K h116 r scope most).1 he;have h30:=(m30_eq' K h73 r scope most).1 he;unfold zyI at h29 h30;by_cases hm:most<1\/1000<most;·rw[if_pos hm] at h29 h30;exact bad 9 (by decide) h29 h30
 rw[if_neg hm] at h29 h30;cases hl:zyS b scope (num b r) most with
 |none=>rw[hl] at h29 h30;exact bad 12 (by decide) h29 h30|some l =>
 rw[hl] at h29;obtain ⟨g1,g2,g3⟩:=zzL hR scope most ht hl;obtain ⟨s1,s2⟩:=zy4 w1 zyA 0 _ _ l (zy0 (by rw[w3];exact hrt)) (yAA _) (by omega) (by simp) hl;have hlt:∀p∈l,∀x∈p,x<b.components.length:=λp hp=>(g1 p hp).1.lt hrt λi j hj=>by rw[<-w3];exact w1.lt i j hj
 have hrl:∀p,(zbd b p).length=p.length:=λp=>by simp[zbd]
 have rl:∀p∈l,(zbd b p).length<=1000000:=λp hp=>by have:=s2 p hp;rw[hrl];omega
 unfold m6;rw[e29,h29,e27,(m27_eq' K r scope).1 he];simp only[zaa];rw[show ((0:Int) != 0)=false from rfl,zab]
 -- Path says whether there is one
 obtain ⟨f,ok,hf,hok,hfirst⟩:∃(f:List By) (ok:Bool),(bif decide (dAt (left b scope (num b r)) (num b b.root)<0) then (([],false,0,()):List By×Bool×Int×Unit) else (zbd b (zbV b scope (num b r)),true,0,()))=(f,ok,0,())/\ok=decide (0<l.length)/\∀p,l[0]?=some p->f=zbd b p:=by
  by_cases hd:dAt (left b scope (num b r)) (num b b.root)<0;·rw[if_pos hd] at g3;exact ⟨[],false,by rw[decide_eq_true hd];rfl,by simp[g3],λp hp=>by simp[g3] at hp⟩
  ·rw[if_neg hd] at g3;exact ⟨zbd b (zbV b scope (num b r)),true,by rw[decide_eq_false hd];rfl,by have:=(yAc.1 g3).1;simp;omega,λp hp=>by rw[g3] at hp;cases hp;rfl⟩
 rw[hf];simp only;rw[show ((0:Int) != 0)=false from rfl,zab,show (ok != decide (0<len (l.map (zbd b))))=false from by rw[hok];simp[len],zaa,zab];refine (congrArg (λz=>zaE z _) (zzf (λk=>((k:Int),())) l.length (.inl ()) (λk hk=>?_) ?_ rfl)).trans ?_
 ·obtain ⟨p,hkp⟩:∃p,l[k]?=some p:=⟨_,yAe hk⟩;have hp:=yAb hkp;obtain ⟨p1,p2⟩:=g1 p hp;have hs:=s2 p hp;have hlp:=hlt p hp;have h0:0<p.length:=List.length_pos_iff.2 p1.ne;have ew:IntKind.i64.wrap (((k:Nat):Int)+1)=((k+1:Nat):Int):=zaf hk (by omega);have h17:at? (zbd b p) 0=some b.root:=by
   have h1:=zzI (b:=b) h0;have h2:=p1.head;rw[yAe h0,yAf] at h2;rw[h2,hrr] at h1;exact h1
  have h19:=zzM (b:=b) p1.ne (by omega);rw[p2,htr] at h19;dsimp only;rw[show decide ((k:Int)<len (l.map (zbd b)))=true from by simp[len];exact hk,zac,zcV,yAh,hkp];simp only[yAg,zaa];cases k
  case' zero =>rw[show (((0:Nat):Int)==0)=true from rfl,zac,hfirst p hkp,e18 _ _ (rl p hp),zaa,decide_eq_true rfl,show (!true)=false from rfl,zaa,zab,show decide ((0:Int)<((0:Nat):Int))=false from rfl,zab,zaa,zaa,zab]
  case' succ k =>have hk':k<l.length:=(by omega);have hq:=yAy hk';have hb':Bef l[k] p:=(by have:=yAH.1 g2 k (k+1) hk' hk (by omega);rw[yAe hk,yAf] at hkp;rw[<-hkp];exact this);have hat:at? (l.map (zbd b)) (IntKind.i64.wrap (((k+1:Nat):Int) - 1))=some (zbd b l[k]):=(by rw[zaH (by omega) (by omega),show (((k+1:Nat):Int) - 1)=(k:Int) by omega,zcV,yAh,yAe hk'];rfl);rw[show (((k+1:Nat):Int)==0)=false from by simp;omega,zab,zaa,zab,show decide ((0:Int)<((k+1:Nat):Int))=true from by simp,zac,hat];simp only[zaa];rw[show decide (len (zbd b p)<len (zbd b l[k]))=false from by have:=hb'.le;simp[len,hrl];omega,zab];rw[e18 _ _ (rl p hp),zaa,decide_eq_false (λh=>hb'.ne (zzO hR (hlt _ hq) hlp h.symm)),zaa,zaa,zaa,zab]
  all_goals
   rw[show (len (zbd b p)==0)=false from by simp[len,hrl,p1.ne],zab,h17,zaa,show (b.root != b.root)=false from by simp,zaa,zab,h19,zaa,show (r != r)=false from by simp,zaa,zab];refine (congrArg (λz=>zaE z _) (zzf (λj=>(((j+1:Nat):Int),())) (p.length - 1) (.inl ()) (λj hj=>?_) ?_ rfl)).trans ?_
   ·have hj1:j+1<p.length:=(by omega);obtain ⟨q1,q2⟩:=p1.edge j hj1;have hpj:=hlp _ (yAy (show j<p.length by omega));have hpj1:=hlp _ (yAy hj1);dsimp only;rw[show decide (((j+1:Nat):Int)<len (zbd b p))=true from by simp[len,hrl];omega,zac,zaH (by omega) (by omega),show ((j+1:Nat):Int) - 1=(j:Int) by omega,zzI (by omega),zaa,e22,(m22_eq' K _ scope).1 (zzN he ⟨_,hpj,rfl⟩),zaa];dsimp only;rw[hR.num_cR hpj,show ((0:Int) != 0)=false from rfl,zab,zzI hj1,zaa,e32 _ _ (by rw[hrl];exact w1.rows _),zaa,decide_eq_true ((zzK hR (λx hx=>by rw[<-w3];exact w1.lt _ x hx) hpj1).2 q1),show (!true)=false from rfl,zaa,zab];rw[show (0:Int)=((0:Nat):Int) from rfl,zhM (yAA _) (by rw[hrl];omega),zaa,zaa,e32 _ _ (by simp[hrl];omega),zaa];rw[show (((zbd b p).drop 0).take (j+1 - 0))=zbd b (p.take (j+1)) from by simp[zbd,List.map_take],decide_eq_false (λh=>q2 ((zzK hR (λx hx=>hlp x (List.mem_of_mem_take hx)) hpj1).1 h)),zaa,zab,zaf hj1 (by omega)]
   ·dsimp only;rw[show decide (((p.length - 1+1:Nat):Int)<len (zbd b p))=false from by simp[len,hrl];omega,zab]
   ·rw[zaj,ew]
 ·dsimp only;rw[show decide ((l.length:Int)<len (l.map (zbd b)))=false from by simp[len],zab]
 ·rw[zaj,e19];rfl
end Pe.Tryz
end
