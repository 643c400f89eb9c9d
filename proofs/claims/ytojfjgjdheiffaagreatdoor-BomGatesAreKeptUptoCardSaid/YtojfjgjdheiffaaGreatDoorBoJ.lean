/- PROVED HERE: a part of the seat's proofs; see the text that holds the claim's theorem. -/
import Derived.Test.YtojfjgjdheiffaaGreatDoorNm
import Derived.Test.YtojfjgjdheiffaaGreatDoorBoR
import Derived.Test.YtojfjgjdheiffaaGreatDoorBoG
section
/- All simple paths from the root, in order: what the list of beginnings keeps. -/
set_option maxRecDepth 100000
namespace Pe.Tryz
open Pe Pe.Bfs
inductive Pth (N:List (List Nat)) (r:Nat):List Nat->Prop
 |one:Pth N r [r]
 |go {p:List Nat} {j:Nat}:Pth N r p->j∈row N (zyy p)->j∉p->Pth N r (p++[j])
def lx(p q:List Nat):Prop:=∃c a b u v,p=c++a::u/\q=c++b::v/\a<b
def Bef(p q:List Nat):Prop:=p.length<q.length\/(p.length=q.length/\lx p q)
theorem zzS{p:List Nat}:¬lx p p:=by
 rintro ⟨c,a,b,u,v,h1,h2,h3⟩
 have:=List.append_cancel_left (h1.symm.trans h2);injection this;omega
theorem Bef.le{p q:List Nat}(h:Bef p q):p.length<=q.length:=by rcases h with h|⟨h,_⟩<;>omega
theorem Bef.app{p q:List Nat}(h:Bef p q)(x y:Nat):Bef (p++[x]) (q++[y]):=by
 rcases h with h|⟨h,c,a,b,u,v,rfl,rfl,h3⟩;·exact .inl (by simpa using h)
 ·exact .inr ⟨by simpa using h,c,a,b,u++[x],v++[y],by simp,by simp,h3⟩
theorem Bef.same{p:List Nat}{x y:Nat}(h:x<y):Bef (p++[x]) (p++[y]):= .inr ⟨by simp,p,x,y,[],[],rfl,rfl,h⟩
section
variable{N:List (List Nat)}{r t:Nat}
theorem Pth.ne{p:List Nat}(h:Pth N r p):p≠[]:=by cases h<;>simp
theorem Pth.head{p:List Nat}(h:Pth N r p):p[0]?=some r:=by
 induction h with
 |one=>rfl|go h _ _ ih=>rw[yAk (List.length_pos_iff.2 h.ne)];exact ih
theorem Pth.lt{n:Nat}{p:List Nat}(h:Pth N r p)(hr:r<n)(hn:∀i,∀j∈row N i,j<n):∀x∈p,x<n:=by
 induction h with
 |one=>simpa using hr|go h h2 _ ih =>
   intro x hx;rcases yAp.1 hx with hx|hx;·exact ih x hx
   ·simp at hx;subst hx;exact hn _ _ h2
structure Iv (N:List (List Nat)) (r t k:Nat) (PL out:List (List Nat)):Prop where
 first:[r]∈PL
 pth:∀p∈PL,Pth N r p
 ord:PL.Pairwise Bef
 fr:∀q∈PL,q=[r]\/∃m p j,m<k/\PL[m]?=some p/\q=p++[j]
 clo:∀m p,m<k->PL[m]?=some p->∀j∈row N (zyy p),j∉p->p++[j]∈PL
 out:out=(PL.take k).filter λp=>decide (zyy p=t)
theorem zzE{p js q:List Nat}:q∈zyw p js↔∃j∈js,j∉p/\q=p++[j]:=by
 unfold zyw;simp only[yBw,yAO,decide_eq_true_eq];constructor
 ·rintro ⟨j,⟨h1,h2⟩,rfl⟩;exact ⟨j,h1,h2,rfl⟩
 ·rintro ⟨j,h1,h2,rfl⟩;exact ⟨j,⟨h1,h2⟩,rfl⟩
theorem Iv.start:Iv N r t 0 [[r]] [] :=
 ⟨by simp,λp hp=>by simp at hp;subst hp;exact .one,by simp,λq hq=>.inl (by simpa using hq),λm p hm=>by omega,by simp⟩
theorem Iv.step(hs:∀i,(row N i).Pairwise (· < ·)){k:Nat}{PL out:List (List Nat)}(h:Iv N r t k PL out){p:List Nat}(hp:PL[k]?=some p) :
  Iv N r t (k+1) (PL++zyw p (row N (zyy p))) (if zyy p=t then out++[p] else out):=by
 obtain ⟨hk,hpk⟩:=yAc.1 hp;have hP:=h.pth p (yAb hp);refine ⟨by simp[h.first],λq hq=>?_,?_,λq hq=>?_,λm q hm hq j hj hjq=>?_,?_⟩
 ·rcases yAp.1 hq with hq|hq;·exact h.pth q hq
  ·obtain ⟨j,h1,h2,rfl⟩:=zzE.1 hq;exact hP.go h1 h2
 ·refine List.pairwise_append.2 ⟨h.ord,?_,λq hq q' hq'=>?_⟩;·unfold zyw;rw[yA6];exact ((hs _).filter _).imp λh=>.same h
  ·obtain ⟨j,h1,h2,rfl⟩:=zzE.1 hq';rcases h.fr q hq with rfl|⟨m,p',j',hm,hpm,rfl⟩;·exact .inl (by have:=List.length_pos_iff.2 hP.ne;simp;omega)
   ·obtain ⟨hm',e⟩:=yAc.1 hpm;have:=yAH.1 h.ord m k hm' hk hm;rw[e,hpk] at this;exact this.app _ _
 ·rcases yAp.1 hq with hq|hq
  ·rcases h.fr q hq with h1|⟨m,p',j,hm,h2,h3⟩;·exact .inl h1
   ·exact .inr ⟨m,p',j,by omega,by rw[yAk (yAc.1 h2).1];exact h2,h3⟩
  ·obtain ⟨j,h1,h2,rfl⟩:=zzE.1 hq;exact .inr ⟨k,p,j,by omega,by rw[yAk hk];exact hp,rfl⟩
 ·rw[yAk (by omega)] at hq;by_cases hmk:m=k;·subst hmk;rw[hp] at hq;cases hq;exact yB5 _ (zzE.2 ⟨j,hj,hjq,rfl⟩)
  ·exact yBP _ (h.clo m q (by omega) hq j hj hjq)
 ·rw[List.take_append_of_le_length (by omega),yBQ hk,List.filter_append,<-h.out,hpk];by_cases hi:zyy p=t;·rw[if_pos hi];simp[hi]
  ·rw[if_neg hi];simp[hi]
theorem zzT(hs:∀i,(row N i).Pairwise (· < ·)){most:Int}:∀(f k:Nat)(PL out l:List (List Nat)),Iv N r t k PL out->idl N t most f k PL out=some l->∃k' PL',Iv N r t k' PL' l/\(PL'.length<=k'\/l≠[]):=by
 intro f;induction f with
 |zero=>intro k PL out l _ h;cases h
 |succ f ih =>
   intro k PL out l hI h;rw[idl] at h;cases hp:PL[k]? with
   |none=>rw[hp] at h;cases h;exact ⟨k,PL,hI,.inl (List.getElem?_eq_none_iff.1 hp)⟩|some p =>
     rw[hp] at h;dsimp only at h;have hI':=hI.step hs hp;by_cases h0:k=200000;·rw[if_pos h0] at h;cases h
     ·rw[if_neg h0] at h;by_cases hi:zyy p=t
      ·rw[if_pos hi] at h hI';by_cases hm:(out.length:Int)+1=most;·rw[if_pos hm] at h;cases h;exact ⟨_,_,hI',.inr (by simp)⟩
       ·rw[if_neg hm] at h;exact ih _ _ _ _ hI' h
      ·rw[if_neg hi] at h hI';exact ih _ _ _ _ hI' h
theorem Iv.told{k:Nat}{PL out:List (List Nat)}(h:Iv N r t k PL out):(∀p∈out,Pth N r p/\zyy p=t)/\out.Pairwise Bef:=by
 rw[h.out];refine ⟨λp hp=>?_,?_⟩;·obtain ⟨h1,h2⟩:=yAO.1 hp;exact ⟨h.pth p (List.mem_of_mem_take h1),by simpa using h2⟩
 ·exact (h.ord.sublist (List.take_sublist _ _)).filter _
theorem Iv.all{k:Nat}{PL out:List (List Nat)}(h:Iv N r t k PL out){q:List Nat}(hq:Pth N r q):q∈PL\/∃p∈PL.drop k,p <+: q:=by
 induction hq with
 |one=>exact .inl h.first|@go p j hp h2 h3 ih =>
   rcases ih with ih|⟨p',h4,h5⟩
   ·obtain ⟨m,hm⟩:=yAl ih;by_cases hmk:m<k;·exact .inl (h.clo m p hmk hm j h2 h3)
    ·refine .inr ⟨p,yAb (i:=m - k) ?_,List.prefix_append _ _⟩;rw[yAu,show k+(m - k)=m by omega];exact hm
   ·exact .inr ⟨p',h4,h5.trans (List.prefix_append _ _)⟩
theorem Iv.lst{k:Nat}{PL out:List (List Nat)}(h:Iv N r t k PL out)(he:PL.length<=k\/out≠[]){q:List Nat}(hq:Pth N r q)(hqt:zyy q=t)
  (hmin:∀p,Pth N r p->zyy p=t->q.length<=p.length/\(p.length=q.length->¬lx p q)):out[0]?=some q:=by
 have hbef:∀p,Pth N r p->zyy p=t->¬Bef p q:=λp h1 h2 h3=>by
  obtain ⟨h4,h5⟩:=hmin p h1 h2;rcases h3 with h3|⟨h3,h6⟩;·omega
  ·exact h5 h3 h6
 have hne:out≠[]:=by
  rcases he with he|he
  ·rcases h.all hq with h1|⟨p,h1,_⟩;·rw[h.out,yA7 he];exact List.ne_nil_of_mem (yAO.2 ⟨h1,by simpa using hqt⟩)
   ·rw[yBm he] at h1;simp at h1
  ·exact he
 obtain ⟨t1,t2⟩:=h.told;obtain ⟨f,rest,ho⟩:∃f rest,out=f::rest:=by cases out with|nil=>exact absurd rfl hne|cons f rest=>exact ⟨f,rest,rfl⟩
 obtain ⟨f1,f2⟩:=t1 f (by rw[ho];simp);have hf:f∈PL.take k:=by
  have:f∈out:=by rw[ho];simp
  rw[h.out] at this;exact (yAO.1 this).1
 have hd:∀p∈PL.drop k,Bef f p:=λp hp=>by have:=h.ord;rw[<-List.take_append_drop k PL] at this;exact (List.pairwise_append.1 this).2.2 f hf p hp
 have hfq:f=q:=by
  refine Classical.byContradiction λhfq=>?_;rcases h.all hq with h1|⟨p,h1,h2⟩
  ·rw[<-List.take_append_drop k PL] at h1;rcases yAp.1 h1 with h1|h1
   ·have:q∈out:=by rw[h.out];exact yAO.2 ⟨h1,by simpa using hqt⟩
    rw[ho] at this t2;rcases yAm.1 this with h3|h3;·exact hfq h3.symm
    ·exact hbef f f1 f2 (List.rel_of_pairwise_cons t2 h3)
   ·exact hbef f f1 f2 (hd q h1)
  ·have h3:=hd p h1;have h4:=h2.length_le;have h5:=(hmin f f1 f2).1;have:p=q:=h2.eq_of_length (by have:=h3.le;omega);subst this;exact hbef f f1 f2 h3
 rw[ho,hfq];rfl
end
end Pe.Tryz
end
section
/- Distances are the shortest ones; the walk along them is the first path. -/
set_option maxRecDepth 100000
namespace Pe.Bfs
section
variable{next:List (List Nat)}{from_:Nat}{wo:Int}
structure ShM (next:List (List Nat)) (wo:Int) (d:List Int) (i:Nat) (q done:List Nat):Prop where
 pos:0<=dAt d i
 asc:q.Pairwise λa b=>dAt d a<=dAt d b
 ge:∀a∈q,dAt d i<=dAt d a
 top:∀j,0<=dAt d j->dAt d j<=dAt d i+1
 cl:∀a,0<=dAt d a->a∈i::q\/∀j∈row next a,(0<=dAt d j/\dAt d j<=dAt d a+1)\/(j:Int)=wo
 dn:∀j∈done,0<=dAt d j\/(j:Int)=wo
structure Sh (next:List (List Nat)) (wo:Int) (d:List Int) (q:List Nat):Prop where
 pos:∀a∈q,0<=dAt d a
 asc:q.Pairwise λa b=>dAt d a<=dAt d b
 top:∀i∈q.head?,∀j,0<=dAt d j->dAt d j<=dAt d i+1
 cl:∀a,0<=dAt d a->a∈q\/∀j∈row next a,(0<=dAt d j/\dAt d j<=dAt d a+1)\/(j:Int)=wo
theorem ShM.push{d:List Int}{i:Nat}{q done:List Nat}(h:ShM next wo d i q done){j:Nat}(hj:j<d.length) :
  ShM next wo (push wo (dAt d i+1) (d,q) j).1 i (push wo (dAt d i+1) (d,q) j).2 (done++[j])/\dAt (push wo (dAt d i+1) (d,q) j).1 i=dAt d i/\(push wo (dAt d i+1) (d,q) j).1.length=d.length:=by
 unfold Bfs.push;by_cases hc:dAt d j<0/\(j:Int)≠wo
 ·rw[show (decide (dAt d j<0)&&((j:Int) != wo))=true by simp[hc.1,hc.2]];simp only[cond_true];have hs:∀k,dAt (d.set j (dAt d i+1)) k=if k=j then dAt d i+1 else dAt d k:=λk=>zmf hj
  have keep:∀k,0<=dAt d k->dAt (d.set j (dAt d i+1)) k=dAt d k:=λk hk=>by rw[hs,if_neg λe=>by subst e;omega]
  have hp:=h.pos;have hq:∀a∈q,0<=dAt d a:=λa ha=>by have:=h.ge a ha;omega
  have hi:=keep i hp;refine ⟨⟨by omega,?_,λa ha=>?_,λk hk=>?_,λa ha=>?_,λk hk=>?_⟩,hi,by simp⟩
  ·refine List.pairwise_append.2 ⟨h.asc.imp_of_mem λ{a b} ha hb hab=>?_,by simp,λa ha b hb=>?_⟩;·rw[keep a (hq a ha),keep b (hq b hb)];exact hab
   ·simp at hb;subst hb;rw[keep a (hq a ha),hs,if_pos rfl];exact h.top a (hq a ha)
  ·rw[hi];rcases yAp.1 ha with ha|ha;·rw[keep a (hq a ha)];exact h.ge a ha
   ·simp at ha;subst ha;rw[hs,if_pos rfl];omega
  ·rw[hi];rw[hs] at hk ⊢;split;·omega
   ·rename_i hkj;rw[if_neg hkj] at hk;exact h.top k hk
  ·by_cases haj:a=j;·left;simp[haj]
   ·rw[hs,if_neg haj] at ha;rcases h.cl a ha with h1|h1;·left;rcases yAm.1 h1 with rfl|h1<;>simp[*]
    ·right;intro k hk;rcases h1 k hk with h2|h2;·left;rw[keep k h2.1,keep a ha];exact h2
     ·exact .inr h2
  ·rcases yAp.1 hk with hk|hk
   ·rcases h.dn k hk with h1|h1;·left;rw[keep k h1];exact h1
    ·exact .inr h1
   ·simp at hk;subst hk;left;rw[hs,if_pos rfl];omega
 ·rw[show (decide (dAt d j<0)&&((j:Int) != wo))=false by rw[Bool.eq_false_iff];intro he;simp at he;exact hc he];simp only[cond_false];refine ⟨⟨h.pos,h.asc,h.ge,h.top,h.cl,λk hk=>?_⟩,by simp⟩;rcases yAp.1 hk with hk|hk;·exact h.dn k hk
  ·simp at hk;subst hk;by_cases h1:dAt d k<0;·right;exact Classical.byContradiction λh2=>hc ⟨h1,h2⟩
   ·left;omega
theorem ShM.fold{v:Int}{i:Nat}:∀(l:List Nat){d:List Int}{q done:List Nat},ShM next wo d i q done->v=dAt d i+1->(∀j∈l,j<d.length) ->
  ShM next wo (l.foldl (Bfs.push wo v) (d,q)).1 i (l.foldl (Bfs.push wo v) (d,q)).2 (done++l)
 |[],d,q,done,h,_,_=>by simpa using h
 |j::l,d,q,done,h,hv,hl=>by
   subst hv;obtain ⟨h1,h2,h3⟩:=h.push (hl j (by simp));have:=ShM.fold l h1 (v:=dAt d i+1) (by rw[h2]) λm hm=>by rw[h3];exact hl m (by simp[hm])
   rw[yCd];simpa using this
theorem Sh.round{d:List Int}{i:Nat}{q:List Nat}(h:Sh next wo d (i::q))(hl:∀j∈row next i,j<d.length):Sh next wo (round next wo (d,q) i).1 (round next wo (d,q) i).2:=by
 have ha:=yBU.1 h.asc;have hM:ShM next wo d i q []:=⟨h.pos i (by simp),ha.2,ha.1,h.top i (by simp),h.cl,by simp⟩
 have h1:=ShM.fold (row next i) hM rfl hl;unfold Bfs.round;dsimp only;refine ⟨λa ha=>by have:=h1.ge a ha;have:=h1.pos;omega,h1.asc,λa ha j hj=>?_,λa ha=>?_⟩;·have h2:=h1.top j hj;have h3:=h1.ge a (List.mem_of_mem_head? ha);omega
 ·rcases h1.cl a ha with h2|h2
  ·rcases yAm.1 h2 with rfl|h2
   ·right;intro j hj;rcases h1.dn j (by simpa using hj) with h3|h3;·exact .inl ⟨h3,h1.top j h3⟩
    ·exact .inr h3
   ·exact .inl h2
  ·exact .inr h2
theorem zzQ(hn:∀i,∀j∈row next i,j<next.length):∀(n:Nat){d:List Int}{q:List Nat},Ok next from_ wo d q->Sh next wo d q->neg d+q.length<=n->Sh next wo (run next wo n d q) []
 |n,d,[],_,h,_=>by
   have:run next wo n d []=d:=by cases n<;>rfl
   rw[this];exact h
 |0,d,i::q,_,h,hm=>by simp at hm
 |n+1,d,i::q,ho,h,hm=>by obtain ⟨h1,h2⟩:=zgn hn ho;exact zzQ hn n h1 (h.round λj hj=>by rw[ho.len];exact hn i j hj) (by simp only[yAw] at h2 hm;omega)
theorem zzR(hn:∀i,∀j∈row next i,j<next.length)(hf:from_<next.length)(hw:(from_:Int)≠wo){i j:Nat}(hi:0<=dAt (zeI next from_ wo) i)(hj:j∈row next i)(hjw:(j:Int)≠wo):0<=dAt (zeI next from_ wo) j/\dAt (zeI next from_ wo) j<=dAt (zeI next from_ wo) i+1:=by
 have h:Sh next wo (zeI next from_ wo) []:=by
  unfold zeI;rw[show ((from_:Int)==wo)=false by simpa using hw,cond_false];obtain ⟨h1,h2⟩:=zha (next:=next) hf hw;refine zzQ hn _ h1 ⟨h1.queue,by simp,λa ha j hj=>?_,λa ha=>?_⟩ (by simp;omega)
  ·simp at ha;subst ha;rcases h1.src j hj with ⟨_,h3⟩|⟨h3,m,h4,h5⟩;·rw[h3,h1.home];omega
   ·exfalso;have hrep:dAt (start next.length from_) j=if j=from_ then 0 else -1:=by
     unfold start;rw[zmf (by simpa using hf)];congr 1;unfold dAt;rw[yBt];split<;>rfl
    rw[hrep] at h3;split at h3<;>omega
  ·left;have hrep:dAt (start next.length from_) a=if a=from_ then 0 else -1:=by
    unfold start;rw[zmf (by simpa using hf)];congr 1;unfold dAt;rw[yBt];split<;>rfl
   rw[hrep] at ha;split at ha;·simp[*]
   ·omega
 rcases h.cl i hi with h1|h1;·simp at h1
 ·exact (h1 j hj).resolve_right hjw
end
end Pe.Bfs
namespace Pe.Tryz
open Pe Pe.Bfs
section
variable{N:List (List Nat)}{d:List Int}{r t:Nat}
def Ed(N:List (List Nat)):List Nat->Prop|[]=>True|[_]=>True|a::b::l=>b∈row N a/\Ed N (b::l)
theorem Ed.app:∀{p:List Nat}{j:Nat},Ed N p->(p≠[]->j∈row N (zyy p))->Ed N (p++[j])|[],_,_,_=>trivial|[a],j,_,h=>⟨h (by simp),trivial⟩|a::b::l,j,h,h2=>⟨h.1,Ed.app (p:=b::l) h.2 λ_=>h2 (by simp)⟩
theorem Ed.of_app:∀{p:List Nat}{j:Nat},Ed N (p++[j])->Ed N p/\(p≠[]->j∈row N (zyy p))|[],_,_=>⟨trivial,λh=>absurd rfl h⟩|[a],j,h=>⟨trivial,λ_=>h.1⟩|a::b::l,j,h=>by obtain ⟨h1,h2⟩:=Ed.of_app (p:=b::l) h.2;exact ⟨⟨h.1,h1⟩,λ_=>h2 (by simp)⟩
theorem Pth.ed{p:List Nat}(h:Pth N r p):Ed N p:=by
 induction h with
 |one=>trivial|go _ h2 _ ih=>exact ih.app λ_=>h2
theorem zzJ:∀(n:Nat){a:Nat}{l:List Nat},l.length<=n->Ed N (a::l)->(a::l).Nodup->Pth N a (a::l)
 |0,a,l,hl,_,_=>by obtain rfl:l=[]:=yAU.1 (by omega);exact .one
 |n+1,a,l,hl,he,hd=>by
   rcases List.eq_nil_or_concat l with rfl|⟨l',x,rfl⟩;·exact .one
   ·rw[List.concat_eq_append] at *
    rw[<-yA3] at he hd ⊢;obtain ⟨h1,h2⟩:=he.of_app;obtain ⟨h3,_,h4⟩:=List.nodup_append.1 hd;exact (zzJ n (by simp at hl;omega) h1 h3).go (h2 (by simp)) λhx=>h4 x hx x (by simp) rfl
theorem zzP(h0:dAt d t=0)(hb:∀x y,y∈row N x->0<=dAt d y->0<=dAt d x/\dAt d x<=dAt d y+1):∀(l:List Nat)(a:Nat),Ed N (a::l)->zyy (a::l)=t->0<=dAt d a/\dAt d a<=l.length
 |[],a,_,h=>by obtain rfl:a=t:=h;rw[h0];simp
 |b::l,a,h,hl=>by obtain ⟨h1,h2⟩:=zzP h0 hb l b h.2 hl;obtain ⟨h3,h4⟩:=hb a b h.1 h1;exact ⟨h3,by simp only[yAw];omega⟩
theorem zzF(k n:Nat):∃l,walk N d k n=n::l:=by cases k<;>exact ⟨_,rfl⟩
theorem zzH(hD:Down N d t):∀(k n:Nat),dAt d n=(k:Int)->Ed N (walk N d k n)/\(walk N d k n).Nodup/\zyy (walk N d k n)=t/\(walk N d k n).length=k+1/\∀x∈walk N d k n,dAt d x<=(k:Int)
 |0,n,h=>⟨trivial,by simp[walk],(hD.zero n).1 h,rfl,λx hx=>by simp[walk] at hx;subst hx;omega⟩|k+1,n,h=>by
   obtain ⟨m,_,h2,h3,h4,_⟩:=hD.next (n:=n) (by omega);obtain ⟨q1,q2,q3,q4,q5⟩:=zzH hD k (zgv N d n) (by omega);obtain ⟨l,hl⟩:=zzF (N:=N) (d:=d) k (zgv N d n);refine ⟨?_,?_,?_,by simp[walk,q4],λx hx=>?_⟩;·rw[walk,hl];exact ⟨yAb h3,by rw[<-hl];exact q1⟩
   ·rw[walk];exact yA2.2 ⟨λhx=>by have:=q5 n hx;omega,q2⟩
   ·rw[walk,hl];rw[hl] at q3;exact q3
   ·rw[walk] at hx;rcases yAm.1 hx with rfl|hx;·omega
    ·have:=q5 x hx;omega
theorem zzG(hD:Down N d t)(hb:∀x y,y∈row N x->0<=dAt d y->0<=dAt d x/\dAt d x<=dAt d y+1)(hs:∀i,(row N i).Pairwise (· < ·)):∀(k a:Nat)(l:List Nat),l.length=k->dAt d a=(k:Int)->Ed N (a::l)->zyy (a::l)=t->¬lx (a::l) (walk N d k a)
 |0,a,l,hl,_,_,_=>by obtain rfl:l=[]:=yAU.1 hl;exact zzS
 |k+1,a,[],hl,_,_,_=>by simp at hl
 |k+1,a,b::l,hl,hd,he,ht=>by
   rintro ⟨c,x,y,u,v,h1,h2,h3⟩
   cases c with
   |nil =>rw[walk] at h2;simp at h1 h2;omega|cons a' c =>
     rw[walk] at h2;simp only[yA3,yBB] at h1 h2;obtain ⟨_,h1⟩:=h1;obtain ⟨_,h2⟩:=h2;have hl':l.length=k:=by simpa using hl
     have h0:dAt d t=0:=(hD.zero t).2 rfl;obtain ⟨b1,b2⟩:=zzP h0 hb l b he.2 ht;obtain ⟨_,b3⟩:=hb a b he.1 b1;obtain ⟨m,n1,n2,n3,n4,_⟩:=hD.next (n:=a) (by omega);by_cases hbn:b=zgv N d a;·subst hbn;exact zzG hD hb hs k _ l hl' (by omega) he.2 ht ⟨c,x,y,u,v,h1,h2,h3⟩
     ·obtain ⟨l2,hl2⟩:=zzF (N:=N) (d:=d) k (zgv N d a);rw[hl2] at h2;cases c with
      |cons z c =>simp only[yA3,yBB] at h1 h2;exact hbn (h1.1.trans h2.1.symm)|nil =>
        simp only[yBb,yBB] at h1 h2;obtain ⟨m',hm',e⟩:=yBH he.1;obtain ⟨g1,g2,g3⟩:=yBv.1 n1;have hmm:¬m'<m:=λhlt=>by have:=g3 m' hlt;rw[e] at this;simp at this;omega
        have e2:zgv N d a=(row N a)[m]:=(by rw[yAe n2] at n3;simpa using n3.symm);by_cases hm2:m'=m;·subst hm2;exact hbn (by rw[e2,e])
        ·have:=yAH.1 (hs a) m m' n2 hm' (by omega);omega
theorem Iv.wlk(hD:Down N d t)(hb:∀x y,y∈row N x->0<=dAt d y->0<=dAt d x/\dAt d x<=dAt d y+1)(hs:∀i,(row N i).Pairwise (· < ·)){k k':Nat}{PL out:List (List Nat)}(h:Iv N r t k PL out)(he:PL.length<=k\/out≠[])(hr:dAt d r=(k':Int)):out[0]?=some (walk N d k' r):=by
 obtain ⟨w1,w2,w3,w4,w5⟩:=zzH hD k' r hr;obtain ⟨l,hl⟩:=zzF (N:=N) (d:=d) k' r;refine h.lst he (q:=Bfs.walk N d k' r) ?_ w3 λp hp hpt=>?_;·rw[hl] at w1 w2 ⊢;exact zzJ _ (yAi _) w1 w2
 ·have hh:=hp.head;obtain ⟨a,l',rfl⟩:∃a l',p=a::l':=by cases p with|nil=>exact absurd rfl hp.ne|cons a l'=>exact ⟨a,l',rfl⟩
  simp at hh;subst hh;have h1:=zzP ((hD.zero t).2 rfl) hb l' a hp.ed hpt;refine ⟨by rw[w4];simp;omega,λe=>zzG hD hb hs k' a l' (by rw[w4] at e;simpa using e) hr hp.ed hpt⟩
theorem Iv.no(h0:dAt d t=0)(hb:∀x y,y∈row N x->0<=dAt d y->0<=dAt d x/\dAt d x<=dAt d y+1){k:Nat}{PL out:List (List Nat)}(h:Iv N r t k PL out)(hr:dAt d r<0):out=[]:=by
 refine List.eq_nil_iff_forall_not_mem.2 λp hp=>?_;obtain ⟨h1,h2⟩:=h.told.1 p hp;have hh:=h1.head;obtain ⟨a,l',rfl⟩:∃a l',p=a::l':=by cases p with|nil=>exact absurd rfl h1.ne|cons a l'=>exact ⟨a,l',rfl⟩
 simp at hh;subst hh;have:=zzP h0 hb l' a h1.ed h2;omega
end
end Pe.Tryz
end
section
/- Gates stand on each path, in one order. -/
set_option maxRecDepth 100000
namespace Pe.Tryz
open Pe Pe.Bfs
section
variable{N:List (List Nat)}{d:List Int}{r t:Nat}{wo:Int}
theorem Ed.split:∀{A:List Nat}{x:Nat}{B:List Nat},Ed N (A++x::B)↔Ed N (A++[x])/\Ed N (x::B)|[],x,B=>⟨λh=>⟨trivial,h⟩,λh=>h.2⟩|[a],x,B=>⟨λh=>⟨⟨h.1,trivial⟩,h.2⟩,λh=>⟨h.1.1,h.2⟩⟩|a::b::A,x,B=>by have:=Ed.split (A:=b::A) (x:=x) (B:=B);exact ⟨λh=>⟨⟨h.1,(this.1 h.2).1⟩,(this.1 h.2).2⟩,λh=>⟨h.1.1,this.2 ⟨h.1.2,h.2⟩⟩⟩
theorem zzZ(hc:∀i,0<=dAt d i->∀j∈row N i,0<=dAt d j\/(j:Int)=wo):∀(l:List Nat)(a:Nat),0<=dAt d a->Ed N (a::l)->(∀x∈l,(x:Int)≠wo)->0<=dAt d (zyy (a::l))|[],a,h,_,_=>h|b::l,a,h,he,hw=>zzZ hc l b ((hc a h b he.1).resolve_right (hw b (by simp))) he.2 λx hx=>hw x (by simp[hx])
def Gate(N:List (List Nat))(r t g:Nat):Prop:=∀q,Ed N q->q[0]?=some r->zyy q=t->g∈q
theorem zzV(A:List Nat)(x:Nat)(B:List Nat):zyy (A++x::B)=zyy (x::B):=by unfold zyy;simp[List.getLastD_eq_getLast?,List.getLast?_append,List.getLast?_cons]
theorem zzX{P Q:List Nat}(hP:Ed N P)(hPt:zyy P=t)(hPd:P.Nodup)(hQ:Ed N Q)(hQr:Q[0]?=some r)(hQt:zyy Q=t){G:Nat->Bool}(hG:∀g,G g=true->Gate N r t g):(P.filter G).Pairwise λa b=>Q.idxOf a<Q.idxOf b:=by
 refine List.pairwise_filter.2 (yAH.2 λi j hi hj hij h1 h2=>?_);have e:P=P.take j++P[j]::P.drop (j+1):=by rw[List.getElem_cons_drop,List.take_append_drop]
 have hm:P[i]∈P.take j:=List.mem_take_iff_getElem.2 ⟨i,by omega,rfl⟩;obtain ⟨A,B,hq,hj2⟩:=List.eq_append_cons_of_mem (hG _ h2 Q hQ hQr hQt);have hA:P[i]∈A:=by refine Classical.byContradiction λhn=>?_;rw[e] at hP hPt;rw[hq] at hQ;have he:Ed N (A++P[j]::P.drop (j+1)):=Ed.split.2 ⟨(Ed.split.1 hQ).1,(Ed.split.1 hP).2⟩;have h3:=hG _ h1 _ he (by rw[hq] at hQr;cases A<;>exact hQr) (by rw[zzV] at hPt ⊢;exact hPt);rw[e] at hPd;exact (List.nodup_append.1 hPd).2.2 _ hm _ ((yAp.1 h3).resolve_left hn) rfl
 rw[hq,List.idxOf_append,List.idxOf_append,if_pos hA,if_neg hj2];have:=List.idxOf_lt_length_of_mem hA;omega
end
end Pe.Tryz
end
section
/- Needs and NeededBy of both sides. -/
set_option maxRecDepth 100000
namespace Pe.Tryz
open Go Go.Proofs Pe Pe.Bfs
variable{chk:Gt.Bill->Int}{orc:Orc Sx}
end Pe.Tryz
end
section
/- Each path that is told is a path: the law. -/
set_option maxRecDepth 100000
namespace Pe.Tryz
open Go Go.Proofs Pe Pe.Bfs Go.Proofs.YtojfjgjdheiffaaGreatDoor
variable{chk:Gt.Bill->Int}{orc:Orc Sx}
theorem m33_eq'(orc:Orc Sx)(s:List By)(v:By)(hs:s.length<=1000000):m33 orc s v=some ((match s.findIdx? (λy=>v==y) with|some k=>(k:Int)|none=> -1),()):=by
 unfold m33;rw[zei s (λy=>v==y) (λk=>(.inr ((k:Int),()):Unit⊕(Int×Unit))) (.inl ()) (λk hk=>?_) ?_];·cases s.findIdx? (λy=>v==y)<;>rfl
 ·dsimp only;rw[show decide ((s.length:Int)<len s)=false from by simp[len],zab]
 ·dsimp only;rw[show decide ((k:Int)<len s)=true from by simp[len];exact hk,zac,zan hk,zaa];cases hv:v==s[k] with
  |true=>rw[zac,if_pos rfl]|false=>rw[zab,if_neg (by simp),zaf hk (by omega)]
theorem m32_eq'{orc':Orc Sx}(h33:∀(s:List By)(v:By),orc.d 33 [.sl .str s,.str v] [I6]=(m33 orc' s v:Option (Int×Unit)))(s:List By)(v:By)(hs:s.length<=1000000):m32 orc s v=some (decide (v∈s),()):=by
 unfold m32;rw[h33,m33_eq' _ _ _ hs,zaa];cases h:s.findIdx? (λy=>v==y) with
 |none =>
   have:v∉s:=λhm=>by have:=yBA.1 h v hm;simp at this
   simp[this]
 |some k =>
   obtain ⟨h1,h2,_⟩:=yBv.1 h;have:v∈s:=by rw[show v=s[k] from by simpa using h2];exact yAy h1
   simp[this]
theorem zzK{b:Gt.Bill}(hb:Right b){p:List Nat}{i:Nat}(hp:∀x∈p,x<b.components.length)(hi:i<b.components.length):cR b i∈zbd b p↔i∈p:=by unfold zbd;rw[yBw];exact ⟨λ⟨x,h1,h2⟩=>by rw[<-hb.ref_inj (hp x h1) hi h2];exact h1,λh=>⟨i,h,rfl⟩⟩
theorem Right.outs_lt{b:Gt.Bill}(hb:Right b)(scope:Int)(i:Nat):(row (outs b scope) i).Pairwise (· < ·):=by
 have hE:=hb.edges scope;have h:zpW cI (ofN (row (outs b scope) i)):=by unfold outs;rw[(hE.web_row.2.2 i).1];exact (hE.out_eq i).2.1
 unfold zpW ofN at h;rw[yA6] at h;exact h.imp λ{a b} h=>by simp only[cI] at h;omega
theorem Right.back{b:Gt.Bill}(hb:Right b)(scope:Int){t:Nat}(ht:t<b.components.length)(x y:Nat)(h:y∈row (outs b scope) x)(hy:0<=dAt (left b scope t) y):0<=dAt (left b scope t) x/\dAt (left b scope t) x<=dAt (left b scope t) y+1:=by obtain ⟨w1,w2,w3,w4,w5⟩:=hb.web scope;exact zzR w2.lt (by rw[w4];exact ht) (by omega) hy ((w5 x y).1 h) (by omega)
theorem zzL{b:Gt.Bill}(hb:Right b)(scope most:Int){t:Nat}(ht:t<b.components.length){l:List (List Nat)}(h:zyS b scope t most=some l) :
  (∀p∈l,Pth (outs b scope) (num b b.root) p/\zyy p=t)/\l.Pairwise Bef/\(if dAt (left b scope t) (num b b.root)<0 then l=[] else l[0]?=some (zbV b scope t)):=by
 obtain ⟨k,PL,h1,h2⟩:=zzT (hb.outs_lt scope) _ _ _ _ _ Iv.start h;refine ⟨h1.told.1,h1.told.2,?_⟩;have hD:=hb.down scope ht;split;·rename_i h3;exact h1.no ((hD.zero t).2 rfl) (hb.back scope ht) h3
 ·rename_i h3;exact h1.wlk hD (hb.back scope ht) (hb.outs_lt scope) h2 (by omega)
theorem zzI{b:Gt.Bill}{p:List Nat}{k:Nat}(hk:k<p.length):at? (zbd b p) (k:Int)=some (cR b p[k]):=by rw[zcV];unfold zbd;rw[yAh,yAe hk];rfl
end Pe.Tryz
end
section
/- Gates and what they keep; gates stand on each path in one order. -/
set_option maxRecDepth 100000
namespace Pe.Tryz
open Go Go.Proofs Pe Pe.Bfs Go.Proofs.YtojfjgjdheiffaaGreatDoor
section
variable{N:List (List Nat)}{r t:Nat}{wo:Int}{d:List Int}
theorem zzU(h:Ok N r wo d []){q:List Nat}(hq:Ed N q)(hqr:q[0]?=some r)(hqt:zyy q=t)(hw:∀x∈q,(x:Int)≠wo):0<=dAt d t:=by
 obtain ⟨a,l,rfl⟩:∃a l,q=a::l:=by cases q with|nil=>simp at hqr|cons a l=>exact ⟨a,l,rfl⟩
 simp at hqr;subst hqr;rw[<-hqt];exact zzZ (λi hi j hj=>((h.closed i hi).resolve_left (by simp)) j hj) l a (by rw[h.home];omega) hq λx hx=>hw x (by simp[hx])
theorem zzW(h:Ok N r wo d []):∀(k:Nat)(j:Nat),dAt d j=(k:Int)->∃q,Ed N q/\q[0]?=some r/\zyy q=j
 |0,j,hj=>by
   rcases h.src j (by omega) with ⟨rfl,_⟩|⟨h1,_⟩;·exact ⟨[j],trivial,rfl,rfl⟩
   ·omega
 |k+1,j,hj=>by
   rcases h.src j (by omega) with ⟨_,h1⟩|⟨_,i,h2,h3⟩;·omega
   ·obtain ⟨q,q1,q2,q3⟩:=zzW h k i (by omega);refine ⟨q++[j],q1.app λ_=>by rw[q3];exact h2,?_,zy3 q j⟩;rw[yAk (yAc.1 q2).1];exact q2
end
section
variable{b:Gt.Bill}(hb:Right b)(scope:Int)
include hb
theorem Right.ok{wo:Int}(hw:(num b b.root:Int)≠wo):Ok (outs b scope) (num b b.root) wo (zeI (outs b scope) (num b b.root) wo) []:=by obtain ⟨w1,w2,w3,w4,w5⟩:=hb.web scope;exact zme w1.lt (by rw[w3];exact (hb.num_lt hb.root).1) hw
theorem Right.gate{t g:Nat}(h:zli b scope t g=true):Gate (outs b scope) (num b b.root) t g:=λq h1 h2 h3=>by unfold zli at h;simp only[yAd,bne_iff_ne,decide_eq_true_eq] at h;refine Classical.byContradiction λhn=>?_;have:=zzU (hb.ok scope (wo:=(g:Int)) (by have:=h.1;omega)) h1 h2 h3 λx hx he=>hn (by rw[<-Int.ofNat.inj he];exact hx);have:=h.2.2;omega
theorem Right.path_is{t:Nat}(ht:t<b.components.length)(hp:0<=dAt (left b scope t) (num b b.root)):Ed (outs b scope) (zbV b scope t)/\(zbV b scope t).Nodup/\zyy (zbV b scope t)=t/\(zbV b scope t)[0]?=some (num b b.root):=by obtain ⟨h1,h2,h3,_⟩:=zzH (hb.down scope ht) (dAt (left b scope t) (num b b.root)).toNat (num b b.root) (by omega);exact ⟨h1,h2,h3,(hb.path_at scope ht hp).2.2⟩
theorem Right.reach{t:Nat}(ht:t<b.components.length):0<=dAt (left b scope t) (num b b.root)↔0<=dAt (zgb b scope) t:=by
 have ho:=hb.ok scope (wo:= -1) (by omega);constructor;·intro h;obtain ⟨h1,_,h3,h4⟩:=hb.path_is scope ht h;exact zzU ho h1 h4 h3 λx _=>by omega
 ·intro h;obtain ⟨q,q1,q2,q3⟩:=zzW ho (dAt (zgb b scope) t).toNat t (by unfold zgb at h ⊢;omega);obtain ⟨a,l,rfl⟩:∃a l,q=a::l:=by cases q with|nil=>simp at q2|cons a l=>exact ⟨a,l,rfl⟩
  simp at q2;subst q2;exact (zzP (((hb.down scope ht).zero t).2 rfl) (hb.back scope ht) l _ q1 q3).1
theorem Right.kept{i t:Nat}(ht:t<b.components.length)(_:i<b.components.length):i∈ze0 b scope t↔t∈zi2 b scope i:=by
 have ho:=hb.ok scope (wo:= -1) (by omega);have hre:=hb.reach scope ht;have e1:t∈zi2 b scope i↔i≠num b b.root/\0<=dAt (zgb b scope) i/\t≠i/\0<=dAt (zgb b scope) t/\dAt (zjE b scope i) t<0:=by
  unfold zi2;cases hc:(i==num b b.root)||decide (dAt (zgb b scope) i<0) with
  |true =>
    simp at hc;simp only[cond_true,yAX,false_iff]
    rintro ⟨h1,h2,_⟩
    rcases hc with h|h;·exact h1 h
    ·omega
  |false =>simp at hc;rw[cond_false,yAO];unfold zeP;simp only[yBa,ht,true_and,yAd,bne_iff_ne,decide_eq_true_eq,hc.1,ne_eq,not_false_eq_true,hc.2]
 rw[e1];unfold ze0;rw[yAO];constructor
 ·rintro ⟨h1,h2⟩
  have h3:=h2;unfold zli at h3;simp only[yAd,bne_iff_ne,decide_eq_true_eq] at h3;unfold zct at h1;cases hd:decide (dAt (left b scope t) (num b b.root)<0) with
  |true=>rw[hd,cond_true] at h1;simp at h1|false =>
    rw[hd,cond_false] at h1;have hp:0<=dAt (left b scope t) (num b b.root):=by simpa using hd
    obtain ⟨g1,_,g3,g4⟩:=hb.path_is scope ht hp;obtain ⟨A,B,e⟩:=List.append_of_mem h1;rw[e] at g1 g4;refine ⟨h3.1,zzU ho (q:=A++[i]) (Ed.split.1 g1).1 (by cases A<;>exact g4) (zy3 A i) λx _=>by omega,λe=>h3.2.1 e.symm,hre.1 hp,h3.2.2⟩
 ·rintro ⟨h1,h2,h3,h4,h5⟩
  have hp:=hre.2 h4;have hg:zli b scope t i=true:=by unfold zli;simp only[yAd,bne_iff_ne,decide_eq_true_eq];exact ⟨h1,λe=>h3 e.symm,h5⟩
  obtain ⟨g1,_,g3,g4⟩:=hb.path_is scope ht hp;refine ⟨?_,hg⟩;unfold zct;rw[decide_eq_false (by omega),cond_false];exact hb.gate scope hg _ g1 g4 g3
theorem Right.gates_on{t:Nat}(ht:t<b.components.length){p:List Nat}(hp:Pth (outs b scope) (num b b.root) p)(hpt:zyy p=t):(ze0 b scope t).Pairwise (λx y=>p.idxOf x<p.idxOf y)/\∀g∈ze0 b scope t,g∈p:=by
 refine ⟨?_,λg hg=>hb.gate scope (yAO.1 hg).2 p hp.ed hp.head hpt⟩;unfold ze0 zct;cases hd:decide (dAt (left b scope t) (num b b.root)<0) with
 |true=>simp|false =>have hp':0<=dAt (left b scope t) (num b b.root):=(by simpa using hd);obtain ⟨g1,g2,g3,g4⟩:=hb.path_is scope ht hp';exact zzX g1 g3 g2 hp.ed hp.head hpt λg hg=>hb.gate scope hg
end
end Pe.Tryz
end
section
/- Gates are kept: the law. -/
set_option maxRecDepth 100000
namespace Pe.Tryz
open Go Go.Proofs Pe Pe.Bfs Go.Proofs.YtojfjgjdheiffaaGreatDoor
theorem zzY{b:Gt.Bill}(hb:Right b){p:List Nat}(hp:∀x∈p,x<b.components.length){g k:Nat}(hg:g∈p)(hk:k<=p.idxOf g) :
  ((zbd b p).drop k).findIdx? (λy=>cR b g==y)=some (p.idxOf g - k):=by
 have hl:=List.idxOf_lt_length_of_mem hg;have hrl:(zbd b p).length=p.length:=by simp[zbd]
 have hge:∀j (hj:j<(zbd b p).length),(zbd b p)[j]=cR b (p[j]'(by omega)):=λj hj=>by simp[zbd]
 rw[yBv];refine ⟨by rw[yAL];omega,?_,λj hj=>?_⟩;·rw[List.getElem_drop,hge];simp only[show k+(p.idxOf g - k)=p.idxOf g by omega,List.getElem_idxOf];simp
 ·rw[List.getElem_drop,hge];simp only[beq_iff_eq];intro h;have h1:=hb.ref_inj (hp g hg) (hp _ (yAy _)) h;have:=List.not_of_lt_findIdx (p:=(· ==g)) (xs:=p) (i:=k+j) (show k+j<p.idxOf g by omega);simp[<-h1] at this
theorem L7{n:Nat}(hn:220<=n){b:Gt.Bill}(hb:SmB b)(one two:By)(scope:Int):m7 (zah n) b one two scope=some (true,()):=by
 obtain ⟨n,rfl⟩:∃k,n=k+220:=⟨n - 220,by omega⟩;have K:=grO (n:=n+219) (by omega) hb;have K':=grO (n:=n+218) (by omega) hb;have e32:∀(s:List By)(v:By),s.length<=1000000-> @Eq (Option (Bool×Unit)) ((zah (n+220)).d 32 [.sl .str s,.str v] [.bool]) (some (decide (v∈s),())):=λs v hs=>(q32 (n+219) _ _).trans (m32_eq' (λs v=>q33 (n+218) s v) _ _ hs);have e33:∀(s:List By)(v:By),@Eq (Option (Int×Unit)) ((zah (n+220)).d 33 [.sl .str s,.str v] [I6]) (m33 (zah (n+219)) s v):=λs v=>q33 _ _ _;have e14: @Eq (Option (List By×Int×Unit)) ((zah (n+220)).d 14 [.st 3 b,.str two,.int .i64 scope] [LS,I6]) (m14 (zah (n+219)) b two scope):=q14 _ _ _ _;have e15: @Eq (Option (List By×Int×Unit)) ((zah (n+220)).d 15 [.st 3 b,.str two,.int .i64 scope] [LS,I6]) (m15 (zah (n+219)) b two scope):=q15 _ _ _ _;have e16: @Eq (Option (List By×Int×Unit)) ((zah (n+220)).d 16 [.st 3 b,.str one,.int .i64 scope] [LS,I6]) (m16 (zah (n+219)) b one scope):=q16 _ _ _ _;have e17: @Eq (Option (List By×Int×Unit)) ((zah (n+220)).d 17 [.st 3 b,.str one,.int .i64 scope] [LS,I6]) (m17 (zah (n+219)) b one scope):=q17 _ _ _ _;have e29: @Eq (Option (List (List By)×Int×Unit)) ((zah (n+220)).d 29 [.st 3 b,.str two,.int .i64 scope,.int .i64 20] [.sl LS,I6]) (m29 (zah (n+219)) b two scope 20):=q29 _ _ _ _ _;have h116:∀(L:List Gt.Bom_beginning)(k j:Int),(zah (n+219)).d 116 [.sl (.st 12) L,.int .i64 k,.int .i64 j] [.bool]=(m116 (zah (n+218)) L k j:Option (Bool×Unit)):=λL k j=>q116 _ _ _ _;have e19:=L19 (n:=n+220) (by omega);have h28:=λ(b:Gt.Bill) (r:By) (scope:Int)=>q28 (n+218) b r scope;unfold m7;rw[e14,e15,e16,e17,e29];by_cases hbad:za5 zfo b two scope≠0\/za5 zfo b one scope≠0
 ·obtain ⟨x,f14,f15⟩:∃x,m14 (zah (n+219)) b two scope=some (x,za5 zfo b two scope,())/\m15 (zah (n+219)) b two scope=some (x,za5 zfo b two scope,()):=by
   by_cases he:za5 zfo b two scope=0;·exact ⟨_,by rw[(m14_eq' K two scope).1 he,he],by rw[(m15_eq' K K' h28 two scope).1 he,he]⟩
   ·exact ⟨_,(m14_eq' K two scope).2 he,(m15_eq' K K' h28 two scope).2 he⟩
  obtain ⟨y,f16,f17⟩:∃y,m16 (zah (n+219)) b one scope=some (y,za5 zfo b one scope,())/\m17 (zah (n+219)) b one scope=some (y,za5 zfo b one scope,()):=by
   by_cases he:za5 zfo b one scope=0;·exact ⟨_,by rw[(m16_eq' K one scope).1 he,he],by rw[(m17_eq' K one scope).1 he,he]⟩
   ·exact ⟨_,(m16_eq' K one scope).2 he,(m17_eq' K one scope).2 he⟩
  rw[f14,f15,f16,f17];simp only[zaa];rw[zai,show (bif za5 zfo b two scope != 0 then true else za5 zfo b one scope != 0)=true from by rw[zbS];simpa using hbad,zaa,zac];simp only[beq_self_eq_true,zac,zaa];rw[e19];rfl
 have he2:za5 zfo b two scope=0:=Classical.byContradiction λh=>hbad (.inl h);have he1:za5 zfo b one scope=0:=Classical.byContradiction λh=>hbad (.inr h);obtain ⟨hR,hr2⟩:=zjc K he2;obtain ⟨_,hr1⟩:=zjc K he1;obtain ⟨ht,htr⟩:=hR.num_lt hr2;obtain ⟨hi,hir⟩:=hR.num_lt hr1;obtain ⟨w1,w2,w3,w4,w5⟩:=hR.web scope;obtain ⟨hrt,hrr⟩:=hR.num_lt hR.root;have hrl:∀p,(zbd b p).length=p.length:=λp=>by simp[zbd]
 have gl:∀g∈ze0 b scope (num b two),g<b.components.length:=λg hg=>(hR.path_lt scope ht).1 g (yAO.1 hg).1;have gn:(ze0 b scope (num b two)).length<=3001:=yAo (yA0 _ _) (hR.path_lt scope ht).2;have kl:∀g∈zi2 b scope (num b one),g<b.components.length:=λg hg=>by
  unfold zi2 at hg;cases hc:(num b one==num b b.root)||decide (dAt (zgb b scope) (num b one)<0) with
  |true=>rw[hc,cond_true] at hg;simp at hg|false=>rw[hc,cond_false] at hg;exact yBa.1 (yAO.1 hg).1
 have kn:(zi2 b scope (num b one)).length<=1000000:=by
  have h1:=hR.n;unfold zi2;cases (num b one==num b b.root)||decide (dAt (zgb b scope) (num b one)<0) with
  |true=>simp|false =>have h2:=yA0 (zeP b scope (num b one)) (List.range b.components.length);rw[yBe] at h2;rw[cond_false];omega
 rw[(m14_eq' K two scope).1 he2,(m16_eq' K one scope).1 he1];simp only[zaa];rw[show ((0:Int) != 0)=false from rfl,zab,zaa,zab];rw[e32 _ _ (by rw[hrl];omega),zaa,e32 _ _ (by rw[hrl];exact kn),zaa];have hm1:one∈zbd b (ze0 b scope (num b two))↔num b one∈ze0 b scope (num b two):=by have:=zzK hR gl hi;rwa[hir] at this
 have hm2:two∈zbd b (zi2 b scope (num b one))↔num b two∈zi2 b scope (num b one):=by have:=zzK hR kl ht;rwa[htr] at this
 dsimp only;rw[show (decide (one∈zbd b (ze0 b scope (num b two))) != decide (two∈zbd b (zi2 b scope (num b one))))=false from by rw[bne_eq_false_iff_eq,decide_eq_decide,hm1,hm2];exact hR.kept scope ht hi,zab,(m29_eq' K h116 two scope 20).1 he2];simp only[zaa];obtain ⟨l,e,hl,h0,hlp⟩:∃(l:List (List Nat)) (e:Int),zyI b scope (num b two) 20=(l.map (zbd b),e)/\(e=0\/e=12)/\l.length<=1000000/\∀p∈l,Pth (outs b scope) (num b b.root) p/\zyy p=num b two/\p.length<=200001:=by
  unfold zyI;rw[if_neg (by omega)];cases hl:zyS b scope (num b two) 20 with
  |none=>exact ⟨[],12,rfl,.inr rfl,by simp,by simp⟩|some l =>obtain ⟨g1,_,_⟩:=zzL hR scope 20 ht hl;obtain ⟨s1,s2⟩:=zy4 w1 zyA 0 _ _ l (zy0 (by rw[w3];exact hrt)) (yAA _) (by omega) (by simp) hl;exact ⟨l,0,rfl,.inl rfl,by omega,λp hp=>⟨(g1 p hp).1,(g1 p hp).2,s2 p hp⟩⟩
 rw[hl];dsimp only;refine (congrArg (λz=>zaE z _) (zzf (λk=>((k:Int),())) l.length (.inl ()) (λk hk=>?_) ?_ rfl)).trans ?_
 ·obtain ⟨p1,p2,hs⟩:=hlp.2 _ (yAy hk);have hpl:∀x∈l[k],x<b.components.length:=p1.lt hrt λi j hj=>by rw[<-w3];exact w1.lt i j hj
  obtain ⟨o1,o2⟩:=hR.gates_on scope ht p1 p2;generalize hp:l[k]=p at *
  generalize hgs:ze0 b scope (num b two)=gs at *
  dsimp only;rw[show decide ((k:Int)<len (l.map (zbd b)))=true from by simp[len];exact hk,zac,zcV,yAh,yAe hk,hp];simp only[yAg,zaa];refine (congrArg (λz=>zaE z _) (zzf (λj=>(((if j=0 then 0 else p.idxOf (gs.getD (j - 1) 0):Nat):Int),(j:Int),())) gs.length (.inl ()) (λj hj=>?_) ?_ rfl)).trans ?_
  ·have hg:=o2 _ (yAy hj);have hil:=List.idxOf_lt_length_of_mem hg;have hle:(if j=0 then 0 else p.idxOf (gs.getD (j - 1) 0))<=p.idxOf gs[j]:=by
    split;·omega
    ·rename_i h0;have:=yAH.1 o1 (j - 1) j (by omega) hj (by omega);rw[yAj,yAe (by omega)];exact yBf this
   generalize (if j=0 then 0 else p.idxOf (gs.getD (j - 1) 0))=a at hle ⊢;dsimp only;rw[show decide ((j:Int)<len (zbd b gs))=true from by simp[len,hrl];exact hj,zac,zzI hj,zaa,show len (zbd b p)=((p.length:Nat):Int) from by simp[len,hrl],zhM (by omega) (by rw[hrl];omega),zaa];rw[show (((zbd b p).drop a).take (p.length - a))=(zbd b p).drop a from yA7 (by simp[hrl]),e33,m33_eq' _ _ _ (by simp[hrl];omega),zzY hR hpl hg hle,zaa];dsimp only;rw[show decide (((p.idxOf gs[j] - a:Nat):Int)<0)=false from by simp,zab,zaf hj (by omega),show (a:Int)+((p.idxOf gs[j] - a:Nat):Int)=((p.idxOf gs[j]:Nat):Int) from by omega,zaH (n:=((p.idxOf gs[j]:Nat):Int)) (by omega) (by omega),if_neg (by omega),yCf,yAj,yAe hj];rfl
  ·dsimp only;rw[show decide ((gs.length:Int)<len (zbd b gs))=false from by simp[len,hrl],zab]
  ·rw[zaj,zaf hk (by omega)]
 ·dsimp only;rw[show decide ((l.length:Int)<len (l.map (zbd b)))=false from by simp[len],zab]
 ·rw[zaj,e19,zai,show (bif e==0 then true else e==12)=true from by rcases h0 with rfl|rfl<;>rfl];rfl
end Pe.Tryz
end
