/- PROVED HERE: a part of the seat's proofs; see the text that holds the claim's theorem. -/
import Derived.Test.YtojfjgjdheiffaaGreatDoorBoG
set_option maxRecDepth 100000
section
namespace Pe.Tryz
open Go Go.Proofs Pe Pe.Bfs
variable{chk:Gt.Kn->Int}{orc:Orc Sx}
noncomputable def zBX(b:Gt.Kn)(r:By)(scope:Int):List Int:=zeI (outs b scope) (num b r) (-1)
noncomputable def zBY(b:Gt.Kn)(r:By)(scope:Int):List Nat:=(List.range b.Ka.length).filter λk=>decide (0<=dAt (zBX b r scope) k)
def comp(b:Gt.Kn)(k:Nat):Gt.Kd:=b.Ka.getD k noC
noncomputable def zBV(b:Gt.Kn)(r:By)(scope:Int):List Gt.Kd:=(zBY b r scope).map (comp b)
def inC(l:List Gt.Kd)(s:By):Bool:=l.any λc=>c.ref==s
def zC0(l:List Gt.Kd)(scope:Int)(x:Gt.K6):Bool:=decide (x.scope<=scope)&&(inC l x.from_&&inC l x.to)
noncomputable def zB5(b:Gt.Kn)(r:By)(scope:Int):List Gt.K6:=b.Kh.filter (zC0 (zBV b r scope) scope)
noncomputable def zBS(b:Gt.Kn)(r:By)(scope:Int):Gt.Kn:=Gt.Kn.mk r [] r (zBV b r scope) (zB5 b r scope)
theorem zCd{α:Type}(p:α->Bool):∀(l a:List α),l.foldl (λa x=>bif p x then a++[x] else a) a=a++l.filter p
 |[],a=>by simp
 |x::l,a=>by
   rw[yCd,zCd p l];cases h:p x with
   |true=>simp[h]|false=>simp[h]
theorem zwI{σ R:Type}{x y:Option (σ⊕R)}{f:σ->Option R}(h:x=y):zaE x f=zaE y f:=by rw[h]
abbrev PSt:=Int×By×By×By×List Gt.Kd×List Gt.K6×J
theorem zCz{R:Type}{f:PSt->Option (PSt⊕R)}(C:List Gt.Kd)(r:By)(p:Gt.K6->Bool)(l:List Gt.K6)(out:List Gt.K6->R)
  (hf:∀k (hk:k<l.length) (a:List Gt.K6),a.length<=k->f ((k:Int),r,[],r,C,a,())=some (.inl (((k+1:Nat):Int),r,[],r,C,bif p l[k] then a++[l[k]] else a,())))
  (he:∀a,f ((l.length:Int),r,[],r,C,a,())=some (.inr (out a))):zak f ((0:Int),r,[],r,C,[],())=some (out (l.filter p)):=by
 have:=zcK (A:=List Gt.K6) (f:=f) (λk a=>((k:Int),r,[],r,C,a,())) l (λa x=>bif p x then a++[x] else a) out (λk a=>a.length<=k) (λk hk a hI=>⟨hf k hk a hI,?_⟩) (λa _=>he a) [] (yAi _);·rw[zCd p] at this;exact this
 ·cases p l[k] with
  |true=>simp only[cond_true,yAI,List.length_singleton];omega|false=>simp only[cond_false];omega
def zDe(M:List (By×Bool))(c:Gt.Kd):List (By×Bool):=zgw (keq un .str) c.ref true M
def getM(M:List (By×Bool))(z:By):Bool:=zdh (keq un .str) z false M
theorem get_put(M:List (By×Bool))(c:Gt.Kd)(z:By):getM (zDe M c) z=((c.ref==z)||getM M z):=by have h1:keq un .str z c.ref=(c.ref==z):=yBC.2 ((zeG z c.ref).trans ((eq_comm (α:=By)).trans (beq_iff_eq (α:=By)).symm));have h2:getM (zDe M c) z=bif keq un .str z c.ref then true else getM M z:=zhT (K:=By) (eq:=keq un .str) (λa b=>zeG a b) c.ref z true false M;refine h2.trans ((congrArg (λt=>bif t then true else getM M z) h1).trans ?_);cases c.ref==z<;>simp
theorem zCy(p:Nat->Bool)(g:Nat->Gt.Kd):∀(l:List Nat)(a:List Gt.Kd),l.foldl (λa k=>bif p k then a++[g k] else a) a=a++(l.filter p).map g
 |[],a=>by simp
 |x::l,a=>by
   rw[yCd,zCy p g l];cases h:p x with
   |true=>rw[List.filter_cons_of_pos h];simp|false=>rw[yBR (by simp[h])];simp
theorem zCH(z:By):∀(l:List Gt.Kd)(M:List (By×Bool)),getM (l.foldl zDe M) z=(inC l z||getM M z)|[],M=>rfl|c::l,M=>by rw[yCd,zCH z l,get_put];unfold inC;rw[List.any_cons];cases c.ref==z<;>cases (l.any λc=>c.ref==z)<;>simp
theorem zCJ(g:Nat->Gt.Kd):∀(l:List Nat)(a:List Gt.Kd×List (By×Bool)),l.foldl (λa k=>(a.1++[g k],zDe a.2 (g k))) a=(a.1++l.map g,(l.map g).foldl zDe a.2)
 |[],a=>by simp
 |x::l,a=>by rw[yCd,zCJ g l];simp
theorem zCu{l:List Gt.Kd}{scope:Int}{x:Gt.K6}{α:Type}{K:Bool->Option α} :
  (ob (br (decide (x.scope<=scope)) (some (inC l x.from_)) (some false)) λb12=>ob (br b12 (some (inC l x.to)) (some false)) K)=K (zC0 l scope x):=by
 unfold zC0;cases decide (x.scope<=scope) with
 |false=>rfl|true=>cases inC l x.from_<;>rfl
theorem zC4{M:List (By×Bool)}{l:List Gt.Kd}(hM:∀s,getM M s=inC l s){scope:Int}{x:Gt.K6}{α:Type}{K:Bool->Option α} :
  (ob (br (decide (x.scope<=scope)) (some (zdh (keq un .str) x.from_ false M)) (some false)) λb12=>ob (br b12 (some (zdh (keq un .str) x.to false M)) (some false)) K)=K (zC0 l scope x):=by
 refine Eq.trans ?_ (zCu (l:=l) (scope:=scope) (x:=x) (K:=K));rw[<-hM,<-hM];rfl
theorem m34_eq'{b:Gt.Kn}(K:GrO chk orc b)(h75:∀d:List Int,d.length<=1000000->orc.d 75 [.sl I6 d] [LI]=(some (ofN ((List.range d.length).filter λk=>decide (0<=dAt d k)),()):Option (List Int×J)))
  (h68:∀c∈b.Ka,orc.d 68 [.st 5 c] [.st 5]=(some (c,()):Option (Gt.Kd×J))) (r:By) (scope:Int) :
  (za5 chk b r scope=0->m34 orc b r scope=some (zBS b r scope,0,()))/\(za5 chk b r scope≠0->m34 orc b r scope=some (Gt.Kn.mk [] [] [] [] [],za5 chk b r scope,())):=by
 refine ⟨λhe=>?_,λhe=>?_⟩
 ·obtain ⟨hb,hr⟩:=zjc K he;obtain ⟨w1,w2,w3,w4,w5⟩:=hb.web scope;have ht:=(hb.num_lt hr).1;have hn:=hb.n;have hm:=hb.m;have hdl:(zBX b r scope).length=b.Ka.length:=by unfold zBX;rw[Bfs.dist_len w1.lt (by rw[w3];exact ht),w3]
  have hpn:(zBY b r scope).length<=b.Ka.length:=by unfold zBY;exact yAo (yA0 _ _) (by simp)
  have hpi:∀i∈zBY b r scope,i<b.Ka.length:=λi hi=>yBa.1 (yAO.1 hi).1;unfold m34;rw[(K.h56 r scope).1 he,zaa];dsimp only;rw[show ((0:Int) != 0)=false from rfl,zab,show (zc3 b scope).out=za6 (outs b scope) from rfl,K.h58 _ _ _ w1 (by rw[w3];exact ht),zaa];dsimp only;rw[show zeI (outs b scope) (num b r) (-1)=zBX b r scope from rfl,h75 _ (by omega),zaa,hdl];dsimp only;rw[show (List.range b.Ka.length).filter (λk=>decide (0<=dAt (zBX b r scope) k))=zBY b r scope from rfl]
  have lp:=zcK (σ:=Int×By×By×By×List Gt.Kd×List Gt.K6×List (By×Bool)×J) (A:=List Gt.Kd×List (By×Bool))
   (f:=λt4=>br (decide (t4.1<len (ofN (zBY b r scope)))) (ob (at? (ofN (zBY b r scope)) t4.1) λy5=>ob (at? b.Ka y5) λy6=>ob (α:=Gt.Kd×J) (orc.d 68 [.st 5 y6] [.st 5]) λr7=>ob (zdJ t4.2.2.2.2.1 [r7.1]) λl8=>some (.inl (IntKind.i64.wrap (t4.1+1),t4.2.1,t4.2.2.1,t4.2.2.2.1,l8,t4.2.2.2.2.2.1,zgw (keq un .str) r7.1.ref true t4.2.2.2.2.2.2.1,())))
    (some (.inr ((.inl (t4.2.1,t4.2.2.1,t4.2.2.2.1,t4.2.2.2.2.1,t4.2.2.2.2.2.1,t4.2.2.2.2.2.2.1,())):(By×By×By×List Gt.Kd×List Gt.K6×List (By×Bool)×J)⊕(Gt.Kn×Int×J)))))
   (λk a=>((k:Int),r,[],r,a.1,[],a.2,())) (zBY b r scope) (λa k=>(a.1++[comp b k],zDe a.2 (comp b k))) (λa=>.inl (r,[],r,a.1,[],a.2,())) (λk a=>a.1.length<=k)
   (λk hk a hI=>by have hi:=hpi _ (yAy hk);have hc:comp b (zBY b r scope)[k]=b.Ka[(zBY b r scope)[k]]:=(by unfold comp;simp[yAj,hi]);dsimp only;rw[show decide ((k:Int)<len (ofN (zBY b r scope)))=true from by rw[za2];simpa using hk,zac,ze1 hk,zaa,zan hi,zaa,h68 _ (yAy hi),zaa];dsimp only;rw[zbc (by simp[lim];omega),zaa,zaf hk (by omega),hc];exact ⟨rfl,by simp;omega⟩)
   (λa _=>by dsimp only;rw[show decide (((zBY b r scope).length:Int)<len (ofN (zBY b r scope)))=false from by rw[za2];simp,zab])
   ([],[]) (yAi _)
  have hfold:(zBY b r scope).foldl (λa k=>(a.1++[comp b k],zDe a.2 (comp b k))) (([],[]):List Gt.Kd×List (By×Bool))=(zBV b r scope,(zBV b r scope).foldl zDe []):=by exact (zCJ (comp b) _ _).trans (by simp[zBV])
  refine (zwI (lp.trans (congrArg (λz:List Gt.Kd×List (By×Bool)=>some (Sum.inl (β:=Gt.Kn×Int×J) (r,([]:By),r,z.1,([]:List Gt.K6),z.2,()))) hfold))).trans ?_;rw[zaj];dsimp only;rw[zCz (zBV b r scope) r (zC0 (zBV b r scope) scope) b.Kh (λa=>(.inl (r,[],r,zBV b r scope,a,()):(By×By×By×List Gt.Kd×List Gt.K6×J)⊕(Gt.Kn×Int×J))) (λk hk a ha=>?_) λa=>?_];·rw[zaj];rfl
  ·dsimp only;rw[show decide ((k:Int)<len b.Kh)=true from by simp[len];exact hk,zac,zan hk,zaa,zaf hk (by omega)];refine (zC4 (l:=zBV b r scope) λs=>(zCH s _ []).trans (by rw[show getM [] s=false from rfl,Bool.or_false])).trans ?_;cases zC0 (zBV b r scope) scope b.Kh[k] with
   |true=>rw[zac,zbc (by simp[lim];omega),zaa];rfl|false=>rfl
  ·dsimp only;rw[show decide ((b.Kh.length:Int)<len b.Kh)=false from by simp[len],zab]
 ·obtain ⟨g,k,hg⟩:=(K.h56 r scope).2 he;unfold m34;rw[hg,zaa];dsimp only;rw[show (za5 chk b r scope != 0)=true from by simpa using he,zac]
theorem zC3(l:List Gt.Kd)(r v t:By)(es:List Gt.K6)(s:By):decide (0<=zfF (Gt.Kn.mk r v t l es) s)=inC l s:=by
 unfold zfF inC;dsimp only;cases hf:l.findIdx? λc=>c.ref==s with
 |some k =>
   have:l.any (λc=>c.ref==s)=true:=by rw[yBv] at hf;obtain ⟨h1,h2,_⟩:=hf;exact yBd.2 ⟨_,yAy h1,h2⟩
   rw[this];simp
 |none =>
   have:l.any (λc=>c.ref==s)=false:=by rw[yBA] at hf;rw[yB0];intro x hx;rw[hf x hx];simp
   rw[this];rfl
theorem m35_eq'{b:Gt.Kn}(K:GrO chk orc b)(h62:∀(b:Gt.Kn)(r:By),b.Ka.length<=1000000->orc.d 62 [.st 3 b,.str r] [I6]=(some (zfF b r,()):Option (Int×J)))(r:By)(scope:Int) :
  (za5 chk b r scope=0->m35 orc b r scope=some (zBS b r scope,0,()))/\(za5 chk b r scope≠0->m35 orc b r scope=some (Gt.Kn.mk [] [] [] [] [],za5 chk b r scope,())):=by
 refine ⟨λhe=>?_,λhe=>?_⟩
 ·obtain ⟨hb,hr⟩:=zjc K he;obtain ⟨w1,w2,w3,w4,w5⟩:=hb.web scope;have ht:=(hb.num_lt hr).1;have hn:=hb.n;have hm:=hb.m;have hdl:(zBX b r scope).length=b.Ka.length:=by unfold zBX;rw[Bfs.dist_len w1.lt (by rw[w3];exact ht),w3]
  have hpn:(zBV b r scope).length<=b.Ka.length:=by unfold zBV zBY;rw[yBi];exact yAo (yA0 _ _) (by simp)
  unfold m35;rw[K.h63,zaa];dsimp only;rw[he,show ((0:Int) != 0)=false from rfl,zab,K.h60 b scope hb,zaa,K.h62 b r hb,zaa,hb.place hr];dsimp only;rw[K.h61 b scope _ (-1) hb ht,zaa];dsimp only;rw[show zeI (outs b scope) (num b r) (-1)=zBX b r scope from rfl]
  have lp:=zcK (σ:=PSt) (A:=List Gt.Kd)
   (f:=λt5=>br (decide (t5.1<len b.Ka)) (ob (at? b.Ka t5.1) λy6=>ob (at? (inD (zBX b r scope)) t5.1) λy7=>br y7 (ob (zdJ t5.2.2.2.2.1 [y6]) λl8=>some (.inl (IntKind.i64.wrap (t5.1+1),t5.2.1,t5.2.2.1,t5.2.2.2.1,l8,t5.2.2.2.2.2.1,()))) (some (.inl (IntKind.i64.wrap (t5.1+1),t5.2.1,t5.2.2.1,t5.2.2.2.1,t5.2.2.2.2.1,t5.2.2.2.2.2.1,()))))
    (some (.inr ((.inl (t5.2.1,t5.2.2.1,t5.2.2.2.1,t5.2.2.2.2.1,t5.2.2.2.2.2.1,())):(By×By×By×List Gt.Kd×List Gt.K6×J)⊕(Gt.Kn×Int×J)))))
   (λk a=>((k:Int),r,[],r,a,[],())) (List.range b.Ka.length) (λa k=>bif decide (0<=dAt (zBX b r scope) k) then a++[comp b k] else a) (λa=>.inl (r,[],r,a,[],())) (λk a=>a.length<=k)
   (λk hk a hI=>by
    have hk:k<b.Ka.length:=(by simpa using hk);have hc:comp b k=b.Ka[k]:=(by unfold comp;simp[yAj,hk]);dsimp only;rw[yBc,show decide ((k:Int)<len b.Ka)=true from by simp[len];exact hk,zac,zan hk,zaa,zcV,show (inD (zBX b r scope))[k]?=some (decide (0<=dAt (zBX b r scope) k)) from zh2 (by omega),zaa,zaf hk (by omega),hc];cases decide (0<=dAt (zBX b r scope) k) with
    |true=>rw[zac,zbc (by simp[lim];omega),zaa];exact ⟨rfl,by simp;omega⟩|false=>exact ⟨rfl,by simp only[cond_false];omega⟩)
   (λa _=>by dsimp only;rw[yBe,show decide ((b.Ka.length:Int)<len b.Ka)=false from by simp[len],zab])
   [] (yAi _)
  rw[show (List.range b.Ka.length).foldl (λa k=>bif decide (0<=dAt (zBX b r scope) k) then a++[comp b k] else a) []=zBV b r scope from by exact (zCy (λk=>decide (0<=dAt (zBX b r scope) k)) (comp b) _ _).trans (by simp[zBV,zBY])] at lp;refine (zwI lp).trans ?_;rw[zaj];dsimp only;rw[zCz (zBV b r scope) r (zC0 (zBV b r scope) scope) b.Kh (λa=>(.inl (r,[],r,zBV b r scope,a,()):(By×By×By×List Gt.Kd×List Gt.K6×J)⊕(Gt.Kn×Int×J))) (λk hk a ha=>?_) λa=>?_];·rw[zaj];rfl
  ·dsimp only;have hp:∀s:By,(ob (α:=Int×J) (orc.d 62 [.st 3 (Gt.Kn.mk r [] r (zBV b r scope) a),.str s] [I6]) λr12=>some (decide (0<=r12.1)))=some (inC (zBV b r scope) s):=λs=>by
    rw[h62 _ _ (by dsimp only;omega),zaa];dsimp only;rw[zC3]
   rw[show decide ((k:Int)<len b.Kh)=true from by simp[len];exact hk,zac,zan hk,zaa,hp,hp,zCu,zaf hk (by omega)];cases zC0 (zBV b r scope) scope b.Kh[k] with
   |true=>rw[zac,zbc (by simp[lim];omega),zaa];rfl|false=>rfl
  ·dsimp only;rw[show decide ((b.Kh.length:Int)<len b.Kh)=false from by simp[len],zab]
 ·unfold m35;rw[K.h63,zaa];dsimp only;rw[show (za5 chk b r scope != 0)=true from by simpa using he,zac]
end Pe.Tryz
end
section
namespace Pe.Tryz
open Go Go.Proofs Pe Pe.Bfs
def zBU{α:Type}(M:List (By×List α))(x:By):List α:=zdh (keq un .str) x ([]:List α) M
def zCN{α:Type}(M:List (By×List α))(x:By)(v:List α):List (By×List α):=zgw (keq un .str) x v M
def zCS{α:Type}(M:List (By×List α))(o:List By)(x:By):List By:=bif (zBU M x).isEmpty then o++[x] else o
def zB3{α β:Type}(f:α->β)(M:List (By×List α)):List (By×List β):=M.map λp=>(p.1,p.2.map f)
theorem zBZ{α β:Type}(f:α->β)(x:By):∀M:List (By×List α),zBU (zB3 f M) x=(zBU M x).map f|[]=>rfl|(k,v)::r=>by have h:=zBZ f x r;show (bif keq un .str x k then v.map f else zBU (zB3 f r) x)=(bif keq un .str x k then v else zBU r x).map f;rw[h];cases keq un .str x k<;>rfl
theorem zCj{α β:Type}(f:α->β)(x:By)(v:List α):∀M:List (By×List α),zCN (zB3 f M) x (v.map f)=zB3 f (zCN M x v)|[]=>rfl|(k,w)::r=>by have h:=zCj f x v r;show (bif keq un .str x k then (x,v.map f)::zB3 f r else (k,w.map f)::zCN (zB3 f r) x (v.map f))=zB3 f (bif keq un .str x k then (x,v)::r else (k,w)::zCN r x v);rw[h];cases keq un .str x k<;>rfl
theorem zCE{α β:Type}(f:α->β)(M:List (By×List α))(o:List By)(x:By):zCS (zB3 f M) o x=zCS M o x:=by unfold zCS;rw[zBZ];cases zBU M x<;>rfl
theorem zCI{α:Type}(M:List (By×List α))(x y:By)(v:List α):zBU (zCN M x v) y=if y=x then v else zBU M y:=by
 have h2:zBU (zCN M x v) y=bif keq un .str y x then v else zBU M y:=zhT (K:=By) (eq:=keq un .str) (λa b=>zeG a b) x y v [] M;refine h2.trans ?_;by_cases h:y=x;·rw[if_pos h,show keq un .str y x=true from (zeG y x).2 h];rfl
 ·rw[if_neg h];cases hk:keq un .str y x with
  |true=>exact absurd ((zeG y x).1 hk) h|false=>rfl
theorem zDb{α R:Type}{o:List By}(x:By)(M:List (By×List α))(i:α)(j:Int)(hM:(zBU M x).length+1<=lim)(ho:o.length+1<=lim) :
  (zaE (σ:=List (By×List α)×List By×J) (R:=(List (By×List α)×List By×Int×J)⊕R) (br (len (zdh (keq un .str) x [] M)==0) (ob (zdJ o [x]) λl5=>some (.inl (M,l5,()))) (some (.inl (M,o,())))) λt6 =>
   ob (zdJ (zdh (keq un .str) x ([]:List α) t6.1) [i]) λl7=>bif (x==x&&Nat.blt 0 (List.length l7)) then some (.inl (zgw (keq un .str) x l7 t6.1,t6.2.1,j,())) else none)=some (.inl (zCN M x (zBU M x++[i]),zCS M o x,j,())):=by
 have hk:∀o':List By,(ob (zdJ (zBU M x) [i]) λl7=>bif (x==x&&Nat.blt 0 (List.length l7)) then some (.inl (zCN M x l7,o',j,())) else none)=(some (.inl (zCN M x (zBU M x++[i]),o',j,())):Option ((List (By×List α)×List By×Int×J)⊕R)):=λo'=>by rw[zbc (by simpa using hM),zaa,show (x==x&&Nat.blt 0 (List.length (zBU M x++[i])))=true from by simp[Nat.blt]];rfl
 show zaE (br (len (zBU M x)==0) (ob (zdJ o [x]) λl5=>some (.inl (M,l5,()))) (some (.inl (M,o,())))) _=_;unfold zCS;cases he:(zBU M x).isEmpty with
 |true =>rw[show (len (zBU M x)==0)=true from by rw[List.isEmpty_iff.1 he];rfl,zac,zbc (by simpa using ho),zaa,zaj];exact hk (o++[x])|false =>
   rw[show (len (zBU M x)==0)=false from by
    cases hg:zBU M x with
    |nil=>rw[hg] at he;cases he|cons y r=>simp[len];omega,zab,zaj]
   exact hk o
theorem zCY{α R:Type}{o:List By}(x:By)(M:List (By×List α))(i:α)(j:Int)(hM:(zBU M x).length+1<=lim){Z:Option ((List By×List (By×List α)×J)⊕((List By×List (By×List α)×Int×J)⊕R))}(hZ:Z=some (.inl (zCS M o x,M,()))) :
  (zaE (σ:=List By×List (By×List α)×J) (R:=(List By×List (By×List α)×Int×J)⊕R) Z λt8 =>
   ob (zdJ (zdh (keq un .str) x ([]:List α) t8.2.1) [i]) λl9=>bif (x==x&&Nat.blt 0 (List.length l9)) then some (.inl (t8.1,zgw (keq un .str) x l9 t8.2.1,j,())) else none)=some (.inl (zCS M o x,zCN M x (zBU M x++[i]),j,())):=by
 refine (zwI hZ).trans ?_;rw[zaj];show (ob (zdJ (zBU M x) [i]) λl7=>bif (x==x&&Nat.blt 0 (List.length l7)) then some (Sum.inl (α:=List By×List (By×List α)×Int×J) (β:=R) (zCS M o x,zCN M x l7,j,())) else none)=_;rw[zbc (by simpa using hM),zaa,show (x==x&&Nat.blt 0 (List.length (zBU M x++[i])))=true from by simp[Nat.blt]];rfl
def kf(b:Gt.Kn)(i:Nat):By:=(zCZ (comp b i).purl).1
def zB9(b:Gt.Kn)(a:List (By×List Nat)×List By)(i:Nat):List (By×List Nat)×List By:=(zCN a.1 (kf b i) (zBU a.1 (kf b i)++[i]),zCS a.1 a.2 (kf b i))
def zBT(b:Gt.Kn):List (By×List Nat)×List By:=(List.range b.Ka.length).foldl (zB9 b) ([],[])
def zCM(b:Gt.Kn)(i:Nat):By:=(comp b i).purl.Ko
def zDk(b:Gt.Kn)(i:Nat):By:=(comp b i).ref
def zDr(b:Gt.Kn)(l:List Nat):Bool:=l.any λi=>zCM b i != zCM b (l.headD 0)
def zDm(b:Gt.Kn):List (List By):=((zBT b).2.filter λx=>zDr b (zBU (zBT b).1 x)).map λx=>(zBU (zBT b).1 x).map (zDk b)
structure GrI (b:Gt.Kn) (k:Nat) (a:List (By×List Nat)×List By):Prop where
 ord:a.2.length<=k
 row:∀x,(zBU a.1 x).length<=k
 lt:∀x,∀i∈zBU a.1 x,i<k
theorem GrI.zero(b:Gt.Kn):GrI b 0 ([],[]):=⟨yAi _,λ_=>yAi _,λ_ _ h=>by cases h⟩
theorem GrI.step{b:Gt.Kn}{k:Nat}{a:List (By×List Nat)×List By}(h:GrI b k a):GrI b (k+1) (zB9 b a k):=by
 refine ⟨?_,λx=>?_,λx i hi=>?_⟩
 ·have:=h.ord;unfold zB9 zCS;cases (zBU a.1 (kf b k)).isEmpty with
  |true=>simp;omega|false=>simp only[cond_false];omega
 ·unfold zB9;rw[zCI];split;·have:=h.row (kf b k);simp;omega
  ·have:=h.row x;omega
 ·unfold zB9 at hi;rw[zCI] at hi;split at hi
  ·rcases yAp.1 hi with hi|hi;·have:=h.lt _ i hi;omega
   ·simp at hi;omega
  ·have:=h.lt _ i hi;omega
theorem zCs{b:Gt.Kn}{k:Nat}(h:k<b.Ka.length):at? b.Ka (k:Int)=some (comp b k):=by rw[zan h];unfold comp;simp[yAj,h]
theorem zCW(b:Gt.Kn):GrI b b.Ka.length (zBT b):=by
 unfold zBT;suffices h:∀n,GrI b n ((List.range n).foldl (zB9 b) ([],[])) from h _;intro n;induction n with
 |zero=>exact GrI.zero b|succ n ih=>rw[yCo,List.foldl_append];exact ih.step
abbrev toI(k:Nat):Int:=(k:Int)
abbrev St36:=List (By×List Int)×List (List By)×List By×Bool×List By×Int×J
def inG(b:Gt.Kn)(row:List Nat)(a:List By×Bool)(i:Nat):List By×Bool:=(a.1++[zDk b i],a.2||(zCM b i != zCM b (row.headD 0)))
theorem zCm(b:Gt.Kn)(row:List Nat):∀(l:List Nat)(a:List By×Bool),l.foldl (inG b row) a=(a.1++l.map (zDk b),a.2||l.any λi=>zCM b i != zCM b (row.headD 0))
 |[],a=>by simp
 |x::l,a=>by rw[yCd,zCm b row l];unfold inG;simp[Bool.or_assoc]
def zDf(b:Gt.Kn)(M:List (By×List Nat))(a:List (List By))(x:By):List (List By):=bif zDr b (zBU M x) then a++[(zBU M x).map (zDk b)] else a
theorem zCb(b:Gt.Kn)(M:List (By×List Nat)):∀(l:List By)(a:List (List By)),l.foldl (zDf b M) a=a++(l.filter λx=>zDr b (zBU M x)).map λx=>(zBU M x).map (zDk b)
 |[],a=>by simp
 |x::l,a=>by
   rw[yCd,zCb b M l];unfold zDf;cases h:zDr b (zBU M x) with
   |true=>simp[h]|false=>simp[h]
theorem zCD(b:Gt.Kn)(M:List (By×List Nat))(a:List (List By))(x:By):(zDf b M a x).length<=a.length+1:=by unfold zDf;cases zDr b (zBU M x)<;>simp
theorem zCv{l:List Nat}(h:0<l.length):l.headD 0=l[0]:=by
 cases l with
 |nil=>cases h|cons y r=>rfl
theorem zDj{b:Gt.Kn}{row:List Nat}{j:Nat}(hj:j<row.length):at? (row.map toI) (j:Int)=some ((row[j]:Nat):Int):=ze1 hj
theorem m36_eq'{orc:Orc Sx}{b:Gt.Kn}{c:Int}(h40:orc.d 40 [.st 3 b] [I6]=(some (c,()):Option (Int×J)))(hn:c=0->b.Ka.length<=3000)
  (h76:∀i,i<b.Ka.length->orc.d 76 [.st 11 (comp b i).purl] [.str,I6]=(some (zCZ (comp b i).purl):Option (By×Int×J))) :
  (c=0->m36 orc b=some (zDm b,0,()))/\(c≠0->m36 orc b=some ([],c,())):=by
 refine ⟨λhc=>?_,λhc=>?_⟩
 ·have hn:=hn hc;unfold m36;rw[h40,zaa];dsimp only;rw[hc,show ((0:Int) != 0)=false from rfl,zab];refine (zwI (zcK (A:=List (By×List Nat)×List By) (λk a=>(zB3 toI a.1,a.2,(k:Int),())) (List.range b.Ka.length) (zB9 b) (λa=>.inl (zB3 toI a.1,a.2,())) (GrI b) (λk hk a hI=>?_) (λa _=>?_) ([],[]) (GrI.zero b))).trans ?_
  ·have hk:k<b.Ka.length:=(by simpa using hk);dsimp only;rw[yBc,show decide ((k:Int)<len b.Ka)=true from by simp[len];exact hk,zac,zCs hk,zaa,h76 k hk,zaa,zaf hk (by omega)];have h1:=hI.row (kf b k);have h2:=hI.ord;refine ⟨(zDb (kf b k) (zB3 toI a.1) (k:Int) _ (by rw[zBZ,yBi];unfold lim;omega) (by unfold lim;omega)).trans ?_,hI.step⟩;unfold zB9;rw[zBZ,zCE,show (zBU a.1 (kf b k)).map toI++[(k:Int)]=(zBU a.1 (kf b k)++[k]).map toI from by simp,zCj]
  ·dsimp only;rw[yBe,show decide ((b.Ka.length:Int)<len b.Ka)=false from by simp[len],zab]
  ·rw[zaj];have hG:=zCW b;rw[show (List.range b.Ka.length).foldl (zB9 b) ([],[])=zBT b from rfl];dsimp only;refine (zwI (zcK (A:=List (List By)) (λk a=>(zB3 toI (zBT b).1,a,(zBT b).2,(k:Int),())) (zBT b).2 (zDf b (zBT b).1) (λa=>.inl (a,())) (λk a=>a.length<=k) (λk hk a hI=>?_) (λa _=>?_) [] (yAi _))).trans ?_
   ·have h2:=hG.ord;dsimp only;rw[show decide ((k:Int)<len (zBT b).2)=true from by simp[len];exact hk,zac,zan hk,zaa,zaf hk (by omega)];generalize hx:(zBT b).2[k]=x;have h1:=hG.row x;have Ks:=hG.lt x
    have Kt:=zcK (σ:=St36) (R:=(List (By×List Int)×List (List By)×List By×Bool×List By×J)⊕((List (By×List Int)×List (List By)×List By×J)⊕((List (By×List Int)×List (List By)×List By×Int×J)⊕((List (List By)×J)⊕(List (List By)×Int×J)))))
     (f:=λt11=>br (decide (t11.2.2.2.2.2.1<len (zdh (keq un .str) x [] (zB3 toI (zBT b).1)))) (ob (at? (zdh (keq un .str) x [] (zB3 toI (zBT b).1)) t11.2.2.2.2.2.1) λy12=>ob (at? b.Ka y12) λy13=>ob (br t11.2.2.2.1 (some true) (ob (at? (zdh (keq un .str) x [] t11.1) 0) λy14=>ob (at? b.Ka y14) λy15=>some (y13.purl.Ko != y15.purl.Ko))) λb16=>ob (zdJ t11.2.2.1 [y13.ref]) λl17=>some (.inl (t11.1,t11.2.1,l17,b16,t11.2.2.2.2.1,IntKind.i64.wrap (t11.2.2.2.2.2.1+1),()))) (some (.inr (.inl (t11.1,t11.2.1,t11.2.2.1,t11.2.2.2.1,t11.2.2.2.2.1,())))))
     (A:=List By×Bool) (λj z=>(zB3 toI (zBT b).1,a,z.1,z.2,(zBT b).2,(j:Int),())) (zBU (zBT b).1 x) (inG b (zBU (zBT b).1 x)) (λz=>.inl (zB3 toI (zBT b).1,a,z.1,z.2,(zBT b).2,())) (λj z=>z.1.length<=j)
     (λj hj z hz=>by
      show (br (decide ((j:Int)<len (zBU (zB3 toI (zBT b).1) x))) (ob (at? (zBU (zB3 toI (zBT b).1) x) (j:Int)) λy12=>ob (at? b.Ka y12) λy13=>ob (br z.2 (some true) (ob (at? (zBU (zB3 toI (zBT b).1) x) 0) λy14=>ob (at? b.Ka y14) λy15=>some (y13.purl.Ko != y15.purl.Ko))) λb16=>ob (zdJ z.1 [y13.ref]) λl17=>some (Sum.inl (α:=St36) (β:=_) (zB3 toI (zBT b).1,a,l17,b16,(zBT b).2,IntKind.i64.wrap ((j:Int)+1),()))) _)=_/\_;have hi:=Ks _ (yAy hj);have h0:0<(zBU (zBT b).1 x).length:=by omega
      have hi0:=Ks _ (yAy h0);have hh:(zBU (zBT b).1 x).headD 0=(zBU (zBT b).1 x)[0]:=zCv h0;have e0:at? ((zBU (zBT b).1 x).map toI) (0:Int)=some (((zBU (zBT b).1 x)[0]:Nat):Int):=ze1 h0;rw[zBZ,show decide ((j:Int)<len ((zBU (zBT b).1 x).map toI))=true from by simp[len];exact hj,zac,zDj (b:=b) hj,zaa,zCs (b:=b) hi,zaa,e0,zaa,zCs (b:=b) hi0,zaa,zai,zaa,zbc (by unfold lim;simp;omega),zaa,zaf hj (by omega)];refine ⟨?_,by unfold inG;simp;omega⟩;unfold inG zCM zDk;rw[hh];cases z.2<;>rfl)
     (λz _=>by show (br (decide (((zBU (zBT b).1 x).length:Int)<len (zBU (zB3 toI (zBT b).1) x))) _ _)=_;rw[zBZ,show decide (((zBU (zBT b).1 x).length:Int)<len ((zBU (zBT b).1 x).map toI))=false from by simp[len],zab]) ([],false) (yAi _)
    rw[zCm] at Kt;refine ⟨?_,yAo (zCD b (zBT b).1 a x) (by omega)⟩;refine (zwI (zwI Kt)).trans ?_;rw[zaj];dsimp only;unfold zDf zDr;rw[yBb,Bool.false_or];cases ((zBU (zBT b).1 x).any λi=>zCM b i != zCM b ((zBU (zBT b).1 x).headD 0)) with
    |true=>rw[zac,zbc (by unfold lim;simp;omega),zaa];rfl|false=>rfl
   ·dsimp only;rw[show decide (((zBT b).2.length:Int)<len (zBT b).2)=false from by simp[len],zab]
   ·rw[zaj,zCb];rfl
 ·unfold m36;rw[h40,zaa];dsimp only;rw[show (c != 0)=true from by simpa using hc,zac]
abbrev St37:=List (By×List Gt.Kd)×List (List By)×Bool×List By×List By×Int×J
theorem zDd{b:Gt.Kn}{row:List Nat}{j:Nat}(hj:j<row.length):at? (row.map (comp b)) (j:Int)=some (comp b row[j]):=by rw[zcV];simp[hj]
theorem m37_eq'{orc:Orc Sx}{b:Gt.Kn}{c:Int}(h54:orc.d 54 [.st 3 b] [I6]=(some (c,()):Option (Int×J)))(hn:c=0->b.Ka.length<=3000)
  (h77:∀i,i<b.Ka.length->orc.d 77 [.st 11 (comp b i).purl] [.str,I6]=(some (zCZ (comp b i).purl):Option (By×Int×J))) :
  (c=0->m37 orc b=some (zDm b,0,()))/\(c≠0->m37 orc b=some ([],c,())):=by
 refine ⟨λhc=>?_,λhc=>?_⟩
 ·have hn:=hn hc;unfold m37;rw[h54,zaa];dsimp only;rw[hc,show ((0:Int) != 0)=false from rfl,zab];refine (zwI (zcK (A:=List (By×List Nat)×List By) (λk a=>(a.2,zB3 (comp b) a.1,(k:Int),())) (List.range b.Ka.length) (zB9 b) (λa=>.inl (a.2,zB3 (comp b) a.1,())) (GrI b) (λk hk a hI=>?_) (λa _=>?_) ([],[]) (GrI.zero b))).trans ?_
  ·have hk:k<b.Ka.length:=(by simpa using hk);dsimp only;rw[yBc,show decide ((k:Int)<len b.Ka)=true from by simp[len];exact hk,zac,zCs hk,zaa,h77 k hk,zaa,zaf hk (by omega)];have h1:=hI.row (zCZ (comp b k).purl).1;have h2:=hI.ord;refine ⟨(zCY (o:=a.2) (zCZ (comp b k).purl).1 (zB3 (comp b) a.1) (comp b k) ((k+1:Nat):Int) (by rw[zBZ,yBi];unfold lim;omega) ?_).trans ?_,hI.step⟩
   ·unfold zCS zBU;split;·rename_i hg;rw[hg,zbc (by unfold lim;simp;omega),zaa];rfl
    ·rename_i y r hg;rw[hg];rfl
   unfold zB9;rw[show (zCZ (comp b k).purl).1=kf b k from rfl,zBZ,zCE,show (zBU a.1 (kf b k)).map (comp b)++[comp b k]=(zBU a.1 (kf b k)++[k]).map (comp b) from by simp,zCj]
  ·dsimp only;rw[yBe,show decide ((b.Ka.length:Int)<len b.Ka)=false from by simp[len],zab]
  ·rw[zaj];have hG:=zCW b;rw[show (List.range b.Ka.length).foldl (zB9 b) ([],[])=zBT b from rfl];dsimp only;refine (zwI (zcK (A:=List (List By)) (λk a=>(zB3 (comp b) (zBT b).1,a,(zBT b).2,(k:Int),())) (zBT b).2 (zDf b (zBT b).1) (λa=>.inl (a,())) (λk a=>a.length<=k) (λk hk a hI=>?_) (λa _=>?_) [] (yAi _))).trans ?_
   ·have h2:=hG.ord;dsimp only;rw[show decide ((k:Int)<len (zBT b).2)=true from by simp[len];exact hk,zac,zan hk,zaa,zaf hk (by omega)];generalize hx:(zBT b).2[k]=x;have h1:=hG.row x;have Ks:=hG.lt x
    have Kt:=zcK (σ:=St37) (R:=(List (By×List Gt.Kd)×List (List By)×Bool×List By×List By×J)⊕((List (By×List Gt.Kd)×List (List By)×List By×J)⊕((List (By×List Gt.Kd)×List (List By)×List By×Int×J)⊕((List (List By)×J)⊕(List (List By)×Int×J)))))
     (f:=λt13=>br (decide (t13.2.2.2.2.2.1<len (zdh (keq un .str) x [] (zB3 (comp b) (zBT b).1)))) (ob (at? (zdh (keq un .str) x [] (zB3 (comp b) (zBT b).1)) t13.2.2.2.2.2.1) λy14=>ob (br t13.2.2.1 (some true) (ob (at? (zdh (keq un .str) x [] (zB3 (comp b) (zBT b).1)) 0) λy15=>some (y14.purl.Ko != y15.purl.Ko))) λb16=>ob (zdJ t13.2.2.2.1 [y14.ref]) λl17=>some (.inl (t13.1,t13.2.1,b16,l17,t13.2.2.2.2.1,IntKind.i64.wrap (t13.2.2.2.2.2.1+1),()))) (some (.inr (.inl (t13.1,t13.2.1,t13.2.2.1,t13.2.2.2.1,t13.2.2.2.2.1,())))))
     (A:=List By×Bool) (λj z=>(zB3 (comp b) (zBT b).1,a,z.2,z.1,(zBT b).2,(j:Int),())) (zBU (zBT b).1 x) (inG b (zBU (zBT b).1 x)) (λz=>.inl (zB3 (comp b) (zBT b).1,a,z.2,z.1,(zBT b).2,())) (λj z=>z.1.length<=j)
     (λj hj z hz=>by
      show (br (decide ((j:Int)<len (zBU (zB3 (comp b) (zBT b).1) x))) (ob (at? (zBU (zB3 (comp b) (zBT b).1) x) (j:Int)) λy14=>ob (br z.2 (some true) (ob (at? (zBU (zB3 (comp b) (zBT b).1) x) 0) λy15=>some (y14.purl.Ko != y15.purl.Ko))) λb16=>ob (zdJ z.1 [y14.ref]) λl17=>some (Sum.inl (α:=St37) (β:=_) (zB3 (comp b) (zBT b).1,a,b16,l17,(zBT b).2,IntKind.i64.wrap ((j:Int)+1),()))) _)=_/\_;have h0:0<(zBU (zBT b).1 x).length:=by omega
      have hh:(zBU (zBT b).1 x).headD 0=(zBU (zBT b).1 x)[0]:=zCv h0;have e0:at? ((zBU (zBT b).1 x).map (comp b)) (0:Int)=some (comp b (zBU (zBT b).1 x)[0]):=zDd h0;rw[zBZ,show decide ((j:Int)<len ((zBU (zBT b).1 x).map (comp b)))=true from by simp[len];exact hj,zac,zDd hj,zaa,e0,zaa,zai,zaa,zbc (by unfold lim;simp;omega),zaa,zaf hj (by omega)];refine ⟨?_,by unfold inG;simp;omega⟩;unfold inG zCM zDk;rw[hh];cases z.2<;>rfl)
     (λz _=>by show (br (decide (((zBU (zBT b).1 x).length:Int)<len (zBU (zB3 (comp b) (zBT b).1) x))) _ _)=_;rw[zBZ,show decide (((zBU (zBT b).1 x).length:Int)<len ((zBU (zBT b).1 x).map (comp b)))=false from by simp[len],zab]) ([],false) (yAi _)
    rw[zCm] at Kt;refine ⟨?_,yAo (zCD b (zBT b).1 a x) (by omega)⟩;refine (zwI (zwI Kt)).trans ?_;rw[zaj];dsimp only;unfold zDf zDr;rw[yBb,Bool.false_or];cases ((zBU (zBT b).1 x).any λi=>zCM b i != zCM b ((zBU (zBT b).1 x).headD 0)) with
    |true=>rw[zac,zbc (by unfold lim;simp;omega),zaa];rfl|false=>rfl
   ·dsimp only;rw[show decide (((zBT b).2.length:Int)<len (zBT b).2)=false from by simp[len],zab]
   ·rw[zaj,zCb];rfl
 ·unfold m37;rw[h54,zaa];dsimp only;rw[show (c != 0)=true from by simpa using hc,zac]
theorem zCC(b:Gt.Kn):(zDm b).length<=b.Ka.length/\∀x∈zDm b,x.length<=b.Ka.length:=by
 have hG:=zCW b;refine ⟨?_,λx hx=>?_⟩;·unfold zDm;rw[yBi];exact yAo (yA0 _ _) hG.ord
 ·unfold zDm at hx;obtain ⟨y,_,rfl⟩:=yBw.1 hx;rw[yBi];exact hG.row y
end Pe.Tryz
end
section
namespace Pe.Tryz
open Go Go.Proofs Pe Pe.Bfs
theorem zBk{F:Nat->Int}:∀{n:Nat},(∀k,k<n->F k=0)->ff F n=0|0,_=>rfl|n+1,h=>by have ih:=zBk (F:=F) (n:=n) λk hk=>h k (by omega);show (if ff F n≠0 then ff F n else F n)=0;rw[ih,if_neg (by decide)];exact h n (by omega)
theorem zA8{b:Bool}{c x:Int}(h1:b=false)(h2:x=0):(bif b then c else x)=0:=by subst h1;exact h2
theorem zBI{a x:Int}(h1:a=0)(h2:x=0):(bif a != 0 then a else x)=0:=by subst h1;exact h2
theorem zBP{a b:By}(h:b<a):leS a b=false:=by
 unfold leS;rw[zgX,decide_eq_false (List.lt_asymm h),Bool.false_or,beq_eq_false_iff_ne]
 rintro rfl;exact yBn _ h
theorem zA4{α:Type}{l:List α}{k:Nat}(d:α)(h:k<l.length):l.getD k d∈l/\l.getD k d=l[k]:=by
 have:l.getD k d=l[k]:=by simp[yAj,h]
 exact ⟨this▸yAy h,this⟩
theorem zBf{α:Type}{l:List α}{k:Nat}(d:α)(h:k<l.length){P:α->α->Prop}(hp:l.Pairwise P){r:α->α->Bool}(hr:∀x y,P x y->r y x=false) :
  (bif decide (0<(k:Int)) then r (l.getD k d) (l.getD (k - 1) d) else false)=false:=by
 by_cases hk:0<k;·rw[show decide (0<(k:Int))=true from decide_eq_true (by omega),cond_true,(zA4 d h).2,(zA4 d (show k - 1<l.length by omega)).2];exact hr _ _ (yAH.1 hp (k - 1) k (by omega) h (by omega))
 ·rw[show decide (0<(k:Int))=false from decide_eq_false (by omega)];rfl
theorem zDs{a b:Gt.K6}(h:a.from_<b.from_\/(a.from_=b.from_/\(a.to<b.to\/(a.to=b.to/\a.scope<b.scope)))):zpV a b<0:=by
 have z:∀x:By,cS x x=0:=λx=>by simp[cS,yBn]
 have n:∀{x y:By},x<y->cS x y≠0:=λh=>by have:=(zc4 _ _).2 h;omega
 unfold zpV;rcases h with h|⟨h1,h|⟨h2,h3⟩⟩;·rw[if_pos (n h)];exact (zc4 _ _).2 h
 ·rw[h1,if_neg (by simp[z]),if_pos (n h)];exact (zc4 _ _).2 h
 ·rw[h1,h2,if_neg (by simp[z]),if_neg (by simp[z])];unfold sgI;rw[if_pos h3];decide
theorem Right.edge_lt{b:Gt.Kn}(hb:Right b):b.Kh.Pairwise λx y=>zpV x y<0:=by rw[yAH];intro i j hi hj hij;have:=hb.order i j hij hj;rw[zfY hi,zfY hj,zfX hi,zfX hj,zgV hi,zgV hj] at this;exact zDs this
theorem zzC{b:Gt.Kn}(h:zfo b=0):∀c∈b.Ka,zix c=0:=by unfold zfo at h;obtain ⟨_,h⟩:=zc5 (by decide) h;obtain ⟨_,h⟩:=zc5 (by decide) h;obtain ⟨hc,_⟩:=zni h;intro c hc';obtain ⟨k,hk,rfl⟩:=yBH hc';have h1:=zsV hc hk;unfold zen at h1;rw[show b.Ka.getD k noC=b.Ka[k] from (zA4 noC hk).2] at h1;exact (zni h1).1
theorem zDi{s:By}(h:znJ s 100=true):s≠[]/\zmn s=true:=by
 unfold znJ at h;cases h1:s.any prB with
 |true=>rw[h1] at h;cases h|false =>
   rw[h1,cond_false] at h;cases h2:s != [] with
   |false=>rw[h2] at h;cases h|true =>
     rw[h2,cond_true] at h;refine ⟨by simpa using h2,?_⟩;unfold zmn;have:s.any ctl=false:=by rw[yB0] at h1 ⊢;intro x hx hc;refine h1 x hx ?_;revert hc;exact all8 (p:=λc=> !ctl c||prB c) (by decide+kernel) x |> λh hc=>by rw[hc] at h;simpa using h
     rw[this,cond_false];exact h
theorem zBW{b:Gt.Kn}{k:Nat}(h:k<b.Ka.length):comp b k∈b.Ka/\(comp b k).ref=cR b k:=by obtain ⟨h1,h2⟩:=zA4 noC h;exact ⟨h1,by rw[zcU h];unfold comp;rw[h2]⟩
section
variable{b:Gt.Kn}{r:By}{scope:Int}(h:zfo b=0)(hr:zbm b r)
theorem zB2{i:Nat}(hi:i∈zBY b r scope):i<b.Ka.length/\0<=dAt (zBX b r scope) i:=by obtain ⟨h1,h2⟩:=yAO.1 hi;exact ⟨yBa.1 h1,by simpa using h2⟩
theorem zCF{i:Nat}(hi:i∈zBY b r scope):inC (zBV b r scope) (cR b i)=true:=by unfold inC;rw[yBd];exact ⟨comp b i,yBw.2 ⟨i,hi,rfl⟩,by simpa using (zBW (zB2 hi).1).2⟩
theorem zCB(s:By):zbm (zBS b r scope) s↔inC (zBV b r scope) s=true:=by
 unfold inC;rw[yBd];constructor
 ·rintro ⟨k,hk,e⟩
  have hk':k<(zBV b r scope).length:=hk;rw[zcU hk] at e;exact ⟨_,yAy hk',beq_iff_eq.2 e⟩
 ·rintro ⟨c,hc,e⟩
  obtain ⟨k,hk,rfl⟩:=yBH hc;exact ⟨k,hk,(zcU (b:=zBS b r scope) hk).trans (beq_iff_eq.1 e)⟩
include h
theorem zCR(hr:zbm b r):num b r∈zBY b r scope:=by have hb:=zeo h;obtain ⟨w1,w2,w3,w4,w5⟩:=hb.web scope;have ht:=(hb.num_lt hr).1;have hok:=zme (next:=outs b scope) (from_:=num b r) (wo:= -1) w1.lt (by rw[w3];exact ht) (by omega);refine yAO.2 ⟨yBa.2 ht,decide_eq_true ?_⟩;have:=hok.home;unfold zBX;omega
theorem zDl:(zBV b r scope).Pairwise λx y=>x.ref<y.ref:=by have hb:=zeo h;unfold zBV;rw[yA6];have hp:(zBY b r scope).Pairwise (· < ·):=List.Pairwise.filter _ List.pairwise_lt_range;refine hp.imp_of_mem λ{x y} hx hy hxy=>?_;rw[(zBW (zB2 hx).1).2,(zBW (zB2 hy).1).2];exact hb.refs x y hxy (zB2 hy).1
theorem zB7(hr:zbm b r):zfo (zBS b r scope)=0:=by
 have hb:=zeo h;have hn:=hb.n;have hm:=hb.m;have hcl:(zBV b r scope).length<=b.Ka.length:=by unfold zBV zBY;rw[yBi];exact yAo (yA0 _ _) (by simp)
 have K9:(zB5 b r scope).length<=b.Kh.length:=yA0 _ _;have hroot:=zCR (scope:=scope) h hr;obtain ⟨Ks,hcr⟩:=hb.num_lt hr;have hz:∀c∈zBV b r scope,zix c=0:=λc hc=>by obtain ⟨i,hi,rfl⟩:=yBw.1 hc;exact zzC h _ (zBW (zB2 hi).1).1
 have hrt:znJ r 100=true:=by have:=zzC h _ (zBW Ks).1;unfold zix at this;have h1:=(zc5 (by decide) this).1;rw[(zBW Ks).2,hcr] at h1;simpa using h1
 obtain ⟨t1,t2⟩:=zDi hrt;have hB:∀s,inC (zBV b r scope) s=true->znV (zBS b r scope) s=true:=λs hs=>(zj0 _ _).2 ((zCB s).2 hs);unfold zfo;refine zA8 ?_ (zA8 ?_ (zBI (zBk λk hk=>?_) (zA8 ?_ (zBk λk hk=>?_))));·show (bif (bif r==[] then true else !zmn r) then true else !zmn [])=false;rw[show (r==[])=false from by simpa using t1,t2];rfl
 ·show (bif decide (3000<len (zBV b r scope)) then true else decide (20000<len (zB5 b r scope)))=false;unfold len;rw[decide_eq_false (by omega),cond_false,decide_eq_false (by omega)]
 ·have hk:k<(zBV b r scope).length:=hk;unfold zen;exact zBI (hz _ (zA4 noC hk).1) (zA8 (zBf (l:=zBV b r scope) (r:=λx y=>leS x.ref y.ref) noC hk (zDl h) λx y hxy=>zBP hxy) rfl)
 ·show (!znV (zBS b r scope) r)=false;rw[hB r (by have:=zCF hroot;rwa[hcr] at this)];rfl
 ·have hk:k<(zB5 b r scope).length:=hk;obtain ⟨Kt,hp⟩:=yAO.1 (zA4 noE hk).1;obtain ⟨j,hj,e⟩:=yBH Kt;have h1:=hb.scope j hj;have h2:=hb.ends j hj;rw[zgV hj,e] at h1;rw[zfY hj,zfX hj,e] at h2;unfold zC0 at hp;simp only[yAd] at hp;unfold zre;refine zA8 ?_ (zA8 ?_ (zA8 ?_ (zA8 ?_ rfl)));·show (bif decide (((zB5 b r scope).getD k noE).scope<1) then true else decide (4<((zB5 b r scope).getD k noE).scope))=false;rw[decide_eq_false (by omega),cond_false,decide_eq_false (by omega)]
  ·show (bif !znV (zBS b r scope) ((zB5 b r scope).getD k noE).from_ then true else !znV (zBS b r scope) ((zB5 b r scope).getD k noE).to)=false;rw[hB _ hp.2.1,hB _ hp.2.2];rfl
  ·show (((zB5 b r scope).getD k noE).from_==((zB5 b r scope).getD k noE).to)=false;simpa using h2.2.2
  ·exact zBf (l:=zB5 b r scope) (r:=λx y=>decide (0<=zpV y x)) noE hk (hb.edge_lt.filter _) λx y hxy=>decide_eq_false (by omega)
theorem zCK(hr:zbm b r)(n:Nat):∀j,dAt (zBX b r scope) j=(n:Int)->0<=dAt (zeI (outs (zBS b r scope) scope) (num (zBS b r scope) r) (-1)) (num (zBS b r scope) (cR b j)):=by
 have hb:=zeo h;have hb':=zeo (zB7 (scope:=scope) h hr);obtain ⟨w1,w2,w3,w4,w5⟩:=hb.web scope;obtain ⟨v1,v2,v3,v4,v5⟩:=hb'.web scope;obtain ⟨Ks,hcr⟩:=hb.num_lt hr;have hroot:=zCR (scope:=scope) h hr;have hr':zbm (zBS b r scope) r:=(zCB r).2 (by have:=zCF hroot;rwa[hcr] at this);have hok:=zme (next:=outs b scope) (from_:=num b r) (wo:= -1) w1.lt (by rw[w3];exact Ks) (by omega);have hok':=zme (next:=outs (zBS b r scope) scope) (from_:=num (zBS b r scope) r) (wo:= -1) v1.lt (by rw[v3];exact (hb'.num_lt hr').1) (by omega);have Kt:∀j,0<=dAt (zBX b r scope) j->j∈zBY b r scope:=λj hj=>by
  have hl:j<b.Ka.length:=by
   have:=zpq hj;have hd:(zBX b r scope).length=b.Ka.length:=by unfold zBX;rw[hok.len,w3]
   omega
  exact yAO.2 ⟨yBa.2 hl,decide_eq_true hj⟩
 induction n with
 |zero =>
   intro j hj;rcases hok.src j (by unfold zBX at hj;omega) with h1|⟨h1,_⟩
   ·rw[h1.1,hcr];have:=hok'.home;omega
   ·unfold zBX at hj;omega
 |succ n ih =>
   intro j hj;rcases hok.src j (by unfold zBX at hj;omega) with h1|⟨h1,i,h2,h3⟩;·unfold zBX at hj;omega
   ·have hi:=ih i (by unfold zBX at hj ⊢;omega);have mi:=Kt i (by unfold zBX at hj ⊢;omega);have mj:=Kt j (by omega);obtain ⟨k,k1,k2,k3⟩:=(hb.Kh scope).mem_out.1 h2;obtain ⟨e1,e2,e3⟩:=hb.ends k k1;have e4:eF b k=cR b i:=by
     have:=congrArg Prod.fst k3;have h8:num b (eF b k)=i:=this;rw[<-(hb.num_lt e1).2,h8]
    have e5:eT b k=cR b j:=(by have:=congrArg Prod.snd k3;have h8:num b (eT b k)=j:=this;rw[<-(hb.num_lt e2).2,h8]);have Qa:b.Kh[k]∈zB5 b r scope:=(by refine yAO.2 ⟨yAy k1,?_⟩;unfold zC0;unfold eIn at k2;rw[zgV k1] at k2;rw[zfY k1] at e4;rw[zfX k1] at e5;rw[k2,e4,e5,zCF mi,zCF mj];rfl);obtain ⟨m,hm,em⟩:=yBH Qa;have Kp:num (zBS b r scope) (cR b j)∈row (outs (zBS b r scope) scope) (num (zBS b r scope) (cR b i)):=by
     refine (hb'.Kh scope).mem_out.2 ⟨m,hm,?_,?_⟩
     ·unfold eIn eS;have:(zBS b r scope).Kh[m]?=some b.Kh[k]:=by rw[show (zBS b r scope).Kh=zB5 b r scope from rfl,yAe hm,em]
      rw[this];unfold eIn at k2;rw[zgV k1] at k2;exact k2
     ·unfold eP;have:(zBS b r scope).Kh[m]?=some b.Kh[k]:=by rw[show (zBS b r scope).Kh=zB5 b r scope from rfl,yAe hm,em]
      unfold eF eT;rw[this];rw[zfY k1] at e4;rw[zfX k1] at e5;show (num _ b.Kh[k].from_,num _ b.Kh[k].to)=_;rw[e4,e5]
    rcases hok'.closed _ hi with h6|h6;·cases h6
    ·rcases h6 _ Kp with h7|h7;·exact h7
     ·omega
theorem zC5(hr:zbm b r):∀k,k<(zBS b r scope).Ka.length->0<=dAt (zeI (outs (zBS b r scope) scope) (num (zBS b r scope) (zBS b r scope).root) (-1)) k:=by
 intro k hk;have hb':=zeo (zB7 (scope:=scope) h hr);have hk':k<(zBY b r scope).length:=by have:k<(zBV b r scope).length:=hk;unfold zBV at this;rwa[yBi] at this
 have hm:=yAy hk';obtain ⟨h1,h2⟩:=zB2 hm;have h3:=zCK (scope:=scope) h hr (dAt (zBX b r scope) (zBY b r scope)[k]).toNat (zBY b r scope)[k] (by omega);have e:cR b (zBY b r scope)[k]=cR (zBS b r scope) k:=by rw[zcU hk,<-(zBW h1).2];show _=(((zBY b r scope).map (comp b))[k]'(by rw[yBi];exact hk')).ref;rw[List.getElem_map]
 rw[e,hb'.num_cR hk] at h3;exact h3
end
end Pe.Tryz
end
section
namespace Pe.Tryz
open Go Go.Proofs Pe
theorem T58a(o:Orc Sx):m58 o [[1],[2],[]] 0 1=some ([0, -1, -1],()):=by unfold m58;rw[show zlG (len ([[1],[2],[]]:List (List Int))) (0:Int)=some [0,0,0] from rfl,zaa];refine (congrArg (λz=>zaE z _) (zjW (n:=9) (r:= .inl ([-1, -1, -1],())) (by kernel_rfl))).trans ?_;show zaE (zak _ (([0, -1, -1],[0],()):List Int×List Int×J)) _=_;refine (congrArg (λz=>zaE z _) (Eq.trans (zaR (y:=([0, -1, -1],[],())) ?_) (zaD (r:= .inl ([0, -1, -1],())) rfl))).trans rfl;exact zjW (n:=9) (by kernel_rfl)
theorem T58b(o:Orc Sx):m58 o [[],[0],[1]] 2 (-1)=some ([2,1,0],()):=by
 unfold m58;rw[show zlG (len ([[],[0],[1]]:List (List Int))) (0:Int)=some [0,0,0] from rfl,zaa];refine (congrArg (λz=>zaE z _) (zjW (n:=9) (r:= .inl ([-1, -1, -1],())) (by kernel_rfl))).trans ?_;show zaE (zak _ (([-1, -1,0],[2],()):List Int×List Int×J)) _=_;refine (congrArg (λz=>zaE z _) (Eq.trans (zaR (y:=([-1,1,0],[1],())) ?_) (Eq.trans (zaR (y:=([2,1,0],[0],())) ?_) (Eq.trans (zaR (y:=([2,1,0],[],())) ?_) (zaD (r:= .inl ([2,1,0],())) rfl))))).trans rfl
 all_goals exact zjW (n:=9) (by kernel_rfl)
def cT(s:By):Gt.Kd:=Gt.Kd.mk s (Gt.K3.mk [112,108,97,105,110] [] s [] [] []) [] [] []
def zkn:Gt.Kn:=Gt.Kn.mk [120] [] [97] [cT [97],cT [98],cT [99]] [Gt.K6.mk [97] [98] 1,Gt.K6.mk [98] [99] 1]
def zuo:Gt.Gf:=Gt.Gf.mk zkn 0 [[1],[2],[]] [[],[0],[1]]
theorem T59(o:Orc Sx):m59 o zuo [1]=some ([[98]],()):=by unfold m59;exact (congrArg (λz=>zaE z _) (zjW (n:=9) (r:= .inl ([[98]],())) (by kernel_rfl))).trans rfl
theorem T67(n:Nat):m67 (zah (n+9)) zkn [99]=some (2,true,()):=by
 unfold m67;rw[zjW (n:=9) (r:= .inl (2,())) (by kernel_rfl)]
 kernel_rfl
theorem T122(n:Nat):m122 (zah (n+9)) zkn 1=some (zuo,()):=by unfold m122;refine (congrArg (λz=>zaE z _) (zjW (n:=9) (r:= .inl ([([97],0),([98],1),([99],2)],())) (by kernel_rfl))).trans ?_;show zaE (zak _ ((0,zkn.name,zkn.Ko,zkn.root,zkn.Ka,zkn.Kh,0,[[],[],[]],[[],[],[]],()):Int×By×By×By×List Gt.Kd×List Gt.K6×Int×List (List Int)×List (List Int)×J)) _=_;refine (congrArg (λz=>zaE z _) (zjW (n:=9) (r:= .inl (zkn.name,zkn.Ko,zkn.root,zkn.Ka,zkn.Kh,0,[[1],[2],[]],[[],[0],[1]],())) (by kernel_rfl))).trans ?_;rw[zaj];exact (congrArg (λz=>zaE z _) (zjW (n:=9) (r:= .inl (zkn.name,zkn.Ko,zkn.root,zkn.Ka,zkn.Kh,0,[[1],[2],[]],[[],[0],[1]],())) (by kernel_rfl))).trans rfl
theorem T57(n:Nat):m57 (zah (n+1)) zuo 2=some ([0,1,2],()):=by
 unfold m57;rw[show @Eq (Option (List Int×J)) ((zah (n+1)).d 58 [.sl LI zuo.Kr,.int .i64 2,.int .i64 (-1)] [LI]) (some ([2,1,0],())) from (q58 n _ _ _).trans (T58b _),zaa];show zaE (zak _ (([0],0,()):List Int×Int×J)) _=_;refine (congrArg (λz=>zaE z _) (Eq.trans (zaR (y:=([0,1],1,())) ?_) (Eq.trans (zaR (y:=([0,1,2],2,())) ?_) (zaD (r:= .inl ([0,1,2],())) rfl)))).trans rfl
 all_goals
  show ob (zaE (zak _ ((0,()):Int×J)) _) _=_;rw[zjW (n:=9) (r:= .inr (0,())) (by kernel_rfl)];rfl
theorem zrj:SmB zkn:=⟨by decide,by decide,λc hc=>by simp only[zkn,yAm,yAX,or_false] at hc;rcases hc with rfl|rfl|rfl<;>exact ⟨by decide,by decide,by decide,λd hd=>by simp[cT] at hd,λf hf=>by simp[cT] at hf,by decide,by decide⟩⟩
theorem zp2:zfo zkn=0:=by kernel_rfl
theorem T79(n:Nat):m79 (zah (n+150)) zkn 1=some (zuo,0,()):=by unfold m79;rw[L40 (by omega) zrj,zaa,zp2];show ob (α:=Gt.Gf×J) _ _=_;rw[show @Eq (Option (Gt.Gf×J)) ((zah (n+150)).d 122 [.st 3 zkn,.int .i64 1] [.st 14]) (some (zuo,())) from (q122 (n+149) _ _).trans (T122 (n+140)),zaa]
theorem T14(n:Nat):m14 (zah (n+200)) zkn [99] 1=some ([[98]],0,()):=by
 unfold m14;rw[show @Eq (Option (Gt.Gf×Int×Int×J)) ((zah (n+200)).d 56 [.st 3 zkn,.str [99],.int .i64 1] [.st 14,I6,I6]) (some (zuo,2,0,())) from by
  refine (q56 (n+199) _ _ _).trans ?_;unfold m56
  rw[show @Eq (Option (Gt.Gf×Int×J)) ((zah (n+199)).d 79 [.st 3 zkn,.int .i64 1] [.st 14,I6]) (some (zuo,0,())) from (q79 (n+198) _ _).trans (T79 (n+48)),zaa,
   show @Eq (Option (Int×Bool×J)) ((zah (n+199)).d 67 [.st 3 zkn,.str [99]] [I6,.bool]) (some (2,true,())) from (q67 (n+198) _ _).trans (T67 (n+189)),zaa]
  rfl,zaa]
 show zaE (ob (α:=List Int×J) _ _) _=_;rw[show @Eq (Option (List Int×J)) ((zah (n+200)).d 57 [.st 14 zuo,.int .i64 2] [LI]) (some ([0,1,2],())) from (q57 (n+199) _ _).trans (T57 (n+198)),zaa];refine (congrArg (λz=>zaE z _) (Eq.trans (zaR (y:=([],1,())) rfl) (Eq.trans (zaR (y:=([1],2,())) ?_) (Eq.trans (zaR (y:=([1],3,())) rfl) (zaD (r:= .inl ([1],())) rfl))))).trans ?_;·dsimp only;rw[show at? [(0:Int),1,2] 1=some 1 from rfl,zaa,show @Eq (Option (List Int×J)) ((zah (n+200)).d 58 [.sl LI zuo.out,.int .i64 zuo.root,.int .i64 1] [LI]) (some ([0, -1, -1],())) from (q58 (n+199) _ _ _).trans (T58a _)];rfl
 ·rw[zaj];dsimp only;rw[show @Eq (Option (List By×J)) ((zah (n+200)).d 59 [.st 14 zuo,.sl I6 ([1]:List Int)] [LS]) (some ([[98]],())) from (q59 (n+199) _ _).trans (T59 _),zaa]
theorem L19{n:Nat}(hn:210<=n): @Eq (Option (Bool×J)) ((zah n).d 19 [] [.bool]) (some (true,())):=by obtain ⟨n,rfl⟩:∃k,n=k+210:=⟨n - 210,by omega⟩;refine (q19 (n+209)).trans ?_;unfold m19;have h66:∀s:By,@Eq (Option (Gt.Kd×J)) ((zah (n+209)).d 66 [.str s] [.st 5]) (some (cT s,())):=λs=>(q66 (n+208) s).trans rfl;rw[h66,zaa,h66,zaa,h66,zaa];dsimp only;rw[show @Eq (Option (List By×Int×J)) ((zah (n+209)).d 14 [.st 3 (Gt.Kn.mk [120] [] [97] [cT [97],cT [98],cT [99]] [Gt.K6.mk [97] [98] 1,Gt.K6.mk [98] [99] 1]),.str [99],.int .i64 1] [LS,I6]) (some ([[98]],0,())) from (q14 (n+208) zkn [99] 1).trans (T14 (n+8)),zaa];dsimp only;rw[show ((0:Int)==0)=true from rfl,zac];refine congrArg (λx:Option (Bool×J)=>ob x λr5=>some (r5.1,())) ((q18 (n+208) [[98]] [[98]]).trans (?_:_=some (true,())));unfold m18;rw[zjW (n:=9) (r:= .inl ()) (by kernel_rfl)];rfl
end Pe.Tryz
end
section
namespace Pe.Tryz
open Go Go.Proofs Pe
structure SmL (c:Gt.Kd):Prop where
 quals:c.purl.Kf.length<=1000000000
 digs:c.K7.length<=1000000000
 files:c.files.length<=1000000000
theorem zty{R:Type}{f:Int×J->Option ((Int×J)⊕R)}{n:Nat}(fin:R)(h:∀k,k<n->f ((k:Int),())=some (.inl (((k+1:Nat):Int),())))(he:f ((n:Int),())=some (.inr fin)):zak f ((0:Int),())=some fin:=by
 refine zby (A:=J) (λk _=>((k:Int),())) n (λ_ _=>fin) (λ_ _=>True) (λk _ hk _=>?_) 0 () (yAA _) trivial;rcases yAT k n with h1|h1;·exact .inl ⟨(),h1,h k h1,trivial,rfl⟩
 ·have:k=n:=by omega
  subst this;exact .inr he
theorem m69_same(o:Orc Sx){l:List By}(hl:l.length<=1000000000):m69 o l l=some (true,()):=by
 unfold m69;rw[show (len l != len l)=false from by simp,zab];rw[zty (n:=l.length) (.inl ():J⊕(Bool×J)) (λk hk=>?_) ?_];·rfl
 ·dsimp only;rw[show decide ((l.length:Int)<len l)=false from by simp[len],zab]
 ·dsimp only;rw[show decide ((k:Int)<len l)=true from by simp[len];exact hk,zac,zan hk,zaa,zaa,show (l[k] != l[k])=false from by simp,zab,zaf hk (by omega)]
theorem m70_same(o:Orc Sx){p:Gt.K3}(hl:p.Kf.length<=1000000000):m70 o p p=some (true,()):=by
 have ne:∀l:By,(l != l)=false:=λl=>by simp
 unfold m70;simp only[ne,zab,zaa,show (len p.Kf != len p.Kf)=false from by simp];rw[zty (n:=p.Kf.length) (.inl ():J⊕(Bool×J)) (λk hk=>?_) ?_];·rfl
 ·dsimp only;rw[show decide ((p.Kf.length:Int)<len p.Kf)=false from by simp[len],zab]
 ·dsimp only;rw[show decide ((k:Int)<len p.Kf)=true from by simp[len];exact hk,zac,zan hk,zaa,zaa,zaf hk (by omega)];simp only[beq_self_eq_true,Bool.and_self,yBS,zab]
theorem L26(n:Nat){c:Gt.Kd}(hc:SmL c): @Eq (Option (Bool×J)) ((zah (n+2)).d 26 [.st 5 c,.st 5 c] [.bool]) (some (true,())):=by
 have ne:∀l:By,(l != l)=false:=λl=>by simp
 refine (q26 (n+1) c c).trans ?_;unfold m26
 rw[show @Eq (Option (Bool×J)) ((zah (n+1)).d 69 [.sl .str c.files,.sl .str c.files] [.bool]) (some (true,())) from (q69 n _ _).trans (m69_same _ hc.files),
  show @Eq (Option (Bool×J)) ((zah (n+1)).d 70 [.st 11 c.purl,.st 11 c.purl] [.bool]) (some (true,())) from (q70 n _ _).trans (m70_same _ hc.quals)]
 simp only[ne,zab,zaa,yBS,show (len c.K7 != len c.K7)=false from by simp];rw[zty (n:=c.K7.length) (.inl ():J⊕(Bool×J)) (λk hk=>?_) ?_];·rfl
 ·dsimp only;rw[show decide ((c.K7.length:Int)<len c.K7)=false from by simp[len],zab]
 ·dsimp only;rw[show decide ((k:Int)<len c.K7)=true from by simp[len];exact hk,zac,zan hk,zaa,zaa,zaf hk (by have:=hc.digs;omega)];simp only[beq_self_eq_true,Bool.and_self,yBS,zab]
theorem m55_same(o:Orc Sx){l:List Gt.K6}(hl:l.length<=1000000000):m55 o l l=some (true,()):=by
 unfold m55;rw[show (len l != len l)=false from by simp,zab];rw[zty (n:=l.length) (.inl ():J⊕(Bool×J)) (λk hk=>?_) ?_];·rfl
 ·dsimp only;rw[show decide ((l.length:Int)<len l)=false from by simp[len],zab]
 ·dsimp only;rw[show decide ((k:Int)<len l)=true from by grind[len],zac,zan hk,zaa,zaa,zaf hk (by omega)];simp_all[zab]
theorem L38(n:Nat){b:Gt.Kn}(h1:b.Ka.length<=1000000000)(h2:b.Kh.length<=1000000000)(h:∀c∈b.Ka,SmL c): @Eq (Option (Bool×J)) ((zah (n+3)).d 38 [.st 3 b,.st 3 b] [.bool]) (some (true,())):=by
 refine (q38 (n+2) b b).trans ?_;unfold m38;simp only[beq_self_eq_true,zac,zaa,show (len b.Ka != len b.Ka)=false from by simp,zab];rw[zty (n:=b.Ka.length) (.inl ():J⊕(Bool×J)) (λk hk=>?_) ?_];·rw[zaj,zaa,zaa,zac,show @Eq (Option (Bool×J)) ((zah (n+2)).d 55 [.sl (.st 7) b.Kh,.sl (.st 7) b.Kh] [.bool]) (some (true,())) from (q55 (n+1) _ _).trans (m55_same _ h2),zaa,zaa]
 ·dsimp only;rw[show decide ((b.Ka.length:Int)<len b.Ka)=false from by simp[len],zab]
 ·dsimp only;rw[show decide ((k:Int)<len b.Ka)=true from by simp[len];exact hk,zac,zan hk,zaa,zaa,L26 n (h _ (yAy hk)),zaa,zaf hk (by omega)];rfl
end Pe.Tryz
end
section
namespace Pe.Tryz
open Go Go.Proofs Pe Pe.Bfs
theorem L62(n:Nat){b:Gt.Kn}(hn:b.Ka.length<=1000000)(r:By): @Eq (Option (Int×J)) ((zah (n+1)).d 62 [.st 3 b,.str r] [I6]) (some (zfF b r,())):=(q62 n b r).trans (m62_eq' _ hn r)
theorem L122(n:Nat){b:Gt.Kn}(hb:Right b)(scope:Int): @Eq (Option (Gt.Gf×J)) ((zah (n+2)).d 122 [.st 3 b,.int .i64 scope] [.st 14]) (some (zc3 b scope,())) :=
 (q122 (n+1) b scope).trans (m122_eq' _ (λs hs=>(q168 n s).trans (m168_eq' _ hs)) hb scope)
theorem L60(n:Nat){b:Gt.Kn}(hb:Right b)(scope:Int): @Eq (Option (Gt.Wb×J)) ((zah (n+2)).d 60 [.st 3 b,.int .i64 scope] [.st 19]) (some (zpQ b scope,())) :=
 (q60 (n+1) b scope).trans (m60_eq' _ (λb r hn=>L62 n hn r) hb scope)
theorem L58(n:Nat){N:List (List Nat)}{from_:Nat}(wo:Int)(hw:Web N)(hf:from_<N.length): @Eq (Option (List Int×J)) ((zah (n+1)).d 58 [.sl LI (za6 N),.int .i64 (from_:Int),.int .i64 wo] [LI]) (some (zeI N from_ wo,())):=(q58 n _ _ _).trans (m58_dist _ hw hf)
theorem L109(n:Nat)(c:Gt.Kd)(r:By): @Eq (Option (Int×J)) ((zah (n+3)).d 109 [.st 5 c,.str r] [I6]) (some (cS c.ref r,())):=by refine (q109 (n+2) c r).trans ?_;unfold m109;rw[L110 n,zaa]
theorem m79_eq'{n:Nat}(hn:150<=n){b:Gt.Kn}(hb:SmB b)(scope:Int):(zfo b=0->zeT scope=false->m79 (zah n) b scope=some (zc3 b scope,0,()))/\(zfo b=0->zeT scope=true->∃g,m79 (zah n) b scope=some (g,9,()))/\(zfo b≠0->∃g,m79 (zah n) b scope=some (g,zfo b,())):=by
 obtain ⟨n,rfl⟩:∃k,n=k+150:=⟨n - 150,by omega⟩;have hr:(bif decide (scope<1) then true else decide (4<scope))=zeT scope:=by unfold zeT;cases decide (scope<1)<;>rfl
 refine ⟨λh0 h1=>?_,λh0 h1=>?_,λh0=>?_⟩;·unfold m79;rw[L40 (by omega) hb,zaa];dsimp only;rw[h0,show ((0:Int) != 0)=false from rfl,zab,zai,zaa,hr,h1,zab,L122 (n+148) (zeo h0) scope,zaa]
 ·unfold m79;rw[L40 (by omega) hb,zaa];dsimp only;rw[h0,show ((0:Int) != 0)=false from rfl,zab,zai,zaa,hr,h1,zac];exact ⟨_,rfl⟩
 ·unfold m79;rw[L40 (by omega) hb,zaa];dsimp only;rw[show (zfo b != 0)=true from by simpa using h0,zac];exact ⟨_,rfl⟩
open Classical in
theorem grO{n:Nat}(hn:200<=n){b:Gt.Kn}(hb:SmB b):GrO zfo (zah n) b:=by
 obtain ⟨n,rfl⟩:∃k,n=k+200:=⟨n - 200,by omega⟩;have hr2:∀scope:Int,(bif decide (scope<1) then true else decide (4<scope))=zeT scope:=λscope=>by unfold zeT;cases decide (scope<1)<;>rfl
 refine ⟨zeo,λr scope=>?_,λr scope=>?_,λN f wo hw hf=>L58 (n+199) wo hw hf,
  λb scope f wo hb hf=>(q61 (n+199) _ _ _).trans (m61_dist _ rfl (by rw[show (zpQ b scope).refs=zbr b from rfl,(hb.web scope).2.2.1];simp[zbr]) (hb.web scope).1 (by rw[(hb.web scope).2.2.1];exact hf)),
  λb scope hb=>L60 (n+198) hb scope,λb r hb=>L62 (n+199) (by have:=hb.n;omega) r,λb scope l hb hl hs=>(q59 (n+199) _ _).trans (m59_eq' (b:=b) (g:=zc3 b scope) _ rfl (by have:=hb.n;omega) hl hs)⟩
 ·have h79: @Eq (Option (Gt.Gf×Int×J)) ((zah (n+199)).d 79 [.st 3 b,.int .i64 scope] [.st 14,I6]) (m79 (zah (n+198)) b scope):=q79 (n+198) b scope;have hm:=m79_eq' (n:=n+198) (by omega) hb scope;have h67:Right b->_:=λhR=>m67_eq' (zah (n+198)) (λc r=>L109 (n+195) c r) hR r;have q67': @Eq (Option (Int×Bool×J)) ((zah (n+199)).d 67 [.st 3 b,.str r] [I6,.bool]) (m67 (zah (n+198)) b r):=q67 (n+198) b r;constructor
  ·intro he;refine (q56 (n+199) b r scope).trans ?_;unfold za5 at he;split at he;·rename_i h1;exact absurd he h1
   ·rename_i h1;have h1:zfo b=0:=by simpa using h1
    split at he;·cases he
    ·rename_i h2;split at he;·rename_i h3;unfold m56;rw[h79,hm.1 h1 (by simpa using h2),zaa];dsimp only;rw[show ((0:Int) != 0)=false from rfl,zab,q67',(h67 (zeo h1)).1 h3,zaa];rfl
     ·cases he
  ·intro he;rw[show (zah (n+200)).d 56 [.st 3 b,.str r,.int .i64 scope] [.st 14,I6,I6]=m56 (zah (n+199)) b r scope from q56 (n+199) b r scope];by_cases h1:zfo b=0
   ·by_cases h2:zeT scope=true
    ·have e9:za5 zfo b r scope=9:=(by unfold za5;rw[if_neg (by simpa using h1),if_pos h2]);obtain ⟨g,hg⟩:=hm.2.1 h1 h2;unfold m56;rw[h79,hg,zaa,e9];exact ⟨_,_,rfl⟩
    ·by_cases h3:zbm b r;·exfalso;apply he;unfold za5;rw[if_neg (by simpa using h1),if_neg h2,if_pos h3]
     ·have e4:za5 zfo b r scope=4:=(by unfold za5;rw[if_neg (by simpa using h1),if_neg h2,if_neg h3]);obtain ⟨k,hk⟩:=(h67 (zeo h1)).2 h3;unfold m56;rw[h79,hm.1 h1 (by simpa using h2),zaa];dsimp only;rw[show ((0:Int) != 0)=false from rfl,zab,q67',hk,zaa,e4];exact ⟨_,_,rfl⟩
   ·have ec:za5 zfo b r scope=zfo b:=(by unfold za5;rw[if_pos h1]);obtain ⟨g,hg⟩:=hm.2.2 h1;unfold m56;rw[h79,hg,zaa,ec];dsimp only;rw[show (zfo b != 0)=true from by simpa using h1,zac];exact ⟨_,_,rfl⟩
 ·refine (q63 (n+199) b scope [r]).trans ?_;unfold m63;rw[show @Eq (Option (Int×J)) ((zah (n+199)).d 54 [.st 3 b] [I6]) (some (zfo b,())) from L54 (by omega) hb,zaa];unfold za5;by_cases h1:zfo b=0
  ·rw[if_neg (by simpa using h1)];dsimp only;rw[h1,show ((0:Int) != 0)=false from rfl,zab,zai,zaa,hr2];by_cases h2:zeT scope=true;·rw[if_pos h2,h2,zac]
   ·rw[if_neg h2,show zeT scope=false from by simpa using h2,zab];have hR:=zeo h1;rw[zb9 1 (λ_=>if zbm b r then 0 else 4) (λc=>(.inr (c,()):J⊕(Int×J))) (.inl ()) (λk hk _=>?_) ?_];·rw[zgF];rfl
    ·rfl
    ·have:k=0:=by omega
     subst this;dsimp only;rw[show decide (((0:Nat):Int)<len [r])=true from by simp[len],zac,show at? [r] ((0:Nat):Int)=some r from rfl,zaa,L62 (n+198) (by have:=hR.n;omega) r,zaa,show IntKind.i64.wrap (((0:Nat):Int)+1)=((0+1:Nat):Int) from by decide];by_cases h3:zbm b r;·rw[if_pos h3,hR.place h3];dsimp only;rw[show decide (((num b r:Nat):Int)<0)=false from by simp,zab];rfl
     ·rw[if_neg h3,znM h3];rfl
  ·rw[if_pos h1];dsimp only;rw[show (zfo b != 0)=true from by simpa using h1,zac]
theorem q111(n:Nat)(l:List Gt.Pair): @Eq (Option (List Gt.Pair×J)) ((zah (n+1)).d 111 [.sl (.st 10) l] [.sl (.st 10)]) (bif Nat.ble l.length 1000000000 then some (l,()) else none):=by kernel_rfl
theorem q112(n:Nat)(l:List Gt.Qd): @Eq (Option (List Gt.Qd×J)) ((zah (n+1)).d 112 [.sl (.st 6) l] [.sl (.st 6)]) (bif Nat.ble l.length 1000000000 then some (l,()) else none):=by kernel_rfl
theorem q113(n:Nat)(l:List By): @Eq (Option (List By×J)) ((zah (n+1)).d 113 [.sl .str l] [LS]) (bif Nat.ble l.length 1000000000 then some (l,()) else none):=by kernel_rfl
theorem L68(n:Nat){c:Gt.Kd}(hc:SmL c): @Eq (Option (Gt.Kd×J)) ((zah (n+2)).d 68 [.st 5 c] [.st 5]) (some (c,())):=by
 have ble:∀{k:Nat},k<=1000000000->Nat.ble k 1000000000=true:=λh=>by rw[yAK];exact h
 refine (q68 (n+1) c).trans ?_;unfold m68;rw[q111,ble hc.quals,cond_true,zaa,q112,ble hc.digs,cond_true,zaa,q113,ble hc.files,cond_true,zaa]
theorem m75_eq'(orc:Orc Sx){d:List Int}(hd:d.length<=1000000):m75 orc d=some (ofN ((List.range d.length).filter λk=>decide (0<=dAt d k)),()):=by
 unfold m75;rw[zeF (f:=_) (List.range d.length) (λk=>if decide (0<=dAt d k)=true then some (k:Int) else none) (λa=>(.inl (a,()):(List Int×J)⊕(List Int×J))) (λk hk a ha=>?_) λa=>?_];·rw[zaj,zfV λk=>decide (0<=dAt d k)]
 ·have hk':k<d.length:=by simpa using hk
  dsimp only;rw[yBc,show decide ((k:Int)<len d)=true from by simp[len];exact hk',zac,zoi hk',zaa,zaf hk' (by omega)];cases decide (0<=dAt d k) with
  |false=>rfl|true=>rw[zac,zbc (by simp[lim];omega),zaa];rfl
 ·dsimp only;rw[yBe,show decide (((d.length:Nat):Int)<len d)=false from by simp[len],zab]
theorem m18_same(o:Orc Sx)(l:List By)(hl:l.length<=1000000):m18 o l l=some (true,()):=by
 unfold m18;rw[show (len l != len l)=false from by simp,zab];refine (zwI (zty (n:=l.length) (.inl ()) (λk hk=>?_) ?_)).trans (zaj _ _);·dsimp only;rw[show decide ((k:Int)<len l)=true from by simp[len];exact hk,zac,zan hk,zaa,zaa,show (l[k] != l[k])=false from by simp,zab,zaf hk (by omega)]
 ·dsimp only;rw[show decide ((l.length:Int)<len l)=false from by simp[len],zab]
theorem zxX(n:Nat)(l:List (List By))(hl:l.length<=1000000)(hs:∀x∈l,x.length<=1000000): @Eq (Option (Bool×J)) ((zah (n+2)).d 31 [.sl LS l,.sl LS l] [.bool]) (some (true,())):=by
 refine (q31 (n+1) l l).trans ?_;unfold m31;rw[show (len l != len l)=false from by simp,zab];rw[show ∀K:Bool×J->Option (Bool×J),∀x:Option (Bool×J),x=some (true,())->ob x K=K (true,()) from λK x h=>by rw[h];rfl];refine (zwI (zty (n:=l.length) (.inl ()) (λk hk=>?_) ?_)).trans (zaj _ _);·dsimp only;rw[show decide ((k:Int)<len l)=true from by simp[len];exact hk,zac,zan hk,zaa,zaa,show @Eq (Option (Bool×J)) ((zah (n+1)).d 18 [.sl .str l[k],.sl .str l[k]] [.bool]) (some (true,())) from (q18 n _ _).trans (m18_same _ _ (hs _ (yAy hk))),zaa];dsimp only;rw[show (!true)=false from rfl,zab,zaf hk (by omega)]
 ·dsimp only;rw[show decide (((l.length:Nat):Int)<len l)=false from by simp[len],zab]
theorem zC1{b:Gt.Kn}(hb:SmB b)(h:zfo b=0){r:By}(hr:zbm b r)(scope:Int):SmB (zBS b r scope):=by
 obtain ⟨Ks,hcr⟩:=(zeo h).num_lt hr;refine ⟨?_,by show ([]:By).length<=_;simp,λc hc=>?_⟩;·have:=(hb.comps _ (zBW Ks).1).ref;rw[(zBW Ks).2,hcr] at this;exact this
 ·obtain ⟨i,hi,rfl⟩:=yBw.1 (show c∈zBV b r scope from hc);exact hb.comps _ (zBW (zB2 hi).1).1
theorem zDc{b:Gt.Kn}(hb:SmB b):∀c∈b.Ka,SmL c:=λc hc=>⟨(hb.comps c hc).quals,(hb.comps c hc).dl,(hb.comps c hc).fl⟩
theorem L8{n:Nat}(hn:230<=n){b:Gt.Kn}(hb:SmB b)(r:By)(scope:Int):m8 (zah n) b r scope=some (true,()):=by
 obtain ⟨n,rfl⟩:∃k,n=k+230:=⟨n - 230,by omega⟩;have K:=grO (n:=n+229) (by omega) hb;have h75:∀m,∀d:List Int,d.length<=1000000-> @Eq (Option (List Int×J)) ((zah (m+1)).d 75 [.sl I6 d] [LI]) (some (ofN ((List.range d.length).filter λk=>decide (0<=dAt d k)),())):=λm d hd=>(q75 m _).trans (m75_eq' _ hd);have e34: @Eq (Option (Gt.Kn×Int×J)) ((zah (n+230)).d 34 [.st 3 b,.str r,.int .i64 scope] [.st 3,I6]) (m34 (zah (n+229)) b r scope):=q34 _ _ _ _;have e35: @Eq (Option (Gt.Kn×Int×J)) ((zah (n+230)).d 35 [.st 3 b,.str r,.int .i64 scope] [.st 3,I6]) (m35 (zah (n+229)) b r scope):=q35 _ _ _ _;have e36: @Eq (Option (List (List By)×Int×J)) ((zah (n+230)).d 36 [.st 3 b] [.sl LS,I6]) (m36 (zah (n+229)) b):=q36 _ _;have e37: @Eq (Option (List (List By)×Int×J)) ((zah (n+230)).d 37 [.st 3 b] [.sl LS,I6]) (m37 (zah (n+229)) b):=q37 _ _;have h34:=m34_eq' K (h75 (n+228)) (λc hc=>L68 (n+227) (zDc hb c hc)) r scope;have h35:=m35_eq' K (λb r hn=>L62 (n+228) hn r) r scope;have hnn:zfo b=0->b.Ka.length<=3000:=λh=>(zeo h).n;have hq:∀i,i<b.Ka.length->(comp b i).purl.Kf.length<=1000000000:=λi hi=>(hb.comps _ (zBW hi).1).quals;have h36:=m36_eq' (orc:=zah (n+229)) (L40 (by omega) hb) hnn λi hi=>L76 (n+223) (hq i hi);have h37:=m37_eq' (orc:=zah (n+229)) (L54 (by omega) hb) hnn λi hi=>L77 (n+223) (hq i hi);have told: @Eq (Option (Bool×J)) ((zah (n+230)).d 19 [] [.bool]) (some (true,())):=L19 (by omega);unfold m8;rw[e34,e35,e36,e37];by_cases he:za5 zfo b r scope=0
 ·obtain ⟨hR,hr⟩:=zjc K he;have h0:zfo b=0/\zeT scope=false:=by
   unfold za5 at he;split at he;·rename_i h1;exact absurd he h1
   ·rename_i h1;split at he;·cases he
    ·rename_i h2;exact ⟨by simpa using h1,by simpa using h2⟩
  obtain ⟨h0,hsc⟩:=h0;have hs:=zC1 hb h0 hr scope;have hp:=zB7 (scope:=scope) h0 hr;have hR':=zeo hp;have hn':=hR'.n;obtain ⟨o1,o2⟩:=zCC b;have hn:=hR.n;rw[h34.1 he,h35.1 he,h36.1 h0,h37.1 h0,zaa,zaa,zaa,zaa];dsimp only;rw[show ((0:Int) != 0)=false from rfl,zab,L38 (n+227) (by omega) (by have:=hR'.m;omega) (zDc hs),zaa];dsimp only;rw[zaa,yBS,zab,zaa,zab,zxX (n+228) (zDm b) (by omega) λx hx=>by have:=o2 x hx;omega,zaa,yBS,zaa,zab,show ((0:Int)==0)=true from rfl,zac];have hK':=grO (n:=n+229) (by omega) hs;obtain ⟨w1,w2,w3,w4,w5⟩:=hR'.web scope;have hrt:=(hR'.num_lt hR'.root).1;have hall:(List.range (zeI (outs (zBS b r scope) scope) (num (zBS b r scope) (zBS b r scope).root) (-1)).length).filter (λk=>decide (0<=dAt (zeI (outs (zBS b r scope) scope) (num (zBS b r scope) (zBS b r scope).root) (-1)) k))=List.range (zBS b r scope).Ka.length:=by rw[hR'.dist_len scope (-1),List.filter_eq_self];intro k hk;exact decide_eq_true (zC5 h0 hr k (yBa.1 hk))
  have r39: @Eq (Option (List By×Int×J)) ((zah (n+230)).d 39 [.st 3 (zBS b r scope),.int .i64 scope] [LS,I6]) (some (zbd (zBS b r scope) (List.range (zBS b r scope).Ka.length),0,())):=by refine (q39 (n+229) _ _).trans ?_;unfold m39;rw[show @Eq (Option (Gt.Gf×Int×J)) ((zah (n+229)).d 79 [.st 3 (zBS b r scope),.int .i64 scope] [.st 14,I6]) (some (zc3 (zBS b r scope) scope,0,())) from (q79 (n+228) _ _).trans ((m79_eq' (n:=n+228) (by omega) hs scope).1 hp hsc),zaa];dsimp only;rw[show ((0:Int) != 0)=false from rfl,zab,show (zc3 (zBS b r scope) scope).root=(num (zBS b r scope) (zBS b r scope).root:Int) from rfl,show (zc3 (zBS b r scope) scope).out=za6 (outs (zBS b r scope) scope) from rfl,hK'.h58 _ _ _ w1 (by rw[w3];exact hrt),zaa];dsimp only;rw[h75 (n+228) _ (by rw[hR'.dist_len scope (-1)];omega),zaa,hall];dsimp only;rw[hK'.h59 _ scope _ hR' (λi hi=>yBa.1 hi) (by simp;omega),zaa]
  rw[r39,zaa,show @Eq (Option (Int×J)) ((zah (n+230)).d 40 [.st 3 (zBS b r scope)] [I6]) (some (zfo (zBS b r scope),())) from L40 (by omega) hs,zaa,hp];dsimp only;rw[show ((0:Int) != 0)=false from rfl,zab,zaa,zab,show (len (zbd (zBS b r scope) (List.range (zBS b r scope).Ka.length)) != len (zBS b r scope).Ka)=false from by simp[zbd,len],zaa,zab,told,zaa]
 ·have hem: @Eq (Option (Bool×J)) ((zah (n+230)).d 38 [.st 3 (Gt.Kn.mk [] [] [] [] []),.st 3 (Gt.Kn.mk [] [] [] [] [])] [.bool]) (some (true,())):=L38 (n+227) (by decide) (by decide) (λc hc=>by cases hc);obtain ⟨l,c,hl,e1,e2⟩:∃(l:List (List By)) (c:Int),(l.length<=1000000/\∀x∈l,x.length<=1000000)/\m36 (zah (n+229)) b=some (l,c,())/\m37 (zah (n+229)) b=some (l,c,()):=by
   by_cases h0:zfo b=0;·have hn:=hnn h0;obtain ⟨o1,o2⟩:=zCC b;exact ⟨_,_,⟨by omega,λx hx=>by have:=o2 x hx;omega⟩,h36.1 h0,h37.1 h0⟩
   ·exact ⟨[],zfo b,⟨by decide,λx hx=>by cases hx⟩,h36.2 h0,h37.2 h0⟩
  rw[h34.2 he,h35.2 he,e1,e2,zaa,zaa,zaa,zaa];dsimp only;rw[show (za5 zfo b r scope != za5 zfo b r scope)=false from by simp,zab,hem,zaa];dsimp only;rw[zaa,yBS,zab,zaa,show (c != c)=false from by simp,zab,zxX (n+228) l hl.1 hl.2,zaa,yBS,zaa,zab,show (za5 zfo b r scope==0)=false from by simpa using he,zab,told,zaa]
end Pe.Tryz
end
