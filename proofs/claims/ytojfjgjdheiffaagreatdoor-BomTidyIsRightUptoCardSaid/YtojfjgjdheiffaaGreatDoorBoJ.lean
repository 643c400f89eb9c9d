/- PROVED HERE: a part of the seat's proofs; see the text that holds the claim's theorem. -/
import Derived.Test.YtojfjgjdheiffaaGreatDoorBoG
set_option maxRecDepth 100000
section
namespace Pe.Stb
def Giv{α:Type}(y:Option α)(Φ:α->Prop):Prop:=∃r,y=some r/\Φ r
section
variable{α β σ R:Type}{Φ:α->Prop}{Ψ:R->Prop}
theorem Giv.mk{a:α}(h:Φ a):Giv (some a) Φ:=⟨a,rfl,h⟩
theorem Giv.of_eq{y:Option α}{a:α}(h:y=some a)(hp:Φ a):Giv y Φ:=⟨a,h,hp⟩
theorem Giv.cut{y:Option (σ⊕R)}{Φ:σ⊕R->Prop}{g:σ->Option R}(h:Giv y Φ)(k:∀a,Φ a->Giv (zaE (some a) g) Ψ):Giv (zaE y g) Ψ:=by obtain ⟨a,rfl,h⟩:=h;exact k a h
theorem Giv.imp{y:Option R}{Φ:R->Prop}(h:Giv y Φ)(k:∀a,Φ a->Ψ a):Giv y Ψ:=by obtain ⟨a,e,h⟩:=h;exact ⟨a,e,k a h⟩
theorem zle{α:Type}{l:List α}{k:Nat}(h:k<l.length):zcX l (k:Int)=some k:=by show (bif Nat.blt k l.length then some k else none)=some k;rw[show Nat.blt k l.length=true by simp_all];rfl
theorem zzu{L:List α}{i j:Int}{a b:Nat}{p q:α}(hi:i=(a:Int))(hj:j=(b:Int))(ha:L[a]?=some p)(hb:L[b]?=some q)(K:List α->Option R) :
  (Pe.ob (zcX L j) λj2=>Pe.ob (zdc L j2) λy3=>Pe.ob (zcX L i) λj4=>Pe.ob (zdc L j4) λy5=>Pe.ob (zcX L i) λj6=>Pe.ob (zdc L j6) λ_=>Pe.ob (zcX (L.set j6 y3) j) λj8=>Pe.ob (zdc (L.set j6 y3) j8) λ_=>K ((L.set j6 y3).set j8 y5))=K ((L.set a q).set b p):=by
 subst hi;subst hj;have hal:a<L.length:=(yAc.1 ha).1;have hbl:b<L.length:=(yAc.1 hb).1;simp_all[zaa,zdc,zle]
theorem zz0(X M Y:List α)(p q:α):((X++p::(M++q::Y)).set (X.length+1+M.length) p).set X.length q=X++q::(M++p::Y):=by grind
theorem zzj(X Y:List α)(p q:α):(X++p::q::Y)[X.length+1]?=some q:=zAk X [] Y p q
theorem zz1(X Y:List α)(p q:α):((X++p::q::Y).set X.length q).set (X.length+1) p=X++q::p::Y:=zze X [] Y p q
theorem zy6(X Y:List α)(p q:α):((X++p::q::Y).set (X.length+1) p).set X.length q=X++q::p::Y:=zz0 X [] Y p q
end
theorem zsm{x:Int}{n:Nat}(h:x=(n:Int))(hn:n<=4000000000):Go.IntKind.i64.wrap x=(n:Int):=by grind[zaH]
theorem midI{i j:Nat}(h:i+j<=4000000000):Go.IntKind.i64.wrap (zp9 .u64 (Go.IntKind.u64.wrap (Go.IntKind.i64.wrap ((i:Int)+(j:Int)))) 1)=(((i+j) / 2:Nat):Int):=by
 rw[show Go.IntKind.i64.wrap ((i:Int)+(j:Int))=((i+j:Nat):Int) from zsm (by omega) h];have e1:Go.IntKind.u64.wrap ((i+j:Nat):Int)=((i+j:Nat):Int):=by grind[Go.IntKind.wrap,Go.IntKind.bits]
 rw[e1];unfold zp9;have e2:(2:Int) ^ (min (1:Int).toNat Go.IntKind.u64.bits)=2:=by decide
 rw[e2];exact zsm (by grind) (by omega)
end Pe.Stb
namespace Pe.Tryz
open Go Go.Proofs Pe Pe.Stb
abbrev Q:=Gt.Kb
def zAS(x y:By):Int:=bif Op.bytesLess x y then -1 else bif !((Op.bytesLess x y)||(x==y)) then 1 else 0
def ltQ(a b:Q):Bool:=Op.bytesLess a.ref b.ref
theorem s110b(n:Nat)(x y:By):m110 (zah (n+1)) x y=some (zAS x y,()):=by have h:∀x,@Eq (Option (Bool×J)) ((zah (n+1)).d 147 [.str x] [.bool]) (some (false,())):=λx=>(q147 n x).trans (by grind[m147]);unfold m110 zAS;simp only[h,zaa,zab];cases Op.bytesLess x y<;>cases (x==y)<;>rfl
theorem L98(n:Nat)(a b:Q): @Eq (Option (Int×J)) ((zah (n+3)).d 98 [.st 5 a,.st 5 b] [I6]) (some (zAS a.ref b.ref,())):=by refine (q98 (n+2) a b).trans ?_;have h: @Eq (Option (Int×J)) ((zah (n+2)).d 110 [.str a.ref,.str b.ref] [I6]) (some (zAS a.ref b.ref,())):=(q110 (n+1) _ _).trans (s110b n _ _);unfold m98;rw[h];rfl
theorem zzL(a b:Q):decide (zAS a.ref b.ref<0)=ltQ a b:=by grind[zAS,ltQ]
theorem woQ:WO ltQ where
 asym a b h:=by
  simp_all[ltQ,bytesLess_eq,List.lt_asymm]
 trans a b c h1 h2:=by
  grind[ltQ,bytesLess_eq]
theorem s289(o:Orc Sx){X A M C Y:List Q}(h:A.length=C.length)(hl:X.length+A.length+M.length+C.length+Y.length<=1000000000) :
  m289 o (X++(A++(M++(C++Y)))) ((X.length:Nat):Int) ((X.length+A.length+M.length:Nat):Int) ((A.length:Nat):Int)=some (.inl (X++(C++(M++(A++Y))),())):=by
 unfold m289;rw[show X++(A++(M++(C++Y)))=(X++[])++((A++M++[])++(C++Y)) by simp];refine (zy5 (λl=>(Sum.inl (l,()):(List Q×J)⊕J)) X M Y A.length ?_ ?_ A [] [] C rfl h (by simp)).trans (by simp)
 ·intro A1 A2 B1 B2 p q e1 e2 e3;dsimp only;rw[decide_eq_true (show ((A1.length:Nat):Int)<((A.length:Nat):Int) by omega),zac];refine (zzu (a:=(X++B1).length) (b:=(X++B1).length+1+(A2++M++A1).length) (p:=p) (q:=q) (zsm ?_ ?_) (zsm ?_ ?_) (zyN _ _ _) (zAk _ _ _ _ _) λl=>(some (.inl (IntKind.i64.wrap (((A1.length:Nat):Int)+1),l,())):Option ((Int×List Q×J)⊕((List Q×J)⊕J)))).trans ?_
  all_goals try (simp only[yAI];omega)
  rw[zze,zsm (n:=A1.length+1) (by omega) (by omega)]
 grind[zab]
theorem L289(n:Nat){X A M C Y:List Q}{L:List Q}{a b k:Int}(h:A.length=C.length)(hl:X.length+A.length+M.length+C.length+Y.length<=1000000000)(hL:L=X++(A++(M++(C++Y))))(ha:a=((X.length:Nat):Int))(hb:b=((X.length+A.length+M.length:Nat):Int))(hk:k=((A.length:Nat):Int)) :
  @Eq (Option ((List Q×J)⊕J)) ((zah (n+1)).l 289 sg289 ((L,a,b,k,()):List Q×Int×Int×Int×J)) (some (.inl (X++(C++(M++(A++Y))),()))):=by
 subst hL;subst ha;subst hb;subst hk;exact (q289 n _ _ _ _).trans (s289 _ h hl)
theorem zz7{α R:Type}{f:Int×Int×List α×J->Option ((Int×Int×List α×J)⊕R)}(out:Nat->List α->R)(m t:Nat)(X U V Y:List α)
  (hgt:∀X U1 U2 V Y:List α,X.length+(U1.length+U2.length)=m->X.length+(U1.length+U2.length)+V.length+Y.length=t->U1.length=V.length->U2≠[] ->
   f (((U1.length+U2.length:Nat):Int),(V.length:Int),X++((U1++U2)++(V++Y)),())=some (.inl ((U2.length:Int),(V.length:Int),X++(V++(U2++(U1++Y))),())))
  (Ks:∀X U V1 V2 Y:List α,X.length+U.length=m->X.length+U.length+(V1.length+V2.length)+Y.length=t->V2.length=U.length->V1≠[] ->
   f ((U.length:Int),((V1.length+V2.length:Nat):Int),X++(U++((V1++V2)++Y)),())=some (.inl ((U.length:Int),(V1.length:Int),X++(V2++(V1++(U++Y))),())))
  (heq:∀(i:Nat) l,f ((i:Int),(i:Int),l,())=some (.inr (out i l))) (hm:X.length+U.length=m) (ht:X.length+U.length+V.length+Y.length=t) (hU:U≠[]) (hV:V≠[]) :
  Giv (zak f ((U.length:Int),(V.length:Int),X++(U++(V++Y)),())) λr=>∃X' A B Y':List α,A.length=B.length/\X'.length+A.length=m/\X'++(B++(A++Y'))=X++(V++(U++Y))/\r=out A.length (X'++(A++(B++Y'))):=by
 obtain ⟨X',A,B,Y',g1,g2,g3,g4⟩:=zzf out m t hgt Ks heq _ X U V Y (yAi _) hm ht hU hV;exact ⟨_,g4,X',A,B,Y',g1,g2,g3,rfl⟩
theorem zAd{a b:Nat}:(((a:Nat):Int)==((b:Nat):Int))=(a==b):=by rw[yBC,beq_iff_eq,beq_iff_eq];omega
theorem zzy{a b:Nat}:(((a:Nat):Int) != ((b:Nat):Int))=(a != b):=congrArg (!·) zAd
theorem zyU{α:Type}{l:List α}(h:l≠[]):0<l.length:=List.length_pos_iff.2 h
theorem s258(n:Nat){X U V Y:List Q}(hU:U≠[])(hV:V≠[])(hl:X.length+U.length+V.length+Y.length<=1000000000) :
  m258 (zah (n+1)) (X++(U++(V++Y))) ((X.length:Nat):Int) ((X.length+U.length:Nat):Int) ((X.length+U.length+V.length:Nat):Int)=some (.inl (X++(V++(U++Y)),())):=by
 have key:Giv (m258 (zah (n+1)) (X++(U++(V++Y))) ((X.length:Nat):Int) ((X.length+U.length:Nat):Int) ((X.length+U.length+V.length:Nat):Int)) λr=>r= .inl (X++(V++(U++Y)),()):=by
  have hT:(X++(V++(U++Y))).length<=1000000000:=by simp only[yAI];omega
  unfold m258;rw[zsm (x:=((X.length+U.length:Nat):Int) - ((X.length:Nat):Int)) (n:=U.length) (by omega) (by omega),zsm (x:=((X.length+U.length+V.length:Nat):Int) - ((X.length+U.length:Nat):Int)) (n:=V.length) (by omega) (by omega)];refine Giv.cut (zz7 (λi l=>(Sum.inl ((i:Int),l,()):(Int×List Q×J)⊕((List Q×J)⊕J))) (X.length+U.length) (X.length+U.length+V.length+Y.length) X U V Y ?_ ?_ ?_ rfl rfl hU hV) ?_;·intro X U1 U2 V Y hm ht e1 e2;dsimp only;have h2:=zyU e2;rw[zzy,show (U1.length+U2.length != V.length)=true by simp;omega,zac,decide_eq_true (by omega),zac];rw[L289 n (X:=X) (A:=U1) (M:=U2) (C:=V) (Y:=Y) e1 (by omega) (by simp) (zsm (by omega) (by omega)) (by omega) (by rw[e1])];rw[zaA];dsimp only;rw[zsm (n:=U2.length) (by omega) (by omega)]
  ·intro X U V1 V2 Y hm ht e1 e2;dsimp only;have h2:=zyU e2;rw[zzy,show (U.length != V1.length+V2.length)=true by simp;omega,zac,decide_eq_false (by omega),zab];rw[L289 n (X:=X) (A:=U) (M:=V1) (C:=V2) (Y:=Y) e1.symm (by omega) (by simp) (zsm (by omega) (by omega)) (by rw[zsm (x:=((_:Nat):Int)+_) (n:=X.length+U.length+(V1.length+V2.length)) (by omega) (by omega)];exact zsm (by omega) (by omega)) rfl];rw[zaA];dsimp only;rw[zsm (n:=V1.length) (by omega) (by omega)]
  ·intro i l;dsimp only;rw[zzy,show (i != i)=false by simp,zab]
  ·rintro r ⟨X',A,C,Y',g1,g2,g3,rfl⟩
   rw[zaj];dsimp only;have ht:X'.length+A.length+C.length+Y'.length=X.length+U.length+V.length+Y.length:=by have:=congrArg List.length g3;simp only[yAI] at this;omega
   rw[L289 n (X:=X') (A:=A) (M:=[]) (C:=C) (Y:=Y') g1 (by simp;omega) (by simp) (zsm (by omega) (by omega)) (by simp;omega) rfl,zaA];refine Giv.mk ?_;rw[<-g3];simp
 obtain ⟨r,h,rfl⟩:=key;exact h
theorem L258(n:Nat){X U V Y:List Q}{L:List Q}{a m b:Int}(hU:U≠[])(hV:V≠[])(hl:X.length+U.length+V.length+Y.length<=1000000000)(hL:L=X++(U++(V++Y)))(ha:a=((X.length:Nat):Int))(hm:m=((X.length+U.length:Nat):Int))(hb:b=((X.length+U.length+V.length:Nat):Int)) :
  @Eq (Option ((List Q×J)⊕J)) ((zah (n+2)).l 258 sg258 ((L,a,m,b,()):List Q×Int×Int×Int×J)) (some (.inl (X++(V++(U++Y)),()))):=by
 subst hL;subst ha;subst hb;subst hm;exact (q258 (n+1) _ _ _ _).trans (s258 n hU hV hl)
theorem zAN{α R:Type}{lt:α->α->Bool}{f:Int×List α×J->Option ((Int×List α×J)⊕R)}(out:List α->R)(X Y P:List α)(x:α)
  (Qd:∀(P2 Q:List α)(p:α),P2.length+1+Q.length=P.length->f (((X.length+(P2.length+1):Nat):Int),X++(P2++[p]++x::Q)++Y,())=if lt x p=true then some (.inl (((X.length+P2.length:Nat):Int),X++(P2++x::(p::Q))++Y,())) else some (.inr (out (X++(P2++[p]++x::Q)++Y))))
  (hend:∀Q:List α,f ((X.length:Int),X++(x::Q)++Y,())=some (.inr (out (X++(x::Q)++Y)))) :
  Giv (zak f (((X.length+P.length:Nat):Int),X++(P++[x])++Y,())) λr=>∃P' Q',P'++Q'=P/\(∀q∈Q',lt x q=true)/\(∀p∈P'.getLast?,lt x p=false)/\r=out (X++(P'++x::Q')++Y):=by
 obtain ⟨P',Q',h1,h2,h3,h4⟩:=zzp (lt:=lt) out X Y x P.length Qd hend P.length P [] rfl (by simp) (by simp);exact ⟨_,h4,P',Q',by grind,h2,h3,rfl⟩
theorem zAj{α R:Type}{y:Option R}{A C:α->Prop}{out:α->R}(h:Giv y λr=>∃a,A a/\C a/\r=out a):∃a,A a/\C a/\y=some (out a):=by obtain ⟨r,e,a,h1,h2,rfl⟩:=h;grind
theorem s201(n:Nat){X S Y:List Q}(hl:X.length+S.length+Y.length<=1000000000) :
  ∃S',Srt ltQ S'/\S'.Perm S/\m201 (zah (n+3)) (X++(S++Y)) ((X.length:Nat):Int) ((X.length+S.length:Nat):Int)=some (.inl (X++(S'++Y),())):=by
 cases S with
 |nil =>refine ⟨[],by simp[Srt],.nil,?_⟩;unfold m201;rw[zsm (n:=X.length+1) (by omega) (by grind)];grind[zaD,decide_eq_false,zab]|cons x T =>
   have hl':X.length+(T.length+1)+Y.length<=1000000000:=(by grind);have key:∃S',Srt ltQ S'/\S'.Perm ([x]++T)/\m201 (zah (n+3)) (X++([x]++T)++Y) ((X.length:Nat):Int) ((X.length+(x::T).length:Nat):Int)=some (.inl (X++S'++Y,())):=by
    unfold m201;rw[zsm (n:=X.length+[x].length) (by simp) (by simp;omega)];refine zzo (lt:=ltQ) (λl=>(Sum.inl (l,()):(List Q×J)⊕J)) X Y (X.length+(x::T).length) ?_ ?_ T [x] (by simp[Srt]) (by simp) (by simp;omega)
    ·intro S T2 y hS hne hb;have Kq:X.length+S.length+(T2.length+1)=X.length+(T.length+1):=by simpa using hb
     dsimp only;rw[decide_eq_true (by simp;omega),zac];rw[show X++(S++y::T2)++Y=X++(S++[y])++(T2++Y) by simp];refine zAj ?_;refine Giv.cut (zAN (lt:=ltQ) (λl=>(Sum.inl (l,()):(List Q×J)⊕((Int×List Q×J)⊕((List Q×J)⊕J)))) X (T2++Y) S y ?_ ?_) ?_
     ·intro P2 R p e1;dsimp only;rw[decide_eq_true (by omega),zac];have hj:IntKind.i64.wrap ((((X++P2).length+1:Nat):Int) - 1)=(((X++P2).length:Nat):Int):=zsm (by simp) (by simp;omega);have hL:X++(P2++[p]++y::R)++(T2++Y)=(X++P2)++p::y::(R++(T2++Y)):=by simp
      have hi:((X.length+(P2.length+1):Nat):Int)=(((X++P2).length+1:Nat):Int):=(by simp;omega);rw[hL,hi];have g1:=zyN (X++P2) (y::(R++(T2++Y))) p;have g2:=zzj (X++P2) (R++(T2++Y)) p y;have l1:=(yAc.1 g1).1;have l2:=(yAc.1 g2).1;rw[hj];simp only[zle l1,zle l2,zaa,zdc,g1,g2];rw[L98];simp only[zaa,zzL];cases hp:ltQ y p with
      |false =>rw[zab,if_neg (by simp)]|true =>have l3:(X++P2).length<(((X++P2)++p::y::(R++(T2++Y))).set ((X++P2).length+1) p).length:=(by simp);simp only[zac,if_pos,zle l3,zaa,yAe l3,zy6];simp
     ·intro R;dsimp only;rw[decide_eq_false (by omega),zab,zaa,zab]
     ·rintro r ⟨P',Q',h1,h2,h3,rfl⟩
      rw[zaj];subst h1;refine Giv.mk ⟨P'++y::Q',hS.put woQ h2 h3,?_,?_⟩;·exact List.perm_middle.trans (List.perm_append_singleton _ _).symm
      ·rw[zsm (n:=X.length+(P'++y::Q').length) (by simp;omega) (by simp at Kq ⊢;omega)];simp
    ·intro l;dsimp only;rw[decide_eq_false (by omega),zab]
   grind
theorem L201(n:Nat){X S Y:List Q}{L:List Q}{a b:Int}(hl:X.length+S.length+Y.length<=1000000000)(hL:L=X++(S++Y))(ha:a=((X.length:Nat):Int))(hb:b=((X.length+S.length:Nat):Int)) :
  ∃S',Srt ltQ S'/\S'.Perm S/\ @Eq (Option ((List Q×J)⊕J)) ((zah (n+4)).l 201 sg201 ((L,a,b,()):List Q×Int×Int×J)) (some (.inl (X++(S'++Y),()))):=by
 subst hL;subst ha;subst hb;obtain ⟨S',h1,h2,h3⟩:=s201 n hl;exact ⟨S',h1,h2,(q201 (n+3) _ _ _).trans h3⟩
theorem zAo{R:Type}{f:Int×Int×J->Option ((Int×Int×J)⊕R)}(out:Nat->R)(p:Nat->Bool)(lo hi:Nat)(hle:lo<=hi)
  (Qd:∀i j:Nat,lo<=i->i<j->j<=hi->f ((i:Int),(j:Int),())=if p ((i+j) / 2)=true then some (.inl ((((i+j) / 2+1:Nat):Int),(j:Int),())) else some (.inl ((i:Int),(((i+j) / 2:Nat):Int),())))
  (hend:∀i:Nat,lo<=i->i<=hi->f ((i:Int),(i:Int),())=some (.inr (out i))) :
  Giv (zak f ((lo:Int),(hi:Int),())) λr=>∃s,lo<=s/\s<=hi/\(s=lo\/p (s - 1)=true)/\(s=hi\/p s=false)/\r=out s:=by
 obtain ⟨s,h1,h2,h3,h4,h5⟩:=zzF out p lo hi Qd hend (hi - lo) lo hi (yAi _) (yAi _) hle (yAi _) (.inl rfl) (.inl rfl);exact ⟨_,h5,s,h1,h2,h3,h4,rfl⟩
def Mrg(o:Orc Sx)(N:Nat):Prop:=∀(X U V Y L:List Q)(a m b:Int),U≠[]->V≠[]->Srt ltQ U->Srt ltQ V->U.length+V.length<=N->X.length+U.length+V.length+Y.length<=1000000000->L=X++(U++(V++Y))->a=((X.length:Nat):Int)->m=((X.length+U.length:Nat):Int)->b=((X.length+U.length+V.length:Nat):Int) ->
 ∃S',Srt ltQ S'/\S'.Perm (U++V)/\ @Eq (Option ((List Q×J)⊕J)) (o.l 202 sg202 ((L,a,m,b,()):List Q×Int×Int×Int×J)) (some (.inl (X++(S'++Y),())))
theorem zyV{α:Type}(l:List α):(((l.length:Nat):Int)==1)=(l.length==1):=zAd (b:=1)
theorem zpG{α:Type}{X U V Y:List α}{h:Nat}(h1:X.length+U.length<=h)(h2:h<X.length+U.length+V.length):∃y,(X++(U++(V++Y)))[h]?=some y/\V[h - (X.length+U.length)]?=some y:=by
 have hl:h - (X.length+U.length)<V.length:=by omega
 refine ⟨V[h - (X.length+U.length)],?_,yAe hl⟩;rw[yAF (by omega),yAF (by omega),yAk (by omega),show h - X.length - U.length=h - (X.length+U.length) by omega,yAe hl]
def atP(L:List Q)(h:Nat)(f:Q->Bool):Bool:=match L[h]? with
 |some y=>f y|none=>false
theorem zyz{L:List Q}{h:Nat}{f:Q->Bool}{y:Q}(e:L[h]?=some y):atP L h f=f y:=by grind[atP]
theorem zAv(n:Nat){X V Y:List Q}{x:Q}(hV:V≠[])(sV:Srt ltQ V)(hl:X.length+1+V.length+Y.length<=1000000000) :
  Giv (m202 (zah (n+3)) (X++([x]++(V++Y))) ((X.length:Nat):Int) ((X.length+1:Nat):Int) ((X.length+1+V.length:Nat):Int)) λr=>∃S',Srt ltQ S'/\S'.Perm ([x]++V)/\r= .inl (X++(S'++Y),()):=by
 have hV0:=zyU hV;unfold m202;rw[zsm (x:=((X.length+1:Nat):Int) - ((X.length:Nat):Int)) (n:=[x].length) (by simp;omega) (by simp),zyV];rw[show ([x].length==1)=true from rfl,zac];refine Giv.cut (Φ:=λr=>∃S',Srt ltQ S'/\S'.Perm ([x]++V)/\r= .inr (.inl (X++(S'++Y),()))) (Giv.cut (zAo (λs=>(Sum.inl ((s:Int),()):(Int×J)⊕((List Q×J)⊕((List Q×J)⊕J)))) (λh=>atP (X++([x]++(V++Y))) h λy=>ltQ y x) (X.length+1) (X.length+1+V.length) (by omega) ?_ ?_) ?_) ?_;·intro i j h1 h2 h3;dsimp only;obtain ⟨y,e1,e2⟩:=zpG (X:=X) (U:=[x]) (V:=V) (Y:=Y) (h:=(i+j) / 2) (by simp;omega) (by simp;omega);have e3:(X++([x]++(V++Y)))[X.length]?=some x:=zyN _ _ _;rw[decide_eq_true (by omega),zac,midI (by omega)];have l1:=(yAc.1 e1).1;have l2:=(yAc.1 e3).1;simp only[zle l1,zle l2,zaa,zdc,e1,e3];rw[L98];simp only[zaa,zzL];rw[zyz e1,zsm (n:=(i+j) / 2+1) (by omega) (by omega)];cases ltQ y x<;>rfl
 ·intro i h1 h2;dsimp only;rw[decide_eq_false (by omega),zab]
 ·rintro r ⟨s,h1,h2,h3,h4,rfl⟩
  rw[zaj];dsimp only;rw[zsm (x:=((s:Nat):Int) - 1) (n:=s - 1) (by omega) (by omega)];have Qn:V=V.take (s - (X.length+1))++V.drop (s - (X.length+1)):=(List.take_append_drop _ _).symm;have Kq:(V.take (s - (X.length+1))).length=s - (X.length+1):=by simp;omega
  have Qo:∀q∈(V.take (s - (X.length+1))).getLast?,ltQ q x=true:=by
   intro q hq;rw[Option.mem_def,List.getLast?_eq_getElem?,Kq] at hq;have hs:s - (X.length+1)≠0:=λh0=>by rw[h0] at hq;simp at hq
   rw[yAt (by omega)] at hq;rcases h3 with h3|h3;·omega
   ·obtain ⟨y,e1,e2⟩:=zpG (X:=X) (U:=[x]) (V:=V) (Y:=Y) (h:=s - 1) (by simp;omega) (by simp;omega);rw[zyz e1] at h3;rw[show s - 1 - (X.length+[x].length)=s - (X.length+1) - 1 by simp;omega,hq] at e2;cases e2;exact h3
  have Vb:∀q∈(V.drop (s - (X.length+1))).head?,ltQ q x=false:=by
   intro q hq;rw[Option.mem_def,List.head?_drop] at hq;have hs:s - (X.length+1)<V.length:=(yAc.1 hq).1;rcases h4 with h4|h4;·omega
   ·obtain ⟨y,e1,e2⟩:=zpG (X:=X) (U:=[x]) (V:=V) (Y:=Y) (h:=s) (by simp;omega) (by simp;omega);rw[zyz e1] at h4;rw[show s - (X.length+[x].length)=s - (X.length+1) by simp,hq] at e2;cases e2;exact h4
  have hS:Srt ltQ (V.take (s - (X.length+1))++x::V.drop (s - (X.length+1))):=Srt.mid woQ (by rw[<-Qn];exact sV) (λq hq=>woQ.asym _ _ (Qo q hq)) Vb;have hP:(V.take (s - (X.length+1))++x::V.drop (s - (X.length+1))).Perm ([x]++V):=by refine List.perm_middle.trans ?_;rw[<-Qn];exact List.Perm.refl _
  generalize V.take (s - (X.length+1))=V1 at *
  generalize V.drop (s - (X.length+1))=V2 at *
  rw[show X++([x]++(V++Y))=X++x::(V1++(V2++Y)) by rw[Qn];simp];refine Giv.of_eq (zyO (λl=>(Sum.inr (Sum.inl (l,())):(List Q×J)⊕((List Q×J)⊕J))) (s - 1) x ?_ ?_ V1 X (V2++Y) (by omega)) ⟨_,hS,hP,by simp⟩;·intro X' Y' y Ks;dsimp only;rw[decide_eq_true (by omega),zac];refine (zzu (a:=X'.length) (b:=X'.length+1) rfl (zsm (by omega) (by omega)) (zyN _ _ _) (zzj _ _ _ _) λl=>(some (.inl (IntKind.i64.wrap (((X'.length:Nat):Int)+1),l,())):Option ((Int×List Q×J)⊕((List Q×J)⊕((List Q×J)⊕J))))).trans ?_;rw[zz1,zsm (n:=X'.length+1) (by omega) (by omega)]
  ·intro l;dsimp only;rw[decide_eq_false (by omega),zab]
 simp_all[zaU,Giv.mk]
theorem zz6(n:Nat){X U Y:List Q}{y:Q}(hU:1<U.length)(sU:Srt ltQ U)(hl:X.length+U.length+1+Y.length<=1000000000) :
  Giv (m202 (zah (n+3)) (X++(U++([y]++Y))) ((X.length:Nat):Int) ((X.length+U.length:Nat):Int) ((X.length+U.length+1:Nat):Int)) λr=>∃S',Srt ltQ S'/\S'.Perm (U++[y])/\r= .inl (X++(S'++Y),()):=by
 unfold m202;rw[zsm (x:=((X.length+U.length:Nat):Int) - ((X.length:Nat):Int)) (n:=U.length) (by omega) (by omega),zyV,show (U.length==1)=false by simp;omega,zab,zaj];dsimp only;rw[zsm (x:=((X.length+U.length+1:Nat):Int) - ((X.length+U.length:Nat):Int)) (n:=[y].length) (by simp;omega) (by simp),zyV,show ([y].length==1)=true from rfl,zac];have hy:(X++(U++([y]++Y)))[X.length+U.length]?=some y:=by rw[<-yA5,yAF (by simp)];simp
 have Qr:∀h,X.length<=h->h<X.length+U.length->∃x,(X++(U++([y]++Y)))[h]?=some x/\U[h - X.length]?=some x:=λh h1 h2=>by
  have hl:h - X.length<U.length:=by omega
  refine ⟨U[h - X.length],?_,yAe hl⟩;rw[yAF (by omega),yAk (by omega),yAe hl]
 refine Giv.cut (Φ:=λr=>∃S',Srt ltQ S'/\S'.Perm (U++[y])/\r= .inr (.inl (X++(S'++Y),()))) (Giv.cut (zAo (λs=>(Sum.inl ((s:Int),()):(Int×J)⊕((List Q×J)⊕((List Q×J)⊕J)))) (λh=>atP (X++(U++([y]++Y))) h λx=> !ltQ y x) X.length (X.length+U.length) (by omega) ?_ ?_) ?_) ?_;·intro i j h1 h2 h3;dsimp only;obtain ⟨x,e1,e2⟩:=Qr ((i+j) / 2) (by omega) (by omega);rw[decide_eq_true (by omega),zac,midI (by omega)];have l1:=(yAc.1 e1).1;have l2:=(yAc.1 hy).1;simp only[zle l1,zle l2,zaa,zdc,e1,hy];rw[L98];simp only[zaa,zzL];rw[zyz e1,zsm (n:=(i+j) / 2+1) (by omega) (by omega)];cases ltQ y x<;>rfl
 ·intro i h1 h2;dsimp only;rw[decide_eq_false (by omega),zab]
 ·rintro r ⟨s,h1,h2,h3,h4,rfl⟩
  rw[zaj];dsimp only;have Qn:U=U.take (s - X.length)++U.drop (s - X.length):=(List.take_append_drop _ _).symm;have Kq:(U.take (s - X.length)).length=s - X.length:=by simp;omega
  have hlen2:(U.drop (s - X.length)).length=U.length - (s - X.length):=by simp
  have Qo:∀q∈(U.take (s - X.length)).getLast?,ltQ y q=false:=by
   intro q hq;rw[Option.mem_def,List.getLast?_eq_getElem?,Kq] at hq;have hs:s - X.length≠0:=λh0=>by rw[h0] at hq;simp at hq
   rw[yAt (by omega)] at hq;rcases h3 with h3|h3;·omega
   ·obtain ⟨x,e1,e2⟩:=Qr (s - 1) (by omega) (by omega);rw[zyz e1] at h3;rw[show s - 1 - X.length=s - X.length - 1 by omega,hq] at e2;cases e2;simpa using h3
  have Vb:∀q∈(U.drop (s - X.length)).head?,ltQ y q=true:=by
   intro q hq;rw[Option.mem_def,List.head?_drop] at hq;have hs:s - X.length<U.length:=(yAc.1 hq).1;rcases h4 with h4|h4;·omega
   ·obtain ⟨x,e1,e2⟩:=Qr s (by omega) (by omega);rw[zyz e1] at h4;rw[hq] at e2;cases e2;simpa using h4
  have hS:Srt ltQ (U.take (s - X.length)++y::U.drop (s - X.length)):=Srt.mid woQ (by rw[<-Qn];exact sU) Qo (λq hq=>woQ.asym _ _ (Vb q hq));have hP:(U.take (s - X.length)++y::U.drop (s - X.length)).Perm (U++[y]):=by refine List.perm_middle.trans ?_;rw[<-Qn];exact (List.perm_append_singleton _ _).symm
  generalize U.take (s - X.length)=U1 at *
  generalize U.drop (s - X.length)=U2 at *
  rw[show X++(U++([y]++Y))=(X++U1)++(U2++y::Y) by rw[Qn];simp,show ((X.length+U.length:Nat):Int)=(((X++U1).length+U2.length:Nat):Int) by simp;omega];refine Giv.of_eq (zy0 (λl=>(Sum.inr (Sum.inl (l,())):(List Q×J)⊕((List Q×J)⊕J))) s (X.length+U.length) y ?_ ?_ U2.length U2 (X++U1) Y rfl (by simp;omega) (by simp;omega)) ⟨_,hS,hP,by simp⟩;·intro X' Y' z Ks hT;dsimp only;rw[decide_eq_true (by omega),zac];refine (zzu (a:=X'.length+1) (b:=X'.length) rfl (zsm (by omega) (by omega)) (zzj _ _ _ _) (zyN _ _ _) λl=>(some (.inl (IntKind.i64.wrap (((X'.length+1:Nat):Int) - 1),l,())):Option ((Int×List Q×J)⊕((List Q×J)⊕((List Q×J)⊕J))))).trans ?_;rw[zy6,zsm (n:=X'.length) (by omega) (by omega)]
  ·intro l;dsimp only;rw[decide_eq_false (by omega),zab]
 simp_all[zaU,Giv.mk]
theorem s202(n N:Nat)(hM:Mrg (zah (n+3)) N){X U V Y:List Q}(hU:1<U.length)(hV:1<V.length)(sU:Srt ltQ U)(sV:Srt ltQ V)(hN:U.length+V.length<=N+N)(hl:X.length+U.length+V.length+Y.length<=1000000000) :
  Giv (m202 (zah (n+3)) (X++(U++(V++Y))) ((X.length:Nat):Int) ((X.length+U.length:Nat):Int) ((X.length+U.length+V.length:Nat):Int)) λr=>∃S',Srt ltQ S'/\S'.Perm (U++V)/\r= .inl (X++(S'++Y),()):=by
 unfold m202;rw[zsm (x:=((X.length+U.length:Nat):Int) - ((X.length:Nat):Int)) (n:=U.length) (by omega) (by omega),zyV,show (U.length==1)=false by simp;omega,zab,zaj];dsimp only;rw[zsm (x:=((X.length+U.length+V.length:Nat):Int) - ((X.length+U.length:Nat):Int)) (n:=V.length) (by omega) (by omega),zyV,show (V.length==1)=false by simp;omega,zab,zaj];dsimp only;rw[midI (i:=X.length) (j:=X.length+U.length+V.length) (by omega)];generalize Vi:(X.length+(X.length+U.length+V.length)) / 2=mid;have hmm:IntKind.i64.wrap (((mid:Nat):Int)+((X.length+U.length:Nat):Int))=((mid+(X.length+U.length):Nat):Int):=zsm (by omega) (by omega);rw[hmm];refine Giv.cut (Φ:=λr=>r= .inl (((if mid<X.length+U.length then mid+(X.length+U.length) - (X.length+U.length+V.length) else X.length:Nat):Int),((if mid<X.length+U.length then mid else X.length+U.length:Nat):Int),())) ?_ ?_
 ·by_cases hc:mid<X.length+U.length;·rw[decide_eq_true (by omega),zac,if_pos hc,if_pos hc];exact Giv.mk (by rw[zsm (n:=mid+(X.length+U.length) - (X.length+U.length+V.length)) (by omega) (by omega)])
  ·rw[decide_eq_false (by omega),zab,if_neg hc,if_neg hc];exact Giv.mk rfl
 rintro _ rfl
 rw[zaj];dsimp only;generalize hlo:(if mid<X.length+U.length then mid+(X.length+U.length) - (X.length+U.length+V.length) else X.length)=lo;generalize hhi:(if mid<X.length+U.length then mid else X.length+U.length)=hi;have blo:X.length<=lo/\mid+(X.length+U.length)<=(X.length+U.length+V.length)+lo:=by rw[<-hlo];split<;>omega
 have bhi:hi<=X.length+U.length/\hi<=mid:=by rw[<-hhi];split<;>omega
 have hle:lo<=hi:=by rw[<-hlo,<-hhi];split<;>omega
 have Qr:∀h,h<(X++(U++(V++Y))).length->∃x,(X++(U++(V++Y)))[h]?=some x:=λh h1=>⟨_,yAe h1⟩;have htot:(X++(U++(V++Y))).length=X.length+U.length+V.length+Y.length:=by simp;omega
 refine Giv.cut (zAo (λs=>(Sum.inl ((s:Int),()):(Int×J)⊕((List Q×J)⊕J))) (λc=>atP (X++(U++(V++Y))) c λx=>atP (X++(U++(V++Y))) (mid+(X.length+U.length) - 1 - c) λy=> !ltQ y x) lo hi hle ?_ ?_) ?_;·intro i j h1 h2 h3;dsimp only;rw[decide_eq_true (by omega),zac,midI (by omega)];generalize hc:(i+j) / 2=c;obtain ⟨x,e1⟩:=Qr c (by omega);obtain ⟨y,e2⟩:=Qr (mid+(X.length+U.length) - 1 - c) (by omega);rw[zsm (x:=((mid+(X.length+U.length):Nat):Int) - 1) (n:=mid+(X.length+U.length) - 1) (by omega) (by omega),zsm (x:=((mid+(X.length+U.length) - 1:Nat):Int) - ((c:Nat):Int)) (n:=mid+(X.length+U.length) - 1 - c) (by omega) (by omega)];have l1:=(yAc.1 e1).1;have l2:=(yAc.1 e2).1;simp only[zle l1,zle l2,zaa,zdc,e1,e2];rw[L98];simp only[zaa,zzL];rw[zyz e1,zyz e2,zsm (n:=c+1) (by omega) (by omega)];cases ltQ y x<;>rfl
 ·intro i h1 h2;dsimp only;rw[decide_eq_false (by omega),zab]
 rintro _ ⟨s,h1,h2,h3,h4,rfl⟩
 rw[zaj];dsimp only
 obtain ⟨U1,U2,V1,V2,rfl,rfl,k1,k2,k3,k4⟩:=zAK (lt:=ltQ) woQ (X:=X) (U:=U) (V:=V) (Y:=Y) (a:=X.length) (m:=X.length+U.length) (b:=X.length+U.length+V.length) (mid:=mid) (lo:=lo) (hi:=hi) (s:=s) rfl rfl rfl Vi.symm hlo.symm hhi.symm h1 h2
  (λhne x y ex ey=>by
   rcases h3 with h3|h3;·exact absurd h3 hne
   ·rw[zyz ex,show mid+(X.length+U.length) - 1 - (s - 1)=mid+(X.length+U.length) - s by omega,zyz ey] at h3;simpa using h3)
  (λhne x y ex ey=>by
   rcases h4 with h4|h4;·exact absurd h4 hne
   ·rw[zyz ex,zyz ey] at h4;simpa using h4)
 have sU1:=sU.left;have sU2:=sU.right;have sV1:=sV.left;have sV2:=sV.right;have nil_of:∀{l:List Q},l.length=0->l=[]:=λh=>yAU.1 h;generalize hm:X.length+(U1++U2).length=m at *
 generalize hb:m+(V1++V2).length=b at *
 simp only[yAI] at hm hb hN hl;rw[zsm (x:=((mid+m:Nat):Int) - ((s:Nat):Int)) (n:=mid+m - s) (by omega) (by omega)];generalize he:mid+m - s=en at *
 have q1:s=X.length+U1.length:=k1.symm;have q2:en=m+V1.length:=k2.symm;have q3:mid=X.length+U1.length+V1.length:=by omega
 refine Giv.cut (Φ:=λr=>r= .inl (X++(U1++(V1++(U2++(V2++Y)))),())) ?_ ?_
 ·by_cases hc1:s<m
  ·rw[decide_eq_true (by omega),zac,zaa];by_cases hc2:m<en;·rw[decide_eq_true (by omega),zac,L258 (n+1) (X:=X++U1) (U:=U2) (V:=V1) (Y:=V2++Y) (by intro h;rw[h] at hm;simp at hm;omega) (by intro h;rw[h] at q2;simp at q2;omega) (by simp;omega) (by simp) (by simp;omega) (by simp;omega) (by simp;omega),zaA];exact Giv.mk (by simp)
   ·rw[decide_eq_false (by omega),zab];obtain rfl:V1=[]:=nil_of (by omega);exact Giv.mk (by simp)
  ·rw[decide_eq_false (by omega),zab,zaa,zab];obtain rfl:U2=[]:=nil_of (by omega);exact Giv.mk (by simp)
 rintro _ rfl
 rw[zaj];dsimp only;refine Giv.cut (Φ:=λr=>∃S1,Srt ltQ S1/\S1.Perm (U1++V1)/\r= .inl (X++(S1++(U2++(V2++Y))),())) ?_ ?_
 ·by_cases hc1:X.length<s
  ·rw[decide_eq_true (by omega),zac,zaa];by_cases hc2:s<mid;·rw[decide_eq_true (by omega),zac];obtain ⟨S1,g1,g2,g3⟩:=hM X U1 V1 (U2++(V2++Y)) (X++(U1++(V1++(U2++(V2++Y))))) ((X.length:Nat):Int) ((s:Nat):Int) ((mid:Nat):Int) (by intro h;rw[h] at q1;simp at q1;omega) (by intro h;rw[h] at q3;simp at q3;omega) sU1 sV1 (by omega) (by simp;omega) rfl rfl (by omega) (by omega);rw[g3,zaA];exact Giv.mk ⟨S1,g1,g2,rfl⟩
   ·rw[decide_eq_false (by omega),zab];obtain rfl:V1=[]:=nil_of (by omega);exact Giv.mk ⟨U1,sU1,by simp,by simp⟩
  ·rw[decide_eq_false (by omega),zab,zaa,zab];obtain rfl:U1=[]:=nil_of (by omega);exact Giv.mk ⟨V1,sV1,by simp,by simp⟩
 rintro _ ⟨S1,g1,g2,rfl⟩
 rw[zaj];dsimp only;have hS1:S1.length=U1.length+V1.length:=by rw[g2.length_eq];simp
 have fin:∀S2:List Q,Srt ltQ S2->S2.Perm (U2++V2)->Srt ltQ (S1++S2)/\(S1++S2).Perm ((U1++U2)++(V1++V2)):=λS2 h1 h2=>zzz woQ sU sV k3 k4 g1 g2 h1 h2;by_cases hc1:mid<en
 ·rw[decide_eq_true (by omega),zac,zaa];by_cases hc2:en<b;·rw[decide_eq_true (by omega),zac];obtain ⟨S2,f1,f2,f3⟩:=hM (X++S1) U2 V2 Y (X++(S1++(U2++(V2++Y)))) ((mid:Nat):Int) ((en:Nat):Int) ((b:Nat):Int) (by intro h;rw[h] at hm;simp at hm;omega) (by intro h;rw[h] at hb;simp at hb;omega) sU2 sV2 (by omega) (by simp;omega) (by simp) (by simp;omega) (by simp;omega) (by simp;omega);rw[f3,zaA];exact Giv.mk ⟨S1++S2,(fin S2 f1 f2).1,(fin S2 f1 f2).2,by simp⟩
  ·rw[decide_eq_false (by omega),zab];obtain rfl:V2=[]:=nil_of (by omega);exact Giv.mk ⟨S1++U2,(fin U2 sU2 (by simp)).1,(fin U2 sU2 (by simp)).2,by simp⟩
 ·rw[decide_eq_false (by omega),zab,zaa,zab];obtain rfl:U2=[]:=nil_of (by omega);exact Giv.mk ⟨S1++V2,(fin V2 sV2 (by simp)).1,(fin V2 sV2 (by simp)).2,by simp⟩
theorem zAA{n N:Nat}(hM:Mrg (zah (n+3)) N):Mrg (zah (n+4)) (N+N):=by
 intro X U V Y L a m b hU hV sU sV hN hl hL ha hm hb;subst hL;subst ha;subst hm;subst hb;have hU0:=zyU hU;have hV0:=zyU hV;have key:Giv (m202 (zah (n+3)) (X++(U++(V++Y))) ((X.length:Nat):Int) ((X.length+U.length:Nat):Int) ((X.length+U.length+V.length:Nat):Int)) λr=>∃S',Srt ltQ S'/\S'.Perm (U++V)/\r= .inl (X++(S'++Y),()):=by
  by_cases h1:U.length=1;·obtain ⟨x,rfl⟩:=List.length_eq_one_iff.1 h1;exact zAv n hV sV (by simpa using hl)
  ·by_cases h2:V.length=1;·obtain ⟨y,rfl⟩:=List.length_eq_one_iff.1 h2;exact zz6 n (by omega) sU (by simpa using hl)
   ·exact s202 n N hM (by omega) (by omega) sU sV hN hl
 obtain ⟨S',h1,h2,h3⟩:=zAj key;exact ⟨S',h1,h2,(q202 (n+3) _ _ _ _).trans h3⟩
theorem zAe:∀(k n:Nat),Mrg (zah (n+3+k)) (2 ^ k)
 |0,n=>by intro X U V Y L a m b hU hV _ _ hN;grind[zyU]
 |k+1,n=>by have:=zAA (n:=n+k) (N:=2 ^ k) (by have:=zAe k n;grind);grind
def Blk(k:Nat)(Bs:List (List Q)):Prop:=∀C∈Bs,C.length=k/\Srt ltQ C
theorem Blk.add{k:Nat}{Bs:List (List Q)}{C:List Q}(h:Blk k Bs)(hl:C.length=k)(hs:Srt ltQ C):Blk k (Bs++[C]):=by
 intro D hD;rcases yAp.1 hD with hD|hD;·exact h D hD
 grind
theorem zzP{R:Type}{f:Int×Int×List Q×J->Option ((Int×Int×List Q×J)⊕R)}(out:Nat->List Q->R)(k N:Nat)(hk:0<k)
  (Qd:∀X S Y:List Q,S.length=k->X.length+S.length+Y.length=N->∃S',Srt ltQ S'/\S'.Perm S/\f ((X.length:Int),((X.length+k:Nat):Int),X++(S++Y),())=some (.inl (((X.length+k:Nat):Int),((X.length+k+k:Nat):Int),X++(S'++Y),())))
  (hend:∀X Y:List Q,X.length+Y.length=N->Y.length<k->f ((X.length:Int),((X.length+k:Nat):Int),X++Y,())=some (.inr (out X.length (X++Y)))) :
  ∀(d:Nat)(Dn:List (List Q))(T:List Q),T.length<=d->Dn.flatten.length+T.length=N->Blk k Dn->Giv (zak f ((Dn.flatten.length:Int),((Dn.flatten.length+k:Nat):Int),Dn.flatten++T,())) λr=>∃Dn' T',Blk k Dn'/\T'.length<k/\(Dn'.flatten++T').Perm (Dn.flatten++T)/\r=out Dn'.flatten.length (Dn'.flatten++T')
 |d,Dn,T,hd,hN,hB=>by
   by_cases hT:T.length<k;·exact Giv.of_eq (zaD (hend _ _ hN hT)) ⟨Dn,T,hB,hT,List.Perm.refl _,rfl⟩
   ·cases d with
    |zero=>omega|succ d =>
      have e:T=T.take k++T.drop k:=(List.take_append_drop _ _).symm;have l1:(T.take k).length=k:=(by simp;omega);have l2:(T.drop k).length=T.length - k:=(by simp);generalize T.take k=S at *
      generalize T.drop k=Y at *
      subst e;obtain ⟨S',g1,g2,g3⟩:=Qd Dn.flatten S Y l1 (by simp only[yAI] at hN ⊢;omega);have hl:S'.length=k:=by rw[g2.length_eq];exact l1
      have hfl:(Dn++[S']).flatten=Dn.flatten++S':=(by simp);have ih:=zzP out k N hk Qd hend d (Dn++[S']) Y (by simp at hd;omega) (by rw[hfl];simp only[yAI] at hN ⊢;omega) (hB.add hl g1);rw[zaR g3];rw[hfl,yA5,show (Dn.flatten++S').length=Dn.flatten.length+k by simp[hl]] at ih;refine ih.imp ?_
      rintro r ⟨Dn',T',h1,h2,h3,rfl⟩
      exact ⟨Dn',T',h1,h2,h3.trans (List.Perm.append_left _ (g2.append_right _)),rfl⟩
theorem zzI{R:Type}{f:Int×Int×List Q×J->Option ((Int×Int×List Q×J)⊕R)}(out:Nat->List Q->R)(k N:Nat)
  (Qd:∀X U V Y:List Q,U.length=k->V.length=k->Srt ltQ U->Srt ltQ V->X.length+U.length+V.length+Y.length=N->∃S',Srt ltQ S'/\S'.Perm (U++V)/\f ((X.length:Int),((X.length+(k+k):Nat):Int),X++(U++(V++Y)),())=some (.inl (((X.length+(k+k):Nat):Int),((X.length+(k+k)+(k+k):Nat):Int),X++(S'++Y),())))
  (hend:∀X Y:List Q,X.length+Y.length=N->Y.length<k+k->f ((X.length:Int),((X.length+(k+k):Nat):Int),X++Y,())=some (.inr (out X.length (X++Y)))) (T:List Q) (hT:T.length<k) :
  ∀(Bs Dn:List (List Q)),Blk k Bs->Blk (k+k) Dn->Dn.flatten.length+(Bs.flatten.length+T.length)=N->Giv (zak f ((Dn.flatten.length:Int),((Dn.flatten.length+(k+k):Nat):Int),Dn.flatten++(Bs.flatten++T),())) λr=>∃Dn' Bs',Blk (k+k) Dn'/\(Bs'=[]\/∃C,Bs'=[C]/\C.length=k/\Srt ltQ C)/\(Dn'.flatten++(Bs'.flatten++T)).Perm (Dn.flatten++(Bs.flatten++T))/\r=out Dn'.flatten.length (Dn'.flatten++(Bs'.flatten++T))
 |[],Dn,_,hD,hN=>Giv.of_eq (zaD (hend _ _ (by grind) (by simp;omega))) ⟨Dn,[],hD,.inl rfl,List.Perm.refl _,rfl⟩|[C],Dn,hB,hD,hN=>by obtain ⟨h1,h2⟩:=hB C (by simp);exact Giv.of_eq (zaD (hend _ _ (by simp_all) (by simp;omega))) ⟨Dn,[C],hD,.inr ⟨C,rfl,h1,h2⟩,List.Perm.refl _,rfl⟩
 |C::C2::Bs,Dn,hB,hD,hN=>by
   obtain ⟨h1,h2⟩:=hB C (by simp);obtain ⟨h3,h4⟩:=hB C2 (by simp);obtain ⟨S',g1,g2,g3⟩:=Qd Dn.flatten C C2 (Bs.flatten++T) h1 h3 h2 h4 (by simp at hN ⊢;omega);have hl:S'.length=k+k:=by rw[g2.length_eq];simp;omega
   have hfl:(Dn++[S']).flatten=Dn.flatten++S':=(by simp);have ih:=zzI out k N Qd hend T hT Bs (Dn++[S']) (λD hD=>hB D (by simp[hD])) (hD.add hl g1) (by rw[hfl];simp at hN ⊢;omega);rw[show (C::C2::Bs).flatten++T=C++(C2++(Bs.flatten++T)) by simp,zaR g3];rw[hfl,yA5,show (Dn.flatten++S').length=Dn.flatten.length+(k+k) by simp[hl]] at ih;refine ih.imp ?_
   rintro r ⟨Dn',Bs',e1,e2,e3,rfl⟩
   refine ⟨Dn',Bs',e1,e2,e3.trans (List.Perm.append_left _ ?_),rfl⟩;rw[<-yA5 C C2];exact g2.append_right _
theorem BSn{k:Nat}{l:List Q}(h:BS ltQ k l):∃Bs T,l=Bs.flatten++T/\Blk k Bs/\T.length<k/\Srt ltQ T:=h
theorem zzT(n:Nat){k:Nat}{l:List Q}(hM:Mrg (zah n) 1048576)(hk:0<k)(hl:l.length<=1048576)(Ks:k<l.length)(hB:BS ltQ k l){R:Type}{f:Int×Int×List Q×J->Option ((Int×Int×List Q×J)⊕R)}(out:Nat->List Q->R)
  (Qd:∀(a b:Nat)(L L':List Q),b<=l.length->b<=3000000-> @Eq (Option ((List Q×J)⊕J)) ((zah n).l 202 sg202 ((L,(a:Int),((a+k:Nat):Int),(b:Int),()):List Q×Int×Int×Int×J)) (some (.inl (L',())))->a<=b->f ((a:Int),(b:Int),L,())=some (.inl ((b:Int),((b+(k+k):Nat):Int),L',())))
  (hend:∀(a b:Nat)(L:List Q),l.length<b->b<=4000000->f ((a:Int),(b:Int),L,())=some (.inr (out a L))) :
  Giv (zak f (0,((k+k:Nat):Int),l,())) λr=>∃X C T:List Q,(X++(C++T)).Perm l/\(∃Dn,X=Dn.flatten/\Blk (k+k) Dn)/\(C=[]\/C.length=k)/\Srt ltQ C/\T.length<k/\Srt ltQ T/\r=out X.length (X++(C++T)):=by
 obtain ⟨Bs,T,rfl,hBs,hT,sT⟩:=BSn hB;have:=zzI (f:=f) out k (Bs.flatten++T).length (λX U V Y hu hv su sv hN=>by obtain ⟨S',g1,g2,g3⟩:=hM X U V Y (X++(U++(V++Y))) ((X.length:Nat):Int) ((X.length+k:Nat):Int) ((X.length+(k+k):Nat):Int) (by intro h;subst h;simp at hu;omega) (by intro h;subst h;simp at hv;omega) su sv (by omega) (by omega) rfl rfl (by omega) (by omega);exact ⟨S',g1,g2,Qd _ _ _ _ (by omega) (by omega) g3 (by omega)⟩) (λX Y hN hY=>hend _ _ _ (by omega) (by omega)) T hT Bs [] hBs (by intro C hC;cases hC) (by simp);obtain ⟨r,hr,Dn',Bs',e1,e2,e3,rfl⟩:=this;have e0:zak f (0,((k+k:Nat):Int),Bs.flatten++T,())=zak f ((([]:List (List Q)).flatten.length:Int),((([]:List (List Q)).flatten.length+(k+k):Nat):Int),([]:List (List Q)).flatten++(Bs.flatten++T),()):=by simp
 refine Giv.of_eq (e0.trans hr) ?_;rcases e2 with rfl|⟨C,rfl,c1,c2⟩;·exact ⟨Dn'.flatten,[],T,by simpa using e3,⟨Dn',rfl,e1⟩,.inl rfl,by simp[Srt],hT,sT,rfl⟩
 ·exact ⟨Dn'.flatten,C,T,by simpa using e3,⟨Dn',rfl,e1⟩,.inr c1,c2,hT,sT,by simp⟩
theorem zy8{R:Type}{f:Int×List Q×J->Option ((Int×List Q×J)⊕R)}(out:List Q->R)(N:Nat)
  (hround:∀(k:Nat)(l:List Q),0<k->k<N->l.length=N->BS ltQ k l->Giv (f ((k:Int),l,())) λr=>∃l',BS ltQ (k+k) l'/\l'.Perm l/\r= .inl (((k+k:Nat):Int),l',()))
  (hend:∀(k:Nat)(l:List Q),N<=k->f ((k:Int),l,())=some (.inr (out l))) :
  ∀(d k:Nat)(l:List Q),0<k->N<=k*2 ^ d->l.length=N->BS ltQ k l->Giv (zak f ((k:Int),l,())) λr=>∃l',Srt ltQ l'/\l'.Perm l/\r=out l'
 |d,k,l,hk,hd,hl,hB=>by
   by_cases hc:N<=k;·exact Giv.of_eq (zaD (hend k l hc)) ⟨l,hB.done (by omega) hk,List.Perm.refl _,rfl⟩
   ·cases d with
    |zero=>grind|succ d =>
      obtain ⟨r,g1,l',g2,g3,rfl⟩:=hround k l hk (by omega) hl hB;rw[zaR g1];refine (zy8 out N hround hend d (k+k) l' (by omega) (by rw[Nat.pow_succ] at hd;rw[yAz];grind) (by rw[g3.length_eq];exact hl) g2).imp ?_
      rintro r ⟨l2,e1,e2,rfl⟩
      exact ⟨l2,e1,e2.trans g3,rfl⟩
theorem zzO{k:Nat}{Dn:List (List Q)}{S:List Q}(h:Blk k Dn)(hS:S.length<k)(sS:Srt ltQ S):BS ltQ k (Dn.flatten++S):=⟨Dn,S,rfl,h,hS,sS⟩
theorem s140(n:Nat){l:List Q}(hl:l.length<=1048576):Giv (m140 (zah (n+23)) l ((l.length:Nat):Int)) λr=>∃l',Srt ltQ l'/\l'.Perm l/\r= .inl (l',()):=by
 have hM:Mrg (zah (n+23)) 1048576:=zAe 20 n;unfold m140;have e0:∀{R:Type}(f:Int×Int×List Q×J->Option ((Int×Int×List Q×J)⊕R)),zak f (0,20,l,())=zak f ((([]:List (List Q)).flatten.length:Int),((([]:List (List Q)).flatten.length+20:Nat):Int),([]:List (List Q)).flatten++l,()):=λf=>by simp
 rw[e0];refine Giv.cut (zzP (λa l=>(Sum.inl ((a:Int),l,()):(Int×List Q×J)⊕((List Q×J)⊕J))) 20 l.length (by decide) ?_ ?_ l.length [] l (yAi _) (by simp) (by intro C hC;cases hC)) ?_;·intro X S Y hS hN;dsimp only;obtain ⟨S',g1,g2,g3⟩:=L201 (n+19) (X:=X) (S:=S) (Y:=Y) (L:=X++(S++Y)) (a:=((X.length:Nat):Int)) (b:=((X.length+20:Nat):Int)) (by omega) rfl rfl (by rw[hS]);refine ⟨S',g1,g2,?_⟩;rw[decide_eq_true (by omega),zac,g3,zaA,zsm (n:=X.length+20+20) (by omega) (by omega)]
 ·grind[decide_eq_false,zab]
 ·rintro r ⟨Dn,T,hD,hT,hP,rfl⟩
  have Kq:=hP.length_eq;simp only[List.flatten_nil,yBb,yAI] at Kq hP;rw[zaj];dsimp only;obtain ⟨T',g1,g2,g3⟩:=L201 (n+19) (X:=Dn.flatten) (S:=T) (Y:=[]) (L:=Dn.flatten++T) (a:=((Dn.flatten.length:Nat):Int)) (b:=((l.length:Nat):Int)) (by simp only[List.length_nil];omega) (by simp) rfl (by omega);rw[g3,zaA,yAR];have hP2:(Dn.flatten++T').Perm l:=(List.Perm.append_left _ g2).trans hP;have hB:BS ltQ 20 (Dn.flatten++T'):=zzO hD (by rw[g2.length_eq];exact hT) g1;refine (zy8 (λl=>(Sum.inl (l,()):(List Q×J)⊕J)) l.length ?_ ?_ 20 20 (Dn.flatten++T') (by decide) (by omega) hP2.length_eq hB).imp ?_
  ·intro k l1 hk hkN hl1 hB1;dsimp only;rw[decide_eq_true (by omega),zac,zsm (x:=2*((k:Nat):Int)) (n:=k+k) (by omega) (by omega),zsm (x:=((k:Nat):Int)*2) (n:=k+k) (by omega) (by omega)];refine Giv.cut (zzT (n+23) hM hk (by omega) (by omega) hB1 (λa l=>(Sum.inl ((a:Int),l,()):(Int×List Q×J)⊕((Int×List Q×J)⊕((List Q×J)⊕J)))) ?_ ?_) ?_;·intro a b L L' hb hb2 he hab;dsimp only;rw[decide_eq_true (by omega),zac,zsm (x:=((a:Nat):Int)+((k:Nat):Int)) (n:=a+k) (by omega) (by omega),he,zaA,zsm (n:=b+(k+k)) (by omega) (by omega)]
   ·intro a b L hb hb2;dsimp only;rw[decide_eq_false (by omega),zab]
   ·rintro r ⟨X,C,T2,p1,⟨Dn2,rfl,hD2⟩,hC,sC,hT2,sT2,rfl⟩
    rw[zaj];dsimp only;have hlen2:=p1.length_eq;simp only[yAI] at hlen2;rw[zsm (x:=((Dn2.flatten.length:Nat):Int)+((k:Nat):Int)) (n:=Dn2.flatten.length+k) (by omega) (by omega)];by_cases hc:Dn2.flatten.length+k<l.length
    ·rw[decide_eq_true (by omega),zac];have hCk:C.length=k:=by
      rcases hC with rfl|hC;·simp only[List.length_nil] at hlen2;omega
      ·exact hC
     obtain ⟨S',f1,f2,f3⟩:=hM Dn2.flatten C T2 [] (Dn2.flatten++(C++T2)) ((Dn2.flatten.length:Nat):Int) ((Dn2.flatten.length+k:Nat):Int) ((l.length:Nat):Int) (by intro h;subst h;simp at hCk;omega) (by intro h;subst h;simp only[List.length_nil] at hlen2;omega) sC sT2 (by omega) (by simp only[List.length_nil];omega) (by simp) rfl (by omega) (by omega);rw[f3,zaA];refine Giv.mk ⟨Dn2.flatten++S',zzO hD2 (by rw[f2.length_eq];simp;omega) f1,(List.Perm.append_left _ f2).trans p1,by simp⟩
    ·rw[decide_eq_false (by omega),zab];rcases hC with rfl|hC;·exact Giv.mk ⟨Dn2.flatten++([]++T2),zzO hD2 (by simp;omega) (by simpa using sT2),p1,rfl⟩
     ·obtain rfl:T2=[]:=yAU.1 (by omega);exact Giv.mk ⟨Dn2.flatten++(C++[]),zzO hD2 (by simp;omega) (by simpa using sC),p1,rfl⟩
  ·intro k l1 hk;dsimp only;rw[decide_eq_false (by omega),zab]
  ·rintro r ⟨l',e1,e2,rfl⟩
   exact ⟨l',e1,e2.trans hP2,rfl⟩
theorem L97(n:Nat){l:List Q}(hl:l.length<=1048576):∃l',Srt ltQ l'/\l'.Perm l/\ @Eq (Option (List Q)) ((zah (n+25)).p 97 (.st 5) 38 [.func (.func 98) [] []] l) (some l'):=by obtain ⟨r,h,l',h1,h2,rfl⟩:=s140 n hl;refine ⟨l',h1,h2,(q97 (n+24) l).trans ?_⟩;unfold m97;have e: @Eq (Option ((List Q×J)⊕J)) ((zah (n+24)).l 140 sg140 ((l,len l,()):List Q×Int×J)) (some (.inl (l',()))):=(q140 (n+23) l (len l)).trans h;rw[e];rfl
end Pe.Tryz
end
section
namespace Pe
open Go
theorem zAl{α R:Type}{f:Int×J->Option ((Int×J)⊕R)}(out:List α)(p:α->Bool)(res:Nat->R)
  (h:∀t (ht:0<t) (hl:t<=out.length),f ((t:Int),())=if p (out[t - 1]'(by omega))=true then some (.inl (((t - 1:Nat):Int),())) else some (.inr (res t))) (h0:f (((0:Nat):Int),())=some (.inr (res 0))) :
  ∃t,t<=out.length/\(∀x∈out.drop t,p x=true)/\(∀(ht:0<t)(hl:t<=out.length),p (out[t - 1]'(by omega))=false)/\zak f ((out.length:Int),())=some (res t):=by
 have key:∀t,t<=out.length->(∀x∈out.drop t,p x=true)->∃t',t'<=out.length/\(∀x∈out.drop t',p x=true)/\(∀(ht:0<t')(hl:t'<=out.length),p (out[t' - 1]'(by omega))=false)/\zak f ((t:Int),())=some (res t'):=by
  intro t;induction t with
  |zero=>grind[zaD]
  |succ t ih =>
    intro hl hd;have hh:=h (t+1) (by omega) hl;simp only[yCf] at hh;cases hp:p (out[t]'(by omega)) with
    |true =>
      rw[if_pos hp] at hh;obtain ⟨t',h1,h2,h3,h4⟩:=ih (by omega) λx hx=>by
       rw[yAV (by omega)] at hx;rcases yAm.1 hx with rfl|hx;·exact hp
       ·exact hd x hx
      exact ⟨t',h1,h2,h3,(zaR hh).trans h4⟩
    |false =>rw[if_neg (by rw[hp];simp)] at hh;exact ⟨t+1,hl,hd,λ_ _=>hp,zaD hh⟩
 simp_all
theorem zAD{α R R':Type}{f:Int×J->Option ((Int×J)⊕(R⊕R'))}{g:R->Option R'}{r:R'}(out:List α)(p:α->Bool)(res:Nat->R)
  (h:∀t (ht:0<t) (hl:t<=out.length),f ((t:Int),())=if p (out[t - 1]'(by omega))=true then some (.inl (((t - 1:Nat):Int),())) else some (.inr (.inl (res t)))) (h0:f (((0:Nat):Int),())=some (.inr (.inl (res 0))))
  (hk:∀t,t<=out.length->(∀x∈out.drop t,p x=true)->(∀(ht:0<t)(hl:t<=out.length),p (out[t - 1]'(by omega))=false)->g (res t)=some r):zaE (zak f ((out.length:Int),())) g=some r:=by
 obtain ⟨t,h1,h2,h3,h4⟩:=zAl out p (λt=>(.inl (res t):R⊕R')) h h0;grind[zaj]
namespace Tryz
open Go Go.Proofs Pe
def zyq(l:List By):List By:=zyF [] l
theorem zza(l:List By):zpW cS (zyq l):=zy7 l [] List.Pairwise.nil
theorem zzV{l:List By}{x:By}:x∈zyq l↔x∈l:=by grind[zyq,zy9]
theorem s96(orc:Orc Sx){s:List By}(hn:s.length<=1000000):m96 orc s=some (.inl (zhn (λx y=>x==y) s s.length,())):=by have:=zmg (R:=J) (z:=([]:By)) (e:=λx y=>some (x==y)) (t:=λx y=>x==y) (s:=s) (λ_ _ _ _=>rfl) (by omega);rw[<-this];rfl
theorem zAF(l:List By):zq3 cS (l.mergeSort λx y=>decide (x<=y)):=by have:=List.pairwise_mergeSort (le:=λ(x y:By)=>decide (x<=y)) (λa b c h1 h2=>by simp only[decide_eq_true_eq] at *;grind) (λa b=>by simp_all[List.le_total]) l;exact this.imp λ{a b} h=>by simp_all[zc4]
theorem zzW(l:List By):zhn (λx y=>x==y) (l.mergeSort λx y=>decide (x<=y)) (l.mergeSort λx y=>decide (x<=y)).length=zyq l:=by obtain ⟨h1,h2⟩:=znc zly (t:=λx y=>x==y) (λx y=>by simp) (zAF l) _ (yAi _);grind[znA,zly,zza,List.mergeSort_perm,zzV]
theorem L95(n:Nat){l:List By}(hl:l.length<=1000000):∃l',@Eq (Option (List By)) ((zah (n+1)).p 95 .str 9 [] l) (some l')/\ @Eq (Option ((List By×J)⊕J)) ((zah (n+1)).l 96 sg96 ((l',()):List By×J)) (some (.inl (zyq l,()))):=by
 refine ⟨l.mergeSort λx y=>decide (x<=y),?_,?_⟩;·have e: @Eq (Option (List By)) ((zah (n+1)).p 95 .str 9 [] l) (zAt l):=(show _=opt1 (zAt l) by kernel_rfl).trans (zxE _);rw[e];unfold zAt;rw[show Nat.ble l.length lim=true from by rw[yAK];grind[lim]];rfl
 ·refine (q96 n _).trans ((s96 _ (by grind[List.length_mergeSort])).trans ?_);rw[zzW]
theorem zAW{out:List By}(ho:zpW cS out){s:By}{t:Nat}(h1:∀x∈out.drop t,s<x)(h2:∀x∈out.take t,x<s):out.take t++s::out.drop t=zzg s out:=by
 refine znA zly ?_ (zyP s out ho) λx=>?_
 ·rw[<-List.take_append_drop t out] at ho;obtain ⟨a1,a2,a3⟩:=List.pairwise_append.1 ho;refine List.pairwise_append.2 ⟨a1,yBU.2 ⟨λx hx=>(zc4 _ _).2 (h1 x hx),a2⟩,λx hx y hy=>?_⟩;rcases yAm.1 hy with rfl|hy;·exact (zc4 _ _).2 (h2 x hx)
  ·exact a3 x hx y hy
 ·rw[zyH,yAp,yAm];have:x∈out↔x∈out.take t\/x∈out.drop t:=by rw[<-yAp,List.take_append_drop]
  rw[this];exact ⟨λh=>h.elim (λh=>.inr (.inl h)) λh=>h.elim .inl λh=>.inr (.inr h),λh=>h.elim (λh=>.inr (.inl h)) λh=>h.elim .inl λh=>.inr (.inr h)⟩
theorem zAV{out:List By}{s:By}(ho:zpW cS out)(h:s∈out):zzg s out=out :=
 znA zly (zyP s out ho) ho λx=>by rw[zyH];exact ⟨λh1=>h1.elim (λe=>e▸h) id,.inr⟩
theorem zur(s:By):∀l:List By,(zzg s l).length<=l.length+1
 |[]=>by simp[zzg]
 |y::r=>by
   unfold zzg;have:=zur s r;split;·simp
   ·split<;>simp<;>omega
theorem L146(n:Nat){l:List By}(hl:l.length<=1000000): @Eq (Option (List By×J)) ((zah (n+1)).d 146 [.sl .str l] [LS]) (some (zyq l,())):=by
 refine (q146 n l).trans ?_;unfold m146;rw[show (([],0,()):List By×Int×J)=(zyq (l.take 0),((0:Nat):Int),()) from rfl];rw[zby (A:=List By) (λk a=>(a,(k:Int),())) l.length (λ_ _=>(.inl (zyq l,()):(List By×J)⊕(List By×J))) (λk a=>a=zyq (l.take k)/\a.length<=k) (λk a hk hI=>?_) 0 _ (yAA _) ⟨rfl,yAA _⟩,zaj];obtain ⟨rfl,Kq⟩:=hI;by_cases Ks:k<l.length
 rotate_left
 ·right;obtain rfl:k=l.length:=by omega
  dsimp only;rw[show decide ((l.length:Int)<len l)=false from by simp[len],zab,List.take_length]
 left;have ho:=zza (l.take k);have Qs:zzg l[k] (zyq (l.take k))=zyq (l.take (k+1)):=by unfold zyq zyF;rw[yBQ Ks,List.foldl_append];rfl
 generalize zyq (l.take k)=out at ho Qs Kq ⊢;refine ⟨zzg l[k] out,Ks,?_,⟨Qs,?_⟩,rfl⟩
 ·dsimp only;rw[show decide ((k:Int)<len l)=true from by simp[len];exact Ks,zac,zan Ks,zaa];refine (congrArg (λz=>zaE z _) (zAD out (λx=> !((Op.bytesLess x l[k])||(x==l[k]))) (λt=>((t:Int),())) (r:=(.inl (zzg l[k] out,()):(List By×J)⊕_)) (λt ht htl=>?_) ?_ λt t1 t2 t3=>?_)).trans ?_
  ·dsimp only;rw[show decide ((0:Int)<(t:Int))=true from by simpa using ht,zac,zaH (by omega) (by omega),show (t:Int) - 1=((t - 1:Nat):Int) by omega,zan (by omega),zaa,zaa];cases hp: !((Op.bytesLess out[t - 1] l[k])||(out[t - 1]==l[k])) with
   |true=>rw[zac,if_pos rfl]|false=>rw[zab,if_neg (by simp)]
  ·rfl
  ·have hd:∀x∈out.drop t,l[k]<x:=λx hx=>by
    have:=t2 x hx;simp only[zgX,yA4,yBl,decide_eq_false_iff_not,beq_eq_false_iff_ne] at this;rcases (List.le_iff_lt_or_eq (l₁:=l[k]) (l₂:=x)).1 (List.not_lt.1 this.1) with h|h;·exact h
    ·exact absurd h.symm this.2
   have hne:(¬(∃(ht:0<t),out[t - 1]'(by omega)=l[k]))->out.take t++l[k]::out.drop t=zzg l[k] out:=λhn=>zAW ho hd λx hx=>by
    obtain ⟨i,hi,e⟩:=yBH hx;have hi':i<t:=by simp at hi;omega
    rw[List.getElem_take] at e;have Qo:out[t - 1]'(by omega)<l[k]:=by have:=t3 (by omega) t1;simp only[zgX,Bool.not_eq_false',yBF,decide_eq_true_eq,beq_iff_eq] at this;exact this.resolve_right λh=>hn ⟨by omega,h⟩
    rw[<-e];by_cases hit:i=t - 1;·subst hit;exact Qo
    ·exact yCa ((zc4 _ _).1 (yAH.1 ho i (t - 1) (by omega) (by omega) (by omega))) Qo
   have rest:∀{Z:Type},(bif ((t:Int)==(t:Int)) then (ob (zhN out 0 (t:Int)) λs9=>ob (zhN out (t:Int) (len out)) λs10=>ob (zdJ [l[k]] s10) λl11=>bif Nat.blt 0 (List.length l11) then (ob (zdJ s9 l11) λl12=>some (Sum.inl (l12,()):(List By×J)⊕Z)) else none) else none)=some (.inl (out.take t++l[k]::out.drop t,())):=λ{Z}=>by rw[show ((t:Int)==(t:Int))=true from by simp,cond_true,show (0:Int)=((0:Nat):Int) from rfl,zhM (yAA _) t1,zaa,show len out=((out.length:Nat):Int) from rfl,zhM t1 (yAi _),zaa,zbc (by simp[lim];omega),zaa];rw[show Nat.blt 0 ([l[k]]++List.take (out.length - t) (List.drop t out)).length=true from by simp[yAN],cond_true,zbc (by simp[lim];omega),zaa,yA7 (by simp:(List.drop t out).length<=out.length - t)];rfl
   dsimp only;by_cases ht:0<t
   ·rw[show decide ((0:Int)<(t:Int))=true from by simpa using ht,zac,zaH (by omega) (by omega),show (t:Int) - 1=((t - 1:Nat):Int) by omega,zan (by omega),zaa,zaa];by_cases he:out[t - 1]=l[k];·rw[show (out[t - 1]==l[k])=true from by simpa using he,zac,zAV ho (by rw[<-he];exact yAy _)]
    ·rw[show (out[t - 1]==l[k])=false from by simpa using he,zab];exact rest.trans (by rw[hne λ⟨_,h⟩=>he h])
   ·rw[show decide ((0:Int)<(t:Int))=false from by simpa using ht,zab,zaa,zab];exact rest.trans (by rw[hne λ⟨h,_⟩=>ht h])
  ·rw[zaj,zaf Ks (by omega)]
 ·have:=zur l[k] out;omega
end Tryz
end Pe
end
section
namespace Pe
open Go
theorem zAg{α R:Type}{c:α->α->Int}(hc:OrdAll c){f:List α×List α×List α×J->Option ((List α×List α×List α×J)⊕R)}(res:List α->R)(M:Nat)
  (h0:∀out,f ([],[],out,())=some (.inr (res out)))
  (hA:∀x a b out,out.length+(x::a).length+b.length<=M->(∀y b',b=y::b'->c x y<0)->f (x::a,b,out,())=some (.inl (a,b,out++[x],())))
  (hB:∀y a b out,out.length+a.length+(y::b).length<=M->(∀x a',a=x::a'->c y x<0)->f (a,y::b,out,())=some (.inl (a,b,out++[y],())))
  (hE:∀x a b out,f (x::a,x::b,out,())=some (.inl (a,x::b,out,()))) :
  ∀(d:Nat)(a b out:List α),a.length+b.length<=d->out.length+a.length+b.length<=M->zpW c a->zpW c b->∃r,zak f (a,b,out,())=some (res (out++r))/\zpW c r/\(∀x,x∈r↔x∈a\/x∈b)/\r.length<=a.length+b.length:=by
 intro d;induction d with
 |zero =>intro a b out hd _ _ _;obtain rfl:a=[]:=yAU.1 (by omega);obtain rfl:b=[]:=yAU.1 (by omega);exact ⟨[],by rw[yAR];exact zaD (h0 out),List.Pairwise.nil,by simp,by simp⟩
 |succ d ih =>
   have goA:∀x a b out,(x::a).length+b.length<=d+1->out.length+(x::a).length+b.length<=M->zpW c (x::a)->zpW c b->(∀y b',b=y::b'->c x y<0)->∃r,zak f (x::a,b,out,())=some (res (out++r))/\zpW c r/\(∀z,z∈r↔z∈x::a\/z∈b)/\r.length<=(x::a).length+b.length:=by
    intro x a b out hd hM ha hb hx;obtain ⟨a1,a2⟩:=yBU.1 ha;obtain ⟨r,r1,r2,r3,r4⟩:=ih a b (out++[x]) (by simp at hd;omega) (by simp at hM ⊢;omega) a2 hb;refine ⟨x::r,?_,yBU.2 ⟨λz hz=>?_,r2⟩,λz=>?_,by simp;omega⟩;·rw[zaR (hA x a b out hM hx),r1];simp
    ·rcases (r3 z).1 hz with hz|hz;·exact a1 z hz
     ·cases b with
      |nil=>simp at hz|cons y b' =>
        rcases yAm.1 hz with rfl|hz;·exact hx _ _ rfl
        ·exact hc.trans _ _ _ (hx _ _ rfl) ((yBU.1 hb).1 z hz)
    ·simp only[yAm,r3 z,or_assoc]
   intro a b out hd hM ha hb;cases a with
   |nil =>
     cases b with
     |nil=>exact ⟨[],by rw[yAR];exact zaD (h0 out),List.Pairwise.nil,by simp,by simp⟩|cons y b =>
       obtain ⟨b1,b2⟩:=yBU.1 hb;obtain ⟨r,r1,r2,r3,r4⟩:=ih [] b (out++[y]) (by simp at hd ⊢;omega) (by simp at hM ⊢;omega) ha b2;refine ⟨y::r,by rw[zaR (hB y [] b out hM λ_ _ h=>by cases h),r1];simp,yBU.2 ⟨λz hz=>?_,r2⟩,λz=>?_,by simp at r4 ⊢;omega⟩;·exact b1 z (((r3 z).1 hz).resolve_left (by simp))
       ·simp[yAm,r3 z]
   |cons x a =>
     cases b with
     |nil=>exact goA x a [] out hd hM ha hb (λ_ _ h=>by cases h)|cons y b =>
       by_cases h1:c x y<0;·exact goA x a (y::b) out hd hM ha hb (λy' b' h=>by cases h;exact h1)
       ·by_cases h2:c y x<0
        ·obtain ⟨b1,b2⟩:=yBU.1 hb;obtain ⟨r,r1,r2,r3,r4⟩:=ih (x::a) b (out++[y]) (by simp at hd ⊢;omega) (by simp at hM ⊢;omega) ha b2;refine ⟨y::r,by rw[zaR (hB y (x::a) b out hM (λx' a' h=>by cases h;exact h2)),r1];simp,yBU.2 ⟨λz hz=>?_,r2⟩,λz=>?_,by simp at r4 ⊢;omega⟩
         ·rcases (r3 z).1 hz with hz|hz
          ·rcases yAm.1 hz with rfl|hz;·exact h2
           ·exact hc.trans _ _ _ h2 ((yBU.1 ha).1 z hz)
          ·exact b1 z hz
         ·simp only[yAm,r3 z];exact ⟨λh=>h.elim (λh=>.inr (.inl h)) λh=>h.elim .inl λh=>.inr (.inr h),λh=>h.elim (λh=>.inr (.inl h)) λh=>h.elim .inl λh=>.inr (.inr h)⟩
        ·obtain rfl:=hc.eq x y h1 h2;obtain ⟨r,r1,r2,r3,r4⟩:=ih a (x::b) out (by simp at hd ⊢;omega) (by simp at hM ⊢;omega) (yBU.1 ha).2 hb;refine ⟨r,by rw[zaR (hE x a b out),r1],r2,λz=>?_,by simp at r4 ⊢;omega⟩;rw[r3 z];simp only[yAm];exact ⟨λh=>h.elim (λh=>.inl (.inr h)) .inr,λh=>h.elim (λh=>h.elim (λh=>.inr (.inl h)) .inl) .inr⟩
namespace Tryz
open Go Go.Proofs Pe
theorem zzD(a b:Gt.Kw):zpV a b<0↔a.from_<b.from_\/(a.from_=b.from_/\(a.to<b.to\/(a.to=b.to/\a.scope<b.scope))):=by
 have z:∀x y:By,cS x y=0↔x=y:=λx y=>⟨λh=>zly.eq _ _ (by omega) (λh2=>by
  rw[zc4] at h2;unfold cS at h;by_cases h1:x<y;·rw[if_pos h1] at h;omega
  ·rw[if_neg h1,if_pos h2] at h;omega),λh=>by subst h;simp[cS,yBn]⟩
 unfold zpV;by_cases h1:a.from_=b.from_
 ·rw[if_neg (by simpa using (z _ _).2 h1)];by_cases h2:a.to=b.to
  ·rw[if_neg (by simpa using (z _ _).2 h2)];rw[h1,h2];unfold sgI;simp only[yBn,false_or,true_and];by_cases h3:a.scope<b.scope;·simp[h3]
   ·by_cases h4:b.scope<a.scope<;>simp[h3,h4]
  ·rw[if_pos λh=>h2 ((z _ _).1 h),zc4,h1];simp[h2,yBn]
 ·rw[if_pos λh=>h1 ((z _ _).1 h),zc4];simp[h1]
theorem zyv:OrdAll zpV:=by
 refine ⟨λx=>?_,λx y z h1 h2=>?_,λx y h1 h2=>?_⟩;·rw[zzD];simp[yBn]
 ·rw[zzD] at *
  rcases h1 with h1|⟨h1,h1'⟩
  ·rcases h2 with h2|⟨h2,_⟩;·exact .inl (yCa h1 h2)
   ·exact .inl (h2▸h1)
  ·rcases h2 with h2|⟨h2,h2'⟩;·exact .inl (h1▸h2)
   ·refine .inr ⟨h1.trans h2,?_⟩;rcases h1' with h1' | ⟨h1',h1''⟩
    ·rcases h2' with h2' | ⟨h2',_⟩;·exact .inl (yCa h1' h2')
     ·exact .inl (h2'▸h1')
    ·rcases h2' with h2' | ⟨h2',h2''⟩;·exact .inl (h1'▸h2')
     ·exact .inr ⟨h1'.trans h2',by omega⟩
 ·rw[zzD,not_or,not_and,not_or,not_and] at h1 h2;have e1:x.from_=y.from_:=List.le_antisymm (List.not_lt.1 h2.1) (List.not_lt.1 h1.1);have h3:=h1.2 e1;have h4:=h2.2 e1.symm;have e2:x.to=y.to:=List.le_antisymm (List.not_lt.1 h4.1) (List.not_lt.1 h3.1);have e3:x.scope=y.scope:=by have:=h3.2 e2;have:=h4.2 e2.symm;omega
  cases x;cases y;simp_all
def tE(x y:Gt.Kw):Bool:=(x.from_==y.from_)&&((x.to==y.to)&&((x.scope==y.scope)&&true))
theorem zAT(x y:Gt.Kw):tE x y=true↔x=y:=by unfold tE;cases x;cases y;simp
noncomputable def zyJ(l:List Gt.Kw):List Gt.Kw:=zhn tE (zxu zpV l) (zxu zpV l).length
theorem zzb(l:List Gt.Kw):zpW zpV (zyJ l)/\∀x,x∈zyJ l↔x∈l:=by obtain ⟨h1,h2⟩:=znc zyv zAT (zwL (zyv.on l)) _ (yAi _);exact ⟨h1,λx=>by unfold zyJ;rw[h2 x,List.take_length,(zwy zpV l).mem_iff]⟩
theorem s101(orc:Orc Sx){s:List Gt.Kw}(hn:s.length<=1000000):m101 orc s=some (.inl (zhn tE s s.length,())):=by have:=zmg (R:=J) (z:=Gt.Kw.mk [] [] 0) (e:=λx y=>some (tE x y)) (t:=tE) (s:=s) (λ_ _ _ _=>rfl) (by omega);rw[<-this];rfl
theorem L99(n:Nat){l:List Gt.Kw}(hl:l.length<=1000000): @Eq (Option ((List Gt.Kw×J)⊕J)) ((zah (n+5)).l 81 sg81 ((l,()):List Gt.Kw×J)) (some (.inl (l,()))) /\
  ∃l',@Eq (Option (List Gt.Kw)) ((zah (n+5)).p 99 (.st 7) 75 [.func (.func 100) [] []] l) (some l')/\ @Eq (Option ((List Gt.Kw×J)⊕J)) ((zah (n+5)).l 101 sg101 ((l',()):List Gt.Kw×J)) (some (.inl (zyJ l,()))):=by
 refine ⟨?_,zxu zpV l,?_,?_⟩;·refine (show _=(bif Nat.ble (List.length (α:=Gt.Kw) l) 1000000 then some (.inl (l,())) else none:Option ((List Gt.Kw×J)⊕J)) by kernel_rfl).trans ?_;rw[show Nat.ble (List.length (α:=Gt.Kw) l) 1000000=true from by rw[yAK];exact hl];rfl
 ·refine (show _=opt1 (zxs (zah (n+4)) 100 (.st 7) l) by kernel_rfl).trans ((zxE _).trans ?_);exact zxO (S:=Sx) (u:= .st 7) (c:=zpV) (λx _ y _=>L100 n x y) (zyv.on l) (by show l.length<=lim;unfold lim;omega) rfl
 ·refine (q101 (n+4) _).trans (s101 _ ?_);rw[(zwy zpV l).length_eq];exact hl
end Tryz
end Pe
end
section
namespace Pe.Tryz
open Go Go.Proofs Pe
theorem at0{α:Type}(x:α)(l:List α):at? (x::l) 0=some x:=rfl
theorem zAx{α:Type}(x:α)(l:List α):decide (0<len (x::l))=true:=decide_eq_true (by show (0:Int)<(((x::l).length:Nat):Int);simp)
theorem zAb{α:Type}(x:α)(l:List α):zhN (x::l) 1 (len (x::l))=some l:=by rw[show (1:Int)=((1:Nat):Int) from rfl,show len (x::l)=(((x::l).length:Nat):Int) from rfl,zhM (by simp) (yAi _)];simp
theorem zAY{n:Nat}(h:n<=1000000):IntKind.i64.wrap (Int.tdiv (n:Int) 2)=((n / 2:Nat):Int):=by
 have e:Int.tdiv (n:Int) 2=((n / 2:Nat):Int):=by rw[Int.tdiv_eq_ediv_of_nonneg (by omega)];omega
 rw[e,zaH (by omega) (by omega)]
theorem ne0{α:Type}(x:α)(l:List α):(len (x::l)==0)=false:=by rw[beq_eq_false_iff_ne];show (((x::l).length:Nat):Int)≠0;simp;omega
theorem zAG{α:Type}{l:List α}{h:Nat}(hh:h<=l.length):zhN l 0 (h:Int)=some (l.take h):=by rw[show (0:Int)=((0:Nat):Int) from rfl,zhM (yAA _) hh];simp
theorem zAH{α:Type}{l:List α}{h:Nat}(hh:h<=l.length):zhN l (h:Int) (len l)=some (l.drop h):=by rw[show len l=((l.length:Nat):Int) from rfl,zhM hh (yAi _),yA7 (by simp)]
theorem zAC{α:Type}{c:α->α->Int}(hc:OrdAll c){f:List α×List α×List α×J->Option ((List α×List α×List α×J)⊕((List α×J)⊕(List α×J)))}{P:List α->Prop}{a b:List α}(M:Nat)(hM:a.length+b.length<=M)(ha:zpW c a)(hb:zpW c b)
  (hP:∀r,zpW c r->(∀x,x∈r↔x∈a\/x∈b)->r.length<=a.length+b.length->P r)
  (h0:∀out,f ([],[],out,())=some (.inr (.inl (out,()))))
  (hA:∀x a b out,out.length+(x::a).length+b.length<=M->(∀y b',b=y::b'->c x y<0)->f (x::a,b,out,())=some (.inl (a,b,out++[x],())))
  (hB:∀y a b out,out.length+a.length+(y::b).length<=M->(∀x a',a=x::a'->c y x<0)->f (a,y::b,out,())=some (.inl (a,b,out++[y],())))
  (hE:∀x a b out,f (x::a,x::b,out,())=some (.inl (a,x::b,out,()))) :
  ∃r,zaE (zak f (a,b,[],())) (λt=>some (t.1,()))=some (r,())/\P r:=by
 obtain ⟨r,r1,r2,r3,r4⟩:=zAg hc (f:=f) (λout=>.inl (out,())) M h0 hA hB hE _ a b [] (yAi _) (by simpa using hM) ha hb;exact ⟨r,by rw[r1,zaj,yBb],hP r r2 r3 r4⟩
theorem zAn(x y:By):cS x y= - cS y x:=by
 unfold cS;by_cases h1:x<y;·rw[if_pos h1,if_neg (λh=>yBn x (yCa h1 h)),if_pos h1]
 ·by_cases h2:y<x;·rw[if_neg h1,if_pos h2,if_pos h2];rfl
  ·rw[if_neg h1,if_neg h2,if_neg h2,if_neg h1];rfl
theorem zvP(x y:Gt.Kw):zpV x y= - zpV y x:=by
 have h3:sgI x.scope y.scope= - sgI y.scope x.scope:=by
  unfold sgI;by_cases h1:x.scope<y.scope;·rw[if_pos h1,if_neg (by omega),if_pos h1]
  ·by_cases h2:y.scope<x.scope;·rw[if_neg h1,if_pos h2,if_pos h2];rfl
   ·rw[if_neg h1,if_neg h2,if_neg h2,if_neg h1];rfl
 unfold zpV;rw[zAn x.from_,zAn x.to,h3];by_cases h1:cS y.from_ x.from_=0<;>by_cases h2:cS y.to x.to=0<;>simp[h1,h2]
theorem L105:∀(k n:Nat)(l:List Gt.Kw),l.length<=2 ^ k->l.length<=1000000->∃r,@Eq (Option (List Gt.Kw×J)) ((zah (n+k+4)).d 105 [.sl (.st 7) l] [.sl (.st 7)]) (some (r,()))/\zpW zpV r/\(∀x,x∈r↔x∈l)/\r.length<=l.length:=by
 have one:∀(m:Nat)(l:List Gt.Kw),l.length<2->l.length<=1000000->∃r,m105 (zah m) l=some (r,())/\zpW zpV r/\(∀x,x∈r↔x∈l)/\r.length<=l.length:=λm l hl hl2=>by
  refine ⟨l,?_,?_,λx=>Iff.rfl,yAi _⟩;·unfold m105;rw[decide_eq_true (show len l<2 by show (l.length:Int)<2;omega),zac,zbc (by simp[lim];omega),zaa,yBb]
  ·match l,hl with
   |[],_=>exact List.Pairwise.nil|[x],_=>exact yBs _ _|_::_::_,h=>simp at h;omega
 intro k;induction k with
 |zero =>intro n l hl hl2;obtain ⟨r,h1,h2⟩:=one (n+0+3) l (by simp at hl;omega) hl2;exact ⟨r,(q105 (n+0+3) l).trans h1,h2⟩
 |succ k ih =>
   intro n l hl hl2;by_cases h2:l.length<2;·obtain ⟨r,h1,h3⟩:=one (n+(k+1)+3) l h2 hl2;exact ⟨r,(q105 (n+(k+1)+3) l).trans h1,h3⟩
   have hp:2 ^ (k+1)=2 ^ k+2 ^ k:=(by rw[Nat.pow_succ];omega);obtain ⟨a,a1,a2,a3,a4⟩:=ih n (l.take (l.length / 2)) (by rw[yAY];omega) (by rw[yAY];omega);obtain ⟨b,b1,b2,b3,b4⟩:=ih n (l.drop (l.length / 2)) (by rw[yAL];omega) (by rw[yAL];omega);rw[yAY] at a4;rw[yAL] at b4;have e88:∀x y:Gt.Kw,@Eq (Option (Int×J)) ((zah (n+k+4)).d 88 [.st 7 x,.st 7 y] [I6]) (some (zpV x y,())):=λx y=>L88 (n+k+2) x y;refine (?_:∃r,m105 (zah (n+k+4)) l=some (r,())/\zpW zpV r/\(∀x,x∈r↔x∈l)/\r.length<=l.length).imp λr h=>⟨(q105 (n+k+4) l).trans h.1,h.2⟩;unfold m105;rw[decide_eq_false (show ¬len l<2 by show ¬(l.length:Int)<2;omega),zab,show Int.tdiv (len l) 2=Int.tdiv (l.length:Int) 2 from rfl,zAY hl2,zAG (Nat.div_le_self _ _),zaa,a1,zaa,zAH (Nat.div_le_self _ _),zaa,b1,zaa];dsimp only;refine zAC (P:=λr=>zpW zpV r/\(∀x,x∈r↔x∈l)/\r.length<=l.length) zyv 1000000 (by omega) a2 b2 (λr r2 r3 r4=>⟨r2,λx=>by rw[r3 x,a3 x,b3 x,<-yAp,List.take_append_drop],by omega⟩) (λout=>?_) (λx a b out hM hx=>?_) (λy a b out hM hy=>?_) (λx a b out=>?_);·rfl
   ·have fin:ob (at? (x::a) 0) (λy13=>ob (zdJ out [y13]) λl14=>ob (zhN (x::a) 1 (len (x::a))) λs15=>(some (Sum.inl (s15,b,l14,())):Option ((List Gt.Kw×List Gt.Kw×List Gt.Kw×J)⊕((List Gt.Kw×J)⊕(List Gt.Kw×J)))))=some (.inl (a,b,out++[x],())):=by
     rw[at0,zaa,zbc (by simp at hM ⊢;unfold lim;omega),zaa,zAb,zaa]
    dsimp only;cases b with
    |nil=>rw[zAx,zac,zaa,zac,show (len ([]:List Gt.Kw)==0)=true from rfl,zac,zaa,zac];exact fin|cons y b =>rw[zAx,zac,zaa,zac,ne0,zab,zac];simp only[at0,zaa,e88];rw[decide_eq_true (hx y b rfl),zac];exact fin
   ·have fin:ob (at? (y::b) 0) (λy13=>ob (zdJ out [y13]) λl14=>ob (zhN (y::b) 1 (len (y::b))) λs15=>(some (Sum.inl (a,s15,l14,())):Option ((List Gt.Kw×List Gt.Kw×List Gt.Kw×J)⊕((List Gt.Kw×J)⊕(List Gt.Kw×J)))))=some (.inl (a,b,out++[y],())):=by
     rw[at0,zaa,zbc (by simp at hM ⊢;unfold lim;omega),zaa,zAb,zaa]
    dsimp only;cases a with
    |nil =>rw[show decide (0<len ([]:List Gt.Kw))=false from rfl,zab,zaa,zAx,zac,ne0,zab,zab,zaa,zaa,zab,show (len ([]:List Gt.Kw)==0)=true from rfl,zac,zaa,zac];exact fin|cons x a =>have hyx:=hy x a rfl;have hxy:¬zpV x y<0:=λh=>zyv.irr x (zyv.trans _ _ _ h hyx);have hpos:0<zpV x y:=(by rw[zvP];omega);rw[zAx,zac,zaa,zac,ne0,zab,zac];simp only[at0,zaa,e88];rw[decide_eq_false hxy,zab,ne0,zab,decide_eq_true hpos,zaa,zac];exact fin
   ·dsimp only;rw[zAx,zac,zaa,zac,ne0,zab,zac];simp only[at0,zaa,e88];rw[decide_eq_false (zyv.irr x),zab,ne0,zab,decide_eq_false (show ¬0<zpV x x by have:=zvP x x;omega),zaa,zab,zAb,zaa]
end Pe.Tryz
end
section
namespace Pe.Tryz
open Go Go.Proofs Pe
theorem zAf{α R:Type}{le:α->α->Prop}(ht:∀x y z,le x y->le y z->le x z){f:List α×List α×List α×J->Option ((List α×List α×List α×J)⊕R)}(res:List α->R)(M:Nat)
  (h0:∀out,f ([],[],out,())=some (.inr (res out)))
  (hA:∀x a b out,out.length+(x::a).length+b.length<=M->(∀y b',b=y::b'->le x y)->f (x::a,b,out,())=some (.inl (a,b,out++[x],())))
  (hB:∀y a b out,out.length+a.length+(y::b).length<=M->(∀x a',a=x::a'->¬le x y)->f (a,y::b,out,())=some (.inl (a,b,out++[y],())))
  (htot:∀x y,¬le x y->le y x) :
  ∀(d:Nat)(a b out:List α),a.length+b.length<=d->out.length+a.length+b.length<=M->a.Pairwise le->b.Pairwise le->∃r,zak f (a,b,out,())=some (res (out++r))/\r.Pairwise le/\r.Perm (a++b):=by
 intro d;induction d with
 |zero =>intro a b out hd _ _ _;obtain rfl:a=[]:=yAU.1 (by omega);obtain rfl:b=[]:=yAU.1 (by omega);exact ⟨[],by rw[yAR];exact zaD (h0 out),List.Pairwise.nil,List.Perm.refl _⟩
 |succ d ih =>
   have goA:∀x a b out,(x::a).length+b.length<=d+1->out.length+(x::a).length+b.length<=M->(x::a).Pairwise le->b.Pairwise le->(∀y b',b=y::b'->le x y)->∃r,zak f (x::a,b,out,())=some (res (out++r))/\r.Pairwise le/\r.Perm (x::a++b):=by
    intro x a b out hd hM ha hb hx;obtain ⟨a1,a2⟩:=yBU.1 ha;obtain ⟨r,r1,r2,r3⟩:=ih a b (out++[x]) (by simp at hd;omega) (by simp at hM ⊢;omega) a2 hb;refine ⟨x::r,?_,yBU.2 ⟨λz hz=>?_,r2⟩,r3.cons x⟩;·rw[zaR (hA x a b out hM hx),r1];simp
    ·rcases yAp.1 (r3.mem_iff.1 hz) with hz|hz;·exact a1 z hz
     ·cases b with
      |nil=>simp at hz|cons y b' =>
        rcases yAm.1 hz with rfl|hz;·exact hx _ _ rfl
        ·exact ht _ _ _ (hx _ _ rfl) ((yBU.1 hb).1 z hz)
   have goB:∀y a b out,a.length+(y::b).length<=d+1->out.length+a.length+(y::b).length<=M->a.Pairwise le->(y::b).Pairwise le->(∀x a',a=x::a'->¬le x y)->∃r,zak f (a,y::b,out,())=some (res (out++r))/\r.Pairwise le/\r.Perm (a++y::b):=by
    intro y a b out hd hM ha hb hy;obtain ⟨b1,b2⟩:=yBU.1 hb;obtain ⟨r,r1,r2,r3⟩:=ih a b (out++[y]) (by simp at hd;omega) (by simp at hM ⊢;omega) ha b2;refine ⟨y::r,?_,yBU.2 ⟨λz hz=>?_,r2⟩,(r3.cons y).trans List.perm_middle.symm⟩;·rw[zaR (hB y a b out hM hy),r1];simp
    ·rcases yAp.1 (r3.mem_iff.1 hz) with hz|hz
     ·cases a with
      |nil=>simp at hz|cons x a' =>
        have hyx:=htot _ _ (hy _ _ rfl);rcases yAm.1 hz with rfl|hz;·exact hyx
        ·exact ht _ _ _ hyx ((yBU.1 ha).1 z hz)
     ·exact b1 z hz
   intro a b out hd hM ha hb;cases a with
   |nil =>
     cases b with
     |nil=>exact ⟨[],by rw[yAR];exact zaD (h0 out),List.Pairwise.nil,List.Perm.refl _⟩|cons y b=>exact goB y [] b out hd hM ha hb (λ_ _ h=>by cases h)
   |cons x a =>
     cases b with
     |nil=>exact goA x a [] out hd hM ha hb (λ_ _ h=>by cases h)|cons y b =>
       by_cases h1:le x y;·exact goA x a (y::b) out hd hM ha hb (λy' b' h=>by cases h;exact h1)
       ·exact goB y (x::a) b out hd hM ha hb (λx' a' h=>by cases h;exact h1)
theorem zAB{α:Type}{le:α->α->Prop}(ht:∀x y z,le x y->le y z->le x z)(htot:∀x y,¬le x y->le y x){f:List α×List α×List α×J->Option ((List α×List α×List α×J)⊕((List α×J)⊕(List α×J)))}{P:List α->Prop}{a b:List α}(M:Nat)(hM:a.length+b.length<=M)(ha:a.Pairwise le)(hb:b.Pairwise le)
  (hP:∀r,r.Pairwise le->r.Perm (a++b)->P r)
  (h0:∀out,f ([],[],out,())=some (.inr (.inl (out,()))))
  (hA:∀x a b out,out.length+(x::a).length+b.length<=M->(∀y b',b=y::b'->le x y)->f (x::a,b,out,())=some (.inl (a,b,out++[x],())))
  (hB:∀y a b out,out.length+a.length+(y::b).length<=M->(∀x a',a=x::a'->¬le x y)->f (a,y::b,out,())=some (.inl (a,b,out++[y],()))) :
  ∃r,zaE (zak f (a,b,[],())) (λt=>some (t.1,()))=some (r,())/\P r:=by
 obtain ⟨r,r1,r2,r3⟩:=zAf ht (f:=f) (λout=>.inl (out,())) M h0 hA hB htot _ a b [] (yAi _) (by simpa using hM) ha hb;exact ⟨r,by rw[r1,zaj,yBb],hP r r2 r3⟩
def zyM(x y:Gt.Kb):Prop:=x.ref<=y.ref
theorem zyW(x y:By):((Op.bytesLess x y)||(x==y))=decide (x<=y):=by rw[zgX,yBC];simp only[yBF,decide_eq_true_eq,beq_iff_eq];exact (List.le_iff_lt_or_eq (l₁:=x) (l₂:=y)).symm
theorem L104:∀(k n:Nat)(l:List Gt.Kb),l.length<=2 ^ k->l.length<=1000000->∃r,@Eq (Option (List Gt.Kb×J)) ((zah (n+k+1)).d 104 [.sl (.st 5) l] [.sl (.st 5)]) (some (r,()))/\r.Pairwise zyM/\r.Perm l:=by
 have one:∀(m:Nat)(l:List Gt.Kb),l.length<2->∃r,m104 (zah m) l=some (r,())/\r.Pairwise zyM/\r.Perm l:=λm l hl=>by
  refine ⟨l,?_,?_,List.Perm.refl _⟩;·unfold m104;rw[decide_eq_true (show len l<2 by show (l.length:Int)<2;omega),zac,zbc (by simp[lim];omega),zaa,yBb]
  ·match l,hl with
   |[],_=>exact List.Pairwise.nil|[x],_=>exact yBs _ _|_::_::_,h=>simp at h;omega
 intro k;induction k with
 |zero =>intro n l hl _;obtain ⟨r,h1,h2⟩:=one (n+0) l (by simp at hl;omega);exact ⟨r,(q104 (n+0) l).trans h1,h2⟩
 |succ k ih =>
   intro n l hl hl2;by_cases h2:l.length<2;·obtain ⟨r,h1,h3⟩:=one (n+(k+1)) l h2;exact ⟨r,(q104 (n+(k+1)) l).trans h1,h3⟩
   have hp:2 ^ (k+1)=2 ^ k+2 ^ k:=(by rw[Nat.pow_succ];omega);obtain ⟨a,a1,a2,a3⟩:=ih n (l.take (l.length / 2)) (by rw[yAY];omega) (by rw[yAY];omega);obtain ⟨b,b1,b2,b3⟩:=ih n (l.drop (l.length / 2)) (by rw[yAL];omega) (by rw[yAL];omega);have ea:=a3.length_eq;have eb:=b3.length_eq;rw[yAY] at ea;rw[yAL] at eb;refine (?_:∃r,m104 (zah (n+k+1)) l=some (r,())/\r.Pairwise zyM/\r.Perm l).imp λr h=>⟨(q104 (n+k+1) l).trans h.1,h.2⟩;unfold m104;rw[decide_eq_false (show ¬len l<2 by show ¬(l.length:Int)<2;omega),zab,show Int.tdiv (len l) 2=Int.tdiv (l.length:Int) 2 from rfl,zAY hl2,zAG (Nat.div_le_self _ _),zaa,a1,zaa,zAH (Nat.div_le_self _ _),zaa,b1,zaa];dsimp only;refine zAB (P:=λr=>r.Pairwise zyM/\r.Perm l) (le:=zyM) (λx y z h1 h2=>List.le_trans h1 h2) (λx y h=>(List.le_total x.ref y.ref).resolve_left h) 1000000 (by omega) a2 b2 (λr r2 r3=>⟨r2,r3.trans ((a3.append b3).trans (by rw[List.take_append_drop]))⟩) (λout=>?_) (λx a b out hM hx=>?_) (λy a b out hM hy=>?_);·rfl
   ·have fin:ob (at? (x::a) 0) (λy13=>ob (zdJ out [y13]) λl14=>ob (zhN (x::a) 1 (len (x::a))) λs15=>(some (Sum.inl (s15,b,l14,())):Option ((List Gt.Kb×List Gt.Kb×List Gt.Kb×J)⊕((List Gt.Kb×J)⊕(List Gt.Kb×J)))))=some (.inl (a,b,out++[x],())):=by
     rw[at0,zaa,zbc (by simp at hM ⊢;unfold lim;omega),zaa,zAb,zaa]
    dsimp only;cases b with
    |nil=>rw[zAx,zac,zaa,zac,show (len ([]:List Gt.Kb)==0)=true from rfl,zac,zaa,zac];exact fin|cons y b =>rw[zAx,zac,zaa,zac,ne0,zab,zac];simp only[at0,zaa,zyW];rw[decide_eq_true (show x.ref<=y.ref from hx y b rfl),zac];exact fin
   ·have fin:ob (at? (y::b) 0) (λy13=>ob (zdJ out [y13]) λl14=>ob (zhN (y::b) 1 (len (y::b))) λs15=>(some (Sum.inl (a,s15,l14,())):Option ((List Gt.Kb×List Gt.Kb×List Gt.Kb×J)⊕((List Gt.Kb×J)⊕(List Gt.Kb×J)))))=some (.inl (a,b,out++[y],())):=by
     rw[at0,zaa,zbc (by simp at hM ⊢;unfold lim;omega),zaa,zAb,zaa]
    dsimp only;cases a with
    |nil =>rw[show decide (0<len ([]:List Gt.Kb))=false from rfl,zab,zaa,zAx,zac,ne0,zab,zab,zaa,zaa,zab];exact fin|cons x a =>rw[zAx,zac,zaa,zac,ne0,zab,zac];simp only[at0,zaa,zyW];rw[decide_eq_false (show ¬x.ref<=y.ref from hy x a rfl),zab];exact fin
end Pe.Tryz
end
section
namespace Pe.Tryz
open Go Go.Proofs Pe
theorem s224(o:Orc Sx)(c:UInt8):m224 o (c.toNat:Int)=some (zyt c,()):=by simp only[m224,zaa,zai];exact congrArg some (Prod.ext (eq8 (f:=λc=>bif (bif ((c.toNat:Int)==45) then true else ((c.toNat:Int)==95)) then true else ((c.toNat:Int)==46)) (g:=zyt) (by decide+kernel) c) rfl)
theorem L224(n:Nat)(c:UInt8): @Eq (Option (Bool×J)) ((zah (n+1)).d 224 [.int .u8 (c.toNat:Int)] [.bool]) (some (zyt c,())):=(q224 n _).trans (s224 _ c)
theorem zzQ(s:By):zAU (zaT s)=some s:=by
 unfold zAU;have:((zaT s).all λn=>decide (0<=n)&&decide (n<256))=true:=by rw[yAM];intro x hx;simp only[zaT,yBw] at hx;obtain ⟨c,_,rfl⟩:=hx;have:=c.toNat_lt;simp;omega
 rw[this,zyE];rfl
theorem s158(o:Orc Sx){s:By}(h:s.length<=1000000000):m158 o s=some (zyA s,()):=by
 unfold m158;rw[ztw s (by simp[lim];omega)];simp only[zaa];refine zps (zby (A:=J) (λk _=>((k:Int),zzi s k,())) s.length (λ_ _=>.inl (zzi s s.length,())) (λ_ _=>True) (λk _ hk _=>?_) 0 () (yAA _) trivial) ?_
 ·by_cases Ks:k<s.length
  ·left;refine ⟨(),Ks,?_,trivial,rfl⟩;simp only[len,zys,Int.ofNat_lt,Ks,decide_true,zzJ (show k<(zzi s k).length by rw[zyQ];exact Ks),zaa,zzA Ks,zai,zaf Ks (by omega)];have:=zyY Ks;rw[<-low1] at this;cases hc:(bif decide (65<=((s[k]).toNat:Int)) then decide (((s[k]).toNat:Int)<=90) else false) with
   |true=>rw[hc] at this;rw[this];rfl|false=>rw[zzq Ks hc];rfl
  ·right;obtain rfl:k=s.length:=by omega
   simp[len,zys,zab]
 ·simp only[zaj,zzK]
theorem s229(o:Orc Sx){s:By}(h:s.length<=1000000000):m229 o s=some (zyA s,()):=by
 unfold m229;rw[ztw s (by simp[lim];omega)];simp only[zaa];refine zps (zby (A:=J) (λk _=>((k:Int),zzi s k,())) s.length (λ_ _=>.inl (zzi s s.length,())) (λ_ _=>True) (λk _ hk _=>?_) 0 () (yAA _) trivial) ?_
 ·by_cases Ks:k<s.length
  ·left;refine ⟨(),Ks,?_,trivial,rfl⟩;simp only[len,zys,Int.ofNat_lt,Ks,decide_true,zzJ (show k<(zzi s k).length by rw[zyQ];exact Ks),zaa,zzA Ks,zai,zaf Ks (by omega)];have:=zyY Ks;rw[<-low2] at this;cases hc:(bif decide (65<=((s[k]).toNat:Int)) then decide (((s[k]).toNat:Int)<=90) else false) with
   |true=>rw[hc] at this;rw[this];rfl|false=>rw[zzq Ks hc];rfl
  ·right;obtain rfl:k=s.length:=by omega
   simp[len,zys,zab]
 ·simp only[zaj,zzK]
theorem s159(n:Nat){s:By}(h:s.length<=1000000000):m159 (zah (n+1)) s=some (zyK false s,()):=by
 unfold m159;refine zps (zby (A:=By) (λk b=>((k:Int),zaT b,())) s.length (λk b=>.inl (zaT (b++zyK (zyG s k) (s.drop k)),())) (λk b=>b.length<=k) (λk b hk hb=>?_) 0 [] (yAA _) (by simp)) ?_
 ·by_cases Ks:k<s.length
  ·left;have hl:b.length+1<=lim:=by simp[lim];omega
   simp only[zao,Ks,decide_true,zac,zan Ks,zaa,zaf Ks (by omega),L224];have hcond:∀{β:Type}(g:Bool->Option β),ob (br ((k:Int)==0) (some true) (ob (at? s (IntKind.i64.wrap ((k:Int) - 1))) λc6=>some (!zyt c6))) g=g (!zyG s k):=by
    intro β g;cases k with
    |zero=>rfl|succ k =>
      have hk':k<s.length:=(by omega);have:(((k+1:Nat):Int)==0)=false:=by simp;omega
      rw[this,zaH (by omega) (by omega),show ((k+1:Nat):Int) - 1=(k:Int) by omega];simp only[zab,zan hk',zaa,zyw hk']
   cases hc:zyt s[k] with
   |false =>
     refine ⟨b++[s[k]],trivial,?_,by simp;omega,?_⟩;·simp only[Bool.not_false,zac,cat1 hl,zaa]
     ·rw[zyy Ks,hc];simp
   |true =>
     cases hp:zyG s k with
     |false =>
       refine ⟨b++[45],trivial,?_,by simp;omega,?_⟩;·simp only[yBS,zab];refine (hcond _).trans ?_;simp only[hp,Bool.not_false,zac,zA2 hl,zaa]
       ·rw[<-hp,zyy Ks,hc,hp];simp
     |true =>
       refine ⟨b,trivial,?_,by omega,?_⟩;·simp only[yBS,zab];refine (hcond _).trans ?_;simp only[hp,yBS,zab]
       ·rw[<-hp,zyy Ks,hc,hp];simp
  ·right;obtain rfl:k=s.length:=by omega
   simp[zao,zab,zyK]
 ·simp[zaj,zzQ,zaa,zyG]
theorem s230(o:Orc Sx){s:By}(h:s.length<=1000000000):m230 o s=some (zyK false s,()):=by
 unfold m230;refine zps (zby (A:=By) (λk b=>(zaT b,(k:Int),())) s.length (λk b=>.inl (zaT (b++zyK (zyG s k) (s.drop k)),())) (λk b=>b.length<=k/\zAM b=zyG s k) (λk b hk hb=>?_) 0 [] (yAA _) ⟨by simp,rfl⟩) ?_
 ·by_cases Ks:k<s.length
  ·left;have hl:b.length+1<=lim:=by have:=hb.1;simp[lim];omega
   simp only[zao,Ks,decide_true,zac,zan Ks,zaa,zaf Ks (by omega),zai];have hcond:∀{β:Type}(g:Bool->Option β),ob (br ((len (zaT b))==0) (some true) (ob (at? (zaT b) (IntKind.i64.wrap ((len (zaT b)) - 1))) λy5=>some (y5 != 45))) g=g (!zyG s k):=by
    intro β g;rw[<-hb.2];rcases List.eq_nil_or_concat b with rfl|⟨b',x,rfl⟩;·rfl
    ·rw[List.concat_eq_append] at hb hl ⊢;have e1:len (zaT (b'++[x]))=((b'.length+1:Nat):Int):=by simp[len,zys]
     have:(((b'.length+1:Nat):Int)==0)=false:=by simp;omega
     have hb1:=hb.1;rw[yAI,List.length_singleton] at hb1;rw[e1,this,zaH (by omega) (by omega),show ((b'.length+1:Nat):Int) - 1=(b'.length:Int) by omega];have e2:at? (zaT (b'++[x])) (b'.length:Int)=some (x.toNat:Int):=(by rw[zcV,zzt,yAF (by simp[zys]),zys];simp[zaT]);simp only[zab,e2,zaa,zyX];rw[show ((x.toNat:Int) != 45)= !(x==45) from eq8 (f:=λx=>(x.toNat:Int) != 45) (g:=λx=> !(x==45)) (by decide+kernel) x]
   have hd:(bif (bif ((s[k].toNat:Int)==45) then true else ((s[k].toNat:Int)==95)) then true else ((s[k].toNat:Int)==46))=zyt s[k] :=
    eq8 (f:=λc=>bif (bif ((c.toNat:Int)==45) then true else ((c.toNat:Int)==95)) then true else ((c.toNat:Int)==46)) (g:=zyt) (by decide+kernel) _
   rw[hd];cases hc:zyt s[k] with
   |false =>
     refine ⟨b++[s[k]],trivial,?_,⟨by simp;exact hb.1,by rw[zyX,zyw Ks,hc,zA1 _ hc]⟩,?_⟩;·simp only[zab,cat1 hl,zaa]
     ·rw[zyy Ks,hc];simp
   |true =>
     cases hp:zyG s k with
     |false =>
       refine ⟨b++[45],trivial,?_,⟨by simp;exact hb.1,by rw[zyX,zyw Ks,hc];rfl⟩,?_⟩;·simp only[zac];refine (hcond _).trans ?_;simp only[hp,Bool.not_false,zac,zA2 hl,zaa]
       ·rw[<-hp,zyy Ks,hc,hp];simp
     |true =>
       refine ⟨b,trivial,?_,⟨by have:=hb.1;omega,by rw[hb.2,hp,zyw Ks,hc]⟩,?_⟩;·simp only[zac];refine (hcond _).trans ?_;simp only[hp,yBS,zab]
       ·rw[<-hp,zyy Ks,hc,hp];simp
  ·right;obtain rfl:k=s.length:=by omega
   simp[zao,zab,zyK]
 ·simp[zaj,zyE,zyG]
theorem L158(n:Nat){s:By}(h:s.length<=1000000000): @Eq (Option (By×J)) ((zah (n+1)).d 158 [.str s] [.str]) (some (zyA s,())):=(q158 n _).trans (s158 _ h)
theorem L229(n:Nat){s:By}(h:s.length<=1000000000): @Eq (Option (By×J)) ((zah (n+1)).d 229 [.str s] [.str]) (some (zyA s,())):=(q229 n _).trans (s229 _ h)
theorem L159(n:Nat){s:By}(h:s.length<=1000000000): @Eq (Option (By×J)) ((zah (n+2)).d 159 [.str s] [.str]) (some (zyK false s,())):=(q159 (n+1) _).trans (s159 n h)
theorem L230(n:Nat){s:By}(h:s.length<=1000000000): @Eq (Option (By×J)) ((zah (n+1)).d 230 [.str s] [.str]) (some (zyK false s,())):=(q230 n _).trans (s230 _ h)
theorem s119(n:Nat){p:Gt.K6}(T:Tiny p):m119 (zah (n+3)) p=some (zyD p,()):=by
 have t1:=T.K3;have t2:=T.name;have t4:=T.quals;unfold m119 zyD;rw[L149 n,L158 (n+2) (show p.K3.length<=1000000000 by omega),L158 (n+2) (show p.name.length<=1000000000 by omega)];simp only[zaa];cases (zea p.kind).1.small<;>cases (zea p.kind).1.dashes;·simp only[zab,cond_false,zaj];rw[ztw _ (by simp[lim];omega)];rfl
 ·simp only[zac,zab,cond_false,cond_true,zaj];rw[L159 (n+1) (by omega)];simp only[zaa,zaj];rw[ztw _ (by simp[lim];omega)];rfl
 ·simp only[zac,zab,cond_false,cond_true,zaj];rw[ztw _ (by simp[lim];omega)];rfl
 ·simp only[zac,cond_true,zaj];rw[L159 (n+1) (by rw[zzk];omega)];simp only[zaa,zaj];rw[ztw _ (by simp[lim];omega)];rfl
theorem s166(n:Nat){p:Gt.K6}(T:Tiny p):m166 (zah (n+3)) p=some (zyD p,()):=by
 have t1:=T.K3;have t2:=T.name;have t4:=T.quals;unfold m166 zyD;rw[L160 n,L229 (n+2) (show p.K3.length<=1000000000 by omega),L229 (n+2) (show p.name.length<=1000000000 by omega)];simp only[zaa];cases (zea p.kind).1.small<;>cases (zea p.kind).1.dashes;·simp only[zab,cond_false,zaj];rw[ztw _ (by simp[lim];omega)];rfl
 ·simp only[zac,zab,cond_false,cond_true,zaj];rw[L230 (n+2) (by omega)];simp only[zaa,zaj];rw[ztw _ (by simp[lim];omega)];rfl
 ·simp only[zac,zab,cond_false,cond_true,zaj];rw[ztw _ (by simp[lim];omega)];rfl
 ·simp only[zac,cond_true,zaj];rw[L230 (n+2) (by rw[zzk];omega)];simp only[zaa,zaj];rw[ztw _ (by simp[lim];omega)];rfl
theorem L119(n:Nat){p:Gt.K6}(T:Tiny p): @Eq (Option (Gt.K6×J)) ((zah (n+4)).d 119 [.st 11 p] [.st 11]) (some (zyD p,())):=(q119 (n+3) _).trans (s119 n T)
theorem L166(n:Nat){p:Gt.K6}(T:Tiny p): @Eq (Option (Gt.K6×J)) ((zah (n+4)).d 166 [.st 11 p] [.st 11]) (some (zyD p,())):=(q166 (n+3) _).trans (s166 n T)
theorem L94(n:Nat){p:Gt.K6}(h:p.Kf.length<=1000000000): @Eq (Option (Gt.K6×Int×J)) ((zah (n+5)).d 94 [.st 11 p] [.st 11,I6]) (some (zyZ p)):=by
 rw[q94];unfold m94 zyZ;rw[L117 n h];simp only[zaa];cases hc:(zdS p != 0) with
 |true=>rfl|false=>rw[L119 n (zyC (by simpa using hc))];rfl
theorem L145(n:Nat){p:Gt.K6}(h:p.Kf.length<=1000000000): @Eq (Option (Gt.K6×Int×J)) ((zah (n+5)).d 145 [.st 11 p] [.st 11,I6]) (some (zyZ p)):=by
 rw[q145];unfold m145 zyZ;rw[L120 n h];simp only[zaa];cases hc:(zdS p != 0) with
 |true=>rfl|false=>rw[L166 n (zyC (by simpa using hc))];rfl
end Pe.Tryz
end
section
namespace Pe.Tryz
open Go Go.Proofs Pe
def zyu(c:Gt.Kb):Gt.Kb:=Gt.Kb.mk c.ref (zyD c.purl) c.K2 c.Kv (zyq c.files)
theorem zzC{w:Bool}{c:Gt.Kb}(h:zyL w c=0):znJ c.ref 100=true/\zdS c.purl=0/\zpU c.K2=0/\zAL c.Kv=0/\zyI w c.files=0:=by unfold zyL at h;obtain ⟨h1,h⟩:=zc5 (by decide) h;obtain ⟨h2,h⟩:=zni h;obtain ⟨h3,h⟩:=zni h;obtain ⟨h4,h⟩:=zni h;exact ⟨by simpa using h1,h2,h3,h4,h⟩
theorem zyS{w:Bool}{l:List By}(h:zyI w l=0):l.length<=100:=by unfold zyI at h;obtain ⟨h1,_⟩:=zc5 (by decide) h;have:=of_decide_eq_false h1;unfold len at this;omega
theorem zzB{l:List Gt.Qc}(h:zpU l=0):l.length<=4:=by unfold zpU at h;obtain ⟨h1,_⟩:=zc5 (by decide) h;have:=of_decide_eq_false h1;unfold len at this;omega
theorem zzN{p:Gt.K6}(h:zdS p=0):zyZ p=(zyD p,0,()):=by unfold zyZ;rw[h];rfl
theorem L68(n:Nat){c:Gt.Kb}(h1:c.purl.Kf.length<=1000000)(h2:c.K2.length<=1000000)(h3:c.files.length<=1000000) :
  @Eq (Option ((By×By×By×By×By×List Gt.Pair×By×List Gt.Qc×By×List By×J)⊕J)) ((zah (n+2)).l 68 sg68 ((c,()):Gt.Kb×J)) (some (.inl (c.ref,c.purl.kind,c.purl.K3,c.purl.name,c.purl.Km,c.purl.Kf,c.purl.sub,c.K2,c.Kv,c.files,()))):=by
 refine (q68 (n+1) c).trans ?_;unfold m68
 rw[show @Eq (Option (List Gt.Pair×J)) ((zah (n+1)).d 111 [.sl (.st 10) c.purl.Kf] [.sl (.st 10)]) (some (c.purl.Kf,())) from (show _=(bif Nat.ble (List.length (α:=Gt.Pair) c.purl.Kf) 1000000000 then some (c.purl.Kf,()) else none:Option (List Gt.Pair×J)) by kernel_rfl).trans (by rw[show Nat.ble (List.length (α:=Gt.Pair) c.purl.Kf) 1000000000=true from by rw[yAK];omega];rfl),zaa,
  show @Eq (Option (List Gt.Qc×J)) ((zah (n+1)).d 112 [.sl (.st 6) c.K2] [.sl (.st 6)]) (some (c.K2,())) from (show _=(bif Nat.ble (List.length (α:=Gt.Qc) c.K2) 1000000000 then some (c.K2,()) else none:Option (List Gt.Qc×J)) by kernel_rfl).trans (by rw[show Nat.ble (List.length (α:=Gt.Qc) c.K2) 1000000000=true from by rw[yAK];omega];rfl),zaa,
  show @Eq (Option ((List By×J)⊕J)) ((zah (n+1)).l 113 sg113 ((c.files,()):List By×J)) (some (.inl (c.files,()))) from (show _=(bif Nat.ble (List.length (α:=By) c.files) 1000000 then some (.inl (c.files,())) else none:Option ((List By×J)⊕J)) by kernel_rfl).trans (by rw[show Nat.ble (List.length (α:=By) c.files) 1000000=true from by rw[yAK];exact h3];rfl),zaA]
theorem L103(n:Nat){c:Gt.Kb}(h:c.purl.Kf.length<=1000000000)(hc:zdS c.purl=0)(h2:c.K2.length<=1000000)(h3:c.files.length<=1000000): @Eq (Option (Gt.Kb×J)) ((zah (n+6)).d 103 [.st 5 c] [.st 5]) (some (zyu c,())):=by refine (q103 (n+5) c).trans ?_;unfold m103;rw[L145 n h,zaa,zzN hc,L146 (n+4) h3,zaa,ztw _ (by simp[lim];omega),zaa];rfl
end Pe.Tryz
end
section
namespace Pe.Tryz
open Go Go.Proofs Pe
def Once(b:Gt.Kr):Prop:=∀i j,i<j->j<b.Kc.length->cR b i≠cR b j
def noB:Gt.Kr:=Gt.Kr.mk [] [] [] [] []
noncomputable def sortT(b:Gt.Kr):List Gt.Kb:=(b.Kc.map zyu).mergeSort λx y=>decide (x.ref<=y.ref)
noncomputable def zAs(b:Gt.Kr):Gt.Kr:=Gt.Kr.mk b.name b.Km b.root (sortT b) (zyJ b.Kn)
open Classical in
noncomputable def zzd(b:Gt.Kr):Gt.Kr×Int:=if zzs false b≠0 then (noB,zzs false b) else if Once b then (zAs b,0) else (noB,5)
theorem zzv{a b:List Gt.Kb}(hp:a.Perm b)(ha:a.Pairwise zyM)(hb:b.Pairwise zyM)(hn:b.Pairwise λx y=>x.ref≠y.ref):a=b:=by
 refine List.Perm.eq_of_pairwise (le:=zyM) (λx y hx hy h1 h2=>?_) ha hb hp;have he:x.ref=y.ref:=List.le_antisymm h1 h2;have hx':=hp.mem_iff.1 hx;obtain ⟨i,hi,rfl⟩:=yBH hx';obtain ⟨j,hj,rfl⟩:=yBH hy;by_cases hij:i=j;·subst hij;rfl
 ·rcases yBY hij with h|h;·exact absurd he (yAH.1 hn i j hi hj h)
  ·exact absurd he.symm (yAH.1 hn j i hj hi h)
theorem zyB(b:Gt.Kr):(sortT b).Perm (b.Kc.map zyu):=List.mergeSort_perm _ _
theorem zz4(b:Gt.Kr):(sortT b).Pairwise zyM:=by have:=List.pairwise_mergeSort (le:=λ(x y:Gt.Kb)=>decide (x.ref<=y.ref)) (λa b c h1 h2=>by simp only[decide_eq_true_eq] at *;exact List.le_trans h1 h2) (λa b=>by simp only[yBF,decide_eq_true_eq];exact List.le_total a.ref b.ref) (b.Kc.map zyu);exact this.imp λ{a b} h=>of_decide_eq_true h
theorem Once.pair{b:Gt.Kr}(h:Once b):(b.Kc.map zyu).Pairwise λx y=>x.ref≠y.ref:=by rw[yA6,yAH];intro i j hi hj hij;have:=h i j hij hj;rw[zcU hi,zcU hj] at this;exact this
theorem Once.sortT{b:Gt.Kr}(h:Once b){r:List Gt.Kb}(hp:r.Perm (b.Kc.map zyu))(ha:r.Pairwise zyM):r=sortT b :=
 zzv (hp.trans (zyB b).symm) ha (zz4 b) ((zyB b).symm.pairwise h.pair λ{x y} hxy=>Ne.symm hxy)
theorem zzh{w:Bool}{b:Gt.Kr}(h:zzs w b=0):b.Kc.length<=3000/\b.Kn.length<=20000/\∀c∈b.Kc,zyL w c=0:=by
 unfold zzs at h;obtain ⟨_,h⟩:=zc5 (by decide) h;obtain ⟨hsz,h⟩:=zc5 (by decide) h;obtain ⟨hc,h⟩:=zni h;have hN:b.Kc.length<=3000/\b.Kn.length<=20000:=by
  cases h1:decide (3000<len b.Kc) with
  |true=>rw[h1] at hsz;cases hsz|false =>rw[h1] at hsz;have h2:=of_decide_eq_false h1;have h3:=of_decide_eq_false (show decide (20000<len b.Kn)=false from hsz);unfold len at h2 h3;omega
 refine ⟨hN.1,hN.2,λc hm=>?_⟩;obtain ⟨k,hk,rfl⟩:=yBH hm;have h1:=zsV hc hk;unfold zyr at h1;have:=(zni h1).1;simpa[yAj,hk] using this
open Classical in
theorem L53{n:Nat}(hn:200<=n){b:Gt.Kr}(hb:SmB b): @Eq (Option (Gt.Kr×Int×J)) ((zah n).d 53 [.st 3 b] [.st 3,I6]) (some ((zzd b).1,(zzd b).2,())):=by
 obtain ⟨n,rfl⟩:∃k,n=k+200:=⟨n - 200,by omega⟩;refine (q53 (n+199) b).trans ?_;unfold m53 zzd;rw[show @Eq (Option (Int×J)) ((zah (n+199)).d 102 [.st 3 b,.bool false] [I6]) (some (zzs false b,())) from (q102 (n+198) _ _).trans (s102 false (by omega) hb),zaa];dsimp only;by_cases he:zzs false b≠0;·rw[if_pos he,show (zzs false b != 0)=true from by simpa using he,zac];rfl
 rw[if_neg he,show (zzs false b != 0)=false from by simpa using he,zab];obtain ⟨hN,hM,hC⟩:=zzh (by simpa using he);refine (congrArg (λz=>zaE z _) (zby (A:=MB) (λk M=>((k:Int),([]:By),([]:By),([]:By),([]:List Gt.Kb),([]:List Gt.Kw),M,())) b.Kc.length (λ_ _=>if Once b then .inl ([],[],[],[],[],zfe b b.Kc.length,()) else .inr (noB,5,())) (λk M=>M=zfe b k/\∀i j,i<j->j<k->cR b i≠cR b j) (λk M hk hI=>?_) 0 [] (yAA _) ⟨rfl,λi j _ h=>by omega⟩)).trans ?_
 ·obtain ⟨rfl,hI⟩:=hI;by_cases Ks:k<b.Kc.length
  ·dsimp only;rw[show decide ((k:Int)<len b.Kc)=true from by simp[len];exact Ks,zac,zan Ks,zaa];have hcr:b.Kc[k].ref=cR b k:=(zcU Ks).symm;cases hm:zdh (keq un .str) b.Kc[k].ref false (zfe b k) with
   |true =>right;rw[hcr] at hm;obtain ⟨j,h1,h2⟩:=(zmL b k _).1 hm;rw[zac,if_neg λho=>ho j k h1 Ks h2];rfl
   |false =>
     left;refine ⟨zfe b (k+1),Ks,?_,⟨rfl,λi j hij hj=>?_⟩,rfl⟩;·rw[zab,zaf Ks (by omega),zhW,hcr];rfl
     ·by_cases hjk:j=k;·subst hjk;intro h;rw[hcr] at hm;have:=(zmL b j _).2 ⟨i,hij,h⟩;rw[this] at hm;cases hm
      ·exact hI i j hij (by omega)
  ·right;obtain rfl:k=b.Kc.length:=by omega
   dsimp only;rw[show decide ((b.Kc.length:Int)<len b.Kc)=false from by simp[len],zab,if_pos (show Once b from λi j hij hj=>hI i j hij hj)]
 by_cases ho:Once b
 rotate_left
 ·rw[if_neg ho,if_neg ho,zaU]
 rw[if_pos ho,if_pos ho,zaj];dsimp only;rw[zeF b.Kc (λc=>some (zyu c)) (λl=>(.inl (l,()):(List Gt.Kb×J)⊕(Gt.Kr×Int×J))) (λk hk a ha=>?_) (λa=>?_),zaj]
 rotate_left
 ·have K9:=yAy hk;have hc:=hb.comps _ K9;obtain ⟨c1,c2,c3,c4,c5⟩:=zzC (hC _ K9);dsimp only;rw[show decide ((k:Int)<len b.Kc)=true from by simp[len];exact hk,zac,zan hk,zaa,L103 (n+193) hc.quals c2 (by have:=zzB c3;omega) (by have:=zyS c5;omega),zaa,zbc (by simp[lim];omega),zaa,zaf hk (by omega)]
 ·dsimp only;rw[show decide ((b.Kc.length:Int)<len b.Kc)=false from by simp[len],zab]
 rw[show (b.Kc.filterMap λc=>some (zyu c))=b.Kc.map zyu from by rw[List.filterMap_eq_map']];dsimp only;have hml:(b.Kc.map zyu).length<=3000:=by rw[yBi];exact hN
 have hso:∀{r:List Gt.Kb},r.Perm (b.Kc.map zyu)->r.Pairwise zyM->r=sortT b:=ho.sortT;generalize b.Kc.map zyu=mp at hml hso ⊢;obtain ⟨r,r1,r2,r3⟩:=L104 12 (n+186) mp (by omega) (by omega);obtain ⟨r',s1,s2,s3,_⟩:=L105 15 (n+180) b.Kn (by omega) (by omega)
 rw[show @Eq (Option (List Gt.Kb×J)) ((zah (n+199)).d 104 [.sl (.st 5) mp] [.sl (.st 5)]) (some (r,())) from r1,zaa,
  show @Eq (Option (List Gt.Kw×J)) ((zah (n+199)).d 105 [.sl (.st 7) b.Kn] [.sl (.st 7)]) (some (r',())) from s1,zaa]
 rw[hso r3 r2,znA zyv s2 (zzb b.Kn).1 λx=>by rw[s3 x,(zzb b.Kn).2 x]];rfl
end Pe.Tryz
end
section
namespace Pe.Tryz
open Go Go.Proofs Pe
def zA3(l:List Gt.Kb):Prop:=l.Pairwise λx y=>x.ref≠y.ref
theorem zAz{b:Gt.Kr}{l:List Gt.Kb}(hp:l.Perm (b.Kc.map zyu)):Once b↔zA3 l:=by have e:Once b↔zA3 (b.Kc.map zyu):=⟨λh=>h.pair,λh i j hij hj=>by unfold zA3 at h;rw[yA6,yAH] at h;rw[zcU (by omega),zcU hj];exact h i j (by omega) hj hij⟩;rw[e];exact ⟨λh=>hp.symm.pairwise h λ{x y} hxy=>Ne.symm hxy,λh=>hp.pairwise h λ{x y} hxy=>Ne.symm hxy⟩
theorem zz2{l:List Gt.Kb}(h:Srt ltQ l):l.Pairwise zyM:=h.imp λ{a b} hab=>by unfold ltQ at hab;rw[zgX] at hab;exact List.not_lt.1 (of_decide_eq_false hab)
theorem zAR{l:List Gt.Kb}(h:l.Pairwise zyM)(ha:∀j (hj:j+1<l.length),l[j+1].ref≠l[j].ref):zA3 l:=by
 unfold zA3;rw[yAH] at *
 intro i j hi hj hij;have h1:l[i].ref<=(l[i+1]'(by omega)).ref:=h i (i+1) hi (by omega) (by omega);have h2:l[i].ref<(l[i+1]'(by omega)).ref:=by
  rcases (List.le_iff_lt_or_eq).1 h1 with h3|h3;·exact h3
  ·exact absurd h3.symm (ha i (by omega))
 by_cases hji:j=i+1;·subst hji;intro e;rw[e] at h2;exact yBn _ h2
 ·have h3:(l[i+1]'(by omega)).ref<=l[j].ref:=h (i+1) j (by omega) hj (by omega);intro e;rw[<-e] at h3;exact h3 h2
open Classical in
theorem L52{n:Nat}(hn:200<=n){b:Gt.Kr}(hb:SmB b): @Eq (Option (Gt.Kr×Int×J)) ((zah n).d 52 [.st 3 b] [.st 3,I6]) (some ((zzd b).1,(zzd b).2,())):=by
 obtain ⟨n,rfl⟩:∃k,n=k+200:=⟨n - 200,by omega⟩;refine (q52 (n+199) b).trans ?_;unfold m52 zzd;obtain ⟨M,hM⟩:=s80 false (n:=n+198) (by omega) hb;rw[show @Eq (Option ((MB×Int×J)⊕J)) ((zah (n+199)).l 80 sg80 (([],true,b,()):MB×Bool×Gt.Kr×J)) (some (.inl (M,zzs false b,()))) from (q80 (n+198) _ _ _).trans hM,zaA];dsimp only;by_cases he:zzs false b≠0;·rw[if_pos he,show (zzs false b != 0)=true from by simpa using he,zac];rfl
 rw[if_neg he,show (zzs false b != 0)=false from by simpa using he,zab];obtain ⟨hN,hM',hC⟩:=zzh (by simpa using he);have hml:(b.Kc.map zyu).length=b.Kc.length:=yBi ..;obtain ⟨l',l1,l2,l3⟩:=L97 (n+174) (l:=b.Kc.map zyu) (by rw[hml];omega);have Kq:=l2.length_eq;have hle:=zz2 l1;have hon:=zAz l2;have hso:Once b->l'=sortT b:=λh=>h.sortT l2 hle;refine (congrArg (λz=>zaE z _) (zby (A:=List Gt.Kb) (λk a=>((k:Int),b.name,b.Km,b.root,a,b.Kn,())) b.Kc.length (λ_ _=>.inl (b.name,b.Km,b.root,b.Kc.map zyu,b.Kn,())) (λk a=>a=(b.Kc.take k).map zyu) (λk a hk hI=>?_) 0 [] (yAA _) rfl)).trans ?_
 ·subst hI;by_cases Ks:k<b.Kc.length;·left;have K9:=yAy Ks;have hc:=hb.comps _ K9;obtain ⟨c1,c2,c3,c4,c5⟩:=zzC (hC _ K9);have hq:=(zyC c2).quals;obtain ⟨f,f1,f2⟩:=L95 (n+198) (l:=b.Kc[k].files) (by have:=zyS c5;omega);refine ⟨(b.Kc.take (k+1)).map zyu,Ks,?_,rfl,rfl⟩;dsimp only;rw[show decide ((k:Int)<len b.Kc)=true from by simp[len];exact Ks,zac,zan Ks,zaa,L68 (n+197) (by omega) (by have:=zzB c3;omega) (by have:=zyS c5;omega),zaA];dsimp only;rw[show @Eq (Option (Gt.K6×Int×J)) ((zah (n+199)).d 94 [.st 11 (Gt.K6.mk b.Kc[k].purl.kind b.Kc[k].purl.K3 b.Kc[k].purl.name b.Kc[k].purl.Km b.Kc[k].purl.Kf b.Kc[k].purl.sub)] [.st 11,I6]) (some (zyZ b.Kc[k].purl)) from L94 (n+194) hc.quals,zaa,zzN c2];dsimp only;rw[f1,zaa,f2,zaA];dsimp only;rw[zbc (by simp[lim];omega),zaa,zaf Ks (by omega),yBQ Ks,List.map_append];rfl
  ·right;obtain rfl:k=b.Kc.length:=by omega
   dsimp only;rw[show decide ((b.Kc.length:Int)<len b.Kc)=false from by simp[len],zab,List.take_length]
 rw[zaj];dsimp only;generalize b.Kc.map zyu=mp at l3 hml Kq ⊢;rw[l3,zaa];refine (congrArg (λz=>zaE z _) (zby (A:=J) (λj _=>(((j+1:Nat):Int),([]:By),([]:By),([]:By),([]:List Gt.Kb),([]:List Gt.Kw),b.name,b.Km,b.root,l',b.Kn,())) (l'.length - 1) (λ_ _=>if Once b then .inl ([],[],[],[],[],b.name,b.Km,b.root,l',b.Kn,()) else .inr (noB,5,())) (λj _=>∀i (hi:i+1<l'.length),i<j->l'[i+1].ref≠l'[i].ref) (λj _ hj hI=>?_) 0 () (yAA _) λi hi h=>by omega)).trans ?_
 ·by_cases Ks:j+1<l'.length
  ·dsimp only;rw[show decide (((j+1:Nat):Int)<len l')=true from decide_eq_true (show ((j+1:Nat):Int)<((l'.length:Nat):Int) by omega),zac,zle Ks,zaa,show zdc l' (j+1)=some l'[j+1] from yAe Ks,zaa,zaH (by omega) (by omega),show ((j+1:Nat):Int) - 1=(j:Int) by omega,zle (by omega),zaa,show zdc l' j=some (l'[j]'(by omega)) from yAe (by omega),zaa];by_cases hq:l'[j+1].ref=(l'[j]'(by omega)).ref
   ·right;rw[show (l'[j+1].ref==(l'[j]'(by omega)).ref)=true from by simpa using hq,zac,if_neg λho=>?_];·rfl
    ·exact yAH.1 (hon.1 ho) j (j+1) (by omega) Ks (by omega) hq.symm
   ·left;refine ⟨(),by omega,?_,λi hi hij=>?_,rfl⟩;·rw[show (l'[j+1].ref==(l'[j]'(by omega)).ref)=false from by simpa using hq,zab,zaf Ks (by omega)]
    ·by_cases hij2:i=j;·subst hij2;exact hq
     ·exact hI i hi (by omega)
  ·right;dsimp only;rw[show decide (((j+1:Nat):Int)<len l')=false from decide_eq_false (show ¬((j+1:Nat):Int)<((l'.length:Nat):Int) by omega),zab,if_pos (hon.2 (zAR hle λi hi=>hI i hi (by omega)))]
 by_cases ho:Once b
 rotate_left
 ·rw[if_neg ho,if_neg ho,zaU]
 rw[if_pos ho,if_pos ho,zaj];obtain ⟨e1,l4,e2,e3⟩:=L99 (n+194) (l:=b.Kn) (by omega);dsimp only;rw[show @Eq (Option ((List Gt.Kw×J)⊕J)) ((zah (n+199)).l 81 sg81 ((b.Kn,()):List Gt.Kw×J)) (some (.inl (b.Kn,()))) from e1,zaA];dsimp only;rw[show @Eq (Option (List Gt.Kw)) ((zah (n+199)).p 99 (.st 7) 75 [.func (.func 100) [] []] b.Kn) (some l4) from e2,zaa,show @Eq (Option ((List Gt.Kw×J)⊕J)) ((zah (n+199)).l 101 sg101 ((l4,()):List Gt.Kw×J)) (some (.inl (zyJ b.Kn,()))) from e3,zaA,hso ho];rfl
end Pe.Tryz
end
