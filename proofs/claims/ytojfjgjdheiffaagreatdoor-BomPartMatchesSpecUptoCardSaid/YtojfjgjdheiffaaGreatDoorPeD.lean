/- PROVED HERE: a part of the seat's proofs; see the text that holds the claim's theorem. -/
import Derived.Test.YtojfjgjdheiffaaGreatDoorPeC
section
namespace Pe
open Go Go.RowKit
variable{S:Nat->Type}
theorem zjo{P:Program}{c:Code}{Q:Exit->Act->World->Prop}{σ:Type}(I:σ->Act->World->Prop)(m:σ->Nat)
  (round:∀x a w,I x a w->c.wp P (Exit.then (λa' w'=>∃y,I y a' w'/\m y<m x) Q) a w):∀x a w,I x a w->(Code.loop c).wp P Q a w:=by
 intro x a w hI b k cs
 have key:∀n x a w,m x=n->I x a w ->
   ∃e a' w',Q e a' w'/\Arrives P (lone (b.at a (.code c:: .inLoop c::k)) cs w) b k cs e a' w':=by
  intro n;induction n using Nat.strongRecOn with
  |_ n ih =>
    intro x a w hn hI;obtain ⟨e,a₁,w₁,hq,harr⟩:=round x a w hI b (.inLoop c::k) cs;cases e with
    |normal =>obtain ⟨y,hI₁,Ks⟩:=hq;obtain ⟨e₂,a₂,w₂,hq₂,harr₂⟩:=ih (m y) (hn▸Ks) y a₁ w₁ rfl hI₁;exact ⟨e₂,a₂,w₂,hq₂,.of_steps (Steps.trans harr (.one step_inLoop)) harr₂⟩
    |exit id=>exact ⟨_,a₁,w₁,hq,.pass (x:= .inLoop c) rfl (λ_ _=>.inl (by simp)) harr⟩|goto l=>exact ⟨_,a₁,w₁,hq,.pass (x:= .inLoop c) rfl (λ_ _=>.inl (by simp)) harr⟩|ret=>exact ⟨_,a₁,w₁,hq,.pass (x:= .inLoop c) rfl (λ_ _=>.inl (by simp)) harr⟩|panic ch=>exact ⟨_,a₁,w₁,hq,.pass (x:= .inLoop c) rfl (λ_ _=>.inl (by simp)) harr⟩|outgrown=>exact ⟨_,a₁,w₁,hq,.pass (x:= .inLoop c) rfl (λ_ _=>.inl (by simp)) harr⟩
 obtain ⟨e,a',w',hq,harr⟩:=key _ x a w rfl hI;exact ⟨e,a',w',hq,.of_steps (.one step_loop) harr⟩
theorem zgz{σ R:Type}{f:σ->Option (σ⊕R)}{x:σ}{r:R}(h:zak f x=some r):∃n,zlH f n x=some r:=by
 unfold zak at h;split at h;·exact ⟨_,h⟩
 ·cases h
theorem zpt{σ R:Type}{x:Option (σ⊕R)}{f:σ->Option R}{r:R}(h:zaE x f=some r):∃z,x=some z/\((∃t,z= .inl t/\f t=some r)\/z= .inr r):=by
 unfold zaE at h;split at h;·exact ⟨_,rfl,.inl ⟨_,rfl,h⟩⟩
 ·cases h;exact ⟨_,rfl,.inr rfl⟩
 ·cases h
theorem zdn{α β:Type}{x:Option α}{f:α->β}{r:β}(h:x.map f=some r):∃a,x=some a/\f a=r:=by
 cases x with
 |none=>cases h|some a=>simp at h;exact ⟨a,rfl,h⟩
theorem Kv.calm_left{b b':Box S}(h:Kv b b'):Kv b.calm b':=by
 induction b generalizing b' with
 |var T cs =>
   cases b'<;>simp only[Kv] at h;simp only[Kv,Box.calm];refine ⟨h.1,by simpa using h.2.1,λj p hp hr hj=>?_⟩;rw[yAh] at hp;cases hc:cs[j]? with
   |none=>rw[hc] at hp;cases hp|some q =>
     rw[hc] at hp;simp only[yAg,yAf] at hp;unfold ziz at hp;cases hq:q.rowless with
     |true=>rw[hq] at hp;simp at hp;subst hp;exact h.2.2 j q hc hr hj|false=>rw[hq] at hp;simp at hp;subst hp;simp[zmX] at hj
 |lk b ih=>cases b'<;>simp only[Kv] at h;simp only[Kv,Box.calm];exact ih h|ro b ih=>cases b'<;>simp only[Kv] at h;simp only[Kv,Box.calm];exact ih h|own u T l=>exact h|wr u T l=>exact h|nst u T T2 l hh=>exact h|grp u T2 l hh=>exact h|gone=>exact h
theorem Kv.of_lk{b b':Box S}(h:Kv (.lk b) b'):∃x,b'= .lk x/\Kv b x:=by cases b'<;>simp only[Kv] at h;exact ⟨_,rfl,h⟩
theorem Kv.of_ro{b b':Box S}(h:Kv (.ro b) b'):∃x,b'= .ro x/\Kv b x:=by cases b'<;>simp only[Kv] at h;exact ⟨_,rfl,h⟩
theorem Kv.of_var{T:TypeId}{cs:List (PV S)}{b':Box S}(h:Kv (.var T cs) b'):∃cs',b'= .var T cs'/\zpO cs cs':=by cases b'<;>simp only[Kv] at h;obtain ⟨rfl,h⟩:=h;exact ⟨_,rfl,h⟩
theorem zl8{c:Cut}{M bx':Bxs S}(h:Kk (zav c.Kg 0 M) bx'){i:Nat}{b:Box S}(hi:zam M i=some b):Kept c i bx' b:=by
 have hl:zam (zav c.Kg 0 M) i=some (lk1 c.Kg i b):=by rw[zcg,hi];simp
 cases b with
 |var T cs =>
   simp only[Kept];cases hc:(c.Kg.map (·.1)).contains i with
   |true =>simp only[lk1,hc,cond_true] at hl;obtain ⟨cs',h1,h2⟩:=h.var i T cs hl;exact .inl ⟨yBz.1 hc,cs',h1,h2⟩
   |false =>
     simp only[lk1,hc,cond_false] at hl;obtain ⟨b',h1,h2⟩:=h.box i _ hl rfl;obtain ⟨x,rfl,h3⟩:=h2.of_lk;refine .inr ⟨λhm=>?_,x,h1,?_⟩;·rw[yBz.2 hm] at hc;cases hc
     ·exact Kv.calm_left h3
 |lk b =>obtain ⟨b',h1,h2⟩:=h.box i _ hl rfl;obtain ⟨x,rfl,h3⟩:=h2.of_lk;obtain ⟨y,rfl,h4⟩:=Kv.of_lk h3;exact ⟨y,h1,h4.calm_left⟩
 |ro b =>obtain ⟨b',h1,h2⟩:=h.box i _ hl rfl;obtain ⟨x,rfl,h3⟩:=h2.of_ro;exact ⟨x,h1,h3.calm_left⟩
 |own=>trivial|wr=>trivial|nst=>trivial|grp=>trivial|gone =>obtain ⟨b',h1,h2⟩:=h.box i _ hl rfl;exact ⟨b',h1,h2.fixed rfl⟩
theorem zhR:∀(l:List (Nat×List CTy))(ps:List (PV S))(B:Bxs S)(i:Nat),i∉l.map (·.1)->zam (zaX l ps B) i=zam B i
 |[],_,_,_,_=>rfl|(j,ts)::l,ps,B,i,h=>by
   simp only[yAn,yAm,not_or] at h;simp only[zaX];rw[zhR l _ _ i h.2];split;·exact zat h.1
   ·rfl
theorem zdR{bs:Bxs S}:∀{bx:Bxs S}{i:Nat},i<bx.length->zam (bx++bs) i=zam bx i
 |[],_,h=>by simp at h
 |_::_,0,_=>rfl|_::r,i+1,h=>by simpa[zam] using zdR (bx:=r) (by simpa using h)
theorem zo6{c:Cut}{bx0 bx':Bxs S}{t:ElL S c.codes}(hp:Kk bx0 (zhP c bx0 t))(h:Kk (zav c.Kg 0 (zhP c bx0 t)) bx'){i:Nat}{b:Box S}(hi:zam bx0 i=some b):Kept c i bx' b:=by
 have hil:=zb5 hi;cases b with
 |var T cs =>
   by_cases hm:i∈c.Kg.map (·.1)
   ·obtain ⟨cs1,h1,h2⟩:=hp.var i T cs hi;have:=zl8 h h1;simp only[Kept] at this ⊢;rcases this with ⟨g1,cs',g2,g3⟩|⟨g1,_⟩;·exact .inl ⟨g1,cs',g2,g3.trans h2⟩
    ·exact absurd hm g1
   ·have hcon:(c.Kg.map (·.1)).contains i=false:=by
     cases hx:(c.Kg.map (·.1)).contains i with
     |true=>exact absurd (yBz.1 hx) hm|false=>rfl
    have h1:zam (zhP c bx0 t) i=some (.var T (cs.map ziz)):=(by unfold zhP;rw[zdR (by rw[zda,zbD,zdD];exact hil),zhR _ _ _ _ hm,zcz,zbh,hi];simp only[yAg,nr1,Box.calm,bl1,yAJ,hcon,cond_false]);have hl:zam (zav c.Kg 0 (zhP c bx0 t)) i=some (.lk (.var T (cs.map ziz))):=(by rw[zcg,h1];simp only[yAg,lk1,yAJ,hcon,cond_false]);obtain ⟨b',g1,g2⟩:=h.box i _ hl rfl;obtain ⟨x,rfl,g3⟩:=g2.of_lk;exact .inr ⟨hm,x,g1,g3⟩
 |lk b =>obtain ⟨b1,h1,h2⟩:=hp.box i _ hi rfl;obtain ⟨x,rfl,h3⟩:=h2.of_lk;obtain ⟨b',g1,g2⟩:=h.box i (.lk (.lk x)) (by rw[zcg,h1];rfl) rfl;obtain ⟨y,rfl,g3⟩:=g2.of_lk;obtain ⟨z,rfl,g4⟩:=Kv.of_lk g3;exact ⟨z,g1,(h3.trans g4).calm_left⟩
 |ro b =>obtain ⟨b1,h1,h2⟩:=hp.box i _ hi rfl;obtain ⟨x,rfl,h3⟩:=h2.of_ro;obtain ⟨b',g1,g2⟩:=h.box i (.ro x) (by rw[zcg,h1];rfl) rfl;obtain ⟨y,rfl,g3⟩:=g2.of_ro;exact ⟨y,g1,(h3.trans g3).calm_left⟩
 |own=>trivial|wr=>trivial|nst=>trivial|grp=>trivial|gone =>obtain ⟨b1,h1,h2⟩:=hp.box i _ hi rfl;cases b1<;>simp only[Kv] at h2;obtain ⟨b',g1,g2⟩:=h.box i .gone (by rw[zcg,h1];rfl) rfl;exact ⟨b',g1,g2.fixed rfl⟩
theorem zft:∀(n:Nat)(L bx:Bxs S),(unlock n L bx).length=bx.length
 |0,_,_=>by simp[unlock]
 |n+1,[],bx=>by cases bx<;>simp[unlock]
 |n+1,l::L,[]=>by cases l<;>simp[unlock]
 |n+1,l::L,b::bs=>by cases l<;>cases b<;>simp[unlock,zft n L bs]
theorem zdb:∀{n:Nat}{L bx:Bxs S}{i:Nat}{x b:Box S},i<n->zam L i=some (.lk x)->zam bx i=some (.lk b)->zam (unlock n L bx) i=some b
 |n+1,l::L,c::bs,0,x,b,_,h,k=>by simp[zam] at h k;subst h;subst k;rfl
 |n+1,l::L,c::bs,i+1,x,b,hn,h,k=>by have:=zdb (n:=n) (L:=L) (bx:=bs) (i:=i) (by omega) (by simpa[zam] using h) (by simpa[zam] using k);cases l<;>cases c<;>simpa[unlock,zam] using this
 |0,_,_,_,_,_,h,_,_=>by omega
 |_+1,[],_,_,_,_,_,h,_=>by simp[zam] at h
 |_+1,_::_,[],_,_,_,_,_,k=>by simp[zam] at k
theorem zcb:∀{n:Nat}{L bx:Bxs S}{i:Nat}{l b:Box S},zam L i=some l->(∀x,l≠ .lk x)->zam bx i=some b->zam (unlock n L bx) i=some b
 |0,_,_,_,_,_,_,_,k=>by simpa[unlock] using k
 |n+1,l0::L,c::bs,0,l,b,h,hl,k=>by simp[zam] at h k;subst h;subst k;cases l0<;>first|exact absurd rfl (hl _)|(cases c<;>rfl)
 |n+1,l0::L,c::bs,i+1,l,b,h,hl,k=>by have:=zcb (n:=n) (L:=L) (bx:=bs) (i:=i) (by simpa[zam] using h) hl (by simpa[zam] using k);cases l0<;>cases c<;>simpa[unlock,zam] using this
 |_+1,[],_,_,_,_,h,_,_=>by simp[zam] at h
 |_+1,_::_,[],_,_,_,_,_,k=>by simp[zam] at k
theorem Kk.unlock{c:List (Nat×List CTy)}{M bx':Bxs S}(h:Kk (zav c 0 M) bx'):Kk M (unlock M.length (zav c 0 M) bx'):=by
 refine ⟨by rw[zft];have:=h.len;rw[zcN] at this;exact this,λi b hi hf=>?_,λi T cs hi=>?_⟩
 ·have hl:zam (zav c 0 M) i=some (lk1 c i b):=by rw[zcg,hi];simp
  cases b with
  |lk b =>obtain ⟨b',h1,h2⟩:=h.box i _ hl rfl;obtain ⟨x,rfl,h3⟩:=h2.of_lk;exact ⟨x,zdb (zb5 hi) hl h1,h3⟩
  |ro b =>obtain ⟨b',h1,h2⟩:=h.box i _ hl rfl;exact ⟨b',zcb hl (λx hx=>by cases hx) h1,h2⟩
  |gone =>obtain ⟨b',h1,h2⟩:=h.box i _ hl rfl;exact ⟨b',zcb hl (λx hx=>by cases hx) h1,h2⟩
  |_=>simp[fixed] at hf
 ·have hl:zam (zav c 0 M) i=some (lk1 c i (.var T cs)):=by rw[zcg,hi];simp
  cases hc:(c.map (·.1)).contains i with
  |true =>simp only[lk1,hc,cond_true] at hl;obtain ⟨cs',h1,h2⟩:=h.var i T cs hl;exact ⟨cs',zcb hl (λx hx=>by cases hx) h1,h2⟩
  |false =>simp only[lk1,hc,cond_false] at hl;obtain ⟨b',h1,h2⟩:=h.box i _ hl rfl;obtain ⟨x,rfl,h3⟩:=h2.of_lk;obtain ⟨cs',rfl,h4⟩:=Kv.of_var h3;exact ⟨cs',zdb (zb5 hi) hl h1,h4.1.symm⟩
theorem zlJ:∀(l:List (Nat×CTy))(ps:List (PV S))(e:Env S)(i:Nat),i∉l.map (·.1)->zvo (zcm l ps++e) i=zvo e i
 |[],ps,e,i,_=>by cases ps<;>rfl
 |(j,t)::l,[],e,i,_=>rfl|(j,t)::l,p::ps,e,i,h=>by
   simp only[yAn,yAm,not_or] at h;simp only[zcm,yA3,zvo];have:Nat.beq j i=false:=by
    cases hb:Nat.beq j i with
    |true=>exact absurd (yAa hb).symm h.1|false=>rfl
   rw[this];exact zlJ l ps e i h.2
theorem zmp{z:Env S}{l:List (Nat×Nat×U)}{ps:List (PV S)}{e:Env S}{i:Nat}(h:i∉l.map (·.1)):zvo (zcE z l ps++e) i=zvo e i:=by
 rw[zhZ];cases hte:zvo (zcE z l ps) i with
 |none=>rfl|some q =>obtain ⟨n,m,j,u,y,x,k1,_⟩:=zd5 i q hte;exact absurd (yBw.2 ⟨_,yAb k1,rfl⟩) h
theorem Ky.mkEnv(c:Cut)(W:List Nat)(e:Env S)(n:Nat)(t:ElL S c.codes):Ky (W++c.names) e (mkEnv c W e n t):=by intro i p hi hp hr;simp only[Cut.names,yAp,not_or] at hi;unfold Pe.mkEnv;rw[zmp hi.2.2,zlJ _ _ _ _ hi.2.1];exact zjS e [] i p (by simp) (by simp only[yAp,not_or];exact ⟨hi.2.2,hi.1⟩) hp hr
end Pe
end
section
namespace Pe
open Go Go.RowKit
variable{S:Nat->Type}
section
variable{P:Program}{un:Uni S}{E:Wl.Ctx}{D0:Dat}{N:Wl.Fr}{bx:Bxs S}
def Went(P:Program)(un:Uni S)(bx:Bxs S)(ops:List Oper)(o:Oper)(e:Env S)(p:PV S):Prop :=
 ((o.guard=none\/∃d want,zfT ops o=some (d,want)/\zvo e d=some (.bool want))/\Gives P un o (zcr (zcj o.op.operands.toList) e) bx p) \/
 ((∃d want,zfT ops o=some (d,want)/\(zvo e d=some (.bool (!want))\/zvo e d=some zaS))/\p=zaS)
theorem QPath.at{ops l:List Oper}{e e':Env S}(h:QPath P un bx ops l e e'):∀(i:Nat)(o:Oper),l[i]?=some o->∃ei p,
  (∀s,s∉zbi (l.take i)->zvo ei s=zvo e s)/\(∀s,s∉zbi (l.drop i)->zvo ei s=zvo e' s)/\Went P un bx ops o ei p/\∀d,o.dst=some d->d∉zbi (l.drop (i+1))->zvo e' d=some p:=by
 have main:∀{o:Oper}{l:List Oper}{e e':Env S}{p:PV S},QPath P un bx ops (o::l) e e'->QPath P un bx ops l (push o.dst p e) e'->Went P un bx ops o e p ->
   (∀(i:Nat)(q:Oper),l[i]?=some q->∃ei p',(∀s,s∉zbi (l.take i)->zvo ei s=zvo (push o.dst p e) s)/\(∀s,s∉zbi (l.drop i)->zvo ei s=zvo e' s)/\Went P un bx ops q ei p'/\∀d,q.dst=some d->d∉zbi (l.drop (i+1))->zvo e' d=some p') ->
   ∀(i:Nat)(q:Oper),(o::l)[i]?=some q->∃ei p',(∀s,s∉zbi ((o::l).take i)->zvo ei s=zvo e s)/\(∀s,s∉zbi ((o::l).drop i)->zvo ei s=zvo e' s)/\Went P un bx ops q ei p'/\∀d,q.dst=some d->d∉zbi ((o::l).drop (i+1))->zvo e' d=some p':=by
  intro o l e e' p h k hw ih i q hi;cases i with
  |zero =>simp only[List.getElem?_cons_zero,yAf] at hi;subst hi;refine ⟨e,p,λ_ _=>rfl,λs hs=>(h.keep s (by simpa using hs)).symm,hw,λd hd hn=>?_⟩;rw[k.keep d (by simpa using hn),hd];simp[push,zvo]|succ i =>
    obtain ⟨ei,p',h1,h2,h3,h4⟩:=ih i q (by simpa using hi);refine ⟨ei,p',λs hs=>?_,λs hs=>h2 s (by simpa using hs),h3,λd hd hn=>h4 d hd (by simpa using hn)⟩;simp only[yCc,zbi,yAC] at hs;cases hd:o.dst with
    |none=>rw[hd] at hs h1;rw[h1 s hs];rfl|some d=>rw[hd] at hs h1;simp at hs;rw[h1 s (by simpa[zbi] using hs.2),zaM (by simpa using λh=>hs.1 h.symm)]
 induction h with
 |nil=>intro i o h;simp at h
 |@run o l e e' p hg h k ih=>exact main (.run hg h k) k (.inl ⟨hg,h⟩) ih|@shut o l e e' d want hg h k ih=>exact main (.shut hg h k) k (.inr ⟨⟨d,want,hg,h⟩,rfl⟩) ih
theorem Went.congr{ops:List Oper}{o:Oper}{e e2:Env S}{p:PV S}(h:Went P un bx ops o e p)(ha:∀s,s∈o.looksAt ops.toArray->zvo e2 s=zvo e s):Went P un bx ops o e2 p:=by
 have hgs:∀{d want},zfT ops o=some (d,want)->d∈o.looksAt ops.toArray:=λhg=>by obtain ⟨j,h1,h2⟩:=zgE hg;unfold Oper.looksAt;rw[h1];simp only[yAp];right;rw[h2];simp
 rcases h with ⟨hg,h⟩|⟨⟨d,want,h1,h2⟩,h3⟩
 ·refine .inl ⟨hg.imp id λ⟨d,want,g1,g2⟩=>⟨d,want,g1,by rw[ha d (hgs g1)];exact g2⟩,h.sub λi q hq=>?_⟩;rw[zb3] at hq ⊢;split at hq;·rename_i hi;rw[if_pos hi,ha i (by unfold Oper.looksAt;exact yBP _ hi)];exact hq
  ·cases hq
 ·exact .inr ⟨⟨d,want,h1,by rw[ha d (hgs h1)];exact h2⟩,h3⟩
theorem zc0{l:List Oper}{s:Nat}:s∈zbi l↔∃(j:Nat) (o:Oper),l[j]?=some o/\o.dst=some s:=by
 simp only[zbi,yA8];constructor
 ·rintro ⟨o,h1,h2⟩
  obtain ⟨j,hj⟩:=List.mem_iff_getElem?.1 h1;exact ⟨j,o,hj,h2⟩
 ·rintro ⟨j,o,h1,h2⟩
  exact ⟨o,yAb h1,h2⟩
def zeA(ops:List Oper)(i j:Nat):Bool:=match ops[j]? with|some o=>o.after.any λe=>Region.binds .any e&&Nat.beq e.on i|none=>false
theorem zgO{ops:List Oper}(h:zgu ops=true) :
  (∀i o,ops[i]?=some o->∀e∈o.after.toList,Region.binds .any e=true->e.on<i) /\
  ∀i j oi oj,ops[i]?=some oi->ops[j]?=some oj->i≠j->∀d,oi.dst=some d->oj.dst≠some d/\(d∈oj.looksAt ops.toArray->(i<j/\zeA ops i j=true)\/(j<i/\zeA ops j i=true)):=by
 have memz:∀{i:Nat}{o:Oper},ops[i]?=some o->(o,i)∈ops.zipIdx:=λ{i o} hi=>by rw[List.mem_zipIdx_iff_getElem?];exact hi
 unfold zgu at h;simp only[yAd,yAM] at h;obtain ⟨h1,h2⟩:=h;constructor;·intro i o hi e he hb;have:=h1 _ (memz hi);simp only[Array.all_eq_true_iff_forall_mem] at this;have:=this e (by simpa using he);rw[hb] at this;simpa[yAN] using this
 ·intro i j oi oj hi hj hne d hd;have:=h2 _ (memz hi) _ (memz hj);simp only[hd,yBF,yAd] at this;rcases this with this|⟨g1,g2⟩;·exact absurd (yAa this) hne
  ·refine ⟨by simpa using g1,λhm=>?_⟩;rcases g2 with g2|g2;·simp[hm] at g2
   ·cases Ks:Nat.blt i j with
    |true=>rw[Ks] at g2;exact .inl ⟨by simpa[yAN] using Ks,g2⟩|false =>
      rw[Ks] at g2;have:¬i<j:=λh=>by rw[<-yAN] at h;simp[h] at Ks
      exact .inr ⟨by omega,g2⟩
theorem zfH{ops:List Oper}{i j:Nat}(h:zeA ops i j=true):∃o,ops[j]?=some o/\∃e∈o.after.toList,Region.binds .any e=true/\e.on=i:=by
 unfold zeA at h;split at h;·rename_i o ho;refine ⟨o,ho,?_⟩;rw[<-Array.any_toList,yBd] at h;obtain ⟨e,h1,h2⟩:=h;simp only[yAd] at h2;exact ⟨e,h1,h2.1,yAa h2.2⟩
 ·cases h
theorem zcy{ops:Array Oper}{Ki:Array Bool}{i:Nat}:i∈Region.ready .any ops Ki↔i<ops.size/\Ki.getD i true=false/\∃o,ops[i]?=some o/\∀e∈o.after.toList,Region.binds .any e=true->Ki.getD e.on false=true:=by unfold Region.ready;simp only[yAO,yBa,yAd,yA4];refine and_congr_right λhi=>and_congr_right λ_=>?_;rw[yCe hi];simp only[yAg,yB8,yAf,exists_eq_left',<-Array.all_toList,yAM,yBF,yA4];exact forall_congr' λe=>forall_congr' λ_=>by cases Region.binds .any e<;>simp
def unl(n:Nat)(Ki:Array Bool):Nat:=((List.range n).filter λi=> !Ki.getD i true).length
theorem zlo{p q:Nat->Bool}(hpq:∀j,q j=true->p j=true):∀l:List Nat,(l.filter q).length<=(l.filter p).length
 |[]=>yAi _|x::l=>by
   have:=zlo hpq l;simp only[List.filter_cons];cases hq:q x with
   |true=>rw[hpq x hq];simpa using this|false=>cases p x<;>simp<;>omega
theorem zh6{p q:Nat->Bool}(hpq:∀j,q j=true->p j=true){i:Nat}:∀{l:List Nat},i∈l->p i=true->q i=false->(l.filter q).length<(l.filter p).length
 |x::l,hm,hp,hq=>by
   simp only[List.filter_cons];have hle:=zlo hpq l;rcases yAm.1 hm with rfl|hm;·rw[hp,hq];simp;omega
   ·have:=zh6 hpq hm hp hq;cases hqx:q x with
    |true=>rw[hpq x hqx];simp;omega|false=>cases p x<;>simp<;>omega
theorem zsL{p:Nat->Prop}[DecidablePred p]:∀n,(∃i,i<n/\p i)->∃i,i<n/\p i/\∀j,j<i->¬p j:=by
 intro n ⟨i,hi,hp⟩;induction i using Nat.strongRecOn with
 |ind i ih =>
   by_cases hx:∃j,j<i/\p j;·obtain ⟨j,hj,hpj⟩:=hx;exact ih j hj (Nat.lt_trans hj hi) hpj
   ·exact ⟨i,hi,hp,λj hj hpj=>hx ⟨j,hj,hpj⟩⟩
section
variable{ops:Array Oper}
theorem zpl{i j:Nat}(h:edge ops i j=true):∃o,ops[j]?=some o/\∃e∈o.after.toList,Region.binds .any e=true/\e.on=i:=by
 unfold edge at h;split at h;·rename_i o ho;refine ⟨o,ho,?_⟩;rw[<-Array.any_toList,yBd] at h;obtain ⟨e,h1,h2⟩:=h;simp only[yAd] at h2;exact ⟨e,h1,h2.1,yAa h2.2⟩
 ·cases h
theorem ze7{Ki:Array Bool}{i:Nat}(hc:∀k j,edge ops k j=true->Ki.getD j false=true->Ki.getD k false=true):∀{l acc:List Nat},(∀j∈acc,Ki.getD j false=true->Ki.getD i false=true)->∀j∈zdM ops acc l,Ki.getD j false=true->Ki.getD i false=true
 |[],acc,h,j,hj=>h j hj|k::r,acc,h,j,hj=>by
   unfold zdM at hj;cases hk:acc.any λq=>edge ops q k with
   |false=>rw[hk] at hj;exact ze7 hc h j hj|true =>
     rw[hk] at hj;refine ze7 hc (λq hq=>?_) j hj;rcases yAm.1 hq with rfl|hq
     ·intro hl;obtain ⟨z,hz,hz2⟩:=yBd.1 hk;exact h z hz (hc z q hz2 hl)
     ·exact h q hq
theorem ze8{i:Nat}:∀{l acc:List Nat},(∀j∈acc,j=i\/∃k∈acc,edge ops k j=true)->∀j∈zdM ops acc l,j=i\/∃k∈zdM ops acc l,edge ops k j=true
 |[],acc,h,j,hj=>h j hj|q::r,acc,h,j,hj=>by
   unfold zdM at hj ⊢;cases hk:acc.any λz=>edge ops z q with
   |false=>rw[hk] at hj;exact ze8 h j hj|true =>
     rw[hk] at hj;refine ze8 (λz hz=>?_) j hj;rcases yAm.1 hz with rfl|hz
     ·obtain ⟨y,hy,hy2⟩:=yBd.1 hk;exact .inr ⟨y,by simp[hy],hy2⟩
     ·rcases h z hz with h1|⟨k,h1,h2⟩;·exact .inl h1
      ·exact .inr ⟨k,by simp[h1],h2⟩
end
theorem zyT{ops:Array Oper}{m i q:Nat}(h:zy4 ops m=true)(hm:m<=i)(hi:i<ops.size)(hq:q<i){Ki:Array Bool}(hc:∀k j,edge ops k j=true->Ki.getD j false=true->Ki.getD k false=true){o:Oper}(ho:ops[i]?=some o)
  (hr:∀x∈o.after.toList,Region.binds .any x=true->Ki.getD x.on false=true):Ki.getD q false=true:=by
 unfold zy4 at h;rw[yAM] at h;have h1:=h i (by simpa using hi);rw[yBF] at h1;rcases h1 with h1|h1;·rw[yAN] at h1;omega
 ·rw[yAM] at h1;have h2:=h1 q (by simpa using hq);have h3:i∈zdM ops [q] (List.range ops.size):=by simpa using h2
  rcases ze8 (i:=q) (l:=List.range ops.size) (acc:=[q]) (λz hz=>.inl (by simpa using hz)) i h3 with h4|⟨k,h4,h5⟩;·omega
  ·obtain ⟨o',r1,x,r2,r3,r4⟩:=zpl h5;rw[ho] at r1;cases r1;have hk:Ki.getD k false=true:=by rw[<-r4];exact hr x r2 r3
   exact ze7 hc (l:=List.range ops.size) (acc:=[q]) (λz hz hl=>by
    have:z=q:=by simpa using hz
    rw[<-this];exact hl) k h4 hk
theorem zzZ(hmix:P.follows .mixedOrders=true){id:Nat}{ops:Array Oper}{m:Nat}(htl:zy4 ops m=true){e e':Env S}(Q5:zgu ops.toList=true)(h:QPath P un bx ops.toList (ops.toList.take m) e e'){a:Act}{w:World}(hd:∀o∈ops.toList,∀d,o.dst=some d->d<N.n)(hs:Holds un E D0 N e bx a { w with drawn:=w.drawn+1 }){Q:Exit->Act->World->Prop}
  (hk:∀a' w',Holds un E D0 N e' bx a' w'->wpList P ops Q (ops.toList.drop m) a' w'):(Code.region id ops true).wp P Q a w:=by
 obtain ⟨hback,Qq⟩:=zgO Q5;refine wp_region_any hmix ?_;have Kt:∀{Ki:Array Bool}{i:Nat},Ki.size=ops.size->i<ops.size->Ki.getD i true=Ki.getD i false:=λ{Ki i} hsz hi=>by simp[yAv,hsz,hi]
 have Qg:∀{i:Nat}{o:Oper},ops[i]?=some o->i<ops.size:=λh=>(yAE.1 h).1;have Qf:∀{i:Nat}{o:Oper},ops[i]?=some o->ops.toList[i]?=some o:=λh=>by simpa using h
 have noready:∀(Ki:Array Bool),Ki.size=ops.size->Region.ready .any ops Ki=[]->∀i,i<ops.size->Ki.getD i false=true:=by
  intro Ki hsz hr i hi;cases hb:Ki.getD i false with
  |true=>rfl|false =>obtain ⟨k,h1,h2,h3⟩:=zsL (p:=λi=>Ki.getD i false=false) ops.size ⟨i,hi,hb⟩;have:k∈Region.ready .any ops Ki:=zcy.2 ⟨h1,by rw[Kt hsz h1];exact h2,ops[k],by simp[h1],λx hx hbx=>by have Ks:=hback k ops[k] (by simp[h1]) x hx hbx;simpa using h3 _ Ks⟩;rw[hr] at this;cases this
 have hsetd:∀{Ki:Array Bool}{i:Nat},Ki.size=ops.size->i<ops.size->∀j,(Ki.setIfInBounds i true).getD j false=if j=i then true else Ki.getD j false:=λ{Ki i} hsz g1 j=>by
  simp only[yAv,yA1];by_cases hji:i=j;·subst hji;simp[hsz,g1]
  ·rw[if_neg hji,if_neg (Ne.symm hji)]
 have hunl:∀{Ki:Array Bool}{i:Nat}{fuel:Nat},Ki.size=ops.size->i<ops.size->Ki.getD i true=false->unl ops.size Ki<=fuel+1->unl ops.size (Ki.setIfInBounds i true)<=fuel:=λ{Ki i fuel} hsz g1 g2 hf=>by
  have:unl ops.size (Ki.setIfInBounds i true)<unl ops.size Ki:=by
   unfold unl;refine zh6 (λj hj=>?_) (yBa.2 g1) (by rw[g2];rfl) ?_
   ·simp only[yAv,yA1] at hj ⊢;split at hj;·split at hj<;>simp at hj
    ·exact hj
   ·simp[yAv,hsz,g1]
  omega
 have hempty:∀{Ki:Array Bool},unl ops.size Ki<=0->Region.ready .any ops Ki=[]:=λ{Ki} hf=>by
  apply List.eq_nil_iff_forall_not_mem.2;intro i hi;obtain ⟨g1,g2,_⟩:=zcy.1 hi;have:i∈(List.range ops.size).filter λi=> !Ki.getD i true:=by simp only[yAO,yBa];exact ⟨g1,by rw[g2];rfl⟩
  have h0:((List.range ops.size).filter λi=> !Ki.getD i true)=[]:=yAU.1 (Nat.le_zero.1 hf);rw[h0] at this;cases this
 have T:∀(fuel j:Nat)(Ki:Array Bool)(a:Act)(w:World),Ki.size=ops.size->unl ops.size Ki<=fuel->m<=j->(∀q,q<ops.size->(Ki.getD q false=true↔q<j))->wpList P ops Q (ops.toList.drop j) a w->wpAny P .any ops Q fuel Ki a w:=by
  have done:∀{j:Nat}{Ki:Array Bool}{a:Act}{w:World},Ki.size=ops.size->(∀q,q<ops.size->(Ki.getD q false=true↔q<j))->wpList P ops Q (ops.toList.drop j) a w->Region.ready .any ops Ki=[]->Q .normal a w:=by
   intro j Ki a w hsz hl hw hr;have hj:ops.size<=j:=by
    rcases yAT j ops.size with h|h;·exact absurd ((hl j h).1 (noready Ki hsz hr j h)) (Nat.lt_irrefl _)
    ·exact h
   rw[yBm (by simpa using hj)] at hw;exact hw
  intro fuel;induction fuel with
  |zero =>intro j Ki a w hsz hf hmj hl hw;exact ⟨hempty hf,done hsz hl hw (hempty hf)⟩
  |succ fuel ih =>
    intro j Ki a w hsz hf hmj hl hw;refine ⟨λhr=>done hsz hl hw hr,λi hi=>?_⟩;obtain ⟨g1,g2,o,g3,g4⟩:=zcy.1 hi;have g2':Ki.getD i false=false:=by rw[<-Kt hsz g1];exact g2
    have hij:i=j:=by
     have h1:¬i<j:=λh=>by rw[(hl i g1).2 h] at g2';cases g2'
     rcases yAT j i with h|h
     ·have hsm:∀q,Ki.getD q false=true->q<ops.size:=λq hq=>by
       rcases yAT q ops.size with h' | h';·exact h'
       ·simp[yAv,hsz,h'] at hq
      have:=(hl j (by omega)).1 (zyT htl (show m<=i by omega) g1 h (λk j' hk hj'=>by have hj2:=hsm j' hj';obtain ⟨o',r1,x,r2,r3,r4⟩:=zpl hk;have:=hback j' o' (Qf r1) x r2 r3;exact (hl k (by omega)).2 (by have:=(hl j' hj2).1 hj';omega)) g3 g4);omega
     ·omega
    subst hij;have hdrop:ops.toList.drop i=o::ops.toList.drop (i+1):=by rw[yAV (by simpa using g1)];congr 1;have:=Qf g3;rw[yAe (by simpa using g1)] at this;exact yAS this
    rw[hdrop] at hw;unfold wpList at hw;have next:∀a' w',wpList P ops Q (ops.toList.drop (i+1)) a' w'->wpAny P .any ops Q fuel (Ki.setIfInBounds i true) a' w':=λa' w' h=>by
     refine ih (i+1) _ a' w' (by simpa using hsz) (hunl hsz g1 g2 hf) (by omega) (λq hq=>?_) h;rw[hsetd hsz g1];split;·rename_i hqi;subst hqi;simp
     ·rename_i hqi;rw[hl q hq];omega
    unfold wpOp;rw[g3];simp only;split at hw;·rename_i hw';rw[if_pos hw'];exact hw.imp (λh=>Oper.wp_mono next h) λh=>h
    ·rename_i hw';rw[if_neg hw'];exact next _ _ hw
 have sub_get':∀{q:Nat}{oq:Oper},(ops.toList.take m)[q]?=some oq->ops.toList[q]?=some oq:=λ{q oq} hq=>by
  rw[yAD] at hq;split at hq;·exact hq
  ·cases hq
 have sub_get:∀{q:Nat}{oq:Oper},(ops.toList.take m)[q]?=some oq->ops[q]?=some oq:=λhq=>by simpa using sub_get' hq
 have key:∀(fuel:Nat)(Ki:Array Bool)(cur:Env S)(a:Act)(w:World),Ki.size=ops.size->unl ops.size Ki<=fuel ->
   (∀j o,ops[j]?=some o->Ki.getD j false=true->∀x∈o.after.toList,Region.binds .any x=true->Ki.getD x.on false=true) ->
   (∀s j o,ops[j]?=some o->o.dst=some s->Ki.getD j false=true->zvo cur s=zvo e' s) ->
   (∀s,(∀j o,ops[j]?=some o->o.dst=some s->Ki.getD j false=false)->zvo cur s=zvo e s) ->
   (∀q,m<=q->Ki.getD q false=false)->Holds un E D0 N cur bx a w->wpAny P .any ops Q fuel Ki a w:=by
  have fin:∀{fuel:Nat}{Ki:Array Bool}{cur:Env S}{a:Act}{w:World},Ki.size=ops.size->unl ops.size Ki<=fuel->(∀q,q<m->q<ops.size->Ki.getD q false=true) ->
   (∀s j o,ops[j]?=some o->o.dst=some s->Ki.getD j false=true->zvo cur s=zvo e' s) ->
   (∀s,(∀j o,ops[j]?=some o->o.dst=some s->Ki.getD j false=false)->zvo cur s=zvo e s)->(∀q,m<=q->Ki.getD q false=false) ->
   Holds un E D0 N cur bx a w->wpAny P .any ops Q fuel Ki a w:=by
   intro fuel Ki cur a w hsz hf hall hL hU Qw hH;refine T fuel m Ki a w hsz hf (yAi _) (λq hq=>⟨λh=>?_,λh=>hall q h hq⟩) (hk a w (hH.sub λs p hp=>?_))
   ·rcases yAT q m with h' | h';·exact h'
    ·rw[Qw q h'] at h;cases h
   ·by_cases hm:s∈zbi (ops.toList.take m)
    ·obtain ⟨j,o,h1,h2⟩:=zc0.1 hm;rw[yAD] at h1;split at h1
     ·rename_i hjm;have h1':ops[j]?=some o:=by simpa using h1
      rw[hL s j o h1' h2 (hall j hjm (Qg h1'))];exact hp
     ·cases h1
    ·rw[hU s λj o h1 h2=>?_,<-h.keep s hm];·exact hp
     ·rcases yAT j m with hjm|hjm;·exact absurd (zc0.2 ⟨j,o,by rw[yAD,if_pos hjm];exact Qf h1,h2⟩) hm
      ·exact Qw j hjm
  intro fuel;induction fuel with
  |zero =>intro Ki cur a w hsz hf hc hL hU Qw hH;exact fin hsz hf (λq _ hq=>noready Ki hsz (hempty hf) q hq) hL hU Qw hH
  |succ fuel ih =>
    intro Ki cur a w hsz hf hc hL hU Qw hH;by_cases hall:∀q,q<m->q<ops.size->Ki.getD q false=true;·exact fin hsz hf hall hL hU Qw hH
    refine ⟨λhr=>(hall λq _ hq=>noready Ki hsz hr q hq).elim,λi hi=>?_⟩;obtain ⟨g1,g2,o,g3,g4⟩:=zcy.1 hi;have g2':Ki.getD i false=false:=by rw[<-Kt hsz g1];exact g2
    have him:i<m:=by
     rcases yAT i m with h' | h';·exact h'
     ·exfalso;refine hall λq hqm hq=>?_;exact zyT htl h' g1 (show q<i by omega) (λk j' hk hj'=>by obtain ⟨o',r1,x,r2,r3,r4⟩:=zpl hk;rw[<-r4];exact hc j' o' r1 hj' x r2 r3) g3 g4
    have Qi:=hsetd hsz g1;have htk:(ops.toList.take m)[i]?=some o:=(by rw[yAD,if_pos him];exact Qf g3);obtain ⟨ei,p,k1,k2,k3,k4⟩:=h.at i o htk;have hcur:∀s,s∈o.looksAt ops->zvo cur s=zvo ei s:=by
     intro s hs;by_cases hx:∃j oj,ops[j]?=some oj/\oj.dst=some s/\j≠i
     ·obtain ⟨j,oj,q1,q2,q3⟩:=hx;obtain ⟨_,q4⟩:=Qq j i oj o (Qf q1) (Qf g3) q3 s q2;have uniq:∀j' oj',ops[j']?=some oj'->oj'.dst=some s->j'=j:=λj' oj' u1 u2=>by
       by_cases hne:j'=j;·exact hne
       ·exact absurd q2 (Qq j' j oj' oj (Qf u1) (Qf q1) hne s u2).1
      rcases q4 (by simpa using hs) with ⟨q5,q6⟩|⟨q5,q6⟩
      ·obtain ⟨o',r1,x,r2,r3,r4⟩:=zfH q6;have:o'=o:=by have:=Qf g3;rw[r1] at this;cases this;rfl
       subst this;have hlj:Ki.getD j false=true:=by rw[<-r4];exact g4 x r2 r3
       rw[hL s j oj q1 q2 hlj];refine (k2 s λhm=>?_).symm;obtain ⟨j',oj',u1,u2⟩:=zc0.1 hm;rw[yAu] at u1;have:=uniq _ oj' (sub_get u1) u2;omega
      ·obtain ⟨o',r1,x,r2,r3,r4⟩:=zfH q6;have:o'=oj:=by have:=Qf q1;rw[r1] at this;cases this;rfl
       subst this;have hlj:Ki.getD j false=false:=by
        cases hb:Ki.getD j false with
        |false=>rfl|true=>have:=hc j o' q1 hb x r2 r3;rw[r4,g2'] at this;cases this
       rw[hU s λj' oj' u1 u2=>by rw[uniq j' oj' u1 u2];exact hlj];refine (k1 s λhm=>?_).symm;obtain ⟨j',oj',u1,u2⟩:=zc0.1 hm;rw[yAD] at u1;split at u1;·have:=uniq _ oj' (sub_get u1) u2;omega
       ·cases u1
     ·have hno:∀j oj,ops[j]?=some oj->oj.dst=some s->j=i:=λj oj u1 u2=>by
       by_cases hne:j=i;·exact hne
       ·exact absurd ⟨j,oj,u1,u2,hne⟩ hx
      rw[hU s λj oj u1 u2=>by rw[hno j oj u1 u2];exact g2'];refine (k1 s λhm=>?_).symm;obtain ⟨j',oj',u1,u2⟩:=zc0.1 hm;rw[yAD] at u1;split at u1;·have:=hno _ oj' (sub_get u1) u2;omega
      ·cases u1
    have hdo:∀d,o.dst=some d->d<N.n:=hd o (yAb (Qf g3));have Qn:∀a' w',Holds un E D0 N (push o.dst p cur) bx a' w'->wpAny P .any ops Q fuel (Ki.setIfInBounds i true) a' w':=by
     intro a' w' hH';refine ih _ _ a' w' (by simpa using hsz) (hunl hsz g1 g2 hf) ?_ ?_ ?_ (λq hq=>by rw[Qi,if_neg (by omega)];exact Qw q hq) hH'
     ·intro j oj u1 u2 x u3 u4;rw[Qi] at u2 ⊢;split at u2;·rename_i hji;subst hji;rw[g3] at u1;cases u1;rw[g4 x u3 u4];split<;>rfl
      ·rw[hc j oj u1 u2 x u3 u4];split<;>rfl
     ·intro s j oj u1 u2 u3;rw[Qi] at u3;by_cases hji:j=i
      ·subst hji;rw[g3] at u1;cases u1;rw[k4 s u2 λhm=>by
        obtain ⟨j',oj',v1,v2⟩:=zc0.1 hm;rw[yAu] at v1;exact absurd v2 (Qq j (j+1+j') o oj' (Qf g3) (sub_get' v1) (by omega) s u2).1]
       rw[u2];simp[push,zvo]
      ·rw[if_neg hji] at u3;have hne:o.dst≠some s:=λhx=>(Qq j i oj o (Qf u1) (Qf g3) hji s u2).1 hx;rw[zaM hne];exact hL s j oj u1 u2 u3
     ·intro s hall;have hne:o.dst≠some s:=λhx=>by have:=hall i o g3 hx;rw[Qi,if_pos rfl] at this;cases this
      rw[zaM hne];exact hU s λj oj u1 u2=>by
       have:=hall j oj u1 u2;rw[Qi] at this;split at this;·cases this
       ·exact this
    unfold wpOp;rw[g3];simp only;have k3':=k3.congr (e2:=cur) (λs hs=>hcur s (by simpa using hs));rcases k3' with ⟨hg,hgv⟩|⟨⟨d,want,m1,m2⟩,m3⟩
    ·have hw:Region.wanted o (yielded ops a.tmps)=true:=by
      rcases hg with hg|⟨d,want,m1,m2⟩;·simp[Region.wanted,hg]
      ·simpa using zgd m1 hH m2
     rw[if_pos hw];exact .inl (zb4 (hgv.sub (zkE _ _)) hdo hH Qn)
    ·have hw:Region.wanted o (yielded ops a.tmps)=false:=(by simpa using zfs m1 hH m2);rw[hw,if_neg (by simp)];subst m3;exact Qn _ _ (hH.undef hdo)
 refine key ops.size _ e a _ (by simp) ?_ ?_ ?_ ?_ (λq _=>by simp[yAv,yBD];split<;>simp) hs;·exact yAo (yA0 _ _) (by simp)
 ·intro j o _ hj;simp[yAv,yBD] at hj;split at hj<;>simp at hj
 ·intro s j o _ _ hj;simp[yAv,yBD] at hj;split at hj<;>simp at hj
 ·intro s _;rfl
theorem zth(hmix:P.follows .mixedOrders=true){id:Nat}{ops:Array Oper}{e e':Env S}(Q5:zgu ops.toList=true)(h:QPath P un bx ops.toList ops.toList e e'){a:Act}{w:World}(hd:∀o∈ops.toList,∀d,o.dst=some d->d<N.n)(hs:Holds un E D0 N e bx a { w with drawn:=w.drawn+1 }){Q:Exit->Act->World->Prop}
  (hk:∀a' w',Holds un E D0 N e' bx a' w'->Q .normal a' w'):(Code.region id ops true).wp P Q a w:=by
 have hl:ops.toList.take ops.size=ops.toList:=by rw[<-Array.length_toList,List.take_length]
 have hl2:ops.toList.drop ops.size=[]:=by rw[<-Array.length_toList,List.drop_length]
 have htl:zy4 ops ops.size=true:=by
  unfold zy4;rw[yAM];intro j hj;have h2:Nat.blt j ops.size=true:=by rw[yAN];simpa using hj
  rw[h2];rfl
 refine zzZ (m:=ops.size) hmix htl Q5 (by rw[hl];exact h) hd hs λa' w' hh=>?_;rw[hl2];exact hk a' w' hh
end
end Pe
end
section
namespace Pe
open Go Go.RowKit
variable{S:Nat->Type}
theorem zd9{R:Type}(x:Option R):same x x=x:=by unfold same;rw[if_pos rfl]
section
variable{P:Program}{un:Uni S}{tb:Tb S}{orc:Orc S}{inl:Inl S}{E:Wl.Ctx}{D0:Dat}{N:Wl.Fr}{R:Type}{r:R}{Q:Exit->Act->World->Prop}
theorem zpE{v want:Bool}(h:znk v want=true):v=want:=by cases v<;>cases want<;>simp_all [znk]
theorem zod{v want:Bool}(h:znk v want=false):v= !want:=by cases v<;>cases want<;>simp_all [znk]
theorem Known.kill{kn:List (Nat×Bool)}{e e':Env S}(h:Known kn e)(hp:Ky [] e e'):Known kn e':=λd v hv=>hp d _ (by simp) (h d v hv) rfl
theorem zqN(Kq:Kx un)(ht:Qc P un tb)(hor:K4 P un orc)(Kt:Qe P un inl){ops:List Oper}{KX:Exit->Env S->Bxs S->Option R}:∀(n:Nat)(kn:List (Nat×Bool))(l:List Oper)(e:Env S)(bx:Bxs S)(K:Env S->Bxs S->Option R){a:Act}{w:World},zfn un tb orc inl ops KX n kn l e bx K=some r->Known kn e->(∀o∈l,∀d,o.dst=some d->d<N.n)->Holds un E D0 N e bx a w ->
  (∀e' bx',K e' bx'=some r->Ky (zbi l) e e'->Kk bx bx'->∀a' w',Holds un E D0 N e' bx' a' w'->Q .normal a' w') ->
  (∀x e' bx',KX x e' bx'=some r->Ky (zbi l) e e'->Kk bx bx'->∀a' w',Holds un E D0 N e' bx' a' w'->Q x a' w')->wpList P ops.toArray Q l a w:=by
 intro n;induction n with
 |zero =>
   intro kn l e bx K a w h hkn hd hs hk hkx;cases l with
   |nil=>simp only[zfn] at h;exact wpList_nil (hk e bx h (Ky.refl _ _) (Kk.refl _) a w hs)|cons o l=>simp[zfn] at h
 |succ n ih =>
   intro kn l e bx K a w h hkn hd hs hk hkx;cases l with
   |nil=>simp only[zfn] at h;exact wpList_nil (hk e bx h (Ky.refl _ _) (Kk.refl _) a w hs)|cons o l =>
     have Qa:∀i,i∈zbi l->i∈zbi (o::l):=λi hi=>by
      simp only[zbi,yAC];cases o.dst<;>simp[zbi] at hi ⊢;·exact hi
      ·exact .inr hi
     have pr:∀{e1 e2:Env S}{p:PV S},Ky [] e e1->Ky (zbi l) (push o.dst p e1) e2->Ky (zbi (o::l)) e e2:=λ{e1 e2 p} hp hp2=>by
      refine ((hp.trans (Ky.push [] e1 o.dst p)).trans hp2).mono λi hi=>?_;simp only[yBb,yAp] at hi;rcases hi with hi|hi
      ·simp only[zbi,yAC];cases ho:o.dst<;>rw[ho] at hi<;>simp at hi ⊢;exact .inl hi
      ·exact Qa i hi
     have run:zpS un tb orc inl o e bx (λp e' bx'=>zfn un tb orc inl ops KX n (zdX o.dst kn) l (push o.dst p e') bx' K) KX=some r->Region.wanted o (yielded ops.toArray a.tmps)=true->wpList P ops.toArray Q (o::l) a w:=by
      intro h hw;refine wpList_step λK' hK'=>?_;rw[if_pos hw]
      exact zjF Kq ht hor Kt h (hd o (by simp)) hs (λp e1 bx1 h1 hp hb a' w' h2=>hK' a' w' (ih _ l _ _ K h1 ((hkn.kill hp).push o.dst p) (λo ho=>hd o (by simp[ho])) h2 (λe2 bx2 h3 hp2 hb2 a2 w2 h4=>hk e2 bx2 h3 (pr hp hp2) (hb.trans hb2) a2 w2 h4) λx e2 bx2 h3 hp2 hb2 a2 w2 h4=>hkx x e2 bx2 h3 (pr hp hp2) (hb.trans hb2) a2 w2 h4))
       λx e' bx' h1 hp hb=>hkx x e' bx' h1 (hp.mono λi hi=>by cases hi) hb
     have shut:zfn un tb orc inl ops KX n (zdX o.dst kn) l (push o.dst zaS e) bx K=some r->Region.wanted o (yielded ops.toArray a.tmps)=false->wpList P ops.toArray Q (o::l) a w:=(by intro h hw;refine wpList_step λK' hK'=>?_;rw[hw,if_neg (by simp)];exact hK' _ _ (ih _ l _ _ K h (hkn.push o.dst zaS) (λo ho=>hd o (by simp[ho])) (hs.undef (hd o (by simp))) (λe2 bx2 h3 hp2 hb2 a2 w2 h4=>hk e2 bx2 h3 (pr (Ky.refl _ _) hp2) hb2 a2 w2 h4) λx e2 bx2 h3 hp2 hb2 a2 w2 h4=>hkx x e2 bx2 h3 (pr (Ky.refl _ _) hp2) hb2 a2 w2 h4));unfold zfn at h;split at h;·rename_i hg;exact run h (by simp[Region.wanted,hg])
     ·split at h;·cases h
      ·rename_i d want hgs;split at h
       ·rename_i v hv;have hlk:=hkn d v hv;cases hb:znk v want with
        |true =>rw[hb] at h;have:=zpE hb;subst this;exact run h (by simpa using zgd hgs hs hlk)
        |false =>rw[hb] at h;have:=zod hb;subst this;exact shut h (by simpa using zfs hgs hs (.inl hlk))
       ·split at h;·rename_i hlk;exact shut h (by simpa using zfs hgs hs (.inr hlk))
        ·rename_i b hlk;have one:∀b',b=b'->zfn un tb orc inl ops KX n ((d,b')::kn) (o::l) ((d,.bool b')::e) bx K=some r->wpList P ops.toArray Q (o::l) a w:=by
          rintro b' rfl h
          have Qr:Sub ((d,.bool b)::e) e:=by
           intro i p hp;simp only[zvo] at hp;cases hb:Nat.beq d i with
           |true=>rw[hb] at hp;simp at hp;subst hp;rw[<-yAa hb];exact hlk|false=>rw[hb] at hp;exact hp
          have hpr:∀{e2:Env S},Ky (zbi (o::l)) ((d,.bool b)::e) e2->Ky (zbi (o::l)) e e2:=λ{e2} hp i p hi hl hr=>by
           refine hp i p hi ?_ hr;simp only[zvo];cases hb:Nat.beq d i with
           |true=>have:=yAa hb;subst this;rw[hlk] at hl;exact hl
           |false=>exact hl
          refine ih _ _ _ _ K h (λi u hu=>?_) hd (hs.sub Qr) (λe2 bx2 h3 hp2 hb2 a2 w2 h4=>hk e2 bx2 h3 (hpr hp2) hb2 a2 w2 h4) λx e2 bx2 h3 hp2 hb2 a2 w2 h4=>hkx x e2 bx2 h3 (hpr hp2) hb2 a2 w2 h4;simp only[zdo,zvo] at hu ⊢;cases hb:Nat.beq d i with
          |true=>rw[hb] at hu;simp at hu;subst hu;rfl|false=>rw[hb] at hu;exact hkn i u hu
         rcases zkc h with ⟨hb,h⟩|⟨hb,h⟩;·exact one true hb h
         ·exact one false hb h
        ·cases h
end
end Pe
end
section
namespace Pe
open Go Go.RowKit
variable{S:Nat->Type}
section
variable{P:Program}{un:Uni S}{tb:Tb S}{orc:Orc S}{inl:Inl S}{E:Wl.Ctx}{D0:Dat}{N:Wl.Fr}{R:Type}{r:R}{Q:Exit->Act->World->Prop}{ops:Array Oper}
theorem zjv{o:Oper}{t:Nat}(h:t∈zcj o.op.operands.toList):t∈o.looksAt ops:=by unfold Oper.looksAt;exact yBP _ h
end
end Pe
end
