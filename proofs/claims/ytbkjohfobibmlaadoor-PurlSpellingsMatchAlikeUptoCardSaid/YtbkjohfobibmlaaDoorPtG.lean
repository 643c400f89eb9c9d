/- PROVED HERE: a part of the seat's proofs; see the text that holds the claim's theorem. -/
import Derived.Test.YtbkjohfobibmlaaDoorNm
import Derived.Test.YtbkjohfobibmlaaDoorPeE
import Derived.Test.YtbkjohfobibmlaaDoorPtF
section
/- Sets that are kept in the keys' order, and rounds over their elements in whatever order. -/
namespace Pe
section
variable{K:Type}{eq lt:K->K->Bool}
structure KOrd (eq lt:K->K->Bool):Prop where
 eq_iff:∀x y,eq x y=true↔x=y
 irr:∀x,lt x x=false
 tr:∀x y z,lt x y=true->lt y z=true->lt x z=true
 tot:∀x y,lt x y=false->lt y x=false->x=y
abbrev zat(l:List (K×Bool)):List K:=l.map (·.1)
structure IsSet (lt:K->K->Bool) (l:List (K×Bool)):Prop where
 ord:l.Pairwise λa b=>lt a.1 b.1=true
 all:∀e∈l,e.2=true
theorem IsSet.nil:IsSet lt ([]:List (K×Bool)):=⟨.nil,λ_ h=>by cases h⟩
theorem KOrd.ne(h:KOrd eq lt){x y:K}(hn:¬x=y):eq x y=false:=by
 cases he:eq x y with
 |false=>rfl|true=>exact absurd ((h.eq_iff x y).1 he) hn
theorem zgU(h:KOrd eq lt)(x:K):∀l:List (K×Bool),zh4 eq x l=true↔x∈zat l
 |[]=>by simp[zh4]
 |(k,v)::r=>by
   unfold zh4;by_cases hk:x=k;·subst hk;rw[(h.eq_iff x x).2 rfl];simp
   ·rw[h.ne hk,cond_false,zgU h x r];simp[hk]
theorem zhr(h:KOrd eq lt)(x:K):∀l:List (K×Bool),(∀e∈l,e.2=true)->x∈zat l->mput eq x true l=l
 |[],_,hx=>by simp at hx
 |(k,v)::r,hv,hx=>by
   unfold mput;by_cases hk:x=k;·subst hk;rw[(h.eq_iff x x).2 rfl];have:v=true:=hv (x,v) (by simp);rw[this];rfl
   ·rw[h.ne hk,cond_false,zhr h x r (λe he=>hv e (by simp[he])) (by simpa[hk] using hx)]
theorem zjc{x:K}{e:K×Bool}:∀l:List (K×Bool),e∈zog lt x true l↔e=(x,true)\/e∈l
 |[]=>by simp[zog]
 |(k,v)::r=>by
   unfold zog;cases lt x k with
   |true=>simp|false =>simp only[cond_false,yAm,zjc r];exact or_left_comm
theorem zmh(h:KOrd eq lt){x:K}:∀l:List (K×Bool),IsSet lt l->x∉zat l->IsSet lt (zog lt x true l)
 |[],_,_=>⟨by simp[zog],by simp[zog]⟩|(k,v)::r,hl,hx=>by
   have hp:=yBo.1 hl.ord;have hr:IsSet lt r:=⟨hp.2,λe he=>hl.all e (by simp[he])⟩;unfold zog;cases hk:lt x k with
   |true =>
     refine ⟨yBo.2 ⟨λe he=>?_,hl.ord⟩,λe he=>?_⟩
     ·rcases yAm.1 he with rfl|he;·exact hk
      ·exact h.tr _ _ _ hk (hp.1 e he)
     ·rcases yAm.1 he with rfl|he;·rfl
      ·exact hl.all e he
   |false =>
     simp only[yAk,yAm,not_or] at hx;have ih:=zmh h r hr hx.2;refine ⟨yBo.2 ⟨λe he=>?_,ih.ord⟩,λe he=>?_⟩
     ·rcases (zjc r).1 he with rfl|he
      ·cases hk2:lt k x with
       |true=>rfl|false=>exact absurd (h.tot _ _ hk hk2) hx.1
      ·exact hp.1 e he
     ·rcases yAm.1 he with rfl|he;·exact hl.all _ (by simp)
      ·exact ih.all e he
abbrev zju(eq lt:K->K->Bool)(x:K)(l:List (K×Bool)):List (K×Bool):=zhs eq lt x true l
theorem zdS(h:KOrd eq lt)(x:K){l:List (K×Bool)}(hl:IsSet lt l):IsSet lt (zju eq lt x l):=by
 unfold zju zhs;cases hm:zh4 eq x l with
 |true=>rw[cond_true,zhr h x l hl.all ((zgU h x l).1 hm)];exact hl|false=>exact zmh h l hl λhx=>by rw[(zgU h x l).2 hx] at hm;cases hm
theorem zer(h:KOrd eq lt)(x y:K){l:List (K×Bool)}(hl:IsSet lt l):y∈zat (zju eq lt x l)↔y=x\/y∈zat l:=by
 unfold zju zhs;cases hm:zh4 eq x l with
 |true =>have hx:=(zgU h x l).1 hm;rw[cond_true,zhr h x l hl.all hx];exact ⟨.inr,λh=>h.elim (λe=>e▸hx) id⟩
 |false =>
   simp only[cond_false,zat,yAJ,zjc];constructor
   ·rintro ⟨e,rfl|he,rfl⟩
    ·exact .inl rfl
    ·exact .inr ⟨e,he,rfl⟩
   ·rintro (rfl|⟨e,he,rfl⟩)
    ·exact ⟨_,.inl rfl,rfl⟩
    ·exact ⟨e,.inr he,rfl⟩
theorem zdJ(h:KOrd eq lt)(x:K):∀l:List (K×Bool),(∀e∈l,e.2=true)->(zfp eq x false l=true↔x∈zat l)
 |[],_=>by simp[zfp]
 |(k,v)::r,hv=>by
   unfold zfp;by_cases hk:x=k;·subst hk;rw[(h.eq_iff x x).2 rfl,cond_true,show v=true from hv (x,v) (by simp)];simp
   ·rw[h.ne hk,cond_false,zdJ h x r λe he=>hv e (by simp[he])];simp[hk]
theorem zfV(h:KOrd eq lt):∀{a b:List (K×Bool)},IsSet lt a->IsSet lt b->(∀y,y∈zat a↔y∈zat b)->a=b
 |[],[],_,_,_=>rfl|[],y::b,_,_,hm=>absurd ((hm y.1).2 (by simp)) (by simp)|x::a,[],_,_,hm=>absurd ((hm x.1).1 (by simp)) (by simp)|x::a,y::b,ha,hb,hm=>by
   have pa:=yBo.1 ha.ord;have pb:=yBo.1 hb.ord;have above:∀{z:K×Bool}{l:List (K×Bool)},(∀e∈l,lt z.1 e.1=true)->∀k∈zat l,lt z.1 k=true:=λhl k hk=>by obtain ⟨e,he,rfl⟩:=yAJ.1 hk;exact hl e he
   have hk:x.1=y.1:=by
    have h1:x.1=y.1\/x.1∈zat b:=(by simpa using (hm x.1).1 (by simp));have h2:y.1=x.1\/y.1∈zat a:=(by simpa using (hm y.1).2 (by simp));rcases h1 with h1|h1;·exact h1
    ·rcases h2 with h2|h2;·exact h2.symm
     ·have e1:=above pb.1 _ h1;have e2:=above pa.1 _ h2;have:=h.tr _ _ _ e1 e2;rw[h.irr] at this;cases this
   have hxy:x=y:=Prod.ext hk ((ha.all x (by simp)).trans (hb.all y (by simp)).symm);subst hxy;refine congrArg _ (zfV h ⟨pa.2,λe he=>ha.all e (by simp[he])⟩ ⟨pb.2,λe he=>hb.all e (by simp[he])⟩ λk=>?_);have:=hm k;simp only[zat,yAk,yAm] at this;by_cases hkx:k=x.1
   ·subst hkx;constructor;·intro hk2;have:=above pa.1 _ hk2;rw[h.irr] at this;cases this
    ·intro hk2;have:=above pb.1 _ hk2;rw[h.irr] at this;cases this
   ·simpa[hkx] using this
end
section
variable{κ σ R:Type}{f:κ->List κ->σ->Option (σ⊕R)}{g:σ->Option (σ⊕R)}
theorem zjY{l:List κ}{s:σ}{r:R}(hq:∀y p q s,f y p s=f y q s)(h:∀p:List κ,p.Perm l->zjR f g p s=some r):zdk f g l s=some r:=by have hd:(∀y p q s,f y p s=f y q s)/\∃r,∀p:List κ,p.Perm l->zjR f g p s=some r:=⟨hq,r,h⟩;unfold zdk;rw[dif_pos hd];exact ((Classical.choose_spec hd.2 l (List.Perm.refl l)).symm.trans (h l (List.Perm.refl l)))
theorem zjQ(st:σ->κ->σ)(I:σ->Prop)(out:σ->R)(hg:∀s,I s->g s=some (.inr (out s))):∀(p:List κ),(∀y∈p,∀q s,I s->f y q s=some (.inl (st s y))/\I (st s y))->∀s,I s->zjR f g p s=some (out (p.foldl st s))
 |[],_,s,hs=>by simp only[zjR,hg s hs,List.foldl_nil]
 |y::p,h,s,hs=>by obtain ⟨h1,h2⟩:=h y (by simp) p s hs;simp only[zjR,h1,yBA];exact zjQ st I out hg p (λz hz=>h z (by simp[hz])) _ h2
theorem zeP{l:List κ}{s:σ}(st:σ->κ->σ)(I:σ->Prop)(out:σ->R)(hq:∀y p q s,f y p s=f y q s)(hg:∀s,I s->g s=some (.inr (out s)))
  (h:∀y∈l,∀q s,I s->f y q s=some (.inl (st s y))/\I (st s y)) (hs:I s) (hp:∀p:List κ,p.Perm l->out (p.foldl st s)=out (l.foldl st s)):zdk f g l s=some (out (l.foldl st s)) :=
 zjY hq λp hpl=>by rw[zjQ st I out hg p (λy hy=>h y (hpl.mem_iff.1 hy)) s hs,hp p hpl]
theorem zlN(e:κ->Bool)(a b:R)(s:σ)(hg:g s=some (.inr b)):∀(p:List κ),(∀y∈p,∀q,f y q s=bif e y then some (.inr a) else some (.inl s))->zjR f g p s=some (bif p.any e then a else b)
 |[],_=>by simp[zjR,hg]
 |y::p,h=>by
   simp only[zjR,h y (by simp)];cases he:e y with
   |true=>simp[he]|false=>simp only[cond_false,yB8,he,Bool.false_or];exact zlN e a b s hg p λz hz=>h z (by simp[hz])
theorem zpQ{e:κ->Bool}{p l:List κ}(h:p.Perm l):p.any e=l.any e:=by
 cases hl:l.any e with
 |true=>obtain ⟨x,hx,he⟩:=yA9.1 hl;exact yA9.2 ⟨x,h.mem_iff.2 hx,he⟩
 |false =>rw[yBu] at hl ⊢;exact λx hx=>hl x (h.mem_iff.1 hx)
theorem zmQ{l:List κ}(e:κ->Bool)(a b:R)(s:σ)(hq:∀y p q s,f y p s=f y q s)(hg:g s=some (.inr b))(h:∀y∈l,∀q,f y q s=bif e y then some (.inr a) else some (.inl s)):zdk f g l s=some (bif l.any e then a else b) :=
 zjY hq λp hp=>by rw[zlN e a b s hg p λy hy=>h y (hp.mem_iff.1 hy),zpQ hp]
end
end Pe
end
section
/- The spots of a pattern: sets of them, and what is reached zbo a sign. -/
set_option maxRecDepth 100000
namespace Pe
section
variable{K κ:Type}{eq lt:K->K->Bool}
def zoR(eq lt:K->K->Bool)(z:Option K)(s:List (K×Bool)):List (K×Bool):=match z with
 |some z=>zju eq lt z s|none=>s
theorem zfA(h:KOrd eq lt)(F:κ->Option K):∀(p:List κ)(s:List (K×Bool)),IsSet lt s ->
  IsSet lt (p.foldl (λs y=>zoR eq lt (F y) s) s)/\∀z,z∈zat (p.foldl (λs y=>zoR eq lt (F y) s) s)↔z∈zat s\/∃y∈p,F y=some z
 |[],s,hs=>by simp[hs]
 |y::p,s,hs=>by
   simp only[yBA];cases hF:F y with
   |none =>show IsSet lt (p.foldl (λs y=>zoR eq lt (F y) s) s)/\_;obtain ⟨h1,h2⟩:=zfA h F p s hs;refine ⟨h1,λz=>(h2 z).trans ?_⟩;simp[hF]
   |some x =>
     show IsSet lt (p.foldl (λs y=>zoR eq lt (F y) s) (zju eq lt x s))/\_;obtain ⟨h1,h2⟩:=zfA h F p _ (zdS h x hs);refine ⟨h1,λz=>(h2 z).trans ?_⟩;rw[zer h x z hs];simp only[yAm,exists_eq_or_imp,hF,yAe];constructor
     ·rintro ((rfl|h3)|h3)
      ·exact .inr (.inl rfl)
      ·exact .inl h3
      ·exact .inr (.inr h3)
     ·rintro (h3|rfl|h3)
      ·exact .inl (.inr h3)
      ·exact .inl (.inl rfl)
      ·exact .inr h3
theorem zc4{σ κ:Type}(F:σ->κ->σ):∀(p:List κ)(s:σ),p.foldl (λ(t:σ×Unit) y=>(F t.1 y,())) (s,())=(p.foldl F s,())|[],_=>rfl|y::p,s=>zc4 F p (F s y)
theorem zn3{σ R:Type}{f:σ->Option (σ⊕R)}(m:σ->Nat)(I:σ->Prop)(Q:R->Prop)
  (h:∀x,I x->(∃y,f x=some (.inl y)/\I y/\m y<m x)\/∃r,f x=some (.inr r)/\Q r):∀x,I x->∃r,zav f x=some r/\Q r:=by
 have key:∀d x,m x<d->I x->∃r,zav f x=some r/\Q r:=by
  intro d;induction d with
  |zero=>intro x hd;omega
  |succ d ih =>
    intro x hd hI;rcases h x hI with ⟨y,h1,h2,h3⟩|⟨r,h1,h2⟩;·rw[za8 h1];exact ih y (by omega) h2
    ·exact ⟨r,zax h1,h2⟩
 exact λx hI=>key _ x (yCn _) hI
theorem zpG{α:Type}{p q:α->Bool}{l:List α}(h:∀x,q x=true->p x=true){x:α}(hx:x∈l)(hp:p x=true)(hq:q x=false):(l.filter q).length<(l.filter p).length:=by
 induction l with
 |nil=>cases hx|cons y l ih =>
   have le:∀l:List α,(l.filter q).length<=(l.filter p).length:=by
    intro l;induction l with
    |nil=>exact yAj _|cons z l ih2 =>
      simp only[yBP];cases hz:q z with
      |true=>rw[h z hz];simp;exact ih2|false=>cases p z<;>simp<;>omega
   simp only[yBP];rcases yAm.1 hx with rfl|hx;·rw[hp,hq];simp;exact Nat.lt_succ_of_le (le l)
   ·have:=ih hx;cases hz:q y with
    |true=>rw[h y hz];simp;exact this|false=>cases p y<;>simp<;>omega
end
end Pe
namespace Pe.Tryd
open Go Go.Proofs Pe Pe.Told
abbrev zcq:=Gt.Sp_
abbrev SM:=List (Gt.Sp_×Bool)
abbrev eqs:zcq->zcq->Bool:=keq un (.st 7)
abbrev lts:zcq->zcq->Bool:=klt un (.st 7)
theorem zrG(x y:zcq):eqs x y=((x.n==y.n)&&((x.in_==y.in_)&&true)):=by kernel_rfl
theorem zn0(x y:zcq):lts x y=(decide (x.n<y.n)||((x.n==y.n)&&((!x.in_&&y.in_)||((x.in_==y.in_)&&false)))):=by kernel_rfl
theorem za3:KOrd eqs lts where
 eq_iff x y:=by rw[zrG];cases x;cases y;simp
 irr x:=by rw[zn0];cases x.in_<;>simp
 tr x y z:=by simp only[zn0];cases x.in_<;>cases y.in_<;>cases z.in_<;>simp<;>omega
 tot x y:=by simp only[zn0];obtain ⟨n,a⟩:=x;obtain ⟨m,b⟩:=y;cases a<;>cases b<;>simp<;>omega
theorem s68(o:Orc Sx){l:SM}(hl:IsSet lts l)(x:zcq):m68 o l x=some (zju eqs lts x l,()):=by
 unfold m68;have h0:IsSet lts (zju eqs lts x []):=zdS za3 x IsSet.nil;have hF:=λp:SM=>zfA za3 (λy:zcq×Bool=>some y.1) p (zju eqs lts x []) h0;refine zaS (zeP (λs y=>(zju eqs lts y.1 s.1,())) (λs=>IsSet lts s.1) (λs=>.inl (s.1,())) (λ_ _ _ _=>rfl) (λ_ _=>rfl) (λy _ _ s hs=>⟨rfl,zdS za3 _ hs⟩) h0 λp hp=>?_) ?_;·rw[zc4 (λs (y:zcq×Bool)=>zju eqs lts y.1 s),zc4 (λs (y:zcq×Bool)=>zju eqs lts y.1 s)];refine congrArg (λz=>Sum.inl (z,())) (zfV za3 (hF p).1 (hF l).1 λz=>((hF p).2 z).trans (Iff.trans ?_ ((hF l).2 z).symm));simp only[hp.mem_iff]
 ·rw[zc4 (λs (y:zcq×Bool)=>zju eqs lts y.1 s)];refine congrArg (λz=>some (z,())) (zfV za3 (hF l).1 (zdS za3 x hl) λz=>((hF l).2 z).trans ?_);rw[zer za3 x z hl,zer za3 x z IsSet.nil];simp only[yBy,yBw,or_false,yAe,yAJ,eq_comm]
theorem L68(n:Nat){l:SM}(hl:IsSet lts l)(x:zcq): @Eq (Option (SM×Unit)) ((zam (n+1)).d 68 [.cont (.fm (.st 7) .bool) l,.st 7 x] [(.fm (.st 7) .bool)]) (some (zju eqs lts x l,())):=(q68 n _ _).trans (s68 _ hl x)
def wid(p:Gt.Pt_)(x:zcq):Bool:= !x.in_&&match p.nodes[x.n.toNat]? with
 |some d=>d.kind==2||d.kind==4|none=>false
def nx(x:zcq):zcq:=⟨x.n+1,false⟩
inductive Reach (p:Gt.Pt_) (S:zcq->Prop):zcq->Prop
 |base {x}:S x->Reach p S x
 |next {x}:Reach p S x->wid p x=true->Reach p S (nx x)
structure Fits (p:Gt.Pt_) (x:zcq):Prop where
 lo:0<=x.n
 hi:x.n<=(p.nodes.length:Int)
theorem zrm{p:Gt.Pt_}{x:zcq}(h:wid p x=true)(h0:0<=x.n):x.n<(p.nodes.length:Int):=by
 unfold wid at h;cases hn:p.nodes[x.n.toNat]? with
 |none=>rw[hn] at h;simp at h|some d=>have:=(yAc.1 hn).1;omega
theorem zpT{p:Gt.Pt_}{x:zcq}(h:wid p x=true)(hf:Fits p x):Fits p (nx x):=⟨by have:=hf.lo;show 0<=x.n+1;omega,by have:=zrm h hf.lo;show x.n+1<=_;omega⟩
theorem Reach.fits{p:Gt.Pt_}{S:zcq->Prop}(hS:∀x,S x->Fits p x){x:zcq}(h:Reach p S x):Fits p x:=by
 induction h with
 |base h=>exact hS _ h|next _ hw ih=>exact zpT hw ih
theorem zrn{p:Gt.Pt_}{x:zcq}(hf:Fits p x) :
  (ob (br (Gt.Sp_.in_ x) (some true) (some (decide ((len (Gt.Pt_.nodes p))<=(Gt.Sp_.n x))))) λb4=>(br b4 (some true) (ob (at? (Gt.Pt_.nodes p) (Gt.Sp_.n x)) λy5=>(ob (br ((Gt.Nd_.kind y5) != 2) (ob (at? (Gt.Pt_.nodes p) (Gt.Sp_.n x)) λy6=>(some ((Gt.Nd_.kind y6) != 4))) (some false)) λb7=>(some b7)))))=some (!wid p x):=by
 obtain ⟨n,i⟩:=x;obtain ⟨k,hk⟩:∃k:Nat,n=(k:Int):=⟨n.toNat,by have h:=hf.lo;have h:0<=n:=h;omega⟩;subst hk;unfold wid;dsimp only;cases i with
 |true=>rfl|false =>
   rw[zad,zaa];by_cases hlt:k<p.nodes.length
   ·rw[decide_eq_false (by simp[len];omega),zad];rw[zh3,show ((k:Int)).toNat=k by omega];rw[yAh hlt];simp only[zaa];cases h2:(p.nodes[k].kind==2) with
    |true=>simp[bne,h2,zad,zaa]|false=>simp only[bne,h2,yBn,zaf,zaa];cases h4:(p.nodes[k].kind==4)<;>simp
   ·rw[decide_eq_true (by simp[len];omega),zaf,show ((k:Int)).toNat=k by omega,yBb (by omega)];rfl
end Pe.Tryd
end
section
/- The spots that are reached zbo a sign: the loop ends, and gives these. -/
set_option maxRecDepth 100000
namespace Pe.Tryd
open Go Go.Proofs Pe Pe.Told
def wst(p:Gt.Pt_)(s:SM×Bool×Unit)(y:zcq×Bool):SM×Bool×Unit :=
 bif wid p y.1&& !(zfp eqs (nx y.1) false s.1) then (zju eqs lts (nx y.1) s.1,true,()) else s
theorem zes(p:Gt.Pt_):∀(l:SM)(s:SM×Bool×Unit),IsSet lts s.1 ->
  IsSet lts (l.foldl (wst p) s).1/\(∀z,z∈zat (l.foldl (wst p) s).1↔z∈zat s.1\/∃y∈l,wid p y.1=true/\nx y.1=z) /\
  ((l.foldl (wst p) s).2.1=true↔s.2.1=true\/∃y∈l,wid p y.1=true/\nx y.1∉zat s.1)
 |[],s,hs=>by simp[hs]
 |y::l,s,hs=>by
   simp only[yBA];cases hw:wid p y.1 with
   |false =>
     have e:wst p s y=s:=(by unfold wst;rw[hw];rfl);rw[e];obtain ⟨h1,h2,h3⟩:=zes p l s hs;refine ⟨h1,λz=>?_,?_⟩;·rw[h2 z];simp[hw]
     ·rw[h3];simp[hw]
   |true =>
     by_cases hm:nx y.1∈zat s.1
     ·have e:wst p s y=s:=(by unfold wst;rw[hw,(zdJ za3 (nx y.1) s.1 hs.all).2 hm];rfl);rw[e];obtain ⟨h1,h2,h3⟩:=zes p l s hs;refine ⟨h1,λz=>?_,?_⟩
      ·rw[h2 z];simp only[yAm,exists_eq_or_imp,hw,true_and];constructor
       ·rintro (h|h)
        ·exact .inl h
        ·exact .inr (.inr h)
       ·rintro (h|rfl|h)
        ·exact .inl h
        ·exact .inl hm
        ·exact .inr h
      ·rw[h3];simp only[yAm,exists_eq_or_imp,hw,true_and,hm,not_true,false_or]
     ·have hg:zfp eqs (nx y.1) false s.1=false:=by
       cases h:zfp eqs (nx y.1) false s.1 with
       |false=>rfl|true=>exact absurd ((zdJ za3 (nx y.1) s.1 hs.all).1 h) hm
      have e:wst p s y=(zju eqs lts (nx y.1) s.1,true,()):=(by unfold wst;rw[hw,hg];rfl);rw[e];obtain ⟨h1,h2,h3⟩:=zes p l (zju eqs lts (nx y.1) s.1,true,()) (zdS za3 _ hs);refine ⟨h1,λz=>?_,?_⟩
      ·rw[h2 z,zer za3 (nx y.1) z hs];simp only[yAm,exists_eq_or_imp,hw,true_and];constructor
       ·rintro ((rfl|h)|h)
        ·exact .inr (.inl rfl)
        ·exact .inl h
        ·exact .inr (.inr h)
       ·rintro (h|rfl|h)
        ·exact .inl (.inr h)
        ·exact .inl (.inl rfl)
        ·exact .inr h
      ·rw[h3];simp only[yAm,exists_eq_or_imp,hw,true_and,hm,not_false_eq_true,true_or,or_true]
theorem zoV(p:Gt.Pt_){l l':SM}(hp:l'.Perm l){s:SM×Bool×Unit}(hs:IsSet lts s.1):l'.foldl (wst p) s=l.foldl (wst p) s:=by
 obtain ⟨a1,a2,a3⟩:=zes p l s hs;obtain ⟨b1,b2,b3⟩:=zes p l' s hs;refine Prod.ext (zfV za3 b1 a1 λz=>?_) (Prod.ext ?_ rfl);·rw[a2,b2];simp only[hp.mem_iff]
 ·rw[yCc,a3,b3];simp only[hp.mem_iff]
structure Wide (p:Gt.Pt_) (l r:SM):Prop where
 set:IsSet lts r
 mem:∀x,x∈zat r↔Reach p (· ∈zat l) x
theorem Wide.fits{p:Gt.Pt_}{l r:SM}(h:Wide p l r)(hl:∀x∈zat l,Fits p x):∀x∈zat r,Fits p x:=λx hx=>Reach.fits hl ((h.mem x).1 hx)
theorem znn{p:Gt.Pt_}{x:zcq}(hn:p.nodes.length<=1000000)(hf:Fits p x):Gt.Sp_.mk (IntKind.i64.wrap ((Gt.Sp_.n x)+1)) false=nx x:=by have h1:=hf.lo;have h2:=hf.hi;rw[zdw (by omega) (by omega)];rfl
theorem s45(n:Nat){p:Gt.Pt_}(hn:p.nodes.length<=1000000){l:SM}(hl:IsSet lts l)(hf:∀x∈zat l,Fits p x):∃r,m45 (zam (n+1)) p l=some (r,())/\Wide p l r:=by
 have key:=zn3 (R:=(SM×Unit)⊕(SM×Unit)) (f:=λ(t1:SM×Bool×Unit)=>(br t1.2.1 (zdk (κ:=(Gt.Sp_)×(Bool)) (σ:=List ((Gt.Sp_)×(Bool))×Bool×Unit) (R:=_) (λy3 _ (t2:List ((Gt.Sp_)×(Bool))×Bool×Unit)=>(ob (br (Gt.Sp_.in_ y3.1) (some true) (some (decide ((len (Gt.Pt_.nodes p))<=(Gt.Sp_.n y3.1))))) λb4=>(ob (br b4 (some true) (ob (at? (Gt.Pt_.nodes p) (Gt.Sp_.n y3.1)) λy5=>(ob (br ((Gt.Nd_.kind y5) != 2) (ob (at? (Gt.Pt_.nodes p) (Gt.Sp_.n y3.1)) λy6=>(some ((Gt.Nd_.kind y6) != 4))) (some false)) λb7=>(some b7)))) λb8=>(br b8 (some (.inl (t2.1,t2.2.1,()))) (br (!(zfp (keq un (.st 7)) (Gt.Sp_.mk (IntKind.i64.wrap ((Gt.Sp_.n y3.1)+1)) false) false t2.1)) (ob (α:=List ((Gt.Sp_)×(Bool))×Unit) ((zam (n+1)).d 68 [.cont (.fm (.st 7) .bool) t2.1,.st 7 (Gt.Sp_.mk (IntKind.i64.wrap ((Gt.Sp_.n y3.1)+1)) false)] [(.fm (.st 7) .bool)]) λ(r9:List ((Gt.Sp_)×(Bool))×Unit)=>(some (.inl (r9.1,true,())))) (some (.inl (t2.1,t2.2.1,())))))))) (λ(t2:List ((Gt.Sp_)×(Bool))×Bool×Unit)=>(some (.inr (.inl (t2.1,t2.2.1,()))))) t1.1 (t1.1,false,())) (some (.inr (.inl (t1.1,()))))))
  (λt=>((List.range (p.nodes.length+1)).filter λ(k:Nat)=> !(zfp eqs ⟨(k:Int),false⟩ false t.1)).length*2+(bif t.2.1 then 1 else 0))
  (λt=>IsSet lts t.1/\(∀x∈zat l,x∈zat t.1)/\(∀x∈zat t.1,Reach p (· ∈zat l) x)/\(t.2.1=false->∀x∈zat t.1,wid p x=true->nx x∈zat t.1))
  (λr=>∃a,r= .inl (a,())/\Wide p l a)
 have key2:=key ?_ (l,true,()) ⟨hl,λ_ h=>h,λ_ h=>.base h,λh=>by cases h⟩;·obtain ⟨r,h1,a,rfl,hw⟩:=key2;refine ⟨a,?_,hw⟩;unfold m45;exact zaS h1 rfl
 ·clear key
  rintro ⟨t,b,⟨⟩⟩ ⟨hI,hsub,hre,hclo⟩
  dsimp only at hI hsub hre hclo ⊢;cases b with
  |false =>
    refine .inr ⟨.inl (t,()),rfl,t,rfl,hI,λx=>⟨hre x,λh=>?_⟩⟩;induction h with
    |base h=>exact hsub _ h|next _ hw ih=>exact hclo rfl _ ih hw
  |true =>
    left;obtain ⟨w1,w2,w3⟩:=zes p t (t,false,()) hI;have hft:∀x∈zat t,Fits p x:=λx hx=>Reach.fits hf (hre x hx);refine ⟨t.foldl (wst p) (t,false,()),?_,⟨w1,λx hx=>(w2 x).2 (.inl (hsub x hx)),λx hx=>?_,λhb x hx hw=>?_⟩,?_⟩
    ·rw[zaf];refine zeP (s:=(t,false,())) (wst p) (λs=>IsSet lts s.1) (λs=>(Sum.inl s:(SM×Bool×Unit)⊕((SM×Unit)⊕(SM×Unit)))) (λ_ _ _ _=>rfl) (λs _=>rfl) (λy hy _ s hs=>?_) hI λq hq=>by rw[zoV p hq hI]
     have hfy:Fits p y.1:=hft _ (yAJ.2 ⟨y,hy,rfl⟩);refine ⟨?_,?_⟩
     ·skip
      have h0:=zrn hfy;rw[znn hn hfy];revert h0;generalize (br (Gt.Sp_.in_ y.1) (some true) (some (decide ((len (Gt.Pt_.nodes p))<=(Gt.Sp_.n y.1)))))=X;intro h0;cases X with
      |none=>cases h0|some b4 =>
        rw[zaa] at h0 ⊢;rw[h0,zaa];unfold wst;cases hw:wid p y.1 with
        |false=>rfl|true =>
          rw[yBr,zad,Bool.true_and];show br (!(zfp eqs (nx y.1) false s.1)) _ _=_;cases hg:zfp eqs (nx y.1) false s.1 with
          |true=>rfl|false=>rw[yBn,zaf,L68 n hs,zaa];rfl
     ·unfold wst;cases (wid p y.1&& !(zfp eqs (nx y.1) false s.1)) with
      |true=>exact zdS za3 _ hs|false=>exact hs
    ·rcases (w2 x).1 hx with h|⟨y,hy,hwy,rfl⟩;·exact hre x h
     ·exact .next (hre _ (yAJ.2 ⟨y,hy,rfl⟩)) hwy
    ·have hno:∀y∈t,wid p y.1=true->nx y.1∈zat t:=λy hy hwy=>Classical.byContradiction λhc=>by
      have:=w3.2 (.inr ⟨y,hy,hwy,hc⟩);rw[hb] at this;cases this
     rcases (w2 x).1 hx with h|⟨y,hy,hwy,rfl⟩;·obtain ⟨y,hy,rfl⟩:=yAJ.1 h;exact (w2 _).2 (.inl (hno y hy hw))
     ·have h:=hno y hy hwy;obtain ⟨z,hz,he⟩:=yAJ.1 h;rw[<-he] at hw ⊢;exact (w2 _).2 (.inl (hno z hz hw))
    ·have hle:∀k:Nat,(!(zfp eqs ⟨(k:Int),false⟩ false (t.foldl (wst p) (t,false,())).1))=true->(!(zfp eqs ⟨(k:Int),false⟩ false t))=true:=λk hk=>by
      cases hg:zfp eqs ⟨(k:Int),false⟩ false t with
      |false=>rfl|true =>have h3:=(zdJ za3 _ _ w1.all).2 ((w2 _).2 (.inl ((zdJ za3 _ _ hI.all).1 hg)));rw[h3] at hk;cases hk
     cases hb:(t.foldl (wst p) (t,false,())).2.1 with
     |false =>
       have hno:∀y∈t,wid p y.1=true->nx y.1∈zat t:=λy hy hwy=>Classical.byContradiction λhc=>by have:=w3.2 (.inr ⟨y,hy,hwy,hc⟩);rw[hb] at this;cases this
       have heq:(t.foldl (wst p) (t,false,())).1=t:=zfV za3 w1 hI λz=>by
        rw[w2];constructor
        ·rintro (h|⟨y,hy,hwy,rfl⟩)
         ·exact h
         ·exact hno y hy hwy
        ·exact .inl
       rw[heq];simp only[cond_false,cond_true];omega
     |true =>
       rcases w3.1 hb with h|⟨y,hy,hwy,hc⟩;·cases h
       ·have hfy:Fits p y.1:=hft _ (yAJ.2 ⟨y,hy,rfl⟩);have hfn:=zpT hwy hfy;have e:(⟨((y.1.n+1).toNat:Int),false⟩:zcq)=nx y.1:=by
         have h0:0<=y.1.n+1:=hfn.lo;unfold nx;rw[Int.toNat_of_nonneg h0]
        have:=zpG (l:=List.range (p.nodes.length+1)) (x:=(y.1.n+1).toNat) hle (by have h1:y.1.n+1<=_:=hfn.hi;have h0:0<=y.1.n+1:=hfn.lo;rw[yBt];omega) (by
         rw[e];cases hg:zfp eqs (nx y.1) false t with
         |false=>rfl|true=>exact absurd ((zdJ za3 _ _ hI.all).1 hg) hc) (by
         rw[e,(zdJ za3 _ _ w1.all).2 ((w2 _).2 (.inr ⟨y,hy,hwy,rfl⟩))];rfl)
        simp only[cond_true];omega
theorem L45(n:Nat){p:Gt.Pt_}(hn:p.nodes.length<=1000000){l:SM}(hl:IsSet lts l)(hf:∀x∈zat l,Fits p x):∃r,@Eq (Option (SM×Unit)) ((zam (n+2)).d 45 [.st 5 p,.cont (.fm (.st 7) .bool) l] [(.fm (.st 7) .bool)]) (some (r,()))/\Wide p l r:=by obtain ⟨r,h1,h2⟩:=s45 n hn hl hf;exact ⟨r,(q45 (n+1) _ _).trans h1,h2⟩
end Pe.Tryd
end
section
/- The steps of a pattern by the signs of a name. -/
set_option maxRecDepth 100000
namespace Pe.Tryd
open Go Go.Proofs Pe Pe.Told
def zo1(d:Gt.Nd_)(x:zcq)(g:Int):zcq×Bool :=
 bif d.kind==1 then (nx x,g==IntKind.i64.wrap d.b) else bif d.kind==2 then (x,bif decide (g<256) then g != 47 else false) else bif d.kind==3 then (nx x,g==256) else
 bif d.kind==5 then (nx x,g==257) else bif d.kind==4 then (bif g==256 then (⟨x.n,false⟩,x.in_) else (⟨x.n,true⟩,decide (g<256))) else
 (⟨x.n,true⟩,bif g==257 then (bif x.in_ then (bif decide (g<256) then true else false) else true) else (bif decide (g<256) then x.in_ else false))
def zfQ(p:Gt.Pt_)(x:zcq)(g:Int):zcq×Bool:=match p.nodes[x.n.toNat]? with
 |some d=>zo1 d x g|none=>(⟨0,false⟩,false)
theorem zls{p:Gt.Pt_}{x:zcq}(hf:Fits p x):∃k:Nat,x.n=(k:Int)/\k<=p.nodes.length:=⟨x.n.toNat,by have:=hf.lo;omega,by have:=hf.hi;have:=hf.lo;omega⟩
theorem s46(o:Orc Sx){p:Gt.Pt_}(hn:p.nodes.length<=1000000){x:zcq}(hf:Fits p x)(g:Int):m46 o p x g=some ((zfQ p x g).1,(zfQ p x g).2,()):=by
 have hw:=znn hn hf;obtain ⟨k,hk,hkn⟩:=zls hf;unfold m46 zfQ;rw[hw,hk,show ((k:Int)).toNat=k by omega];by_cases hlt:k<p.nodes.length
 ·rw[decide_eq_false (by simp[len];omega),zad,zh3,yAh hlt];simp only[zaa];generalize p.nodes[k]=d;unfold zo1;rw[hk];cases d.kind==1 with
  |true=>rfl|false =>
  cases d.kind==2 with
  |true=>cases decide (g<256)<;>rfl|false =>
  cases d.kind==3 with
  |true=>rfl|false =>
  cases d.kind==5 with
  |true=>rfl|false =>
  cases d.kind==4 with
  |true=>cases g==256<;>rfl|false=>cases g==257<;>cases decide (g<256)<;>cases x.in_<;>rfl
 ·rw[decide_eq_true (by simp[len];omega),zaf,yBb (by omega)]
theorem L46(n:Nat){p:Gt.Pt_}(hn:p.nodes.length<=1000000){x:zcq}(hf:Fits p x)(g:Int): @Eq (Option (zcq×Bool×Unit)) ((zam (n+1)).d 46 [.st 5 p,.st 7 x,.int .i64 g] [(.st 7),.bool]) (some ((zfQ p x g).1,(zfQ p x g).2,())):=(q46 n _ _ _).trans (s46 _ hn hf g)
theorem znv{p:Gt.Pt_}{x:zcq}(hf:Fits p x){g:Int}(h:(zfQ p x g).2=true):Fits p (zfQ p x g).1:=by
 obtain ⟨k,hk,hkn⟩:=zls hf;unfold zfQ at h ⊢;rw[hk,show ((k:Int)).toNat=k by omega] at h ⊢;cases hd:p.nodes[k]? with
 |none=>rw[hd] at h;cases h|some d =>
   have hlt:=(yAc.1 hd).1;have hnx:Fits p (nx x):=⟨by show 0<=x.n+1;omega,by show x.n+1<=_;omega⟩;have hsame:∀b,Fits p ⟨x.n,b⟩:=λb=>⟨hf.lo,hf.hi⟩;show Fits p (zo1 d x g).1;unfold zo1;cases d.kind==1 with
   |true=>exact hnx|false =>
   cases d.kind==2 with
   |true=>exact hf|false =>
   cases d.kind==3 with
   |true=>exact hnx|false =>
   cases d.kind==5 with
   |true=>exact hnx|false =>
   cases d.kind==4 with
   |true=>cases g==256<;>exact hsame _|false=>exact hsame _
def Nxt(p:Gt.Pt_)(S:zcq->Prop)(g:Int):zcq->Prop:=Reach p λz=>∃x,S x/\zfQ p x g=(z,true)
def After(p:Gt.Pt_):List Int->(zcq->Prop)->zcq->Prop|[],S=>S|g::r,S=>After p r (Nxt p S g)
theorem Reach.congr{p:Gt.Pt_}{S T:zcq->Prop}(h:∀x,S x↔T x)(x:zcq):Reach p S x↔Reach p T x:=by have:S=T:=funext λx=>propext (h x);rw[this]
theorem After.congr{p:Gt.Pt_}{g:List Int}{S T:zcq->Prop}(h:∀x,S x↔T x)(x:zcq):After p g S x↔After p g T x:=by have:S=T:=funext λx=>propext (h x);rw[this]
theorem Reach.none{p:Gt.Pt_}{S:zcq->Prop}(h:∀x,¬S x)(x:zcq):¬Reach p S x:=λhx=>by
 induction hx with
 |base hx=>exact h _ hx|next _ _ ih=>exact ih
theorem After.none{p:Gt.Pt_}:∀(g:List Int){S:zcq->Prop},(∀x,¬S x)->∀x,¬After p g S x|[],_,h=>h|_::r,_,h=>After.none r (Reach.none λ_ ⟨_,hx,_⟩=>h _ hx)
def sto(p:Gt.Pt_)(g:Int)(y:zcq×Bool):Option zcq:=if (zfQ p y.1 g).2=true then some (zfQ p y.1 g).1 else none
theorem s21(n:Nat){p:Gt.Pt_}(hn:p.nodes.length<=1000000){l:SM}(hf:∀x∈zat l,Fits p x)(g:Int) :
  ∃r,m21 (zam (n+2)) p l g=some (r,())/\IsSet lts r/\(∀x∈zat r,Fits p x)/\∀x,x∈zat r↔Nxt p (· ∈zat l) g x:=by
 have hF:=λq:SM=>zfA za3 (sto p g) q [] IsSet.nil;have hmid:∀z,z∈zat (l.foldl (λs y=>zoR eqs lts (sto p g y) s) [])↔∃x,x∈zat l/\zfQ p x g=(z,true):=λz=>by
  refine ((hF l).2 z).trans ?_;simp only[yBy,yBw,false_or];constructor
  ·rintro ⟨y,hy,h⟩
   unfold sto at h;split at h;·rename_i h2;cases h;exact ⟨y.1,yAJ.2 ⟨y,hy,rfl⟩,Prod.ext rfl h2⟩
   ·cases h
  ·rintro ⟨x,hx,h⟩
   obtain ⟨y,hy,rfl⟩:=yAJ.1 hx;exact ⟨y,hy,by unfold sto;rw[h];rfl⟩
 have hfm:∀z∈zat (l.foldl (λs y=>zoR eqs lts (sto p g y) s) []),Fits p z:=λz hz=>by obtain ⟨x,hx,h⟩:=(hmid z).1 hz;have:=znv (hf x hx) (g:=g) (by rw[h]);rwa[h] at this
 obtain ⟨r,h1,h2⟩:=L45 n hn (hF l).1 hfm;refine ⟨r,?_,h2.set,h2.fits hfm,λx=>(h2.mem x).trans (Reach.congr hmid x)⟩;unfold m21;refine zaS (zeP (λs y=>(zoR eqs lts (sto p g y) s.1,())) (λ_=>True) (λs=>.inl (s.1,())) (λ_ _ _ _=>rfl) (λ_ _=>rfl) (λy hy _ s _=>⟨?_,trivial⟩) trivial λq hq=>?_) ?_
 ·rw[L46 (n+1) hn (hf y.1 (yAJ.2 ⟨y,hy,rfl⟩)),zaa];unfold sto;cases (zfQ p y.1 g).2 with
  |true=>rfl|false=>rfl
 ·rw[zc4 (λ(s:SM) (y:zcq×Bool)=>zoR eqs lts (sto p g y) s),zc4 (λ(s:SM) (y:zcq×Bool)=>zoR eqs lts (sto p g y) s)];refine congrArg (λz=>Sum.inl (z,())) (zfV za3 (hF q).1 (hF l).1 λz=>((hF q).2 z).trans (Iff.trans ?_ ((hF l).2 z).symm));simp only[hq.mem_iff]
 ·rw[zc4 (λ(s:SM) (y:zcq×Bool)=>zoR eqs lts (sto p g y) s)];rw[zaq,h1];rfl
theorem L21(n:Nat){p:Gt.Pt_}(hn:p.nodes.length<=1000000){l:SM}(hf:∀x∈zat l,Fits p x)(g:Int) :
  ∃r,@Eq (Option (SM×Unit)) ((zam (n+3)).d 21 [.st 5 p,.cont (.fm (.st 7) .bool) l,.int .i64 g] [(.fm (.st 7) .bool)]) (some (r,()))/\IsSet lts r/\(∀x∈zat r,Fits p x)/\∀x,x∈zat r↔Nxt p (· ∈zat l) g x:=by
 obtain ⟨r,h1,h2⟩:=s21 n hn hf g;exact ⟨r,(q21 (n+2) _ _ _).trans h1,h2⟩
def zp8(p:Gt.Pt_)(x:zcq):Bool:=bif x.n==len p.nodes then true else match p.nodes[x.n.toNat]? with
 |some d=>d.kind==6|none=>false
theorem s22(o:Orc Sx){p:Gt.Pt_}{x:zcq}(hf:Fits p x):m22 o p x=some (zp8 p x,()):=by
 obtain ⟨k,hk,hkn⟩:=zls hf;unfold m22 zp8;rw[hk,show ((k:Int)).toNat=k by omega];cases he:((k:Int)==len p.nodes) with
 |true=>rfl|false =>
   have:k<p.nodes.length:=by rw[beq_eq_false_iff_ne] at he;unfold len at he;omega
   rw[zad,zh3,yAh this];rfl
theorem L22(n:Nat){p:Gt.Pt_}{x:zcq}(hf:Fits p x): @Eq (Option (Bool×Unit)) ((zam (n+1)).d 22 [.st 5 p,.st 7 x] [.bool]) (some (zp8 p x,())):=(q22 n _ _).trans (s22 _ hf)
def zgI:zcq:=⟨0,false⟩
theorem L19(n:Nat){p:Gt.Pt_}(hn:p.nodes.length<=1000000):∃r,@Eq (Option (SM×Unit)) ((zam (n+3)).d 19 [.st 5 p] [(.fm (.st 7) .bool)]) (some (r,()))/\IsSet lts r/\(∀x∈zat r,Fits p x)/\∀x,x∈zat r↔Reach p (· =zgI) x:=by
 have hk:∀x,x∈zat (zju eqs lts zgI [])↔x=zgI:=λx=>by rw[zer za3 zgI x IsSet.nil];simp
 have hf:∀x∈zat (zju eqs lts zgI []),Fits p x:=λx hx=>by rw[(hk x).1 hx];exact ⟨Int.le_refl _,by show (0:Int)<=_;omega⟩
 obtain ⟨r,h1,h2⟩:=L45 n hn (zdS za3 zgI IsSet.nil) hf;refine ⟨r,(q19 (n+2) _).trans ?_,h2.set,h2.fits hf,λx=>(h2.mem x).trans (Reach.congr hk x)⟩;unfold m19;exact (congrArg (λz=>ob z _) h1).trans rfl
end Pe.Tryd
end
section
/- The signs of a name; does a pattern that was read match it? -/
set_option maxRecDepth 100000
namespace Pe.Tryd
open Go Go.Proofs Pe Pe.Told
theorem zgf:∀(s:B)(a:List Int),s.foldl (λb c=>b++[(UInt8.toNat c:Int)]) a=a++zaj s
 |[],a=>by simp[zaj]
 |c::s,a=>by rw[yBA,zgf s];simp[zaj]
theorem zjy(c:UInt8):IntKind.i64.wrap (UInt8.toNat c:Int)=(UInt8.toNat c:Int):=zdw (by omega) (by have:=c.toNat_lt;omega)
theorem znf{A R:Type}(y:B)(L:A)(a:List Int)(h:a.length+y.length<=1000000) :
  zav (R:=(List Int×A×Unit)⊕R) (λ(t7:List (Int)×A×Int×Unit)=>(br (decide (t7.2.2.1<(len y))) (ob (at? y t7.2.2.1) λc8=>(ob (zbh t7.1 [(IntKind.i64.wrap (UInt8.toNat c8:Int))]) λl9=>(some (.inl (l9,t7.2.1,(IntKind.i64.wrap (t7.2.2.1+1)),()))))) (some (.inr (.inl (t7.1,t7.2.1,())))))) (a,L,0,())=some (.inl (a++zaj y,L,())):=by
 refine (zft (λk (b:List Int)=>(b,L,(k:Int),())) y (λb c=>b++[(UInt8.toNat c:Int)]) (λb=>.inl (b,L,())) (λk b=>b.length<=a.length+k) (λk hk b hI=>⟨?_,by simp only[yAx,yAn,yBd];omega⟩) (λb _=>?_) a (by omega)).trans (by rw[zgf]);·simp only[zaY,hk,decide_true,zaf,za7 hk,zaa,zaG hk (by omega),zjy];rw[zbu (by simp[lim];omega)];rfl
 ·simp[zaY,zad]
theorem zlx{R:Type}(y:B)(a:List Int)(h:a.length+y.length<=1000000) :
  zav (R:=(List Int×Unit)⊕R) (λ(t13:List (Int)×Int×Unit)=>(br (decide (t13.2.1<(len y))) (ob (at? y t13.2.1) λc14=>(ob (zbh t13.1 [(IntKind.i64.wrap (UInt8.toNat c14:Int))]) λl15=>(some (.inl (l15,(IntKind.i64.wrap (t13.2.1+1)),()))))) (some (.inr (.inl (t13.1,())))))) (a,0,())=some (.inl (a++zaj y,())):=by
 refine (zft (λk (b:List Int)=>(b,(k:Int),())) y (λb c=>b++[(UInt8.toNat c:Int)]) (λb=>.inl (b,())) (λk b=>b.length<=a.length+k) (λk hk b hI=>⟨?_,by simp only[yAx,yAn,yBd];omega⟩) (λb _=>?_) a (by omega)).trans (by rw[zgf]);·simp only[zaY,hk,decide_true,zaf,za7 hk,zaa,zaG hk (by omega),zjy];rw[zbu (by simp[lim];omega)];rfl
 ·simp[zaY,zad]
def zfT(a:List Int):List Int:=bif decide (0<len a) then a++[256] else a
def sgF(a:List Int)(s:B):List Int:=zfT a++zaj s
def parts(p:Gt.Purl):List B:=zef p.space++[p.name]
def zgs(p:Gt.Purl):List Int:=bif p.version != [] then ((parts p).foldl sgF []++[257])++zaj p.version else (parts p).foldl sgF []
theorem zg6(a:List Int):(zfT a).length<=a.length+1:=by unfold zfT;cases decide (0<len a)<;>simp
theorem zkZ{M:Nat}:∀(l:List B)(a:List Int),(∀x∈l,x.length<=M)->(l.foldl sgF a).length<=a.length+l.length*(M+1)
 |[],a,_=>by simp
 |x::l,a,h=>by have ih:=zkZ l (sgF a x) λy hy=>h y (by simp[hy]);have h1:=zg6 a;have h2:=h x (by simp);have h3:(sgF a x).length<=a.length+1+M:=(by unfold sgF;rw[yAx,zdu];omega);simp only[yBA,yAn,Nat.succ_mul];omega
theorem zlX{p:Gt.Purl}(T:Tiny p):(parts p).length<=202/\∀x∈parts p,x.length<=200:=by
 have h1:=zfb p.space;have h2:=T.space;refine ⟨by simp[parts];omega,λx hx=>?_⟩;unfold parts at hx;rcases yAo.1 hx with hx|hx;·have:=zo5 hx;omega
 ·rw[yBf.1 hx];exact T.name
theorem s20(n:Nat){p:Gt.Purl}(T:Tiny p):m20 (zam (n+2)) p=some (zgs p,()):=by
 obtain ⟨hl,hm⟩:=zlX T;have hv:=T.version;have hsl:=zfb p.space;have hsp:=T.space;have hb:((parts p).foldl sgF []).length<=50000:=by have:=zkZ (parts p) [] hm;have:(parts p).length*(200+1)<=202*201:=yBx hl (yAj _);simp only[yBd] at *;omega
 unfold m20;refine zaS (r:= .inl ((parts p).foldl sgF [],())) ?_ ?_
 ·rw[L26 n (by omega),zaa];rw[show Nat.blt 0 (List.length ([p.name]:List B))=true from rfl,cond_true,zbu (by simp[lim];omega),zaa];show zav _ ([],parts p,0,())=_;refine zft (λk (a:List Int)=>(a,parts p,(k:Int),())) (parts p) sgF (λa=>(Sum.inl (a,()):(List Int×Unit)⊕(List Int×Unit))) (λk a=>a.length<=k*201) (λk hk a hI=>?_) (λa _=>?_) [] (by simp)
  ·have hx:=hm _ (yBg hk);have h1:=zg6 a;have hk2:k*201<=202*201:=yBx (by omega) (yAj _);refine ⟨?_,by unfold sgF;rw[yAx,zdu,Nat.succ_mul];omega⟩;show br (decide ((k:Int)<len (parts p))) _ _=_;rw[decide_eq_true (zaY.mpr hk),zaf];refine zaS (r:= .inl (sgF a (parts p)[k],parts p,())) ?_ ?_
   ·rw[za7 hk,zaa];refine zaS (r:= .inl (zfT a,parts p,())) ?_ ?_
    ·unfold zfT;cases decide (0<len a) with
     |true=>rw[zaf,zbu (by simp[lim];omega)];rfl|false=>rfl
    ·rw[zaq];exact znf (parts p)[k] (parts p) (zfT a) (by omega)
   ·rw[zaq,zaG hk (by omega)]
  ·show br (decide (((parts p).length:Int)<len (parts p))) _ _=_;rw[decide_eq_false (by simp[len]),zad]
 ·rw[zaq];refine zaS (r:= .inl (zgs p,())) ?_ rfl;unfold zgs;cases p.version != [] with
  |false=>rfl|true =>rw[zaf,zbu (by simp[lim];omega),zaa,cond_true];exact zlx p.version _ (by simp only[yAx,yAn,yBd];omega)
theorem L20(n:Nat){p:Gt.Purl}(T:Tiny p): @Eq (Option (List Int×Unit)) ((zam (n+3)).d 20 [.st 3 p] [(.sl (.int .i64))]) (some (zgs p,())):=(q20 (n+2) _).trans (s20 n T)
theorem znx{p:Gt.Purl}(T:Tiny p):(zgs p).length<=100000:=by obtain ⟨hl,hm⟩:=zlX T;have hv:=T.version;have:=zkZ (parts p) [] hm;have:(parts p).length*(200+1)<=202*201:=yBx hl (yAj _);unfold zgs;cases p.version != []<;>simp only[cond_true,cond_false,yAx,yAn,yBd,zdu] at* <;>omega
end Pe.Tryd
end
section
/- Matches, once the pattern is read. -/
set_option maxRecDepth 100000
namespace Pe.Tryd
open Go Go.Proofs Pe Pe.Told
def zlD(p:Gt.Pt_)(g:List Int):Prop:=∃y,After p g (Reach p (· =zgI)) y/\zp8 p y=true
noncomputable instance (p:Gt.Pt_) (g:List Int):Decidable (zlD p g):=Classical.propDecidable _
noncomputable def zhx(q:Gt.Pt_)(e:Int)(p:Gt.Purl):Bool×Int×Unit :=
 bif e != 0 then (false,e,()) else bif zbE p != 0 then (false,zbE p,()) else
 (bif (bif q.kind != [42] then q.kind != (za9 p).kind else false) then false else decide (zlD q (zgs (za9 p))),0,())
theorem s7(n:Nat){s:B}{p:Gt.Purl}{q:Gt.Pt_}{a e:Int}(h18: @Eq (Option (Gt.Pt_×Int×Int×Unit)) ((zam (n+4)).d 18 [.str s] [(.st 5),(.int .i64),(.int .i64)]) (some (q,a,e,())))
  (hn:e=0->q.nodes.length<=1000000) (h:p.qualifiers.length<=1000000000):m7 (zam (n+4)) s p=some (zhx q e p):=by
 unfold m7 zhx;rw[h18,zaa];dsimp only;cases he:(e != 0) with
 |true=>rfl|false =>
   have hn:=hn (by simpa using he);rw[zad,cond_false,L8 n h,zaa];dsimp only;cases hc:(zbE p != 0) with
   |true=>rfl|false =>
     have T:=zgk (p:=p) (by simpa using hc);rw[zad,cond_false,L9 n T,zaa];dsimp only;rw[zaD,zaa];cases (bif q.kind != [42] then q.kind != (za9 p).kind else false) with
     |true=>rfl|false =>
       rw[zad,cond_false];obtain ⟨l0,e0,hs0,hf0,hm0⟩:=L19 (n+1) hn;rw[e0,zaa];dsimp only;have hT:=zii T;generalize hg:zgs (za9 p)=g;have hgl:g.length<=100000:=hg▸znx hT
       have key:=zn3 (R:=(SM×Unit)⊕(Bool×Int×Unit)) (f:=λ(t7:List ((Gt.Sp_)×(Bool))×Int×Unit)=>(br (decide (t7.2.1<(len g))) (ob (at? g t7.2.1) λy8=>(ob (α:=List ((Gt.Sp_)×(Bool))×Unit) ((zam (n+4)).d 21 [.st 5 q,.cont (.fm (.st 7) .bool) t7.1,.int .i64 y8] [(.fm (.st 7) .bool)]) λ(r9:List ((Gt.Sp_)×(Bool))×Unit)=>(br ((len r9.1)==0) (some (.inr (.inr (false,0,())))) (some (.inl (r9.1,(IntKind.i64.wrap (t7.2.1+1)),())))))) (some (.inr (.inl (t7.1,()))))))
        (λt=>g.length - t.2.1.toNat)
        (λt=>∃k:Nat,t.2.1=(k:Int)/\k<=g.length/\IsSet lts t.1/\(∀x∈zat t.1,Fits q x)/\∀x,After q (g.drop k) (· ∈zat t.1) x↔After q g (Reach q (· =zgI)) x)
        (λr=>(∃l,r= .inl (l,())/\(∀x∈zat l,Fits q x)/\∀x,x∈zat l↔After q g (Reach q (· =zgI)) x)\/(r= .inr (false,0,())/\∀x,¬After q g (Reach q (· =zgI)) x))
       have hI:∃k:Nat,(0:Int)=(k:Int)/\k<=g.length/\IsSet lts l0/\(∀x∈zat l0,Fits q x)/\∀x,After q (g.drop k) (· ∈zat l0) x↔After q g (Reach q (· =zgI)) x:=⟨0,rfl,yAE _,hs0,hf0,λx=>After.congr hm0 x⟩;have key2:=key ?_ (l0,0,()) hI
       ·obtain ⟨r,h1,h2⟩:=key2;rcases h2 with ⟨l,rfl,hfl,hml⟩|⟨rfl,hno⟩
        ·refine zaS (r:= .inl (l,())) ?_ ?_;·rw[L20 (n+1) hT,hg,zaa];exact h1
         ·rw[zaq]
          have hr:=zmQ (l:=l) (f:=λ(y12:Gt.Sp_×Bool) _ (t11:Unit)=>(ob (α:=Bool×Unit) ((zam (n+4)).d 22 [.st 5 q,.st 7 y12.1] [.bool]) λ(r13:Bool×Unit)=>(br r13.1 (some (.inr (.inr (true,0,())))) (some (.inl (())))))) (g:=λ(t11:Unit)=>(some (.inr (.inl (())))))
           (λy=>zp8 q y.1) (.inr (true,0,()):Unit⊕(Bool×Int×Unit)) (.inl ()) () (λ_ _ _ _=>rfl) rfl λy hy _=>by rw[L22 (n+3) (hfl y.1 (yAJ.2 ⟨y,hy,rfl⟩)),zaa];cases zp8 q y.1<;>rfl
          refine (congrArg (λz=>zaQ z _) hr).trans ?_;have hd:decide (zlD q g)=l.any λy=>zp8 q y.1:=by
           rw[yCc,decide_eq_true_iff,yA9];constructor
           ·rintro ⟨y,hy,hey⟩
            obtain ⟨z,hz,rfl⟩:=yAJ.1 ((hml y).2 hy);exact ⟨z,hz,hey⟩
           ·rintro ⟨z,hz,hez⟩
            exact ⟨z.1,(hml _).1 (yAJ.2 ⟨z,hz,rfl⟩),hez⟩
          rw[hd];cases l.any λy=>zp8 q y.1<;>rfl
        ·refine zaS (r:= .inr (false,0,())) ?_ ?_;·rw[L20 (n+1) hT,hg,zaa];exact h1
         ·rw[decide_eq_false (λ⟨y,hy,_⟩=>hno y hy)];rfl
       ·clear key hI
        rintro ⟨t,i,⟨⟩⟩ ⟨k,hk,hkg,hs,hf,hm⟩
        dsimp only at hk hs hf hm ⊢;subst hk;by_cases hlt:k<g.length
        ·rw[decide_eq_true (zaY.mpr hlt),zaf,za7 hlt,zaa];obtain ⟨r,h1,h2,h3,h4⟩:=L21 (n+1) hn hf g[k];rw[h1,zaa,zaG hlt (by omega)];dsimp only;have hm2:∀x,After q (g.drop (k+1)) (· ∈zat r) x↔After q g (Reach q (· =zgI)) x:=λx=>by
          rw[<-hm x,yA6 hlt];exact After.congr h4 x
         cases hr:(len r==0) with
         |true =>
           rw[zaf];have:r=[]:=by
            have:len r=0:=by simpa using hr
            exact yAK.1 (by unfold len at this;omega)
           subst this;exact .inr ⟨_,rfl,.inr ⟨rfl,λx hx=>After.none _ (by simp) x ((hm2 x).2 hx)⟩⟩
         |false =>rw[zad];exact .inl ⟨_,rfl,⟨k+1,rfl,hlt,h2,h3,hm2⟩,by simp only[Int.toNat_natCast];omega⟩
        ·obtain rfl:k=g.length:=by omega
         rw[decide_eq_false (by simp[len]),zad];refine .inr ⟨_,rfl,.inl ⟨t,rfl,hf,λx=>?_⟩⟩;have:=hm x;rwa[yBV (yAj _)] at this
end Pe.Tryd
end
