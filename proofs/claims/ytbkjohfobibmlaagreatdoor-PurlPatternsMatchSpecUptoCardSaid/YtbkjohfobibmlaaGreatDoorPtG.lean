/- PROVED HERE: a part of the seat's proofs; see the text that holds the claim's theorem. -/
import Derived.Test.YtbkjohfobibmlaaGreatDoorNm
import Derived.Test.YtbkjohfobibmlaaGreatDoorPeE
import Derived.Test.YtbkjohfobibmlaaGreatDoorPtF
section
/- Sets that are kept in the keys' order, and rounds over their elements in whatever order. -/
namespace Pe
section
variable{K:Type}{eq lt:K->K->Bool}
structure KOrd (eq lt:K->K->Bool):Prop where
 eq_iff:∀x y,eq x y=true↔x=y
 irr:∀x,lt x x=false
 tr:∀x y z,lt x y=true->lt y z=true->lt x z=true
 tot:∀x y,lt x y=false->lt y x=false->x=y
abbrev zaw(l:List (K×Bool)):List K:=l.map (·.1)
structure IsSet (lt:K->K->Bool) (l:List (K×Bool)):Prop where
 ord:l.Pairwise λa b=>lt a.1 b.1=true
 all:∀e∈l,e.2=true
theorem IsSet.nil:IsSet lt ([]:List (K×Bool)):=⟨.nil,λ_ h=>by cases h⟩
theorem KOrd.ne(h:KOrd eq lt){x y:K}(hn:¬x=y):eq x y=false:=by
 cases he:eq x y with
 |false=>rfl|true=>exact absurd ((h.eq_iff x y).1 he) hn
theorem zhS(h:KOrd eq lt)(x:K):∀l:List (K×Bool),zi3 eq x l=true↔x∈zaw l
 |[]=>by simp[zi3]
 |(k,v)::r=>by
   unfold zi3;by_cases hk:x=k;·subst hk;rw[(h.eq_iff x x).2 rfl];simp
   ·rw[h.ne hk,cond_false,zhS h x r];simp[hk]
theorem zis(h:KOrd eq lt)(x:K):∀l:List (K×Bool),(∀e∈l,e.2=true)->x∈zaw l->mput eq x true l=l
 |[],_,hx=>by simp at hx
 |(k,v)::r,hv,hx=>by
   unfold mput;by_cases hk:x=k;·subst hk;rw[(h.eq_iff x x).2 rfl];have:v=true:=hv (x,v) (by simp);rw[this];rfl
   ·rw[h.ne hk,cond_false,zis h x r (λe he=>hv e (by simp[he])) (by simpa[hk] using hx)]
theorem zkj{x:K}{e:K×Bool}:∀l:List (K×Bool),e∈zp2 lt x true l↔e=(x,true)\/e∈l
 |[]=>by simp[zp2]
 |(k,v)::r=>by
   unfold zp2;cases lt x k with
   |true=>simp|false =>simp only[cond_false,yAn,zkj r];exact or_left_comm
theorem znE(h:KOrd eq lt){x:K}:∀l:List (K×Bool),IsSet lt l->x∉zaw l->IsSet lt (zp2 lt x true l)
 |[],_,_=>⟨by simp[zp2],by simp[zp2]⟩|(k,v)::r,hl,hx=>by
   have hp:=yBx.1 hl.ord;have hr:IsSet lt r:=⟨hp.2,λe he=>hl.all e (by simp[he])⟩;unfold zp2;cases hk:lt x k with
   |true =>
     refine ⟨yBx.2 ⟨λe he=>?_,hl.ord⟩,λe he=>?_⟩
     ·rcases yAn.1 he with rfl|he;·exact hk
      ·exact h.tr _ _ _ hk (hp.1 e he)
     ·rcases yAn.1 he with rfl|he;·rfl
      ·exact hl.all e he
   |false =>
     simp only[yAl,yAn,not_or] at hx;have ih:=znE h r hr hx.2;refine ⟨yBx.2 ⟨λe he=>?_,ih.ord⟩,λe he=>?_⟩
     ·rcases (zkj r).1 he with rfl|he
      ·cases hk2:lt k x with
       |true=>rfl|false=>exact absurd (h.tot _ _ hk hk2) hx.1
      ·exact hp.1 e he
     ·rcases yAn.1 he with rfl|he;·exact hl.all _ (by simp)
      ·exact ih.all e he
abbrev zfd(eq lt:K->K->Bool)(x:K)(l:List (K×Bool)):List (K×Bool):=zfh eq lt x true l
theorem zco(h:KOrd eq lt)(x:K){l:List (K×Bool)}(hl:IsSet lt l):IsSet lt (zfd eq lt x l):=by
 unfold zfd zfh;cases hm:zi3 eq x l with
 |true=>rw[cond_true,zis h x l hl.all ((zhS h x l).1 hm)];exact hl|false=>exact znE h l hl λhx=>by rw[(zhS h x l).2 hx] at hm;cases hm
theorem zcp(h:KOrd eq lt)(x y:K){l:List (K×Bool)}(hl:IsSet lt l):y∈zaw (zfd eq lt x l)↔y=x\/y∈zaw l:=by
 unfold zfd zfh;cases hm:zi3 eq x l with
 |true =>have hx:=(zhS h x l).1 hm;rw[cond_true,zis h x l hl.all hx];exact ⟨.inr,λh=>h.elim (λe=>e▸hx) id⟩
 |false =>
   simp only[cond_false,zaw,yAM,zkj];constructor
   ·rintro ⟨e,rfl|he,rfl⟩
    ·exact .inl rfl
    ·exact .inr ⟨e,he,rfl⟩
   ·rintro (rfl|⟨e,he,rfl⟩)
    ·exact ⟨_,.inl rfl,rfl⟩
    ·exact ⟨e,.inr he,rfl⟩
theorem zdz(h:KOrd eq lt)(x:K):∀l:List (K×Bool),(∀e∈l,e.2=true)->(zeS eq x false l=true↔x∈zaw l)
 |[],_=>by simp[zeS]
 |(k,v)::r,hv=>by
   unfold zeS;by_cases hk:x=k;·subst hk;rw[(h.eq_iff x x).2 rfl,cond_true,show v=true from hv (x,v) (by simp)];simp
   ·rw[h.ne hk,cond_false,zdz h x r λe he=>hv e (by simp[he])];simp[hk]
theorem zgO(h:KOrd eq lt):∀{a b:List (K×Bool)},IsSet lt a->IsSet lt b->(∀y,y∈zaw a↔y∈zaw b)->a=b
 |[],[],_,_,_=>rfl|[],y::b,_,_,hm=>absurd ((hm y.1).2 (by simp)) (by simp)|x::a,[],_,_,hm=>absurd ((hm x.1).1 (by simp)) (by simp)|x::a,y::b,ha,hb,hm=>by
   have pa:=yBx.1 ha.ord;have pb:=yBx.1 hb.ord;have above:∀{z:K×Bool}{l:List (K×Bool)},(∀e∈l,lt z.1 e.1=true)->∀k∈zaw l,lt z.1 k=true:=λhl k hk=>by obtain ⟨e,he,rfl⟩:=yAM.1 hk;exact hl e he
   have hk:x.1=y.1:=by
    have h1:x.1=y.1\/x.1∈zaw b:=(by simpa using (hm x.1).1 (by simp));have h2:y.1=x.1\/y.1∈zaw a:=(by simpa using (hm y.1).2 (by simp));rcases h1 with h1|h1;·exact h1
    ·rcases h2 with h2|h2;·exact h2.symm
     ·have e1:=above pb.1 _ h1;have e2:=above pa.1 _ h2;have:=h.tr _ _ _ e1 e2;rw[h.irr] at this;cases this
   have hxy:x=y:=Prod.ext hk ((ha.all x (by simp)).trans (hb.all y (by simp)).symm);subst hxy;refine congrArg _ (zgO h ⟨pa.2,λe he=>ha.all e (by simp[he])⟩ ⟨pb.2,λe he=>hb.all e (by simp[he])⟩ λk=>?_);have:=hm k;simp only[zaw,yAl,yAn] at this;by_cases hkx:k=x.1
   ·subst hkx;constructor;·intro hk2;have:=above pa.1 _ hk2;rw[h.irr] at this;cases this
    ·intro hk2;have:=above pb.1 _ hk2;rw[h.irr] at this;cases this
   ·simpa[hkx] using this
end
section
variable{κ σ R:Type}{f:κ->List κ->σ->Option (σ⊕R)}{g:σ->Option (σ⊕R)}
theorem zla{l:List κ}{s:σ}{r:R}(hq:∀y p q s,f y p s=f y q s)(h:∀p:List κ,p.Perm l->zk1 f g p s=some r):zdN f g l s=some r:=by have hd:(∀y p q s,f y p s=f y q s)/\∃r,∀p:List κ,p.Perm l->zk1 f g p s=some r:=⟨hq,r,h⟩;unfold zdN;rw[dif_pos hd];exact ((Classical.choose_spec hd.2 l (List.Perm.refl l)).symm.trans (h l (List.Perm.refl l)))
theorem zk0(st:σ->κ->σ)(I:σ->Prop)(out:σ->R)(hg:∀s,I s->g s=some (.inr (out s))):∀(p:List κ),(∀y∈p,∀q s,I s->f y q s=some (.inl (st s y))/\I (st s y))->∀s,I s->zk1 f g p s=some (out (p.foldl st s))
 |[],_,s,hs=>by simp only[zk1,hg s hs,List.foldl_nil]
 |y::p,h,s,hs=>by obtain ⟨h1,h2⟩:=h y (by simp) p s hs;simp only[zk1,h1,yBt];exact zk0 st I out hg p (λz hz=>h z (by simp[hz])) _ h2
theorem zfv{l:List κ}{s:σ}(st:σ->κ->σ)(I:σ->Prop)(out:σ->R)(hq:∀y p q s,f y p s=f y q s)(hg:∀s,I s->g s=some (.inr (out s)))
  (h:∀y∈l,∀q s,I s->f y q s=some (.inl (st s y))/\I (st s y)) (hs:I s) (hp:∀p:List κ,p.Perm l->out (p.foldl st s)=out (l.foldl st s)):zdN f g l s=some (out (l.foldl st s)) :=
 zla hq λp hpl=>by rw[zk0 st I out hg p (λy hy=>h y (hpl.mem_iff.1 hy)) s hs,hp p hpl]
theorem zm7(e:κ->Bool)(a b:R)(s:σ)(hg:g s=some (.inr b)):∀(p:List κ),(∀y∈p,∀q,f y q s=bif e y then some (.inr a) else some (.inl s))->zk1 f g p s=some (bif p.any e then a else b)
 |[],_=>by simp[zk1,hg]
 |y::p,h=>by
   simp only[zk1,h y (by simp)];cases he:e y with
   |true=>simp[he]|false=>simp only[cond_false,yCh,he,yB2];exact zm7 e a b s hg p λz hz=>h z (by simp[hz])
theorem zrL{e:κ->Bool}{p l:List κ}(h:p.Perm l):p.any e=l.any e:=by
 cases hl:l.any e with
 |true=>obtain ⟨x,hx,he⟩:=yBc.1 hl;exact yBc.2 ⟨x,h.mem_iff.2 hx,he⟩
 |false =>rw[yBw] at hl ⊢;exact λx hx=>hl x (h.mem_iff.1 hx)
theorem zoj{l:List κ}(e:κ->Bool)(a b:R)(s:σ)(hq:∀y p q s,f y p s=f y q s)(hg:g s=some (.inr b))(h:∀y∈l,∀q,f y q s=bif e y then some (.inr a) else some (.inl s)):zdN f g l s=some (bif l.any e then a else b) :=
 zla hq λp hp=>by rw[zm7 e a b s hg p λy hy=>h y (hp.mem_iff.1 hy),zrL hp]
end
end Pe
end
section
/- The spots of a pattern: sets of them, and what is reached zbA a sign. -/
set_option maxRecDepth 100000
namespace Pe
section
variable{K κ:Type}{eq lt:K->K->Bool}
def zqL(eq lt:K->K->Bool)(z:Option K)(s:List (K×Bool)):List (K×Bool):=match z with
 |some z=>zfd eq lt z s|none=>s
theorem zgq(h:KOrd eq lt)(F:κ->Option K):∀(p:List κ)(s:List (K×Bool)),IsSet lt s ->
  IsSet lt (p.foldl (λs y=>zqL eq lt (F y) s) s)/\∀z,z∈zaw (p.foldl (λs y=>zqL eq lt (F y) s) s)↔z∈zaw s\/∃y∈p,F y=some z
 |[],s,hs=>by simp[hs]
 |y::p,s,hs=>by
   simp only[yBt];cases hF:F y with
   |none =>show IsSet lt (p.foldl (λs y=>zqL eq lt (F y) s) s)/\_;obtain ⟨h1,h2⟩:=zgq h F p s hs;refine ⟨h1,λz=>(h2 z).trans ?_⟩;simp[hF]
   |some x =>
     show IsSet lt (p.foldl (λs y=>zqL eq lt (F y) s) (zfd eq lt x s))/\_;obtain ⟨h1,h2⟩:=zgq h F p _ (zco h x hs);refine ⟨h1,λz=>(h2 z).trans ?_⟩;rw[zcp h x z hs];simp only[yAn,exists_eq_or_imp,hF,yAe];constructor
     ·rintro ((rfl|h3)|h3)
      ·exact .inr (.inl rfl)
      ·exact .inl h3
      ·exact .inr (.inr h3)
     ·rintro (h3|rfl|h3)
      ·exact .inl (.inr h3)
      ·exact .inl (.inl rfl)
      ·exact .inr h3
theorem zdo{σ κ:Type}(F:σ->κ->σ):∀(p:List κ)(s:σ),p.foldl (λ(t:σ×Unit) y=>(F t.1 y,())) (s,())=(p.foldl F s,())|[],_=>rfl|y::p,s=>zdo F p (F s y)
theorem zpO{σ R:Type}{f:σ->Option (σ⊕R)}(m:σ->Nat)(I:σ->Prop)(Q:R->Prop)
  (h:∀x,I x->(∃y,f x=some (.inl y)/\I y/\m y<m x)\/∃r,f x=some (.inr r)/\Q r):∀x,I x->∃r,zau f x=some r/\Q r:=by
 have key:∀d x,m x<d->I x->∃r,zau f x=some r/\Q r:=by
  intro d;induction d with
  |zero=>intro x hd;omega
  |succ d ih =>
    intro x hd hI;rcases h x hI with ⟨y,h1,h2,h3⟩|⟨r,h1,h2⟩;·rw[zay h1];exact ih y (by omega) h2
    ·exact ⟨r,zao h1,h2⟩
 exact λx hI=>key _ x (yBX _) hI
theorem zrA{α:Type}{p q:α->Bool}{l:List α}(h:∀x,q x=true->p x=true){x:α}(hx:x∈l)(hp:p x=true)(hq:q x=false):(l.filter q).length<(l.filter p).length:=by
 induction l with
 |nil=>cases hx|cons y l ih =>
   have le:∀l:List α,(l.filter q).length<=(l.filter p).length:=by
    intro l;induction l with
    |nil=>exact yAj _|cons z l ih2 =>
      simp only[yBY];cases hz:q z with
      |true=>rw[h z hz];simp;exact ih2|false=>cases p z<;>simp<;>omega
   simp only[yBY];rcases yAn.1 hx with rfl|hx;·rw[hp,hq];simp;exact Nat.lt_succ_of_le (le l)
   ·have:=ih hx;cases hz:q y with
    |true=>rw[h y hz];simp;exact this|false=>cases p y<;>simp<;>omega
end
end Pe
namespace Pe.Tryz
open Go Go.Proofs Pe Pe.Told
abbrev zbR:=Gt.Sp_
abbrev SM:=List (Gt.Sp_×Bool)
abbrev eqs:zbR->zbR->Bool:=keq un (.st 14)
abbrev lts:zbR->zbR->Bool:=klt un (.st 14)
theorem zt5(x y:zbR):eqs x y=((x.n==y.n)&&((x.in_==y.in_)&&true)):=by kernel_rfl
theorem zpK(x y:zbR):lts x y=(decide (x.n<y.n)||((x.n==y.n)&&((!x.in_&&y.in_)||((x.in_==y.in_)&&false)))):=by kernel_rfl
theorem zba:KOrd eqs lts where
 eq_iff x y:=by rw[zt5];cases x;cases y;simp
 irr x:=by rw[zpK];cases x.in_<;>simp
 tr x y z:=by simp only[zpK];cases x.in_<;>cases y.in_<;>cases z.in_<;>simp<;>omega
 tot x y:=by simp only[zpK];obtain ⟨n,a⟩:=x;obtain ⟨m,b⟩:=y;cases a<;>cases b<;>simp<;>omega
theorem s113(o:Orc Sx){l:SM}(hl:IsSet lts l)(x:zbR):m113 o l x=some (zfd eqs lts x l,()):=by
 unfold m113;have h0:IsSet lts (zfd eqs lts x []):=zco zba x IsSet.nil;have hF:=λp:SM=>zgq zba (λy:zbR×Bool=>some y.1) p (zfd eqs lts x []) h0;refine zaA (zfv (λs y=>(zfd eqs lts y.1 s.1,())) (λs=>IsSet lts s.1) (λs=>.inl (s.1,())) (λ_ _ _ _=>rfl) (λ_ _=>rfl) (λy _ _ s hs=>⟨rfl,zco zba _ hs⟩) h0 λp hp=>?_) ?_;·rw[zdo (λs (y:zbR×Bool)=>zfd eqs lts y.1 s),zdo (λs (y:zbR×Bool)=>zfd eqs lts y.1 s)];refine congrArg (λz=>Sum.inl (z,())) (zgO zba (hF p).1 (hF l).1 λz=>((hF p).2 z).trans (Iff.trans ?_ ((hF l).2 z).symm));simp only[hp.mem_iff]
 ·rw[zdo (λs (y:zbR×Bool)=>zfd eqs lts y.1 s)];refine congrArg (λz=>some (z,())) (zgO zba (hF l).1 (zco zba x hl) λz=>((hF l).2 z).trans ?_);rw[zcp zba x z hl,zcp zba x z IsSet.nil];simp only[yBh,yBF,or_false,yAe,yAM,eq_comm]
theorem L113(n:Nat){l:SM}(hl:IsSet lts l)(x:zbR): @Eq (Option (SM×Unit)) ((zal (n+1)).d 113 [.cont (.fm (.st 14) .bool) l,.st 14 x] [(.fm (.st 14) .bool)]) (some (zfd eqs lts x l,())):=(q113 n _ _).trans (s113 _ hl x)
def wid(p:Gt.Pt_)(x:zbR):Bool:= !x.in_&&match p.nodes[x.n.toNat]? with
 |some d=>d.kind==2||d.kind==4|none=>false
def nx(x:zbR):zbR:=⟨x.n+1,false⟩
inductive Reach (p:Gt.Pt_) (S:zbR->Prop):zbR->Prop
 |base {x}:S x->Reach p S x
 |next {x}:Reach p S x->wid p x=true->Reach p S (nx x)
structure Fits (p:Gt.Pt_) (x:zbR):Prop where
 lo:0<=x.n
 hi:x.n<=(p.nodes.length:Int)
theorem ztB{p:Gt.Pt_}{x:zbR}(h:wid p x=true)(h0:0<=x.n):x.n<(p.nodes.length:Int):=by
 unfold wid at h;cases hn:p.nodes[x.n.toNat]? with
 |none=>rw[hn] at h;simp at h|some d=>have:=(yAc.1 hn).1;omega
theorem zrP{p:Gt.Pt_}{x:zbR}(h:wid p x=true)(hf:Fits p x):Fits p (nx x):=⟨by have:=hf.lo;show 0<=x.n+1;omega,by have:=ztB h hf.lo;show x.n+1<=_;omega⟩
theorem Reach.fits{p:Gt.Pt_}{S:zbR->Prop}(hS:∀x,S x->Fits p x){x:zbR}(h:Reach p S x):Fits p x:=by
 induction h with
 |base h=>exact hS _ h|next _ hw ih=>exact zrP hw ih
theorem ztC{p:Gt.Pt_}{x:zbR}(hf:Fits p x) :
  (ob (br (Gt.Sp_.in_ x) (some true) (some (decide ((len (Gt.Pt_.nodes p))<=(Gt.Sp_.n x))))) λb4=>(br b4 (some true) (ob (at? (Gt.Pt_.nodes p) (Gt.Sp_.n x)) λy5=>(ob (br ((Gt.Nd_.kind y5) != 2) (ob (at? (Gt.Pt_.nodes p) (Gt.Sp_.n x)) λy6=>(some ((Gt.Nd_.kind y6) != 4))) (some false)) λb7=>(some b7)))))=some (!wid p x):=by
 obtain ⟨n,i⟩:=x;obtain ⟨k,hk⟩:∃k:Nat,n=(k:Int):=⟨n.toNat,by have h:=hf.lo;have h:0<=n:=h;omega⟩;subst hk;unfold wid;dsimp only;cases i with
 |true=>rfl|false =>
   rw[zab,zaa];by_cases hlt:k<p.nodes.length
   ·rw[decide_eq_false (by simp[len];omega),zab];rw[zhg,show ((k:Int)).toNat=k by omega];rw[yAh hlt];simp only[zaa];cases h2:(p.nodes[k].kind==2) with
    |true=>simp[bne,h2,zab,zaa]|false=>simp only[bne,h2,yAU,zad,zaa];cases h4:(p.nodes[k].kind==4)<;>simp
   ·rw[decide_eq_true (by simp[len];omega),zad,show ((k:Int)).toNat=k by omega,yA0 (by omega)];rfl
end Pe.Tryz
end
section
/- The spots that are reached zbA a sign: the loop ends, and gives these. -/
set_option maxRecDepth 100000
namespace Pe.Tryz
open Go Go.Proofs Pe Pe.Told
def wst(p:Gt.Pt_)(s:SM×Bool×Unit)(y:zbR×Bool):SM×Bool×Unit :=
 bif wid p y.1&& !(zeS eqs (nx y.1) false s.1) then (zfd eqs lts (nx y.1) s.1,true,()) else s
theorem zeZ(p:Gt.Pt_):∀(l:SM)(s:SM×Bool×Unit),IsSet lts s.1 ->
  IsSet lts (l.foldl (wst p) s).1/\(∀z,z∈zaw (l.foldl (wst p) s).1↔z∈zaw s.1\/∃y∈l,wid p y.1=true/\nx y.1=z) /\
  ((l.foldl (wst p) s).2.1=true↔s.2.1=true\/∃y∈l,wid p y.1=true/\nx y.1∉zaw s.1)
 |[],s,hs=>by simp[hs]
 |y::l,s,hs=>by
   simp only[yBt];cases hw:wid p y.1 with
   |false =>
     have e:wst p s y=s:=(by unfold wst;rw[hw];rfl);rw[e];obtain ⟨h1,h2,h3⟩:=zeZ p l s hs;refine ⟨h1,λz=>?_,?_⟩;·rw[h2 z];simp[hw]
     ·rw[h3];simp[hw]
   |true =>
     by_cases hm:nx y.1∈zaw s.1
     ·have e:wst p s y=s:=(by unfold wst;rw[hw,(zdz zba (nx y.1) s.1 hs.all).2 hm];rfl);rw[e];obtain ⟨h1,h2,h3⟩:=zeZ p l s hs;refine ⟨h1,λz=>?_,?_⟩
      ·rw[h2 z];simp only[yAn,exists_eq_or_imp,hw,true_and];constructor
       ·rintro (h|h)
        ·exact .inl h
        ·exact .inr (.inr h)
       ·rintro (h|rfl|h)
        ·exact .inl h
        ·exact .inl hm
        ·exact .inr h
      ·rw[h3];simp only[yAn,exists_eq_or_imp,hw,true_and,hm,not_true,false_or]
     ·have hg:zeS eqs (nx y.1) false s.1=false:=by
       cases h:zeS eqs (nx y.1) false s.1 with
       |false=>rfl|true=>exact absurd ((zdz zba (nx y.1) s.1 hs.all).1 h) hm
      have e:wst p s y=(zfd eqs lts (nx y.1) s.1,true,()):=(by unfold wst;rw[hw,hg];rfl);rw[e];obtain ⟨h1,h2,h3⟩:=zeZ p l (zfd eqs lts (nx y.1) s.1,true,()) (zco zba _ hs);refine ⟨h1,λz=>?_,?_⟩
      ·rw[h2 z,zcp zba (nx y.1) z hs];simp only[yAn,exists_eq_or_imp,hw,true_and];constructor
       ·rintro ((rfl|h)|h)
        ·exact .inr (.inl rfl)
        ·exact .inl h
        ·exact .inr (.inr h)
       ·rintro (h|rfl|h)
        ·exact .inl (.inr h)
        ·exact .inl (.inl rfl)
        ·exact .inr h
      ·rw[h3];simp only[yAn,exists_eq_or_imp,hw,true_and,hm,not_false_eq_true,true_or,or_true]
theorem zqR(p:Gt.Pt_){l l':SM}(hp:l'.Perm l){s:SM×Bool×Unit}(hs:IsSet lts s.1):l'.foldl (wst p) s=l.foldl (wst p) s:=by
 obtain ⟨a1,a2,a3⟩:=zeZ p l s hs;obtain ⟨b1,b2,b3⟩:=zeZ p l' s hs;refine Prod.ext (zgO zba b1 a1 λz=>?_) (Prod.ext ?_ rfl);·rw[a2,b2];simp only[hp.mem_iff]
 ·rw[yBE,a3,b3];simp only[hp.mem_iff]
structure Wide (p:Gt.Pt_) (l r:SM):Prop where
 set:IsSet lts r
 mem:∀x,x∈zaw r↔Reach p (· ∈zaw l) x
theorem Wide.fits{p:Gt.Pt_}{l r:SM}(h:Wide p l r)(hl:∀x∈zaw l,Fits p x):∀x∈zaw r,Fits p x:=λx hx=>Reach.fits hl ((h.mem x).1 hx)
theorem zoX{p:Gt.Pt_}{x:zbR}(hn:p.nodes.length<=1000000)(hf:Fits p x):Gt.Sp_.mk (IntKind.i64.wrap ((Gt.Sp_.n x)+1)) false=nx x:=by have h1:=hf.lo;have h2:=hf.hi;rw[zbT (by omega) (by omega)];rfl
theorem s59(n:Nat){p:Gt.Pt_}(hn:p.nodes.length<=1000000){l:SM}(hl:IsSet lts l)(hf:∀x∈zaw l,Fits p x):∃r,m59 (zal (n+1)) p l=some (r,())/\Wide p l r:=by
 have key:=zpO (R:=(SM×Unit)⊕(SM×Unit)) (f:=λ(t1:SM×Bool×Unit)=>(br t1.2.1 (zdN (κ:=(Gt.Sp_)×(Bool)) (σ:=List ((Gt.Sp_)×(Bool))×Bool×Unit) (R:=_) (λy3 _ (t2:List ((Gt.Sp_)×(Bool))×Bool×Unit)=>(ob (br (Gt.Sp_.in_ y3.1) (some true) (some (decide ((len (Gt.Pt_.nodes p))<=(Gt.Sp_.n y3.1))))) λb4=>(ob (br b4 (some true) (ob (at? (Gt.Pt_.nodes p) (Gt.Sp_.n y3.1)) λy5=>(ob (br ((Gt.Nd_.kind y5) != 2) (ob (at? (Gt.Pt_.nodes p) (Gt.Sp_.n y3.1)) λy6=>(some ((Gt.Nd_.kind y6) != 4))) (some false)) λb7=>(some b7)))) λb8=>(br b8 (some (.inl (t2.1,t2.2.1,()))) (br (!(zeS (keq un (.st 14)) (Gt.Sp_.mk (IntKind.i64.wrap ((Gt.Sp_.n y3.1)+1)) false) false t2.1)) (ob (α:=List ((Gt.Sp_)×(Bool))×Unit) ((zal (n+1)).d 113 [.cont (.fm (.st 14) .bool) t2.1,.st 14 (Gt.Sp_.mk (IntKind.i64.wrap ((Gt.Sp_.n y3.1)+1)) false)] [(.fm (.st 14) .bool)]) λ(r9:List ((Gt.Sp_)×(Bool))×Unit)=>(some (.inl (r9.1,true,())))) (some (.inl (t2.1,t2.2.1,())))))))) (λ(t2:List ((Gt.Sp_)×(Bool))×Bool×Unit)=>(some (.inr (.inl (t2.1,t2.2.1,()))))) t1.1 (t1.1,false,())) (some (.inr (.inl (t1.1,()))))))
  (λt=>((List.range (p.nodes.length+1)).filter λ(k:Nat)=> !(zeS eqs ⟨(k:Int),false⟩ false t.1)).length*2+(bif t.2.1 then 1 else 0))
  (λt=>IsSet lts t.1/\(∀x∈zaw l,x∈zaw t.1)/\(∀x∈zaw t.1,Reach p (· ∈zaw l) x)/\(t.2.1=false->∀x∈zaw t.1,wid p x=true->nx x∈zaw t.1))
  (λr=>∃a,r= .inl (a,())/\Wide p l a)
 have key2:=key ?_ (l,true,()) ⟨hl,λ_ h=>h,λ_ h=>.base h,λh=>by cases h⟩;·obtain ⟨r,h1,a,rfl,hw⟩:=key2;refine ⟨a,?_,hw⟩;unfold m59;exact zaA h1 rfl
 ·clear key
  rintro ⟨t,b,⟨⟩⟩ ⟨hI,hsub,hre,hclo⟩
  dsimp only at hI hsub hre hclo ⊢;cases b with
  |false =>
    refine .inr ⟨.inl (t,()),rfl,t,rfl,hI,λx=>⟨hre x,λh=>?_⟩⟩;induction h with
    |base h=>exact hsub _ h|next _ hw ih=>exact hclo rfl _ ih hw
  |true =>
    left;obtain ⟨w1,w2,w3⟩:=zeZ p t (t,false,()) hI;have hft:∀x∈zaw t,Fits p x:=λx hx=>Reach.fits hf (hre x hx);refine ⟨t.foldl (wst p) (t,false,()),?_,⟨w1,λx hx=>(w2 x).2 (.inl (hsub x hx)),λx hx=>?_,λhb x hx hw=>?_⟩,?_⟩
    ·rw[zad];refine zfv (s:=(t,false,())) (wst p) (λs=>IsSet lts s.1) (λs=>(Sum.inl s:(SM×Bool×Unit)⊕((SM×Unit)⊕(SM×Unit)))) (λ_ _ _ _=>rfl) (λs _=>rfl) (λy hy _ s hs=>?_) hI λq hq=>by rw[zqR p hq hI]
     have hfy:Fits p y.1:=hft _ (yAM.2 ⟨y,hy,rfl⟩);refine ⟨?_,?_⟩
     ·skip
      have h0:=ztC hfy;rw[zoX hn hfy];revert h0;generalize (br (Gt.Sp_.in_ y.1) (some true) (some (decide ((len (Gt.Pt_.nodes p))<=(Gt.Sp_.n y.1)))))=X;intro h0;cases X with
      |none=>cases h0|some b4 =>
        rw[zaa] at h0 ⊢;rw[h0,zaa];unfold wst;cases hw:wid p y.1 with
        |false=>rfl|true =>
          rw[yA7,zab,yB3];show br (!(zeS eqs (nx y.1) false s.1)) _ _=_;cases hg:zeS eqs (nx y.1) false s.1 with
          |true=>rfl|false=>rw[yAU,zad,L113 n hs,zaa];rfl
     ·unfold wst;cases (wid p y.1&& !(zeS eqs (nx y.1) false s.1)) with
      |true=>exact zco zba _ hs|false=>exact hs
    ·rcases (w2 x).1 hx with h|⟨y,hy,hwy,rfl⟩;·exact hre x h
     ·exact .next (hre _ (yAM.2 ⟨y,hy,rfl⟩)) hwy
    ·have hno:∀y∈t,wid p y.1=true->nx y.1∈zaw t:=λy hy hwy=>Classical.byContradiction λhc=>by
      have:=w3.2 (.inr ⟨y,hy,hwy,hc⟩);rw[hb] at this;cases this
     rcases (w2 x).1 hx with h|⟨y,hy,hwy,rfl⟩;·obtain ⟨y,hy,rfl⟩:=yAM.1 h;exact (w2 _).2 (.inl (hno y hy hw))
     ·have h:=hno y hy hwy;obtain ⟨z,hz,he⟩:=yAM.1 h;rw[<-he] at hw ⊢;exact (w2 _).2 (.inl (hno z hz hw))
    ·have hle:∀k:Nat,(!(zeS eqs ⟨(k:Int),false⟩ false (t.foldl (wst p) (t,false,())).1))=true->(!(zeS eqs ⟨(k:Int),false⟩ false t))=true:=λk hk=>by
      cases hg:zeS eqs ⟨(k:Int),false⟩ false t with
      |false=>rfl|true =>have h3:=(zdz zba _ _ w1.all).2 ((w2 _).2 (.inl ((zdz zba _ _ hI.all).1 hg)));rw[h3] at hk;cases hk
     cases hb:(t.foldl (wst p) (t,false,())).2.1 with
     |false =>
       have hno:∀y∈t,wid p y.1=true->nx y.1∈zaw t:=λy hy hwy=>Classical.byContradiction λhc=>by have:=w3.2 (.inr ⟨y,hy,hwy,hc⟩);rw[hb] at this;cases this
       have heq:(t.foldl (wst p) (t,false,())).1=t:=zgO zba w1 hI λz=>by
        rw[w2];constructor
        ·rintro (h|⟨y,hy,hwy,rfl⟩)
         ·exact h
         ·exact hno y hy hwy
        ·exact .inl
       rw[heq];simp only[cond_false,cond_true];omega
     |true =>
       rcases w3.1 hb with h|⟨y,hy,hwy,hc⟩;·cases h
       ·have hfy:Fits p y.1:=hft _ (yAM.2 ⟨y,hy,rfl⟩);have hfn:=zrP hwy hfy;have e:(⟨((y.1.n+1).toNat:Int),false⟩:zbR)=nx y.1:=by
         have h0:0<=y.1.n+1:=hfn.lo;unfold nx;rw[Int.toNat_of_nonneg h0]
        have:=zrA (l:=List.range (p.nodes.length+1)) (x:=(y.1.n+1).toNat) hle (by have h1:y.1.n+1<=_:=hfn.hi;have h0:0<=y.1.n+1:=hfn.lo;rw[yBC];omega) (by
         rw[e];cases hg:zeS eqs (nx y.1) false t with
         |false=>rfl|true=>exact absurd ((zdz zba _ _ hI.all).1 hg) hc) (by
         rw[e,(zdz zba _ _ w1.all).2 ((w2 _).2 (.inr ⟨y,hy,hwy,rfl⟩))];rfl)
        simp only[cond_true];omega
theorem L59(n:Nat){p:Gt.Pt_}(hn:p.nodes.length<=1000000){l:SM}(hl:IsSet lts l)(hf:∀x∈zaw l,Fits p x):∃r,@Eq (Option (SM×Unit)) ((zal (n+2)).d 59 [.st 11 p,.cont (.fm (.st 14) .bool) l] [(.fm (.st 14) .bool)]) (some (r,()))/\Wide p l r:=by obtain ⟨r,h1,h2⟩:=s59 n hn hl hf;exact ⟨r,(q59 (n+1) _ _).trans h1,h2⟩
end Pe.Tryz
end
section
/- The steps of a pattern by the signs of a name. -/
set_option maxRecDepth 100000
namespace Pe.Tryz
open Go Go.Proofs Pe Pe.Told
def zgI(d:Gt.Nd_)(x:zbR)(g:Int):zbR×Bool :=
 bif d.kind==1 then (nx x,g==IntKind.i64.wrap d.b) else bif d.kind==2 then (x,bif decide (g<256) then g != 47 else false) else bif d.kind==3 then (nx x,g==256) else
 bif d.kind==5 then (nx x,g==257) else bif d.kind==4 then (bif g==256 then (⟨x.n,false⟩,x.in_) else (⟨x.n,true⟩,decide (g<256))) else
 (⟨x.n,true⟩,bif g==257 then (bif x.in_ then (bif decide (g<256) then true else false) else true) else (bif decide (g<256) then x.in_ else false))
def zes(p:Gt.Pt_)(x:zbR)(g:Int):zbR×Bool:=match p.nodes[x.n.toNat]? with
 |some d=>zgI d x g|none=>(⟨0,false⟩,false)
theorem zmL{p:Gt.Pt_}{x:zbR}(hf:Fits p x):∃k:Nat,x.n=(k:Int)/\k<=p.nodes.length:=⟨x.n.toNat,by have:=hf.lo;omega,by have:=hf.hi;have:=hf.lo;omega⟩
theorem s60(o:Orc Sx){p:Gt.Pt_}(hn:p.nodes.length<=1000000){x:zbR}(hf:Fits p x)(g:Int):m60 o p x g=some ((zes p x g).1,(zes p x g).2,()):=by
 have hw:=zoX hn hf;obtain ⟨k,hk,hkn⟩:=zmL hf;unfold m60 zes;rw[hw,hk,show ((k:Int)).toNat=k by omega];by_cases hlt:k<p.nodes.length
 ·rw[decide_eq_false (by simp[len];omega),zab,zhg,yAh hlt];simp only[zaa];generalize p.nodes[k]=d;unfold zgI;rw[hk];cases d.kind==1 with
  |true=>rfl|false =>
  cases d.kind==2 with
  |true=>cases decide (g<256)<;>rfl|false =>
  cases d.kind==3 with
  |true=>rfl|false =>
  cases d.kind==5 with
  |true=>rfl|false =>
  cases d.kind==4 with
  |true=>cases g==256<;>rfl|false=>cases g==257<;>cases decide (g<256)<;>cases x.in_<;>rfl
 ·rw[decide_eq_true (by simp[len];omega),zad,yA0 (by omega)]
theorem L60(n:Nat){p:Gt.Pt_}(hn:p.nodes.length<=1000000){x:zbR}(hf:Fits p x)(g:Int): @Eq (Option (zbR×Bool×Unit)) ((zal (n+1)).d 60 [.st 11 p,.st 14 x,.int .i64 g] [(.st 14),.bool]) (some ((zes p x g).1,(zes p x g).2,())):=(q60 n _ _ _).trans (s60 _ hn hf g)
theorem zo5{p:Gt.Pt_}{x:zbR}(hf:Fits p x){g:Int}(h:(zes p x g).2=true):Fits p (zes p x g).1:=by
 obtain ⟨k,hk,hkn⟩:=zmL hf;unfold zes at h ⊢;rw[hk,show ((k:Int)).toNat=k by omega] at h ⊢;cases hd:p.nodes[k]? with
 |none=>rw[hd] at h;cases h|some d =>
   have hlt:=(yAc.1 hd).1;have hnx:Fits p (nx x):=⟨by show 0<=x.n+1;omega,by show x.n+1<=_;omega⟩;have hsame:∀b,Fits p ⟨x.n,b⟩:=λb=>⟨hf.lo,hf.hi⟩;show Fits p (zgI d x g).1;unfold zgI;cases d.kind==1 with
   |true=>exact hnx|false =>
   cases d.kind==2 with
   |true=>exact hf|false =>
   cases d.kind==3 with
   |true=>exact hnx|false =>
   cases d.kind==5 with
   |true=>exact hnx|false =>
   cases d.kind==4 with
   |true=>cases g==256<;>exact hsame _|false=>exact hsame _
def Nxt(p:Gt.Pt_)(S:zbR->Prop)(g:Int):zbR->Prop:=Reach p λz=>∃x,S x/\zes p x g=(z,true)
def After(p:Gt.Pt_):List Int->(zbR->Prop)->zbR->Prop|[],S=>S|g::r,S=>After p r (Nxt p S g)
theorem Reach.congr{p:Gt.Pt_}{S T:zbR->Prop}(h:∀x,S x↔T x)(x:zbR):Reach p S x↔Reach p T x:=by have:S=T:=funext λx=>propext (h x);rw[this]
theorem After.congr{p:Gt.Pt_}{g:List Int}{S T:zbR->Prop}(h:∀x,S x↔T x)(x:zbR):After p g S x↔After p g T x:=by have:S=T:=funext λx=>propext (h x);rw[this]
theorem Reach.none{p:Gt.Pt_}{S:zbR->Prop}(h:∀x,¬S x)(x:zbR):¬Reach p S x:=λhx=>by
 induction hx with
 |base hx=>exact h _ hx|next _ _ ih=>exact ih
theorem After.none{p:Gt.Pt_}:∀(g:List Int){S:zbR->Prop},(∀x,¬S x)->∀x,¬After p g S x|[],_,h=>h|_::r,_,h=>After.none r (Reach.none λ_ ⟨_,hx,_⟩=>h _ hx)
def sto(p:Gt.Pt_)(g:Int)(y:zbR×Bool):Option zbR:=if (zes p y.1 g).2=true then some (zes p y.1 g).1 else none
theorem s22(n:Nat){p:Gt.Pt_}(hn:p.nodes.length<=1000000){l:SM}(hf:∀x∈zaw l,Fits p x)(g:Int) :
  ∃r,m22 (zal (n+2)) p l g=some (r,())/\IsSet lts r/\(∀x∈zaw r,Fits p x)/\∀x,x∈zaw r↔Nxt p (· ∈zaw l) g x:=by
 have hF:=λq:SM=>zgq zba (sto p g) q [] IsSet.nil;have hmid:∀z,z∈zaw (l.foldl (λs y=>zqL eqs lts (sto p g y) s) [])↔∃x,x∈zaw l/\zes p x g=(z,true):=λz=>by
  refine ((hF l).2 z).trans ?_;simp only[yBh,yBF,false_or];constructor
  ·rintro ⟨y,hy,h⟩
   unfold sto at h;split at h;·rename_i h2;cases h;exact ⟨y.1,yAM.2 ⟨y,hy,rfl⟩,Prod.ext rfl h2⟩
   ·cases h
  ·rintro ⟨x,hx,h⟩
   obtain ⟨y,hy,rfl⟩:=yAM.1 hx;exact ⟨y,hy,by unfold sto;rw[h];rfl⟩
 have hfm:∀z∈zaw (l.foldl (λs y=>zqL eqs lts (sto p g y) s) []),Fits p z:=λz hz=>by obtain ⟨x,hx,h⟩:=(hmid z).1 hz;have:=zo5 (hf x hx) (g:=g) (by rw[h]);rwa[h] at this
 obtain ⟨r,h1,h2⟩:=L59 n hn (hF l).1 hfm;refine ⟨r,?_,h2.set,h2.fits hfm,λx=>(h2.mem x).trans (Reach.congr hmid x)⟩;unfold m22;refine zaA (zfv (λs y=>(zqL eqs lts (sto p g y) s.1,())) (λ_=>True) (λs=>.inl (s.1,())) (λ_ _ _ _=>rfl) (λ_ _=>rfl) (λy hy _ s _=>⟨?_,trivial⟩) trivial λq hq=>?_) ?_
 ·rw[L60 (n+1) hn (hf y.1 (yAM.2 ⟨y,hy,rfl⟩)),zaa];unfold sto;cases (zes p y.1 g).2 with
  |true=>rfl|false=>rfl
 ·rw[zdo (λ(s:SM) (y:zbR×Bool)=>zqL eqs lts (sto p g y) s),zdo (λ(s:SM) (y:zbR×Bool)=>zqL eqs lts (sto p g y) s)];refine congrArg (λz=>Sum.inl (z,())) (zgO zba (hF q).1 (hF l).1 λz=>((hF q).2 z).trans (Iff.trans ?_ ((hF l).2 z).symm));simp only[hq.mem_iff]
 ·rw[zdo (λ(s:SM) (y:zbR×Bool)=>zqL eqs lts (sto p g y) s)];rw[zai,h1];rfl
theorem L22(n:Nat){p:Gt.Pt_}(hn:p.nodes.length<=1000000){l:SM}(hf:∀x∈zaw l,Fits p x)(g:Int) :
  ∃r,@Eq (Option (SM×Unit)) ((zal (n+3)).d 22 [.st 11 p,.cont (.fm (.st 14) .bool) l,.int .i64 g] [(.fm (.st 14) .bool)]) (some (r,()))/\IsSet lts r/\(∀x∈zaw r,Fits p x)/\∀x,x∈zaw r↔Nxt p (· ∈zaw l) g x:=by
 obtain ⟨r,h1,h2⟩:=s22 n hn hf g;exact ⟨r,(q22 (n+2) _ _ _).trans h1,h2⟩
def znS(p:Gt.Pt_)(x:zbR):Bool:=bif x.n==len p.nodes then true else match p.nodes[x.n.toNat]? with
 |some d=>d.kind==6|none=>false
theorem s23(o:Orc Sx){p:Gt.Pt_}{x:zbR}(hf:Fits p x):m23 o p x=some (znS p x,()):=by
 obtain ⟨k,hk,hkn⟩:=zmL hf;unfold m23 znS;rw[hk,show ((k:Int)).toNat=k by omega];cases he:((k:Int)==len p.nodes) with
 |true=>rfl|false =>
   have:k<p.nodes.length:=by rw[beq_eq_false_iff_ne] at he;unfold len at he;omega
   rw[zab,zhg,yAh this];rfl
theorem L23(n:Nat){p:Gt.Pt_}{x:zbR}(hf:Fits p x): @Eq (Option (Bool×Unit)) ((zal (n+1)).d 23 [.st 11 p,.st 14 x] [.bool]) (some (znS p x,())):=(q23 n _ _).trans (s23 _ hf)
def zgJ:zbR:=⟨0,false⟩
theorem L20(n:Nat){p:Gt.Pt_}(hn:p.nodes.length<=1000000):∃r,@Eq (Option (SM×Unit)) ((zal (n+3)).d 20 [.st 11 p] [(.fm (.st 14) .bool)]) (some (r,()))/\IsSet lts r/\(∀x∈zaw r,Fits p x)/\∀x,x∈zaw r↔Reach p (· =zgJ) x:=by
 have hk:∀x,x∈zaw (zfd eqs lts zgJ [])↔x=zgJ:=λx=>by rw[zcp zba zgJ x IsSet.nil];simp
 have hf:∀x∈zaw (zfd eqs lts zgJ []),Fits p x:=λx hx=>by rw[(hk x).1 hx];exact ⟨Int.le_refl _,by show (0:Int)<=_;omega⟩
 obtain ⟨r,h1,h2⟩:=L59 n hn (zco zba zgJ IsSet.nil) hf;refine ⟨r,(q20 (n+2) _).trans ?_,h2.set,h2.fits hf,λx=>(h2.mem x).trans (Reach.congr hk x)⟩;unfold m20;exact (congrArg (λz=>ob z _) h1).trans rfl
end Pe.Tryz
end
section
/- The signs of a name; does a pattern that was read match it? -/
set_option maxRecDepth 100000
namespace Pe.Tryz
open Go Go.Proofs Pe Pe.Told
theorem zg8:∀(s:B)(a:List Int),s.foldl (λb c=>b++[(UInt8.toNat c:Int)]) a=a++zah s
 |[],a=>by simp[zah]
 |c::s,a=>by rw[yBt,zg8 s];simp[zah]
theorem zh0(c:UInt8):IntKind.i64.wrap (UInt8.toNat c:Int)=(UInt8.toNat c:Int):=zbT (by omega) (by have:=c.toNat_lt;omega)
theorem zoM{A R:Type}(y:B)(L:A)(a:List Int)(h:a.length+y.length<=1000000) :
  zau (R:=(List Int×A×Unit)⊕R) (λ(t7:List (Int)×A×Int×Unit)=>(br (decide (t7.2.2.1<(len y))) (ob (at? y t7.2.2.1) λc16=>(ob (zbf t7.1 [(IntKind.i64.wrap (UInt8.toNat c16:Int))]) λl9=>(some (.inl (l9,t7.2.1,(IntKind.i64.wrap (t7.2.2.1+1)),()))))) (some (.inr (.inl (t7.1,t7.2.1,())))))) (a,L,0,())=some (.inl (a++zah y,L,())):=by
 refine (zgf (λk (b:List Int)=>(b,L,(k:Int),())) y (λb c=>b++[(UInt8.toNat c:Int)]) (λb=>.inl (b,L,())) (λk b=>b.length<=a.length+k) (λk hk b hI=>⟨?_,by simp only[yAr,yAi,yAZ];omega⟩) (λb _=>?_) a (by omega)).trans (by rw[zg8]);·simp only[zaW,hk,decide_true,zad,zaX hk,zaa,zaD hk (by omega),zh0];rw[zbj (by simp[lim];omega)];rfl
 ·simp[zaW,zab]
theorem zmQ{R:Type}(y:B)(a:List Int)(h:a.length+y.length<=1000000) :
  zau (R:=(List Int×Unit)⊕R) (λ(t13:List (Int)×Int×Unit)=>(br (decide (t13.2.1<(len y))) (ob (at? y t13.2.1) λc64=>(ob (zbf t13.1 [(IntKind.i64.wrap (UInt8.toNat c64:Int))]) λl15=>(some (.inl (l15,(IntKind.i64.wrap (t13.2.1+1)),()))))) (some (.inr (.inl (t13.1,())))))) (a,0,())=some (.inl (a++zah y,())):=by
 refine (zgf (λk (b:List Int)=>(b,(k:Int),())) y (λb c=>b++[(UInt8.toNat c:Int)]) (λb=>.inl (b,())) (λk b=>b.length<=a.length+k) (λk hk b hI=>⟨?_,by simp only[yAr,yAi,yAZ];omega⟩) (λb _=>?_) a (by omega)).trans (by rw[zg8]);·simp only[zaW,hk,decide_true,zad,zaX hk,zaa,zaD hk (by omega),zh0];rw[zbj (by simp[lim];omega)];rfl
 ·simp[zaW,zab]
def zcP(a:List Int):List Int:=bif decide (0<len a) then a++[256] else a
def sgF(a:List Int)(s:B):List Int:=zcP a++zah s
def parts(p:Gt.Purl):List B:=zdf p.space++[p.name]
def zeH(p:Gt.Purl):List Int:=bif p.version != [] then ((parts p).foldl sgF []++[257])++zah p.version else (parts p).foldl sgF []
theorem zh7(a:List Int):(zcP a).length<=a.length+1:=by unfold zcP;cases decide (0<len a)<;>simp
theorem zmi{M:Nat}:∀(l:List B)(a:List Int),(∀x∈l,x.length<=M)->(l.foldl sgF a).length<=a.length+l.length*(M+1)
 |[],a,_=>by simp
 |x::l,a,h=>by have ih:=zmi l (sgF a x) λy hy=>h y (by simp[hy]);have h1:=zh7 a;have h2:=h x (by simp);have h3:(sgF a x).length<=a.length+1+M:=(by unfold sgF;rw[yAr,zbi];omega);simp only[yBt,yAi,Nat.succ_mul];omega
theorem znl{p:Gt.Purl}(T:Tiny p):(parts p).length<=202/\∀x∈parts p,x.length<=200:=by
 have h1:=ze4 p.space;have h2:=T.space;refine ⟨by simp[parts];omega,λx hx=>?_⟩;unfold parts at hx;rcases yAo.1 hx with hx|hx;·have:=zm5 hx;omega
 ·rw[yBk.1 hx];exact T.name
theorem s21(n:Nat){p:Gt.Purl}(T:Tiny p):m21 (zal (n+2)) p=some (zeH p,()):=by
 obtain ⟨hl,hm⟩:=znl T;have hv:=T.version;have hsl:=ze4 p.space;have hsp:=T.space;have hb:((parts p).foldl sgF []).length<=50000:=by have:=zmi (parts p) [] hm;have:(parts p).length*(200+1)<=202*201:=yBG hl (yAj _);simp only[yAZ] at *;omega
 unfold m21;refine zaA (r:= .inl ((parts p).foldl sgF [],())) ?_ ?_
 ·rw[L46 n (by omega),zaa];rw[show Nat.blt 0 (List.length ([p.name]:List B))=true from rfl,cond_true,zbj (by simp[lim];omega),zaa];show zau _ ([],parts p,0,())=_;refine zgf (λk (a:List Int)=>(a,parts p,(k:Int),())) (parts p) sgF (λa=>(Sum.inl (a,()):(List Int×Unit)⊕(List Int×Unit))) (λk a=>a.length<=k*201) (λk hk a hI=>?_) (λa _=>?_) [] (by simp)
  ·have hx:=hm _ (yBg hk);have h1:=zh7 a;have hk2:k*201<=202*201:=yBG (by omega) (yAj _);refine ⟨?_,by unfold sgF;rw[yAr,zbi,Nat.succ_mul];omega⟩;show br (decide ((k:Int)<len (parts p))) _ _=_;rw[decide_eq_true (zaW.mpr hk),zad];refine zaA (r:= .inl (sgF a (parts p)[k],parts p,())) ?_ ?_
   ·rw[zaX hk,zaa];refine zaA (r:= .inl (zcP a,parts p,())) ?_ ?_
    ·unfold zcP;cases decide (0<len a) with
     |true=>rw[zad,zbj (by simp[lim];omega)];rfl|false=>rfl
    ·rw[zai];exact zoM (parts p)[k] (parts p) (zcP a) (by omega)
   ·rw[zai,zaD hk (by omega)]
  ·show br (decide (((parts p).length:Int)<len (parts p))) _ _=_;rw[decide_eq_false (by simp[len]),zab]
 ·rw[zai];refine zaA (r:= .inl (zeH p,())) ?_ rfl;unfold zeH;cases p.version != [] with
  |false=>rfl|true =>rw[zad,zbj (by simp[lim];omega),zaa,cond_true];exact zmQ p.version _ (by simp only[yAr,yAi,yAZ];omega)
theorem L21(n:Nat){p:Gt.Purl}(T:Tiny p): @Eq (Option (List Int×Unit)) ((zal (n+3)).d 21 [.st 3 p] [(.sl (.int .i64))]) (some (zeH p,())):=(q21 (n+2) _).trans (s21 n T)
theorem zpa{p:Gt.Purl}(T:Tiny p):(zeH p).length<=100000:=by obtain ⟨hl,hm⟩:=znl T;have hv:=T.version;have:=zmi (parts p) [] hm;have:(parts p).length*(200+1)<=202*201:=yBG hl (yAj _);unfold zeH;cases p.version != []<;>simp only[cond_true,cond_false,yAr,yAi,yAZ,zbi] at* <;>omega
end Pe.Tryz
end
section
/- Matches, once the pattern is read. -/
set_option maxRecDepth 100000
namespace Pe.Tryz
open Go Go.Proofs Pe Pe.Told
def zhk(p:Gt.Pt_)(g:List Int):Prop:=∃y,After p g (Reach p (· =zgJ)) y/\znS p y=true
noncomputable instance (p:Gt.Pt_) (g:List Int):Decidable (zhk p g):=Classical.propDecidable _
noncomputable def zjy(q:Gt.Pt_)(e:Int)(p:Gt.Purl):Bool×Int×Unit :=
 bif e != 0 then (false,e,()) else bif zcr p != 0 then (false,zcr p,()) else
 (bif (bif q.kind != [42] then q.kind != (za7 p).kind else false) then false else decide (zhk q (zeH (za7 p))),0,())
theorem s9(n:Nat){s:B}{p:Gt.Purl}{q:Gt.Pt_}{a e:Int}(h18: @Eq (Option (Gt.Pt_×Int×Int×Unit)) ((zal (n+4)).d 17 [.str s] [(.st 11),(.int .i64),(.int .i64)]) (some (q,a,e,())))
  (hn:e=0->q.nodes.length<=1000000) (h:p.qualifiers.length<=1000000000):m9 (zal (n+4)) s p=some (zjy q e p):=by
 unfold m9 zjy;rw[h18,zaa];dsimp only;cases he:(e != 0) with
 |true=>rfl|false =>
   have hn:=hn (by simpa using he);rw[zab,cond_false,L16 n h,zaa];dsimp only;cases hc:(zcr p != 0) with
   |true=>rfl|false =>
     have T:=zhc (p:=p) (by simpa using hc);rw[zab,cond_false,L19 n T,zaa];dsimp only;rw[zav,zaa];cases (bif q.kind != [42] then q.kind != (za7 p).kind else false) with
     |true=>rfl|false =>
       rw[zab,cond_false];obtain ⟨l0,e0,hs0,hf0,hm0⟩:=L20 (n+1) hn;rw[e0,zaa];dsimp only;have hT:=zgG T;generalize hg:zeH (za7 p)=g;have hgl:g.length<=100000:=hg▸zpa hT
       have key:=zpO (R:=(SM×Unit)⊕(Bool×Int×Unit)) (f:=λ(t7:List ((Gt.Sp_)×(Bool))×Int×Unit)=>(br (decide (t7.2.1<(len g))) (ob (at? g t7.2.1) λy8=>(ob (α:=List ((Gt.Sp_)×(Bool))×Unit) ((zal (n+4)).d 22 [.st 11 q,.cont (.fm (.st 14) .bool) t7.1,.int .i64 y8] [(.fm (.st 14) .bool)]) λ(r9:List ((Gt.Sp_)×(Bool))×Unit)=>(br ((len r9.1)==0) (some (.inr (.inr (false,0,())))) (some (.inl (r9.1,(IntKind.i64.wrap (t7.2.1+1)),())))))) (some (.inr (.inl (t7.1,()))))))
        (λt=>g.length - t.2.1.toNat)
        (λt=>∃k:Nat,t.2.1=(k:Int)/\k<=g.length/\IsSet lts t.1/\(∀x∈zaw t.1,Fits q x)/\∀x,After q (g.drop k) (· ∈zaw t.1) x↔After q g (Reach q (· =zgJ)) x)
        (λr=>(∃l,r= .inl (l,())/\(∀x∈zaw l,Fits q x)/\∀x,x∈zaw l↔After q g (Reach q (· =zgJ)) x)\/(r= .inr (false,0,())/\∀x,¬After q g (Reach q (· =zgJ)) x))
       have hI:∃k:Nat,(0:Int)=(k:Int)/\k<=g.length/\IsSet lts l0/\(∀x∈zaw l0,Fits q x)/\∀x,After q (g.drop k) (· ∈zaw l0) x↔After q g (Reach q (· =zgJ)) x:=⟨0,rfl,yAD _,hs0,hf0,λx=>After.congr hm0 x⟩;have key2:=key ?_ (l0,0,()) hI
       ·obtain ⟨r,h1,h2⟩:=key2;rcases h2 with ⟨l,rfl,hfl,hml⟩|⟨rfl,hno⟩
        ·refine zaA (r:= .inl (l,())) ?_ ?_;·rw[L21 (n+1) hT,hg,zaa];exact h1
         ·rw[zai]
          have hr:=zoj (l:=l) (f:=λ(y12:Gt.Sp_×Bool) _ (t11:Unit)=>(ob (α:=Bool×Unit) ((zal (n+4)).d 23 [.st 11 q,.st 14 y12.1] [.bool]) λ(r13:Bool×Unit)=>(br r13.1 (some (.inr (.inr (true,0,())))) (some (.inl (())))))) (g:=λ(t11:Unit)=>(some (.inr (.inl (())))))
           (λy=>znS q y.1) (.inr (true,0,()):Unit⊕(Bool×Int×Unit)) (.inl ()) () (λ_ _ _ _=>rfl) rfl λy hy _=>by rw[L23 (n+3) (hfl y.1 (yAM.2 ⟨y,hy,rfl⟩)),zaa];cases znS q y.1<;>rfl
          refine (congrArg (λz=>zaJ z _) hr).trans ?_;have hd:decide (zhk q g)=l.any λy=>znS q y.1:=by
           rw[yBE,decide_eq_true_iff,yBc];constructor
           ·rintro ⟨y,hy,hey⟩
            obtain ⟨z,hz,rfl⟩:=yAM.1 ((hml y).2 hy);exact ⟨z,hz,hey⟩
           ·rintro ⟨z,hz,hez⟩
            exact ⟨z.1,(hml _).1 (yAM.2 ⟨z,hz,rfl⟩),hez⟩
          rw[hd];cases l.any λy=>znS q y.1<;>rfl
        ·refine zaA (r:= .inr (false,0,())) ?_ ?_;·rw[L21 (n+1) hT,hg,zaa];exact h1
         ·rw[decide_eq_false (λ⟨y,hy,_⟩=>hno y hy)];rfl
       ·clear key hI
        rintro ⟨t,i,⟨⟩⟩ ⟨k,hk,hkg,hs,hf,hm⟩
        dsimp only at hk hs hf hm ⊢;subst hk;by_cases hlt:k<g.length
        ·rw[decide_eq_true (zaW.mpr hlt),zad,zaX hlt,zaa];obtain ⟨r,h1,h2,h3,h4⟩:=L22 (n+1) hn hf g[k];rw[h1,zaa,zaD hlt (by omega)];dsimp only;have hm2:∀x,After q (g.drop (k+1)) (· ∈zaw r) x↔After q g (Reach q (· =zgJ)) x:=λx=>by
          rw[<-hm x,yAI hlt];exact After.congr h4 x
         cases hr:(len r==0) with
         |true =>
           rw[zad];have:r=[]:=by
            have:len r=0:=by simpa using hr
            exact yAO.1 (by unfold len at this;omega)
           subst this;exact .inr ⟨_,rfl,.inr ⟨rfl,λx hx=>After.none _ (by simp) x ((hm2 x).2 hx)⟩⟩
         |false =>rw[zab];exact .inl ⟨_,rfl,⟨k+1,rfl,hlt,h2,h3,hm2⟩,by simp only[Int.toNat_natCast];omega⟩
        ·obtain rfl:k=g.length:=by omega
         rw[decide_eq_false (by simp[len]),zab];refine .inr ⟨_,rfl,.inl ⟨t,rfl,hf,λx=>?_⟩⟩;have:=hm x;rwa[yB6 (yAj _)] at this
end Pe.Tryz
end
