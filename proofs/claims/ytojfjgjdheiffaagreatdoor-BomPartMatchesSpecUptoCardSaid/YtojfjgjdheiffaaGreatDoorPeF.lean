/- PROVED HERE: a part of the seat's proofs; see the text that holds the claim's theorem. -/
import Derived.Test.YtojfjgjdheiffaaGreatDoorPeD
section
namespace Pe
open Go Go.RowKit
variable{S:Nat->Type}
section
variable{un:Uni S}{tb:Tb S}{orc:Orc S}{inl:Inl S}{R:Type}
theorem zfc{α β γ:Type}(x:Option α)(f:α->Option β)(K:β->Option γ):(ob x f).bind K=ob x λa=>(f a).bind K:=by cases x<;>rfl
theorem zil{β γ:Type}(b:Bool)(x y:Option β)(K:β->Option γ):(br b x y).bind K=br b (x.bind K) (y.bind K):=by cases b<;>rfl
theorem zoS{α β γ δ:Type}(x:Option (α⊕β))(f:α->Option γ)(g:β->Option γ)(K:γ->Option δ):(oc x f g).bind K=oc x (λa=>(f a).bind K) λb=>(g b).bind K:=by
 cases x with
 |none=>rfl|some x=>cases x<;>rfl
theorem zeJ{β γ:Type}(b:Bool)(x y:Option β)(K:β->Option γ):(bif b then x else y).bind K=bif b then x.bind K else y.bind K:=by cases b<;>rfl
theorem znh{op:BinOp}{k:IntKind}{a b:Int}(K:PV S->Option R):zr7 op k a b K=(zr7 op k a b some).bind K:=by unfold zr7;split<;>first|rfl|(rw[zeJ];rfl)
theorem zq0{op:BinOp}{k:IntKind}{a b:Int}(K:PV S->Option R):zta op k a b K=(zta op k a b some).bind K:=by cases op<;>first|rfl|exact znh K|(cases b with|ofNat n=>cases n<;>rfl|negSucc n=>rfl)
theorem zqZ{op:BinOp}{a b:By}(K:PV S->Option R):zsk op a b K=(zsk op a b some).bind K:=by cases op<;>first|rfl|grind[zsk,zfc]
theorem zoO(o:Oper)(e:Env S)(bx:Bxs S)(K:PV S->Option R):zeN un tb orc inl o e bx K=(zeN un tb orc inl o e bx some).bind K:=by
 unfold zeN
 repeat' split
 all_goals first|rfl|exact zq0 K|exact znh K|exact zqZ K|(simp only[zfc,zil,zeJ,yAB,yB7];done)
theorem zoN(o:Oper)(e:Env S)(bx:Bxs S)(K:PV S->Option R):zfE un tb orc inl o e bx K=(zfE un tb orc inl o e bx some).bind K:=by
 unfold zfE
 repeat' split
 all_goals first|rfl|exact zoO o e bx K|(simp only[zfc,zil,zeJ,yAB,yB7];done)|(rw[zfc];congr 1;funext y;split<;>rfl)
theorem zz9(o:Oper)(e:Env S)(bx:Bxs S)(K:PV S->Option R):zy1 un tb orc inl o e bx K=(zy1 un tb orc inl o e bx some).bind K:=by
 unfold zy1
 repeat' split
 all_goals first|rfl|exact zoN o e bx K|(simp only[zfc,zil,zeJ,yAB,yB7];done)
theorem zhe(o:Oper)(e:Env S)(bx:Bxs S)(K:PV S->Option R):zhf un tb orc inl o e bx K=(zhf un tb orc inl o e bx some).bind K:=by
 unfold zhf
 repeat' split
 all_goals first|rfl|exact zz9 o e bx K|(simp only[zfc,zil,zeJ,yAB,yB7];done)
abbrev Oc(S:Nat->Type):=(PV S×Env S×Bxs S)⊕(Exit×Env S×Bxs S)
def k0(p:PV S)(e:Env S)(bx:Bxs S):Option (Oc S):=some (.inl (p,e,bx))
def kx(x:Exit)(e:Env S)(bx:Bxs S):Option (Oc S):=some (.inr (x,e,bx))
def kk(K:PV S->Env S->Bxs S->Option R)(KX:Exit->Env S->Bxs S->Option R):Oc S->Option R| .inl z=>K z.1 z.2.1 z.2.2| .inr z=>KX z.1 z.2.1 z.2.2
theorem zkH(o:Oper)(e:Env S)(bx:Bxs S)(K:PV S->Env S->Bxs S->Option R)(KX:Exit->Env S->Bxs S->Option R) :
  zhf un tb orc inl o e bx (λp=>K p e bx)=(zhf un tb orc inl o e bx λp=>k0 p e bx).bind (kk K KX):=by
 rw[zhe,zhe (K:=λp=>k0 p e bx),Option.bind_assoc];rfl
theorem zoQ(o:Oper)(e:Env S)(bx:Bxs S)(K:PV S->Env S->Bxs S->Option R)(KX:Exit->Env S->Bxs S->Option R) :
  zc8 un tb orc inl o e bx K KX=(zc8 un tb orc inl o e bx k0 kx).bind (kk K KX):=by
 unfold zc8 zib
 repeat' split
 all_goals first|rfl|exact zkH o e bx K KX|(simp only[zfc,zil,zoS,zeJ,yB7];done)|(simp only[zfc,zil,zoS,zeJ,yB7];rfl)
theorem zke{β γ:Type}{c:Bool}{x y:Option γ}{x' y':Option β}{K:β->Option γ}(hx:x=x'.bind K)(hy:y=y'.bind K):(bif c then x else y)=(bif c then x' else y').bind K:=by grind
theorem zra{α β γ:Type}{a:Option α}{f:α->Option γ}{g:α->Option β}{K:β->Option γ}(h:∀x,f x=(g x).bind K):ob a f=(ob a g).bind K:=by cases a with|none=>rfl|some x=>exact h x
theorem zq9{α β γ δ:Type}{x:Option (α⊕β)}{f:α->Option δ}{g:β->Option δ}{f':α->Option γ}{g':β->Option γ}{K:γ->Option δ}(h1:∀a,f a=(f' a).bind K)(h2:∀a,g a=(g' a).bind K):oc x f g=(oc x f' g').bind K:=by
 cases x with
 |none=>rfl|some x=>cases x with|inl a=>exact h1 a|inr b=>exact h2 b
theorem zl5(e:Env S)(bx:Bxs S)(l:List (PV S))(g:Sg)(ask:g.In S->Option (g.Out S))(K:PV S->Env S->Bxs S->Option R)(KX:Exit->Env S->Bxs S->Option R) :
  zgB un e bx l g ask K KX=(zgB un e bx l g ask k0 kx).bind (kk K KX):=by
 unfold zgB;dsimp only
 repeat' first|rfl|refine zke ?_ ?_|refine zq9 (λ_=>?_) λ_=>?_|split
theorem zoP(o:Oper)(e:Env S)(bx:Bxs S)(K:PV S->Env S->Bxs S->Option R)(KX:Exit->Env S->Bxs S->Option R) :
  zfa un tb orc inl o e bx K KX=(zfa un tb orc inl o e bx k0 kx).bind (kk K KX):=by
 unfold zfa zk4 zlW zlX zlY zjM
 repeat' first|rfl|exact zl5 e bx _ _ _ K KX|exact zkH o e bx K KX|exact zoQ o e _ K KX|refine zke ?_ ?_|refine zra λ_=>?_|refine zq9 (λ_=>?_) λ_=>?_|split
 all_goals (rw[zhe,zhe (K:=λp=>bif znF p then k0 p e bx else none),Option.bind_assoc];congr 1;funext p;exact zke rfl rfl)
theorem zAa(o:Oper)(e:Env S)(bx:Bxs S)(K:PV S->Env S->Bxs S->Option R)(KX:Exit->Env S->Bxs S->Option R) :
  zy2 un tb orc inl o e bx K KX=(zy2 un tb orc inl o e bx k0 kx).bind (kk K KX):=by
 unfold zy2 zkd zhl zif
 repeat' first|rfl|exact zoP o e _ K KX|refine zke ?_ ?_|refine zra λ_=>?_|split
theorem zqm(o:Oper)(e:Env S)(bx:Bxs S)(K:PV S->Env S->Bxs S->Option R)(KX:Exit->Env S->Bxs S->Option R) :
  zpS un tb orc inl o e bx K KX=(zpS un tb orc inl o e bx k0 kx).bind (kk K KX):=by
 unfold zpS zCn zCx
 repeat' first|rfl|exact zAa o e _ K KX|refine zke ?_ ?_|refine zra λ_=>?_|split
end
end Pe
end
section
namespace Pe
open Go Go.RowKit
variable{S:Nat->Type}
section
variable{un:Uni S}{nu nu':Nu}{D D':Dat}{w w':World}{E:Wl.Ctx}
mutual
theorem Rep.on:∀(p:PV S)(v:Value),(∀k∈p.hits,nu'[k]?=nu[k]?)->Rep un nu D w p v->Rep un nu' D w p v
 | .int _ _,_,_,h=>by grind[Rep]
 | .bool _,_,_,h=>by grind[Rep]
 | .str _,_,_,h=>by grind[Rep]
 | .sl _ _,_,_,h=>by grind[Rep]
 | .nils,_,_,h=>by grind[Rep]
 | .st _ _,_,_,h=>by grind[Rep]
 | .agg l,_,hn,h=>by simp only[Rep,PV.hits] at h hn ⊢;obtain ⟨cs,h1,h2⟩:=h;exact ⟨cs,h1,Ke.on l cs hn h2⟩
 | .tup l,_,hn,h=>by simp only[Rep,PV.hits] at h hn ⊢;obtain ⟨cs,h1,h2⟩:=h;exact ⟨cs,h1,Ke.on l cs hn h2⟩
 | .elp _ _ _,_,_,h=>by grind[Rep]
 | .ptr j _,_,hn,h=>by simp only[Rep] at h ⊢;obtain ⟨k,h1,h2⟩:=h;exact ⟨k,(hn j (by simp[PV.hits])).trans h1,h2⟩
 | .nilp,_,_,h=>by grind[Rep]
 | .ref j,_,hn,h=>by simp only[Rep] at h ⊢;exact ⟨(hn j (by simp[PV.hits])).trans h.1,h.2⟩
 | .elr j _ _ _,_,hn,h=>by simp only[Rep] at h ⊢;obtain ⟨fl,k,n,c,h1,h2⟩:=h;exact ⟨fl,k,n,c,(hn j (by simp[PV.hits])).trans h1,h2⟩
 | .cont _ _,_,_,h=>by simpa only[Rep] using h
 | .rsl j _ _,_,hn,h=>by simp only[Rep] at h ⊢;obtain ⟨fl,k,n,c,off,h1,h2⟩:=h;exact ⟨fl,k,n,c,off,(hn j (by simp[PV.hits])).trans h1,h2⟩
 | .bref j _,_,hn,h=>by simp only[Rep] at h ⊢;obtain ⟨k,h1,h2⟩:=h;exact ⟨k,(hn j (by simp[PV.hits])).trans h1,h2⟩
 | .row j,_,hn,h=>by simp only[Rep] at h ⊢;exact ⟨(hn j (by simp[PV.hits])).trans h.1,h.2⟩
 | .func _ l r,_,hn,h=>by simp only[Rep,PV.hits,yAp] at h hn ⊢;obtain ⟨a,c,h1,h2,h3⟩:=h;exact ⟨a,c,h1,Ke.on l a (λk hk=>hn k (.inl hk)) h2,Ke.on r c (λk hk=>hn k (.inr hk)) h3⟩
 | .nilFunc,_,_,h=>by simpa only[Rep] using h
 | .iface _ x,_,hn,h=>by simp only[Rep,PV.hits] at h hn ⊢;obtain ⟨y,h1,h2⟩:=h;exact ⟨y,h1,Rep.on x y hn h2⟩
 | .nilIface,_,_,h=>by simpa only[Rep] using h
 | .junk,_,_,_=>by simp only[Rep]
theorem Ke.on:∀(ps:List (PV S))(vs:List Value),(∀k∈zlg ps,nu'[k]?=nu[k]?)->Ke un nu D w ps vs->Ke un nu' D w ps vs
 |[],[],_,_=>by simp only[Ke]
 |p::ps,v::vs,hn,h=>by simp only[Ke,zlg,yAp] at h hn ⊢;exact ⟨Rep.on p v (λk hk=>hn k (.inl hk)) h.1,Ke.on ps vs (λk hk=>hn k (.inr hk)) h.2⟩
 |[],_::_,_,h=>by simp[Ke] at h
 |_::_,[],_,h=>by simp[Ke] at h
end
theorem Kc.on:∀{b:Box S}{ro:Bool}{r:Wl.Res},(∀k∈b.hits,nu'[k]?=nu[k]?)->Kc un nu D w E ro b r->Kc un nu' D w E ro b r:=by
 intro b;induction b with
 |var T cs =>
   intro ro r hn h;cases ro<;>cases r<;>simp only[Kc] at h ⊢;·exact ⟨h.1,Ke.on cs _ hn h.2⟩
   ·exact Ke.on cs _ hn h
   ·obtain ⟨vs,h1,h2⟩:=h;exact ⟨vs,h1,Ke.on cs vs hn h2⟩
 |own u T l =>
   intro ro r hn h;cases ro<;>cases r<;>simp only[Kc] at h ⊢;·exact h
   ·exact ⟨h.1,Rep.on _ _ (by simp[PV.hits]) h.2⟩
 |wr u T l=>intro ro r hn h;cases ro<;>cases r<;>simp only[Kc] at h ⊢ <;>exact h
 |nst u T T2 l hl=>intro ro r hn h;cases ro<;>cases r<;>simp only[Kc] at h ⊢;exact h
 |grp u T2 l hl=>intro ro r hn h;cases ro<;>cases r<;>simp only[Kc] at h ⊢;exact h
 |lk b ih=>intro ro r hn h;simp only[Kc] at h ⊢;exact ih hn h
 |ro b ih=>intro ro r hn h;simp only[Kc] at h ⊢;exact ih hn h
 |gone=>intro ro r hn h;simp only[Kc]
mutual
theorem Rep.names:∀(p q:PV S)(v:Value)(k:Nat),k∈p.names q->Rep un nu D w p v->Rep un nu' D' w' q v->nu'[k]?=nu[k]?
 | .row i,q,v,k,hk,h,h'=>by
   cases q<;>simp only[PV.names,yAX] at hk;rename_i j;cases hb:Nat.beq i j with
   |false=>grind|true =>simp_all[Rep]
 | .ref i,q,v,k,hk,h,h'=>by
   cases q<;>simp only[PV.names,yAX] at hk;rename_i j;cases hb:Nat.beq i j with
   |false=>grind|true =>simp_all[Rep]
 | .ptr i a,q,v,k,hk,h,h'=>by
   cases q<;>simp only[PV.names,yAX] at hk;rename_i j b;cases hb:Nat.beq i j&&Nat.beq a b with
   |false=>grind|true =>rw[hb] at hk;simp at hk;simp only[yAd] at hb;have:=yAa hb.1;subst this;subst hk;simp only[Rep] at h h';obtain ⟨g,h1,h2⟩:=h;simp_all
 | .bref i a,q,v,k,hk,h,h'=>by
   cases q<;>simp only[PV.names,yAX] at hk;rename_i j b;cases hb:Nat.beq i j&&Nat.beq a b with
   |false=>rw[hb] at hk;simp at hk|true =>rw[hb] at hk;simp at hk;simp only[yAd] at hb;have:=yAa hb.1;have e2:=yAa hb.2;subst this;subst hk;subst e2;simp only[Rep] at h h';obtain ⟨g,h1,h2⟩:=h;obtain ⟨g',h3,h4⟩:=h';rw[h2] at h4;simp only[Value.pointer.injEq,yAf,Addr.mk.injEq] at h4;rw[h1,h3,h4.1]
 | .agg l,q,v,k,hk,h,h'=>by
   cases q<;>simp only[PV.names,yAX] at hk;rename_i r;simp only[Rep] at h h';obtain ⟨cs,rfl,h1⟩:=h;obtain ⟨cs',h2,h3⟩:=h';have:cs=cs':=by simpa using h2
   subst this;exact Ke.names l r cs k hk h1 h3
 | .int _ _,_,_,_,hk,_,_=>by simp[PV.names] at hk
 | .bool _,_,_,_,hk,_,_=>by simp[PV.names] at hk
 | .str _,_,_,_,hk,_,_=>by simp[PV.names] at hk
 | .sl _ _,_,_,_,hk,_,_=>by simp[PV.names] at hk
 | .nils,_,_,_,hk,_,_=>by simp[PV.names] at hk
 | .st _ _,_,_,_,hk,_,_=>by simp[PV.names] at hk
 | .tup _,_,_,_,hk,_,_=>by simp[PV.names] at hk
 | .elp _ _ _,_,_,_,hk,_,_=>by simp[PV.names] at hk
 | .nilp,_,_,_,hk,_,_=>by simp[PV.names] at hk
 | .elr _ _ _ _,_,_,_,hk,_,_=>by simp[PV.names] at hk
 | .cont _ _,_,_,_,hk,_,_=>by simp[PV.names] at hk
 | .rsl _ _ _,_,_,_,hk,_,_=>by simp[PV.names] at hk
 | .func _ _ _,_,_,_,hk,_,_=>by simp[PV.names] at hk
 | .nilFunc,_,_,_,hk,_,_=>by simp[PV.names] at hk
 | .iface _ _,_,_,_,hk,_,_=>by simp[PV.names] at hk
 | .nilIface,_,_,_,hk,_,_=>by simp[PV.names] at hk
 | .junk,_,_,_,hk,_,_=>by simp[PV.names] at hk
theorem Ke.names:∀(ps qs:List (PV S))(vs:List Value)(k:Nat),k∈zgP ps qs->Ke un nu D w ps vs->Ke un nu' D' w' qs vs->nu'[k]?=nu[k]?
 |p::ps,q::qs,v::vs,k,hk,h,h'=>by
   simp only[zgP,yAp,Ke] at hk h h';rcases hk with hk|hk;·exact Rep.names p q v k hk h.1 h'.1
   ·exact Ke.names ps qs vs k hk h.2 h'.2
 |[],_,_,_,hk,_,_=>by simp[zgP] at hk
 |_::_,[],_,_,hk,_,_=>by simp[zgP] at hk
 |_::_,_::_,[],_,_,h,_=>by simp[Ke] at h
end
theorem zdq(f:Fp):∀(bx:Bxs S)(k0 k:Nat),zam (zjU f k0 bx) k=(zam bx k).map λb=>bif f.foot.contains (k0+k) then b else bif f.see.contains (k0+k) then zhy b.base else .gone
 |[],_,k=>by cases k<;>rfl
 |b::r,k0,0=>rfl|b::r,k0,k+1=>by simp only[zjU,zam];rw[zdq f r (k0+1) k];grind
theorem zc1(f:Fp):∀(bx:Bxs S)(k:Nat),(zjU f k bx).length=bx.length|[],_=>rfl|b::r,k=>by simp[zjU,zc1 f r (k+1)]
theorem zh5(f:Fp):∀(bx b':Bxs S)(k0 k:Nat),bx.length<=b'.length->zam (zeW f k0 bx b') k=if k<bx.length then (if f.foot.contains (k0+k) then zam b' k else (zam bx k).map (Box.junkA f.dead)) else zam b' k
 |[],b',_,k,_=>by simp[zeW]
 |b::r,b'::r',k0,0,_=>by simp only[zeW,zam,yAw,Nat.zero_lt_succ,if_true,yBu];cases f.foot.contains k0<;>rfl
 |b::r,b'::r',k0,k+1,h=>by simp only[zeW,zam];rw[zh5 f r r' (k0+1) k (by simpa using h)];grind
 |_::_,[],_,_,h=>by simp at h
theorem zfM(f:Fp):∀(bx b':Bxs S)(k0:Nat),bx.length<=b'.length->(zeW f k0 bx b').length=b'.length
 |[],_,_,_=>rfl|b::r,b'::r',k0,h=>by simp[zeW,zfM f r r' (k0+1) (by simpa using h)]
 |_::_,[],_,h=>by simp at h
theorem zcL(ts:List Nat):∀(e:Env S)(t:Nat),zvo (zfz ts e) t=if ts.contains t then zvo e t else none
 |[],t=>by simp[zfz,zvo]
 |(i,p)::r,t=>by
   simp only[zfz,zvo];cases hb:Nat.beq i t with
   |true =>
     have:=yAa hb;subst this;cases hc:ts.contains i with
     |true=>simp[zvo]|false=>simp only[cond_false];rw[zcL ts r i,hc];simp
   |false =>
     cases hc:ts.contains i with
     |true=>simp only[cond_true,cond_false,zvo,hb];exact zcL ts r t|false=>simp only[cond_false];exact zcL ts r t
theorem zgA(dead:List Nat):∀(e:Env S)(t:Nat),zvo (zjY dead e) t=(zvo e t).map (PV.junkA dead)
 |[],_=>rfl|(i,p)::r,t=>by
   simp only[zjY,zvo];cases Nat.beq i t with
   |true=>rfl|false=>exact zgA dead r t
def WeakL:List (PV S)->List (PV S)->Prop|[],[]=>True|y::r,x::s=>(y= .junk\/y=x)/\WeakL r s|_,_=>False
def Weak(q p:PV S):Prop:=q= .junk\/q=p\/∃l l',p= .agg l/\q= .agg l'/\WeakL l' l
theorem WeakL.junk(dead:List Nat):∀(l:List (PV S)),WeakL (l.map (PV.junk1 dead)) l|[]=>trivial|p::r=>⟨by grind[PV.junk1],WeakL.junk dead r⟩
theorem Weak.junk(dead:List Nat)(p:PV S):Weak (p.junkA dead) p:=by
 have gen:∀p:PV S,Weak (p.junk1 dead) p:=λp=>by
  unfold PV.junk1;cases dead.any (λb=>p.says b) with
  |true=>exact .inl rfl|false=>exact .inr (.inl rfl)
 cases p with
 |agg l=>exact .inr (.inr ⟨l,_,rfl,rfl,WeakL.junk dead l⟩)|_=>exact gen _
theorem WeakL.trans:∀{a b c:List (PV S)},WeakL a b->WeakL b c->WeakL a c
 |[],[],[],_,_=>trivial|x::a,y::b,z::c,h,k=>⟨by
    rcases h.1 with h1|h1;·exact .inl h1
    ·rw[h1];exact k.1,WeakL.trans h.2 k.2⟩
 |[],_::_,_,h,_=>h.elim|_::_,[],_,h,_=>h.elim|_,[],_::_,_,k=>k.elim|_,_::_,[],_,k=>k.elim
theorem Weak.trans{a b c:PV S}(h:Weak a b)(k:Weak b c):Weak a c:=by
 rcases h with h|h|⟨l,l',h1,h2,h3⟩;·exact .inl h
 ·rw[h];exact k
 ·rcases k with k|k|⟨m,m',k1,k2,k3⟩;·grind
  ·exact .inr (.inr ⟨l,l',by grind,h2,h3⟩)
  ·rw[h1] at k2;obtain rfl:=PV.agg.inj k2;exact .inr (.inr ⟨m,l',k1,h2,h3.trans k3⟩)
theorem WeakL.hits:∀{a b:List (PV S)},WeakL a b->∀{k:Nat},k∈zlg a->k∈zlg b
 |[],[],_,_,h=>h|x::a,y::b,h,k,hk=>by
   simp only[zlg,yAp] at hk ⊢;rcases hk with hk|hk
   ·rcases h.1 with h1|h1;·grind[PV.hits]
    grind
   ·exact .inr (WeakL.hits h.2 hk)
 |[],_::_,h,_,_=>h.elim|_::_,[],h,_,_=>h.elim
theorem Weak.hits{a b:PV S}(h:Weak a b){k:Nat}(hk:k∈a.hits):k∈b.hits:=by
 rcases h with h|h|⟨l,l',h1,h2,h3⟩;·grind[PV.hits]
 ·grind
 grind[PV.hits,WeakL.hits]
theorem WeakL.rep{un:Uni S}{nu:Nu}{D:Dat}{w:World}:∀{a b:List (PV S)}{vs:List Value},WeakL a b->Ke un nu D w b vs->Ke un nu D w a vs
 |[],[],[],_,_=>trivial|x::a,y::b,v::vs,h,hr=>by
   simp only[Ke] at hr ⊢;refine ⟨?_,WeakL.rep h.2 hr.2⟩;rcases h.1 with h1|h1;·grind[Rep]
   simp_all
 |[],[],_::_,_,hr=>by grind
 |_::_,_::_,[],_,hr=>by grind[Ke]
 |[],_::_,_,h,_=>h.elim|_::_,[],_,h,_=>h.elim
theorem Weak.rep{un:Uni S}{nu:Nu}{D:Dat}{w:World}{a b:PV S}{v:Value}(h:Weak a b)(hr:Rep un nu D w b v):Rep un nu D w a v:=by
 rcases h with h|h|⟨l,l',h1,h2,h3⟩;·grind[Rep]
 ·grind
 grind[Rep,WeakL.rep]
def WeakB(x y:Box S):Prop:=x=y\/∃T cs cs',y= .var T cs/\x= .var T cs'/\WeakL cs' cs
theorem WeakB.junk(dead:List Nat)(x:Box S):WeakB (x.junkA dead) x:=by
 cases x with
 |var T cs=>exact .inr ⟨T,cs,_,rfl,rfl,WeakL.junk dead cs⟩|_=>exact .inl rfl
theorem WeakB.trans{x y z:Box S}(h:WeakB x y)(k:WeakB y z):WeakB x z:=by
 rcases h with h|⟨T,cs,cs',h1,h2,h3⟩;·rw[h];exact k
 ·rcases k with k|⟨T2,ds,ds',k1,k2,k3⟩;·exact .inr ⟨T,cs,cs',by grind,h2,h3⟩
  ·rw[h1] at k2;obtain ⟨rfl,rfl⟩:=Box.var.inj k2;exact .inr ⟨T,ds,cs',k1,h2,h3.trans k3⟩
theorem WeakB.hits{x y:Box S}(h:WeakB x y){k:Nat}(hk:k∈x.hits):k∈y.hits:=by
 rcases h with h|⟨T,cs,cs',h1,h2,h3⟩;·grind
 grind[Box.hits,WeakL.hits]
theorem WeakB.rep{un:Uni S}{nu:Nu}{D:Dat}{w:World}{E:Wl.Ctx}{ro:Bool}{x y:Box S}{r:Wl.Res}(h:WeakB x y)(hr:Kc un nu D w E ro y r):Kc un nu D w E ro x r:=by
 rcases h with h|⟨T,cs,cs',h1,h2,h3⟩;·grind
 ·subst h1;subst h2;cases ro<;>cases r<;>simp only[Kc] at hr ⊢;·exact ⟨hr.1,h3.rep hr.2⟩
  ·exact h3.rep hr
  grind[WeakL.rep]
theorem ztV(dead:List Nat){p:PV S}(h:p.rowless=true):p.junkA dead=p:=by
 have gen:∀p:PV S,p.rowless=true->p.junk1 dead=p:=λp hp=>by unfold PV.junk1;rw[show dead.any (λb=>p.says b)=false from yB0.2 λb _=>by grind[zcY]];rfl
 cases p with
 |agg l =>
   simp only[PV.rowless] at h;have:∀l:List (PV S),zcq l=true->l.map (PV.junk1 dead)=l:=λl=>by
    induction l with
    |nil=>intro _;rfl
    |cons p r ih=>simp_all[zcq]
   grind[PV.junkA]
 |_=>exact gen _ h
theorem zb0{k:Nat}:∀{e:Env S}{t:Nat}{p:PV S},zvo e t=some p->k∈p.hits->k∈zdd e
 |[],_,_,h,_=>by grind[zvo]
 |(i,q)::r,t,p,h,hk=>by
   simp only[zvo] at h;simp only[zdd,yAp];cases hb:Nat.beq i t with
   |true=>grind|false=>rw[hb] at h;exact .inr (zb0 h hk)
theorem zb1{bx:Bxs S}{k j:Nat}{b:Box S}(hj:zam bx j=some b)(hk:k∈b.hits):∀{l:List Nat},j∈l->k∈zb7 bx l
 |[],h=>by simp at h
 |i::r,h=>by
   simp only[zb7,yAp];rcases yAm.1 h with rfl|h;·grind
   ·exact .inr (zb1 hj hk h)
theorem zdt{l r:List Nat}(h:disj l r=true):∀k∈l,k∉r:=by grind[disj]
theorem zeK{n:Nat}{l:List Nat}(h:below n l=true):∀k∈l,k<n:=by simp_all[below]
theorem zfd:∀(l:Bxs S)(n k:Nat),k∈zcO n l↔n<=k/\k<n+l.length
 |[],n,k=>by simp[zcO]
 |_::r,n,k=>by simp only[zcO,yAm,zfd r (n+1) k,yAw];omega
theorem zfx{e e':Env S}:∀{ts:List Nat}{k:Nat},k∈zdz e e' ts->∃t∈ts,∃p q,zvo e t=some p/\zvo e' t=some q/\k∈p.names q
 |[],k,h=>by grind[zdz]
 |t::r,k,h=>by
   simp only[zdz,yAp] at h;rcases h with h|h
   ·grind
   ·obtain ⟨t',h1,h2⟩:=zfx h;grind
theorem zgY{ps:List Nat}{b0 b':Bxs S}:∀{ts:List Nat}{k:Nat},k∈zim ps b0 b' ts->∃s∈ts,s∈ps/\∃T cs T' cs',zam b0 s=some (.ro (.var T cs))/\zam b' s=some (.ro (.var T' cs'))/\1<cs.length/\k∈zgP cs cs'
 |[],k,h=>by grind[zim]
 |t::r,k,h=>by
   simp only[zim,yAp] at h;rcases h with h|h
   ·cases hc:ps.contains t with
    |false=>grind|true =>
      rw[hc] at h;simp only[cond_true] at h;split at h
      ·rename_i T cs T' cs' h1 h2;cases hl:Nat.blt 1 cs.length with
       |false=>grind|true=>rw[hl] at h;exact ⟨t,by simp,by grind,_,_,_,_,h1,h2,by simp_all,h⟩
      ·simp at h
   ·obtain ⟨t',h1,h2⟩:=zgY h;grind
end
end Pe
end
section
namespace Pe
open Go Go.RowKit
variable{S:Nat->Type}
structure Stp (S:Nat->Type) where
 o:Oper
 f:Fp
 e:Env S
 bx:Bxs S
 p:PV S
 e':Env S
 b':Bxs S
 go:Bool
def Stp.e0(s:Stp S):Env S:=zfz (zcH s.o s.f) s.e
def Stp.b0(s:Stp S):Bxs S:=zjU s.f 0 s.bx
def Stp.rc(s:Stp S)(i:Nat):Rc:=⟨i,s.bx.length,s.b'.length,s.f,zdj s.f s.e0 s.b0 s.p s.b'⟩
def Stp.nextE(s:Stp S):Env S:=push s.o.dst s.p (zjY s.f.dead s.e)
def Stp.nextB(s:Stp S):Bxs S:=zeW s.f 0 s.bx s.b'
section
variable{P:Program}{un:Uni S}{tb:Tb S}{orc:Orc S}{inl:Inl S}{R:Type}{r:R}{ops:Array Oper}
def Stp.wp(P:Program)(s:Stp S)(a:Act)(w:World)(next:Act->World->Prop)(Q:Exit->Act->World->Prop):Prop:=if s.go then s.o.wp P a w next Q else next (a.put s.o.dst undef) w
def Stp.Gd(ops:Array Oper)(s:Stp S):Prop:=(s.o.guard=none/\s.go=true)\/∃d want,zfT ops.toList s.o=some (d,want)/\d∈s.f.pins/\((s.go=true/\zvo s.e d=some (.bool want))\/(s.go=false/\(zvo s.e d=some (.bool (!want))\/zvo s.e d=some zaS)))
theorem zy3{f:Fp}{o:Oper}{e:Env S}{c:Bool}(h:zAJ ops.toList f o e=some c):∃d want,zfT ops.toList o=some (d,want)/\d∈f.pins/\((c=true/\zvo e d=some (.bool want))\/(c=false/\(zvo e d=some (.bool (!want))\/zvo e d=some zaS))):=by
 unfold zAJ at h;split at h
 ·rename_i d want hg;obtain ⟨h1,h2⟩:=zae h;refine ⟨d,want,hg,by simpa using h1,?_⟩;split at h2;·rename_i b hl;cases b<;>cases want<;>cases h2<;>simp[hl,znk]
  ·rename_i hl;cases h2;exact .inr ⟨rfl,.inr hl⟩
  ·cases h2
 ·cases h
theorem zAE{g:Bool}{p:PV S}{K:PV S->Option R}(h:brG g p K=some r):K p=some r:=by
 unfold brG at h;split at h;·rename_i b;cases b<;>exact h
 ·exact h
def Stp.Post(un:Uni S)(E:Wl.Ctx)(D0:Dat)(N:Wl.Fr)(H:List Wl.Res)(s:Stp S)(a':Act)(w':World):Prop :=
 (∃D' H',St un E N D' H' (push s.o.dst s.p s.e') s.b' a' w'/\(∀k o,D' k o->D0 k o\/E.may k)/\Ge D0 E.w D' w'/\(ztO s.o s.e0 s.b0=true->ids H'=ids H))/\Kk s.b0 s.b'
def Stp.Ok(P:Program)(un:Uni S)(s:Stp S):Prop:=∀(E:Wl.Ctx)(D0:Dat)(N:Wl.Fr)(a:Act)(w:World)(Q:Exit->Act->World->Prop)(D:Dat)(H:List Wl.Res),(∀d,s.o.dst=some d->d<N.n)->St un E N D H s.e0 s.b0 a w->(∀k o,D k o->D0 k o\/E.may k)->Ge D0 E.w D w ->
 s.wp P a w (λa' w'=>s.Post un E D0 N H a' w') Q
def Stp.Pan(P:Program)(un:Uni S)(s:Stp S)(x:Exit):Prop:=(x≠ .outgrown/\s.go=true)/\∀(E:Wl.Ctx)(D0:Dat)(N:Wl.Fr)(a:Act)(w:World)(next:Act->World->Prop)(D:Dat)(H:List Wl.Res),(∀d,s.o.dst=some d->d<N.n)->St un E N D H s.e0 s.b0 a w->(∀k o,D k o->D0 k o\/E.may k)->Ge D0 E.w D w ->
 s.o.wp P a w next λy a' w'=>y=x/\s.Post un E D0 N H a' w'
theorem Stp.Post.of{s:Stp S}{E:Wl.Ctx}{D0:Dat}{N:Wl.Fr}{H:List Wl.Res}{a':Act}{w':World}(hn:ztO s.o s.e0 s.b0=false)(h:Holds un E D0 N (push s.o.dst s.p s.e') s.b' a' w')(hp:Kk s.b0 s.b'):s.Post un E D0 N H a' w':=by obtain ⟨D',H',h1,h2,h3⟩:=h;exact ⟨⟨D',H',h1,h2,h3,λhc=>by grind⟩,hp⟩
theorem zuS(Kq:Kx un)(ht:Qc P un tb){o:Oper}{e:Env S}{bx:Bxs S}(hs0:ztO o e bx=true){K:PV S->Env S->Bxs S->Option R}{KX:Exit->Env S->Bxs S->Option R}(h:zpS un tb orc inl o e bx K KX=some r) :
  ∃b',K zaS e b'=some r/\Kk bx b'/\∀(E:Wl.Ctx)(D:Dat)(N:Wl.Fr)(a:Act)(w:World)(Q:Exit->Act->World->Prop)(H:List Wl.Res),(∀d,o.dst=some d->d<N.n)->St un E N D H e bx a w ->
   o.wp P a w (λa' w'=>∃H',St un E N D H' (push o.dst zaS e) b' a' w'/\Ge D w D w'/\ids H'=ids H) Q:=by
 unfold ztO at hs0;split at hs0
 ·rename_i t x y ho;split at hs0
  ·rename_i b off hx;unfold zpS at h;rw[ho] at h;simp only at h;unfold zy2 at h;rw[ho] at h;simp only at h;unfold zfa at h;rw[ho] at h;simp only[hx] at h;unfold zc8 at h;rw[ho] at h;simp only[hx] at h;split at h
   ·rename_i b2 off2 p row hx2 hy Kp;cases hx2;split at h
    ·rename_i T cs hg;obtain ⟨h1,h2⟩:=zae h;simp only[yAd,yAK] at h1;refine ⟨_,h2,Kk.set hg rfl λT' cs' he=>by cases he;exact ⟨_,rfl,zfu _ _ _⟩,λE D N a w Q H hd hs=>?_⟩;obtain ⟨w',H',Kw,hst,K2,hid⟩:=zp6 (P:=P) Kq (ht.ty t row Kp) hs hg (hs.ev hx) (hs.ev hy) h1.1.1 (yAa h1.1.2) h1.2 hd;unfold Oper.wp;have:(execOp a.eval o).run P w= .ok .skip w':=by simp[execOp,ho,Kw]
     rw[this];exact ⟨H',hst,K2,hid⟩
    ·cases h
   ·cases h
  ·cases hs0
 ·cases hs0
theorem Holds.junk{E:Wl.Ctx}{D0:Dat}{N:Wl.Fr}{e:Env S}{bx:Bxs S}{a:Act}{w:World}(h:Holds un E D0 N e bx a w)(d:Option Nat):Holds un E D0 N (push d .junk e) bx a w:=by
 obtain ⟨D,H,hs,h1,h2⟩:=h;refine ⟨D,H,⟨hs.Kr,hs.size,hs.defers,hs.Kg,λt q hq=>?_⟩,h1,h2⟩;by_cases hd:d=some t
 ·subst hd;have:q= .junk:=by simp_all[push,zvo]
  grind[Rep]
 grind[St.slots,zaM]
def Chain(ops:Array Oper):Nat->List Rc->Env S->Bxs S->List (Stp S)->Env S->Bxs S->Prop|_,_,e,bx,[],ef,bf=>ef=e/\bf=bx|i,rs,e,bx,s::l,ef,bf=>ops[i]?=some s.o/\s.Gd ops/\s.e=e/\s.bx=bx/\ziG ops i s.o s.f rs s.e s.bx s.p s.e' s.b'=true/\Chain ops (i+1) (s.rc i::rs) s.nextE s.nextB l ef bf
def Ends(P:Program)(un:Uni S)(ops:Array Oper)(K:Exit->Env S->Bxs S->Option R)(r:R)(i:Nat)(rs:List Rc)(tr:List (Stp S))(ef:Env S)(bf:Bxs S):Prop :=
 (i+tr.length=ops.size/\(∀s∈tr,s.Ok P un)/\K .normal ef bf=some r) \/
 ∃t0 s1 x rs',tr=t0++[s1]/\(∀s∈t0,s.Ok P un)/\s1.Pan P un x/\K x (zaG (zbi ops.toList) ef) bf=some r/\zmU ops (i+t0.length) rs'=true/\(∀q∈rs,q∈rs')/\∀(k:Nat) s,t0[k]?=some s->s.rc (i+k)∈rs'
theorem Ends.cons{K:Exit->Env S->Bxs S->Option R}{i:Nat}{rs:List Rc}{tr:List (Stp S)}{ef:Env S}{bf:Bxs S}{s0:Stp S}(hok:s0.Ok P un)(h6:Ends P un ops K r (i+1) (s0.rc i::rs) tr ef bf):Ends P un ops K r i rs (s0::tr) ef bf:=by
 rcases h6 with ⟨h6,h7,h8⟩|⟨t0,s1,x,rs',h6,h7,h8,h9,h10,h11,h12⟩
 ·refine .inl ⟨by simp only[yAw];omega,λs hs=>?_,h8⟩;rcases yAm.1 hs with rfl|hs;·exact hok
  grind
 ·refine .inr ⟨_::t0,s1,x,rs',by rw[h6];rfl,λs hs=>?_,h8,h9,by rw[yAw,show i+(t0.length+1)=i+1+t0.length by omega];exact h10,λq hq=>h11 q (by simp[hq]),λk s hk=>?_⟩
  ·rcases yAm.1 hs with rfl|hs;·exact hok
   grind
  grind
theorem zh8(Kq:Kx un)(ht:Qc P un tb)(hor:K4 P un orc)(Kt:Qe P un inl){K:Exit->Env S->Bxs S->Option R}:∀(fps:List Fp)(i:Nat)(rs:List Rc)(e:Env S)(bx:Bxs S),zn1 un tb orc inl ops K fps i rs e bx=some r ->
  ∃tr ef bf,Chain ops i rs e bx tr ef bf/\Ends P un ops K r i rs tr ef bf
 |[],i,rs,e,bx,h=>by unfold zn1 at h;obtain ⟨h1,h2⟩:=zae h;exact ⟨[],e,bx,⟨rfl,rfl⟩,.inl ⟨yAa h1,by simp,h2⟩⟩
 |f::l,i,rs,e,bx,h=>by
   unfold zn1 at h;split at h;·cases h
   ·rename_i o ho;split at h
    ·rename_i hg;have hG:(o.guard=none/\true=true)\/∃d want,zfT ops.toList o=some (d,want)/\d∈f.pins/\((true=true/\zvo e d=some (.bool want))\/(true=false/\(zvo e d=some (.bool (!want))\/zvo e d=some zaS))):=by
      split at hg;·rename_i h0;exact .inl ⟨h0,rfl⟩
      ·exact .inr (zy3 hg)
     rw[zqm] at h;obtain ⟨z,h1,h2⟩:=yCj.1 h;cases z with
     |inr z =>
       obtain ⟨x,e',b'⟩:=z;obtain ⟨h3,h4⟩:=zae h2;simp only[yAd] at h3;refine ⟨[⟨o,f,e,bx,.junk,e',b',true⟩],_,_,⟨ho,hG,rfl,rfl,h3.2.1,rfl,rfl⟩,.inr ⟨[],_,x,rs,rfl,by simp,⟨⟨λhx=>by rw[hx] at h3;simp at h3,rfl⟩,λE D0 N a w next D H hd hs hD hG=>?_⟩,h4,h3.2.2,λ_ h=>h,by simp⟩⟩;have hn:ztO o (zfz (zcH o f) e) (zjU f 0 bx)=false:=by
        cases hc:ztO o (zfz (zcH o f) e) (zjU f 0 bx) with
        |false=>rfl|true=>obtain ⟨_,h5,_⟩:=zuS (P:=P) Kq ht hc h1;cases h5
       refine zjF Kq ht hor Kt h1 hd ⟨D,H,hs,hD,hG⟩ (λp1 e1 b1 hk=>by cases hk) λy e1 b1 hk _ hb a' w' h5=>?_;cases hk;exact ⟨rfl,Stp.Post.of hn (h5.junk _) hb⟩
     |inl z =>
       obtain ⟨p,e',b'⟩:=z
       replace h2:=zAE (K:=λp=>bif ziG ops i o f rs e bx p e' b' then zn1 un tb orc inl ops K l (i+1) (⟨i,bx.length,b'.length,f,zdj f (zfz (zcH o f) e) (zjU f 0 bx) p b'⟩::rs) (push o.dst p (zjY f.dead e)) (zeW f 0 bx b') else none) h2
       obtain ⟨h3,h4⟩:=zae h2;have hok:Stp.Ok P un ⟨o,f,e,bx,p,e',b',true⟩:=λE D0 N a w Q D H hd hs hD hG=>by
        show o.wp P a w _ Q;cases hc:ztO o (zfz (zcH o f) e) (zjU f 0 bx) with
        |false =>
          refine zjF Kq ht hor Kt h1 hd ⟨D,H,hs,hD,hG⟩ (λp1 e1 b1 hk _ hb a' w' h5=>?_) λx e1 b1 hk=>by cases hk
          cases hk;exact Stp.Post.of hc h5 hb
        |true =>obtain ⟨b1,h5,h6,h7⟩:=zuS (P:=P) Kq ht hc h1;cases h5;refine Oper.wp_mono (λa' w' h8=>?_) (h7 E D N a w Q H hd hs);obtain ⟨H',k1,k2,k3⟩:=h8;exact ⟨⟨D,H',k1,hD,hG.trans k2,λ_=>k3⟩,h6⟩
       obtain ⟨tr,ef,bf,h5,h6⟩:=zh8 Kq ht hor Kt l (i+1) _ _ _ h4;exact ⟨⟨o,f,e,bx,p,e',b',true⟩::tr,ef,bf,⟨ho,hG,rfl,rfl,h3,h5⟩,Ends.cons hok h6⟩
    ·rename_i hg;have hG:(o.guard=none/\false=true)\/∃d want,zfT ops.toList o=some (d,want)/\d∈f.pins/\((false=true/\zvo e d=some (.bool want))\/(false=false/\(zvo e d=some (.bool (!want))\/zvo e d=some zaS))):=by
      split at hg;·cases hg
      ·exact .inr (zy3 hg)
     obtain ⟨h3,h4⟩:=zae h;have hok:Stp.Ok P un ⟨o,f,e,bx,zaS,zfz (zcH o f) e,zjU f 0 bx,false⟩:=λE D0 N a w Q D H hd hs hD hGe=>by show Stp.Post un E D0 N H _ (a.put o.dst undef) w;exact ⟨⟨D,H,hs.step hs.Kr hs.Kg hs.slots hd (by simp only[zaS,Rep];exact ⟨[],rfl,by simp[Ke]⟩),hD,hGe,λ_=>rfl⟩,Kk.refl _⟩
     obtain ⟨tr,ef,bf,h5,h6⟩:=zh8 Kq ht hor Kt l (i+1) _ _ _ h4;exact ⟨⟨o,f,e,bx,zaS,zfz (zcH o f) e,zjU f 0 bx,false⟩::tr,ef,bf,⟨ho,hG,rfl,rfl,h3,h5⟩,Ends.cons hok h6⟩
    ·cases h
def zfW(tr:List (Stp S))(ef:Env S)(i:Nat):Env S:=match tr[i]? with|some s=>s.e|none=>ef
def zdf(tr:List (Stp S))(bf:Bxs S)(i:Nat):Bxs S:=match tr[i]? with|some s=>s.bx|none=>bf
theorem Chain.start{tr:List (Stp S)}{i:Nat}{rs:List Rc}{e:Env S}{bx:Bxs S}{ef:Env S}{bf:Bxs S}(h:Chain ops i rs e bx tr ef bf):zfW tr ef 0=e/\zdf tr bf 0=bx:=by
 cases tr with
 |nil=>exact h|cons s l=>exact ⟨h.2.2.1,h.2.2.2.1⟩
theorem Chain.at:∀{tr:List (Stp S)}{i:Nat}{rs:List Rc}{e:Env S}{bx:Bxs S}{ef:Env S}{bf:Bxs S},Chain ops i rs e bx tr ef bf->∀{k:Nat}{s:Stp S},tr[k]?=some s ->
  ops[i+k]?=some s.o/\s.Gd ops/\zfW tr ef (k+1)=s.nextE/\zdf tr bf (k+1)=s.nextB/\∃rs',ziG ops (i+k) s.o s.f rs' s.e s.bx s.p s.e' s.b'=true/\(∀r∈rs,r∈rs')/\∀(k':Nat) s',k'<k->tr[k']?=some s'->s'.rc (i+k')∈rs'
 |[],_,_,_,_,_,_,_,k,s,hk=>by simp at hk
 |s0::l,i,rs,e,bx,ef,bf,h,0,s,hk=>by
   simp at hk;subst hk;obtain ⟨h1,h2,h3,h4,h6,h7⟩:=h;obtain ⟨g1,g2⟩:=h7.start;refine ⟨h1,h2,?_,?_,rs,h6,λ_ h=>h,λk' s' hk'=>by omega⟩;·rw[<-g1];rfl
   ·rw[<-g2];rfl
 |s0::l,i,rs,e,bx,ef,bf,h,k+1,s,hk=>by
   obtain ⟨h1,h2,h3,h4,h6,h7⟩:=h;obtain ⟨q1,q2,q4,q5,rs',q6,q7,q8⟩:=h7.at (k:=k) (s:=s) (by grind);refine ⟨by grind,q2,by grind[zfW],by grind[zdf],rs',by grind,λr hr=>q7 r (by simp[hr]),λk' s' hk' hs'=>?_⟩;cases k' with
   |zero=>grind|succ k'=>grind
structure StepF (ops:Array Oper) (i:Nat) (s:Stp S) (rs:List Rc):Prop where
 grow:s.bx.length<=s.b'.length
 foot_lt:∀k∈s.f.foot,k<s.bx.length
 hits_lt:∀k∈zdj s.f s.e0 s.b0 s.p s.b',k<s.b'.length
 pre_lt:∀k∈zdd s.e0++zb7 s.b0 (s.f.foot++s.f.see),k<s.bx.length
 foot_ok:∀k∈s.f.foot,zi6 s.bx k=true
 dead_foot:∀k∈s.f.dead,k∈s.f.foot/\zoE s.bx k=true
 live:∀k∈s.f.foot,k∉s.f.dead->k∈zgq s.o s.f s.e0 s.b0 s.e' s.b'
 named:∀k∈s.p.hits++zb7 s.b' (s.f.foot++zcO s.bx.length (s.b'.drop s.bx.length)),k∈s.f.foot\/s.bx.length<=k\/k∈zgq s.o s.f s.e0 s.b0 s.e' s.b'
 dead_env:∀k∈s.f.dead,k∉zdd (zjY s.f.dead s.e)
 dead_box:∀k∈s.f.dead,∀j b,j∉s.f.foot->zam s.bx j=some b->k∉(b.junkA s.f.dead).hits
 pins:∀t∈s.f.pins,∀(j:Nat) oj,ops[j]?=some oj->oj.dst=some t->j<i/\reachB ops j i=true
 plain:∀k∈s.f.foot++zcO s.bx.length (s.b'.drop s.bx.length),zhL s.b' k=true
 rcs:∀r∈rs,reachB ops r.i i=true\/rcOk r s.f s.bx.length s.b'.length (zdj s.f s.e0 s.b0 s.p s.b')=true
theorem zlN{i:Nat}{s:Stp S}{rs:List Rc}(h:ziG ops i s.o s.f rs s.e s.bx s.p s.e' s.b'=true):StepF ops i s rs:=by
 unfold ziG at h;simp only[yAd,yAM,yBF] at h;obtain ⟨⟨h1,h2,h3,h3'⟩,⟨h4,h5,h6⟩,⟨h7,h8⟩,⟨h9,h10⟩,h11,h12⟩:=h;refine ⟨by simp_all,zeK h2,zeK h3,zeK h4,h5,λk hk=>?_,λk hk hd=>?_,λk hk=>?_,zdt h9,λk hk j b hj hb hkb=>?_,λt ht j oj hoj hdj=>?_,h3',h12⟩;·have:=h6 k hk;exact ⟨by simp_all,this.2⟩
 ·grind[Stp.e0,Stp.b0]
 ·rcases h8 k hk with h|h|h;·exact .inl (by simpa using h)
  ·exact .inr (.inl (by simpa[yAK] using h))
  ·exact .inr (.inr (by simpa[Stp.e0,Stp.b0] using h))
 ·refine zdt h10 k hk (zb1 (b:=b.junkA s.f.dead) (by rw[za8,hb];rfl) hkb ?_);simp only[yAO,yBa,yA4];exact ⟨zb5 hb,by simpa using hj⟩
 ·have Ks:j<ops.size:=(yAE.1 hoj).1;have:=h11 t ht j (by simpa using Ks);rw[hoj] at this;simp only[yBF,yAd] at this;rcases this with h|h;·rw[hdj] at h;simp at h
  ·exact ⟨by simpa[yAN] using h.1,h.2⟩
theorem zoI{r:Rc}{f:Fp}{lo hi:Nat}{hits:List Nat}(h:rcOk r f lo hi hits=true) :
  (∀k∈f.foot,k∉r.f.foot/\k∉r.f.see)/\(∀k∈f.see,k∉r.f.foot)/\(∀k,k∈f.foot\/k∈f.see->¬(r.lo<=k/\k<r.hi))/\(∀k∈hits,¬(r.lo<=k/\k<r.hi))/\(∀k∈f.dead,k∉r.hits)/\∀k∈r.f.dead,k∉hits:=by
 unfold rcOk at h;simp only[yAd] at h;obtain ⟨⟨h1,h2⟩,⟨h3,h4⟩,h5,h6⟩:=h;have hnot:∀{l:List Nat},r.not l=true->∀k∈l,¬(r.lo<=k/\k<r.hi):=λ{l} hl k hk hh=>by unfold Rc.not at hl;have:=yAM.1 hl k hk;simp only[yBF,yAN,yAK] at this;omega
 refine ⟨λk hk=>?_,zdt h2,λk hk=>hnot h3 k (by grind),hnot h4,zdt h5,zdt h6⟩;have:=zdt h1 k hk;grind
theorem ziV{s:Stp S}{t:Nat}{q:PV S}(ht:s.o.dst≠some t)(h:zvo s.nextE t=some q):∃q0,Weak q q0/\zvo s.e t=some q0/\zvo (zjY s.f.dead s.e) t=some q:=by
 unfold Stp.nextE at h;rw[zaM ht] at h;have h':=h;rw[zgA] at h;cases hq:zvo s.e t with
 |none=>grind|some p0 =>rw[hq] at h;simp only[yAg,yAf] at h;exact ⟨p0,by grind[Weak.junk],rfl,h'⟩
theorem ziO{i j:Nat}(h:edge ops i j=true)(hj:j<ops.size):reachB ops i j=true:=by
 have sub:∀(l acc:List Nat),∀x∈acc,x∈zdM ops acc l:=by
  intro l;induction l with
  |nil=>intro acc x hx;exact hx
  |cons q r ih =>
    grind[zdM]
 have key:∀(l acc:List Nat),i∈acc->j∈l->j∈zdM ops acc l:=by
  intro l;induction l with
  |nil=>grind
  |cons q r ih =>
    intro acc hi hj;unfold zdM;rcases yAm.1 hj with rfl|hj
    ·rw[yBd.2 ⟨i,hi,h⟩];grind
    grind
 grind[reachB]
end
end Pe
end
section
namespace Pe
open Go Go.RowKit
variable{S:Nat->Type}
section
variable{P:Program}{un:Uni S}{E:Wl.Ctx}{D0:Dat}{N:Wl.Fr}{D D':Dat}{H:List Wl.Res}{a:Act}{w w':World}{ops:Array Oper}
theorem zz8{o:Oper}{v:Value}{t:Nat}(ht:o.dst≠some t):(a.put o.dst v).tmps.getD t undef=a.tmps.getD t undef:=by
 cases hd:o.dst with
 |none=>simp[Act.put]|some d =>have:d≠t:=λe=>ht (by rw[hd,e]);simp only[Act.put,yAv];rw[Array.getElem?_setIfInBounds_ne this]
theorem zok{o:Oper}{next:Act->World->Prop}{Q:Exit->Act->World->Prop}(h:o.wp P a w next Q):o.wp P a w (λa' w'=>next a' w'/\∀t,o.dst≠some t->a'.tmps.getD t undef=a.tmps.getD t undef) Q:=by
 have hput:∀(b:Act) v t,b.tmps=a.tmps->o.dst≠some t->(b.put o.dst v).tmps.getD t undef=a.tmps.getD t undef:=λb v t hb ht=>by
  cases hd:o.dst with
  |none=>simp[Act.put,hb]|some d =>simp_all[Act.put]
 unfold Oper.wp at *
 generalize (execOp a.eval o).run P w=r at *
 simp_all[Oper.upon]
theorem zsn{o:Oper}{next next':Act->World->Prop}{Q Q':Exit->Act->World->Prop}(h:o.wp P a w next Q)(hn:∀a' w',next a' w'->next' a' w')(hq:∀x w',Q x a w'->Q' x a w')(hg:LetsOut Q->LetsOut Q'):o.wp P a w next' Q':=by
 unfold Oper.wp at *
 generalize (execOp a.eval o).run P w=r at *
 cases r with
 |ok n w' =>
   cases n<;>simp only[Oper.upon] at h ⊢ <;>
    first
     |grind
     |grind[Calls.mono]|grind[Rows.mono]
 |halt x w'=>cases x<;>simp only[Oper.upon] at h ⊢ <;>first|grind|exact h
def zg3(l:List Nat)(m:Nat)(H:List Wl.Res):List Wl.Res:=(H.take m).mapIdx λk r=>if l.contains k then r else .ref (zal r)
theorem zhV{l:List Nat}{m k:Nat}:(zg3 l m H)[k]?=if k<m then (H[k]?).map λr=>if l.contains k then r else .ref (zal r) else none:=by unfold zg3;rw[List.getElem?_mapIdx,yAD];by_cases hk:k<m<;>simp only[hk,if_true,if_false]<;>rfl
theorem zfO{l:List Nat}{m k:Nat}(hk:k<m):(ids (zg3 l m H))[k]?=(ids H)[k]? :=by
 simp only[ids,yAh,zhV,if_pos hk,Option.map_map];cases H[k]? with
 |none=>rfl|some r=>simp only[yAg,Function.comp];split<;>rfl
theorem zk1{l:List Nat}{m:Nat}(h:m<=H.length):(zg3 l m H).length=m:=by grind[zg3]
def zbk(l:List Nat)(H:List Wl.Res):List Nat:=l.flatMap λk=>match H[k]? with|some r=>r.blocks|none=>[]
theorem zaP{l:List Nat}{g:Nat}:g∈zbk l H↔∃k∈l,∃r,H[k]?=some r/\r.has g:=by
 unfold zbk;rw[yCn];refine exists_congr λk=>and_congr_right λ_=>?_;grind[Wl.Res.mem_blocks]
def zg4(fx:List Value)(l:List Nat)(H:List Wl.Res)(w:World):Wl.Ctx:=⟨w,zbk l H,fx.mapIdx λk v=>if l.contains k then v else .nilFunc⟩
theorem zzn{fx:List Value}{l:List Nat}{H:List Wl.Res}{w:World}{i:Nat}{v:Value}:zyp (zg4 fx l H w).fix i=some v↔i∈l/\zyp fx i=some v:=by
 unfold zg4 zyp;simp only[List.getElem?_mapIdx];cases fx[i]? with
 |none=>simp|some x =>
   by_cases h:i∈l;·simp[h]
   ·simp[h]
theorem In.disjAt(h:In E D H w){i j:Nat}{r s:Wl.Res}(hij:i≠j)(hi:H[i]?=some r)(hj:H[j]?=some s):Wl.apartR r s:=by
 have hp:=yAH.1 h.disj;obtain ⟨h1,rfl⟩:=yAc.1 hi;obtain ⟨h2,rfl⟩:=yAc.1 hj;rcases yBY hij with h3|h3;·grind
 grind[apartR.symm]
theorem In.mask(h:In E D H w)(l:List Nat)(m:Nat)(hlm:∀k∈l,k<m):In (zg4 E.fix l H w) D (zg3 l m H) w:=by
 have get:∀(k:Nat) r,(zg3 l m H)[k]?=some r->(k∈l/\H[k]?=some r)\/∃id,r= .ref id:=λk r hk=>by
  rw[zhV] at hk;split at hk
  ·cases hH:H[k]? with
   |none=>rw[hH] at hk;cases hk|some r0 =>
     rw[hH] at hk;simp only[yAg,yAf] at hk;split at hk;·rename_i hc;subst hk;exact .inl ⟨by simpa using hc,rfl⟩
     ·exact .inr ⟨_,hk.symm⟩
  ·cases hk
 refine ⟨Wl.Grow.refl _ _,h.lt,λr hr=>?_,λr hr g hg o hf hd=>?_,zcG λi j r s hij hi hj=>?_,λi v hi=>by obtain ⟨h1,h2⟩:=zzn.1 hi;obtain ⟨r,h3,h4,h5,h6⟩:=h.lent i v h2;exact ⟨r,by rw[zhV,if_pos (hlm i h1),h3];simp[h1],h4,h5,keptR.self (h.res r (yAb h3))⟩⟩
 ·obtain ⟨k,hk⟩:=yAl hr;rcases get k r hk with ⟨h1,h2⟩|⟨id,rfl⟩;·exact zfS (h.res r (yAb h2)) λg hg=>.inr (zaP.2 ⟨k,h1,r,h2,hg⟩)
  ·trivial
 ·obtain ⟨k,hk⟩:=yAl hr;rcases get k r hk with ⟨h1,h2⟩|⟨id,rfl⟩;·exact h.apart r (yAb h2) g hg o hf hd
  ·exact hg.elim
 ·rcases get i r hi with ⟨h1,h2⟩|⟨id,rfl⟩
  ·rcases get j s hj with ⟨h3,h4⟩|⟨id,rfl⟩;·exact h.disjAt hij h2 h4
   ·exact λg _ h=>h.elim
  ·exact λg h _=>h.elim
theorem Kc.ctx{nu:Nu}{E':Wl.Ctx}{bx:Bxs S}{k:Nat}(hf:zi6 bx k=true){b:Box S}(hb:zam bx k=some b){r:Wl.Res}(h:Kc un nu D w E false b r):Kc un nu D w E' false b r:=by
 unfold zi6 at hf;rw[hb] at hf;cases b with
 |var T cs=>cases r<;>simp only[Kc] at h ⊢ <;>exact h|own u T l=>cases r<;>simp only[Kc] at h ⊢;exact h|wr u T l=>cases r<;>simp only[Kc] at h ⊢;exact h|nst u T T2 l hh=>cases r<;>simp only[Kc] at h ⊢;exact h|grp u T2 l hh=>cases r<;>simp only[Kc] at h ⊢;exact h|lk b=>simp at hf|ro b=>simp at hf|gone=>simp at hf
theorem zqc(Kq:Kx un)(Kt:In E D H w){l:List Nat}{nu:Nu}{k:Nat}{b:Box S}{r:Wl.Res}(hk:k∉l)(hr:H[k]?=some r)(h:Kc un nu D w E false b r):Kc un nu D w (zg4 E.fix l H w) false (zhy b.base) (.ref (zal r)):=by
 obtain ⟨ro,hb⟩:=h.base;have hh:=Kt.res r (yAb hr);have notin:∀g,r.has g->g∉zbk l H:=λg hg hm=>by
  obtain ⟨k',h1,r',h2,h3⟩:=zaP.1 hm;have hne:k≠k':=by grind
  exact Kt.disjAt hne hr h2 g hg h3
 have old:∀g,g<E.w.heap.size->g∉E.lent->g<w.heap.size/\g∉zbk l H:=λg h1 h2=>by
  refine ⟨yAq h1 Kt.out.size,λhm=>?_⟩;obtain ⟨k',h3,r',h4,h5⟩:=zaP.1 hm;rcases (Wl.Res.holds_lt (Kt.res r' (yAb h4)) h5).1 with h6|h6;·omega
  ·exact h2 h6
 generalize hx:b.base=x at hb;cases x with
 |var T cs =>
   simp only[zhy,Kc];cases ro with
   |false =>
     cases r with
     |box g T' vs =>simp only[Kc] at hb;obtain ⟨rfl,hb⟩:=hb;exact ⟨vs,.box g T' vs (Wl.Res.holds_lt hh rfl).2 (notin g rfl) hh.2,hb⟩
     |fix v g size ob =>simp only[Kc] at hb;exact ⟨[Wl.fixV v size ob],.fix v g size ob T hh.1 λg0 hg0=>⟨(Wl.Res.holds_lt hh hg0).2,notin g0 hg0,(hh.2 g0 hg0).2⟩,hb⟩|_=>simp[Kc] at hb
   |true =>
     cases r with
     |ref id =>
       simp only[Kc] at hb;obtain ⟨vs,h1,h2⟩:=hb;refine ⟨vs,?_,h2⟩;simp only[zal];cases h1 with
       |box g T vs h3 h4 h5=>exact .box g T vs (old g h3 h4).1 (old g h3 h4).2 h5|fix v g size ob T h3 h4=>exact .fix v g size ob T h3 λg0 hg0=>⟨(old g0 (h4 g0 hg0).1 (h4 g0 hg0).2.1).1,(old g0 (h4 g0 hg0).1 (h4 g0 hg0).2.1).2,(h4 g0 hg0).2.2⟩
     |_=>simp[Kc] at hb
 |own u T l =>
   simp only[zhy,Kc];cases ro with
   |false =>
     cases r with
     |own v T' size n xs=>exact ⟨rfl,zgs Kq.flat hh hb⟩|_=>simp[Kc] at hb
   |true =>
     cases r with
     |ref id=>simpa only[Kc,zal] using hb|_=>simp[Kc] at hb
 |wr u T l =>
   simp only[zhy,Kc];cases ro with
   |false =>
     cases r with
     |wr v T' size n xs=>exact ⟨rfl,zq5 hh hb,λg hg=>⟨(Wl.Res.holds_lt hh hg).2,notin g hg⟩⟩|_=>simp[Kc] at hb
   |true =>
     cases r with
     |ref id =>simp only[Kc] at hb;exact ⟨hb.1,hb.2.1,λg hg=>old g (hb.2.2 g hg).1 (hb.2.2 g hg).2⟩|_=>simp[Kc] at hb
 |_=>simp only[zhy,Kc]
theorem zri(Kq:Kx un){s:Stp S}{i:Nat}{rs:List Rc}(F:StepF ops i s rs)(Kt:In E D H w)(Ku:s.bx.length<=H.length)(hsz:a.tmps.size=N.n)(hdf:a.defers=N.ds/\TabE un E.w E.lent)
  (hsl:∀t q,zvo s.e0 t=some q->Rep un (ids H) D w q (a.tmps.getD t undef)) (hbx:∀k b,k∈s.f.foot\/k∈s.f.see->zam s.bx k=some b->∃r,H[k]?=some r/\Kc un (ids H) D w E false b r) :
  St un (zg4 E.fix s.f.foot H w) N D (zg3 s.f.foot s.bx.length H) s.e0 s.b0 a w:=by
 refine ⟨Kt.mask _ _ F.foot_lt,hsz,⟨hdf.1,hdf.2.grow Kt.out λg hg=>by obtain ⟨k,_,r,h2,h3⟩:=zaP.1 hg;exact (Wl.Res.holds_lt (Kt.res r (yAb h2)) h3).1⟩,Kj.of_get (by rw[zk1 Ku];exact zc1 _ _ _) λk b r hb hr=>?_,λt q hq=>?_⟩
 ·have hk:k<s.bx.length:=by have:=zb5 hb;rwa[show s.b0.length=s.bx.length from zc1 _ _ _] at this
  have hb0:=hb;unfold Stp.b0 at hb;rw[zdq,yAJ] at hb;cases hg:zam s.bx k with
  |none=>rw[hg] at hb;cases hb|some x =>
    rw[hg] at hb;simp only[yAg,yAf] at hb;rw[zhV,if_pos hk] at hr;have hon:(k∈s.f.foot\/k∈s.f.see)->∀j∈b.hits,(ids (zg3 s.f.foot s.bx.length H))[j]?=(ids H)[j]? :=λhkk j hj=>by refine zfO (F.pre_lt j (yB5 _ (zb1 hb0 hj ?_)));simpa using hkk
    cases hc:s.f.foot.contains k with
    |true =>
      rw[hc] at hb;simp only[cond_true] at hb;subst hb;have hkf:k∈s.f.foot:=by simpa using hc
      obtain ⟨r0,h1,h2⟩:=hbx k x (.inl hkf) hg;rw[h1] at hr;simp only[yAg,hc,if_true,yAf] at hr;subst hr;exact ((Kc.on (nu':=ids (zg3 s.f.foot s.bx.length H)) (hon (.inl hkf)) h2).ctx (F.foot_ok k hkf) hg)
    |false =>
      rw[hc] at hb;simp only[cond_false] at hb;cases hs:s.f.see.contains k with
      |false=>rw[hs] at hb;simp only[cond_false] at hb;subst hb;simp only[Kc]|true =>
        rw[hs] at hb;simp only[cond_true] at hb;subst hb;have hks:k∈s.f.see:=by simpa using hs
        obtain ⟨r0,h1,h2⟩:=hbx k x (.inr hks) hg;rw[h1] at hr;simp only[yAg,hc] at hr;have hr:Wl.Res.ref (zal r0)=r:=by simpa using hr
        subst hr;exact Kc.on (hon (.inr hks)) (zqc Kq Kt (λhm=>by simp[hm] at hc) h1 h2)
 ·refine Rep.on q _ (λj hj=>zfO (F.pre_lt j (yBP _ (zb0 hq hj)))) (hsl t q hq)
theorem zmD{s:Stp S}{i:Nat}{rs:List Rc}(_:StepF ops i s rs){H1 H':List Wl.Res}{E1:Wl.Ctx}(hE1:E1.w=w){a':Act}(hs:St un E1 N D H1 s.e0 s.b0 a w)(hs':St un E1 N D' H' (push s.o.dst s.p s.e') s.b' a' w')
  (hot:∀t,s.o.dst≠some t->a'.tmps.getD t undef=a.tmps.getD t undef) (hsto:ztO s.o s.e0 s.b0=true->ids H'=ids H1):∀k∈zgq s.o s.f s.e0 s.b0 s.e' s.b',(ids H')[k]?=(ids H1)[k]? :=by
 have hsl:∀k∈zdz s.e0 s.e' ((zcH s.o s.f).filter λt=>match s.o.dst with|some d=> !Nat.beq t d|none=>true),(ids H')[k]?=(ids H1)[k]? :=λk hk=>by
  obtain ⟨t,h1,p,q,h2,h3,h4⟩:=zfx hk;have hne:s.o.dst≠some t:=λhd=>by simp_all
  have r1:=hs.slots t p h2;have r2:=hs'.slots t q (by grind[zaM]);grind[Rep.names]
 intro k hk;unfold zgq at hk;cases hc:ztO s.o s.e0 s.b0 with
 |true=>rw[hsto hc]|false =>
 rw[hc,cond_false] at hk;rcases yAp.1 hk with hk|hk;·grind
 ·obtain ⟨j,_,h2,T,cs,T',cs',h3,h4,h5,h6⟩:=zgY hk;have hid:=hsl j h2;obtain ⟨r,q1,q2⟩:=hs.Kg.get h3;obtain ⟨r',q3,q4⟩:=hs'.Kg.get h4;simp only[Kc] at q2 q4;cases r<;>simp only[Kc] at q2;cases r'<;>simp only[Kc] at q4;rename_i id id';obtain ⟨vs,s1,s2⟩:=q2;obtain ⟨vs',s3,s4⟩:=q4;simp only[ids,yAh,q1,q3,yAg,zal,yAf] at hid;subst hid;have hv:vs=vs':=by
   cases s1 with
   |fix v g size ob T h1 _=>exfalso;have:=s2.length;grind
   |box g T vs g1 g2 g3 =>
     generalize hx:(true,Value.pointer (some ⟨g,0,none⟩))=x at s3;cases s3 with
     |box g' T' vs' g4 g5 g6 =>simp only[Prod.mk.injEq,Value.pointer.injEq,yAf,Addr.mk.injEq,true_and,and_true] at hx;subst hx;have:=hs'.Kr.out.block g g1 g2;rw[hE1] at this;rw[this,g3] at g6;simp only[yAf,Obj.cells.injEq] at g6;exact congrArg Array.toList g6.1
     |fix v g' size ob T' g4 g5 =>simp only[Prod.mk.injEq,true_and] at hx;subst hx;rcases g4 with ⟨_,_,_,h,_⟩|⟨_,_,_,_,_,_,h,_⟩|⟨h,_⟩|⟨_,_,_,_,_,_,h,_⟩<;>cases h
  grind[Ke.names]
end
end Pe
end
section
namespace Pe
open Go Go.RowKit
variable{S:Nat->Type}
section
variable{P:Program}{un:Uni S}{E:Wl.Ctx}{D0:Dat}{N:Wl.Fr}{D D':Dat}{H H':List Wl.Res}{a a':Act}{w w':World}{ops:Array Oper}
def Stp.turns(s:Stp S)(k:Nat):Prop:=k∈s.f.foot\/(s.bx.length<=k/\k<s.b'.length)
instance (s:Stp S) (k:Nat):Decidable (s.turns k):=by unfold Stp.turns;infer_instance
def zl2(s:Stp S)(H H':List Wl.Res):List Wl.Res:=H.mapIdx λk r=>if s.turns k then (H'[k]?).getD r else r
theorem zl0(s:Stp S):(zl2 s H H').length=H.length:=by simp[zl2]
theorem zhg{s:Stp S}{k:Nat}(hk:¬s.turns k):(zl2 s H H')[k]?=H[k]? :=by simp_all[zl2]
theorem zl1{s:Stp S}{k:Nat}(hk:s.turns k)(hl:k<H.length)(hl':k<H'.length):(zl2 s H H')[k]?=H'[k]? :=by simp_all[zl2]
theorem zk2{s:Stp S}(Kt:In E D H w){g:Nat}(h:(zg4 E.fix s.f.foot H w).may g):E.may g:=by
 rcases h with h|h;·exact .inl (yAo Kt.out.size h)
 ·obtain ⟨k,_,r,h2,h3⟩:=zaP.1 h;exact (Wl.Res.holds_lt (Kt.res r (yAb h2)) h3).1
theorem znO{s:Stp S}(Kt:In E D H w)(hf:Wl.Grow (zbk s.f.foot H) w w'){k:Nat}{r:Wl.Res}(hk:k∉s.f.foot)(hr:H[k]?=some r):∀g,r.has g->w'.heap[g]?=w.heap[g]? :=λg hg=>by
 refine hf.block g (Wl.Res.holds_lt (Kt.res r (yAb hr)) hg).2 λhm=>?_;obtain ⟨k',h1,r',h2,h3⟩:=zaP.1 hm;have hne:k≠k':=by grind
 exact Kt.disjAt hne hr h2 g hg h3
theorem zlj{s:Stp S}(Kt:In E D H w)(hf:Wl.Grow (zbk s.f.foot H) w w'):∀g,g<E.w.heap.size->g∉E.lent->w'.heap[g]?=w.heap[g]? :=λg hg hn=>by
 refine hf.block g (yAq hg Kt.out.size) λhm=>?_;obtain ⟨k,_,r,h2,h3⟩:=zaP.1 hm;rcases (Wl.Res.holds_lt (Kt.res r (yAb h2)) h3).1 with h4|h4;·omega
 ·exact hn h4
theorem In.merge{s:Stp S}(hlent:∀(i:Nat) v,zyp E.fix i=some v->s.turns i->∃r,H'[i]?=some r/\zax r=true/\zal r=(true,v)/\keptR E.w r)(hfl:∀k∈s.f.foot,k<s.bx.length)(hgr:s.bx.length<=s.b'.length)(Kt:In E D H w)(hl:s.b'.length<=H.length)(hl':H'.length=s.b'.length)
  (hin':In (zg4 E.fix s.f.foot H w) D' H' w') (hsrc:∀k o,D' k o->D k o\/(zg4 E.fix s.f.foot H w).may k):In E D' (zl2 s H H') w':=by
 have hf:Wl.Grow (zbk s.f.foot H) w w':=hin'.out;have hsz:∀{k},s.turns k->k<H'.length/\k<H.length:=λ{k} hk=>by
  rcases hk with hk|hk;·have:=hfl k hk;omega
  ·omega
 have get:∀(k:Nat) r,(zl2 s H H')[k]?=some r->(s.turns k/\H'[k]?=some r)\/(¬s.turns k/\H[k]?=some r):=λk r h=>by
  by_cases hk:s.turns k;·rw[zl1 hk (hsz hk).2 (hsz hk).1] at h;exact .inl ⟨hk,h⟩
  ·rw[zhg hk] at h;exact .inr ⟨hk,h⟩
 have nofoot:∀{k},¬s.turns k->k∉s.f.foot:=λh hm=>h (.inl hm);have cross:∀{k r j t},s.turns k->H'[k]?=some r->¬s.turns j->H[j]?=some t->∀g,r.has g->¬t.has g:=λ{k r j t} h1 h2 h3 h4 g h5 h6=>by
  rcases (Wl.Res.holds_lt (hin'.res r (yAb h2)) h5).1 with h7|h7;·have:=(Wl.Res.holds_lt (Kt.res t (yAb h4)) h6).2;have h7:w.heap.size<=g:=h7;omega
  ·obtain ⟨k',g1,r',g2,g3⟩:=zaP.1 h7;have hne:j≠k':=by rintro rfl;exact nofoot h3 g1
   exact Kt.disjAt hne h4 g2 g h6 g3
 refine ⟨?_,hin'.lt,λr hr=>?_,λr hr g hg o hfr hd=>?_,zcG λi j r t hij hi hj=>?_,λi v hi=>?_⟩;·refine ⟨hf.os.trans Kt.out.os,hf.tape.trans Kt.out.tape,hf.output.trans Kt.out.output,yAo Kt.out.size hf.size,λk hk hn=>(zlj Kt hf k hk hn).trans (Kt.out.block k hk hn)⟩
 ·obtain ⟨k,hk⟩:=yAl hr;rcases get k r hk with ⟨h1,h2⟩|⟨h1,h2⟩;·exact zfS (hin'.res r (yAb h2)) λg hg=>zk2 Kt (Wl.Res.holds_lt (hin'.res r (yAb h2)) hg).1
  ·exact Wl.Res.holds_of (Kt.res r (yAb h2)) (znO Kt hf (nofoot h1) h2)
 ·obtain ⟨k,hk⟩:=yAl hr;rcases get k r hk with ⟨h1,h2⟩|⟨h1,h2⟩;·exact hin'.apart r (yAb h2) g hg o hfr hd
  ·rcases hsrc g o hd with h3|h3;·exact Kt.apart r (yAb h2) g hg o hfr h3
   ·rcases h3 with h3|h3;·have:=(Wl.Res.holds_lt (Kt.res r (yAb h2)) hg).2;have h3:w.heap.size<=g:=h3;omega
    ·obtain ⟨k',g1,r',g2,g3⟩:=zaP.1 h3;have hne:k≠k':=by rintro rfl;exact nofoot h1 g1
     exact Kt.disjAt hne h2 g2 g hg g3
 ·rcases get i r hi with ⟨h1,h2⟩|⟨h1,h2⟩
  ·rcases get j t hj with ⟨h3,h4⟩|⟨h3,h4⟩;·exact hin'.disjAt hij h2 h4
   ·exact λg g1 g2=>cross h1 h2 h3 h4 g g1 g2
  ·rcases get j t hj with ⟨h3,h4⟩|⟨h3,h4⟩;·exact λg g1 g2=>cross h3 h4 h1 h2 g g2 g1
   ·exact Kt.disjAt hij h2 h4
 ·by_cases hk:s.turns i;·obtain ⟨r,h1,h2⟩:=hlent i v hi hk;exact ⟨r,by rw[zl1 hk (hsz hk).2 (hsz hk).1];exact h1,h2⟩
  ·obtain ⟨r,h1,h2⟩:=Kt.lent i v hi;exact ⟨r,by rw[zhg hk];exact h1,h2⟩
end
end Pe
end
section
namespace Pe
open Go Go.RowKit
variable{S:Nat->Type}
section
variable{P:Program}{un:Uni S}{E:Wl.Ctx}{D0:Dat}{N:Wl.Fr}{D D':Dat}{H H':List Wl.Res}{a a':Act}{w w':World}{ops:Array Oper}
structure Read (ops:Array Oper) (e:Env S) (bx:Bxs S) (tr:List (Stp S)) (ef:Env S) (bf:Bxs S):Prop where
 e0:zfW tr ef 0=e
 b0:zdf tr bf 0=bx
 efin:zfW tr ef tr.length=ef
 bfin:zdf tr bf tr.length=bf
 start:∀k,(k∈zdd e\/∃j b,zam bx j=some b/\k∈b.hits)->k<bx.length
 at_:∀(i:Nat) s,tr[i]?=some s->ops[i]?=some s.o/\s.Gd ops/\s.e=zfW tr ef i/\s.bx=zdf tr bf i/\zfW tr ef (i+1)=s.nextE/\zdf tr bf (i+1)=s.nextB/\∃rs,StepF ops i s rs/\∀(j:Nat) s',j<i->tr[j]?=some s'->s'.rc j∈rs
theorem Read.of{e:Env S}{bx:Bxs S}{tr:List (Stp S)}{ef:Env S}{bf:Bxs S}(hs:zju e bx=true)(h:Chain ops 0 [] e bx tr ef bf):Read ops e bx tr ef bf:=by
 obtain ⟨h1,h2⟩:=h.start;refine ⟨h1,h2,by grind[zfW],by grind[zdf],λk hk=>?_,λi s hi=>?_⟩
 ·unfold zju at hs;refine zeK hs k ?_;rw[yAp];rcases hk with hk|⟨j,b,hj,hk⟩;·exact .inl hk
  ·exact .inr (zb1 hj hk (yBa.2 (zb5 hj)))
 ·obtain ⟨q1,q2,q4,q5,rs,q6,_,q8⟩:=h.at hi;rw[yAJ] at q1 q6;refine ⟨q1,q2,by grind[zfW],by grind[zdf],q4,q5,rs,zlN q6,λj s' hj hs'=>?_⟩;simp_all
section
variable{e:Env S}{bx:Bxs S}{tr:List (Stp S)}{ef:Env S}{bf:Bxs S}
theorem Stp.nextB_len{s:Stp S}{i:Nat}{rs:List Rc}(F:StepF ops i s rs):s.nextB.length=s.b'.length:=zfM _ _ _ _ F.grow
theorem Stp.nextB_get{s:Stp S}{i:Nat}{rs:List Rc}(F:StepF ops i s rs)(b:Nat):(s.turns b->zam s.nextB b=zam s.b' b)/\(¬s.turns b->zam s.nextB b=(zam s.bx b).map (Box.junkA s.f.dead)):=by
 have h:=zh5 s.f s.bx s.b' 0 b F.grow;rw[yAJ] at h;unfold Stp.nextB;constructor
 ·intro ht;rw[h];rcases ht with ht|ht
  ·grind
  simp_all[if_neg]
 ·intro ht;rw[h];have h1:b∉s.f.foot:=λh=>ht (.inl h);split;·simp[h1]
  ·rename_i hb;have hb':s.b'.length<=b:=Nat.le_of_not_lt λhl=>ht (.inr ⟨by omega,hl⟩);have none_of:∀(l:Bxs S),l.length<=b->zam l b=none:=λl hl=>by
    cases hg:zam l b with
    |none=>rfl|some x=>have:=zb5 hg;omega
   grind
theorem Read.grow(hR:Read ops e bx tr ef bf){m k:Nat}(hmk:m<=k)(hk:k<=tr.length):(zdf tr bf m).length<=(zdf tr bf k).length:=by
 induction k with
 | zero=>simp_all
 |succ k ih =>
   rcases yBJ hmk with rfl|Ks;·exact yAi _
   ·have hk':k<tr.length:=(by omega);obtain ⟨_,_,_,h5,_,h7,rs,F,_⟩:=hR.at_ k tr[k] (by simp[hk']);refine yAo (ih (by omega) (by omega)) ?_;grind[Stp.nextB_len,StepF.grow]
theorem Read.at_len(hR:Read ops e bx tr ef bf){i:Nat}{s:Stp S}(hi:tr[i]?=some s):s.bx.length=(zdf tr bf i).length/\s.b'.length=(zdf tr bf (i+1)).length:=by obtain ⟨_,_,_,h5,_,h7,rs,F,_⟩:=hR.at_ i s hi;grind[Stp.nextB_len]
theorem Read.lt(_:Read ops e bx tr ef bf){i:Nat}{s:Stp S}(hi:tr[i]?=some s):i<tr.length:=(yAc.1 hi).1
theorem Read.made_lt(hR:Read ops e bx tr ef bf){i k:Nat}{s:Stp S}(hi:tr[i]?=some s)(hik:i<k)(hk:k<=tr.length):s.b'.length<=(zdf tr bf k).length:=by rw[(hR.at_len hi).2];exact hR.grow hik hk
theorem Read.slot_back(hR:Read ops e bx tr ef bf){m k:Nat}(hmk:m<=k)(hk:k<=tr.length){t:Nat}{q:PV S}(h:zvo (zfW tr ef k) t=some q) :
  ∃q0,Weak q q0/\(zvo (zfW tr ef m) t=some q0\/∃j s,m<=j/\j<k/\tr[j]?=some s/\s.o.dst=some t/\q0=s.p):=by
 induction k generalizing q with
 | zero=>have:m=0:=by omega
         subst this;exact ⟨q,.inr (.inl rfl),.inl h⟩
 |succ k ih =>
   rcases yBJ hmk with rfl|Ks;·exact ⟨q,.inr (.inl rfl),.inl h⟩
   ·have hk':k<tr.length:=(by omega);have hs:tr[k]?=some tr[k]:=(by simp[hk']);obtain ⟨_,_,h4,_,h6,_,rs,F,_⟩:=hR.at_ k tr[k] hs;rw[h6] at h;by_cases hd:tr[k].o.dst=some t;·refine ⟨q,.inr (.inl rfl),.inr ⟨k,tr[k],by omega,by omega,hs,hd,?_⟩⟩;unfold Stp.nextE at h;rw[hd] at h;simpa[push,zvo] using h.symm
    ·obtain ⟨q1,hw,h,_⟩:=ziV hd h;rw[h4] at h;obtain ⟨q0,hw0,h⟩:=ih (by omega) (by omega) h;refine ⟨q0,hw.trans hw0,?_⟩;grind
theorem Read.box_back(hR:Read ops e bx tr ef bf){m k:Nat}(hmk:m<=k)(hk:k<=tr.length){b:Nat}{x:Box S}(h:zam (zdf tr bf k) b=some x) :
  ∃x0,WeakB x x0/\((zam (zdf tr bf m) b=some x0/\∀(j:Nat) s,m<=j->j<k->tr[j]?=some s->¬s.turns b)\/∃j s,m<=j/\j<k/\tr[j]?=some s/\s.turns b/\zam s.b' b=some x0):=by
 induction k generalizing x with
 | zero=>have:m=0:=by omega
         subst this;exact ⟨x,.inl rfl,.inl ⟨h,λj s h1 h2=>by omega⟩⟩
 |succ k ih =>
   rcases yBJ hmk with rfl|Ks;·exact ⟨x,.inl rfl,.inl ⟨h,λj s h1 h2=>by omega⟩⟩
   ·have hk':k<tr.length:=(by omega);have hs:tr[k]?=some tr[k]:=(by simp[hk']);obtain ⟨_,_,_,h5,_,h7,rs,F,_⟩:=hR.at_ k tr[k] hs;rw[h7] at h;by_cases hd:tr[k].turns b;·rw[(Stp.nextB_get F b).1 hd] at h;exact ⟨x,.inl rfl,.inr ⟨k,tr[k],by omega,by omega,hs,hd,h⟩⟩
    ·rw[(Stp.nextB_get F b).2 hd,h5] at h;obtain ⟨x1,hx1,hx2⟩:=yA9.1 h;obtain ⟨x0,hw,h⟩:=ih (by omega) (by omega) hx1;grind[WeakB.trans,WeakB.junk]
theorem zfN{s:Stp S}{i k:Nat}(h:k∈s.p.hits):k∈(s.rc i).hits:=by show k∈zdj _ _ _ _ _;grind[zdj]
theorem zhU{s:Stp S}{i:Nat}{rs:List Rc}(F:StepF ops i s rs){b k:Nat}{x:Box S}(ht:s.turns b)(hb:zam s.b' b=some x)(h:k∈x.hits):k∈s.p.hits++zb7 s.b' (s.f.foot++zcO s.bx.length (s.b'.drop s.bx.length))/\k∈(s.rc i).hits:=by
 have Ku:s.b0.length=s.bx.length:=zc1 _ _ _;have hm:b∈s.f.foot++zcO s.bx.length (s.b'.drop s.bx.length):=by
  rw[yAp,zfd];rcases ht with ht|ht;·exact .inl ht
  ·right;rw[yAL];grind
 have:=zb1 hb h hm;refine ⟨yB5 _ this,?_⟩;show k∈zdj _ _ _ _ _;simp_all[zdj]
theorem zoV{s:Stp S}{i t k:Nat}{q:PV S}(ht:t∈zcH s.o s.f)(hq:zvo s.e t=some q)(h:k∈q.hits):k∈(s.rc i).hits:=by
 show k∈zdj _ _ _ _ _;unfold zdj;have:zvo s.e0 t=some q:=by grind[Stp.e0,zcL]
 simp only[yAp];grind[zb0]
theorem ziq:∀(x:Box S),x.base.hits=x.hits| .lk b=>ziq b| .ro b=>ziq b| .var _ _=>rfl| .own _ _ _=>rfl| .wr _ _ _=>rfl| .nst _ _ _ _ _=>rfl| .grp _ _ _ _=>rfl| .gone=>rfl
theorem zot(x:Box S):(zhy x.base).hits=x.hits:=by
 rw[<-ziq x];cases hx:x.base with
 |lk b=>exfalso;exact absurd hx (by intro h;exact base_ne x h)|ro b=>exfalso;exact absurd hx (by intro h;exact base_ne2 x h)|_=>rfl
where
 base_ne:∀(x:Box S){b:Box S},x.base= .lk b->False
  | .lk y,b,h=>base_ne y h| .ro y,b,h=>base_ne y h
 base_ne2:∀(x:Box S){b:Box S},x.base= .ro b->False
  | .lk y,b,h=>base_ne2 y h| .ro y,b,h=>base_ne2 y h
theorem zoU{s:Stp S}{i b k:Nat}{x:Box S}(hfs:b∈s.f.foot\/b∈s.f.see)(hb:zam s.bx b=some x)(h:k∈x.hits):k∈(s.rc i).hits:=by
 show k∈zdj _ _ _ _ _;have hb0:∃y,zam s.b0 b=some y/\k∈y.hits:=by
  unfold Stp.b0;rw[zdq,hb,yAJ];cases hc:s.f.foot.contains b with
  |true=>simp_all|false =>
    have hs:s.f.see.contains b=true:=by
     grind
    simp_all[zot]
 obtain ⟨y,h1,h2⟩:=hb0;unfold zdj;simp only[yAp];grind[zb1]
theorem Read.hits_lt(hR:Read ops e bx tr ef bf):∀{k:Nat},k<=tr.length->(∀t q j,zvo (zfW tr ef k) t=some q->j∈q.hits->j<(zdf tr bf k).length)/\∀b x j,zam (zdf tr bf k) b=some x->j∈x.hits->j<(zdf tr bf k).length:=by
 intro k hk;constructor
 ·intro t q j hq hj;obtain ⟨q0,hw,h⟩:=hR.slot_back (yAA k) hk hq;have hj:=hw.hits hj;rcases h with h|⟨i,s,_,hik,hs,_,rfl⟩
  ·rw[hR.e0] at h;have:=hR.start j (.inl (zb0 h hj));rw[<-hR.b0] at this;exact yAq this (hR.grow (yAA k) hk)
  ·obtain ⟨_,_,_,_,_,_,rs,F,_⟩:=hR.at_ i s hs;exact yAq (F.hits_lt j (zfN (i:=i) hj)) (hR.made_lt hs hik hk)
 ·intro b x j hx hj;obtain ⟨x0,hw,h⟩:=hR.box_back (yAA k) hk hx;have hj:=hw.hits hj;rcases h with ⟨h,_⟩|⟨i,s,_,hik,hs,ht,hg⟩
  ·rw[hR.b0] at h;have:=hR.start j (.inr ⟨b,x0,h,hj⟩);rw[<-hR.b0] at this;exact yAq this (hR.grow (yAA k) hk)
  ·obtain ⟨_,_,_,_,_,_,rs,F,_⟩:=hR.at_ i s hs;exact yAq (F.hits_lt j (zhU F ht hg hj).2) (hR.made_lt hs hik hk)
end
end
end Pe
end
section
namespace Pe
open Go Go.RowKit
variable{S:Nat->Type}
section
variable{P:Program}{un:Uni S}{E:Wl.Ctx}{D0:Dat}{N:Wl.Fr}{D D':Dat}{H H':List Wl.Res}{a a':Act}{w w':World}{ops:Array Oper}
variable{e:Env S}{bx:Bxs S}{tr:List (Stp S)}{ef:Env S}{bf:Bxs S}
theorem Kc.plain{nu:Nu}{E':Wl.Ctx}{bx:Bxs S}{k:Nat}(hf:zhL bx k=true){b:Box S}(hb:zam bx k=some b){r:Wl.Res}(h:Kc un nu D w E false b r):Kc un nu D w E' false b r:=by
 unfold zhL at hf;rw[hb] at hf;cases b with
 |var T cs=>cases r<;>simp only[Kc] at h ⊢ <;>exact h|own u T l=>cases r<;>simp only[Kc] at h ⊢;exact h|wr u T l=>cases r<;>simp only[Kc] at h ⊢;exact h|nst u T T2 l hh=>cases r<;>simp only[Kc] at h ⊢;exact h|grp u T2 l hh=>cases r<;>simp only[Kc] at h ⊢;exact h|lk b=>simp at hf|ro b=>simp at hf|gone=>simp only[Kc]
structure Apart (s s':Stp S) (i j:Nat):Prop where
 foot:∀k∈s'.f.foot,k∉s.f.foot/\k∉s.f.see
 see:∀k∈s'.f.see,k∉s.f.foot
 made:∀k,k∈s'.f.foot\/k∈s'.f.see->¬(s.bx.length<=k/\k<s.b'.length)
 hits:∀k∈(s'.rc j).hits,¬(s.bx.length<=k/\k<s.b'.length)
 dead:∀k∈s'.f.dead,k∉(s.rc i).hits
 dead':∀k∈s.f.dead,k∉(s'.rc j).hits
theorem Read.apart(hR:Read ops e bx tr ef bf){i j:Nat}{s s':Stp S}(hij:i<j)(hi:tr[i]?=some s)(hj:tr[j]?=some s'):reachB ops i j=true\/Apart s s' i j:=by
 obtain ⟨_,_,_,_,_,_,rs,F,hrs⟩:=hR.at_ j s' hj;rcases F.rcs _ (hrs i s hij hi) with h|h;·exact .inl h
 ·obtain ⟨h1,h2,h3,h4,h5,h6⟩:=zoI h;exact .inr ⟨h1,h2,h3,h4,h5,h6⟩
theorem Read.turns_apart(hR:Read ops e bx tr ef bf){i j b:Nat}{s s':Stp S}(hij:i<j)(hi:tr[i]?=some s)(hj:tr[j]?=some s')(h:Apart s s' i j)(h1:s.turns b)(h2:s'.turns b):False:=by
 have hl:=hR.made_lt hi hij (yBf (hR.lt hj));rw[<-(hR.at_len hj).1] at hl;rcases h2 with h2|h2
 ·rcases h1 with h1|h1;·exact (h.foot b h2).1 h1
  ·exact h.made b (.inl h2) h1
 ·rcases h1 with h1|h1;·obtain ⟨_,_,_,_,_,_,rs,F,_⟩:=hR.at_ i s hi;have:=F.foot_lt b h1;have:=F.grow;omega
  ·omega
structure Mid (un:Uni S) (E:Wl.Ctx) (D0:Dat) (N:Wl.Fr) (tr:List (Stp S)) (ef:Env S) (bf:Bxs S) (X:Nat->Prop) (D:Dat) (H:List Wl.Res) (a:Act) (w:World):Prop where
 Kr:In E D H w
 len:H.length=bf.length
 size:a.tmps.size=N.n
 defers:a.defers=N.ds/\TabE un E.w E.lent
 src:∀k o,D k o->D0 k o\/E.may k
 ge:Ge D0 E.w D w
 slots:∀(k t:Nat) q,k<=tr.length->(∀s,tr[k]?=some s->¬X k/\t∈zcH s.o s.f)->zvo (zfW tr ef k) t=some q->(∀(j:Nat) s,tr[j]?=some s->s.o.dst=some t->(j<k↔X j))->Rep un (ids H) D w q (a.tmps.getD t undef)
 Kg:∀(k b:Nat) x,k<=tr.length->(∀s,tr[k]?=some s->¬X k/\(b∈s.f.foot\/b∈s.f.see))->zam (zdf tr bf k) b=some x->(∀(j:Nat) s,tr[j]?=some s->s.turns b->(j<k↔X j))->∃r,H[b]?=some r/\Kc un (ids H) D w E false x r
 pres:∀(j:Nat) s,tr[j]?=some s->X j->Kk s.b0 s.b'
theorem Mid.step(Kq:Kx un)(Q1:∀(i:Nat) v,zyp E.fix i=some v->i<bx.length)(hR:Read ops e bx tr ef bf){X:Nat->Prop}{i:Nat}{s:Stp S}
  (hX:∀j k,reachB ops j k=true->X k->X j) (hi:tr[i]?=some s) (hXi:¬X i) (hanc:∀j,j≠i->reachB ops j i=true->X j)
  (uniq:∀(j:Nat) s' t,tr[j]?=some s'->j≠i->s.o.dst=some t->s'.o.dst≠some t)
  (wr:∀t∈zcj s.o.op.operands.toList,∀(j:Nat) s',tr[j]?=some s'->j≠i->s'.o.dst=some t->(j<i->reachB ops j i=true)/\(i<j->reachB ops i j=true))
  (hm:Mid un E D0 N tr ef bf X D H a w) :
  St un (zg4 E.fix s.f.foot H w) N D (zg3 s.f.foot s.bx.length H) s.e0 s.b0 a w/\∀a' w',s.Post un (zg4 E.fix s.f.foot H w) D N (zg3 s.f.foot s.bx.length H) a' w'->(∀t,s.o.dst≠some t->a'.tmps.getD t undef=a.tmps.getD t undef) ->
   ∃D' H',Mid un E D0 N tr ef bf (λj=>X j\/j=i) D' H' a' w':=by
 obtain ⟨hoi,hgi,hse,hsb,hnE,hnB,rs,F,hrs⟩:=hR.at_ i s hi;have hil:=hR.lt hi;have Ku:s.bx.length<=H.length:=by have h1:=hR.grow (yBf hil) (yAi _);rw[hR.bfin,<-hsb] at h1;rw[hm.len];exact h1
 have hlen':s.b'.length<=H.length:=by have h1:=hR.made_lt hi hil (yAi _);rw[hR.bfin] at h1;rw[hm.len];exact h1
 have hme:∀s',tr[i]?=some s'->s'=s:=λs' h=>by rw[hi] at h;exact (yAS h).symm
 -- what it looks at
 have hsl:∀t q,zvo s.e0 t=some q->Rep un (ids H) D w q (a.tmps.getD t undef):=λt q hq=>by
  unfold Stp.e0 at hq;rw[zcL] at hq;split at hq
  ·rename_i hc;have hc:t∈zcH s.o s.f:=by simpa using hc
   refine hm.slots i t q (yBf hil) (λs' h=>by rw[hme s' h];exact ⟨hXi,hc⟩) (by rw[<-hse];exact hq) λj s' hj hdj=>?_;obtain ⟨hoj,_⟩:=hR.at_ j s' hj;unfold zcH at hc;rcases yAp.1 hc with hc|hc
   ·constructor;·intro hji;exact hanc j (by omega) ((wr t hc j s' hj (by omega) hdj).1 hji)
    ·intro hXj;rcases yBL j i with h|h|h;·exact h
     ·exact absurd (h▸hXj) hXi
     ·exact absurd (hX i j ((wr t hc j s' hj (by omega) hdj).2 h) hXj) hXi
   ·obtain ⟨h1,h2⟩:=F.pins t hc j s'.o hoj hdj;exact ⟨λ_=>hanc j (by omega) h2,λ_=>h1⟩
  ·cases hq
 have hbx:∀k b,k∈s.f.foot\/k∈s.f.see->zam s.bx k=some b->∃r,H[k]?=some r/\Kc un (ids H) D w E false b r:=λk b hk hb=>by
  refine hm.Kg i k b (yBf hil) (λs' h=>by rw[hme s' h];exact ⟨hXi,hk⟩) (by rw[<-hsb];exact hb) λj s' hj ht=>?_;have hkl:=zb5 hb;constructor
  ·intro hji;rcases hR.apart hji hj hi with h|h;·exact hanc j (by omega) h
   ·exfalso;rcases ht with ht|ht
    ·rcases hk with hk|hk;·exact (h.foot k hk).1 ht
     ·exact h.see k hk ht
    ·exact h.made k hk ht
  ·intro hXj;rcases yBL j i with h|h|h;·exact h
   ·exact absurd (h▸hXj) hXi
   ·exfalso;rcases hR.apart h hi hj with h2|h2;·exact hXi (hX i j h2 hXj)
    ·rcases ht with ht|ht
     ·rcases hk with hk|hk;·exact (h2.foot k ht).1 hk
      ·exact (h2.foot k ht).2 hk
     ·have h3:=hR.made_lt hi h (yBf (hR.lt hj));rw[<-(hR.at_len hj).1] at h3;have:=F.grow;omega
 have st:=zri Kq F hm.Kr Ku hm.size hm.defers hsl hbx;refine ⟨st,λa' w' Qz hoth=>?_⟩;obtain ⟨⟨D',H',st',hsrc,K2,hkp⟩,hpb⟩:=Qz;have K2:Ge D w D' w':=K2;have hH':H'.length=s.b'.length:=st'.Kg.length.symm;have hgrow:Wl.Grow (zbk s.f.foot H) w w':=st'.Kr.out;have hfl:=F.foot_lt;have hpin0:=zmD F (H1:=zg3 s.f.foot s.bx.length H) (E1:=zg4 E.fix s.f.foot H w) (w:=w) rfl st st' hoth hkp;have Kt:=In.merge (λj v hj ht=>by
  have hjb:j<s.bx.length:=by have h1:=Q1 j v hj;rw[<-hR.b0] at h1;have h2:=hR.grow (yAA i) (yBf hil);rw[<-hsb] at h2;omega
  have hjf:j∈s.f.foot:=ht.resolve_right λh=>by omega
  obtain ⟨r,q1,q2,q3,q4⟩:=hm.Kr.lent j v hj;obtain ⟨r',p1,p2,p3,p4⟩:=st'.Kr.lent j v (zzn.2 ⟨hjf,hj⟩);exact ⟨r',p1,p2,p3,keptR.trans (hm.Kr.res r (yAb q1)) (st'.Kr.res r' (yAb p1)) q2 p2 (p3.trans q3.symm) q4 p4⟩) hfl F.grow hm.Kr hlen' hH' st'.Kr hsrc
 have hkept:=zlj (s:=s) hm.Kr hgrow;have hpin:=zmD F (H1:=zg3 s.f.foot s.bx.length H) (E1:=zg4 E.fix s.f.foot H w) (w:=w) rfl st st' hoth hkp;have hpin':∀k∈zgq s.o s.f s.e0 s.b0 s.e' s.b',k<s.bx.length->(ids H')[k]?=(ids H)[k]? :=λk hk Ks=>(hpin k hk).trans (zfO Ks);have newin:∀{k},s.turns k->(zl2 s H H')[k]?=H'[k]? :=λ{k} hk=>by
  have:k<s.b'.length:=by
   rcases hk with hk|hk;·have:=hfl k hk;have:=F.grow;omega
   ·exact hk.2
  exact zl1 hk (by omega) (by omega)
 have idsin:∀{k},s.turns k->(ids (zl2 s H H'))[k]?=(ids H')[k]? :=λ{k} hk=>by simp only[ids,yAh,newin hk]
 have idsout:∀{k},¬s.turns k->(ids (zl2 s H H'))[k]?=(ids H)[k]? :=λ{k} hk=>by simp only[ids,yAh,zhg hk]
 have factA:∀k,k∈s.p.hits++zb7 s.b' (s.f.foot++zcO s.bx.length (s.b'.drop s.bx.length))->k<s.b'.length->(ids (zl2 s H H'))[k]?=(ids H')[k]? :=λk hk hkl=>by
  by_cases ht:s.turns k;·exact idsin ht
  ·have Ks:k<s.bx.length:=Nat.lt_of_not_le λh=>ht (.inr ⟨h,hkl⟩);rcases F.named k hk with h|h|h;·exact absurd (.inl h) ht
   ·omega
   ·rw[idsout ht,hpin' k h Ks]
 have factB:∀k,k∉s.f.dead->¬(s.bx.length<=k/\k<s.b'.length)->(ids (zl2 s H H'))[k]?=(ids H)[k]? :=λk hk hn=>by
  by_cases ht:s.turns k
  ·rcases ht with ht|ht;·rw[idsin (.inl ht),hpin' k (F.live k ht hk) (hfl k ht)]
   ·exact absurd ht hn
  ·exact idsout ht
 refine ⟨D',zl2 s H H',Kt,by rw[zl0];exact hm.len,st'.size,⟨st'.defers.1,hm.defers.2⟩,λk o h=>?_,hm.ge.trans K2,λk t q hk hC hq hW=>?_,λk b x hk hC hx hW=>?_,λj s' hj hXj=>?_⟩
 ·rcases hsrc k o h with h|h;·exact hm.src k o h
  ·exact .inr (zk2 hm.Kr h)
 ·-- slots
  have hki:k≠i:=λh=>by subst h;exact (hC s hi).1 (.inr rfl)
  by_cases hdt:s.o.dst=some t
  ·have hik:i<k:=(hW i s hi hdt).2 (.inr rfl);have hqp:Weak q s.p:=by
    obtain ⟨q0,hw,h⟩:=hR.slot_back (m:=i+1) hik hk hq;rcases h with h|⟨j,s',h1,h2,h3,h4,h5⟩
    ·rw[hnE] at h;unfold Stp.nextE at h;rw[hdt] at h;have:s.p=q0:=by simpa[push,zvo] using h
     rw[this];exact hw
    ·exact absurd h4 (uniq j s' t h3 (by omega) hdt)
   refine hqp.rep ?_;·have hr:Rep un (ids H') D' w' s.p (a'.tmps.getD t undef):=st'.slots t s.p (by rw[hdt];simp[push,zvo]);exact Rep.on _ _ (λj hj=>factA j (by simp[hj]) (F.hits_lt j (zfN (i:=i) hj))) hr
  ·rw[hoth t hdt];have hold:=hm.slots k t q hk (λs' h=>⟨λh'=>(hC s' h).1 (.inl h'),(hC s' h).2⟩) hq λj s' hj hdj=>by
    have hji:j≠i:=λh=>by subst h;rw[hi] at hj;cases hj;exact hdt hdj
    have:=hW j s' hj hdj;exact ⟨λh=>(this.1 h).resolve_right hji,λh=>this.2 (.inl h)⟩
   have hold:=hold.ge K2 (λ_ _ h=>h);have hfin:(∀j∈q.hits,j∉s.f.dead/\¬(s.bx.length<=j/\j<s.b'.length))->Rep un (ids (zl2 s H H')) D' w' q (a.tmps.getD t undef):=λh=>Rep.on _ _ (λj hj=>factB j (h j hj).1 (h j hj).2) hold;refine hfin λj hj=>?_;rcases yBY hki with hki|hik
   ·-- k goes first in the text
    have hkl:k<tr.length:=(by omega);have hs':tr[k]?=some tr[k]:=(by simp[hkl]);obtain ⟨_,_,hke,_⟩:=hR.at_ k _ hs';have hjh:j∈(tr[k].rc k).hits:=zoV (hC _ hs').2 (by rw[hke];exact hq) hj;obtain ⟨_,_,_,_,_,_,rs',F',_⟩:=hR.at_ k _ hs';have h2:=F'.hits_lt j hjh;have h3:=hR.made_lt hs' hki (yBf hil);rw[<-hsb] at h3;refine ⟨λhjd=>?_,by omega⟩;rcases hR.apart hki hs' hi with h|h;·exact (hC _ hs').1 (.inl (hanc k (by omega) h))
    ·exact h.dead j hjd hjh
   ·obtain ⟨q0,hw,h⟩:=hR.slot_back (m:=i+1) hik hk hq;have hj:=hw.hits hj;rcases h with h|⟨m,s',h1,h2,h3,h4,h5⟩
    ·rw[hnE] at h;obtain ⟨q1,hw1,h,h'⟩:=ziV hdt h;refine ⟨λhjd=>F.dead_env j hjd (zb0 h' hj),?_⟩;have:=(hR.hits_lt (yBf hil)).1 t q1 j (by rw[<-hse];exact h) (hw1.hits hj);rw[<-hsb] at this;omega
    ·subst h5;have hXm:X m:=((hW m s' h3 h4).1 h2).resolve_right (by omega);rcases hR.apart (by omega) hi h3 with h|h;·exact absurd (hX i m h hXm) hXi
     ·exact ⟨λhjd=>h.dead' j hjd (zfN hj),h.hits j (zfN hj)⟩
 ·-- Kg
  have hki:k≠i:=λh=>by subst h;exact (hC s hi).1 (.inr rfl)
  by_cases ht:s.turns b
  ·have hik:i<k:=(hW i s hi ht).2 (.inr rfl);obtain ⟨x0,hwk,hx1⟩:=hR.box_back (m:=i+1) hik hk hx;have hx':zam s.b' b=some x0:=by
    rcases hx1 with ⟨h,_⟩|⟨j,s',h1,h2,h3,h4,_⟩;·rw[hnB,(Stp.nextB_get F b).1 ht] at h;exact h
    ·exfalso;have hXj:X j:=((hW j s' h3 h4).1 h2).resolve_right (by omega);rcases hR.apart (by omega) hi h3 with h|h;·exact hXi (hX i j h hXj)
     ·exact hR.turns_apart (by omega) hi h3 h ht h4
   obtain ⟨r,h1,h2⟩:=st'.Kg.get hx';refine ⟨r,by rw[newin ht];exact h1,?_⟩;have hpl:zhL s.b' b=true:=by
    refine F.plain b ?_;rw[yAp,zfd,yAL];rcases ht with ht|ht;·exact .inl ht
    ·have:=F.grow;right;omega
   refine hwk.rep ?_;refine Kc.on (λj hj=>?_) (h2.plain hpl hx');have:=zhU (i:=i) F ht hx' hj;exact factA j this.1 (F.hits_lt j this.2)
  ·obtain ⟨r,h1,h2⟩:=hm.Kg k b x hk (λs' h=>⟨λh'=>(hC s' h).1 (.inl h'),(hC s' h).2⟩) hx λj s' hj htj=>by
    have hji:j≠i:=λh=>by subst h;rw[hi] at hj;cases hj;exact ht htj
    have:=hW j s' hj htj;exact ⟨λh=>(this.1 h).resolve_right hji,λh=>this.2 (.inl h)⟩
   refine ⟨r,by rw[zhg ht];exact h1,Kc.on (λj hj=>?_) (Kc.mono K2 hkept (λ_ _ h=>h) h2)⟩;refine (λ(h:j∉s.f.dead/\¬(s.bx.length<=j/\j<s.b'.length))=>factB j h.1 h.2) ?_;rcases yBY hki with hki|hik
   ·have hkl:k<tr.length:=(by omega);have hs':tr[k]?=some tr[k]:=(by simp[hkl]);obtain ⟨_,_,_,hkb,_,_,rs',F',_⟩:=hR.at_ k _ hs';have hjh:j∈(tr[k].rc k).hits:=zoU (hC _ hs').2 (by rw[hkb];exact hx) hj;have h2:=F'.hits_lt j hjh;have h3:=hR.made_lt hs' hki (yBf hil);rw[<-hsb] at h3;refine ⟨λhjd=>?_,by omega⟩;rcases hR.apart hki hs' hi with h|h;·exact (hC _ hs').1 (.inl (hanc k (by omega) h))
    ·exact h.dead j hjd hjh
   ·obtain ⟨x0,hwk,hx1⟩:=hR.box_back (m:=i+1) hik hk hx;have hj:=hwk.hits hj;rcases hx1 with ⟨h,_⟩|⟨m,s',h1,h2,h3,h4,h5⟩
    ·rw[hnB,(Stp.nextB_get F b).2 ht] at h;obtain ⟨x1,hx1,hx2⟩:=yA9.1 h;rw[<-hx2] at hj;have Ks:=(hR.hits_lt (yBf hil)).2 b x1 j (by rw[<-hsb];exact hx1) ((WeakB.junk _ _).hits hj);rw[<-hsb] at Ks;exact ⟨λhjd=>F.dead_box j hjd b x1 (λhf=>ht (.inl hf)) hx1 hj,by omega⟩
    ·have hmi:m≠i:=λh=>by subst h;rw[hi] at h3;cases h3;exact ht h4
     have hXm:X m:=((hW m s' h3 h4).1 h2).resolve_right hmi;obtain ⟨_,_,_,_,_,_,rs',F',_⟩:=hR.at_ m s' h3;rcases hR.apart (by omega) hi h3 with h|h;·exact absurd (hX i m h hXm) hXi
     ·have:=(zhU (i:=m) F' h4 h5 hj).2;exact ⟨λhjd=>h.dead' j hjd this,h.hits j this⟩
 ·rcases hXj with hXj|hXj;·exact hm.pres j s' hj hXj
  ·subst hXj;rw[hi] at hj;cases hj;exact hpb
end
end Pe
end
section
namespace Pe
open Go Go.RowKit
variable{S:Nat->Type}
section
variable{P:Program}{un:Uni S}{tb:Tb S}{orc:Orc S}{inl:Inl S}{E:Wl.Ctx}{D0:Dat}{N:Wl.Fr}{D D':Dat}{H H':List Wl.Res}{a a':Act}{w w':World}{ops:Array Oper}{R:Type}{r:R}{Q:Exit->Act->World->Prop}
variable{e:Env S}{bx:Bxs S}{tr:List (Stp S)}{ef:Env S}{bf:Bxs S}
theorem Mid.congr{X Y:Nat->Prop}(h:∀j,X j↔Y j)(hm:Mid un E D0 N tr ef bf X D H a w):Mid un E D0 N tr ef bf Y D H a w:=by have:X=Y:=funext λj=>propext (h j);grind
theorem Read.pres(hR:Read ops e bx tr ef bf):∀{k:Nat},k<=tr.length->Ky (zbi ops.toList) e (zfW tr ef k)
 |0,_=>by grind[e0,Ky.refl]
 |k+1,hk=>λt p ht hp hr=>by have h:=hR.pres (k:=k) (by omega) t p ht hp hr;have hs:tr[k]?=some (tr[k]'(by omega)):=(by grind);obtain ⟨h1,_,h4,_,h6,_⟩:=hR.at_ k _ hs;rw[h6];unfold Stp.nextE;rw[zaM λhc=>ht (zc0.2 ⟨k,_,by grind,hc⟩),zgA,h4,h];simp_all[ztV]
theorem Kv.junkA(dead:List Nat):∀(b:Box S),Kv b (b.junkA dead)
 | .var T cs=>⟨rfl,by simp,λj p hp hr _=>by
   have:PV.junk1 dead p=p:=by unfold PV.junk1;rw[show dead.any (λb=>p.says b)=false from yB0.2 λb _=>by rw[zcY b p hr];simp];rfl
   simp[yAh,hp,this]⟩
 | .lk b=>Kv.refl b| .ro b=>Kv.refl b| .own _ _ _=>rfl| .wr _ _ _=>rfl| .nst _ _ _ _ _=>rfl| .grp _ _ _ _=>rfl| .gone=>trivial
theorem Read.presB(hR:Read ops e bx tr ef bf)(hp:∀(j:Nat) s,tr[j]?=some s->s.f.foot=[]\/Kk s.b0 s.b'):∀{k:Nat},k<=tr.length->Kk bx (zdf tr bf k)
 |0,_=>by grind[b0,Kk.refl]
 |k+1,hk=>by
   refine (hR.presB hp (k:=k) (by omega)).trans ?_;have hs:tr[k]?=some (tr[k]'(by omega)):=by grind
   obtain ⟨_,_,_,h5,_,h7,rs,F,_⟩:=hR.at_ k _ hs;have hpk:=hp k _ hs;generalize tr[k]'(by omega)=s at *
   rw[h7,<-h5];have same:∀{i b},zam s.bx i=some b->i∉s.f.foot->zam s.nextB i=some (b.junkA s.f.dead):=λ{i b} hb hi=>by
    rw[(Stp.nextB_get F i).2 λht=>?_];·rw[hb];rfl
    ·rcases ht with ht|ht;·exact hi ht
     ·have:=zb5 hb;omega
   refine ⟨by rw[Stp.nextB_len F];exact F.grow,λi b hb hf=>⟨_,same hb λhi=>?_,Kv.junkA s.f.dead b⟩,λi T cs hb=>?_⟩;·have:=F.foot_ok i hi;grind[zi6,fixed]
   ·by_cases hi:i∈s.f.foot
    ·have hb0:zam s.b0 i=some (.var T cs):=by
      simp_all[Stp.b0,zdq]
     obtain ⟨cs',h1,h2⟩:=(hpk.resolve_left λh=>by grind).var i T cs hb0;exact ⟨cs',by rw[(Stp.nextB_get F i).1 (.inl hi)];exact h1,h2⟩
    ·exact ⟨_,same hb hi,by simp⟩
theorem Mid.start(hR:Read ops e bx tr ef bf)(hs:Holds un E D0 N e bx a w):∃D H,Mid un E D0 N tr ef bf (λ_=>False) D H a w:=by
 obtain ⟨D,H0,hs,hD,hG⟩:=hs;have hl0:H0.length=bx.length:=hs.Kg.length.symm;have hbl:bx.length<=bf.length:=by have:=hR.grow (yAA _) (yAi _);rwa[hR.b0,hR.bfin] at this
 let dm:Wl.Res:= .ref (false,undef)
 let H:=H0++List.replicate (bf.length - bx.length) dm
 have Qg:∀(k:Nat) r,H[k]?=some r->H0[k]?=some r\/r=dm:=λk r h=>by
  rcases yAT k H0.length with h1|h1;·rw[yAk h1] at h;exact .inl h
  ·rw[yAF h1] at h;exact .inr (List.eq_of_mem_replicate (yAb h))
 have K8:∀k,k<bx.length->(ids H)[k]?=(ids H0)[k]? :=λk hk=>by simp only[ids,yAh];rw[yAk (by omega)]
 have Kt:In E D H w:=by
  refine ⟨hs.Kr.out,hs.Kr.lt,λr hr=>?_,λr hr g hg o hf hd=>?_,zcG λi j r t hij hi hj=>?_,λi v hi=>?_⟩
  ·obtain ⟨k,hk⟩:=yAl hr;rcases Qg k r hk with h|rfl;·exact hs.Kr.res r (yAb h)
   ·trivial
  ·obtain ⟨k,hk⟩:=yAl hr;rcases Qg k r hk with h|rfl;·exact hs.Kr.apart r (yAb h) g hg o hf hd
   ·exact hg.elim
  ·rcases Qg i r hi with h|rfl
   ·rcases Qg j t hj with h' | rfl;·exact hs.Kr.disjAt hij h h'
    ·exact λg _ h=>h.elim
   ·exact λg h _=>h.elim
  ·obtain ⟨r,h1,h2⟩:=hs.Kr.lent i v hi;exact ⟨r,by rw[yAk (yAc.1 h1).1];exact h1,h2⟩
 refine ⟨D,H,Kt,?_,hs.size,hs.defers,hD,hG,λk t q hk _ hq hW=>?_,λk b x hk _ hx hW=>?_,λ_ _ _ h=>h.elim⟩;·simp only[H,yAI,yB4];omega
 ·obtain ⟨q0,hw,h⟩:=hR.slot_back (yAA k) hk hq;refine hw.rep ?_;rcases h with h|⟨j,s,_,h2,h3,h4,_⟩
  ·rw[hR.e0] at h;exact Rep.on _ _ (λj hj=>K8 j (hR.start j (.inl (zb0 h hj)))) (hs.slots t q0 h)
  ·exact ((hW j s h3 h4).1 h2).elim
 ·obtain ⟨x0,hwk,h⟩:=hR.box_back (yAA k) hk hx;rcases h with ⟨h,_⟩|⟨j,s,_,h2,h3,h4,_⟩
  ·rw[hR.b0] at h;obtain ⟨r,h1,h2⟩:=hs.Kg.get h;have hb:=zb5 h;refine ⟨r,?_,hwk.rep <| Kc.on (λj hj=>K8 j (hR.start j (.inr ⟨b,x0,h,hj⟩))) h2⟩;show H[b]?=some r;rw[yAk (by omega)];exact h1
  ·exact ((hW j s h3 h4).1 h2).elim
theorem Mid.done(hR:Read ops e bx tr ef bf){X:Nat->Prop}(hX:∀j,j<tr.length->X j)(hm:Mid un E D0 N tr ef bf X D H a w):Holds un E D0 N ef bf a w/\Kk bx bf:=by
 have none:∀s,tr[tr.length]?=some s->False:=λs h=>by simp at h
 refine ⟨⟨D,H,⟨hm.Kr,hm.size,hm.defers,Kj.of_get hm.len.symm λk b r hb hr=>?_,λt q hq=>?_⟩,hm.src,hm.ge⟩,?_⟩;·obtain ⟨r',h1,h2⟩:=hm.Kg tr.length k b (yAi _) (λs h=>(none s h).elim) (by grind[Read.bfin]) λj s hj _=>⟨λh=>hX j h,λ_=>hR.lt hj⟩;grind
 ·exact hm.slots tr.length t q (yAi _) (λs h=>(none s h).elim) (by grind[Read.efin]) λj s hj _=>⟨λh=>hX j h,λ_=>hR.lt hj⟩
 ·have:=hR.presB (λj s hj=>.inr (hm.pres j s hj (hX j (hR.lt hj)))) (yAi tr.length);grind[Read.bfin]
theorem Mid.stop(hR:Read ops e bx tr ef bf){X:Nat->Prop}{n:Nat}(hn:tr.length=n+1)(hXn:X n)(hf:∀(j:Nat) s,j<n->tr[j]?=some s->s.f.foot=[]/\s.bx.length=s.b'.length)(hm:Mid un E D0 N tr ef bf X D H a w) :
  Holds un E D0 N (zaG (zbi ops.toList) ef) bf a w/\Kk bx bf:=by
 have none:∀s,tr[tr.length]?=some s->False:=λs h=>by simp at h
 refine ⟨⟨D,H,⟨hm.Kr,hm.size,hm.defers,Kj.of_get hm.len.symm λk b r hb hr=>?_,λt q hq=>?_⟩,hm.src,hm.ge⟩,?_⟩
 ·obtain ⟨r',h1,h2⟩:=hm.Kg tr.length k b (yAi _) (λs h=>(none s h).elim) (by grind[Read.bfin]) λj s hj ht=>by
   by_cases hjn:j=n;·grind
   ·have hl:=hR.lt hj;obtain ⟨g1,g2⟩:=hf j s (by omega) hj;rcases ht with ht|ht;·grind
    ·omega
  grind
 ·rw[zaQ] at hq;split at hq;·cases hq
  ·rename_i ht;exact hm.slots tr.length t q (yAi _) (λs h=>(none s h).elim) (by grind[Read.efin]) λj s hj hd=>by obtain ⟨h1,_⟩:=hR.at_ j s hj;exact (ht (zc0.2 ⟨j,_,by grind,hd⟩)).elim
 ·have:=hR.presB (λj s hj=>by
   by_cases hjn:j=n;·grind[pres]
   ·have hl:=hR.lt hj;exact .inl (hf j s (by omega) hj).1) (yAi tr.length)
  grind[Read.bfin]
theorem zl6{i:Nat}{rs:List Rc}(h:zmU ops i rs=true):(∀q∈rs,q.f.foot=[]/\q.lo=q.hi)/\∀j,j<ops.size->j<=i\/reachB ops i j=true:=by
 unfold zmU at h;simp only[yAd,yAM,yBF] at h;refine ⟨λq hq=>?_,λj hj=>?_⟩;·have:=h.1 q hq;exact ⟨by simpa using this.1,yAa this.2⟩
 ·exact (h.2 j (by simpa using hj)).imp_left (by simp[yAK])
theorem zsA(hmix:P.follows .mixedOrders=true)(Kq:Kx un)(ht:Qc P un tb)(hor:K4 P un orc)(Kt:Qe P un inl){id:Nat}{fps:List Fp}{K:Exit->Env S->Bxs S->Option R}
  (Q5:zgu ops.toList=true) (hst:zju e bx=true) (h:zn1 un tb orc inl ops K fps 0 [] e bx=some r)
  (hd:∀o∈ops.toList,∀d,o.dst=some d->d<N.n) (hs:Holds un E D0 N e bx a { w with drawn:=w.drawn+1 })
  (hk:∀x e' bx',K x e' bx'=some r->Ky (zbi ops.toList) e e'->Kk bx bx'->∀a' w',Holds un E D0 N e' bx' a' w'->Q x a' w'):(Code.region id ops true).wp P Q a w:=by
 have Q1:∀(i:Nat) v,zyp E.fix i=some v->i<bx.length:=λi v hi=>by obtain ⟨D,H,hs,_⟩:=hs;obtain ⟨r,h1,_⟩:=hs.Kr.lent i v hi;rw[hs.Kg.length];exact (yAc.1 h1).1
 obtain ⟨tr,ef,bf,hch,hE⟩:=zh8 Kq ht hor Kt fps 0 [] e bx h;have hR:=Read.of hst hch;have hpres:Ky (zbi ops.toList) e ef:=by have hp:=hR.pres (yAi tr.length);rwa[hR.efin] at hp
 obtain ⟨m,hOk,hFin,hPan⟩:∃m,(∀(j:Nat) s,tr[j]?=some s->j<m->s.Ok P un)/\(ops.size<=m->tr.length=ops.size/\K .normal ef bf=some r) /\
   ∀i,i<ops.size->m<=i->(i=m\/reachB ops m i=true)/\tr.length=m+1/\∃s x,tr[m]?=some s/\s.Pan P un x/\K x (zaG (zbi ops.toList) ef) bf=some r/\∀(j:Nat) s',j<m->tr[j]?=some s'->s'.f.foot=[]/\s'.bx.length=s'.b'.length:=by
  rcases hE with ⟨h1,h2,h3⟩|⟨t0,s1,x,rs',h1,h2,h3,h4,h5,_,h7⟩;·exact ⟨ops.size,λj s hj _=>h2 s (yAb hj),λ_=>⟨by omega,h3⟩,λi h4 h5=>by omega⟩
  ·rw[yAJ] at h5;obtain ⟨g1,g2⟩:=zl6 h5;have hl:tr.length=t0.length+1:=by rw[h1];simp
   have Qy:tr[t0.length]?=some s1:=(by rw[h1];simp);have hsz:t0.length<ops.size:=(by obtain ⟨q,_⟩:=hR.at_ _ _ Qy;exact (yAE.1 q).1);have get:∀(j:Nat) s,j<t0.length->tr[j]?=some s->t0[j]?=some s:=λj s hj hs=>by rw[h1,yAk hj] at hs;exact hs
   refine ⟨t0.length,λj s hj Ks=>h2 s (yAb (get j s Ks hj)),λh=>by omega,λi hi hmi=>⟨?_,hl,s1,x,Qy,h3,h4,λj s' hj hs'=>?_⟩⟩
   ·rcases g2 i hi with h|h;·exact .inl (by omega)
    ·exact .inr h
   ·have:=h7 j s' (get j s' hj hs');rw[yAJ] at this;exact g1 _ this
 obtain ⟨hback,Qq⟩:=zgO Q5;have Qf:∀{i:Nat}{o:Oper},ops[i]?=some o->ops.toList[i]?=some o:=λh=>by simpa using h
 have Qg:∀{i:Nat}{o:Oper},ops[i]?=some o->i<ops.size:=λh=>(yAE.1 h).1;have Qa:∀{i:Nat}{o:Oper},ops[i]?=some o->o∈ops.toList:=λh=>yAb (Qf h);have hedge:∀{i j:Nat},zeA ops.toList i j=true->edge ops i j=true:=λ{i j} h=>by
  unfold zeA at h;unfold edge;rw[Array.getElem?_toList] at h;cases hj:ops[j]? with
  |none=>rw[hj] at h;cases h|some o=>rw[hj] at h;exact h
 refine wp_region_any hmix ?_;have hinb:∀{Ki:Array Bool}{i:Nat},Ki.size=ops.size->i<ops.size->Ki.getD i true=Ki.getD i false:=λ{Ki i} hsz hi=>by simp[yAv,hsz,hi]
 have noready:∀(Ki:Array Bool),Ki.size=ops.size->Region.ready .any ops Ki=[]->∀i,i<ops.size->Ki.getD i false=true:=by
  intro Ki hsz hr i hi;cases hb:Ki.getD i false with
  |true=>rfl|false =>obtain ⟨k,h1,h2,h3⟩:=zsL (p:=λi=>Ki.getD i false=false) ops.size ⟨i,hi,hb⟩;have:k∈Region.ready .any ops Ki:=zcy.2 ⟨h1,by rw[hinb hsz h1];exact h2,ops[k],by simp[h1],λx hx hbx=>by have Ks:=hback k ops[k] (by simp[h1]) x hx hbx;simpa using h3 _ Ks⟩;rw[hr] at this;cases this
 have key:∀(fuel:Nat)(Ki:Array Bool)(a:Act)(w:World)(D:Dat)(H:List Wl.Res),Ki.size=ops.size->unl ops.size Ki<=fuel->(∀j,Ki.getD j false=true->j<m)->(∀k j,edge ops k j=true->Ki.getD j false=true->Ki.getD k false=true) ->
   Mid un E D0 N tr ef bf (λj=>Ki.getD j false=true) D H a w->wpAny P .any ops Q fuel Ki a w:=by
  intro fuel;have fin:∀{Ki:Array Bool}{a:Act}{w:World}{D:Dat}{H:List Wl.Res},Ki.size=ops.size->Region.ready .any ops Ki=[]->(∀j,Ki.getD j false=true->j<m)->Mid un E D0 N tr ef bf (λj=>Ki.getD j false=true) D H a w->Q .normal a w:=by intro Ki a w D H hsz hr hlm hm;have hall:=noready Ki hsz hr;have hsm:ops.size<=m:=Nat.le_of_not_lt λh=>Nat.lt_irrefl m (hlm m (hall m h));obtain ⟨Ku,hK⟩:=hFin hsm;obtain ⟨h1,h2⟩:=hm.done hR λj hj=>hall j (by rw[<-Ku];exact hj);exact hk _ ef bf hK hpres h2 a w h1
  induction fuel with
  |zero =>
    intro Ki a w D H hsz hf hlm hcl hm;have hr:Region.ready .any ops Ki=[]:=by
     apply List.eq_nil_iff_forall_not_mem.2;intro i hi;obtain ⟨g1,g2,_⟩:=zcy.1 hi;have:i∈(List.range ops.size).filter λi=> !Ki.getD i true:=by simp only[yAO,yBa];exact ⟨g1,by rw[g2];rfl⟩
     have h0:((List.range ops.size).filter λi=> !Ki.getD i true)=[]:=yAU.1 (Nat.le_zero.1 hf);rw[h0] at this;cases this
    exact ⟨hr,fin hsz hr hlm hm⟩
  |succ fuel ih =>
    intro Ki a w D H hsz hf hlm hcl hm;refine ⟨λhr=>fin hsz hr hlm hm,λi hi=>?_⟩;obtain ⟨g1,g2,o,g3,g4⟩:=zcy.1 hi;have g2':Ki.getD i false=false:=by rw[<-hinb hsz g1];exact g2
    have Qi:∀j,(Ki.setIfInBounds i true).getD j false=if j=i then true else Ki.getD j false:=λj=>by
     simp only[yAv,yA1];by_cases hji:i=j;·subst hji;simp[hsz,g1]
     ·rw[if_neg hji,if_neg (Ne.symm hji)]
    have hunl:unl ops.size (Ki.setIfInBounds i true)<=fuel:=by
     have:unl ops.size (Ki.setIfInBounds i true)<unl ops.size Ki:=by
      unfold unl;refine zh6 (λj hj=>?_) (yBa.2 g1) (by rw[g2];rfl) ?_
      ·simp only[yAv,yA1] at hj ⊢;split at hj;·split at hj<;>simp at hj
       ·exact hj
      ·simp[yAv,hsz,g1]
     omega
    have hready:∀k,edge ops k i=true->Ki.getD k false=true:=λk hk=>by obtain ⟨o3,k1,x',k2,k3,k4⟩:=zpl hk;rw[g3] at k1;cases k1;rw[<-k4];exact g4 x' k2 k3
    have hcl':∀k j,edge ops k j=true->(Ki.setIfInBounds i true).getD j false=true->(Ki.setIfInBounds i true).getD k false=true:=λk j hkj hj=>by
     rw[Qi] at hj ⊢;split;·rfl
     ·split at hj;·rename_i hji;subst hji;exact hready k hkj
      ·exact hcl k j hkj hj
    have reachX:∀j k,reachB ops j k=true->Ki.getD k false=true->Ki.getD j false=true:=λj k h hk=>by
     unfold reachB at h;exact ze7 hcl (l:=List.range ops.size) (acc:=[j]) (λq hq hl=>by
      have:q=j:=by simpa using hq
      rw[<-this];exact hl) k (by simpa using h) hk
    have hanc:∀j,j≠i->reachB ops j i=true->Ki.getD j false=true:=λj hj h=>by
     unfold reachB at h;rcases ze8 (i:=j) (l:=List.range ops.size) (acc:=[j]) (λz hz=>.inl (by simpa using hz)) i (by simpa using h) with h2|⟨k,h2,h3⟩;·exact absurd h2.symm hj
     ·exact reachX j k (by unfold reachB;simpa using h2) (hready k h3)
    have htl:i<tr.length:=by
     rcases yAT i m with h|h
     ·rcases yAT m ops.size with h' | h';·have:=(hPan m h' (yAi _)).2.1;omega
      ·rw[(hFin h').1];exact g1
     ·obtain ⟨q1,q2,_⟩:=hPan i g1 h;rcases q1 with q1|q1;·omega
      ·by_cases hmi:m=i;·omega
       ·have:=hlm m (hanc m hmi q1);omega
    have hs:tr[i]?=some tr[i]:=(by simp[htl]);obtain ⟨hoi,hgi,_⟩:=hR.at_ i _ hs;generalize hx:tr[i]=s at hs hoi hgi;rw[g3] at hoi;have hoi:o=s.o:=yAS hoi;subst hoi;unfold wpOp;rw[g3];simp only;obtain ⟨Qx,Qn⟩:=hm.step (i:=i) (s:=s) Kq Q1 hR reachX hs (by rw[g2'];simp) hanc (λj s' t hj hji hd1 hd2=>by
     obtain ⟨hoj,_⟩:=hR.at_ j s' hj;exact (Qq i j s.o s'.o (Qf g3) (Qf hoj) (Ne.symm hji) t hd1).1 hd2) λt htm j s' hj hji hdj=>by
     obtain ⟨hoj,_⟩:=hR.at_ j s' hj;rcases (Qq j i s'.o s.o (Qf hoj) (Qf g3) hji t hdj).2 (zjv htm) with ⟨h1,h2⟩|⟨h1,h2⟩;·exact ⟨λ_=>ziO (hedge h2) g1,λh=>by omega⟩
     ·exact ⟨λh=>by omega,λ_=>ziO (hedge h2) (Qg hoj)⟩
    have hwant:Region.wanted s.o (yielded ops a.tmps)=s.go:=by
     have hH:Holds un (zg4 E.fix s.f.foot H w) D N s.e0 s.b0 a w:=⟨D,_,Qx,λk o h=>.inl h,Ge.refl _ _⟩;have hlk:∀{d:Nat}{q:PV S},d∈s.f.pins->zvo s.e d=some q->zvo s.e0 d=some q:=λ{d q} hd hq=>by unfold Stp.e0;rw[zcL,if_pos (by simp[zcH,hd])];exact hq
     rcases hgi with ⟨h1,h2⟩|⟨d,want,h1,h2,h3⟩;·rw[h2];simp[Region.wanted,h1]
     ·rcases h3 with ⟨h3,h4⟩|⟨h3,h4⟩;·rw[h3];simpa using zgd h1 hH (hlk h2 h4)
      ·rw[h3];simpa using zfs h1 hH (h4.imp (hlk h2) (hlk h2))
    have hcont:∀a' w',s.Post un (zg4 E.fix s.f.foot H w) D N (zg3 s.f.foot s.bx.length H) a' w'->(∀t,s.o.dst≠some t->a'.tmps.getD t undef=a.tmps.getD t undef)->i<m->wpAny P .any ops Q fuel (Ki.setIfInBounds i true) a' w':=λa' w' hp1 hp2 him=>by
     obtain ⟨D',H',hm'⟩:=Qn a' w' hp1 hp2;refine ih _ a' w' D' H' (by simpa using hsz) hunl (λj hj=>?_) hcl' (hm'.congr λj=>?_)
     ·rw[Qi] at hj;split at hj;·omega
      ·exact hlm j hj
     ·rw[Qi];by_cases hji:j=i;·simp[hji]
      ·simp[hji]
    rw[hwant];rcases yAT i m with him|him
    ·have hok:=hOk i s hs him (zg4 E.fix s.f.foot H w) D N a w Q D _ (hd s.o (Qa g3)) Qx (λk o h=>.inl h) (Ge.refl _ _);unfold Stp.wp at hok;cases hgo:s.go with
     |true =>rw[hgo,if_pos rfl] at hok;rw[if_pos rfl];left;exact Oper.wp_mono (λa' w' Qz=>hcont a' w' Qz.1 Qz.2 him) (zok hok)|false =>rw[hgo,if_neg (by simp)] at hok;rw[if_neg (by simp)];exact hcont _ w hok (λt ht=>zz8 ht) him
    ·obtain ⟨q1,q2,s',x,q3,q4,q5,q6⟩:=hPan i g1 him;have hmi:i=m:=by
      rcases q1 with q1|q1;·exact q1
      ·by_cases hne:m=i;·exact hne.symm
       ·have:=hlm m (hanc m hne q1);omega
     subst hmi;rw[hs] at q3;cases q3;rw[q4.1.2,if_pos rfl];left;refine zsn (q4.2 (zg4 E.fix s.f.foot H w) D N a w (λ_ _=>False) D _ (hd s.o (Qa g3)) Qx (λk o h=>.inl h) (Ge.refl _ _)) (λ_ _ h=>h.elim) (λy w' h=>?_) λ⟨a',w',h⟩=>(q4.1.1 h.1.symm).elim;obtain ⟨rfl,h2⟩:=h;obtain ⟨D',H',hm'⟩:=Qn a w' h2 λ_ _=>rfl;obtain ⟨h4,h5⟩:=hm'.stop hR q2 (.inr rfl) q6;refine hk _ _ _ q5 (λt p ht hp hr=>?_) h5 a w' h4;rw[zaQ,if_neg ht];exact hpres t p ht hp hr
 obtain ⟨D,H,hm⟩:=Mid.start hR hs;refine key ops.size _ a _ D H (by simp) ?_ (λj hj=>?_) (λk j _ hj=>?_) (hm.congr λj=>?_);·exact yAo (yA0 _ _) (by simp)
 ·simp[yAv,yBD] at hj;split at hj<;>simp at hj
 ·simp[yAv,yBD] at hj;split at hj<;>simp at hj
 ·simp only[yAv,yBD];split<;>simp
end
end Pe
end
