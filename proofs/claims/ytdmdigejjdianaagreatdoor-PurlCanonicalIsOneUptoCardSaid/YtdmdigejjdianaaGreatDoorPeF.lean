/- PROVED HERE: a part of the seat's proofs; see the text that holds the claim's theorem. -/
import Derived.Test.YtdmdigejjdianaaGreatDoorNm
import Derived.Test.YtdmdigejjdianaaGreatDoorPeC
import Derived.Test.YtdmdigejjdianaaGreatDoorPeD
section
/- What an operation gives does not depend on what is done with it. -/
namespace Pe
open Go Go.RowKit
variable{S:Nat->Type}
section
variable{un:Uni S}{tb:Tb S}{orc:Orc S}{inl:Inl S}{R:Type}
theorem zdY{α β γ:Type}(x:Option α)(f:α->Option β)(K:β->Option γ):(ob x f).bind K=ob x λa=>(f a).bind K:=by cases x<;>rfl
theorem zfM{β γ:Type}(b:Bool)(x y:Option β)(K:β->Option γ):(br b x y).bind K=br b (x.bind K) (y.bind K):=by cases b<;>rfl
theorem zmn{α β γ δ:Type}(x:Option (α⊕β))(f:α->Option γ)(g:β->Option γ)(K:γ->Option δ):(oc x f g).bind K=oc x (λa=>(f a).bind K) λb=>(g b).bind K:=by
 cases x with
 |none=>rfl|some x=>cases x<;>rfl
theorem zdA{β γ:Type}(b:Bool)(x y:Option β)(K:β->Option γ):(bif b then x else y).bind K=bif b then x.bind K else y.bind K:=by cases b<;>rfl
theorem zk9{op:BinOp}{k:IntKind}{a b:Int}(K:PV S->Option R):zpk op k a b K=(zpk op k a b some).bind K:=by unfold zpk;split<;>first|rfl|(rw[zdA];rfl)
theorem zob{op:BinOp}{k:IntKind}{a b:Int}(K:PV S->Option R):zqp op k a b K=(zqp op k a b some).bind K:=by cases op<;>first|rfl|exact zk9 K|(cases b with|ofNat n=>cases n<;>rfl|negSucc n=>rfl)
theorem zoa{op:BinOp}{a b:List UInt8}(K:PV S->Option R):zpu op a b K=(zpu op a b some).bind K:=by cases op<;>first|rfl|(simp only[zpu,zdY];rfl)
theorem zmj(o:Oper)(e:Env S)(bx:Bxs S)(K:PV S->Option R):zeh un tb orc inl o e bx K=(zeh un tb orc inl o e bx some).bind K:=by
 unfold zeh
 repeat' split
 all_goals first|rfl|exact zob K|exact zk9 K|exact zoa K|(simp only[zdY,zfM,zdA,yAx,yBE];done)
theorem zmi(o:Oper)(e:Env S)(bx:Bxs S)(K:PV S->Option R):zeS un tb orc inl o e bx K=(zeS un tb orc inl o e bx some).bind K:=by
 unfold zeS
 repeat' split
 all_goals first|rfl|exact zmj o e bx K|(simp only[zdY,zfM,zdA,yAx,yBE];done)|(rw[zdY];congr 1;funext y;split<;>rfl)
theorem zmh(o:Oper)(e:Env S)(bx:Bxs S)(K:PV S->Option R):zhh un tb orc inl o e bx K=(zhh un tb orc inl o e bx some).bind K:=by
 unfold zhh
 repeat' split
 all_goals first|rfl|exact zmi o e bx K|(simp only[zdY,zfM,zdA,yAx,yBE];done)
theorem zgg(o:Oper)(e:Env S)(bx:Bxs S)(K:PV S->Option R):zgD un tb orc inl o e bx K=(zgD un tb orc inl o e bx some).bind K:=by
 unfold zgD
 repeat' split
 all_goals first|rfl|exact zmh o e bx K|(simp only[zdY,zfM,zdA,yAx,yBE];done)
abbrev Oc(S:Nat->Type):=(PV S×Env S×Bxs S)⊕(Exit×Env S×Bxs S)
def k0(p:PV S)(e:Env S)(bx:Bxs S):Option (Oc S):=some (.inl (p,e,bx))
def kx(x:Exit)(e:Env S)(bx:Bxs S):Option (Oc S):=some (.inr (x,e,bx))
def kk(K:PV S->Env S->Bxs S->Option R)(KX:Exit->Env S->Bxs S->Option R):Oc S->Option R| .inl z=>K z.1 z.2.1 z.2.2| .inr z=>KX z.1 z.2.1 z.2.2
theorem ziR(o:Oper)(e:Env S)(bx:Bxs S)(K:PV S->Env S->Bxs S->Option R)(KX:Exit->Env S->Bxs S->Option R) :
  zgD un tb orc inl o e bx (λp=>K p e bx)=(zgD un tb orc inl o e bx λp=>k0 p e bx).bind (kk K KX):=by
 rw[zgg,zgg (K:=λp=>k0 p e bx),Option.bind_assoc];rfl
theorem zmm(o:Oper)(e:Env S)(bx:Bxs S)(K:PV S->Env S->Bxs S->Option R)(KX:Exit->Env S->Bxs S->Option R) :
  zcV un tb orc inl o e bx K KX=(zcV un tb orc inl o e bx k0 kx).bind (kk K KX):=by
 unfold zcV zgX
 repeat' split
 all_goals first|rfl|exact ziR o e bx K KX|(simp only[zdY,zfM,zmn,zdA,yBE];done)|(simp only[zdY,zfM,zmn,zdA,yBE];rfl)
theorem zhb{β γ:Type}{c:Bool}{x y:Option γ}{x' y':Option β}{K:β->Option γ}(hx:x=x'.bind K)(hy:y=y'.bind K):(bif c then x else y)=(bif c then x' else y').bind K:=by cases c<;>assumption
theorem zmo{α β γ:Type}{a:Option α}{f:α->Option γ}{g:α->Option β}{K:β->Option γ}(h:∀x,f x=(g x).bind K):ob a f=(ob a g).bind K:=by cases a with|none=>rfl|some x=>exact h x
theorem zoj{α β γ δ:Type}{x:Option (α⊕β)}{f:α->Option δ}{g:β->Option δ}{f':α->Option γ}{g':β->Option γ}{K:γ->Option δ}(h1:∀a,f a=(f' a).bind K)(h2:∀a,g a=(g' a).bind K):oc x f g=(oc x f' g').bind K:=by
 cases x with
 |none=>rfl|some x=>cases x with|inl a=>exact h1 a|inr b=>exact h2 b
theorem zj8(e:Env S)(bx:Bxs S)(l:List (PV S))(g:Sg)(ask:g.In S->Option (g.Out S))(K:PV S->Env S->Bxs S->Option R)(KX:Exit->Env S->Bxs S->Option R) :
  zfB un e bx l g ask K KX=(zfB un e bx l g ask k0 kx).bind (kk K KX):=by
 unfold zfB;dsimp only
 repeat' first|rfl|refine zhb ?_ ?_|refine zoj (λ_=>?_) λ_=>?_|split
theorem zml(o:Oper)(e:Env S)(bx:Bxs S)(K:PV S->Env S->Bxs S->Option R)(KX:Exit->Env S->Bxs S->Option R) :
  zei un tb orc inl o e bx K KX=(zei un tb orc inl o e bx k0 kx).bind (kk K KX):=by
 unfold zei zi9 zjZ zj0 zj1 zh6
 repeat' first|rfl|exact zj8 e bx _ _ _ K KX|exact ziR o e bx K KX|exact zmm o e _ K KX|refine zhb ?_ ?_|refine zmo λ_=>?_|refine zoj (λ_=>?_) λ_=>?_|split
 all_goals (rw[zgg,zgg (K:=λp=>bif zlm p then k0 p e bx else none),Option.bind_assoc];congr 1;funext p;exact zhb rfl rfl)
theorem zmk(o:Oper)(e:Env S)(bx:Bxs S)(K:PV S->Env S->Bxs S->Option R)(KX:Exit->Env S->Bxs S->Option R) :
  zft un tb orc inl o e bx K KX=(zft un tb orc inl o e bx k0 kx).bind (kk K KX):=by
 unfold zft zis zgk zim zg2
 repeat' first|rfl|exact zml o e _ K KX|refine zhb ?_ ?_|refine zmo λ_=>?_|split
theorem znC(o:Oper)(e:Env S)(bx:Bxs S)(K:PV S->Env S->Bxs S->Option R)(KX:Exit->Env S->Bxs S->Option R) :
  zlU un tb orc inl o e bx K KX=(zlU un tb orc inl o e bx k0 kx).bind (kk K KX):=by
 unfold zlU ziX
 repeat' first|rfl|exact zmk o e _ K KX|refine zhb ?_ ?_|refine zmo λ_=>?_|split
end
end Pe
end
section
/- Of which boxes a value speaks. -/
namespace Pe
open Go Go.RowKit
variable{S:Nat->Type}
section
variable{un:Uni S}{nu nu':Nu}{D D':Dat}{w w':World}{E:Wl.Ctx}
mutual
theorem Rep.on:∀(p:PV S)(v:Value),(∀k∈p.hits,nu'[k]?=nu[k]?)->Rep un nu D w p v->Rep un nu' D w p v
 | .int _ _,_,_,h=>by simpa only[Rep] using h
 | .bool _,_,_,h=>by simpa only[Rep] using h
 | .str _,_,_,h=>by simpa only[Rep] using h
 | .sl _ _,_,_,h=>by simpa only[Rep] using h
 | .nils,_,_,h=>by simpa only[Rep] using h
 | .st _ _,_,_,h=>by simpa only[Rep] using h
 | .agg l,_,hn,h=>by simp only[Rep,PV.hits] at h hn ⊢;obtain ⟨cs,h1,h2⟩:=h;exact ⟨cs,h1,RepL.on l cs hn h2⟩
 | .tup l,_,hn,h=>by simp only[Rep,PV.hits] at h hn ⊢;obtain ⟨cs,h1,h2⟩:=h;exact ⟨cs,h1,RepL.on l cs hn h2⟩
 | .elp _ _ _,_,_,h=>by simpa only[Rep] using h
 | .ptr j _,_,hn,h=>by simp only[Rep] at h ⊢;obtain ⟨k,h1,h2⟩:=h;exact ⟨k,(hn j (by simp[PV.hits])).trans h1,h2⟩
 | .nilp,_,_,h=>by simpa only[Rep] using h
 | .ref j,_,hn,h=>by simp only[Rep] at h ⊢;exact ⟨(hn j (by simp[PV.hits])).trans h.1,h.2⟩
 | .elr j _ _ _,_,hn,h=>by simp only[Rep] at h ⊢;obtain ⟨fl,k,n,c,h1,h2⟩:=h;exact ⟨fl,k,n,c,(hn j (by simp[PV.hits])).trans h1,h2⟩
 | .cont _ _,_,_,h=>by simpa only[Rep] using h
 | .rsl j _ _,_,hn,h=>by simp only[Rep] at h ⊢;obtain ⟨fl,k,n,c,off,h1,h2⟩:=h;exact ⟨fl,k,n,c,off,(hn j (by simp[PV.hits])).trans h1,h2⟩
 | .bref j _,_,hn,h=>by simp only[Rep] at h ⊢;obtain ⟨k,h1,h2⟩:=h;exact ⟨k,(hn j (by simp[PV.hits])).trans h1,h2⟩
 | .row j,_,hn,h=>by simp only[Rep] at h ⊢;exact ⟨(hn j (by simp[PV.hits])).trans h.1,h.2⟩
 | .func _ l r,_,hn,h=>by simp only[Rep,PV.hits,yAm] at h hn ⊢;obtain ⟨a,c,h1,h2,h3⟩:=h;exact ⟨a,c,h1,RepL.on l a (λk hk=>hn k (.inl hk)) h2,RepL.on r c (λk hk=>hn k (.inr hk)) h3⟩
 | .nilFunc,_,_,h=>by simpa only[Rep] using h
 | .iface _ x,_,hn,h=>by simp only[Rep,PV.hits] at h hn ⊢;obtain ⟨y,h1,h2⟩:=h;exact ⟨y,h1,Rep.on x y hn h2⟩
 | .nilIface,_,_,h=>by simpa only[Rep] using h
 | .junk,_,_,_=>by simp only[Rep]
theorem RepL.on:∀(ps:List (PV S))(vs:List Value),(∀k∈zgQ ps,nu'[k]?=nu[k]?)->RepL un nu D w ps vs->RepL un nu' D w ps vs
 |[],[],_,_=>by simp only[RepL]
 |p::ps,v::vs,hn,h=>by simp only[RepL,zgQ,yAm] at h hn ⊢;exact ⟨Rep.on p v (λk hk=>hn k (.inl hk)) h.1,RepL.on ps vs (λk hk=>hn k (.inr hk)) h.2⟩
 |[],_::_,_,h=>by simp[RepL] at h
 |_::_,[],_,h=>by simp[RepL] at h
end
theorem BoxRep.on:∀{b:Box S}{ro:Bool}{r:Wl.Res},(∀k∈b.hits,nu'[k]?=nu[k]?)->BoxRep un nu D w E ro b r->BoxRep un nu' D w E ro b r:=by
 intro b;induction b with
 |var T cs =>
   intro ro r hn h;cases ro<;>cases r<;>simp only[BoxRep] at h ⊢;·exact ⟨h.1,RepL.on cs _ hn h.2⟩
   ·exact RepL.on cs _ hn h
   ·obtain ⟨vs,h1,h2⟩:=h;exact ⟨vs,h1,RepL.on cs vs hn h2⟩
 |own u T l =>
   intro ro r hn h;cases ro<;>cases r<;>simp only[BoxRep] at h ⊢;·exact h
   ·exact ⟨h.1,Rep.on _ _ (by simp[PV.hits]) h.2⟩
 |wr u T l=>intro ro r hn h;cases ro<;>cases r<;>simp only[BoxRep] at h ⊢ <;>exact h
 |nst u T T2 l hl=>intro ro r hn h;cases ro<;>cases r<;>simp only[BoxRep] at h ⊢;exact h
 |omp k v l=>intro ro r hn h;cases ro<;>cases r<;>simp only[BoxRep] at h ⊢;exact h
 |fm k v l=>intro ro r hn h;cases ro<;>cases r<;>simp only[BoxRep] at h ⊢ <;>exact h
 |itr k v o p=>intro ro r hn h;cases ro<;>cases r<;>simp only[BoxRep] at h ⊢ <;>exact h
 |lk b ih=>intro ro r hn h;simp only[BoxRep] at h ⊢;exact ih hn h
 |ro b ih=>intro ro r hn h;simp only[BoxRep] at h ⊢;exact ih hn h
 |gone=>intro ro r hn h;simp only[BoxRep]
mutual
theorem Rep.names:∀(p q:PV S)(v:Value)(k:Nat),k∈p.names q->Rep un nu D w p v->Rep un nu' D' w' q v->nu'[k]?=nu[k]?
 | .row i,q,v,k,hk,h,h'=>by
   cases q<;>simp only[PV.names,yBD] at hk;rename_i j;cases hb:Nat.beq i j with
   |false=>rw[hb] at hk;simp at hk|true =>rw[hb] at hk;simp at hk;have:=yAa hb;subst this;subst hk;simp only[Rep] at h h';rw[h.1,h'.1]
 | .ref i,q,v,k,hk,h,h'=>by
   cases q<;>simp only[PV.names,yBD] at hk;rename_i j;cases hb:Nat.beq i j with
   |false=>rw[hb] at hk;simp at hk|true =>rw[hb] at hk;simp at hk;have:=yAa hb;subst this;subst hk;simp only[Rep] at h h';rw[h.1,h'.1]
 | .ptr i a,q,v,k,hk,h,h'=>by
   cases q<;>simp only[PV.names,yBD] at hk;rename_i j b;cases hb:Nat.beq i j&&Nat.beq a b with
   |false=>rw[hb] at hk;simp at hk|true =>rw[hb] at hk;simp at hk;simp only[yAd] at hb;have:=yAa hb.1;subst this;subst hk;simp only[Rep] at h h';obtain ⟨g,h1,h2⟩:=h;obtain ⟨g',h3,h4⟩:=h';rw[h2] at h4;simp only[Value.pointer.injEq,yAe,Addr.mk.injEq] at h4;rw[h1,h3,h4.1]
 | .bref i a,q,v,k,hk,h,h'=>by
   cases q<;>simp only[PV.names,yBD] at hk;rename_i j b;cases hb:Nat.beq i j&&Nat.beq a b with
   |false=>rw[hb] at hk;simp at hk|true =>rw[hb] at hk;simp at hk;simp only[yAd] at hb;have:=yAa hb.1;have e2:=yAa hb.2;subst this;subst hk;subst e2;simp only[Rep] at h h';obtain ⟨g,h1,h2⟩:=h;obtain ⟨g',h3,h4⟩:=h';rw[h2] at h4;simp only[Value.pointer.injEq,yAe,Addr.mk.injEq] at h4;rw[h1,h3,h4.1]
 | .agg l,q,v,k,hk,h,h'=>by
   cases q<;>simp only[PV.names,yBD] at hk;rename_i r;simp only[Rep] at h h';obtain ⟨cs,rfl,h1⟩:=h;obtain ⟨cs',h2,h3⟩:=h';have:cs=cs':=by simpa using h2
   subst this;exact RepL.names l r cs k hk h1 h3
 | .int _ _,_,_,_,hk,_,_=>by simp[PV.names] at hk
 | .bool _,_,_,_,hk,_,_=>by simp[PV.names] at hk
 | .str _,_,_,_,hk,_,_=>by simp[PV.names] at hk
 | .sl _ _,_,_,_,hk,_,_=>by simp[PV.names] at hk
 | .nils,_,_,_,hk,_,_=>by simp[PV.names] at hk
 | .st _ _,_,_,_,hk,_,_=>by simp[PV.names] at hk
 | .tup _,_,_,_,hk,_,_=>by simp[PV.names] at hk
 | .elp _ _ _,_,_,_,hk,_,_=>by simp[PV.names] at hk
 | .nilp,_,_,_,hk,_,_=>by simp[PV.names] at hk
 | .elr _ _ _ _,_,_,_,hk,_,_=>by simp[PV.names] at hk
 | .cont _ _,_,_,_,hk,_,_=>by simp[PV.names] at hk
 | .rsl _ _ _,_,_,_,hk,_,_=>by simp[PV.names] at hk
 | .func _ _ _,_,_,_,hk,_,_=>by simp[PV.names] at hk
 | .nilFunc,_,_,_,hk,_,_=>by simp[PV.names] at hk
 | .iface _ _,_,_,_,hk,_,_=>by simp[PV.names] at hk
 | .nilIface,_,_,_,hk,_,_=>by simp[PV.names] at hk
 | .junk,_,_,_,hk,_,_=>by simp[PV.names] at hk
theorem RepL.names:∀(ps qs:List (PV S))(vs:List Value)(k:Nat),k∈zfZ ps qs->RepL un nu D w ps vs->RepL un nu' D' w' qs vs->nu'[k]?=nu[k]?
 |p::ps,q::qs,v::vs,k,hk,h,h'=>by
   simp only[zfZ,yAm,RepL] at hk h h';rcases hk with hk|hk;·exact Rep.names p q v k hk h.1 h'.1
   ·exact RepL.names ps qs vs k hk h.2 h'.2
 |[],_,_,_,hk,_,_=>by simp[zfZ] at hk
 |_::_,[],_,_,hk,_,_=>by simp[zfZ] at hk
 |_::_,_::_,[],_,_,h,_=>by simp[RepL] at h
end
theorem zee(f:Fp):∀(bx:Bxs S)(k0 k:Nat),zae (zda f k0 bx) k=(zae bx k).map λb=>bif f.foot.contains (k0+k) then b else bif f.see.contains (k0+k) then zbj b.base else .gone
 |[],_,k=>by cases k<;>rfl
 |b::r,k0,0=>rfl|b::r,k0,k+1=>by simp only[zda,zae];rw[zee f r (k0+1) k];rw[show k0+1+k=k0+(k+1) by omega]
theorem zcZ(f:Fp):∀(bx:Bxs S)(k:Nat),(zda f k bx).length=bx.length|[],_=>rfl|b::r,k=>by simp[zda,zcZ f r (k+1)]
theorem zgS(f:Fp):∀(bx b':Bxs S)(k0 k:Nat),bx.length<=b'.length->zae (zdD f k0 bx b') k=if k<bx.length then (if f.foot.contains (k0+k) then zae b' k else (zae bx k).map (Box.junkA f.dead)) else zae b' k
 |[],b',_,k,_=>by simp[zdD]
 |b::r,b'::r',k0,0,_=>by simp only[zdD,zae,yAA,Nat.zero_lt_succ,if_true,yBk];cases f.foot.contains k0<;>rfl
 |b::r,b'::r',k0,k+1,h=>by simp only[zdD,zae];rw[zgS f r r' (k0+1) k (by simpa using h)];rw[show k0+1+k=k0+(k+1) by omega];simp only[yAA,Nat.add_lt_add_iff_right]
 |_::_,[],_,_,h=>by simp at h
theorem zeZ(f:Fp):∀(bx b':Bxs S)(k0:Nat),bx.length<=b'.length->(zdD f k0 bx b').length=b'.length
 |[],_,_,_=>rfl|b::r,b'::r',k0,h=>by simp[zdD,zeZ f r r' (k0+1) (by simpa using h)]
 |_::_,[],_,h=>by simp at h
theorem zb9(ts:List Nat):∀(e:Env S)(t:Nat),zan (zcm ts e) t=if ts.contains t then zan e t else none
 |[],t=>by simp[zcm,zan]
 |(i,p)::r,t=>by
   simp only[zcm,zan];cases hb:Nat.beq i t with
   |true =>
     have:=yAa hb;subst this;cases hc:ts.contains i with
     |true=>simp[zan]|false=>simp only[cond_false];rw[zb9 ts r i,hc];simp
   |false =>
     cases hc:ts.contains i with
     |true=>simp only[cond_true,cond_false,zan,hb];exact zb9 ts r t|false=>simp only[cond_false];exact zb9 ts r t
theorem zfA(dead:List Nat):∀(e:Env S)(t:Nat),zan (zgM dead e) t=(zan e t).map (PV.junkA dead)
 |[],_=>rfl|(i,p)::r,t=>by
   simp only[zgM,zan];cases Nat.beq i t with
   |true=>rfl|false=>exact zfA dead r t
def WeakL:List (PV S)->List (PV S)->Prop|[],[]=>True|y::r,x::s=>(y= .junk\/y=x)/\WeakL r s|_,_=>False
def Weak(q p:PV S):Prop:=q= .junk\/q=p\/∃l l',p= .agg l/\q= .agg l'/\WeakL l' l
theorem WeakL.junk(dead:List Nat):∀(l:List (PV S)),WeakL (l.map (PV.junk1 dead)) l|[]=>trivial|p::r=>⟨by unfold PV.junk1;cases dead.any (λb=>p.says b)<;>simp,WeakL.junk dead r⟩
theorem Weak.junk(dead:List Nat)(p:PV S):Weak (p.junkA dead) p:=by
 have gen:∀p:PV S,Weak (p.junk1 dead) p:=λp=>by
  unfold PV.junk1;cases dead.any (λb=>p.says b) with
  |true=>exact .inl rfl|false=>exact .inr (.inl rfl)
 cases p with
 |agg l=>exact .inr (.inr ⟨l,_,rfl,rfl,WeakL.junk dead l⟩)|_=>exact gen _
theorem WeakL.trans:∀{a b c:List (PV S)},WeakL a b->WeakL b c->WeakL a c
 |[],[],[],_,_=>trivial|x::a,y::b,z::c,h,k=>⟨by
    rcases h.1 with h1|h1;·exact .inl h1
    ·rw[h1];exact k.1,WeakL.trans h.2 k.2⟩
 |[],_::_,_,h,_=>h.elim|_::_,[],_,h,_=>h.elim|_,[],_::_,_,k=>k.elim|_,_::_,[],_,k=>k.elim
theorem Weak.trans{a b c:PV S}(h:Weak a b)(k:Weak b c):Weak a c:=by
 rcases h with h|h|⟨l,l',h1,h2,h3⟩;·exact .inl h
 ·rw[h];exact k
 ·rcases k with k|k|⟨m,m',k1,k2,k3⟩;·rw[h1] at k;cases k
  ·exact .inr (.inr ⟨l,l',by rw[<-k];exact h1,h2,h3⟩)
  ·rw[h1] at k2;obtain rfl:=PV.agg.inj k2;exact .inr (.inr ⟨m,l',k1,h2,h3.trans k3⟩)
theorem WeakL.hits:∀{a b:List (PV S)},WeakL a b->∀{k:Nat},k∈zgQ a->k∈zgQ b
 |[],[],_,_,h=>h|x::a,y::b,h,k,hk=>by
   simp only[zgQ,yAm] at hk ⊢;rcases hk with hk|hk
   ·rcases h.1 with h1|h1;·rw[h1] at hk;simp[PV.hits] at hk
    ·rw[h1] at hk;exact .inl hk
   ·exact .inr (WeakL.hits h.2 hk)
 |[],_::_,h,_,_=>h.elim|_::_,[],h,_,_=>h.elim
theorem Weak.hits{a b:PV S}(h:Weak a b){k:Nat}(hk:k∈a.hits):k∈b.hits:=by
 rcases h with h|h|⟨l,l',h1,h2,h3⟩;·rw[h] at hk;simp[PV.hits] at hk
 ·rw[<-h];exact hk
 ·rw[h2] at hk;rw[h1];simp only[PV.hits] at hk ⊢;exact h3.hits hk
theorem WeakL.rep{un:Uni S}{nu:Nu}{D:Dat}{w:World}:∀{a b:List (PV S)}{vs:List Value},WeakL a b->RepL un nu D w b vs->RepL un nu D w a vs
 |[],[],[],_,_=>trivial|x::a,y::b,v::vs,h,hr=>by
   simp only[RepL] at hr ⊢;refine ⟨?_,WeakL.rep h.2 hr.2⟩;rcases h.1 with h1|h1;·rw[h1];simp only[Rep]
   ·rw[h1];exact hr.1
 |[],[],_::_,_,hr=>by simp[RepL] at hr
 |_::_,_::_,[],_,hr=>by simp[RepL] at hr
 |[],_::_,_,h,_=>h.elim|_::_,[],_,h,_=>h.elim
theorem Weak.rep{un:Uni S}{nu:Nu}{D:Dat}{w:World}{a b:PV S}{v:Value}(h:Weak a b)(hr:Rep un nu D w b v):Rep un nu D w a v:=by
 rcases h with h|h|⟨l,l',h1,h2,h3⟩;·rw[h];simp only[Rep]
 ·rw[h];exact hr
 ·rw[h1] at hr;rw[h2];simp only[Rep] at hr ⊢;obtain ⟨cs,q1,q2⟩:=hr;exact ⟨cs,q1,h3.rep q2⟩
def WeakB(x y:Box S):Prop:=x=y\/∃T cs cs',y= .var T cs/\x= .var T cs'/\WeakL cs' cs
theorem WeakB.junk(dead:List Nat)(x:Box S):WeakB (x.junkA dead) x:=by
 cases x with
 |var T cs=>exact .inr ⟨T,cs,_,rfl,rfl,WeakL.junk dead cs⟩|_=>exact .inl rfl
theorem WeakB.trans{x y z:Box S}(h:WeakB x y)(k:WeakB y z):WeakB x z:=by
 rcases h with h|⟨T,cs,cs',h1,h2,h3⟩;·rw[h];exact k
 ·rcases k with k|⟨T2,ds,ds',k1,k2,k3⟩;·exact .inr ⟨T,cs,cs',by rw[<-k];exact h1,h2,h3⟩
  ·rw[h1] at k2;obtain ⟨rfl,rfl⟩:=Box.var.inj k2;exact .inr ⟨T,ds,cs',k1,h2,h3.trans k3⟩
theorem WeakB.hits{x y:Box S}(h:WeakB x y){k:Nat}(hk:k∈x.hits):k∈y.hits:=by
 rcases h with h|⟨T,cs,cs',h1,h2,h3⟩;·rw[<-h];exact hk
 ·rw[h2] at hk;rw[h1];simp only[Box.hits] at hk ⊢;exact h3.hits hk
theorem WeakB.rep{un:Uni S}{nu:Nu}{D:Dat}{w:World}{E:Wl.Ctx}{ro:Bool}{x y:Box S}{r:Wl.Res}(h:WeakB x y)(hr:BoxRep un nu D w E ro y r):BoxRep un nu D w E ro x r:=by
 rcases h with h|⟨T,cs,cs',h1,h2,h3⟩;·rw[h];exact hr
 ·subst h1;subst h2;cases ro<;>cases r<;>simp only[BoxRep] at hr ⊢;·exact ⟨hr.1,h3.rep hr.2⟩
  ·exact h3.rep hr
  ·obtain ⟨vs,k1,k2⟩:=hr;exact ⟨vs,k1,h3.rep k2⟩
theorem zid(dead:List Nat){p:PV S}(h:p.rowless=true):p.junkA dead=p:=by
 have gen:∀p:PV S,p.rowless=true->p.junk1 dead=p:=λp hp=>by unfold PV.junk1;rw[show dead.any (λb=>p.says b)=false from yBt.2 λb _=>by rw[zcl b p hp];simp];rfl
 cases p with
 |agg l =>
   simp only[PV.rowless] at h;have:∀l:List (PV S),zbS l=true->l.map (PV.junk1 dead)=l:=λl=>by
    induction l with
    |nil=>intro _;rfl
    |cons p r ih=>intro hl;simp only[zbS,yAd] at hl;rw[yAk,gen p hl.1,ih hl.2]
   simp only[PV.junkA,this l h]
 |_=>exact gen _ h
theorem zb6{k:Nat}:∀{e:Env S}{t:Nat}{p:PV S},zan e t=some p->k∈p.hits->k∈zc4 e
 |[],_,_,h,_=>by simp[zan] at h
 |(i,q)::r,t,p,h,hk=>by
   simp only[zan] at h;simp only[zc4,yAm];cases hb:Nat.beq i t with
   |true=>rw[hb] at h;simp at h;subst h;exact .inl hk|false=>rw[hb] at h;exact .inr (zb6 h hk)
theorem zb7{bx:Bxs S}{k j:Nat}{b:Box S}(hj:zae bx j=some b)(hk:k∈b.hits):∀{l:List Nat},j∈l->k∈zcf bx l
 |[],h=>by simp at h
 |i::r,h=>by
   simp only[zcf,yAm];rcases yAp.1 h with rfl|h;·left;rw[hj];exact hk
   ·exact .inr (zb7 hj hk h)
theorem zdf{l r:List Nat}(h:disj l r=true):∀k∈l,k∉r:=by unfold disj at h;intro k hk hr;have:=yAO.1 h k hk;simp[hr] at this
theorem zeg{n:Nat}{l:List Nat}(h:below n l=true):∀k∈l,k<n:=by unfold below at h;intro k hk;have:=yAO.1 h k hk;simpa[yAV] using this
theorem zew:∀(l:Bxs S)(n k:Nat),k∈zcP n l↔n<=k/\k<n+l.length
 |[],n,k=>by simp[zcP]
 |_::r,n,k=>by simp only[zcP,yAp,zew r (n+1) k,yAA];omega
theorem zeN{e e':Env S}:∀{ts:List Nat}{k:Nat},k∈zdj e e' ts->∃t∈ts,∃p q,zan e t=some p/\zan e' t=some q/\k∈p.names q
 |[],k,h=>by simp[zdj] at h
 |t::r,k,h=>by
   simp only[zdj,yAm] at h;rcases h with h|h
   ·split at h;·rename_i p q h1 h2;exact ⟨t,by simp,p,q,h1,h2,h⟩
    ·simp at h
   ·obtain ⟨t',h1,h2⟩:=zeN h;exact ⟨t',by simp[h1],h2⟩
theorem zf6{ps:List Nat}{b0 b':Bxs S}:∀{ts:List Nat}{k:Nat},k∈zg8 ps b0 b' ts->∃s∈ts,s∈ps/\∃T cs T' cs',zae b0 s=some (.ro (.var T cs))/\zae b' s=some (.ro (.var T' cs'))/\1<cs.length/\k∈zfZ cs cs'
 |[],k,h=>by simp[zg8] at h
 |t::r,k,h=>by
   simp only[zg8,yAm] at h;rcases h with h|h
   ·cases hc:ps.contains t with
    |false=>rw[hc] at h;simp at h|true =>
      rw[hc] at h;simp only[cond_true] at h;split at h
      ·rename_i T cs T' cs' h1 h2;cases hl:Nat.blt 1 cs.length with
       |false=>rw[hl] at h;simp at h|true=>rw[hl] at h;exact ⟨t,by simp,by simpa using hc,_,_,_,_,h1,h2,by simpa[yAV] using hl,h⟩
      ·simp at h
   ·obtain ⟨t',h1,h2⟩:=zf6 h;exact ⟨t',by simp[h1],h2⟩
end
end Pe
end
section
/- A region in any order, read in the text's order: what was read, operation by operation. -/
namespace Pe
open Go Go.RowKit
variable{S:Nat->Type}
structure Stp (S:Nat->Type) where
 o:Oper
 f:Fp
 e:Env S
 bx:Bxs S
 p:PV S
 e':Env S
 b':Bxs S
 go:Bool
def Stp.e0(s:Stp S):Env S:=zcm (zbb s.o s.f) s.e
def Stp.b0(s:Stp S):Bxs S:=zda s.f 0 s.bx
def Stp.rc(s:Stp S)(i:Nat):Rc:=⟨i,s.bx.length,s.b'.length,s.f,zcL s.f s.e0 s.b0 s.p s.b'⟩
def Stp.nextE(s:Stp S):Env S:=push s.o.dst s.p (zgM s.f.dead s.e)
def Stp.nextB(s:Stp S):Bxs S:=zdD s.f 0 s.bx s.b'
section
variable{P:Program}{un:Uni S}{tb:Tb S}{orc:Orc S}{inl:Inl S}{R:Type}{r:R}{ops:Array Oper}
def Stp.wp(P:Program)(s:Stp S)(a:Act)(w:World)(next:Act->World->Prop)(Q:Exit->Act->World->Prop):Prop:=if s.go then s.o.wp P a w next Q else next (a.put s.o.dst undef) w
def Stp.Gd(ops:Array Oper)(s:Stp S):Prop:=(s.o.guard=none/\s.go=true)\/∃d want,zdx ops.toList s.o=some (d,want)/\d∈s.f.pins/\((s.go=true/\zan s.e d=some (.bool want))\/(s.go=false/\(zan s.e d=some (.bool (!want))\/zan s.e d=some zay)))
theorem zhn{f:Fp}{o:Oper}{e:Env S}{c:Bool}(h:zoE ops.toList f o e=some c):∃d want,zdx ops.toList o=some (d,want)/\d∈f.pins/\((c=true/\zan e d=some (.bool want))\/(c=false/\(zan e d=some (.bool (!want))\/zan e d=some zay))):=by
 unfold zoE at h;split at h
 ·rename_i d want hg;obtain ⟨h1,h2⟩:=zac h;refine ⟨d,want,hg,by simpa using h1,?_⟩;split at h2;·rename_i b hl;cases b<;>cases want<;>cases h2<;>simp[hl,zjJ]
  ·rename_i hl;cases h2;exact .inr ⟨rfl,.inr hl⟩
  ·cases h2
 ·cases h
theorem zn7{g:Bool}{p:PV S}{K:PV S->Option R}(h:brG g p K=some r):K p=some r:=by
 unfold brG at h;split at h;·rename_i b;cases b<;>exact h
 ·exact h
def Stp.Post(un:Uni S)(E:Wl.Ctx)(D0:Dat)(N:Wl.Fr)(H:List Wl.Res)(s:Stp S)(a':Act)(w':World):Prop :=
 (∃D' H',St un E N D' H' (push s.o.dst s.p s.e') s.b' a' w'/\(∀k o,D' k o->D0 k o\/E.may k)/\Ge D0 E.w D' w'/\(zhi s.o s.e0 s.b0=true->ids H'=ids H))/\PresB s.b0 s.b'
def Stp.Ok(P:Program)(un:Uni S)(s:Stp S):Prop:=∀(E:Wl.Ctx)(D0:Dat)(N:Wl.Fr)(a:Act)(w:World)(Q:Exit->Act->World->Prop)(D:Dat)(H:List Wl.Res),(∀d,s.o.dst=some d->d<N.n)->St un E N D H s.e0 s.b0 a w->(∀k o,D k o->D0 k o\/E.may k)->Ge D0 E.w D w ->
 s.wp P a w (λa' w'=>s.Post un E D0 N H a' w') Q
def Stp.Pan(P:Program)(un:Uni S)(s:Stp S)(x:Exit):Prop:=(x≠ .outgrown/\s.go=true)/\∀(E:Wl.Ctx)(D0:Dat)(N:Wl.Fr)(a:Act)(w:World)(next:Act->World->Prop)(D:Dat)(H:List Wl.Res),(∀d,s.o.dst=some d->d<N.n)->St un E N D H s.e0 s.b0 a w->(∀k o,D k o->D0 k o\/E.may k)->Ge D0 E.w D w ->
 s.o.wp P a w next (λy a' w'=>y=x/\s.Post un E D0 N H a' w')
theorem Stp.Post.of{s:Stp S}{E:Wl.Ctx}{D0:Dat}{N:Wl.Fr}{H:List Wl.Res}{a':Act}{w':World}(hn:zhi s.o s.e0 s.b0=false)(h:Holds un E D0 N (push s.o.dst s.p s.e') s.b' a' w')(hp:PresB s.b0 s.b'):s.Post un E D0 N H a' w':=by obtain ⟨D',H',h1,h2,h3⟩:=h;exact ⟨⟨D',H',h1,h2,h3,λhc=>by rw[hn] at hc;cases hc⟩,hp⟩
theorem zog(hun:UniOk un)(ht:TbOk P un tb){o:Oper}{e:Env S}{bx:Bxs S}(hs0:zhi o e bx=true){K:PV S->Env S->Bxs S->Option R}{KX:Exit->Env S->Bxs S->Option R}(h:zlU un tb orc inl o e bx K KX=some r) :
  ∃b',K zay e b'=some r/\PresB bx b'/\∀(E:Wl.Ctx)(D:Dat)(N:Wl.Fr)(a:Act)(w:World)(Q:Exit->Act->World->Prop)(H:List Wl.Res),(∀d,o.dst=some d->d<N.n)->St un E N D H e bx a w ->
   o.wp P a w (λa' w'=>∃H',St un E N D H' (push o.dst zay e) b' a' w'/\Ge D w D w'/\ids H'=ids H) Q:=by
 unfold zhi at hs0;split at hs0
 ·rename_i t x y ho;split at hs0
  ·rename_i b off hx;unfold zlU at h;rw[ho] at h;simp only at h;unfold zft at h;rw[ho] at h;simp only at h;unfold zei at h;rw[ho] at h;simp only[hx] at h;unfold zcV at h;rw[ho] at h;simp only[hx] at h;split at h
   ·rename_i b2 off2 p row hx2 hy hrow;cases hx2;split at h
    ·rename_i T cs hg;obtain ⟨h1,h2⟩:=zac h;simp only[yAd,yAP] at h1;refine ⟨_,h2,PresB.set hg rfl λT' cs' he=>by cases he;exact ⟨_,rfl,zdh _ _ _⟩,λE D N a w Q H hd hs=>?_⟩;obtain ⟨w',H',hrun,hst,hge,hid⟩:=zkn (P:=P) hun (ht.ty t row hrow) hs hg (hs.ev hx) (hs.ev hy) h1.1.1 (yAa h1.1.2) h1.2 hd;unfold Oper.wp;have:(execOp a.eval o).run P w= .ok .skip w':=by simp[execOp,ho,hrun]
     rw[this];exact ⟨H',hst,hge,hid⟩
    ·cases h
   ·cases h
  ·cases hs0
 ·cases hs0
theorem Holds.junk{E:Wl.Ctx}{D0:Dat}{N:Wl.Fr}{e:Env S}{bx:Bxs S}{a:Act}{w:World}(h:Holds un E D0 N e bx a w)(d:Option Nat):Holds un E D0 N (push d .junk e) bx a w:=by
 obtain ⟨D,H,hs,h1,h2⟩:=h;refine ⟨D,H,⟨hs.inn,hs.size,hs.defers,hs.boxes,λt q hq=>?_⟩,h1,h2⟩;by_cases hd:d=some t
 ·subst hd;have:q= .junk:=by simpa[push,zan] using hq.symm
  subst this;simp only[Rep]
 ·exact hs.slots t q (by rw[zaC hd] at hq;exact hq)
def Chain(ops:Array Oper):Nat->List Rc->Env S->Bxs S->List (Stp S)->Env S->Bxs S->Prop|_,_,e,bx,[],ef,bf=>ef=e/\bf=bx|i,rs,e,bx,s::l,ef,bf=>ops[i]?=some s.o/\s.Gd ops/\s.e=e/\s.bx=bx/\zfS ops i s.o s.f rs s.e s.bx s.p s.e' s.b'=true/\Chain ops (i+1) (s.rc i::rs) s.nextE s.nextB l ef bf
def Ends(P:Program)(un:Uni S)(ops:Array Oper)(K:Exit->Env S->Bxs S->Option R)(r:R)(i:Nat)(rs:List Rc)(tr:List (Stp S))(ef:Env S)(bf:Bxs S):Prop :=
 (i+tr.length=ops.size/\(∀s∈tr,s.Ok P un)/\K .normal ef bf=some r) \/
 ∃t0 s1 x rs',tr=t0++[s1]/\(∀s∈t0,s.Ok P un)/\s1.Pan P un x/\K x (zbv (zbd ops.toList) ef) bf=some r/\zkQ ops (i+t0.length) rs'=true/\(∀q∈rs,q∈rs')/\∀(k:Nat) s,t0[k]?=some s->s.rc (i+k)∈rs'
theorem Ends.cons{K:Exit->Env S->Bxs S->Option R}{i:Nat}{rs:List Rc}{tr:List (Stp S)}{ef:Env S}{bf:Bxs S}{s0:Stp S}(hok:s0.Ok P un)(h6:Ends P un ops K r (i+1) (s0.rc i::rs) tr ef bf):Ends P un ops K r i rs (s0::tr) ef bf:=by
 rcases h6 with ⟨h6,h7,h8⟩|⟨t0,s1,x,rs',h6,h7,h8,h9,h10,h11,h12⟩
 ·refine .inl ⟨by simp only[yAA];omega,λs hs=>?_,h8⟩;rcases yAp.1 hs with rfl|hs;·exact hok
  ·exact h7 s hs
 ·refine .inr ⟨_::t0,s1,x,rs',by rw[h6];rfl,λs hs=>?_,h8,h9,by rw[yAA,show i+(t0.length+1)=i+1+t0.length by omega];exact h10,λq hq=>h11 q (by simp[hq]),λk s hk=>?_⟩
  ·rcases yAp.1 hs with rfl|hs;·exact hok
   ·exact h7 s hs
  ·cases k with
   |zero=>simp at hk;subst hk;exact h11 _ (by simp)|succ k=>rw[show i+(k+1)=i+1+k by omega];exact h12 k s (by simpa using hk)
theorem zeH(hun:UniOk un)(ht:TbOk P un tb)(hor:SoundO P un orc)(hin:SoundI P un inl){K:Exit->Env S->Bxs S->Option R}:∀(fps:List Fp)(i:Nat)(rs:List Rc)(e:Env S)(bx:Bxs S),zjv un tb orc inl ops K fps i rs e bx=some r ->
  ∃tr ef bf,Chain ops i rs e bx tr ef bf/\Ends P un ops K r i rs tr ef bf
 |[],i,rs,e,bx,h=>by unfold zjv at h;obtain ⟨h1,h2⟩:=zac h;exact ⟨[],e,bx,⟨rfl,rfl⟩,.inl ⟨yAa h1,by simp,h2⟩⟩
 |f::l,i,rs,e,bx,h=>by
   unfold zjv at h;split at h;·cases h
   ·rename_i o ho;split at h
    ·rename_i hg;have hG:(o.guard=none/\true=true)\/∃d want,zdx ops.toList o=some (d,want)/\d∈f.pins/\((true=true/\zan e d=some (.bool want))\/(true=false/\(zan e d=some (.bool (!want))\/zan e d=some zay))):=by
      split at hg;·rename_i h0;exact .inl ⟨h0,rfl⟩
      ·exact .inr (zhn hg)
     rw[znC] at h;obtain ⟨z,h1,h2⟩:=yBH.1 h;cases z with
     |inr z =>
       obtain ⟨x,e',b'⟩:=z;obtain ⟨h3,h4⟩:=zac h2;simp only[yAd] at h3;refine ⟨[⟨o,f,e,bx,.junk,e',b',true⟩],_,_,⟨ho,hG,rfl,rfl,h3.2.1,rfl,rfl⟩,.inr ⟨[],_,x,rs,rfl,by simp,⟨⟨λhx=>by rw[hx] at h3;simp at h3,rfl⟩,λE D0 N a w next D H hd hs hD hG=>?_⟩,h4,h3.2.2,λ_ h=>h,by simp⟩⟩;have hn:zhi o (zcm (zbb o f) e) (zda f 0 bx)=false:=by
        cases hc:zhi o (zcm (zbb o f) e) (zda f 0 bx) with
        |false=>rfl|true=>obtain ⟨_,h5,_⟩:=zog (P:=P) hun ht hc h1;cases h5
       refine zh4 hun ht hor hin h1 hd ⟨D,H,hs,hD,hG⟩ (λp1 e1 b1 hk=>by cases hk) λy e1 b1 hk _ hb a' w' h5=>?_;cases hk;exact ⟨rfl,Stp.Post.of hn (h5.junk _) hb⟩
     |inl z =>
       obtain ⟨p,e',b'⟩:=z
       replace h2:=zn7 (K:=λp=>bif zfS ops i o f rs e bx p e' b' then zjv un tb orc inl ops K l (i+1) (⟨i,bx.length,b'.length,f,zcL f (zcm (zbb o f) e) (zda f 0 bx) p b'⟩::rs) (push o.dst p (zgM f.dead e)) (zdD f 0 bx b') else none) h2
       obtain ⟨h3,h4⟩:=zac h2;have hok:Stp.Ok P un ⟨o,f,e,bx,p,e',b',true⟩:=λE D0 N a w Q D H hd hs hD hG=>by
        show o.wp P a w _ Q;cases hc:zhi o (zcm (zbb o f) e) (zda f 0 bx) with
        |false =>
          refine zh4 hun ht hor hin h1 hd ⟨D,H,hs,hD,hG⟩ (λp1 e1 b1 hk _ hb a' w' h5=>?_) λx e1 b1 hk=>by cases hk
          cases hk;exact Stp.Post.of hc h5 hb
        |true =>obtain ⟨b1,h5,h6,h7⟩:=zog (P:=P) hun ht hc h1;cases h5;refine Oper.wp_mono (λa' w' h8=>?_) (h7 E D N a w Q H hd hs);obtain ⟨H',k1,k2,k3⟩:=h8;exact ⟨⟨D,H',k1,hD,hG.trans k2,λ_=>k3⟩,h6⟩
       obtain ⟨tr,ef,bf,h5,h6⟩:=zeH hun ht hor hin l (i+1) _ _ _ h4;exact ⟨⟨o,f,e,bx,p,e',b',true⟩::tr,ef,bf,⟨ho,hG,rfl,rfl,h3,h5⟩,Ends.cons hok h6⟩
    ·rename_i hg;have hG:(o.guard=none/\false=true)\/∃d want,zdx ops.toList o=some (d,want)/\d∈f.pins/\((false=true/\zan e d=some (.bool want))\/(false=false/\(zan e d=some (.bool (!want))\/zan e d=some zay))):=by
      split at hg;·cases hg
      ·exact .inr (zhn hg)
     obtain ⟨h3,h4⟩:=zac h;have hok:Stp.Ok P un ⟨o,f,e,bx,zay,zcm (zbb o f) e,zda f 0 bx,false⟩:=λE D0 N a w Q D H hd hs hD hGe=>by show Stp.Post un E D0 N H _ (a.put o.dst undef) w;exact ⟨⟨D,H,hs.step hs.inn hs.boxes hs.slots hd (by simp only[zay,Rep];exact ⟨[],rfl,by simp[RepL]⟩),hD,hGe,λ_=>rfl⟩,PresB.refl _⟩
     obtain ⟨tr,ef,bf,h5,h6⟩:=zeH hun ht hor hin l (i+1) _ _ _ h4;exact ⟨⟨o,f,e,bx,zay,zcm (zbb o f) e,zda f 0 bx,false⟩::tr,ef,bf,⟨ho,hG,rfl,rfl,h3,h5⟩,Ends.cons hok h6⟩
    ·cases h
def ze8(tr:List (Stp S))(ef:Env S)(i:Nat):Env S:=match tr[i]? with|some s=>s.e|none=>ef
def zc5(tr:List (Stp S))(bf:Bxs S)(i:Nat):Bxs S:=match tr[i]? with|some s=>s.bx|none=>bf
theorem Chain.start{tr:List (Stp S)}{i:Nat}{rs:List Rc}{e:Env S}{bx:Bxs S}{ef:Env S}{bf:Bxs S}(h:Chain ops i rs e bx tr ef bf):ze8 tr ef 0=e/\zc5 tr bf 0=bx:=by
 cases tr with
 |nil=>exact h|cons s l=>exact ⟨h.2.2.1,h.2.2.2.1⟩
theorem Chain.at:∀{tr:List (Stp S)}{i:Nat}{rs:List Rc}{e:Env S}{bx:Bxs S}{ef:Env S}{bf:Bxs S},Chain ops i rs e bx tr ef bf->∀{k:Nat}{s:Stp S},tr[k]?=some s ->
  ops[i+k]?=some s.o/\s.Gd ops/\ze8 tr ef (k+1)=s.nextE/\zc5 tr bf (k+1)=s.nextB/\∃rs',zfS ops (i+k) s.o s.f rs' s.e s.bx s.p s.e' s.b'=true/\(∀r∈rs,r∈rs')/\∀(k':Nat) s',k'<k->tr[k']?=some s'->s'.rc (i+k')∈rs'
 |[],_,_,_,_,_,_,_,k,s,hk=>by simp at hk
 |s0::l,i,rs,e,bx,ef,bf,h,0,s,hk=>by
   simp at hk;subst hk;obtain ⟨h1,h2,h3,h4,h6,h7⟩:=h;obtain ⟨g1,g2⟩:=h7.start;refine ⟨h1,h2,?_,?_,rs,h6,λ_ h=>h,λk' s' hk'=>by omega⟩;·rw[<-g1];rfl
   ·rw[<-g2];rfl
 |s0::l,i,rs,e,bx,ef,bf,h,k+1,s,hk=>by
   obtain ⟨h1,h2,h3,h4,h6,h7⟩:=h;obtain ⟨q1,q2,q4,q5,rs',q6,q7,q8⟩:=h7.at (k:=k) (s:=s) (by simpa using hk);refine ⟨by rw[show i+(k+1)=i+1+k by omega];exact q1,q2,by simpa[ze8] using q4,by simpa[zc5] using q5,rs',by rw[show i+(k+1)=i+1+k by omega];exact q6,λr hr=>q7 r (by simp[hr]),λk' s' hk' hs'=>?_⟩;cases k' with
   |zero=>simp at hs';subst hs';exact q7 _ (by simp)|succ k'=>rw[show i+(k'+1)=i+1+k' by omega];exact q8 k' s' (by omega) (by simpa using hs')
structure StepF (ops:Array Oper) (i:Nat) (s:Stp S) (rs:List Rc):Prop where
 grow:s.bx.length<=s.b'.length
 foot_lt:∀k∈s.f.foot,k<s.bx.length
 hits_lt:∀k∈zcL s.f s.e0 s.b0 s.p s.b',k<s.b'.length
 pre_lt:∀k∈zc4 s.e0++zcf s.b0 (s.f.foot++s.f.see),k<s.bx.length
 foot_ok:∀k∈s.f.foot,zjq s.bx k=true
 dead_foot:∀k∈s.f.dead,k∈s.f.foot/\zoh s.bx k=true
 live:∀k∈s.f.foot,k∉s.f.dead->k∈zfu s.o s.f s.e0 s.b0 s.e' s.b'
 named:∀k∈s.p.hits++zcf s.b' (s.f.foot++zcP s.bx.length (s.b'.drop s.bx.length)),k∈s.f.foot\/s.bx.length<=k\/k∈zfu s.o s.f s.e0 s.b0 s.e' s.b'
 dead_env:∀k∈s.f.dead,k∉zc4 (zgM s.f.dead s.e)
 dead_box:∀k∈s.f.dead,∀j b,j∉s.f.foot->zae s.bx j=some b->k∉(b.junkA s.f.dead).hits
 pins:∀t∈s.f.pins,∀(j:Nat) oj,ops[j]?=some oj->oj.dst=some t->j<i/\reachB ops j i=true
 plain:∀k∈s.f.foot++zcP s.bx.length (s.b'.drop s.bx.length),zgE s.b' k=true
 rcs:∀r∈rs,reachB ops r.i i=true\/rcOk r s.f s.bx.length s.b'.length (zcL s.f s.e0 s.b0 s.p s.b')=true
theorem zjN{i:Nat}{s:Stp S}{rs:List Rc}(h:zfS ops i s.o s.f rs s.e s.bx s.p s.e' s.b'=true):StepF ops i s rs:=by
 unfold zfS at h;simp only[yAd,yAO,yBs] at h;obtain ⟨⟨h1,h2,h3,h3'⟩,⟨h4,h5,h6⟩,⟨h7,h8⟩,⟨h9,h10⟩,h11,h12⟩:=h;refine ⟨by simpa[yAP] using h1,zeg h2,zeg h3,zeg h4,h5,λk hk=>?_,λk hk hd=>?_,λk hk=>?_,zdf h9,λk hk j b hj hb hkb=>?_,λt ht j oj hoj hdj=>?_,h3',h12⟩;·have:=h6 k hk;exact ⟨by simpa using this.1,this.2⟩
 ·rcases h7 k hk with h|h;·exact absurd (by simpa using h) hd
  ·simpa[Stp.e0,Stp.b0] using h
 ·rcases h8 k hk with h|h|h;·exact .inl (by simpa using h)
  ·exact .inr (.inl (by simpa[yAP] using h))
  ·exact .inr (.inr (by simpa[Stp.e0,Stp.b0] using h))
 ·refine zdf h10 k hk (zb7 (b:=b.junkA s.f.dead) (by rw[za5,hb];rfl) hkb ?_);simp only[yB0,yBm,yA0];exact ⟨zbZ hb,by simpa using hj⟩
 ·have hlt:j<ops.size:=(yAq.1 hoj).1;have:=h11 t ht j (by simpa using hlt);rw[hoj] at this;simp only[yBs,yAd] at this;rcases this with h|h;·rw[hdj] at h;simp at h
  ·exact ⟨by simpa[yAV] using h.1,h.2⟩
theorem zmd{r:Rc}{f:Fp}{lo hi:Nat}{hits:List Nat}(h:rcOk r f lo hi hits=true) :
  (∀k∈f.foot,k∉r.f.foot/\k∉r.f.see)/\(∀k∈f.see,k∉r.f.foot)/\(∀k,k∈f.foot\/k∈f.see->¬(r.lo<=k/\k<r.hi))/\(∀k∈hits,¬(r.lo<=k/\k<r.hi))/\(∀k∈f.dead,k∉r.hits)/\∀k∈r.f.dead,k∉hits:=by
 unfold rcOk at h;simp only[yAd] at h;obtain ⟨⟨h1,h2⟩,⟨h3,h4⟩,h5,h6⟩:=h;have hnot:∀{l:List Nat},r.not l=true->∀k∈l,¬(r.lo<=k/\k<r.hi):=λ{l} hl k hk hh=>by unfold Rc.not at hl;have:=yAO.1 hl k hk;simp only[yBs,yAV,yAP] at this;omega
 refine ⟨λk hk=>?_,zdf h2,λk hk=>hnot h3 k (by simpa using hk),hnot h4,zdf h5,zdf h6⟩;have:=zdf h1 k hk;simpa using this
theorem zhA{s:Stp S}{t:Nat}{q:PV S}(ht:s.o.dst≠some t)(h:zan s.nextE t=some q):∃q0,Weak q q0/\zan s.e t=some q0/\zan (zgM s.f.dead s.e) t=some q:=by
 unfold Stp.nextE at h;rw[zaC ht] at h;have h':=h;rw[zfA] at h;cases hq:zan s.e t with
 |none=>rw[hq] at h;cases h|some p0 =>rw[hq] at h;simp only[yAf,yAe] at h;exact ⟨p0,by rw[<-h];exact Weak.junk _ _,rfl,h'⟩
theorem zhw{i j:Nat}(h:zjy ops i j=true)(hj:j<ops.size):reachB ops i j=true:=by
 have sub:∀(l acc:List Nat),∀x∈acc,x∈zcY ops acc l:=by
  intro l;induction l with
  |nil=>intro acc x hx;exact hx
  |cons q r ih =>
    intro acc x hx;unfold zcY;cases acc.any λk=>zjy ops k q with
    |true=>exact ih _ x (by simp[hx])|false=>exact ih _ x hx
 have key:∀(l acc:List Nat),i∈acc->j∈l->j∈zcY ops acc l:=by
  intro l;induction l with
  |nil=>intro acc _ hj;simp at hj
  |cons q r ih =>
    intro acc hi hj;unfold zcY;rcases yAp.1 hj with rfl|hj
    ·rw[yBh.2 ⟨i,hi,h⟩];exact sub r _ j (by simp)
    ·cases acc.any λk=>zjy ops k q with
     |true=>exact ih _ (by simp[hi]) hj|false=>exact ih _ hi hj
 unfold reachB;simpa using key (List.range ops.size) [i] (by simp) (by simpa using hj)
end
end Pe
end
section
/- A region in any order, read in the text's order: one operation, wherever it zcX. -/
namespace Pe
open Go Go.RowKit
variable{S:Nat->Type}
section
variable{P:Program}{un:Uni S}{E:Wl.Ctx}{D0:Dat}{N:Wl.Fr}{D D':Dat}{H:List Wl.Res}{a:Act}{w w':World}{ops:Array Oper}
theorem zme{o:Oper}{v:Value}{t:Nat}(ht:o.dst≠some t):(a.put o.dst v).tmps.getD t undef=a.tmps.getD t undef:=by
 cases hd:o.dst with
 |none=>simp[Act.put]|some d =>have:d≠t:=λe=>ht (by rw[hd,e]);simp only[Act.put,yAs];rw[Array.getElem?_setIfInBounds_ne this]
theorem zlW{o:Oper}{next:Act->World->Prop}{Q:Exit->Act->World->Prop}(h:o.wp P a w next Q):o.wp P a w (λa' w'=>next a' w'/\∀t,o.dst≠some t->a'.tmps.getD t undef=a.tmps.getD t undef) Q:=by
 have hput:∀(b:Act) v t,b.tmps=a.tmps->o.dst≠some t->(b.put o.dst v).tmps.getD t undef=a.tmps.getD t undef:=λb v t hb ht=>by
  cases hd:o.dst with
  |none=>simp[Act.put,hb]|some d =>have:d≠t:=λe=>ht (by rw[hd,e]);simp only[Act.put,hb,yAs];rw[Array.getElem?_setIfInBounds_ne this]
 unfold Oper.wp at *
 generalize (execOp a.eval o).run P w=r at *
 cases r with
 |ok n w' =>
   cases n<;>simp only[Oper.upon] at h ⊢ <;>
    first
     |exact ⟨h,λt ht=>hput _ _ t rfl ht⟩|exact Calls.mono h (λe w'' he=>by cases e<;>first|exact ⟨he,λt ht=>hput _ _ t rfl ht⟩|exact he)|exact Rows.mono h (λ_ _ he=>⟨he,λt ht=>hput _ _ t rfl ht⟩)
 |halt x w'=>cases x<;>simp only[Oper.upon] at h ⊢ <;>exact h
theorem zpx{o:Oper}{next next':Act->World->Prop}{Q Q':Exit->Act->World->Prop}(h:o.wp P a w next Q)(hn:∀a' w',next a' w'->next' a' w')(hq:∀x w',Q x a w'->Q' x a w')(hg:LetsOut Q->LetsOut Q'):o.wp P a w next' Q':=by
 unfold Oper.wp at *
 generalize (execOp a.eval o).run P w=r at *
 cases r with
 |ok n w' =>
   cases n<;>simp only[Oper.upon] at h ⊢ <;>
    first
     |exact hn _ _ h
     |exact Calls.mono h (λe w'' he=>by cases e<;>first|exact hn _ _ he|exact hq _ _ he|exact hg he)|exact Rows.mono h (λ_ _ he=>hn _ _ he)
 |halt x w'=>cases x<;>simp only[Oper.upon] at h ⊢ <;>first|exact hq _ _ h|exact h
def zex(l:List Nat)(m:Nat)(H:List Wl.Res):List Wl.Res:=(H.take m).mapIdx λk r=>if l.contains k then r else .ref (zaf r)
theorem ze1{l:List Nat}{m k:Nat}:(zex l m H)[k]?=if k<m then (H[k]?).map λr=>if l.contains k then r else .ref (zaf r) else none:=by unfold zex;rw[yBT,yAw];by_cases hk:k<m<;>simp only[hk,if_true,if_false]<;>rfl
theorem zgJ{l:List Nat}{m k:Nat}(hk:k<m):(ids (zex l m H))[k]?=(ids H)[k]? :=by
 simp only[ids,yAg,ze1,if_pos hk,Option.map_map];cases H[k]? with
 |none=>rfl|some r=>simp only[yAf,Function.comp];split<;>rfl
theorem zi5{l:List Nat}{m:Nat}(h:m<=H.length):(zex l m H).length=m:=by simp[zex];omega
def zbs(l:List Nat)(H:List Wl.Res):List Nat:=l.flatMap λk=>match H[k]? with|some r=>r.blocks|none=>[]
theorem zaL{l:List Nat}{g:Nat}:g∈zbs l H↔∃k∈l,∃r,H[k]?=some r/\r.has g:=by
 unfold zbs;rw[yBS];refine exists_congr λk=>and_congr_right λ_=>?_;cases H[k]? with
 |none=>simp|some r=>simp[Wl.Res.mem_blocks]
def zej(fx:List Value)(l:List Nat)(H:List Wl.Res)(w:World):Wl.Ctx:=⟨w,zbs l H,fx.mapIdx λk v=>if l.contains k then v else .nilFunc⟩
theorem zi7{fx:List Value}{l:List Nat}{H:List Wl.Res}{w:World}{i:Nat}{v:Value}:zeF (zej fx l H w).fix i=some v↔i∈l/\zeF fx i=some v:=by
 unfold zej zeF;simp only[yBT];cases fx[i]? with
 |none=>simp|some x =>
   by_cases h:i∈l;·simp[h]
   ·simp[h]
theorem In.disjAt(h:In E D H w){i j:Nat}{r s:Wl.Res}(hij:i≠j)(hi:H[i]?=some r)(hj:H[j]?=some s):Wl.apartR r s:=by
 have hp:=yAI.1 h.disj;obtain ⟨h1,rfl⟩:=yAc.1 hi;obtain ⟨h2,rfl⟩:=yAc.1 hj;rcases yBK hij with h3|h3;·exact hp i j h1 h2 h3
 ·exact apartR.symm (hp j i h2 h1 h3)
theorem In.mask(h:In E D H w)(l:List Nat)(m:Nat)(hlm:∀k∈l,k<m):In (zej E.fix l H w) D (zex l m H) w:=by
 have get:∀(k:Nat) r,(zex l m H)[k]?=some r->(k∈l/\H[k]?=some r)\/∃id,r= .ref id:=λk r hk=>by
  rw[ze1] at hk;split at hk
  ·cases hH:H[k]? with
   |none=>rw[hH] at hk;cases hk|some r0 =>
     rw[hH] at hk;simp only[yAf,yAe] at hk;split at hk;·rename_i hc;subst hk;exact .inl ⟨by simpa using hc,rfl⟩
     ·exact .inr ⟨_,hk.symm⟩
  ·cases hk
 refine ⟨Wl.Grow.refl _ _,h.lt,λr hr=>?_,λr hr g hg o hf hd=>?_,zcM λi j r s hij hi hj=>?_,λi v hi=>by obtain ⟨h1,h2⟩:=zi7.1 hi;obtain ⟨r,h3,h4,h5,h6⟩:=h.lent i v h2;exact ⟨r,by rw[ze1,if_pos (hlm i h1),h3];simp[h1],h4,h5,keptR.self (h.res r (yAb h3))⟩⟩
 ·obtain ⟨k,hk⟩:=yAj hr;rcases get k r hk with ⟨h1,h2⟩|⟨id,rfl⟩;·exact ze6 (h.res r (yAb h2)) λg hg=>.inr (zaL.2 ⟨k,h1,r,h2,hg⟩)
  ·trivial
 ·obtain ⟨k,hk⟩:=yAj hr;rcases get k r hk with ⟨h1,h2⟩|⟨id,rfl⟩;·exact h.apart r (yAb h2) g hg o hf hd
  ·exact hg.elim
 ·rcases get i r hi with ⟨h1,h2⟩|⟨id,rfl⟩
  ·rcases get j s hj with ⟨h3,h4⟩|⟨id,rfl⟩;·exact h.disjAt hij h2 h4
   ·exact λg _ h=>h.elim
  ·exact λg h _=>h.elim
theorem BoxRep.ctx{nu:Nu}{E':Wl.Ctx}{bx:Bxs S}{k:Nat}(hf:zjq bx k=true){b:Box S}(hb:zae bx k=some b){r:Wl.Res}(h:BoxRep un nu D w E false b r):BoxRep un nu D w E' false b r:=by
 unfold zjq at hf;rw[hb] at hf;cases b with
 |var T cs=>cases r<;>simp only[BoxRep] at h ⊢ <;>exact h|own u T l=>cases r<;>simp only[BoxRep] at h ⊢;exact h|wr u T l=>cases r<;>simp only[BoxRep] at h ⊢;exact h|nst u T T2 l hh=>cases r<;>simp only[BoxRep] at h ⊢;exact h|omp k v l=>cases r<;>simp only[BoxRep] at h ⊢;exact h|fm k v l=>simp at hf|itr k v o p=>simp at hf|lk b=>simp at hf|ro b=>simp at hf|gone=>simp at hf
theorem znr(hun:UniOk un)(hin:In E D H w){l:List Nat}{nu:Nu}{k:Nat}{b:Box S}{r:Wl.Res}(hk:k∉l)(hr:H[k]?=some r)(h:BoxRep un nu D w E false b r):BoxRep un nu D w (zej E.fix l H w) false (zbj b.base) (.ref (zaf r)):=by
 obtain ⟨ro,hb⟩:=h.base;have hh:=hin.res r (yAb hr);have notin:∀g,r.has g->g∉zbs l H:=λg hg hm=>by
  obtain ⟨k',h1,r',h2,h3⟩:=zaL.1 hm;have hne:k≠k':=by rintro rfl;exact hk h1
  exact hin.disjAt hne hr h2 g hg h3
 have old:∀g,g<E.w.heap.size->g∉E.lent->g<w.heap.size/\g∉zbs l H:=λg h1 h2=>by
  refine ⟨yAn h1 hin.out.size,λhm=>?_⟩;obtain ⟨k',h3,r',h4,h5⟩:=zaL.1 hm;rcases (Wl.Res.holds_lt (hin.res r' (yAb h4)) h5).1 with h6|h6;·omega
  ·exact h2 h6
 generalize hx:b.base=x at hb;cases x with
 |var T cs =>
   simp only[zbj,BoxRep];cases ro with
   |false =>
     cases r with
     |box g T' vs =>simp only[BoxRep] at hb;obtain ⟨rfl,hb⟩:=hb;exact ⟨vs,.box g T' vs (Wl.Res.holds_lt hh rfl).2 (notin g rfl) hh.2,hb⟩
     |fix v g size ob =>simp only[BoxRep] at hb;exact ⟨[Wl.fixV v size ob],.fix v g size ob T hh.1 λg0 hg0=>⟨(Wl.Res.holds_lt hh hg0).2,notin g0 hg0,(hh.2 g0 hg0).2⟩,hb⟩|_=>simp[BoxRep] at hb
   |true =>
     cases r with
     |ref id =>
       simp only[BoxRep] at hb;obtain ⟨vs,h1,h2⟩:=hb;refine ⟨vs,?_,h2⟩;simp only[zaf];cases h1 with
       |box g T vs h3 h4 h5=>exact .box g T vs (old g h3 h4).1 (old g h3 h4).2 h5|fix v g size ob T h3 h4=>exact .fix v g size ob T h3 λg0 hg0=>⟨(old g0 (h4 g0 hg0).1 (h4 g0 hg0).2.1).1,(old g0 (h4 g0 hg0).1 (h4 g0 hg0).2.1).2,(h4 g0 hg0).2.2⟩
     |_=>simp[BoxRep] at hb
 |fm k v l =>
   simp only[zbj,BoxRep];cases r with
   |ref id=>simpa only[BoxRep,zaf] using hb|_=>cases ro<;>simp[BoxRep] at hb
 |own u T l =>
   simp only[zbj,BoxRep];cases ro with
   |false =>
     cases r with
     |own v T' size n xs=>exact ⟨rfl,zfv hun.flat hh hb⟩|_=>simp[BoxRep] at hb
   |true =>
     cases r with
     |ref id=>simpa only[BoxRep,zaf] using hb|_=>simp[BoxRep] at hb
 |wr u T l =>
   simp only[zbj,BoxRep];cases ro with
   |false =>
     cases r with
     |wr v T' size n xs=>exact ⟨rfl,zl7 hh hb,λg hg=>⟨(Wl.Res.holds_lt hh hg).2,notin g hg⟩⟩|_=>simp[BoxRep] at hb
   |true =>
     cases r with
     |ref id =>simp only[BoxRep] at hb;exact ⟨hb.1,hb.2.1,λg hg=>old g (hb.2.2 g hg).1 (hb.2.2 g hg).2⟩|_=>simp[BoxRep] at hb
 |_=>simp only[zbj,BoxRep]
theorem zoF(hun:UniOk un){s:Stp S}{i:Nat}{rs:List Rc}(F:StepF ops i s rs)(hin:In E D H w)(hlen:s.bx.length<=H.length)(hsz:a.tmps.size=N.n)(hdf:a.defers=N.ds/\TabE un E.w E.lent)
  (hsl:∀t q,zan s.e0 t=some q->Rep un (ids H) D w q (a.tmps.getD t undef)) (hbx:∀k b,k∈s.f.foot\/k∈s.f.see->zae s.bx k=some b->∃r,H[k]?=some r/\BoxRep un (ids H) D w E false b r) :
  St un (zej E.fix s.f.foot H w) N D (zex s.f.foot s.bx.length H) s.e0 s.b0 a w:=by
 refine ⟨hin.mask _ _ F.foot_lt,hsz,⟨hdf.1,hdf.2.grow hin.out λg hg=>by obtain ⟨k,_,r,h2,h3⟩:=zaL.1 hg;exact (Wl.Res.holds_lt (hin.res r (yAb h2)) h3).1⟩,BxRep.of_get (by rw[zi5 hlen];exact zcZ _ _ _) λk b r hb hr=>?_,λt q hq=>?_⟩
 ·have hk:k<s.bx.length:=by have:=zbZ hb;rwa[show s.b0.length=s.bx.length from zcZ _ _ _] at this
  have hb0:=hb;unfold Stp.b0 at hb;rw[zee,yAH] at hb;cases hg:zae s.bx k with
  |none=>rw[hg] at hb;cases hb|some x =>
    rw[hg] at hb;simp only[yAf,yAe] at hb;rw[ze1,if_pos hk] at hr;have hon:(k∈s.f.foot\/k∈s.f.see)->∀j∈b.hits,(ids (zex s.f.foot s.bx.length H))[j]?=(ids H)[j]? :=λhkk j hj=>by refine zgJ (F.pre_lt j (yBQ _ (zb7 hb0 hj ?_)));simpa using hkk
    cases hc:s.f.foot.contains k with
    |true =>
      rw[hc] at hb;simp only[cond_true] at hb;subst hb;have hkf:k∈s.f.foot:=by simpa using hc
      obtain ⟨r0,h1,h2⟩:=hbx k x (.inl hkf) hg;rw[h1] at hr;simp only[yAf,hc,if_true,yAe] at hr;subst hr;exact ((BoxRep.on (nu':=ids (zex s.f.foot s.bx.length H)) (hon (.inl hkf)) h2).ctx (F.foot_ok k hkf) hg)
    |false =>
      rw[hc] at hb;simp only[cond_false] at hb;cases hs:s.f.see.contains k with
      |false=>rw[hs] at hb;simp only[cond_false] at hb;subst hb;simp only[BoxRep]|true =>
        rw[hs] at hb;simp only[cond_true] at hb;subst hb;have hks:k∈s.f.see:=by simpa using hs
        obtain ⟨r0,h1,h2⟩:=hbx k x (.inr hks) hg;rw[h1] at hr;simp only[yAf,hc] at hr;have hr:Wl.Res.ref (zaf r0)=r:=by simpa using hr
        subst hr;exact BoxRep.on (hon (.inr hks)) (znr hun hin (λhm=>by simp[hm] at hc) h1 h2)
 ·refine Rep.on q _ (λj hj=>zgJ (F.pre_lt j (yBz _ (zb6 hq hj)))) (hsl t q hq)
theorem zkA{s:Stp S}{i:Nat}{rs:List Rc}(_:StepF ops i s rs){H1 H':List Wl.Res}{E1:Wl.Ctx}(hE1:E1.w=w){a':Act}(hs:St un E1 N D H1 s.e0 s.b0 a w)(hs':St un E1 N D' H' (push s.o.dst s.p s.e') s.b' a' w')
  (hot:∀t,s.o.dst≠some t->a'.tmps.getD t undef=a.tmps.getD t undef) (hsto:zhi s.o s.e0 s.b0=true->ids H'=ids H1):∀k∈zfu s.o s.f s.e0 s.b0 s.e' s.b',(ids H')[k]?=(ids H1)[k]? :=by
 have hsl:∀k∈zdj s.e0 s.e' ((zbb s.o s.f).filter λt=>match s.o.dst with|some d=> !Nat.beq t d|none=>true),(ids H')[k]?=(ids H1)[k]? :=λk hk=>by
  obtain ⟨t,h1,p,q,h2,h3,h4⟩:=zeN hk;have hne:s.o.dst≠some t:=λhd=>by have:=(yB0.1 h1).2;rw[hd] at this;simp at this
  have r1:=hs.slots t p h2;have r2:=hs'.slots t q (by rw[zaC hne];exact h3);rw[hot t hne] at r2;exact Rep.names p q _ k h4 r1 r2
 intro k hk;unfold zfu at hk;cases hc:zhi s.o s.e0 s.b0 with
 |true=>rw[hsto hc]|false =>
 rw[hc,cond_false] at hk;rcases yAm.1 hk with hk|hk;·exact hsl k hk
 ·obtain ⟨j,_,h2,T,cs,T',cs',h3,h4,h5,h6⟩:=zf6 hk;have hid:=hsl j h2;obtain ⟨r,q1,q2⟩:=hs.boxes.get h3;obtain ⟨r',q3,q4⟩:=hs'.boxes.get h4;simp only[BoxRep] at q2 q4;cases r<;>simp only[BoxRep] at q2;cases r'<;>simp only[BoxRep] at q4;rename_i id id';obtain ⟨vs,s1,s2⟩:=q2;obtain ⟨vs',s3,s4⟩:=q4;simp only[ids,yAg,q1,q3,yAf,zaf,yAe] at hid;subst hid;have hv:vs=vs':=by
   cases s1 with
   |fix v g size ob T h1 _=>exfalso;have:=s2.length;simp at this;omega
   |box g T vs g1 g2 g3 =>
     generalize hx:(true,Value.pointer (some ⟨g,0,none⟩))=x at s3;cases s3 with
     |box g' T' vs' g4 g5 g6 =>simp only[Prod.mk.injEq,Value.pointer.injEq,yAe,Addr.mk.injEq,true_and,and_true] at hx;subst hx;have:=hs'.inn.out.block g g1 g2;rw[hE1] at this;rw[this,g3] at g6;simp only[yAe,Obj.cells.injEq] at g6;exact congrArg Array.toList g6.1
     |fix v g' size ob T' g4 g5 =>simp only[Prod.mk.injEq,true_and] at hx;subst hx;rcases g4 with ⟨_,_,_,h,_⟩|⟨_,_,_,_,_,_,h,_⟩|⟨h,_⟩|⟨_,_,_,_,_,_,h,_⟩<;>cases h
  subst hv;exact RepL.names cs cs' vs k h6 s2 s4
end
end Pe
end
section
/- A region in any order, read in the text's order: what one operation leaves to the others. -/
namespace Pe
open Go Go.RowKit
variable{S:Nat->Type}
section
variable{P:Program}{un:Uni S}{E:Wl.Ctx}{D0:Dat}{N:Wl.Fr}{D D':Dat}{H H':List Wl.Res}{a a':Act}{w w':World}{ops:Array Oper}
def Stp.turns(s:Stp S)(k:Nat):Prop:=k∈s.f.foot\/(s.bx.length<=k/\k<s.b'.length)
instance (s:Stp S) (k:Nat):Decidable (s.turns k):=by unfold Stp.turns;infer_instance
def zj5(s:Stp S)(H H':List Wl.Res):List Wl.Res:=H.mapIdx λk r=>if s.turns k then (H'[k]?).getD r else r
theorem zj3(s:Stp S):(zj5 s H H').length=H.length:=by simp[zj5]
theorem zgh{s:Stp S}{k:Nat}(hk:¬s.turns k):(zj5 s H H')[k]?=H[k]? :=by unfold zj5;rw[yBT];simp only[if_neg hk];cases H[k]? <;>rfl
theorem zj4{s:Stp S}{k:Nat}(hk:s.turns k)(hl:k<H.length)(hl':k<H'.length):(zj5 s H H')[k]?=H'[k]? :=by unfold zj5;rw[yBT];simp only[if_pos hk,yAh hl,yAh hl',yAf,yBU]
theorem zi6{s:Stp S}(hin:In E D H w){g:Nat}(h:(zej E.fix s.f.foot H w).may g):E.may g:=by
 rcases h with h|h;·exact .inl (yAG hin.out.size h)
 ·obtain ⟨k,_,r,h2,h3⟩:=zaL.1 h;exact (Wl.Res.holds_lt (hin.res r (yAb h2)) h3).1
theorem zlx{s:Stp S}(hin:In E D H w)(hf:Wl.Grow (zbs s.f.foot H) w w'){k:Nat}{r:Wl.Res}(hk:k∉s.f.foot)(hr:H[k]?=some r):∀g,r.has g->w'.heap[g]?=w.heap[g]? :=λg hg=>by
 refine hf.block g (Wl.Res.holds_lt (hin.res r (yAb hr)) hg).2 λhm=>?_;obtain ⟨k',h1,r',h2,h3⟩:=zaL.1 hm;have hne:k≠k':=by rintro rfl;exact hk h1
 exact hin.disjAt hne hr h2 g hg h3
theorem zjp{s:Stp S}(hin:In E D H w)(hf:Wl.Grow (zbs s.f.foot H) w w'):∀g,g<E.w.heap.size->g∉E.lent->w'.heap[g]?=w.heap[g]? :=λg hg hn=>by
 refine hf.block g (yAn hg hin.out.size) λhm=>?_;obtain ⟨k,_,r,h2,h3⟩:=zaL.1 hm;rcases (Wl.Res.holds_lt (hin.res r (yAb h2)) h3).1 with h4|h4;·omega
 ·exact hn h4
theorem In.merge{s:Stp S}(hlent:∀(i:Nat) v,zeF E.fix i=some v->s.turns i->∃r,H'[i]?=some r/\zaH r=true/\zaf r=(true,v)/\keptR E.w r)(hfl:∀k∈s.f.foot,k<s.bx.length)(hgr:s.bx.length<=s.b'.length)(hin:In E D H w)(hl:s.b'.length<=H.length)(hl':H'.length=s.b'.length)
  (hin':In (zej E.fix s.f.foot H w) D' H' w') (hsrc:∀k o,D' k o->D k o\/(zej E.fix s.f.foot H w).may k):In E D' (zj5 s H H') w':=by
 have hf:Wl.Grow (zbs s.f.foot H) w w':=hin'.out;have hsz:∀{k},s.turns k->k<H'.length/\k<H.length:=λ{k} hk=>by
  rcases hk with hk|hk;·have:=hfl k hk;omega
  ·omega
 have get:∀(k:Nat) r,(zj5 s H H')[k]?=some r->(s.turns k/\H'[k]?=some r)\/(¬s.turns k/\H[k]?=some r):=λk r h=>by
  by_cases hk:s.turns k;·rw[zj4 hk (hsz hk).2 (hsz hk).1] at h;exact .inl ⟨hk,h⟩
  ·rw[zgh hk] at h;exact .inr ⟨hk,h⟩
 have nofoot:∀{k},¬s.turns k->k∉s.f.foot:=λh hm=>h (.inl hm);have cross:∀{k r j t},s.turns k->H'[k]?=some r->¬s.turns j->H[j]?=some t->∀g,r.has g->¬t.has g:=λ{k r j t} h1 h2 h3 h4 g h5 h6=>by
  rcases (Wl.Res.holds_lt (hin'.res r (yAb h2)) h5).1 with h7|h7;·have:=(Wl.Res.holds_lt (hin.res t (yAb h4)) h6).2;have h7:w.heap.size<=g:=h7;omega
  ·obtain ⟨k',g1,r',g2,g3⟩:=zaL.1 h7;have hne:j≠k':=by rintro rfl;exact nofoot h3 g1
   exact hin.disjAt hne h4 g2 g h6 g3
 refine ⟨?_,hin'.lt,λr hr=>?_,λr hr g hg o hfr hd=>?_,zcM λi j r t hij hi hj=>?_,λi v hi=>?_⟩;·refine ⟨hf.os.trans hin.out.os,hf.tape.trans hin.out.tape,hf.output.trans hin.out.output,yAG hin.out.size hf.size,λk hk hn=>(zjp hin hf k hk hn).trans (hin.out.block k hk hn)⟩
 ·obtain ⟨k,hk⟩:=yAj hr;rcases get k r hk with ⟨h1,h2⟩|⟨h1,h2⟩;·exact ze6 (hin'.res r (yAb h2)) λg hg=>zi6 hin (Wl.Res.holds_lt (hin'.res r (yAb h2)) hg).1
  ·exact Wl.Res.holds_of (hin.res r (yAb h2)) (zlx hin hf (nofoot h1) h2)
 ·obtain ⟨k,hk⟩:=yAj hr;rcases get k r hk with ⟨h1,h2⟩|⟨h1,h2⟩;·exact hin'.apart r (yAb h2) g hg o hfr hd
  ·rcases hsrc g o hd with h3|h3;·exact hin.apart r (yAb h2) g hg o hfr h3
   ·rcases h3 with h3|h3;·have:=(Wl.Res.holds_lt (hin.res r (yAb h2)) hg).2;have h3:w.heap.size<=g:=h3;omega
    ·obtain ⟨k',g1,r',g2,g3⟩:=zaL.1 h3;have hne:k≠k':=by rintro rfl;exact nofoot h1 g1
     exact hin.disjAt hne h2 g2 g hg g3
 ·rcases get i r hi with ⟨h1,h2⟩|⟨h1,h2⟩
  ·rcases get j t hj with ⟨h3,h4⟩|⟨h3,h4⟩;·exact hin'.disjAt hij h2 h4
   ·exact λg g1 g2=>cross h1 h2 h3 h4 g g1 g2
  ·rcases get j t hj with ⟨h3,h4⟩|⟨h3,h4⟩;·exact λg g1 g2=>cross h3 h4 h1 h2 g g2 g1
   ·exact hin.disjAt hij h2 h4
 ·by_cases hk:s.turns i;·obtain ⟨r,h1,h2⟩:=hlent i v hi hk;exact ⟨r,by rw[zj4 hk (hsz hk).2 (hsz hk).1];exact h1,h2⟩
  ·obtain ⟨r,h1,h2⟩:=hin.lent i v hi;exact ⟨r,by rw[zgh hk];exact h1,h2⟩
end
end Pe
end
section
/- A region in any order, read in the text's order: the state between two operations. -/
namespace Pe
open Go Go.RowKit
variable{S:Nat->Type}
section
variable{P:Program}{un:Uni S}{E:Wl.Ctx}{D0:Dat}{N:Wl.Fr}{D D':Dat}{H H':List Wl.Res}{a a':Act}{w w':World}{ops:Array Oper}
structure Read (ops:Array Oper) (e:Env S) (bx:Bxs S) (tr:List (Stp S)) (ef:Env S) (bf:Bxs S):Prop where
 e0:ze8 tr ef 0=e
 b0:zc5 tr bf 0=bx
 efin:ze8 tr ef tr.length=ef
 bfin:zc5 tr bf tr.length=bf
 start:∀k,(k∈zc4 e\/∃j b,zae bx j=some b/\k∈b.hits)->k<bx.length
 at_:∀(i:Nat) s,tr[i]?=some s->ops[i]?=some s.o/\s.Gd ops/\s.e=ze8 tr ef i/\s.bx=zc5 tr bf i/\ze8 tr ef (i+1)=s.nextE/\zc5 tr bf (i+1)=s.nextB/\∃rs,StepF ops i s rs/\∀(j:Nat) s',j<i->tr[j]?=some s'->s'.rc j∈rs
theorem Read.of{e:Env S}{bx:Bxs S}{tr:List (Stp S)}{ef:Env S}{bf:Bxs S}(hs:zhW e bx=true)(h:Chain ops 0 [] e bx tr ef bf):Read ops e bx tr ef bf:=by
 obtain ⟨h1,h2⟩:=h.start;refine ⟨h1,h2,by unfold ze8;simp,by unfold zc5;simp,λk hk=>?_,λi s hi=>?_⟩
 ·unfold zhW at hs;refine zeg hs k ?_;rw[yAm];rcases hk with hk|⟨j,b,hj,hk⟩;·exact .inl hk
  ·exact .inr (zb7 hj hk (yBm.2 (zbZ hj)))
 ·obtain ⟨q1,q2,q4,q5,rs,q6,_,q8⟩:=h.at hi;rw[yAH] at q1 q6;refine ⟨q1,q2,by unfold ze8;rw[hi],by unfold zc5;rw[hi],q4,q5,rs,zjN q6,λj s' hj hs'=>?_⟩;have:=q8 j s' hj hs';rwa[yAH] at this
section
variable{e:Env S}{bx:Bxs S}{tr:List (Stp S)}{ef:Env S}{bf:Bxs S}
theorem Stp.nextB_len{s:Stp S}{i:Nat}{rs:List Rc}(F:StepF ops i s rs):s.nextB.length=s.b'.length:=zeZ _ _ _ _ F.grow
theorem Stp.nextB_get{s:Stp S}{i:Nat}{rs:List Rc}(F:StepF ops i s rs)(b:Nat):(s.turns b->zae s.nextB b=zae s.b' b)/\(¬s.turns b->zae s.nextB b=(zae s.bx b).map (Box.junkA s.f.dead)):=by
 have h:=zgS s.f s.bx s.b' 0 b F.grow;rw[yAH] at h;unfold Stp.nextB;constructor
 ·intro ht;rw[h];rcases ht with ht|ht
  ·have:=F.foot_lt b ht;simp[this,ht]
  ·rw[if_neg (by omega)]
 ·intro ht;rw[h];have h1:b∉s.f.foot:=λh=>ht (.inl h);split;·simp[h1]
  ·rename_i hb;have hb':s.b'.length<=b:=Nat.le_of_not_lt λhl=>ht (.inr ⟨by omega,hl⟩);have none_of:∀(l:Bxs S),l.length<=b->zae l b=none:=λl hl=>by
    cases hg:zae l b with
    |none=>rfl|some x=>have:=zbZ hg;omega
   rw[none_of _ hb',none_of _ (by omega)];rfl
theorem Read.grow(hR:Read ops e bx tr ef bf){m k:Nat}(hmk:m<=k)(hk:k<=tr.length):(zc5 tr bf m).length<=(zc5 tr bf k).length:=by
 induction k with
 | zero=>have:m=0:=by omega
         subst this;exact yAl _
 |succ k ih =>
   rcases Nat.eq_or_lt_of_le hmk with rfl|hlt;·exact yAl _
   ·have hk':k<tr.length:=(by omega);obtain ⟨_,_,_,h5,_,h7,rs,F,_⟩:=hR.at_ k tr[k] (by simp[hk']);refine yAG (ih (by omega) (by omega)) ?_;rw[h7,Stp.nextB_len F,<-h5];exact F.grow
theorem Read.at_len(hR:Read ops e bx tr ef bf){i:Nat}{s:Stp S}(hi:tr[i]?=some s):s.bx.length=(zc5 tr bf i).length/\s.b'.length=(zc5 tr bf (i+1)).length:=by obtain ⟨_,_,_,h5,_,h7,rs,F,_⟩:=hR.at_ i s hi;exact ⟨by rw[h5],by rw[h7,Stp.nextB_len F]⟩
theorem Read.lt(_:Read ops e bx tr ef bf){i:Nat}{s:Stp S}(hi:tr[i]?=some s):i<tr.length:=(yAc.1 hi).1
theorem Read.made_lt(hR:Read ops e bx tr ef bf){i k:Nat}{s:Stp S}(hi:tr[i]?=some s)(hik:i<k)(hk:k<=tr.length):s.b'.length<=(zc5 tr bf k).length:=by rw[(hR.at_len hi).2];exact hR.grow hik hk
theorem Read.slot_back(hR:Read ops e bx tr ef bf){m k:Nat}(hmk:m<=k)(hk:k<=tr.length){t:Nat}{q:PV S}(h:zan (ze8 tr ef k) t=some q) :
  ∃q0,Weak q q0/\(zan (ze8 tr ef m) t=some q0\/∃j s,m<=j/\j<k/\tr[j]?=some s/\s.o.dst=some t/\q0=s.p):=by
 induction k generalizing q with
 | zero=>have:m=0:=by omega
         subst this;exact ⟨q,.inr (.inl rfl),.inl h⟩
 |succ k ih =>
   rcases Nat.eq_or_lt_of_le hmk with rfl|hlt;·exact ⟨q,.inr (.inl rfl),.inl h⟩
   ·have hk':k<tr.length:=(by omega);have hs:tr[k]?=some tr[k]:=(by simp[hk']);obtain ⟨_,_,h4,_,h6,_,rs,F,_⟩:=hR.at_ k tr[k] hs;rw[h6] at h;by_cases hd:tr[k].o.dst=some t;·refine ⟨q,.inr (.inl rfl),.inr ⟨k,tr[k],by omega,by omega,hs,hd,?_⟩⟩;unfold Stp.nextE at h;rw[hd] at h;simpa[push,zan] using h.symm
    ·obtain ⟨q1,hw,h,_⟩:=zhA hd h;rw[h4] at h;obtain ⟨q0,hw0,h⟩:=ih (by omega) (by omega) h;refine ⟨q0,hw.trans hw0,?_⟩;rcases h with h|⟨j,s,q1,q2,q3⟩;·exact .inl h
     ·exact .inr ⟨j,s,q1,by omega,q3⟩
theorem Read.box_back(hR:Read ops e bx tr ef bf){m k:Nat}(hmk:m<=k)(hk:k<=tr.length){b:Nat}{x:Box S}(h:zae (zc5 tr bf k) b=some x) :
  ∃x0,WeakB x x0/\((zae (zc5 tr bf m) b=some x0/\∀(j:Nat) s,m<=j->j<k->tr[j]?=some s->¬s.turns b)\/∃j s,m<=j/\j<k/\tr[j]?=some s/\s.turns b/\zae s.b' b=some x0):=by
 induction k generalizing x with
 | zero=>have:m=0:=by omega
         subst this;exact ⟨x,.inl rfl,.inl ⟨h,λj s h1 h2=>by omega⟩⟩
 |succ k ih =>
   rcases Nat.eq_or_lt_of_le hmk with rfl|hlt;·exact ⟨x,.inl rfl,.inl ⟨h,λj s h1 h2=>by omega⟩⟩
   ·have hk':k<tr.length:=(by omega);have hs:tr[k]?=some tr[k]:=(by simp[hk']);obtain ⟨_,_,_,h5,_,h7,rs,F,_⟩:=hR.at_ k tr[k] hs;rw[h7] at h;by_cases hd:tr[k].turns b;·rw[(Stp.nextB_get F b).1 hd] at h;exact ⟨x,.inl rfl,.inr ⟨k,tr[k],by omega,by omega,hs,hd,h⟩⟩
    ·rw[(Stp.nextB_get F b).2 hd,h5] at h;obtain ⟨x1,hx1,hx2⟩:=yAT.1 h;obtain ⟨x0,hw,h⟩:=ih (by omega) (by omega) hx1;refine ⟨x0,(show WeakB x x1 from hx2▸WeakB.junk _ _).trans hw,?_⟩;rcases h with ⟨h,hn⟩|⟨j,s,q1,q2,q3⟩
     ·refine .inl ⟨h,λj s h1 h2 hj=>?_⟩;by_cases hjk:j=k;·subst hjk;rw[hs] at hj;cases hj;exact hd
      ·exact hn j s h1 (by omega) hj
     ·exact .inr ⟨j,s,q1,by omega,q3⟩
theorem ze0{s:Stp S}{i k:Nat}(h:k∈s.p.hits):k∈(s.rc i).hits:=by show k∈zcL _ _ _ _ _;unfold zcL;simp[h]
theorem zgI{s:Stp S}{i:Nat}{rs:List Rc}(F:StepF ops i s rs){b k:Nat}{x:Box S}(ht:s.turns b)(hb:zae s.b' b=some x)(h:k∈x.hits):k∈s.p.hits++zcf s.b' (s.f.foot++zcP s.bx.length (s.b'.drop s.bx.length))/\k∈(s.rc i).hits:=by
 have hlen:s.b0.length=s.bx.length:=zcZ _ _ _;have hm:b∈s.f.foot++zcP s.bx.length (s.b'.drop s.bx.length):=by
  rw[yAm,zew];rcases ht with ht|ht;·exact .inl ht
  ·right;rw[yA3];have:=F.grow;omega
 have:=zb7 hb h hm;refine ⟨yBQ _ this,?_⟩;show k∈zcL _ _ _ _ _;unfold zcL;rw[hlen];simp only[yAm] at this ⊢;exact .inr (.inr (.inr this))
theorem zmt{s:Stp S}{i t k:Nat}{q:PV S}(ht:t∈zbb s.o s.f)(hq:zan s.e t=some q)(h:k∈q.hits):k∈(s.rc i).hits:=by
 show k∈zcL _ _ _ _ _;unfold zcL;have:zan s.e0 t=some q:=by unfold Stp.e0;rw[zb9];simp[ht,hq]
 simp only[yAm];exact .inl (zb6 this h)
theorem zhd:∀(x:Box S),x.base.hits=x.hits| .lk b=>zhd b| .ro b=>zhd b| .var _ _=>rfl| .own _ _ _=>rfl| .wr _ _ _=>rfl| .nst _ _ _ _ _=>rfl| .omp _ _ _=>rfl| .fm _ _ _=>rfl| .itr _ _ _ _=>rfl| .gone=>rfl
theorem zl3(x:Box S):(zbj x.base).hits=x.hits:=by
 rw[<-zhd x];cases hx:x.base with
 |lk b=>exfalso;exact absurd hx (by intro h;exact base_ne x h)|ro b=>exfalso;exact absurd hx (by intro h;exact base_ne2 x h)|_=>rfl
where
 base_ne:∀(x:Box S){b:Box S},x.base= .lk b->False
  | .lk y,b,h=>base_ne y h| .ro y,b,h=>base_ne y h
 base_ne2:∀(x:Box S){b:Box S},x.base= .ro b->False
  | .lk y,b,h=>base_ne2 y h| .ro y,b,h=>base_ne2 y h
theorem zms{s:Stp S}{i b k:Nat}{x:Box S}(hfs:b∈s.f.foot\/b∈s.f.see)(hb:zae s.bx b=some x)(h:k∈x.hits):k∈(s.rc i).hits:=by
 show k∈zcL _ _ _ _ _;have hb0:∃y,zae s.b0 b=some y/\k∈y.hits:=by
  unfold Stp.b0;rw[zee,hb,yAH];cases hc:s.f.foot.contains b with
  |true=>exact ⟨x,rfl,h⟩|false =>
    have hs:s.f.see.contains b=true:=by
     rcases hfs with hf|hf;·simp[hf] at hc
     ·simpa using hf
    rw[hs];exact ⟨_,rfl,by show k∈(zbj x.base).hits;rw[zl3];exact h⟩
 obtain ⟨y,h1,h2⟩:=hb0;unfold zcL;simp only[yAm];exact .inr (.inl (zb7 h1 h2 (by simpa using hfs)))
theorem Read.hits_lt(hR:Read ops e bx tr ef bf):∀{k:Nat},k<=tr.length->(∀t q j,zan (ze8 tr ef k) t=some q->j∈q.hits->j<(zc5 tr bf k).length)/\∀b x j,zae (zc5 tr bf k) b=some x->j∈x.hits->j<(zc5 tr bf k).length:=by
 intro k hk;constructor
 ·intro t q j hq hj;obtain ⟨q0,hw,h⟩:=hR.slot_back (yAF k) hk hq;have hj:=hw.hits hj;rcases h with h|⟨i,s,_,hik,hs,_,rfl⟩
  ·rw[hR.e0] at h;have:=hR.start j (.inl (zb6 h hj));rw[<-hR.b0] at this;exact yAn this (hR.grow (yAF k) hk)
  ·obtain ⟨_,_,_,_,_,_,rs,F,_⟩:=hR.at_ i s hs;exact yAn (F.hits_lt j (ze0 (i:=i) hj)) (hR.made_lt hs hik hk)
 ·intro b x j hx hj;obtain ⟨x0,hw,h⟩:=hR.box_back (yAF k) hk hx;have hj:=hw.hits hj;rcases h with ⟨h,_⟩|⟨i,s,_,hik,hs,ht,hg⟩
  ·rw[hR.b0] at h;have:=hR.start j (.inr ⟨b,x0,h,hj⟩);rw[<-hR.b0] at this;exact yAn this (hR.grow (yAF k) hk)
  ·obtain ⟨_,_,_,_,_,_,rs,F,_⟩:=hR.at_ i s hs;exact yAn (F.hits_lt j (zgI F ht hg hj).2) (hR.made_lt hs hik hk)
end
end
end Pe
end
section
/- A region in any order, read in the text's order: one operation, between two states. -/
namespace Pe
open Go Go.RowKit
variable{S:Nat->Type}
section
variable{P:Program}{un:Uni S}{E:Wl.Ctx}{D0:Dat}{N:Wl.Fr}{D D':Dat}{H H':List Wl.Res}{a a':Act}{w w':World}{ops:Array Oper}
variable{e:Env S}{bx:Bxs S}{tr:List (Stp S)}{ef:Env S}{bf:Bxs S}
theorem BoxRep.plain{nu:Nu}{E':Wl.Ctx}{bx:Bxs S}{k:Nat}(hf:zgE bx k=true){b:Box S}(hb:zae bx k=some b){r:Wl.Res}(h:BoxRep un nu D w E false b r):BoxRep un nu D w E' false b r:=by
 unfold zgE at hf;rw[hb] at hf;cases b with
 |var T cs=>cases r<;>simp only[BoxRep] at h ⊢ <;>exact h|own u T l=>cases r<;>simp only[BoxRep] at h ⊢;exact h|wr u T l=>cases r<;>simp only[BoxRep] at h ⊢;exact h|nst u T T2 l hh=>cases r<;>simp only[BoxRep] at h ⊢;exact h|omp k v l=>cases r<;>simp only[BoxRep] at h ⊢;exact h|fm k v l=>cases r<;>simp only[BoxRep] at h ⊢;exact h|itr k v o p=>simp at hf|lk b=>simp at hf|ro b=>simp at hf|gone=>simp only[BoxRep]
structure Apart (s s':Stp S) (i j:Nat):Prop where
 foot:∀k∈s'.f.foot,k∉s.f.foot/\k∉s.f.see
 see:∀k∈s'.f.see,k∉s.f.foot
 made:∀k,k∈s'.f.foot\/k∈s'.f.see->¬(s.bx.length<=k/\k<s.b'.length)
 hits:∀k∈(s'.rc j).hits,¬(s.bx.length<=k/\k<s.b'.length)
 dead:∀k∈s'.f.dead,k∉(s.rc i).hits
 dead':∀k∈s.f.dead,k∉(s'.rc j).hits
theorem Read.apart(hR:Read ops e bx tr ef bf){i j:Nat}{s s':Stp S}(hij:i<j)(hi:tr[i]?=some s)(hj:tr[j]?=some s'):reachB ops i j=true\/Apart s s' i j:=by
 obtain ⟨_,_,_,_,_,_,rs,F,hrs⟩:=hR.at_ j s' hj;rcases F.rcs _ (hrs i s hij hi) with h|h;·exact .inl h
 ·obtain ⟨h1,h2,h3,h4,h5,h6⟩:=zmd h;exact .inr ⟨h1,h2,h3,h4,h5,h6⟩
theorem Read.turns_apart(hR:Read ops e bx tr ef bf){i j b:Nat}{s s':Stp S}(hij:i<j)(hi:tr[i]?=some s)(hj:tr[j]?=some s')(h:Apart s s' i j)(h1:s.turns b)(h2:s'.turns b):False:=by
 have hl:=hR.made_lt hi hij (yBo (hR.lt hj));rw[<-(hR.at_len hj).1] at hl;rcases h2 with h2|h2
 ·rcases h1 with h1|h1;·exact (h.foot b h2).1 h1
  ·exact h.made b (.inl h2) h1
 ·rcases h1 with h1|h1;·obtain ⟨_,_,_,_,_,_,rs,F,_⟩:=hR.at_ i s hi;have:=F.foot_lt b h1;have:=F.grow;omega
  ·omega
structure Mid (un:Uni S) (E:Wl.Ctx) (D0:Dat) (N:Wl.Fr) (tr:List (Stp S)) (ef:Env S) (bf:Bxs S) (X:Nat->Prop) (D:Dat) (H:List Wl.Res) (a:Act) (w:World):Prop where
 inn:In E D H w
 len:H.length=bf.length
 size:a.tmps.size=N.n
 defers:a.defers=N.ds/\TabE un E.w E.lent
 src:∀k o,D k o->D0 k o\/E.may k
 ge:Ge D0 E.w D w
 slots:∀(k t:Nat) q,k<=tr.length->(∀s,tr[k]?=some s->¬X k/\t∈zbb s.o s.f)->zan (ze8 tr ef k) t=some q->(∀(j:Nat) s,tr[j]?=some s->s.o.dst=some t->(j<k↔X j))->Rep un (ids H) D w q (a.tmps.getD t undef)
 boxes:∀(k b:Nat) x,k<=tr.length->(∀s,tr[k]?=some s->¬X k/\(b∈s.f.foot\/b∈s.f.see))->zae (zc5 tr bf k) b=some x->(∀(j:Nat) s,tr[j]?=some s->s.turns b->(j<k↔X j))->∃r,H[b]?=some r/\BoxRep un (ids H) D w E false x r
 pres:∀(j:Nat) s,tr[j]?=some s->X j->PresB s.b0 s.b'
theorem Mid.step(hun:UniOk un)(hfix:∀(i:Nat) v,zeF E.fix i=some v->i<bx.length)(hR:Read ops e bx tr ef bf){X:Nat->Prop}{i:Nat}{s:Stp S}
  (hX:∀j k,reachB ops j k=true->X k->X j) (hi:tr[i]?=some s) (hXi:¬X i) (hanc:∀j,j≠i->reachB ops j i=true->X j)
  (uniq:∀(j:Nat) s' t,tr[j]?=some s'->j≠i->s.o.dst=some t->s'.o.dst≠some t)
  (wr:∀t∈zdi s.o.op.operands.toList,∀(j:Nat) s',tr[j]?=some s'->j≠i->s'.o.dst=some t->(j<i->reachB ops j i=true)/\(i<j->reachB ops i j=true))
  (hm:Mid un E D0 N tr ef bf X D H a w) :
  St un (zej E.fix s.f.foot H w) N D (zex s.f.foot s.bx.length H) s.e0 s.b0 a w/\∀a' w',s.Post un (zej E.fix s.f.foot H w) D N (zex s.f.foot s.bx.length H) a' w'->(∀t,s.o.dst≠some t->a'.tmps.getD t undef=a.tmps.getD t undef) ->
   ∃D' H',Mid un E D0 N tr ef bf (λj=>X j\/j=i) D' H' a' w':=by
 obtain ⟨hoi,hgi,hse,hsb,hnE,hnB,rs,F,hrs⟩:=hR.at_ i s hi;have hil:=hR.lt hi;have hlen:s.bx.length<=H.length:=by have h1:=hR.grow (yBo hil) (yAl _);rw[hR.bfin,<-hsb] at h1;rw[hm.len];exact h1
 have hlen':s.b'.length<=H.length:=by have h1:=hR.made_lt hi hil (yAl _);rw[hR.bfin] at h1;rw[hm.len];exact h1
 have hme:∀s',tr[i]?=some s'->s'=s:=λs' h=>by rw[hi] at h;exact (yAy h).symm
 -- what it looks at
 have hsl:∀t q,zan s.e0 t=some q->Rep un (ids H) D w q (a.tmps.getD t undef):=λt q hq=>by
  unfold Stp.e0 at hq;rw[zb9] at hq;split at hq
  ·rename_i hc;have hc:t∈zbb s.o s.f:=by simpa using hc
   refine hm.slots i t q (yBo hil) (λs' h=>by rw[hme s' h];exact ⟨hXi,hc⟩) (by rw[<-hse];exact hq) λj s' hj hdj=>?_;obtain ⟨hoj,_⟩:=hR.at_ j s' hj;unfold zbb at hc;rcases yAm.1 hc with hc|hc
   ·constructor;·intro hji;exact hanc j (by omega) ((wr t hc j s' hj (by omega) hdj).1 hji)
    ·intro hXj;rcases yB7 j i with h|h|h;·exact h
     ·exact absurd (h▸hXj) hXi
     ·exact absurd (hX i j ((wr t hc j s' hj (by omega) hdj).2 h) hXj) hXi
   ·obtain ⟨h1,h2⟩:=F.pins t hc j s'.o hoj hdj;exact ⟨λ_=>hanc j (by omega) h2,λ_=>h1⟩
  ·cases hq
 have hbx:∀k b,k∈s.f.foot\/k∈s.f.see->zae s.bx k=some b->∃r,H[k]?=some r/\BoxRep un (ids H) D w E false b r:=λk b hk hb=>by
  refine hm.boxes i k b (yBo hil) (λs' h=>by rw[hme s' h];exact ⟨hXi,hk⟩) (by rw[<-hsb];exact hb) λj s' hj ht=>?_;have hkl:=zbZ hb;constructor
  ·intro hji;rcases hR.apart hji hj hi with h|h;·exact hanc j (by omega) h
   ·exfalso;rcases ht with ht|ht
    ·rcases hk with hk|hk;·exact (h.foot k hk).1 ht
     ·exact h.see k hk ht
    ·exact h.made k hk ht
  ·intro hXj;rcases yB7 j i with h|h|h;·exact h
   ·exact absurd (h▸hXj) hXi
   ·exfalso;rcases hR.apart h hi hj with h2|h2;·exact hXi (hX i j h2 hXj)
    ·rcases ht with ht|ht
     ·rcases hk with hk|hk;·exact (h2.foot k ht).1 hk
      ·exact (h2.foot k ht).2 hk
     ·have h3:=hR.made_lt hi h (yBo (hR.lt hj));rw[<-(hR.at_len hj).1] at h3;have:=F.grow;omega
 have st:=zoF hun F hm.inn hlen hm.size hm.defers hsl hbx;refine ⟨st,λa' w' hpost hoth=>?_⟩;obtain ⟨⟨D',H',st',hsrc,hge,hkp⟩,hpb⟩:=hpost;have hge:Ge D w D' w':=hge;have hH':H'.length=s.b'.length:=st'.boxes.length.symm;have hgrow:Wl.Grow (zbs s.f.foot H) w w':=st'.inn.out;have hfl:=F.foot_lt;have hpin0:=zkA F (H1:=zex s.f.foot s.bx.length H) (E1:=zej E.fix s.f.foot H w) (w:=w) rfl st st' hoth hkp;have hin:=In.merge (λj v hj ht=>by
  have hjb:j<s.bx.length:=by have h1:=hfix j v hj;rw[<-hR.b0] at h1;have h2:=hR.grow (yAF i) (yBo hil);rw[<-hsb] at h2;omega
  have hjf:j∈s.f.foot:=ht.resolve_right λh=>by omega
  obtain ⟨r,q1,q2,q3,q4⟩:=hm.inn.lent j v hj;obtain ⟨r',p1,p2,p3,p4⟩:=st'.inn.lent j v (zi7.2 ⟨hjf,hj⟩);exact ⟨r',p1,p2,p3,keptR.trans (hm.inn.res r (yAb q1)) (st'.inn.res r' (yAb p1)) q2 p2 (p3.trans q3.symm) q4 p4⟩) hfl F.grow hm.inn hlen' hH' st'.inn hsrc
 have hkept:=zjp (s:=s) hm.inn hgrow;have hpin:=zkA F (H1:=zex s.f.foot s.bx.length H) (E1:=zej E.fix s.f.foot H w) (w:=w) rfl st st' hoth hkp;have hpin':∀k∈zfu s.o s.f s.e0 s.b0 s.e' s.b',k<s.bx.length->(ids H')[k]?=(ids H)[k]? :=λk hk hlt=>(hpin k hk).trans (zgJ hlt);have newin:∀{k},s.turns k->(zj5 s H H')[k]?=H'[k]? :=λ{k} hk=>by
  have:k<s.b'.length:=by
   rcases hk with hk|hk;·have:=hfl k hk;have:=F.grow;omega
   ·exact hk.2
  exact zj4 hk (by omega) (by omega)
 have idsin:∀{k},s.turns k->(ids (zj5 s H H'))[k]?=(ids H')[k]? :=λ{k} hk=>by simp only[ids,yAg,newin hk]
 have idsout:∀{k},¬s.turns k->(ids (zj5 s H H'))[k]?=(ids H)[k]? :=λ{k} hk=>by simp only[ids,yAg,zgh hk]
 have factA:∀k,k∈s.p.hits++zcf s.b' (s.f.foot++zcP s.bx.length (s.b'.drop s.bx.length))->k<s.b'.length->(ids (zj5 s H H'))[k]?=(ids H')[k]? :=λk hk hkl=>by
  by_cases ht:s.turns k;·exact idsin ht
  ·have hlt:k<s.bx.length:=Nat.lt_of_not_le λh=>ht (.inr ⟨h,hkl⟩);rcases F.named k hk with h|h|h;·exact absurd (.inl h) ht
   ·omega
   ·rw[idsout ht,hpin' k h hlt]
 have factB:∀k,k∉s.f.dead->¬(s.bx.length<=k/\k<s.b'.length)->(ids (zj5 s H H'))[k]?=(ids H)[k]? :=λk hk hn=>by
  by_cases ht:s.turns k
  ·rcases ht with ht|ht;·rw[idsin (.inl ht),hpin' k (F.live k ht hk) (hfl k ht)]
   ·exact absurd ht hn
  ·exact idsout ht
 refine ⟨D',zj5 s H H',hin,by rw[zj3];exact hm.len,st'.size,⟨st'.defers.1,hm.defers.2⟩,λk o h=>?_,hm.ge.trans hge,λk t q hk hC hq hW=>?_,λk b x hk hC hx hW=>?_,λj s' hj hXj=>?_⟩
 ·rcases hsrc k o h with h|h;·exact hm.src k o h
  ·exact .inr (zi6 hm.inn h)
 ·-- slots
  have hki:k≠i:=λh=>by subst h;exact (hC s hi).1 (.inr rfl)
  by_cases hdt:s.o.dst=some t
  ·have hik:i<k:=(hW i s hi hdt).2 (.inr rfl);have hqp:Weak q s.p:=by
    obtain ⟨q0,hw,h⟩:=hR.slot_back (m:=i+1) hik hk hq;rcases h with h|⟨j,s',h1,h2,h3,h4,h5⟩
    ·rw[hnE] at h;unfold Stp.nextE at h;rw[hdt] at h;have:s.p=q0:=by simpa[push,zan] using h
     rw[this];exact hw
    ·exact absurd h4 (uniq j s' t h3 (by omega) hdt)
   refine hqp.rep ?_;·have hr:Rep un (ids H') D' w' s.p (a'.tmps.getD t undef):=st'.slots t s.p (by rw[hdt];simp[push,zan]);exact Rep.on _ _ (λj hj=>factA j (by simp[hj]) (F.hits_lt j (ze0 (i:=i) hj))) hr
  ·rw[hoth t hdt];have hold:=hm.slots k t q hk (λs' h=>⟨λh'=>(hC s' h).1 (.inl h'),(hC s' h).2⟩) hq λj s' hj hdj=>by
    have hji:j≠i:=λh=>by subst h;rw[hi] at hj;cases hj;exact hdt hdj
    have:=hW j s' hj hdj;exact ⟨λh=>(this.1 h).resolve_right hji,λh=>this.2 (.inl h)⟩
   have hold:=hold.ge hge (λ_ _ h=>h);have hfin:(∀j∈q.hits,j∉s.f.dead/\¬(s.bx.length<=j/\j<s.b'.length))->Rep un (ids (zj5 s H H')) D' w' q (a.tmps.getD t undef):=λh=>Rep.on _ _ (λj hj=>factB j (h j hj).1 (h j hj).2) hold;refine hfin λj hj=>?_;rcases yBK hki with hki|hik
   ·-- k goes first in the text
    have hkl:k<tr.length:=(by omega);have hs':tr[k]?=some tr[k]:=(by simp[hkl]);obtain ⟨_,_,hke,_⟩:=hR.at_ k _ hs';have hjh:j∈(tr[k].rc k).hits:=zmt (hC _ hs').2 (by rw[hke];exact hq) hj;obtain ⟨_,_,_,_,_,_,rs',F',_⟩:=hR.at_ k _ hs';have h2:=F'.hits_lt j hjh;have h3:=hR.made_lt hs' hki (yBo hil);rw[<-hsb] at h3;refine ⟨λhjd=>?_,by omega⟩;rcases hR.apart hki hs' hi with h|h;·exact (hC _ hs').1 (.inl (hanc k (by omega) h))
    ·exact h.dead j hjd hjh
   ·obtain ⟨q0,hw,h⟩:=hR.slot_back (m:=i+1) hik hk hq;have hj:=hw.hits hj;rcases h with h|⟨m,s',h1,h2,h3,h4,h5⟩
    ·rw[hnE] at h;obtain ⟨q1,hw1,h,h'⟩:=zhA hdt h;refine ⟨λhjd=>F.dead_env j hjd (zb6 h' hj),?_⟩;have:=(hR.hits_lt (yBo hil)).1 t q1 j (by rw[<-hse];exact h) (hw1.hits hj);rw[<-hsb] at this;omega
    ·subst h5;have hXm:X m:=((hW m s' h3 h4).1 h2).resolve_right (by omega);rcases hR.apart (by omega) hi h3 with h|h;·exact absurd (hX i m h hXm) hXi
     ·exact ⟨λhjd=>h.dead' j hjd (ze0 hj),h.hits j (ze0 hj)⟩
 ·-- boxes
  have hki:k≠i:=λh=>by subst h;exact (hC s hi).1 (.inr rfl)
  by_cases ht:s.turns b
  ·have hik:i<k:=(hW i s hi ht).2 (.inr rfl);obtain ⟨x0,hwk,hx1⟩:=hR.box_back (m:=i+1) hik hk hx;have hx':zae s.b' b=some x0:=by
    rcases hx1 with ⟨h,_⟩|⟨j,s',h1,h2,h3,h4,_⟩;·rw[hnB,(Stp.nextB_get F b).1 ht] at h;exact h
    ·exfalso;have hXj:X j:=((hW j s' h3 h4).1 h2).resolve_right (by omega);rcases hR.apart (by omega) hi h3 with h|h;·exact hXi (hX i j h hXj)
     ·exact hR.turns_apart (by omega) hi h3 h ht h4
   obtain ⟨r,h1,h2⟩:=st'.boxes.get hx';refine ⟨r,by rw[newin ht];exact h1,?_⟩;have hpl:zgE s.b' b=true:=by
    refine F.plain b ?_;rw[yAm,zew,yA3];rcases ht with ht|ht;·exact .inl ht
    ·have:=F.grow;right;omega
   refine hwk.rep ?_;refine BoxRep.on (λj hj=>?_) (h2.plain hpl hx');have:=zgI (i:=i) F ht hx' hj;exact factA j this.1 (F.hits_lt j this.2)
  ·obtain ⟨r,h1,h2⟩:=hm.boxes k b x hk (λs' h=>⟨λh'=>(hC s' h).1 (.inl h'),(hC s' h).2⟩) hx λj s' hj htj=>by
    have hji:j≠i:=λh=>by subst h;rw[hi] at hj;cases hj;exact ht htj
    have:=hW j s' hj htj;exact ⟨λh=>(this.1 h).resolve_right hji,λh=>this.2 (.inl h)⟩
   refine ⟨r,by rw[zgh ht];exact h1,BoxRep.on (λj hj=>?_) (BoxRep.mono hge hkept (λ_ _ h=>h) h2)⟩;refine (λ(h:j∉s.f.dead/\¬(s.bx.length<=j/\j<s.b'.length))=>factB j h.1 h.2) ?_;rcases yBK hki with hki|hik
   ·have hkl:k<tr.length:=(by omega);have hs':tr[k]?=some tr[k]:=(by simp[hkl]);obtain ⟨_,_,_,hkb,_,_,rs',F',_⟩:=hR.at_ k _ hs';have hjh:j∈(tr[k].rc k).hits:=zms (hC _ hs').2 (by rw[hkb];exact hx) hj;have h2:=F'.hits_lt j hjh;have h3:=hR.made_lt hs' hki (yBo hil);rw[<-hsb] at h3;refine ⟨λhjd=>?_,by omega⟩;rcases hR.apart hki hs' hi with h|h;·exact (hC _ hs').1 (.inl (hanc k (by omega) h))
    ·exact h.dead j hjd hjh
   ·obtain ⟨x0,hwk,hx1⟩:=hR.box_back (m:=i+1) hik hk hx;have hj:=hwk.hits hj;rcases hx1 with ⟨h,_⟩|⟨m,s',h1,h2,h3,h4,h5⟩
    ·rw[hnB,(Stp.nextB_get F b).2 ht] at h;obtain ⟨x1,hx1,hx2⟩:=yAT.1 h;rw[<-hx2] at hj;have hlt:=(hR.hits_lt (yBo hil)).2 b x1 j (by rw[<-hsb];exact hx1) ((WeakB.junk _ _).hits hj);rw[<-hsb] at hlt;exact ⟨λhjd=>F.dead_box j hjd b x1 (λhf=>ht (.inl hf)) hx1 hj,by omega⟩
    ·have hmi:m≠i:=λh=>by subst h;rw[hi] at h3;cases h3;exact ht h4
     have hXm:X m:=((hW m s' h3 h4).1 h2).resolve_right hmi;obtain ⟨_,_,_,_,_,_,rs',F',_⟩:=hR.at_ m s' h3;rcases hR.apart (by omega) hi h3 with h|h;·exact absurd (hX i m h hXm) hXi
     ·have:=(zgI (i:=m) F' h4 h5 hj).2;exact ⟨λhjd=>h.dead' j hjd this,h.hits j this⟩
 ·rcases hXj with hXj|hXj;·exact hm.pres j s' hj hXj
  ·subst hXj;rw[hi] at hj;cases hj;exact hpb
end
end Pe
end
section
/- A region in any order, read in the text's order. -/
namespace Pe
open Go Go.RowKit
variable{S:Nat->Type}
section
variable{P:Program}{un:Uni S}{tb:Tb S}{orc:Orc S}{inl:Inl S}{E:Wl.Ctx}{D0:Dat}{N:Wl.Fr}{D D':Dat}{H H':List Wl.Res}{a a':Act}{w w':World}{ops:Array Oper}{R:Type}{r:R}{Q:Exit->Act->World->Prop}
variable{e:Env S}{bx:Bxs S}{tr:List (Stp S)}{ef:Env S}{bf:Bxs S}
theorem Mid.congr{X Y:Nat->Prop}(h:∀j,X j↔Y j)(hm:Mid un E D0 N tr ef bf X D H a w):Mid un E D0 N tr ef bf Y D H a w:=by have:X=Y:=funext λj=>propext (h j);subst this;exact hm
theorem Read.pres(hR:Read ops e bx tr ef bf):∀{k:Nat},k<=tr.length->Pres (zbd ops.toList) e (ze8 tr ef k)
 |0,_=>by rw[hR.e0];exact Pres.refl _ _
 |k+1,hk=>λt p ht hp hr=>by have h:=hR.pres (k:=k) (by omega) t p ht hp hr;have hs:tr[k]?=some (tr[k]'(by omega)):=(by simp[show k<tr.length by omega]);obtain ⟨h1,_,h4,_,h6,_⟩:=hR.at_ k _ hs;rw[h6];unfold Stp.nextE;rw[zaC λhc=>ht (zbB.2 ⟨k,_,by simpa using h1,hc⟩),zfA,h4,h];simp only[yAf,yAe];exact zid _ hr
theorem CPres.junkA(dead:List Nat):∀(b:Box S),CPres b (b.junkA dead)
 | .var T cs=>⟨rfl,by simp,λj p hp hr _=>by
   have:PV.junk1 dead p=p:=by unfold PV.junk1;rw[show dead.any (λb=>p.says b)=false from yBt.2 λb _=>by rw[zcl b p hr];simp];rfl
   simp[yAg,hp,this]⟩
 | .lk b=>CPres.refl b| .ro b=>CPres.refl b| .own _ _ _=>rfl| .wr _ _ _=>rfl| .nst _ _ _ _ _=>rfl| .omp _ _ _=>rfl| .fm _ _ _=>rfl| .itr _ _ _ _=>rfl| .gone=>trivial
theorem Read.presB(hR:Read ops e bx tr ef bf)(hp:∀(j:Nat) s,tr[j]?=some s->s.f.foot=[]\/PresB s.b0 s.b'):∀{k:Nat},k<=tr.length->PresB bx (zc5 tr bf k)
 |0,_=>by rw[hR.b0];exact PresB.refl _
 |k+1,hk=>by
   refine (hR.presB hp (k:=k) (by omega)).trans ?_;have hs:tr[k]?=some (tr[k]'(by omega)):=by simp[show k<tr.length by omega]
   obtain ⟨_,_,_,h5,_,h7,rs,F,_⟩:=hR.at_ k _ hs;have hpk:=hp k _ hs;generalize tr[k]'(by omega)=s at *
   rw[h7,<-h5];have same:∀{i b},zae s.bx i=some b->i∉s.f.foot->zae s.nextB i=some (b.junkA s.f.dead):=λ{i b} hb hi=>by
    rw[(Stp.nextB_get F i).2 λht=>?_];·rw[hb];rfl
    ·rcases ht with ht|ht;·exact hi ht
     ·have:=zbZ hb;omega
   refine ⟨by rw[Stp.nextB_len F];exact F.grow,λi b hb hf=>⟨_,same hb λhi=>?_,CPres.junkA s.f.dead b⟩,λi T cs hb=>?_⟩;·have:=F.foot_ok i hi;unfold zjq at this;rw[hb] at this;cases b<;>simp[fixed] at hf<;>simp at this
   ·by_cases hi:i∈s.f.foot
    ·have hb0:zae s.b0 i=some (.var T cs):=by
      unfold Stp.b0;rw[zee,hb,yAH];simp[hi]
     obtain ⟨cs',h1,h2⟩:=(hpk.resolve_left λh=>by rw[h] at hi;simp at hi).var i T cs hb0;exact ⟨cs',by rw[(Stp.nextB_get F i).1 (.inl hi)];exact h1,h2⟩
    ·exact ⟨_,same hb hi,by simp⟩
theorem Mid.start(hR:Read ops e bx tr ef bf)(hs:Holds un E D0 N e bx a w):∃D H,Mid un E D0 N tr ef bf (λ_=>False) D H a w:=by
 obtain ⟨D,H0,hs,hD,hG⟩:=hs;have hl0:H0.length=bx.length:=hs.boxes.length.symm;have hbl:bx.length<=bf.length:=by have:=hR.grow (yAF _) (yAl _);rwa[hR.b0,hR.bfin] at this
 let dm:Wl.Res:= .ref (false,undef)
 let H:=H0++List.replicate (bf.length - bx.length) dm
 have hget:∀(k:Nat) r,H[k]?=some r->H0[k]?=some r\/r=dm:=λk r h=>by
  rcases yAR k H0.length with h1|h1;·rw[yAi h1] at h;exact .inl h
  ·rw[yAz h1] at h;exact .inr (List.eq_of_mem_replicate (yAb h))
 have hids:∀k,k<bx.length->(ids H)[k]?=(ids H0)[k]? :=λk hk=>by simp only[ids,yAg];rw[yAi (by omega)]
 have hin:In E D H w:=by
  refine ⟨hs.inn.out,hs.inn.lt,λr hr=>?_,λr hr g hg o hf hd=>?_,zcM λi j r t hij hi hj=>?_,λi v hi=>?_⟩
  ·obtain ⟨k,hk⟩:=yAj hr;rcases hget k r hk with h|rfl;·exact hs.inn.res r (yAb h)
   ·trivial
  ·obtain ⟨k,hk⟩:=yAj hr;rcases hget k r hk with h|rfl;·exact hs.inn.apart r (yAb h) g hg o hf hd
   ·exact hg.elim
  ·rcases hget i r hi with h|rfl
   ·rcases hget j t hj with h' | rfl;·exact hs.inn.disjAt hij h h'
    ·exact λg _ h=>h.elim
   ·exact λg h _=>h.elim
  ·obtain ⟨r,h1,h2⟩:=hs.inn.lent i v hi;exact ⟨r,by rw[yAi (yAc.1 h1).1];exact h1,h2⟩
 refine ⟨D,H,hin,?_,hs.size,hs.defers,hD,hG,λk t q hk _ hq hW=>?_,λk b x hk _ hx hW=>?_,λ_ _ _ h=>h.elim⟩;·simp only[H,yAD,yBP];omega
 ·obtain ⟨q0,hw,h⟩:=hR.slot_back (yAF k) hk hq;refine hw.rep ?_;rcases h with h|⟨j,s,_,h2,h3,h4,_⟩
  ·rw[hR.e0] at h;exact Rep.on _ _ (λj hj=>hids j (hR.start j (.inl (zb6 h hj)))) (hs.slots t q0 h)
  ·exact ((hW j s h3 h4).1 h2).elim
 ·obtain ⟨x0,hwk,h⟩:=hR.box_back (yAF k) hk hx;rcases h with ⟨h,_⟩|⟨j,s,_,h2,h3,h4,_⟩
  ·rw[hR.b0] at h;obtain ⟨r,h1,h2⟩:=hs.boxes.get h;have hb:=zbZ h;refine ⟨r,?_,hwk.rep <| BoxRep.on (λj hj=>hids j (hR.start j (.inr ⟨b,x0,h,hj⟩))) h2⟩;show H[b]?=some r;rw[yAi (by omega)];exact h1
  ·exact ((hW j s h3 h4).1 h2).elim
theorem Mid.done(hR:Read ops e bx tr ef bf){X:Nat->Prop}(hX:∀j,j<tr.length->X j)(hm:Mid un E D0 N tr ef bf X D H a w):Holds un E D0 N ef bf a w/\PresB bx bf:=by
 have none:∀s,tr[tr.length]?=some s->False:=λs h=>by simp at h
 refine ⟨⟨D,H,⟨hm.inn,hm.size,hm.defers,BxRep.of_get hm.len.symm λk b r hb hr=>?_,λt q hq=>?_⟩,hm.src,hm.ge⟩,?_⟩;·obtain ⟨r',h1,h2⟩:=hm.boxes tr.length k b (yAl _) (λs h=>(none s h).elim) (by rw[hR.bfin];exact hb) λj s hj _=>⟨λh=>hX j h,λ_=>hR.lt hj⟩;rw[h1] at hr;cases hr;exact h2
 ·exact hm.slots tr.length t q (yAl _) (λs h=>(none s h).elim) (by rw[hR.efin];exact hq) λj s hj _=>⟨λh=>hX j h,λ_=>hR.lt hj⟩
 ·have:=hR.presB (λj s hj=>.inr (hm.pres j s hj (hX j (hR.lt hj)))) (yAl tr.length);rwa[hR.bfin] at this
theorem Mid.stop(hR:Read ops e bx tr ef bf){X:Nat->Prop}{n:Nat}(hn:tr.length=n+1)(hXn:X n)(hf:∀(j:Nat) s,j<n->tr[j]?=some s->s.f.foot=[]/\s.bx.length=s.b'.length)(hm:Mid un E D0 N tr ef bf X D H a w) :
  Holds un E D0 N (zbv (zbd ops.toList) ef) bf a w/\PresB bx bf:=by
 have none:∀s,tr[tr.length]?=some s->False:=λs h=>by simp at h
 refine ⟨⟨D,H,⟨hm.inn,hm.size,hm.defers,BxRep.of_get hm.len.symm λk b r hb hr=>?_,λt q hq=>?_⟩,hm.src,hm.ge⟩,?_⟩
 ·obtain ⟨r',h1,h2⟩:=hm.boxes tr.length k b (yAl _) (λs h=>(none s h).elim) (by rw[hR.bfin];exact hb) λj s hj ht=>by
   by_cases hjn:j=n;·subst hjn;exact ⟨λ_=>hXn,λ_=>hR.lt hj⟩
   ·have hl:=hR.lt hj;obtain ⟨g1,g2⟩:=hf j s (by omega) hj;rcases ht with ht|ht;·rw[g1] at ht;simp at ht
    ·omega
  rw[h1] at hr;cases hr;exact h2
 ·rw[zaU] at hq;split at hq;·cases hq
  ·rename_i ht;exact hm.slots tr.length t q (yAl _) (λs h=>(none s h).elim) (by rw[hR.efin];exact hq) λj s hj hd=>by obtain ⟨h1,_⟩:=hR.at_ j s hj;exact (ht (zbB.2 ⟨j,_,by simpa using h1,hd⟩)).elim
 ·have:=hR.presB (λj s hj=>by
   by_cases hjn:j=n;·subst hjn;exact .inr (hm.pres j s hj hXn)
   ·have hl:=hR.lt hj;exact .inl (hf j s (by omega) hj).1) (yAl tr.length)
  rwa[hR.bfin] at this
theorem zj9{i:Nat}{rs:List Rc}(h:zkQ ops i rs=true):(∀q∈rs,q.f.foot=[]/\q.lo=q.hi)/\∀j,j<ops.size->j<=i\/reachB ops i j=true:=by
 unfold zkQ at h;simp only[yAd,yAO,yBs] at h;refine ⟨λq hq=>?_,λj hj=>?_⟩;·have:=h.1 q hq;exact ⟨by simpa using this.1,yAa this.2⟩
 ·exact (h.2 j (by simpa using hj)).imp_left (by simp[yAP])
theorem zpD(hmix:P.follows .mixedOrders=true)(hun:UniOk un)(ht:TbOk P un tb)(hor:SoundO P un orc)(hin:SoundI P un inl){id:Nat}{fps:List Fp}{K:Exit->Env S->Bxs S->Option R}
  (hord:zdX ops.toList=true) (hst:zhW e bx=true) (h:zjv un tb orc inl ops K fps 0 [] e bx=some r)
  (hd:∀o∈ops.toList,∀d,o.dst=some d->d<N.n) (hs:Holds un E D0 N e bx a { w with drawn:=w.drawn+1 })
  (hk:∀x e' bx',K x e' bx'=some r->Pres (zbd ops.toList) e e'->PresB bx bx'->∀a' w',Holds un E D0 N e' bx' a' w'->Q x a' w'):(Code.region id ops true).wp P Q a w:=by
 have hfix:∀(i:Nat) v,zeF E.fix i=some v->i<bx.length:=λi v hi=>by obtain ⟨D,H,hs,_⟩:=hs;obtain ⟨r,h1,_⟩:=hs.inn.lent i v hi;rw[hs.boxes.length];exact (yAc.1 h1).1
 obtain ⟨tr,ef,bf,hch,hE⟩:=zeH hun ht hor hin fps 0 [] e bx h;have hR:=Read.of hst hch;have hpres:Pres (zbd ops.toList) e ef:=by have hp:=hR.pres (yAl tr.length);rwa[hR.efin] at hp
 obtain ⟨m,hOk,hFin,hPan⟩:∃m,(∀(j:Nat) s,tr[j]?=some s->j<m->s.Ok P un)/\(ops.size<=m->tr.length=ops.size/\K .normal ef bf=some r) /\
   ∀i,i<ops.size->m<=i->(i=m\/reachB ops m i=true)/\tr.length=m+1/\∃s x,tr[m]?=some s/\s.Pan P un x/\K x (zbv (zbd ops.toList) ef) bf=some r/\∀(j:Nat) s',j<m->tr[j]?=some s'->s'.f.foot=[]/\s'.bx.length=s'.b'.length:=by
  rcases hE with ⟨h1,h2,h3⟩|⟨t0,s1,x,rs',h1,h2,h3,h4,h5,_,h7⟩;·exact ⟨ops.size,λj s hj _=>h2 s (yAb hj),λ_=>⟨by omega,h3⟩,λi h4 h5=>by omega⟩
  ·rw[yAH] at h5;obtain ⟨g1,g2⟩:=zj9 h5;have hl:tr.length=t0.length+1:=by rw[h1];simp
   have hlast:tr[t0.length]?=some s1:=(by rw[h1];simp);have hsz:t0.length<ops.size:=(by obtain ⟨q,_⟩:=hR.at_ _ _ hlast;exact (yAq.1 q).1);have get:∀(j:Nat) s,j<t0.length->tr[j]?=some s->t0[j]?=some s:=λj s hj hs=>by rw[h1,yAi hj] at hs;exact hs
   refine ⟨t0.length,λj s hj hlt=>h2 s (yAb (get j s hlt hj)),λh=>by omega,λi hi hmi=>⟨?_,hl,s1,x,hlast,h3,h4,λj s' hj hs'=>?_⟩⟩
   ·rcases g2 i hi with h|h;·exact .inl (by omega)
    ·exact .inr h
   ·have:=h7 j s' (get j s' hj hs');rw[yAH] at this;exact g1 _ this
 obtain ⟨hback,hpair⟩:=zfY hord;have hlist:∀{i:Nat}{o:Oper},ops[i]?=some o->ops.toList[i]?=some o:=λh=>by simpa using h
 have hget:∀{i:Nat}{o:Oper},ops[i]?=some o->i<ops.size:=λh=>(yAq.1 h).1;have hmem:∀{i:Nat}{o:Oper},ops[i]?=some o->o∈ops.toList:=λh=>yAb (hlist h);have hedge:∀{i j:Nat},zed ops.toList i j=true->zjy ops i j=true:=λ{i j} h=>by
  unfold zed at h;unfold zjy;rw[Array.getElem?_toList] at h;cases hj:ops[j]? with
  |none=>rw[hj] at h;cases h|some o=>rw[hj] at h;exact h
 refine wp_region_any hmix ?_;have hinb:∀{listed:Array Bool}{i:Nat},listed.size=ops.size->i<ops.size->listed.getD i true=listed.getD i false:=λ{listed i} hsz hi=>by simp[yAs,hsz,hi]
 have noready:∀(listed:Array Bool),listed.size=ops.size->Region.ready .any ops listed=[]->∀i,i<ops.size->listed.getD i false=true:=by
  intro listed hsz hr i hi;cases hb:listed.getD i false with
  |true=>rfl|false =>obtain ⟨k,h1,h2,h3⟩:=zpL (p:=λi=>listed.getD i false=false) ops.size ⟨i,hi,hb⟩;have:k∈Region.ready .any ops listed:=zb4.2 ⟨h1,by rw[hinb hsz h1];exact h2,ops[k],by simp[h1],λx hx hbx=>by have hlt:=hback k ops[k] (by simp[h1]) x hx hbx;simpa using h3 _ hlt⟩;rw[hr] at this;cases this
 have key:∀(fuel:Nat)(listed:Array Bool)(a:Act)(w:World)(D:Dat)(H:List Wl.Res),listed.size=ops.size->unl ops.size listed<=fuel->(∀j,listed.getD j false=true->j<m)->(∀k j,zjy ops k j=true->listed.getD j false=true->listed.getD k false=true) ->
   Mid un E D0 N tr ef bf (λj=>listed.getD j false=true) D H a w->wpAny P .any ops Q fuel listed a w:=by
  intro fuel;have fin:∀{listed:Array Bool}{a:Act}{w:World}{D:Dat}{H:List Wl.Res},listed.size=ops.size->Region.ready .any ops listed=[]->(∀j,listed.getD j false=true->j<m)->Mid un E D0 N tr ef bf (λj=>listed.getD j false=true) D H a w->Q .normal a w:=by intro listed a w D H hsz hr hlm hm;have hall:=noready listed hsz hr;have hsm:ops.size<=m:=Nat.le_of_not_lt λh=>Nat.lt_irrefl m (hlm m (hall m h));obtain ⟨hlen,hK⟩:=hFin hsm;obtain ⟨h1,h2⟩:=hm.done hR λj hj=>hall j (by rw[<-hlen];exact hj);exact hk _ ef bf hK hpres h2 a w h1
  induction fuel with
  |zero =>
    intro listed a w D H hsz hf hlm hcl hm;have hr:Region.ready .any ops listed=[]:=by
     apply List.eq_nil_iff_forall_not_mem.2;intro i hi;obtain ⟨g1,g2,_⟩:=zb4.1 hi;have:i∈(List.range ops.size).filter λi=> !listed.getD i true:=by simp only[yB0,yBm];exact ⟨g1,by rw[g2];rfl⟩
     have h0:((List.range ops.size).filter λi=> !listed.getD i true)=[]:=yAL.1 (Nat.le_zero.1 hf);rw[h0] at this;cases this
    exact ⟨hr,fin hsz hr hlm hm⟩
  |succ fuel ih =>
    intro listed a w D H hsz hf hlm hcl hm;refine ⟨λhr=>fin hsz hr hlm hm,λi hi=>?_⟩;obtain ⟨g1,g2,o,g3,g4⟩:=zb4.1 hi;have g2':listed.getD i false=false:=by rw[<-hinb hsz g1];exact g2
    have hset:∀j,(listed.setIfInBounds i true).getD j false=if j=i then true else listed.getD j false:=λj=>by
     simp only[yAs,yAJ];by_cases hji:i=j;·subst hji;simp[hsz,g1]
     ·rw[if_neg hji,if_neg (Ne.symm hji)]
    have hunl:unl ops.size (listed.setIfInBounds i true)<=fuel:=by
     have:unl ops.size (listed.setIfInBounds i true)<unl ops.size listed:=by
      unfold unl;refine zgU (λj hj=>?_) (yBm.2 g1) (by rw[g2];rfl) ?_
      ·simp only[yAs,yAJ] at hj ⊢;split at hj;·split at hj<;>simp at hj
       ·exact hj
      ·simp[yAs,hsz,g1]
     omega
    have hready:∀k,zjy ops k i=true->listed.getD k false=true:=λk hk=>by obtain ⟨o3,k1,x',k2,k3,k4⟩:=ze9 hk;rw[g3] at k1;cases k1;rw[<-k4];exact g4 x' k2 k3
    have hcl':∀k j,zjy ops k j=true->(listed.setIfInBounds i true).getD j false=true->(listed.setIfInBounds i true).getD k false=true:=λk j hkj hj=>by
     rw[hset] at hj ⊢;split;·rfl
     ·split at hj;·rename_i hji;subst hji;exact hready k hkj
      ·exact hcl k j hkj hj
    have reachX:∀j k,reachB ops j k=true->listed.getD k false=true->listed.getD j false=true:=λj k h hk=>by
     unfold reachB at h;exact zdo hcl (l:=List.range ops.size) (acc:=[j]) (λq hq hl=>by
      have:q=j:=by simpa using hq
      rw[<-this];exact hl) k (by simpa using h) hk
    have hanc:∀j,j≠i->reachB ops j i=true->listed.getD j false=true:=λj hj h=>by
     unfold reachB at h;rcases zdp (i:=j) (l:=List.range ops.size) (acc:=[j]) (λz hz=>.inl (by simpa using hz)) i (by simpa using h) with h2|⟨k,h2,h3⟩;·exact absurd h2.symm hj
     ·exact reachX j k (by unfold reachB;simpa using h2) (hready k h3)
    have htl:i<tr.length:=by
     rcases yAR i m with h|h
     ·rcases yAR m ops.size with h' | h';·have:=(hPan m h' (yAl _)).2.1;omega
      ·rw[(hFin h').1];exact g1
     ·obtain ⟨q1,q2,_⟩:=hPan i g1 h;rcases q1 with q1|q1;·omega
      ·by_cases hmi:m=i;·omega
       ·have:=hlm m (hanc m hmi q1);omega
    have hs:tr[i]?=some tr[i]:=(by simp[htl]);obtain ⟨hoi,hgi,_⟩:=hR.at_ i _ hs;generalize hx:tr[i]=s at hs hoi hgi;rw[g3] at hoi;have hoi:o=s.o:=yAy hoi;subst hoi;unfold wpOp;rw[g3];simp only;obtain ⟨hpre,hnext⟩:=hm.step (i:=i) (s:=s) hun hfix hR reachX hs (by rw[g2'];simp) hanc (λj s' t hj hji hd1 hd2=>by
     obtain ⟨hoj,_⟩:=hR.at_ j s' hj;exact (hpair i j s.o s'.o (hlist g3) (hlist hoj) (Ne.symm hji) t hd1).1 hd2) λt htm j s' hj hji hdj=>by
     obtain ⟨hoj,_⟩:=hR.at_ j s' hj;rcases (hpair j i s'.o s.o (hlist hoj) (hlist g3) hji t hdj).2 (zhX htm) with ⟨h1,h2⟩|⟨h1,h2⟩;·exact ⟨λ_=>zhw (hedge h2) g1,λh=>by omega⟩
     ·exact ⟨λh=>by omega,λ_=>zhw (hedge h2) (hget hoj)⟩
    have hwant:Region.wanted s.o (yielded ops a.tmps)=s.go:=by
     have hH:Holds un (zej E.fix s.f.foot H w) D N s.e0 s.b0 a w:=⟨D,_,hpre,λk o h=>.inl h,Ge.refl _ _⟩;have hlk:∀{d:Nat}{q:PV S},d∈s.f.pins->zan s.e d=some q->zan s.e0 d=some q:=λ{d q} hd hq=>by unfold Stp.e0;rw[zb9,if_pos (by simp[zbb,hd])];exact hq
     rcases hgi with ⟨h1,h2⟩|⟨d,want,h1,h2,h3⟩;·rw[h2];simp[Region.wanted,h1]
     ·rcases h3 with ⟨h3,h4⟩|⟨h3,h4⟩;·rw[h3];simpa using zd6 h1 hH (hlk h2 h4)
      ·rw[h3];simpa using zdO h1 hH (h4.imp (hlk h2) (hlk h2))
    have hcont:∀a' w',s.Post un (zej E.fix s.f.foot H w) D N (zex s.f.foot s.bx.length H) a' w'->(∀t,s.o.dst≠some t->a'.tmps.getD t undef=a.tmps.getD t undef)->i<m->wpAny P .any ops Q fuel (listed.setIfInBounds i true) a' w':=λa' w' hp1 hp2 him=>by
     obtain ⟨D',H',hm'⟩:=hnext a' w' hp1 hp2;refine ih _ a' w' D' H' (by simpa using hsz) hunl (λj hj=>?_) hcl' (hm'.congr λj=>?_)
     ·rw[hset] at hj;split at hj;·omega
      ·exact hlm j hj
     ·rw[hset];by_cases hji:j=i;·simp[hji]
      ·simp[hji]
    rw[hwant];rcases yAR i m with him|him
    ·have hok:=hOk i s hs him (zej E.fix s.f.foot H w) D N a w Q D _ (hd s.o (hmem g3)) hpre (λk o h=>.inl h) (Ge.refl _ _);unfold Stp.wp at hok;cases hgo:s.go with
     |true =>rw[hgo,if_pos rfl] at hok;rw[if_pos rfl];left;exact Oper.wp_mono (λa' w' hpost=>hcont a' w' hpost.1 hpost.2 him) (zlW hok)|false =>rw[hgo,if_neg (by simp)] at hok;rw[if_neg (by simp)];exact hcont _ w hok (λt ht=>zme ht) him
    ·obtain ⟨q1,q2,s',x,q3,q4,q5,q6⟩:=hPan i g1 him;have hmi:i=m:=by
      rcases q1 with q1|q1;·exact q1
      ·by_cases hne:m=i;·exact hne.symm
       ·have:=hlm m (hanc m hne q1);omega
     subst hmi;rw[hs] at q3;cases q3;rw[q4.1.2,if_pos rfl];left;refine zpx (q4.2 (zej E.fix s.f.foot H w) D N a w (λ_ _=>False) D _ (hd s.o (hmem g3)) hpre (λk o h=>.inl h) (Ge.refl _ _)) (λ_ _ h=>h.elim) (λy w' h=>?_) λ⟨a',w',h⟩=>(q4.1.1 h.1.symm).elim;obtain ⟨rfl,h2⟩:=h;obtain ⟨D',H',hm'⟩:=hnext a w' h2 λ_ _=>rfl;obtain ⟨h4,h5⟩:=hm'.stop hR q2 (.inr rfl) q6;refine hk _ _ _ q5 (λt p ht hp hr=>?_) h5 a w' h4;rw[zaU,if_neg ht];exact hpres t p ht hp hr
 obtain ⟨D,H,hm⟩:=Mid.start hR hs;refine key ops.size _ a _ D H (by simp) ?_ (λj hj=>?_) (λk j _ hj=>?_) (hm.congr λj=>?_);·exact yAG (List.length_filter_le _ _) (by simp)
 ·simp[yAs,yBg] at hj;split at hj<;>simp at hj
 ·simp[yAs,yBg] at hj;split at hj<;>simp at hj
 ·simp only[yAs,yBg];split<;>simp
end
end Pe
end
