/- PROVED HERE: a part of the seat's proofs; see the text that holds the claim's theorem. -/
import Derived.Lib.SlBytesConst
import Derived.Test.YtojfjgjdheiffaaGreatDoorPeB
section
namespace Pe
open Go Go.RowKit
variable{S:Nat->Type}
section
variable{P:Program}{un:Uni S}{tb:Tb S}{orc:Orc S}{inl:Inl S}{E:Wl.Ctx}{D0:Dat}{N:Wl.Fr}{D D':Dat}{H:List Wl.Res}{e:Env S}{bx:Bxs S}{a:Act}{w w':World}{o:Oper}{R:Type}{r:R}
def zjh(u:U)(v:Value):List Value:=match u,v with
 | .st _,.agg cs=>cs.toList|_,v=>[v]
theorem zeL{nu:Nu}{u:U}{x:El S u}{v:Value}(h:Rep un nu D w (inj u x) v):DR un D w [u] (sg x) (zjh u v)/\v=zbF u (zjh u v):=by
 cases u with
 |st n=>simp only[inj,Rep] at h;obtain ⟨cs,rfl,h⟩:=h;exact ⟨h,rfl⟩
 |int k=>simp only[inj,Rep] at h;subst h;exact ⟨.int .nil,rfl⟩|bool=>simp only[inj,Rep] at h;subst h;exact ⟨.bool .nil,rfl⟩|str=>simp only[inj,Rep] at h;subst h;exact ⟨.str .nil,rfl⟩|sl u=>simp only[inj,Rep] at h;exact ⟨h,rfl⟩|mp k v=>simp only[inj,Rep] at h;exact ⟨h,rfl⟩|rw u=>simp only[inj,Rep] at h;exact ⟨h,rfl⟩|cs u=>simp only[inj,Rep] at h;exact ⟨h,rfl⟩
theorem zfh{k:U}:∀{l:List (El S k)}{es:List MapEntry},KeysRep un D w k l es->∀(i:Nat) x e,l[i]?=some x->es[i]?=some e->Rep un [] D w (inj k x) e.key
 |[],[],_,i,x,e,h,_=>by simp at h
 |y::l,f::es,hr,0,x,e,h,he=>by simp at h he;subst h;subst he;exact hr.1
 |y::l,f::es,hr,i+1,x,e,h,he=>zfh hr.2 i x e (by simpa using h) (by grind)|[],_::_,hr,_,_,_,_,_=>hr.elim|_::_,[],hr,_,_,_,_,_=>hr.elim
theorem ze4{k:U}:∀{l:List (El S k)}{es:List MapEntry},ValsRep un D w k l es->∀(i:Nat) x e,l[i]?=some x->es[i]?=some e->Rep un [] D w (inj k x) e.val
 |[],[],_,i,x,e,h,_=>by simp at h
 |y::l,f::es,hr,0,x,e,h,he=>by simp at h he;subst h;subst he;exact hr.1
 |y::l,f::es,hr,i+1,x,e,h,he=>ze4 hr.2 i x e (by simpa using h) (by grind)|[],_::_,hr,_,_,_,_,_=>hr.elim|_::_,[],hr,_,_,_,_,_=>hr.elim
theorem zlu:∀{es:List MapEntry}{n k:Nat}{f g:Nat->Value},es.length=n->(∀i e,es[i]?=some e->e.key=f (k+i)/\e.val=g (k+i))->(List.range' k n).flatMap (λi=>[f i,g i])=es.flatMap (λe=>[e.key,e.val])
 |[],0,_,_,_,_,_=>rfl|e::es,n+1,k,f,g,hl,h=>by simp only[yBk,yBZ,yA3,yBb];obtain ⟨h1,h2⟩:=h 0 e rfl;rw[zlu (es:=es) (f:=f) (g:=g) (by grind) λi e' hi=>by have:=h (i+1) e' (by grind);grind,h1,h2];rfl
 |[],n+1,_,_,_,hl,_=>by simp at hl
 |e::es,0,_,_,_,hl,_=>by simp at hl
theorem zsD{k v:U}{l:List (El S k×El S v)}{es:List MapEntry}(h1:KeysRep un D w k (l.map (·.1)) es)(h2:ValsRep un D w v (l.map (·.2)) es):DR un D w [.mp k v] (sg (u:= .mp k v) l) [Wl.encM (es.flatMap λe=>[e.key,e.val])]:=by
 have Ku:l.length=es.length:=by have:=h1.length;simpa using this
 have hg:∀(i:Nat),i<l.length->∃e,es[i]?=some e:=λi hi=>⟨_,yAe (by omega)⟩;have:=zlu (es:=es) (n:=l.length) (k:=0) (f:=λi=>zbF k (zjh k ((es.map (·.key)).getD i undef))) (g:=λi=>zbF v (zjh v ((es.map (·.val)).getD i undef))) Ku.symm (λi e hi=>by
  have hil:i<l.length:=by rw[Ku];exact (yAc.1 hi).1
  obtain ⟨x,hx⟩:∃x,l[i]?=some x:=⟨_,yAe hil⟩;have e1:(es.map (·.key)).getD (0+i) undef=e.key:=by simp[yAj,hi]
  have e2:(es.map (·.val)).getD (0+i) undef=e.val:=by simp[yAj,hi]
  simp only[e1,e2];exact ⟨(zeL (zfh h1 i x.1 e (by simp[hx]) hi)).2,(zeL (ze4 h2 i x.2 e (by simp[hx]) hi)).2⟩)
 rw[<-this,<-yBE];refine .mp (λi=>zjh k ((es.map (·.key)).getD i undef)) (λi=>zjh v ((es.map (·.val)).getD i undef)) (λi x hx=>?_) (λi x hx=>?_) .nil
 ·have hx':l[i]?=some x:=hx;obtain ⟨e,he⟩:=hg i (yAc.1 hx').1;have e1:(es.map (·.key)).getD i undef=e.key:=by simp[yAj,he]
  rw[e1];exact (zeL (zfh h1 i x.1 e (by simp[hx']) he)).1
 ·have hx':l[i]?=some x:=hx;obtain ⟨e,he⟩:=hg i (yAc.1 hx').1;have e1:(es.map (·.val)).getD i undef=e.val:=by simp[yAj,he]
  rw[e1];exact (zeL (ze4 h2 i x.2 e (by simp[hx']) he)).1
theorem zlm{k v:U}{x:El S k}{y:El S v}{key val:Value}{born:Nat}(hx:Rep un [] D w (inj k x) key)(hy:Rep un [] D w (inj v y) val):∀{l:List (El S k×El S v)}{es:List MapEntry}(i:Nat),KeysRep un D w k (l.map (·.1)) es->ValsRep un D w v (l.map (·.2)) es ->
  (zeQ ((l.map (·.1)).map (keq un k x)) es i=none/\KeysRep un D w k ((zgw (keq un k) x y l).map (·.1)) (es++[⟨key,val,born⟩])/\ValsRep un D w v ((zgw (keq un k) x y l).map (·.2)) (es++[⟨key,val,born⟩])) \/
  ∃j y0 x0 e0,zeQ ((l.map (·.1)).map (keq un k x)) es i=some (i+j,y0)/\es[j]?=some e0/\Rep un [] D w (inj k x0) e0.key/\keq un k x x0=true/\∀f:MapEntry->MapEntry,(f e0).key=key->(f e0).val=val->KeysRep un D w k ((zgw (keq un k) x y l).map (·.1)) (es.modify j f)/\ValsRep un D w v ((zgw (keq un k) x y l).map (·.2)) (es.modify j f)
 |[],[],i,_,_=>.inl ⟨rfl,⟨hx,trivial⟩,⟨hy,trivial⟩⟩|(k0,v0)::l,e::es,i,h1,h2=>by
   simp only[yAn,KeysRep,ValsRep] at h1 h2;simp only[yAn,zgw];cases hk:keq un k x k0 with
   |true =>right;refine ⟨0,e.val,k0,e,by simp[zeQ],rfl,h1.1,hk,λf g1 g2=>?_⟩;grind[KeysRep,ValsRep]|false =>
     simp only[cond_false,zeQ,yAn,yA3,KeysRep,ValsRep];rcases zlm hx hy (i+1) h1.2 h2.2 with ⟨g1,g2,g3⟩|⟨j,y0,x0,e0,g1,g2,g3,g4,g5⟩;·exact .inl ⟨g1,⟨h1.1,g2⟩,h2.1,g3⟩
     ·refine .inr ⟨j+1,y0,x0,e0,by grind,by grind,g3,g4,λf k1 k2=>?_⟩;obtain ⟨k3,k4⟩:=g5 f k1 k2;rw[List.modify_succ_cons];exact ⟨⟨h1.1,k3⟩,h2.1,k4⟩
 |[],_::_,_,h1,_=>h1.elim|_::_,[],_,h1,_=>h1.elim
theorem KeysRep.mono{k:U}(hg:Ge D w D' w'):∀{l:List (El S k)}{es:List MapEntry},KeysRep un D w k l es->KeysRep un D' w' k l es|[],[],_=>trivial|_::_,_::_,h=>⟨h.1.ge hg λ_ _ h=>h,KeysRep.mono hg h.2⟩|[],_::_,h=>h.elim|_::_,[],h=>h.elim
theorem ValsRep.mono{k:U}(hg:Ge D w D' w'):∀{l:List (El S k)}{es:List MapEntry},ValsRep un D w k l es->ValsRep un D' w' k l es|[],[],_=>trivial|_::_,_::_,h=>⟨h.1.ge hg λ_ _ h=>h,ValsRep.mono hg h.2⟩|[],_::_,h=>h.elim|_::_,[],h=>h.elim
theorem zqw{b g:Nat}{es es':Array MapEntry}{c c' size:Nat}(Kt:In E D H w)(hb:H[b]?=some (.fix (.map (some g)) (some g) size (.map es c)))(hw:w'={ w with heap:=w.heap.setIfInBounds g (.map es' c') }) :
  In E D (H.set b (.fix (.map (some g)) (some g) size (.map es' c'))) w'/\Ge D w D w':=by
 have Qa:=yAb hb;have hh:=Kt.res _ Qa;have hgl:=(yAE.1 (hh.2 g rfl).2).1;have hgr:w.grownBy w' (some g):=by subst hw;exact ⟨rfl,rfl,rfl,by simp,λk hk hne=>by show (w.heap.setIfInBounds g _)[k]?=_;rw[yA1,if_neg (λh:g=k=>hne (by rw[h]))]⟩
 refine ⟨Kt.turn hb hgr ⟨.inl ⟨g,es',c',rfl,rfl,rfl⟩,λg0 hg0=>?_⟩ (λg hg=>.inl hg) (λk o hk=>.inl hk) (λk o hk=>yAq (Kt.lt k o hk) hgr.size) (λg' hg' o hf hd=>Kt.apart _ Qa g' hg' o trivial hd) (λ_=>⟨rfl,rfl,.inl rfl⟩),.of (λ_ _ h=>h) λk o hk=>hgr.block k (Kt.lt k o hk) λhkb=>Kt.apart _ Qa k hkb.symm o trivial hk⟩;cases hg0;refine ⟨(hh.2 g rfl).1,?_⟩;grind
theorem zk3(Kq:Kx un)(ht:Qc P un tb){K:PV S->Env S->Bxs S->Option R}{t:TypeId}{m x y:Operand}(h:zk4 un tb e bx t m x y K=some r)(ho:∀w w',(Instr.mapUpdate t (a.eval m) (a.eval x) (a.eval y)).run P w= .ok () w'->(execOp a.eval o).run P w= .ok .skip w')(hd:∀d,o.dst=some d->d<N.n)(hs:Holds un E D0 N e bx a w)
  {next:Act->World->Prop} {Q:Exit->Act->World->Prop} (hk:∀p e' bx',K p e' bx'=some r->Ky [] e e'->Kk bx bx'->∀a' w',Holds un E D0 N (push o.dst p e') bx' a' w'->next a' w'):o.wp P a w next Q:=by
 unfold zk4 at h;split at h
 ·rename_i b kt k vt v hm hmp;split at h
  ·rename_i T u l key val hg Q3 Qt;split at h
   ·rename_i heq _;subst heq;obtain ⟨h1,h2⟩:=zae h;obtain ⟨D,H,hs,hD,hG⟩:=hs;cases Kp:tb.ty.get t with
    |none=>grind|some row =>
      rw[Kp] at hmp;simp only[yAB] at hmp;obtain ⟨hu,hky⟩:=(ht.ty t row Kp).mp _ _ _ _ hmp;have kr:Rep un [] D w (inj k key) (a.eval x):=by
       cases hx:ev e x with
       |none=>grind|some q=>rw[hx] at Q3;exact zdg (zbT Kq Q3 (hs.fz Kq (hs.ev hx))).2
      have vr:Rep un [] D w (inj v val) (a.eval y):=by
       cases hy:ev e y with
       |none=>grind|some q=>rw[hy] at Qt;exact zdg (zbT Kq Qt (hs.fz Kq (hs.ev hy))).2
      have hmv:=hs.ev hm;simp only[Rep] at hmv;obtain ⟨r0,hr1,hr2⟩:=hs.Kg.get hg;have hh:=hs.Kr.res _ (yAb hr1);have hid:=hmv.1;simp only[ids,yAh,hr1,yAg,yAf] at hid;cases r0 with
      |box g T' vs =>grind[zal,zeZ]|fix v0 g size ob =>
        simp only[Kc] at hr2;simp[zal] at hid;obtain ⟨g0,es,c,e1,e2,e3,e4,e5⟩:=zjV hh.1 (zd7 hr2);subst e3;subst e2;rw[<-hid,e1] at hmv;have hid2:a.eval m= .map (some g0):=by rw[<-hid,e1]
        subst e1;have Ql:=(hh.2 g0 rfl).2;have fin:∀(es':Array MapEntry) c',(Instr.mapUpdate t (.map (some g0)) (a.eval x) (a.eval y)).run P w= .ok () { w with heap:=w.heap.setIfInBounds g0 (.map es' c') }->KeysRep un D w k ((zgw (keq un k) key val l).map (·.1)) es'.toList->ValsRep un D w v ((zgw (keq un k) key val l).map (·.2)) es'.toList->o.wp P a w next Q:=by
         intro es' c' Kw k1 k2;obtain ⟨Kt,K2⟩:=zqw (es':=es') (c':=c') hs.Kr hr1 rfl;have K8:ids (H.set b (.fix (.map (some g0)) (some g0) size (.map es' c')))=ids H:=zaw hr1 rfl;unfold Oper.wp;rw[ho w _ (by rw[hid2];exact Kw)];refine hk _ _ _ h2 (Ky.refl _ _) (Kk.set hg rfl λT' cs' he=>by cases he;exact ⟨_,rfl,rfl⟩) _ _ ⟨D,_,hs.step Kt ?_ (λi q hi=>?_) hd ?_,hD,hG.trans K2⟩;·rw[K8];refine (hs.Kg.mono K2 (zas hs.Kr.out Kt.out) λ_ _ h=>h).set ?_;simp only[Kc,Ke,Rep,and_true];exact zsD (k1.mono K2) (k2.mono K2)
         ·rw[K8];exact (hs.slots i q hi).ge K2 λ_ _ h=>h
         ·simp only[zaS,Rep];exact ⟨[],rfl,by simp[Ke]⟩
        have hfind:=hky.find D w key _ _ _ kr e4;rcases zlm (born:=c) kr vr 0 e4 e5 with ⟨f1,f2,f3⟩|⟨j,y0,x0,e0,f1,f2,f3,f4,f5⟩
        ·rw[f1] at hfind;refine fin (es.push ⟨a.eval x,a.eval y,c⟩) (c+1) ?_ (by grind) (by grind);simp[Instr.mapUpdate,run_underlying hu,MapKept.run_getObj_map Ql,hky.check D w key _ _ kr,hfind,MapKept.run_setObj_map _ Ql,Result.andThen]
        ·rw[f1] at hfind;have hj:es[j]?=some e0:=by grind
         have hst:=hky.stays D w key x0 _ _ kr f3 f4;obtain ⟨g1,g2⟩:=f5 (λe'=>{ e' with key:=a.eval x,val:=a.eval y }) rfl rfl;refine fin (es.modify j λe'=>{ e' with key:=a.eval x,val:=a.eval y }) c ?_ (by grind) (by grind);simp[Instr.mapUpdate,run_underlying hu,MapKept.run_getObj_map Ql,hky.check D w key _ _ kr,hfind,hj,hst,MapKept.run_setObj_map _ Ql,Result.andThen]
      |_=>grind[Kc]
   ·cases h
  ·cases h
 ·cases h
theorem St.newFix(h:St un E N D H e bx a w)(T:TypeId){cs:List (PV S)}{v:Value}{size:Nat}{ob:Obj}(hb:Below w.heap.size w w')(hnew:w'.heap[w.heap.size]?=some ob)(hok:Wl.fixOk v (some w.heap.size) size ob)(hv:zeZ v=true)
  (hl:Ke un (ids H) D w cs [Wl.fixV v size ob]) {dst:Option Nat} (hd:∀d,dst=some d->d<N.n) :
  ∃H',St un E N D H' (push dst (.ref bx.length) e) (bx++[.var T cs]) (a.put dst v) w'/\Ge D w D w':=by
 have Kt:In E D (H++[.fix v (some w.heap.size) size ob]) w':=by
  refine h.Kr.push hb ⟨hok,λg0 hg=>?_⟩ (λg hg=>by grind[Wl.Res.has]) (λk o hk=>.inl hk) (λk o hk=>yAq (h.Kr.lt k o hk) hb.size) (λg hg o _ hk=>?_);·cases hg;exact ⟨.inl h.Kr.out.size,hnew⟩
  ·simp[Wl.Res.has] at hg;have:=h.Kr.lt g o hk;omega
 have K2:Ge D w D w':=Ge.same h.Kr hb;have Ku:=h.Kg.length;refine ⟨_,h.step Kt ?_ (λi q hi=>(h.slots i q hi).ge K2 (zbt H _)) hd ?_,K2⟩;·refine (h.Kg.mono K2 (zas h.Kr.out Kt.out) (zbt H _)).push ?_;grind[Kc,Ke.ge]
 ·simp only[Rep];exact ⟨by rw[Ku,zdG];rfl,hv⟩
theorem zrs(hf:zns un){u:U}{l:List (El S u)}{n size:Nat}{xs:List Value}(h:DR un D w [.rw u] (sg (u:= .rw u) l) [Wl.encV n size xs]):n=l.length/\size=U.size un u/\xs.length=l.length*U.size un u/\zkj un D w u l xs:=by
 generalize hv:Wl.encV n size xs=val at h;cases h with
 |rw cs hc h =>
   cases h;have hc':∀(i:Nat) x,l[i]?=some x->DR un D w [u] (sg x) (cs i):=hc;change Wl.encV n size xs=Wl.encV l.length (U.size un u) ((List.range l.length).flatMap cs) at hv;simp only[Wl.encV,Value.func.injEq,Fn.func.injEq,yCh,yBB,Value.int.injEq,true_and,and_true] at hv;obtain ⟨rfl,rfl,hs⟩:=hv;have Ku:∀j,j<l.length->(cs j).length=U.size un u:=λj hj=>by rw[(hc' j _ (yAe hj)).length hf];simp[zcF]
   refine ⟨rfl,by grind,?_,λi x hi=>?_⟩
   ·have:∀n,n<=l.length->((List.range n).flatMap cs).length=n*U.size un u:=by
     intro n;induction n with
     |zero=>intro _;simp
     |succ n ih=>intro hn;rw[yCo,List.flatMap_append,yAI,ih (by omega)];simp[Ku n (by omega),yAz]
    simp_all
   ·rw[zll Ku (yAc.1 hi).1];grind
theorem zkx{m:Nat}{xs:List Value}:∀(n k:Nat),(List.range' k n).flatMap (λj=>(xs.drop (j*m)).take m)=(xs.drop (k*m)).take (n*m)
 |0,k=>by simp
 |n+1,k=>by rw[yBk,yBZ,zkx n (k+1),yAz n 1 m,yAQ,yB3 (n*m) m,List.take_add,yBh,yAz k 1 m,yAQ]
theorem zrt{u:U}{l:List (El S u)}{xs:List Value}(Ku:xs.length=l.length*U.size un u)(h:zkj un D w u l xs):DR un D w [.rw u] (sg (u:= .rw u) l) [Wl.encV l.length (U.size un u) xs]:=by
 have hx:(List.range l.length).flatMap (λj=>(xs.drop (j*U.size un u)).take (U.size un u))=xs:=by rw[yBE,zkx,yBI,yBo,<-Ku,List.take_length]
 have:=DR.rw (un:=un) (D:=D) (w:=w) (us:=[]) (t:=sg (u:= .rw u) l) (vs:=[]) (λj=>(xs.drop (j*U.size un u)).take (U.size un u)) h .nil;change DR un D w [.rw u] (sg (u:= .rw u) l) [Wl.encV l.length (U.size un u) ((List.range l.length).flatMap λj=>(xs.drop (j*U.size un u)).take (U.size un u))] at this;grind
theorem zaF:∀(vs cs:List Value)(off:Nat),(zaV.spliceV cs off vs).length=cs.length|[],_,_=>rfl|v::vs,cs,off=>by rw[zaV.spliceV,zaF vs];simp
theorem zaN{vs cs:List Value}{off:Nat}(h:off+vs.length<=cs.length)(k:Nat):(zaV.spliceV cs off vs)[k]?=if off<=k/\k<off+vs.length then vs[k - off]? else cs[k]? :=by
 rw[zgg vs cs off h];have hl:(cs.take off).length=off:=by simp;omega
 by_cases h1:k<off;·rw[if_neg (by omega),yA5,yAk (by omega),yAt h1]
 ·by_cases h2:k<off+vs.length;·rw[if_pos (by omega),yA5,yAF (by omega),hl,yAk (by omega)]
  ·rw[if_neg (by omega),yAF (by simp_all),yAu,yAI,hl];congr 1;omega
theorem zjf(Kq:Kx un){nu:Nu}{u:U}{ps:List (PV S)}{z:El S u}{cs:List Value}(h:zgG un u ps=some z)(hr:Ke un nu D w ps cs):DR un D w [u] (sg z) cs:=by
 unfold zgG at h;split at h
 ·rename_i n;split at h;·rename_i t ht;cases h;have hd:=zih (un:=un) ht hr;rw[<-yAR cs];refine .st ?_ .nil;show DR un D w (un.codes n) (un.get n (un.put n t)) cs;grind[Kx.get_put]
  ·cases h
 ·rename_i p _;cases cs with
  |nil=>grind[Ke]|cons v cs =>
    cases cs with
    |nil=>simp only[Ke] at hr;exact (zf5 h hr.1).1|cons=>grind[Ke]
 ·cases h
theorem zmu(Kq:Kx un){nu:Nu}{u:U}{l:List (El S u)}{xs:List Value}(Ku:xs.length=l.length*U.size un u)(h:zkj un D w u l xs){i off:Nat}{y z:El S u}(hy:l[i]?=some y){ps:List (PV S)}{vs:List Value}(hz:zgG un u (splice (zdN un u y) off ps)=some z)(hps:Ke un nu D w ps vs)(ho:off+vs.length<=U.size un u) :
  zkj un D w u (l.set i z) (zaV.spliceV xs (i*U.size un u+off) vs):=by
 have hil:i<l.length:=(yAc.1 hy).1;have hpos:i*U.size un u+U.size un u<=xs.length:=by have h2:(i+1)*U.size un u<=l.length*U.size un u:=yAs _ hil;simp_all[yAz]
 intro j x hj;by_cases hij:i=j
 ·subst hij;rw[yAx hil] at hj;cases hj;have h1:=zbZ (nu:=nu) Kq.flat (h i y hy);have h2:=h1.splice off hps;have h3:=zjf Kq hz h2;have:((zaV.spliceV xs (i*U.size un u+off) vs).drop (i*U.size un u)).take (U.size un u)=zaV.spliceV ((xs.drop (i*U.size un u)).take (U.size un u)) off vs:=by
   apply yAW;intro k;have hseg:((xs.drop (i*U.size un u)).take (U.size un u)).length=U.size un u:=by simp;omega
   rw[zaN (by grind),yAD];by_cases hk:k<U.size un u
   ·rw[if_pos hk,yAu,zaN (by omega),yAt hk,yAu];by_cases h5:off<=k/\k<off+vs.length;·rw[if_pos (by omega),if_pos h5];congr 1;omega
    ·rw[if_neg (by omega),if_neg h5]
   ·rw[if_neg hk,if_neg (by omega)];simp_all
  grind
 ·rw[yAr hij] at hj;have hjl:j<l.length:=(yAc.1 hj).1;have:((zaV.spliceV xs (i*U.size un u+off) vs).drop (j*U.size un u)).take (U.size un u)=(xs.drop (j*U.size un u)).take (U.size un u):=by
   apply yAW;intro k;rw[yAD,yAD];by_cases hk:k<U.size un u
   ·rw[if_pos hk,if_pos hk,yAu,yAu,zaN (by omega),if_neg];intro h5;rcases yBY hij with Ks|hgt
    ·have h6:(i+1)*U.size un u<=j*U.size un u:=yAs _ Ks;rw[yAz,yAQ] at h6;omega
    ·have h6:(j+1)*U.size un u<=i*U.size un u:=yAs _ hgt;rw[yAz,yAQ] at h6;omega
   simp_all[if_neg]
  rw[this];exact h j x hj
theorem zbq(g:Nat)(T:TypeId)(fz:Nat×Nat):∀(vs cs:List Value)(off:Nat)(w:World),w.heap[g]?=some (.cells cs.toArray T fz) ->
  (w.setCells g off vs).heap[g]?=some (.cells (zaV.spliceV cs off vs).toArray T fz)/\w.grownBy (w.setCells g off vs) (some g)
 |[],cs,off,w,h=>⟨h,World.grownBy.refl w _⟩|v::r,cs,off,w,h=>by
   have h1:(w.setCell ⟨g,off,none⟩ v).heap[g]?=some (.cells (cs.set off v).toArray T fz):=(by simp[World.setCell,yB1,h])
   have h2:w.grownBy (w.setCell ⟨g,off,none⟩ v) (some g) :=
    ⟨rfl,rfl,rfl,by simp[World.setCell],λk _ hne=>Below.heap_setCell w _ v k λe=>hne (by rw[e])⟩
   obtain ⟨i1,i2⟩:=zbq g T fz r (cs.set off v) (off+1) _ h1;refine ⟨i1,⟨i2.os.trans h2.os,i2.tape.trans h2.tape,i2.output.trans h2.output,yAo h2.size i2.size,λk hk hne=>(i2.block k (yAq hk h2.size) hne).trans (h2.block k hk hne)⟩⟩
theorem zdA{t:TypeId}{row:TyRow S}(Kp:RowOk P un t row){g off:Nat}{cur:Array Value}{T:TypeId}{fz:Nat×Nat}{v:Value}(hg:w.heap[g]?=some (.cells cur T fz))(hfz:fz.2<=fz.1\/cur.size<=fz.1)(hsz:v.cells.size=row.n)(hle:off+row.n<=cur.size)(h1:∀u∈v.cells.toList,u.oneCell'=true) :
  (Instr.storeAt t (.pointer (some ⟨g,off,none⟩)) v).run P w= .ok () (w.setCells g off v.cells.toList):=by
 have:=run_storeAt_mid (P:=P) w g off t v.cells (λj hj=>⟨by rw[cell_of_row w g _ _ _ _ hg];simp;omega,by grind[World.frozen?]⟩) (by rw[Kp.size,hsz]) (by grind);rw[<-this];rfl
theorem zkT(Kq:Kx un)(hs:St un E N D H e bx a w){u:U}{y z:El S u}{off n:Nat}{p:PV S}{v:Value}(h:znQ un bx u y off n p=some z)(hv:Rep un (ids H) D w p v):∃ps,Ke un (ids H) D w ps v.cells.toList/\v.cells.size=n/\off+n<=U.size un u/\(∀x∈v.cells.toList,x.oneCell'=true)/\zgG un u (splice (zdN un u y) off ps)=some z:=by unfold znQ at h;obtain ⟨h1,h2⟩:=zae h;simp only[yAd,yAK] at h1;obtain ⟨c1,c2⟩:=zf2 Kq.flat h1.1.1 (hs.fz Kq hv);refine ⟨_,c1,?_,h1.2,c2,h2⟩;have:=c1.length;simp_all
theorem zp5(Kq:Kx un){t:TypeId}{row:TyRow S}(Kp:RowOk P un t row){b i off:Nat}{u:U}{T:TypeId}{l:List (El S u)}{y z:El S u}{p:PV S}{v x:Value}(hs:St un E N D H e bx a w)(hg:zam bx b=some (.wr u T l))(hx:Rep un (ids H) D w (.elr b u i off) x)(hv:Rep un (ids H) D w p v)
  (hy:l[i]?=some y) (hz:znQ un bx u y off row.n p=some z) {dst:Option Nat} (hd:∀d,dst=some d->d<N.n) :
  ∃w' H',(Instr.storeAt t x v).run P w= .ok () w'/\St un E N D H' (push dst zaS e) (zbe bx b (.wr u T (l.set i z))) (a.put dst undef) w'/\Ge D w D w':=by
 obtain ⟨ps,c1,c2,c3,c4,c5⟩:=zkT Kq hs hz hv;obtain ⟨r,hr1,hr2⟩:=hs.Kg.get hg;have hh:=hs.Kr.res _ (yAb hr1);cases r with
 |wr v0 T' size n xs =>
   simp only[Kc] at hr2;obtain ⟨rfl,rfl,rfl,K9⟩:=hr2;simp only[Rep,ids,yAh,hr1,yAg,zal,yAf,Prod.mk.injEq] at hx;obtain ⟨fl,g,n',c',⟨_,hvv⟩,rfl⟩:=hx;subst hvv;obtain ⟨⟨Ku,hh1⟩,hmay⟩:=hh;rcases hh1 with ⟨hn,_⟩|⟨g',cap,cur,hv',hb0,hgg,hnc,hcm,hcs,htk⟩;·cases hn
   ·cases hv';have hil:i<l.length:=(yAc.1 hy).1;have hpos:(i+1)*U.size un u<=l.length*U.size un u:=yAs _ hil;have hcap:l.length*U.size un u<=cur.size:=by simp_all[yAs]
    rw[yAz,yAQ] at hpos;have Kw:=zdA Kp (v:=v) (off:=i*U.size un u+off) hgg (.inl (yAi _)) c2 (by omega) c4;obtain ⟨k1,k2⟩:=zbq g T' (0,0) v.cells.toList cur.toList (i*U.size un u+off) w (by simp_all);have hvl:v.cells.toList.length=row.n:=by grind
    have K5:(w.setCells g (i*U.size un u+off) v.cells.toList).ownsRow 0 T' (U.size un u) (.slice (some ⟨g,0,none⟩) l.length c') l.length (zaV.spliceV xs (i*U.size un u+off) v.cells.toList):=by
     refine ⟨by grind[zaF],.inr ⟨g,c',_,rfl,yAA _,k1,hnc,hcm,by simp[zaF,hcs],?_⟩⟩;apply yAW;intro k;rw[zaN (by grind),yAD];by_cases hk:k<l.length*U.size un u
     ·rw[if_pos hk];show (zaV.spliceV cur.toList (i*U.size un u+off) v.cells.toList)[k]?=_;rw[zaN (by grind)];split;·rfl
      ·rw[<-htk,yAt hk]
     ·rw[if_neg hk,if_neg (by rw[hvl];omega)];simp_all
    obtain ⟨Kt,K2⟩:=ze3 hs.Kr hr1 K5 k2 (.inl rfl);have K8:ids (H.set b (.wr (.slice (some ⟨g,0,none⟩) l.length c') T' (U.size un u) l.length (zaV.spliceV xs (i*U.size un u+off) v.cells.toList)))=ids H:=zaw hr1 rfl;refine ⟨_,_,Kw,hs.step Kt ?_ (λi q hi=>?_) hd ?_,K2⟩;·rw[K8];refine (hs.Kg.mono K2 (zas hs.Kr.out Kt.out) λ_ _ h=>h).set ?_;simp only[Kc];refine ⟨trivial,trivial,by simp,λj x hj=>(zmu Kq Ku K9 hy c5 c1 (by grind) j x hj).mono K2⟩
    ·rw[K8];exact (hs.slots i q hi).ge K2 λ_ _ h=>h
    ·simp only[zaS,Rep];exact ⟨[],rfl,by simp[Ke]⟩
 |_=>grind[Kc]
theorem zos(Kq:Kx un){t:TypeId}{row:TyRow S}(Kp:RowOk P un t row){b i off:Nat}{u:U}{T:TypeId}{l:List (El S u)}{y z:El S u}{p:PV S}{v x:Value}(hs:St un E N D H e bx a w)(hg:zam bx b=some (.var T [.cont (.rw u) l]))(hx:Rep un (ids H) D w (.elr b u i off) x)(hv:Rep un (ids H) D w p v)
  (hy:l[i]?=some y) (hz:znQ un bx u y off row.n p=some z) {dst:Option Nat} (hd:∀d,dst=some d->d<N.n) :
  ∃w' H',(Instr.storeAt t x v).run P w= .ok () w'/\St un E N D H' (push dst zaS e) (zbe bx b (.var T [.cont (.rw u) (l.set i z)])) (a.put dst undef) w'/\Ge D w D w':=by
 obtain ⟨ps,c1,c2,c3,c4,c5⟩:=zkT Kq hs hz hv;obtain ⟨r,hr1,hr2⟩:=hs.Kg.get hg;have hh:=hs.Kr.res _ (yAb hr1);simp only[Rep,ids,yAh,hr1,yAg,yAf] at hx;obtain ⟨fl,g,n',c',hid,rfl⟩:=hx;cases r with
 |box g T' vs=>simp[zal] at hid|fix v0 g0 size ob =>
   simp only[Kc] at hr2;simp only[zal,Prod.mk.injEq] at hid;obtain ⟨_,rfl⟩:=hid;have hcont:=zd7 hr2;rcases hh.1 with ⟨_,_,_,he,_⟩|⟨g1,n,cap,cur,T1,fz,he,rfl,rfl,hnc,hcm,hcs,hfz⟩|⟨he,_⟩|⟨_,_,_,_,_,_,he,_⟩;·cases he
   ·cases he;simp only[Wl.fixV] at hcont;obtain ⟨rfl,rfl,Ku,hseg⟩:=zrs Kq.flat hcont;have hgg:=(hh.2 g rfl).2;have hil:i<l.length:=(yAc.1 hy).1;have hpos:(i+1)*U.size un u<=l.length*U.size un u:=yAs _ hil;have hcap:l.length*U.size un u<=cur.size:=by rw[hcs];exact yAs _ hnc
    rw[yAz,yAQ] at hpos;have Kw:=zdA Kp (v:=v) (off:=i*U.size un u+off) hgg hfz c2 (by omega) c4;obtain ⟨k1,k2⟩:=zbq g T1 fz v.cells.toList cur.toList (i*U.size un u+off) w (by simpa using hgg);have hvl:v.cells.toList.length=row.n:=by simpa using c2
    have htk:(zaV.spliceV cur.toList (i*U.size un u+off) v.cells.toList).take (l.length*U.size un u)=zaV.spliceV (cur.toList.take (l.length*U.size un u)) (i*U.size un u+off) v.cells.toList:=by
     apply yAW;intro k;rw[zaN (by rw[hvl];simp;omega),yAD];by_cases hk:k<l.length*U.size un u;·rw[if_pos hk,zaN (by rw[hvl];simp;omega),yAt hk]
     ·rw[if_neg hk,if_neg (by rw[hvl];omega)];symm;rw[yAD,if_neg hk]
    have Qa:=yAb hr1;have Kt:In E D (H.set b (.fix (.slice (some ⟨g,0,none⟩) l.length c') (some g) (U.size un u) (.cells (zaV.spliceV cur.toList (i*U.size un u+off) v.cells.toList).toArray T1 fz))) (w.setCells g (i*U.size un u+off) v.cells.toList):=(by refine hs.Kr.turn hr1 k2 ⟨.inr (.inl ⟨g,l.length,c',_,T1,fz,rfl,rfl,rfl,hnc,hcm,by simp[zaF,hcs],by simpa[zaF] using hfz⟩),λg0 hg0=>?_⟩ (λ_ hk=>.inl hk) (λk o hk=>.inl hk) (λk o hk=>yAq (hs.Kr.lt k o hk) k2.size) (λg2 hg2 o _ hk=>hs.Kr.apart _ Qa g2 hg2 o trivial hk) (λ_=>⟨rfl,rfl,.inr ⟨λ_ hg=>hg,by simp[zd6,zgj,zaF]⟩⟩);cases hg0;exact ⟨(hh.2 g rfl).1,k1⟩);have K2:Ge D w D (w.setCells g (i*U.size un u+off) v.cells.toList):= .of (λ_ _ h=>h) λk o hk=>by refine k2.block k (hs.Kr.lt k o hk) λh=>?_;simp at h;subst h;exact hs.Kr.apart _ Qa k rfl o trivial hk
    have K8:ids (H.set b (.fix (.slice (some ⟨g,0,none⟩) l.length c') (some g) (U.size un u) (.cells (zaV.spliceV cur.toList (i*U.size un u+off) v.cells.toList).toArray T1 fz)))=ids H:=zaw hr1 rfl;refine ⟨_,_,Kw,hs.step Kt ?_ (λi q hi=>?_) hd ?_,K2⟩;·rw[K8];refine (hs.Kg.mono K2 (zas hs.Kr.out Kt.out) λ_ _ h=>h).set ?_;simp only[Kc,Ke,Rep,and_true,Wl.fixV];have h7:=zmu Kq Ku hseg hy c5 c1 (by rw[hvl];exact c3);have h8:=zrt (l:=l.set i z) (by rw[zaF,List.length_set];exact Ku) h7;rw[List.length_set,<-htk] at h8;exact h8.mono K2
    ·rw[K8];exact (hs.slots i q hi).ge K2 λ_ _ h=>h
    ·simp only[zaS,Rep];exact ⟨[],rfl,by simp[Ke]⟩
   ·cases he
   ·cases he
 |_=>simp[Kc] at hr2
theorem zfR{nu:Nu}{u:U}{x:El S u}{v:Value}(h:Rep un nu D w (inj u x) v):DR un D w [u] (sg x) v.cells.toList:=by
 cases u with
 |st n=>simp only[inj,Rep] at h;grind[Value.cells]
 |int k=>simp only[inj,Rep] at h;subst h;exact .int .nil|bool=>simp only[inj,Rep] at h;subst h;exact .bool .nil|str=>simp only[inj,Rep] at h;subst h;exact .str .nil|sl u=>simp only[inj,Rep] at h;have h':=h;cases h<;>exact h'
 |mp k v=>simp only[inj,Rep] at h;have h':=h;cases h;exact h'
 |rw u=>simp only[inj,Rep] at h;have h':=h;cases h;exact h'
 |cs u=>simp only[inj,Rep] at h;have h':=h;cases h<;>exact h'
theorem In.pushWr(h:In E D H w){T:TypeId}{size n:Nat}{v:Value}{xs:List Value}(hb:Below w.heap.size w w')(K5:w'.ownsRow 0 T size v n xs)(hv:v.ownBlock=some w.heap.size):In E D (H++[.wr v T size n xs]) w' :=
 h.push hb ⟨K5,λg hg=>by rw[hv] at hg;cases hg;exact .inl h.out.size⟩ (λg hg=>by have h2:v.ownBlock=some g:=hg;simp_all) (λk o hk=>.inl hk) (λk o hk=>yAq (h.lt k o hk) hb.size) (λg hg o _ hk=>by have h2:v.ownBlock=some g:=hg;rw[hv] at h2;cases h2;have:=h.lt _ o hk;omega)
theorem St.newWr(h:St un E N D H e bx a w){T:TypeId}{u:U}{l:List (El S u)}{v:Value}{xs:List Value}(hb:Below w.heap.size w w')(K5:w'.ownsRow 0 T (U.size un u) v l.length xs)(hv:v.ownBlock=some w.heap.size)(hl:zkj un D w u l xs){dst:Option Nat}(hd:∀d,dst=some d->d<N.n) :
  ∃H',St un E N D H' (push dst (.row bx.length) e) (bx++[.wr u T l]) (a.put dst v) w'/\Ge D w D w':=by
 have Kt:=h.Kr.pushWr hb K5 hv;have K2:Ge D w D w':=Ge.same h.Kr hb;refine ⟨_,h.step Kt ?_ (λi q hi=>(h.slots i q hi).ge K2 (zbt H _)) hd ?_,K2⟩;·refine (h.Kg.mono K2 (zas h.Kr.out Kt.out) (zbt H _)).push ?_;simp only[Kc];exact ⟨trivial,trivial,trivial,λi x hi=>(hl i x hi).mono K2⟩
 ·simp only[Rep];refine ⟨?_,zfb K5⟩;rw[h.Kg.length,zdG];rfl
theorem zn9(Kq:Kx un){T:TypeId}{u:U}{t:TypeId}(hu:P.underlying t=some (.slice T))(hT:ElOk P un T u){n:Nat}{parts:List (Nat×Operand)}{l:List (Nat×PV S)}{xs:List (El S u)}(hs:St un E N D H e bx a w)(hp:zck e parts=some l)(ho:zel 0 l=true)(hln:l.length=n)(hlim:n*U.size un u<=16777216)
  (hx:zep un bx u (l.map (·.2))=some xs) {dst:Option Nat} (hd:∀d,dst=some d->d<N.n) :
  ∃v' w' H',(Instr.buildSlice t n (parts.map λp=>(p.1,a.eval p.2)).toArray).run P w= .ok v' w'/\St un E N D H' (push dst (.row bx.length) e) (bx++[.wr u T xs]) (a.put dst v') w'/\Ge D w D w':=by
 obtain ⟨hr,hm⟩:=(hs.parts hp).split;obtain ⟨g1,g2,g3⟩:=zfp Kq hs hx hr;have hpl:(parts.map λp=>(p.1,a.eval p.2)).length=n:=by have:=congrArg List.length hm;grind
 have Kw:=zeS (P:=P) (un:=un) hu hT ho hm hpl (λp hp=>g2 _ (yBw.2 ⟨p,hp,rfl⟩)) hlim w;obtain ⟨j,z,e1,e2,e3,e4,e5,e6⟩:=hT.info;have hxn:xs.length=n:=by grind
 have hfl:(((parts.map λp=>(p.1,a.eval p.2)).map (·.2)).map (·.cells.toList)).flatten.length=n*U.size un u:=by grind[zfl]
 have hb:Below w.heap.size w (w.alloc (.cells (((parts.map λp=>(p.1,a.eval p.2)).map (·.2)).map (·.cells.toList)).flatten.toArray T)):=(Below.refl _ _).alloc (yAi _) _;have hnm:n<=maxLen:=by have:n*1<=n*U.size un u:=Nat.mul_le_mul_left _ e5;grind[maxLen]
 have K5:(w.alloc (.cells (((parts.map λp=>(p.1,a.eval p.2)).map (·.2)).map (·.cells.toList)).flatten.toArray T)).ownsRow 0 T (U.size un u) (.slice (some ⟨w.heap.size,0,none⟩) n n) xs.length (((parts.map λp=>(p.1,a.eval p.2)).map (·.2)).map (·.cells.toList)).flatten:=by rw[hxn];refine ⟨hfl,.inr ⟨w.heap.size,n,_,rfl,yAA _,heap_alloc_new w _,yAi _,hnm,by grind,?_⟩⟩;simp_all[yA7]
 obtain ⟨H',k1,k2⟩:=hs.newWr hb K5 rfl g3 hd;grind
theorem zhX{u:U}{z:El S u}{zs:Array Value}(hz:DR un D w [u] (sg z) zs.toList)(hs:zs.size=U.size un u)(n:Nat):zkj un D w u (List.replicate n z) (madeCells zs (n*U.size un u)).toList:=by
 intro i x hi;have hil:i<n:=by simp_all[yAc]
 have hx:x=z:=by simp_all
 subst hx;have hpos:(i+1)*U.size un u<=n*U.size un u:=yAs _ hil;rw[yAz,yAQ] at hpos;have:((madeCells zs (n*U.size un u)).toList.drop (i*U.size un u)).take (U.size un u)=zs.toList:=by
  apply yAW;intro k;rw[yAD];by_cases hk:k<U.size un u
  ·rw[if_pos hk,yAu];grind[Nat.mul_comm,Nat.mul_add_mod,Nat.mod_eq_of_lt,madeCells]
  simp_all[if_neg]
 grind
theorem zp7{T T0:TypeId}{u:U}{t:TypeId}(hu:P.underlying t=some (.slice T0))(hT:ElOk P un T0 u){b j:Nat}{l:List (El S u)}{v:Value}{lo hi:Option Value}(hs:St un E N D H e bx a w)(hg:zam bx b=some (.wr u T l))(hv:Rep un (ids H) D w (.row b) v)(hj:j<=l.length)
  (hlo:lo=none\/∃k,lo=some (.int k 0)) (hhi:(hi=none/\j=l.length)\/∃k,hi=some (.int k (j:Int))) {dst:Option Nat} (hd:∀d,dst=some d->d<N.n) :
  ∃v' H',(Instr.sliceAt t v lo hi none).run P w= .ok v' w/\St un E N D H' (push dst (.row b) (zcW b .junk e)) (zbe (bx.map (Box.kill b .junk)) b (.wr u T (l.take j))) (a.put dst v') w/\Ge D w D w:=by
 obtain ⟨jn,z,g1,g2,g3,g4,g5,g6⟩:=hT.info;obtain ⟨r,hr1,hr2⟩:=hs.Kg.get hg;have hh:=hs.Kr.res _ (yAb hr1);cases r with
 |wr v0 T' size n xs =>
   simp only[Kc] at hr2;obtain ⟨rfl,rfl,rfl,K9⟩:=hr2;have hv0:v0=v:=by simp_all[Rep,zal]
   subst hv0;obtain ⟨A,c,hvv,hlc⟩:∃A c,v0= .slice A l.length c/\l.length<=c:=by
    rcases hh.1.2 with ⟨rfl,h0⟩|⟨g,cap,cur,rfl,_,_,h,_⟩;·grind
    ·exact ⟨_,_,rfl,h⟩
   have Kw:(Instr.sliceAt t v0 lo hi none).run P w= .ok (.slice A j c) w:=by
    subst hvv;have h3:j<=c:=yAo hj hlc;have hA:Option.map (λx:Addr=>x.add 0) A=A:=by
     simp_all[Addr.add]
    rcases hlo with rfl|⟨k,rfl⟩<;>rcases hhi with ⟨rfl,rfl⟩|⟨k',rfl⟩
    all_goals (simp[Instr.sliceAt,run_underlying hu,Instr.slice,Instr.sliceBounds,Instr.sliceBound,asIntOf,Go.sizeOf,typeInfo,g1,h3];grind)
   have K5:w.ownsRow 0 T' (U.size un u) (.slice A j c) j (xs.take (j*U.size un u)):=by
    have hle:j*U.size un u<=l.length*U.size un u:=yAs _ hj;refine ⟨by rw[yAY,hh.1.1];omega,?_⟩;rcases hh.1.2 with ⟨h1,h0⟩|⟨g,cap,cur,h1,h2,h3,h4,h5,h6,h7⟩
    ·grind
    ·rw[hvv] at h1;cases h1;exact .inr ⟨g,c,cur,rfl,h2,h3,yAo hj h4,h5,h6,by rw[<-h7,List.take_take,yBV hle]⟩
   have hbl:(Value.slice A j c).ownBlock=v0.ownBlock:=(by rw[hvv];cases A<;>rfl);obtain ⟨Kt,K2⟩:=ze3 hs.Kr hr1 K5 (World.grownBy.refl w _) (.inl hbl);have hn:=zgD (H:=H) (r':= .wr (.slice A j c) T' (U.size un u) j (xs.take (j*U.size un u))) hr1 rfl;have hnb:(ids H)[b]?=some (false,v0):=by simp_all[zal]
   have hy:Rep un (ids (H.set b (.wr (.slice A j c) T' (U.size un u) j (xs.take (j*U.size un u))))) D w .junk v0:=(by grind[Rep]);have hbl:b<H.length:=(yAc.1 hr1).1;refine ⟨_,_,Kw,hs.step Kt ?_ (λi q hi=>?_) hd ?_,K2⟩
   ·refine (zbb K2 (λ_ _ _=>rfl) hnb hy hn hs.Kg).set ?_;simp only[Kc];refine ⟨trivial,trivial,by simp;omega,λi x hi=>?_⟩;have hij:i<j:=by have:=(yAc.1 hi).1;grind
    rw[yAt hij] at hi;have:=K9 i x hi;have hle:(i+1)*U.size un u<=j*U.size un u:=yAs _ hij;rw[yAz,yAQ] at hle;rw[List.drop_take,List.take_take,yBV (by omega)];exact this
   ·rw[za1] at hi;cases hl:zvo e i with
    |none=>grind|some p0 =>rw[hl] at hi;simp only[yAg,yAf] at hi;grind[zca,St.slots]
   ·simp only[Rep];refine ⟨?_,zfb K5⟩;simp_all[zal]
 |_=>grind[Kc]
end
end Pe
end
section
namespace Pe
open Go Go.RowKit
variable{S:Nat->Type}
section
variable{P:Program}{un:Uni S}{tb:Tb S}{orc:Orc S}{inl:Inl S}{E E':Wl.Ctx}{D0:Dat}{N:Wl.Fr}{D D':Dat}{H:List Wl.Res}{e:Env S}{bx:Bxs S}{a:Act}{w w':World}{o:Oper}{R:Type}{r:R}
theorem In.forget(h:In E D H w){b:Nat}{r:Wl.Res}(hb:H[b]?=some r)(hr:zax r=false):In E D (H.set b (.ref (zal r))) w :=
 h.turn hb (World.grownBy.refl w _) trivial (λg hg=>by cases hg) (λk o hk=>.inl hk) h.lt (λg hg=>by cases hg) λhe=>by grind
theorem zon:∀(tk:List (Nat×PV S)){H:List Wl.Res}{bx:Bxs S}{e:Env S},St un E N D H e bx a w->(∀p∈tk,∃r v,H[p.1]?=some r/\zax r=false/\zal r=(false,v)/\Rep un (ids H) D w p.2 v) ->
  ∃Hc,St un E N D Hc (zko tk e) (zd4 tk bx) a w/\ids Hc=ids H/\Hc.length=H.length/\∀i r,H[i]?=some r->(i∉tk.map (·.1)->Hc[i]?=some r)/\(i∈tk.map (·.1)->∃id,Hc[i]?=some (.ref id))
 |[],H,bx,e,hs,_=>⟨H,by grind[zko,zd4],rfl,rfl,λi r h=>⟨λ_=>h,λhm=>by simp at hm⟩⟩|(b,y)::tk,H,bx,e,hs,h=>by
   obtain ⟨r,v,h1,h2,h3,h4⟩:=h (b,y) (by simp);have Kt:=hs.Kr.forget h1 h2;have K8:ids (H.set b (.ref (zal r)))=ids H:=zaw h1 rfl;have hb:(ids H)[b]?=some (false,v):=by simp_all
   have hst:St un E N D (H.set b (.ref (zal r))) (zcW b y e) (zbe (bx.map (Box.kill b y)) b .gone) a w:=by
    refine ⟨Kt,hs.size,hs.defers,?_,λi q hi=>?_⟩;·rw[K8];exact (zbb (Ge.refl _ _) (λ_ _ _=>rfl) hb h4 (λi x hx=>.inl hx) hs.Kg).set (by grind[Kc])
    ·rw[K8];rw[za1] at hi;cases hl:zvo e i with
     |none=>grind|some p0 =>rw[hl] at hi;simp only[yAg,yAf] at hi;subst hi;exact zca (Ge.refl _ _) hb h4 (λi x hx=>.inl hx) (hs.slots i p0 hl)
   have hbl:b<H.length:=(yAc.1 h1).1;obtain ⟨Hc,g1,g2,g3,g4⟩:=zon tk hst (λp hp=>by
    obtain ⟨r',v',k1,k2,k3,k4⟩:=h p (by simp[hp]);by_cases hpb:b=p.1;·rw[<-hpb] at k1 ⊢;rw[h1] at k1;cases k1;exact ⟨_,v',yAx hbl,rfl,by grind,by grind⟩
    simp_all)
   refine ⟨Hc,by grind[zko,zd4],g2.trans K8,by grind,λi r' hi=>?_⟩;by_cases hib:b=i
   ·subst hib;refine ⟨λhm=>by simp at hm,λ_=>?_⟩;obtain ⟨k1,k2⟩:=g4 b _ (yAx hbl);grind
   ·obtain ⟨k1,k2⟩:=g4 i r' (by simp_all);refine ⟨λhm=>k1 λh'=>hm (by simp[h']),λhm=>k2 ?_⟩;simp only[yAn,yAm] at hm;exact hm.resolve_left λh'=>hib h'.symm
theorem Kk.gone{bx:Bxs S}{b:Nat}(hb:∃x,zam bx b=some x/\zdW x=true):Kk bx (zbe bx b .gone):=by
 obtain ⟨x,h1,h2⟩:=hb;refine Kk.set h1 ?_ λT cs he=>?_;·cases x<;>simp[zdW] at h2<;>rfl
 grind[zdW]
theorem znT{b:Nat}{y:PV S}{x:Box S}(h:zdW x=true):x.kill b y=x:=by cases x<;>simp[zdW] at h<;>rfl
theorem Ky.take:∀(tk:List (Nat×PV S))(e:Env S),Ky [] e (zko tk e)|[],e=>Ky.refl _ e|(b,y)::tk,e=>by simp only[zko];exact (Ky.kill b y e).trans (Ky.take tk _)
theorem Kk.take:∀(tk:List (Nat×PV S))(bx:Bxs S),(tk.map (·.1)).Nodup->(∀b∈tk.map (·.1),∃x,zam bx b=some x/\zdW x=true)->Kk bx (zd4 tk bx)|[],bx,_,_=>Kk.refl bx|(b,y)::tk,bx,hn,h=>by simp only[zd4];simp only[yAn,yA2] at hn;have hmap:∀b',(∃x,zam bx b'=some x/\zdW x=true)->∃x,zam (bx.map (Box.kill b y)) b'=some x/\zdW x=true:=λb' ⟨x,h1,h2⟩=>⟨x,by grind[za8,znT],h2⟩;refine ((Kk.kill b y bx).trans (Kk.gone (hmap b (h b (by simp))))).trans (Kk.take tk _ hn.2 λb' hb'=>?_);have hne:b'≠b:=λhe=>hn.1 (he▸hb');obtain ⟨x,k1,k2⟩:=hmap b' (h b' (by simp[hb']));grind[zat]
theorem Kk.freeze:∀(l:List Nat)(bx:Bxs S),Kk bx (zaq l bx)
 |[],bx=>Kk.refl bx|b::l,bx=>by
   simp only[zaq];refine Kk.trans ?_ (Kk.freeze l _);split;·rename_i u T x hg;exact Kk.set hg rfl λT cs he=>by cases he
   ·rename_i u T T2 x hg;exact Kk.set hg rfl λT cs he=>by cases he
   grind[refl]
theorem za9:∀(l:List Nat){bx:Bxs S}{i:Nat}{x:Box S},zam bx i=some x->(∀u T l,x≠ .wr u T l)->(∀u T T2 l h,x≠ .nst u T T2 l h)->zam (zaq l bx) i=some x
 |[],_,_,_,h,_,_=>h|b::l,bx,i,x,h,hn,hn2=>by
   simp only[zaq];refine za9 l ?_ hn hn2;grind[zat]
theorem zcn{ks:List Nat}:∀{l:List (Nat×List CTy)}{qs:List (PV S)},zcB bx l=some qs->zcB (zaq ks bx) l=some qs
 |[],qs,h=>h|(i,ts)::l,qs,h=>by
   unfold zcB at h ⊢;split at h;·rename_i T cs ps h1 h2;rw[za9 ks h1 (by intros;simp) (by intros;simp),zcn h2];exact h
   ·cases h
theorem zf7{ks:List Nat}:∀{ls:List Nat}{bs:List (Bool×TypeId×List CTy)},zcl bx ls bs=true->zcl (zaq ks bx) ls bs=true
 |[],[],h=>h|b::ls,(fl,T,l)::bs,h=>by
   unfold zcl at h ⊢;simp only[yAd] at h ⊢;refine ⟨?_,zf7 h.2⟩;grind[za9]
 |[],_::_,h=>by grind[zcl]
 |_::_,[],h=>by grind[zcl]
theorem zgI:∀{ls:List Nat}{bs:List (Bool×TypeId×List CTy)},zcl bx ls bs=true->ls.length=bs.length/\∀(k b:Nat)(fl:Bool)(T:TypeId)(l:List CTy),ls[k]?=some b->bs[k]?=some (fl,T,l)->∃cs,zam bx b=some (.var T cs)
 |[],[],_=>⟨rfl,λk b fl T l h=>by simp at h⟩|b::ls,(fl,T,l)::bs,h=>by
   unfold zcl at h;simp only[yAd] at h;obtain ⟨h1,h2⟩:=zgI h.2;refine ⟨by simp[h1],λk b' fl' T' l' hk hk'=>?_⟩;cases k with
   |zero =>
     simp at hk hk';obtain ⟨rfl,rfl,rfl⟩:=hk';subst hk;cases hg:zam bx b with
     |none=>grind|some x =>
       rw[hg] at h;cases x with
       |var T' cs=>simp only[yAd] at h;rw[yAa h.1.1];simp_all|_=>simp at h
   |succ k=>grind
 |[],_::_,h=>by grind[zcl]
 |_::_,[],h=>by grind[zcl]
def zbl(nu:Nu)(ls:List Nat):List Arg->List Value->List Value->Prop|[],[],[]=>True| .one _::as,v::vs,c::cs=>c=v/\zbl nu ls as vs cs| .agg ts::as,v::vs,cs=>∃l r,cs=l++r/\v= .agg l.toArray/\l.length=ts.length/\zbl nu ls as vs r| .ref k::as,v::vs,cs=>(∃b,ls[k]?=some b/\nu[b]?=some (true,v))/\zeZ v=true/\zbl nu ls as vs cs| .ptr k off::as,v::vs,cs=>(∃b g,ls[k]?=some b/\nu[b]?=some (true,.pointer (some ⟨g,0,none⟩))/\v= .pointer (some ⟨g,off,none⟩))/\zbl nu ls as vs cs| .fn f::as,v::vs,cs=>v= .func (.func f) #[] #[]/\zbl nu ls as vs cs| .nil::as,v::vs,cs=>v= .slice none 0 0/\zbl nu ls as vs cs| .agr ts k::as,v::vs,cs=>∃l r x,cs=l++r/\v= .agg (l++[x]).toArray/\l.length=ts.length/\(∃b,ls[k]?=some b/\nu[b]?=some (true,x))/\zeZ x=true/\zbl nu ls as vs r|_,_,_=>False
theorem zba{nu:Nu}{ls:List Nat}:∀{as:List Arg}{l ps:List (PV S)}{vs:List Value},zad ls as l=some ps->Ke un nu D w l vs->∃cs,Ke un nu D w ps cs/\zbl nu ls as vs cs
 |[],[],ps,vs,h,hr=>by grind[zad,Ke,zbl]
 | .one c::as,p::l,ps,v::vs,h,hr=>by
   simp only[Ke] at hr;unfold zad at h;split at h;·rename_i l' h1;cases h;obtain ⟨cs,g1,g2⟩:=zba h1 hr.2;exact ⟨v::cs,by simp_all[Ke],by simp_all[zbl]⟩
   ·cases h
 | .agg ts::as,.agg q::l,ps,v::vs,h,hr=>by
   simp only[Ke,Rep] at hr;unfold zad at h;split at h;·rename_i l' h1;obtain ⟨h2,h3⟩:=zae h;cases h3;obtain ⟨⟨c0,rfl,hc⟩,hr2⟩:=hr;obtain ⟨cs,g1,g2⟩:=zba h1 hr2;exact ⟨c0++cs,hc.append g1,by simp only[zbl];exact ⟨c0,cs,rfl,rfl,by rw[<-hc.length];exact yAa h2,g2⟩⟩
   ·cases h
 | .ref k::as,.ref b::l,ps,v::vs,h,hr=>by
   simp only[Ke,Rep] at hr;unfold zad at h;obtain ⟨h1,h2⟩:=zae h;obtain ⟨cs,g1,g2⟩:=zba h2 hr.2;refine ⟨cs,g1,?_⟩;simp only[zbl];cases hk:ls[k]? with
   |none=>rw[hk] at h1;cases h1|some b' =>rw[hk] at h1;have:=yAa h1;subst this;exact ⟨⟨b,rfl,hr.1.1⟩,hr.1.2,g2⟩
 | .ptr k off::as,.ptr b off'::l,ps,v::vs,h,hr=>by
   simp only[Ke,Rep] at hr;unfold zad at h;obtain ⟨h1,h2⟩:=zae h;simp only[yAd] at h1;obtain ⟨cs,g1,g2⟩:=zba h2 hr.2;refine ⟨cs,g1,?_⟩;simp only[zbl];have ho:=yAa h1.2;subst ho;cases hk:ls[k]? with
   |none=>rw[hk] at h1;cases h1.1|some b' =>rw[hk] at h1;have:=yAa h1.1;subst this;obtain ⟨⟨g,e1,e2⟩,_⟩:=hr;exact ⟨⟨b,g,rfl,e1,e2⟩,g2⟩
 | .fn f::as,.func (.func f') [] []::l,ps,v::vs,h,hr=>by simp only[Ke,Rep] at hr;unfold zad at h;obtain ⟨h1,h2⟩:=zae h;obtain ⟨cs,g1,g2⟩:=zba h2 hr.2;refine ⟨cs,g1,?_⟩;simp only[zbl];have:=yAa h1;subst this;refine ⟨?_,g2⟩;obtain ⟨⟨a,b,ha,hb,hc⟩,_⟩:=hr;cases a<;>cases b<;>simp_all [Ke]
 | .nil::as,.nils::l,ps,v::vs,h,hr=>by simp only[Ke,Rep] at hr;unfold zad at h;obtain ⟨cs,g1,g2⟩:=zba h hr.2;exact ⟨cs,g1,by simp only[zbl];exact ⟨hr.1,g2⟩⟩
 | .agr ts k::as,.agg q::l,ps,v::vs,h,hr=>by
   simp only[Ke,Rep] at hr;unfold zad at h;split at h
   ·rename_i b l' hb h1;obtain ⟨h2,h3⟩:=zae h;cases h3;simp only[yAd] at h2;obtain ⟨⟨c0,rfl,hc⟩,hr2⟩:=hr;obtain ⟨cs,g1,g2⟩:=zba h1 hr2;have hln:=yAa h2.2;have hcl:=hc.length;obtain ⟨x,hx,hrx⟩:=hc.get ts.length _ hb;simp only[Rep] at hrx;have Ks:(c0.take ts.length).length=ts.length:=by rw[yAY];omega
    refine ⟨c0.take ts.length++cs,(hc.take _).append g1,?_⟩;simp only[zbl];refine ⟨c0.take ts.length,cs,x,rfl,?_,Ks,?_,hrx.2,g2⟩
    ·congr 1;have:c0=c0.take ts.length++c0.drop ts.length:=(List.take_append_drop _ _).symm;have hd:c0.drop ts.length=[x]:=by
      have hl2:ts.length<c0.length:=(by omega);rw[yAV hl2,(yAc.1 hx).2,yAG (by omega)]
     rw[<-hd];rw[<-this]
    ·cases hk:ls[k]? with
     |none=>rw[hk] at h2;cases h2.1|some b' =>rw[hk] at h2;have:=yAa h2.1;subst this;exact ⟨b,rfl,hrx.1⟩
   ·cases h
 | .agr _ _::_,[],_,_,h,_=>by simp[zad] at h
 | .agr _ _::_,.int _ _::_,_,_,h,_=>by simp[zad] at h
 | .agr _ _::_,.bool _::_,_,_,h,_=>by simp[zad] at h
 | .agr _ _::_,.str _::_,_,_,h,_=>by simp[zad] at h
 | .agr _ _::_,.sl _ _::_,_,_,h,_=>by simp[zad] at h
 | .agr _ _::_,.nils::_,_,_,h,_=>by simp[zad] at h
 | .agr _ _::_,.st _ _::_,_,_,h,_=>by simp[zad] at h
 | .agr _ _::_,.tup _::_,_,_,h,_=>by simp[zad] at h
 | .agr _ _::_,.elp _ _ _::_,_,_,h,_=>by simp[zad] at h
 | .agr _ _::_,.ptr _ _::_,_,_,h,_=>by simp[zad] at h
 | .agr _ _::_,.nilp::_,_,_,h,_=>by simp[zad] at h
 | .agr _ _::_,.row _::_,_,_,h,_=>by simp[zad] at h
 | .agr _ _::_,.ref _::_,_,_,h,_=>by simp[zad] at h
 | .agr _ _::_,.elr _ _ _ _::_,_,_,h,_=>by simp[zad] at h
 | .agr _ _::_,.cont _ _::_,_,_,h,_=>by simp[zad] at h
 | .agr _ _::_,.func _ _ _::_,_,_,h,_=>by simp[zad] at h
 | .agr _ _::_,.nilFunc::_,_,_,h,_=>by simp[zad] at h
 | .agr _ _::_,.iface _ _::_,_,_,h,_=>by simp[zad] at h
 | .agr _ _::_,.nilIface::_,_,_,h,_=>by simp[zad] at h
 | .agr _ _::_,.junk::_,_,_,h,_=>by simp[zad] at h
 | .agr _ _::_,.bref _ _::_,_,_,h,_=>by simp[zad] at h
 | .agr _ _::_,.rsl _ _ _::_,_,_,h,_=>by simp[zad] at h
 |[],_::_,_,_,h,_=>by simp[zad] at h
 | .nil::_,[],_,_,h,_=>by simp[zad] at h
 | .fn _::_,[],_,_,h,_=>by simp[zad] at h
 | .one _::_,[],_,_,h,_=>by simp[zad] at h
 | .agg _::_,[],_,_,h,_=>by simp[zad] at h
 | .ref _::_,[],_,_,h,_=>by simp[zad] at h
 | .ptr _ _::_,[],_,_,h,_=>by simp[zad] at h
 |_::_,_::_,_,[],_,hr=>by simp[Ke] at hr
 | .agg _::_,.int _ _::_,_,_,h,_=>by simp[zad] at h
 | .agg _::_,.bool _::_,_,_,h,_=>by simp[zad] at h
 | .agg _::_,.str _::_,_,_,h,_=>by simp[zad] at h
 | .agg _::_,.sl _ _::_,_,_,h,_=>by simp[zad] at h
 | .agg _::_,.nils::_,_,_,h,_=>by simp[zad] at h
 | .agg _::_,.st _ _::_,_,_,h,_=>by simp[zad] at h
 | .agg _::_,.tup _::_,_,_,h,_=>by simp[zad] at h
 | .agg _::_,.elp _ _ _::_,_,_,h,_=>by simp[zad] at h
 | .agg _::_,.ptr _ _::_,_,_,h,_=>by simp[zad] at h
 | .agg _::_,.nilp::_,_,_,h,_=>by simp[zad] at h
 | .agg _::_,.row _::_,_,_,h,_=>by simp[zad] at h
 | .agg _::_,.ref _::_,_,_,h,_=>by simp[zad] at h
 | .agg _::_,.elr _ _ _ _::_,_,_,h,_=>by simp[zad] at h
 | .agg _::_,.cont _ _::_,_,_,h,_=>by simp[zad] at h
 | .agg _::_,.func _ _ _::_,_,_,h,_=>by simp[zad] at h
 | .agg _::_,.nilFunc::_,_,_,h,_=>by simp[zad] at h
 | .agg _::_,.iface _ _::_,_,_,h,_=>by simp[zad] at h
 | .agg _::_,.nilIface::_,_,_,h,_=>by simp[zad] at h
 | .agg _::_,.junk::_,_,_,h,_=>by simp[zad] at h
 | .agg _::_,.bref _ _::_,_,_,h,_=>by simp[zad] at h
 | .agg _::_,.rsl _ _ _::_,_,_,h,_=>by simp[zad] at h
 | .ref _::_,.int _ _::_,_,_,h,_=>by simp[zad] at h
 | .ref _::_,.bool _::_,_,_,h,_=>by simp[zad] at h
 | .ref _::_,.str _::_,_,_,h,_=>by simp[zad] at h
 | .ref _::_,.sl _ _::_,_,_,h,_=>by simp[zad] at h
 | .ref _::_,.nils::_,_,_,h,_=>by simp[zad] at h
 | .ref _::_,.st _ _::_,_,_,h,_=>by simp[zad] at h
 | .ref _::_,.agg _::_,_,_,h,_=>by simp[zad] at h
 | .ref _::_,.tup _::_,_,_,h,_=>by simp[zad] at h
 | .ref _::_,.elp _ _ _::_,_,_,h,_=>by simp[zad] at h
 | .ref _::_,.ptr _ _::_,_,_,h,_=>by simp[zad] at h
 | .ref _::_,.nilp::_,_,_,h,_=>by simp[zad] at h
 | .ref _::_,.row _::_,_,_,h,_=>by simp[zad] at h
 | .ref _::_,.elr _ _ _ _::_,_,_,h,_=>by simp[zad] at h
 | .ref _::_,.cont _ _::_,_,_,h,_=>by simp[zad] at h
 | .ref _::_,.func _ _ _::_,_,_,h,_=>by simp[zad] at h
 | .ref _::_,.nilFunc::_,_,_,h,_=>by simp[zad] at h
 | .ref _::_,.iface _ _::_,_,_,h,_=>by simp[zad] at h
 | .ref _::_,.nilIface::_,_,_,h,_=>by simp[zad] at h
 | .ref _::_,.junk::_,_,_,h,_=>by simp[zad] at h
 | .ref _::_,.bref _ _::_,_,_,h,_=>by simp[zad] at h
 | .ref _::_,.rsl _ _ _::_,_,_,h,_=>by simp[zad] at h
 | .ptr _ _::_,.int _ _::_,_,_,h,_=>by simp[zad] at h
 | .ptr _ _::_,.bool _::_,_,_,h,_=>by simp[zad] at h
 | .ptr _ _::_,.str _::_,_,_,h,_=>by simp[zad] at h
 | .ptr _ _::_,.sl _ _::_,_,_,h,_=>by simp[zad] at h
 | .ptr _ _::_,.nils::_,_,_,h,_=>by simp[zad] at h
 | .ptr _ _::_,.st _ _::_,_,_,h,_=>by simp[zad] at h
 | .ptr _ _::_,.agg _::_,_,_,h,_=>by simp[zad] at h
 | .ptr _ _::_,.tup _::_,_,_,h,_=>by simp[zad] at h
 | .ptr _ _::_,.elp _ _ _::_,_,_,h,_=>by simp[zad] at h
 | .ptr _ _::_,.ref _::_,_,_,h,_=>by simp[zad] at h
 | .ptr _ _::_,.nilp::_,_,_,h,_=>by simp[zad] at h
 | .ptr _ _::_,.row _::_,_,_,h,_=>by simp[zad] at h
 | .ptr _ _::_,.elr _ _ _ _::_,_,_,h,_=>by simp[zad] at h
 | .ptr _ _::_,.cont _ _::_,_,_,h,_=>by simp[zad] at h
 | .ptr _ _::_,.func _ _ _::_,_,_,h,_=>by simp[zad] at h
 | .ptr _ _::_,.nilFunc::_,_,_,h,_=>by simp[zad] at h
 | .ptr _ _::_,.iface _ _::_,_,_,h,_=>by simp[zad] at h
 | .ptr _ _::_,.nilIface::_,_,_,h,_=>by simp[zad] at h
 | .ptr _ _::_,.junk::_,_,_,h,_=>by simp[zad] at h
 | .ptr _ _::_,.bref _ _::_,_,_,h,_=>by simp[zad] at h
 | .ptr _ _::_,.rsl _ _ _::_,_,_,h,_=>by simp[zad] at h
theorem zbH{nu nu':Nu}{ls:List Nat}(hn:∀(k b:Nat)(x:Bool×Value),ls[k]?=some b->nu[b]?=some x->nu'[k]?=some x):∀{as:List Arg}{vs cs:List Value}{ps:List (PV S)},zbl nu ls as vs cs->Ke un nu' D w ps cs->Ke un nu' D w (zww as ps) vs
 |[],[],[],ps,_,_=>by simp[zww,Ke]
 | .one _::as,v::vs,c::cs,[],_,hr=>by grind[Ke]
 | .one _::as,v::vs,c::cs,p::ps,h,hr=>by simp only[zbl] at h;simp only[Ke] at hr;obtain ⟨rfl,h⟩:=h;simp only[zww,Ke];exact ⟨hr.1,zbH hn h hr.2⟩
 | .agg ts::as,v::vs,cs,ps,h,hr=>by simp only[zbl] at h;obtain ⟨l,r,rfl,rfl,hl,h⟩:=h;simp only[zww,Ke,Rep];have h1:=hr.take ts.length;have h2:=hr.drop ts.length;rw[<-hl,yBr] at h1;rw[<-hl,yBy] at h2;rw[hl] at h1 h2;exact ⟨⟨l,rfl,h1⟩,zbH hn h h2⟩
 | .ref k::as,v::vs,cs,ps,h,hr=>by simp only[zbl] at h;obtain ⟨⟨b,h1,h2⟩,h3,h⟩:=h;simp only[zww,Ke,Rep];exact ⟨⟨hn k b _ h1 h2,h3⟩,zbH hn h hr⟩
 | .ptr k off::as,v::vs,cs,ps,h,hr=>by simp only[zbl] at h;obtain ⟨⟨b,g,h1,h2,rfl⟩,h⟩:=h;simp only[zww,Ke,Rep];exact ⟨⟨g,hn k b _ h1 h2,rfl⟩,zbH hn h hr⟩
 | .fn f::as,v::vs,cs,ps,h,hr=>by simp only[zbl] at h;obtain ⟨rfl,h⟩:=h;simp only[zww,Ke,Rep];exact ⟨⟨[],[],rfl,trivial,trivial⟩,zbH hn h hr⟩
 | .nil::as,v::vs,cs,ps,h,hr=>by simp only[zbl] at h;obtain ⟨rfl,h⟩:=h;simp only[zww,Ke,Rep];exact ⟨trivial,zbH hn h hr⟩
 | .agr ts k::as,v::vs,cs,ps,h,hr=>by simp only[zbl] at h;obtain ⟨l,r,x,rfl,rfl,hl,⟨b,h1,h2⟩,h3,h⟩:=h;simp only[zww,Ke,Rep];have k1:=hr.take ts.length;have k2:=hr.drop ts.length;rw[<-hl,yBr] at k1;rw[<-hl,yBy] at k2;rw[hl] at k1 k2;refine ⟨⟨l++[x],rfl,k1.append ?_⟩,zbH hn h k2⟩;simp only[Ke,Rep];exact ⟨⟨hn k b _ h1 h2,h3⟩,trivial⟩
 | .agr _ _::_,[],_,_,h,_=>by simp[zbl] at h
 |[],[],_::_,_,h,_=>by simp[zbl] at h
 | .nil::_,[],_,_,h,_=>by simp[zbl] at h
 | .fn _::_,[],_,_,h,_=>by simp[zbl] at h
 |[],_::_,_,_,h,_=>by simp[zbl] at h
 | .one _::_,[],_,_,h,_=>by simp[zbl] at h
 | .agg _::_,[],_,_,h,_=>by simp[zbl] at h
 | .ref _::_,[],_,_,h,_=>by simp[zbl] at h
 | .ptr _ _::_,[],_,_,h,_=>by simp[zbl] at h
 | .one _::_,_::_,[],_,h,_=>by simp[zbl] at h
theorem zfS{r:Wl.Res}(h:Wl.Res.holds E w r)(hm:∀g,r.has g->E'.may g):Wl.Res.holds E' w r:=by
 cases r with
 |box g T cs=>exact ⟨hm g rfl,h.2⟩|own v T size n xs=>exact ⟨h.1,hm⟩|wr v T size n xs=>exact ⟨h.1,hm⟩|fix v g size ob=>exact ⟨h.1,λg0 hg=>⟨hm g0 hg,(h.2 g0 hg).2⟩⟩|ref id=>trivial|grp g es c T2 s2 rows=>exact ⟨⟨hm g (.inl rfl),h.1.2⟩,λi q hq=>⟨(h.2.1 i q hq).1,λg hg=>hm g (.inr ⟨i,q,hq,hg⟩),(h.2.1 i q hq).2.2⟩,h.2.2⟩|nst v T n xs T2 s2 rows=>exact ⟨h.1,λg hg=>hm g (.inl hg),λi q hq=>⟨(h.2.2.1 i q hq).1,λg hg=>hm g (.inr ⟨i,q,hq,hg⟩),(h.2.2.1 i q hq).2.2⟩,h.2.2.2⟩
theorem zkS{H0:List Wl.Res}{g:Nat}(h:g∈zaB H0):∃r,r∈H0/\r.has g:=by simp_all[Wl.Res.mem_blocks]
theorem mem_blocks{H0:List Wl.Res}{r:Wl.Res}{g:Nat}(hr:r∈H0)(hg:r.has g):g∈zaB H0:=yCn.2 ⟨r,hr,Wl.Res.mem_blocks.2 hg⟩
theorem In.sub(h:In E D H w){H0:List Wl.Res}{fx:List Value}(f:Nat->Option Nat)(h1:∀(k:Nat) r,H0[k]?=some r->((∀g,¬r.has g)/\Wl.Res.holds E w r)\/∃i,f k=some i/\H[i]?=some r)(h2:∀k k' i,f k=some i->f k'=some i->k=k')
  (hl:∀(i:Nat) v,fx[i]?=some v->∃r,H0[i]?=some r/\zax r=true/\zal r=(true,v)/\keptR w r):In ⟨w,zaB H0,fx⟩ D H0 w:=by
 refine ⟨Wl.Grow.refl _ _,h.lt,λr hr=>?_,λr hr g hg o hf hd=>?_,?_,λi v hv=>hl i v (zyx hv).1⟩
 ·obtain ⟨k,hk⟩:=yAl hr;have hh:Wl.Res.holds E w r:=by
   rcases h1 k r hk with h3|⟨i,_,h3⟩;·exact h3.2
   ·exact h.res r (yAb h3)
  exact zfS hh λg hg=>.inr (mem_blocks hr hg)
 ·obtain ⟨k,hk⟩:=yAl hr;rcases h1 k r hk with h3|⟨i,_,h3⟩;·exact absurd hg (h3.1 g)
  ·exact h.apart r (yAb h3) g hg o hf hd
 ·rw[yAH];intro i j hi hj hij g hg hg';rcases h1 i _ (yAe hi) with h3|⟨x,hx,h3⟩;·exact absurd hg (h3.1 g)
  ·rcases h1 j _ (yAe hj) with h4|⟨y,hy,h4⟩;·exact absurd hg' (h4.1 g)
   ·have hxy:x≠y:=λhe=>by subst he;have:=h2 i j x hx hy;omega
    exact hxy (zaK h.disj h3 h4 hg hg')
theorem zkX{nu nu':Nu}:∀{bs:List (Bool×TypeId×List CTy)}{ls:List Nat}{ps:List (PV S)}{rest:List Value},zcl bx ls bs=true->Kj un nu D w E bx H->(∀i ts,(i,ts)∈ls.zip (bs.map (·.2.2))->(zbz H i).length=ts.length)->Ke un nu' D' w' ps (zcd H (ls.zip (bs.map (·.2.2)))++rest) ->
  Kj un nu' D' w' E' (zbO bs ps) (ls.map λb=>(H[b]?).getD (.ref (false,undef)))
 |[],[],_,_,_,_,_,_=>by simp[zbO,Kj]
 |(fl,T,l)::bs,b::ls,ps,rest,hb,hx,hl,hr=>by have hty:=(zgI hb).2;obtain ⟨cs,hg⟩:=hty 0 b fl T l rfl rfl;obtain ⟨r,g1,g2,g3,g4,g5⟩:=zbp hx hg;unfold zcl at hb;simp only[yAd] at hb;have h0:=hl b l (by simp);simp only[yAn,yBq,zcd,yA5] at hr;have h1:=hr.take l.length;have h2:=hr.drop l.length;rw[<-h0,yBr] at h1;rw[<-h0,yBy] at h2;rw[h0] at h1 h2;simp only[zbO,yAn,Kj,g1,yB8];refine ⟨ziN g5 (by grind),zkX hb.2 hx (λi ts hi=>hl i ts (by simp[hi])) h2⟩
 |[],_::_,_,_,hb,_,_,_=>by grind[zcl]
 |_::_,[],_,_,hb,_,_,_=>by grind[zcl]
def zgL:List Nat->List Wl.Res->List Wl.Res->List Wl.Res|b::ls,r::rs,H=>zgL ls rs (H.set b r)|_,_,H=>H
theorem zbw:∀(ls:List Nat)(rs H:List Wl.Res),(zgL ls rs H).length=H.length
 |[],_,_=>by simp[zgL]
 |_::_,[],_=>by simp[zgL]
 |b::ls,r::rs,H=>by simp only[zgL];rw[zbw ls rs];simp
theorem zey:∀{ls:List Nat}{rs H:List Wl.Res}{i:Nat},i∉ls->(zgL ls rs H)[i]?=H[i]?
 |[],_,_,_,_=>by simp[zgL]
 |_::_,[],_,_,_=>by simp[zgL]
 |b::ls,r::rs,H,i,h=>by simp only[yAm,not_or] at h;simp only[zgL];rw[zey h.2,yAr λhe=>h.1 he.symm]
theorem zgo:∀{ls:List Nat}{rs H:List Wl.Res}{k b:Nat}{r:Wl.Res},ls.Nodup->ls[k]?=some b->rs[k]?=some r->b<H.length->(zgL ls rs H)[b]?=some r
 |c::ls,s::rs,H,0,b,r,hn,h1,h2,h3=>by grind[zgL,zey]
 |c::ls,s::rs,H,k+1,b,r,hn,h1,h2,h3=>by simp only[zgL];exact zgo (yA2.1 hn).2 (by simpa using h1) (by grind) (by grind)
 |[],_,_,_,_,_,_,h1,_,_=>by simp at h1
 |_::_,[],_,_,_,_,_,_,h2,_=>by simp at h2
theorem In.back(h:In E D H w){H0 H':List Wl.Res}{fx:List Value}{ls:List Nat}(hc:In ⟨w,zaB H0,fx⟩ D' H' w')(h0:∀g∈zaB H0,E.may g)(hout:∀(i:Nat) r g,i∉ls->H[i]?=some r->r.has g->g∉zaB H0)
  (up:∀k o,D' k o->D k o\/(⟨w,zaB H0,fx⟩:Wl.Ctx).may k) (hn:ls.Nodup) (hls:∀(k b:Nat),ls[k]?=some b->∃r r',H[b]?=some r/\zax r=true/\H'[k]?=some r'/\zax r'=true/\zal r'=zal r/\keptR w r') :
  In E D' (zgL ls H' H++H'.drop ls.length) w'/\(∀(i:Nat) x,(ids H)[i]?=some x->(ids (zgL ls H' H++H'.drop ls.length))[i]?=some x)/\∀j x,(ids H')[ls.length+j]?=some x->(ids (zgL ls H' H++H'.drop ls.length))[H.length+j]?=some x:=by
 have hmay:∀g,(⟨w,zaB H0,fx⟩:Wl.Ctx).may g->E.may g:=λg hg=>by
  rcases hg with hg|hg;·exact .inl (yAo h.out.size hg)
  grind
 have hbelow:∀b,b∈ls->b<H.length:=λb hb=>by obtain ⟨k,hk⟩:=yAl hb;obtain ⟨r,_,h1,_⟩:=hls k b hk;exact (yAc.1 h1).1
 have hpl:(zgL ls H' H).length=H.length:=zbw _ _ _
 -- where an element zde from
 have src:∀(j:Nat) s,(zgL ls H' H++H'.drop ls.length)[j]?=some s->(j∉ls/\H[j]?=some s)\/∃k,H'[k]?=some s/\((j<H.length/\ls[k]?=some j)\/(H.length<=j/\k=ls.length+(j - H.length))):=by
  intro j s hj;rcases yAT j H.length with Ks|K2
  ·rw[yAk (by omega)] at hj;by_cases hm:j∈ls;·obtain ⟨k,hk⟩:=yAl hm;grind[zgo]
   grind[zey]
  ·rw[yAF (by omega),hpl,yAu] at hj;exact .inr ⟨_,hj,.inr ⟨K2,rfl⟩⟩
 have keep:∀(i:Nat) r g,i∉ls->H[i]?=some r->r.has g->w'.heap[g]?=w.heap[g]? :=λi r g hi hr hg =>
  hc.out.block g (Wl.Res.holds_lt (h.res r (yAb hr)) hg).2 (hout i r g hi hr hg)
 refine ⟨⟨⟨hc.out.os.trans h.out.os,hc.out.tape.trans h.out.tape,hc.out.output.trans h.out.output,yAo h.out.size hc.out.size,λk hk hn=>?_⟩,hc.lt,λr hr=>?_,λr hr g hg o hf hd=>?_,?_,λi v hi=>?_⟩,λi x hx=>?_,λj x hx=>?_⟩
 ·refine (hc.out.block k (yAq hk h.out.size) λhm=>?_).trans (h.out.block k hk hn);rcases h0 k hm with h1|h1;·omega
  ·exact hn h1
 ·obtain ⟨j,hj⟩:=yAl hr;rcases src j r hj with ⟨h1,h2⟩|⟨k,h1,_⟩;·exact Wl.Res.holds_of (h.res r (yAb h2)) λg hg=>keep j r g h1 h2 hg
  ·have hh:=hc.res r (yAb h1);exact zfS hh λg hg=>hmay g (Wl.Res.holds_lt hh hg).1
 ·obtain ⟨j,hj⟩:=yAl hr;rcases src j r hj with ⟨h1,h2⟩|⟨k,h1,_⟩
  ·rcases up g o hd with h3|h3|h3;·exact h.apart r (yAb h2) g hg o hf h3
   ·have h4:=(Wl.Res.holds_lt (h.res r (yAb h2)) hg).2;grind
   grind
  ·exact hc.apart r (yAb h1) g hg o hf hd
 ·rw[yAH];intro i j hi hj hij g hg hg';rcases src i _ (yAe hi) with ⟨a1,a2⟩|⟨k,a1,a2⟩<;>rcases src j _ (yAe hj) with ⟨b1,b2⟩|⟨k',b1,b2⟩;·have:=zaK h.disj a2 b2 hg hg';omega
  ·have h4:=(Wl.Res.holds_lt (h.res _ (yAb a2)) hg).2;rcases (Wl.Res.holds_lt (hc.res _ (yAb b1)) hg').1 with h5|h5
   ·grind
   grind
  ·have h4:=(Wl.Res.holds_lt (h.res _ (yAb b2)) hg').2;rcases (Wl.Res.holds_lt (hc.res _ (yAb a1)) hg).1 with h5|h5
   ·grind
   grind
  ·have hkk:=zaK hc.disj a1 b1 hg hg';subst hkk;rcases a2 with ⟨a3,a4⟩|⟨a3,a4⟩<;>rcases b2 with ⟨b3,b4⟩|⟨b3,b4⟩;·grind
   ·have:=(yAc.1 a4).1;omega
   ·omega
   ·omega
 ·obtain ⟨r,h1,h2,h3,h4⟩:=h.lent i v hi;have hil:=(yAc.1 h1).1;rw[yAk (by omega)];by_cases hm:i∈ls;·obtain ⟨k,hk⟩:=yAl hm;obtain ⟨r0,r',k1,k2,k3,k4,k5,k6⟩:=hls k i hk;rw[h1] at k1;cases k1;exact ⟨r',zgo hn hk k3 hil,k4,k5.trans h3,keptR.trans (h.res _ (yAb h1)) (hc.res _ (yAb k3)) h2 k4 k5 h4 k6⟩
  grind
 ·simp only[ids,yAh] at hx ⊢;have hil:i<H.length:=by
   cases hh:H[i]? with
   |none=>grind|some r=>exact (yAc.1 hh).1
  rw[yAk (by omega)];by_cases hm:i∈ls;·obtain ⟨k,hk⟩:=yAl hm;obtain ⟨r0,r',k1,k2,k3,k4,k5,_⟩:=hls k i hk;rw[zgo hn hk k3 hil];rw[k1] at hx;simp_all
  grind
 simp_all[yAF]
def Sh(un:Uni S)(nu nu':Nu)(D:Dat)(w:World)(p p':PV S):Prop:=∀v,Rep un nu D w p v->Rep un nu' D w p' v
def ShL(un:Uni S)(nu nu':Nu)(D:Dat)(w:World):List (PV S)->List (PV S)->Prop|[],[]=>True|p::ps,q::qs=>Sh un nu nu' D w p q/\ShL un nu nu' D w ps qs|_,_=>False
theorem ShL.rep{nu nu':Nu}:∀{ps qs:List (PV S)}{vs:List Value},ShL un nu nu' D w ps qs->Ke un nu D w ps vs->Ke un nu' D w qs vs
 |[],[],vs,_,h=>by grind[Ke]
 |p::ps,q::qs,v::vs,hs,h=>by simp only[Ke] at h ⊢;exact ⟨hs.1 v h.1,ShL.rep hs.2 h.2⟩
 |p::ps,q::qs,[],_,h=>by grind[Ke]
 |[],_::_,_,hs,_=>hs.elim|_::_,[],_,hs,_=>hs.elim
theorem ShL.take{nu nu':Nu}:∀{ps qs:List (PV S)},ShL un nu nu' D w ps qs->∀n,ShL un nu nu' D w (ps.take n) (qs.take n)
 |_,_,_,0=>by simp[ShL]
 |[],[],_,n+1=>by simp[ShL]
 |p::ps,q::qs,h,n+1=>⟨h.1,ShL.take h.2 n⟩|[],_::_,h,_+1=>h.elim|_::_,[],h,_+1=>h.elim
theorem ShL.drop{nu nu':Nu}:∀{ps qs:List (PV S)},ShL un nu nu' D w ps qs->∀n,ShL un nu nu' D w (ps.drop n) (qs.drop n)
 |_,_,h,0=>h|[],[],_,n+1=>by simp[ShL]
 |p::ps,q::qs,h,n+1=>ShL.drop h.2 n|[],_::_,h,_+1=>h.elim|_::_,[],h,_+1=>h.elim
theorem zgx{nu nu':Nu}:∀(ts:List CTy)(t:ElL S (ts.map CTy.code))(m m':Nat),(∀j x,nu[m+j]?=some x->nu'[m'+j]?=some x)->ShL un nu nu' D w (zcI ts t m) (zcI ts t m')
 |[],_,_,_,_=>trivial| .fr u::ts,t,m,m',hn=>⟨λv h=>zdg h,zgx ts t.2 m m' hn⟩| .own u T::ts,t,m,m',hn=>by
   refine ⟨λv h=>?_,zgx ts t.2 (m+1) (m'+1) λj x hj=>?_⟩;·simp only[Rep] at h ⊢;exact ⟨by simpa using hn 0 _ (by simpa using h.1),h.2⟩
   ·have:=hn (j+1) x (by rwa[show m+(j+1)=m+1+j by omega]);rwa[show m'+(j+1)=m'+1+j by omega] at this
 | .wr u T::ts,t,m,m',hn=>by
   refine ⟨λv h=>?_,zgx ts t.2 (m+1) (m'+1) λj x hj=>?_⟩;·simp only[Rep] at h ⊢;exact ⟨by simpa using hn 0 _ (by simpa using h.1),h.2⟩
   ·have:=hn (j+1) x (by rwa[show m+(j+1)=m+1+j by omega]);rwa[show m'+(j+1)=m'+1+j by omega] at this
 | .pt u T::ts,t,m,m',hn=>by
   refine ⟨λv h=>?_,zgx ts t.2 (m+1) (m'+1) λj x hj=>?_⟩;·simp only[Rep] at h ⊢;obtain ⟨fl,g,n,c,h1,h2⟩:=h;exact ⟨fl,g,n,c,by simpa using hn 0 _ (by simpa using h1),h2⟩
   ·have:=hn (j+1) x (by rwa[show m+(j+1)=m+1+j by omega]);rwa[show m'+(j+1)=m'+1+j by omega] at this
 | .grp u0 T0::ts,t,m,m',hn=>by
   refine ⟨λv h=>?_,zgx ts t.2 (m+1) (m'+1) λj x hj=>?_⟩;·simp only[Rep] at h ⊢;exact ⟨by simpa using hn 0 _ (by simpa using h.1),h.2⟩
   ·have:=hn (j+1) x (by rwa[show m+(j+1)=m+1+j by omega]);rwa[show m'+(j+1)=m'+1+j by omega] at this
 | .nst u T T2::ts,t,m,m',hn=>by
   refine ⟨λv h=>?_,zgx ts t.2 (m+1) (m'+1) λj x hj=>?_⟩;·simp only[Rep] at h ⊢;exact ⟨by simpa using hn 0 _ (by simpa using h.1),h.2⟩
   ·have:=hn (j+1) x (by rwa[show m+(j+1)=m+1+j by omega]);rwa[show m'+(j+1)=m'+1+j by omega] at this
theorem zbx:∀(ts:List CTy)(t:ElL S (ts.map CTy.code))(m:Nat),(zcI ts t m).length=ts.length
 |[],_,_=>rfl| .fr u::ts,t,m=>by simp[zcI,zbx ts t.2 m]
 | .own u T::ts,t,m=>by simp[zcI,zbx ts t.2 (m+1)]
 | .wr u T::ts,t,m=>by simp[zcI,zbx ts t.2 (m+1)]
 | .nst u T T2::ts,t,m=>by simp[zcI,zbx ts t.2 (m+1)]
 | .grp u T2::ts,t,m=>by simp[zcI,zbx ts t.2 (m+1)]
 | .pt u T::ts,t,m=>by simp[zcI,zbx ts t.2 (m+1)]
theorem zmH{nu nu':Nu}:∀{bs:List (Bool×TypeId×List CTy)}{ps qs:List (PV S)}{H1:List Wl.Res},ShL un nu nu' D w ps qs->Kj un nu D w E (zbO bs ps) H1->Kj un nu' D w E' (zbO bs qs) H1
 |[],_,_,[],_,_=>by simp[zbO,Kj]
 |(fl,T,l)::bs,ps,qs,r::H1,hs,h=>by simp only[zbO,Kj] at h ⊢;exact ⟨ziN h.1 ((hs.take l.length).rep (zf6 h.1).2.1),zmH (hs.drop l.length) h.2⟩
 |[],_,_,_::_,_,h=>by grind[zbO,Kj]
 |_::_,_,_,[],_,h=>by grind[zbO,Kj]
theorem zdm{nu nu':Nu}:∀{ts:List CTy}{t:ElL S (ts.map CTy.code)}{H1:List Wl.Res},Kj un nu D w E (zbo ts t) H1->Kj un nu' D w E' (zbo ts t) H1
 |[],_,[],_=>by simp[zbo,Kj]
 | .fr u::ts,t,H1,h=>by simp only[zbo] at h ⊢;exact zdm h
 | .own u T::ts,t,r::H1,h=>by simp only[zbo,Kj] at h ⊢;refine ⟨?_,zdm h.2⟩;cases r<;>simp only[Kc] at h ⊢ <;>exact h.1
 | .wr u T::ts,t,r::H1,h=>by simp only[zbo,Kj] at h ⊢;refine ⟨?_,zdm h.2⟩;cases r<;>simp only[Kc] at h ⊢ <;>exact h.1
 | .pt u T::ts,t,r::H1,h=>by simp only[zbo,Kj] at h ⊢;refine ⟨?_,zdm h.2⟩;cases r<;>simp only[Kc] at h ⊢ <;>exact h.1
 | .nst u T T2::ts,t,r::H1,h=>by simp only[zbo,Kj] at h ⊢;refine ⟨?_,zdm h.2⟩;cases r<;>simp only[Kc] at h ⊢ <;>exact h.1
 | .grp u T2::ts,t,r::H1,h=>by simp only[zbo,Kj] at h ⊢;refine ⟨?_,zdm h.2⟩;cases r<;>simp only[Kc] at h ⊢ <;>exact h.1
 |[],_,_::_,h=>by simp[zbo,Kj] at h
 | .own _ _::_,_,[],h=>by simp[zbo,Kj] at h
 | .wr _ _::_,_,[],h=>by simp[zbo,Kj] at h
 | .nst _ _ _::_,_,[],h=>by simp[zbo,Kj] at h
 | .grp _ _::_,_,[],h=>by simp[zbo,Kj] at h
 | .pt _ _::_,_,[],h=>by simp[zbo,Kj] at h
theorem zB0:∀{ts:List CTy}{ps:List (PV S)},zq7 ts=true->∀x∈zcC bx ts ps,PV.row x.1∈ps
 |[],[],_,x,hx=>by simp[zcC] at hx
 |[],_::_,_,x,hx=>by simp[zcC] at hx
 |_::_,[],_,x,hx=>by simp[zcC] at hx
 | .fr _::ts,p::ps,h,x,hx=>by simp only[zq7,zcC] at h hx;exact yB6 _ (zB0 h x hx)
 | .nst _ _ _::ts,p::ps,h,x,hx=>by simp[zq7] at h
 | .pt _ _::ts,p::ps,h,x,hx=>by simp[zq7] at h
 | .grp _ _::ts,p::ps,h,x,hx=>by simp[zq7] at h
 | .own _ _::ts,p::ps,h,x,hx=>by
   simp only[zq7] at h;cases p with
   |row b =>
     simp only[zcC,yAm] at hx;rcases hx with rfl|hx;·simp
     ·exact yB6 _ (zB0 h x hx)
   |_=>simp only[zcC] at hx;exact yB6 _ (zB0 h x hx)
 | .wr _ _::ts,p::ps,h,x,hx=>by
   simp only[zq7] at h;cases p with
   |row b =>
     simp only[zcC,yAm] at hx;rcases hx with rfl|hx;·simp
     ·exact yB6 _ (zB0 h x hx)
   |_=>simp only[zcC] at hx;exact yB6 _ (zB0 h x hx)
theorem zB1:∀{a b:List CTy},zq7 (a++b)=true->zq7 a=true
 |[],_,_=>rfl| .fr _::a,b,h=>by simp only[yA3,zq7] at h ⊢;exact zB1 h
 | .own _ _::a,b,h=>by simp only[yA3,zq7] at h ⊢;exact zB1 h
 | .wr _ _::a,b,h=>by simp only[yA3,zq7] at h ⊢;exact zB1 h
 | .nst _ _ _::a,b,h=>by simp[zq7] at h
 | .pt _ _::a,b,h=>by simp[zq7] at h
 | .grp _ _::a,b,h=>by simp[zq7] at h
theorem Kj.split{nu:Nu}:∀{bs cs:Bxs S}{H1:List Wl.Res},Kj un nu D w E (bs++cs) H1->Kj un nu D w E bs (H1.take bs.length)/\Kj un nu D w E cs (H1.drop bs.length)
 |[],cs,H1,h=>by grind[Kj]
 |b::bs,cs,r::H1,h=>by simp only[yA3,Kj] at h;obtain ⟨h1,h2⟩:=Kj.split h.2;grind[Kj]
 |_::_,_,[],h=>by grind[Kj]
theorem zeh:∀(bs:List (Bool×TypeId×List CTy))(ps:List (PV S)),(zbO bs ps).length=bs.length|[],_=>rfl|(_,_,l)::bs,ps=>by simp[zbO,zeh bs]
theorem zhc{nu nu':Nu}:∀{as:List Arg}{ps qs:List (PV S)},(as.all fun | .one _=>true | .agg _=>true|_=>false)=true->ShL un nu nu' D w ps qs->ShL un nu nu' D w (zww as ps) (zww as qs)
 |[],_,_,_,_=>by simp[zww,ShL]
 | .one _::as,[],[],ha,h=>by simp only[zww];exact zhc (by grind) h
 | .one _::as,p::ps,q::qs,ha,h=>by simp only[zww];exact ⟨h.1,zhc (by grind) h.2⟩
 | .agg ts::as,ps,qs,ha,h=>by simp only[zww];refine ⟨λv hv=>?_,zhc (by grind) (h.drop _)⟩;simp only[Rep] at hv ⊢;obtain ⟨cs,h1,h2⟩:=hv;exact ⟨cs,h1,(h.take _).rep h2⟩
 | .ref _::_,_,_,ha,_=>by simp at ha
 | .ptr _ _::_,_,_,ha,_=>by simp at ha
 | .fn _::_,_,_,ha,_=>by simp at ha
 | .nil::_,_,_,ha,_=>by simp at ha
 | .agr _ _::_,_,_,ha,_=>by simp at ha
 | .one _::_,[],_::_,_,h=>h.elim| .one _::_,_::_,[],_,h=>h.elim
theorem zvj{nu nu':Nu}{ps qs:List (PV S)}(h:ShL un nu nu' D w ps qs):Sh un nu nu' D w (zfI ps) (zfI qs):=by
 intro v hv
 match ps,qs,h with
 |[],[],_=>grind[zfI,Rep,Ke]
 |[p],[q],h=>exact h.1 v hv|p::p2::ps,q::q2::qs,h=>grind[zfI,Rep,ShL.rep]
 |[_],_::_::_,h=>exact h.2.elim|_::_::_,[_],h=>exact h.2.elim|[],_::_,h=>exact h.elim|_::_,[],h=>exact h.elim
theorem zsJ{nu:Nu}{H2:List Wl.Res}:∀{bs:List (Bool×TypeId×List CTy)}{ls:List Nat}{ps:List (PV S)}{B:Bxs S}{Hk:List Wl.Res},(∀(k b:Nat)(fl:Bool)(T:TypeId)(l:List CTy),ls[k]?=some b->bs[k]?=some (fl,T,l)->∃cs,zam B b=some (.var T cs))->ls.length=bs.length->ls.Nodup->Kj un nu D w E (zbO bs ps) Hk->(∀(k b:Nat) r,ls[k]?=some b->Hk[k]?=some r->H2[b]?=some r) ->
  (∀(i:Nat) b r,i∉ls->zam B i=some b->H2[i]?=some r->Kc un nu D w E false b r)->∀(i:Nat) b r,zam (zaX (ls.zip (bs.map (·.2.2))) ps B) i=some b->H2[i]?=some r->Kc un nu D w E false b r
 |[],[],_,_,_,_,_,_,_,_,h,i,b,r,hb,hr=>h i b r (by simp) (by simp_all[zaX]) hr|(fl,T,l)::bs,b0::ls,ps,B,r0::Hk,hty,Ku,hn,hx,hz,h,i,b,r,hb,hr=>by
   obtain ⟨cs,hg⟩:=hty 0 b0 fl T l rfl rfl;simp only[zbO,Kj] at hx;obtain ⟨hn1,hn2⟩:=yA2.1 hn;simp only[yAn,yBq,zaX,hg] at hb;refine zsJ (bs:=bs) (ls:=ls) (ps:=ps.drop l.length) (B:=zbe B b0 (.var T (ps.take l.length))) (Hk:=Hk) (λk b' fl' T' l' h1 h2=>?_) (by grind) hn2 hx.2 (λk b' r' h1 h2=>hz (k+1) b' r' (by grind) (by grind)) (λi' b' r' hi' hb' hr'=>?_) i b r hb hr;·obtain ⟨cs',hg'⟩:=hty (k+1) b' fl' T' l' (by grind) (by grind);have hne:b'≠b0:=λhe=>hn1 (he▸yAb h1);grind[zat]
   ·by_cases hib:i'=b0;·subst hib;have:=zcP hb';subst this;have h3:=hz 0 i' r0 rfl rfl;rw[hr'] at h3;cases h3;exact hx.1
    grind[zat]
 |(fl,T,l)::bs,b0::ls,ps,B,[],_,_,_,hx,_,_,_,_,_,_,_=>by grind[zbO,Kj]
 |[],_::_,_,_,_,_,Ku,_,_,_,_,_,_,_,_,_=>by simp at Ku
 |_::_,[],_,_,_,_,Ku,_,_,_,_,_,_,_,_,_=>by simp at Ku
theorem zhS:∀(l:List (Nat×List CTy))(ps:List (PV S))(B:Bxs S),(zaX l ps B).length=B.length|[],_,_=>rfl|(i,l)::r,ps,B=>by simp only[zaX];rw[zhS r];grind[zbv]
theorem zgQ:∀{l:List (Nat×List CTy)}{ps:List (PV S)}{B:Bxs S},(∀i ts,(i,ts)∈l->∃T cs,zam B i=some (.var T cs)/\cs.length=ts.length)->(l.map (·.2.length)).sum<=ps.length->Kk B (zaX l ps B)
 |[],_,B,_,_=>Kk.refl B|(i,ts)::l,ps,B,h,hp=>by
   simp only[yAn,List.sum_cons] at hp;obtain ⟨T,cs,hg,hl⟩:=h i ts (by simp);simp only[zaX,hg];have Ku:(ps.take ts.length).length=cs.length:=by simp;omega
   refine (Kk.set (b':= .var T (ps.take ts.length)) hg rfl λT' cs' he=>by simp_all).trans (zgQ (λj ts' hj=>?_) (by simp;omega));grind[zeH,zat]
theorem zoj{α β:Type}{l:List α}{m:List β}{k:Nat}{x:α}{y:β}(h1:l[k]?=some x)(h2:m[k]?=some y):(x,y)∈l.zip m:=yAb (i:=k) (by grind)
theorem zkF{nu:Nu}:∀{n:Nat}{vs:List Value},vs.length=n->Ke un nu D w (List.replicate n .junk) vs
 |0,[],_=>by simp[Ke]
 |n+1,v::vs,h=>by simp only[yCb,Ke,Rep,true_and];exact zkF (by simpa using h)
 |0,_::_,h=>by simp at h
 |_+1,[],h=>by simp at h
theorem zbu:∀(l:List Nat)(bx:Bxs S),(zaq l bx).length=bx.length|[],_=>rfl|b::l,bx=>by simp only[zaq];rw[zbu l];split<;>simp[zbv]
theorem Kj.append'{nu:Nu}:∀{bs cs:Bxs S}{rs ss:List Wl.Res},Kj un nu D w E bs rs->Kj un nu D w E cs ss->Kj un nu D w E (bs++cs) (rs++ss)
 |[],_,[],_,_,h=>h|b::bs,cs,r::rs,ss,h,k=>by simp only[Kj,yA3] at h ⊢;exact ⟨h.1,h.2.append' k⟩
 |[],_,_::_,_,h,_=>by grind[Kj]
 |_::_,_,[],_,h,_=>by grind[Kj]
theorem zkY:∀(bs:List (Bool×TypeId×List CTy))(k:Nat)(h:k<bs.length),zam (zbO bs (List.replicate ((bs.map (·.2.2)).flatten).length (.junk:PV S))) k=some (.var (bs[k]).2.1 (List.replicate (bs[k]).2.2.length .junk))
 |(fl,T,l)::bs,0,_=>by grind[zbO,zam]
 |(fl,T,l)::bs,k+1,h=>by have:=zkY bs k (by simpa using h);grind[zbO,zam]
theorem zsI(Kq:Kx un){c:Call}{f:FuncId}{l:List (PV S)}(hen:zcS e c=some (f,l))(ho:o.op= .call c)(hcf:∀args w,(callFunc f args).run P w= .ok (.enter f args) w){g:Sg}(hok:g.ok=true)
  {ask:g.In S->Option (g.Out S)} {K:PV S->Env S->Bxs S->Option R} {KX:Exit->Env S->Bxs S->Option R} (h:zgB un e bx l g ask K KX=some r) (hask:∀t r,ask t=some r->ztk P un f g t r)
  (hd:∀d,o.dst=some d->d<N.n) (hs:Holds un E D0 N e bx a w) {next:Act->World->Prop} {Q:Exit->Act->World->Prop}
  (hk:∀p e' bx',K p e' bx'=some r->Ky [] e e'->Kk bx bx'->∀a' w',Holds un E D0 N (push o.dst p e') bx' a' w'->next a' w')
  (hx:∀x e' bx',KX x e' bx'=some r->Ky [] e e'->Kk bx bx'->∀a' w',Holds un E D0 N e' bx' a' w'->Q x a' w'):o.wp P a w next Q:=by
 unfold zgB at h;dsimp only at h;generalize hls:nub [] (znH l)=ls at h;have hnd:ls.Nodup:=by rw[<-hls];exact (zfJ _ _).1
 split at h
 ·rename_i ps qs hps hqs;obtain ⟨hbt,h⟩:=zae h;have hplain:=zB1 ((yAd _ _).mp hbt).2
  replace hbt:=((yAd _ _).mp hbt).1
  split at h
  ·rename_i t htell
   -- rows that are told as data are frozen
   unfold znx at htell;obtain ⟨hro,hct⟩:=zae htell;generalize hbx1:zaq (frs g.ins (qs++ps)) bx=bx1 at h hro hct;have hpf:Kk bx bx1:=hbx1▸Kk.freeze _ _;have hqs1:zcB bx1 (ls.zip (g.bs.map (·.2.2)))=some qs:=hbx1▸zcn hqs;have hbt1:zcl bx1 ls g.bs=true:=hbx1▸zf7 hbt;have hH:=hs.freeze (frs g.ins (qs++ps));rw[hbx1] at hH;obtain ⟨D,H,st,hD,hG⟩:=hH;obtain ⟨vs,Kw,hvs⟩:=zcA st hen ho hcf;obtain ⟨pv,hpv,harg⟩:=zba hps hvs;obtain ⟨hq1,hq2⟩:=zet st.Kg hqs1;obtain ⟨Ku,hty⟩:=zgI hbt1
   -- the rows that are handed over
   obtain ⟨bs,rs,g1,g2,g3,g4,g5,g6⟩:=zcc Kq st g.ins (qs++ps) _ [] t g.bs.length hro hct (hq1.append hpv);have hlsH:∀(k b:Nat),ls[k]?=some b->∃r T cs,H[b]?=some r/\zax r=true/\zam bx1 b=some (.var T cs)/\Kc un (ids H) D w E false (.var T cs) r:=by
    intro k b hk;have hkl:k<g.bs.length:=by rw[<-Ku];exact (yAc.1 hk).1
    obtain ⟨cs,hg⟩:=hty k b _ _ _ hk (yAe hkl);obtain ⟨r,k1,k2,_,_,k5⟩:=zbp st.Kg hg;exact ⟨r,_,cs,k1,k2,hg,k5⟩
   generalize hHl:(ls.map λb=>(H[b]?).getD (.ref (false,undef)))=Hl;have hHll:Hl.length=g.bs.length:=by rw[<-hHl];simp[Ku]
   have hHlget:∀(k b:Nat) r,ls[k]?=some b->H[b]?=some r->Hl[k]?=some r:=(by intro k b r hk hr;rw[<-hHl];simp[hk,hr]);have hnu:∀(i:Nat) r,rs[i]?=some r->(ids (Hl++rs))[g.bs.length+i]?=some (zal r):=(by intro i r hr;simp only[ids,yAh];rw[yAF (by omega),hHll,yAP,hr];rfl);have hnul:∀(k b:Nat)(x:Bool×Value),ls[k]?=some b->(ids H)[b]?=some x->(ids (Hl++rs))[k]?=some x:=by
    intro k b x hk hx;obtain ⟨r,_,_,k1,_⟩:=hlsH k b hk;have hkl:k<g.bs.length:=by rw[<-Ku];exact (yAc.1 hk).1
    simp only[ids,yAh] at hx ⊢;rw[yAk (by omega),hHlget k b r hk k1];rw[k1] at hx;exact hx
   have hP:=g5 _ hnu
   -- the callee's state
   have hqlen:qs.length=g.nb:=by
    have e1:∀{ls:List Nat}{bs:List (Bool×TypeId×List CTy)}{qs:List (PV S)},ls.length=bs.length->zcB bx1 (ls.zip (bs.map (·.2.2)))=some qs->qs.length=((bs.map (·.2.2)).flatten).length:=by
     intro ls;induction ls with
     |nil=>intro bs qs hl hq;cases bs<;>simp_all [zcB]
     |cons b ls ih =>
       intro bs qs hl hq;cases bs with
       |nil=>simp at hl|cons x bs =>
         simp only[yAn,yBq] at hq;unfold zcB at hq;split at hq;·rename_i T cs ps' _ h2;obtain ⟨h3,h4⟩:=zae hq;cases h4;simp only[yAI,yAn,yBM];rw[ih (by simpa using hl) h2,yAa h3]
         ·cases hq
    exact e1 Ku hqs1
   have hdrop:=hP.drop g.nb;have hvl:(zcd H (ls.zip (g.bs.map (·.2.2)))).length=g.nb:=(by rw[<-hq1.length];exact hqlen);rw[<-hvl,yBy] at hdrop;rw[hvl] at hdrop;have Qb:=zbH hnul harg hdrop;have hrowbox:∀b,some b∈bs->∃r,H[b]?=some r/\zax r=false/\zmW r=true/\b∉ls:=by
    intro b hb;obtain ⟨_,x,k1,k2⟩:=g2 b hb;obtain ⟨r,k3,k4⟩:=st.Kg.get k1;refine ⟨r,k3,?_,?_,λhm=>?_⟩;·cases x<;>simp[zdW] at k2<;>cases r<;>simp[Kc] at k4<;>rfl
    ·cases x<;>simp[zdW] at k2<;>cases r<;>simp[Kc] at k4<;>rfl
    ·obtain ⟨k,hk⟩:=yAl hm;obtain ⟨_,_,_,_,_,k5,_⟩:=hlsH k b hk;rw[k1] at k5;cases k5;simp[zdW] at k2
   have Qr:In ⟨w,zaB (Hl++rs),(ids Hl).map (·.2)⟩ D (Hl++rs) w:=by
    refine st.Kr.sub (λk=>if k<g.bs.length then ls[k]? else (bs[k - g.bs.length]?).join) (λk r hk=>?_) (λk k' i hk hk'=>?_) (λi v hv=>?_)
    ·rcases yAT k g.bs.length with Ks|K2;·rw[yAk (by omega)] at hk;obtain ⟨b,hb⟩:∃b,ls[k]?=some b:=⟨_,yAe (by omega)⟩;obtain ⟨r',_,_,k1,_⟩:=hlsH k b hb;rw[hHlget k b r' hb k1] at hk;cases hk;exact .inr ⟨b,by simp only[if_pos Ks,hb],k1⟩
     ·rw[yAF (by omega),hHll] at hk;rcases zcT g1 _ r hk with ⟨b,h1,h2,_⟩|⟨h1,T,size,h2⟩;·exact .inr ⟨b,by simp only[if_neg (show ¬k<g.bs.length by omega),h1];rfl,h2⟩
      ·left;rcases h2 with rfl|rfl;·exact ⟨λg hg=>by simp[Wl.Res.has,Value.ownBlock] at hg,Wl.rowAt_nil _ _ _,λg hg=>by simp[Value.ownBlock] at hg⟩
       ·exact ⟨λg hg=>by simp[Wl.Res.has,Value.ownBlock] at hg,World.ownsRow_nil _ _ _ _,λg hg=>by simp[Value.ownBlock] at hg⟩
    ·have second:∀k i,(bs[k - g.bs.length]?).join=some i->bs[k - g.bs.length]?=some (some i):=by
      intro k i h;cases hx:bs[k - g.bs.length]? with
      |none=>rw[hx] at h;cases h|some y=>rw[hx] at h;cases y with
        |none=>cases h|some z=>cases h;rfl
     split at hk
     ·rename_i Ks;split at hk';·rename_i hlt';exact (List.getElem?_inj (yAc.1 hk).1 hnd).1 (hk.trans hk'.symm)
      ·obtain ⟨_,_,_,_,h5⟩:=hrowbox i (yAb (second k' i hk'));exact absurd (yAb hk) h5
     ·rename_i K2;split at hk';·obtain ⟨_,_,_,_,h5⟩:=hrowbox i (yAb (second k i hk));exact absurd (yAb hk') h5
      ·rename_i hge';have:=zfK g3 _ _ i (second k i hk) (second k' i hk');omega
    ·simp only[ids,List.map_map,yAh,yA9,Function.comp] at hv;obtain ⟨r,hr,hv⟩:=hv;have hil:i<Hl.length:=(yAc.1 hr).1;obtain ⟨b,hb⟩:∃b,ls[i]?=some b:=⟨_,yAe (by omega)⟩;obtain ⟨r',_,_,k1,k2,_⟩:=hlsH i b hb;have:=hHlget i b r' hb k1;rw[hr] at this;cases this;refine ⟨r,by rw[yAk hil];exact hr,k2,?_,keptR.self (st.Kr.res _ (yAb k1))⟩;cases r<;>simp[zax] at k2<;>simp_all [zal]
   have hbx0:Kj un (ids (Hl++rs)) D w ⟨w,zaB (Hl++rs),(ids Hl).map (·.2)⟩ (zbO g.bs (zcI g.ins t g.bs.length)++zbo g.ins t) (Hl++rs):=(by refine Kj.append' ?_ (g4 _ _);have:=zkX (E':=⟨w,zaB (Hl++rs),(ids Hl).map (·.2)⟩) hbt1 st.Kg (λi ts hi=>(hq2 i ts hi).2) hP;rw[hHl] at this;exact this);have htab:TabE un w (zaB (Hl++rs)):=st.tabL λg hg=>by
    obtain ⟨r,hr,hgr⟩:=yCn.1 hg;have hgr:=Wl.Res.mem_blocks.1 hgr;rcases yAp.1 hr with hr|hr
    ·obtain ⟨k,hk⟩:=yAl hr;have hkl:k<Hl.length:=(yAc.1 hk).1;obtain ⟨b,hb⟩:∃b,ls[k]?=some b:=⟨_,yAe (by omega)⟩;obtain ⟨r',_,_,k1,_⟩:=hlsH k b hb;rw[hHlget k b r' hb k1] at hk;cases hk;exact (Wl.Res.holds_lt (st.Kr.res _ (yAb k1)) hgr).1
    ·obtain ⟨k,hk⟩:=yAl hr;rcases zcT g1 _ r hk with ⟨b,h1,h2,_⟩|⟨h1,T,size,h2⟩;·exact (Wl.Res.holds_lt (st.Kr.res _ (yAb h2)) hgr).1
     ·rcases h2 with rfl|rfl<;>simp[Wl.Res.has,Value.ownBlock] at hgr
   unfold Oper.wp;rw[Kw];cases hr:ask t with
   |none=>rw[hr] at h;simp[oc] at h|some res =>
     rw[hr] at h;refine (hask t res hr D w vs (Hl++rs) ((ids Hl).map (·.2)) htab (by simp[hHll]) Qr hbx0 Qb).mono λx w1 hend=>?_;obtain ⟨D',H',hin',K2,hup,hend⟩:=hend
     -- the caller zaG the rows
     have htk:=g6;generalize htkd:zcC bx1 g.ins (qs++ps)=tk at h htk;have htkm:tk.map (·.1)=bs.filterMap id:=(by rw[htk];simp[Function.comp_def]);obtain ⟨Hc,c1,c2,c3,c4⟩:=zon tk st (λp hp=>by
      have hrw:PV.row p.1∈qs++ps:=(by rw[<-htkd] at hp;exact zB0 hplain p hp);rw[htk] at hp;obtain ⟨b,hb,rfl⟩:=yBw.1 hp;have hb':some b∈bs:=by simpa using hb
      obtain ⟨r,k1,k2,k3,_⟩:=hrowbox b hb';obtain ⟨v,hv⟩:∃v,zal r=(false,v):=by obtain ⟨j,hj⟩:=yAl hrw;obtain ⟨v,_,hv⟩:=(hq1.append hpv).get j _ hj;simp only[Rep,ids,yAh,k1,yAg,yAf] at hv;exact ⟨v,hv.1⟩
      refine ⟨r,v,k1,k2,hv,?_⟩;obtain ⟨_,y,k5,k6⟩:=g2 b hb';dsimp only;rw[k5];cases y with
      |own u T l =>refine st.fz1 Kq ?_;simp only[Rep];refine ⟨by simp[ids,k1,hv],?_⟩;obtain ⟨r',k7,k8⟩:=st.Kg.get k5;rw[k1] at k7;cases k7;cases r<;>simp[Kc] at k8;simp[zal] at hv;subst hv;exact (st.Kr.res _ (yAb k1)).1.one
      |_=>simp[Rep])
     have htkrow:∀b∈tk.map (·.1),∃x,zam bx1 b=some x/\zdW x=true:=(by intro b hb;rw[htkm] at hb;exact (g2 b (by simpa using hb)).2);have hpt:Kk bx1 (zd4 tk bx1):=Kk.take tk bx1 (by rw[htkm];exact g3) htkrow;have hls2:∀(k b:Nat)(fl:Bool)(T:TypeId)(l:List CTy),ls[k]?=some b->g.bs[k]?=some (fl,T,l)->∃cs,zam (zd4 tk bx1) b=some (.var T cs)/\cs.length=l.length:=(by intro k b fl T l hk hb;obtain ⟨cs,hg⟩:=hty k b fl T l hk hb;obtain ⟨cs',k1,k2⟩:=hpt.var b T cs hg;refine ⟨cs',k1,k2.trans ?_⟩;obtain ⟨r,e1,_,e3,e4,_⟩:=zbp st.Kg hg;have hm:(b,l)∈ls.zip (g.bs.map (·.2.2)):=zoj hk (by simp[hb]);have:=(hq2 b l hm).2;rw[e3,<-e4.length] at this;exact this);have hnin:∀b,b∈ls->b∉tk.map (·.1):=λb hb hm=>by rw[htkm] at hm;exact (hrowbox b (by simpa using hm)).elim λr hr=>hr.2.2.2 hb
     have hlsc:∀(k b:Nat),ls[k]?=some b->∃r,Hc[b]?=some r/\zax r=true/\Hl[k]?=some r:=(by intro k b hk;obtain ⟨r,_,_,k1,k2,_⟩:=hlsH k b hk;exact ⟨r,(c4 b r k1).1 (hnin b (yAb hk)),k2,hHlget k b r hk k1⟩);have hmay0:∀g'∈zaB (Hl++rs),E.may g':=by
      intro g' hg';obtain ⟨r,hr1,hr2⟩:=zkS hg';rcases yAp.1 hr1 with hm|hm
      ·obtain ⟨k,hk⟩:=yAl hm;obtain ⟨b,hb⟩:∃b,ls[k]?=some b:=⟨_,yAe (by have:=(yAc.1 hk).1;omega)⟩;obtain ⟨r',_,_,k1,_⟩:=hlsH k b hb;have:=hHlget k b r' hb k1;rw[hk] at this;cases this;exact (Wl.Res.holds_lt (st.Kr.res _ (yAb k1)) hr2).1
      ·obtain ⟨k,hk⟩:=yAl hm;rcases zcT g1 k r hk with ⟨b,_,h2,_⟩|⟨_,T,size,h2⟩;·exact (Wl.Res.holds_lt (st.Kr.res _ (yAb h2)) hr2).1
       ·rcases h2 with rfl|rfl<;>simp[Wl.Res.has,Value.ownBlock] at hr2
     have hout:∀(i:Nat) r g',i∉ls->Hc[i]?=some r->r.has g'->g'∉zaB (Hl++rs):=by
      intro i r g' hi hr hb hm;have hil:i<H.length:=by rw[<-c3];exact (yAc.1 hr).1
      obtain ⟨r0,hr0⟩:∃r0,H[i]?=some r0:=⟨_,yAe hil⟩;obtain ⟨k1,k2⟩:=c4 i r0 hr0;by_cases hit:i∈tk.map (·.1);·obtain ⟨id,k3⟩:=k2 hit;rw[hr] at k3;cases k3;cases hb
      ·have:=k1 hit;rw[hr] at this;cases this;obtain ⟨r',hr1,hr2⟩:=zkS hm;rcases yAp.1 hr1 with hm|hm
       ·obtain ⟨k,hk⟩:=yAl hm;obtain ⟨b,hb'⟩:∃b,ls[k]?=some b:=⟨_,yAe (by have:=(yAc.1 hk).1;omega)⟩;obtain ⟨r'',_,_,k4,_⟩:=hlsH k b hb';have:=hHlget k b r'' hb' k4;rw[hk] at this;cases this;have:=zaK st.Kr.disj hr0 k4 hb hr2;subst this;exact hi (yAb hb')
       ·obtain ⟨k,hk⟩:=yAl hm;rcases zcT g1 k r' hk with ⟨b,h1,h2,_⟩|⟨_,T,size,h2⟩
        ·have:=zaK st.Kr.disj hr0 h2 hb hr2;subst this;exact hit (by rw[htkm];simpa using yAb h1)
        ·rcases h2 with rfl|rfl<;>simp[Wl.Res.has,Value.ownBlock] at hr2
     have Q1:∀(k b:Nat),ls[k]?=some b->∃r r',Hc[b]?=some r/\zax r=true/\H'[k]?=some r'/\zax r'=true/\zal r'=zal r/\keptR w r':=(by intro k b hk;obtain ⟨r,k1,k2,k3⟩:=hlsc k b hk;obtain ⟨r',k4,k5,k6,k7⟩:=hin'.lent k (zal r).2 (zyR (by simp[ids,k3]) (zAw k2 (c1.Kr.res r (yAb k1))));refine ⟨r,r',k1,k2,k4,k5,k6.trans ?_,k7⟩;cases r<;>simp[zax] at k2<;>rfl);obtain ⟨hin2,hid1,hid2⟩:=c1.Kr.back hin' hmay0 hout hup hnd Q1;have hD':∀k o,D' k o->D0 k o\/E.may k:=λk o hk=>by
      rcases hup k o hk with h1|h1;·exact hD k o h1
      ·rcases h1 with h1|h1;·exact .inr (.inl (yAo st.Kr.out.size h1))
       ·exact .inr (hmay0 k h1)
     have hkept:=zas c1.Kr.out hin2.out;have hcl:Hc.length=bx.length:=(by rw[c3,<-st.Kg.length,<-hbx1];exact (zbu _ _));have hoth:∀(i:Nat) b r,i∉ls->zam (zd4 tk bx1) i=some b->(zgL ls H' Hc++H'.drop ls.length)[i]?=some r->Kc un (ids (zgL ls H' Hc++H'.drop ls.length)) D' w1 E false b r:=(by intro i b r hi hb hr;obtain ⟨r0,k1,k2⟩:=c1.Kg.get hb;have hil:=(yAc.1 k1).1;rw[yAk (by rw[zbw];exact hil),zey hi,k1] at hr;cases hr;exact k2.mono K2 hkept hid1);cases res with
     |inl ro =>
       obtain ⟨hbx',v,rfl,hv⟩:=hend;simp only[oc] at h;obtain ⟨hb1,hb2⟩:=hbx'.split;rw[zeh] at hb1 hb2;have hsh:ShL un (ids H') (ids (zgL ls H' Hc++H'.drop ls.length)) D' w1 (zcI g.outs ro g.bs.length) (zcI g.outs ro bx.length):=zgx _ _ _ _ λj x hj=>by rw[<-hcl];exact hid2 j x (by rw[Ku];exact hj)
       have hbn:=zmH (E':=E) hsh hb1;have hbo:=zdm (nu':=ids (zgL ls H' Hc++H'.drop ls.length)) (E':=E) hb2;have htl:(zd4 tk bx1).length=Hc.length:=c1.Kg.length;have hboxes:Kj un (ids (zgL ls H' Hc++H'.drop ls.length)) D' w1 E (zaX (ls.zip (g.bs.map (·.2.2))) (zcI g.outs ro bx.length) (zd4 tk bx1)) (zgL ls H' Hc):=by
        refine Kj.of_get' (by rw[zhS,zbw];exact htl) λi b r hb hr=>?_;have hil:i<(zgL ls H' Hc).length:=(yAc.1 hr).1;refine zsJ (H2:=zgL ls H' Hc++H'.drop ls.length) (λk b fl T l h1 h2=>(hls2 k b fl T l h1 h2).imp λ_ h=>h.1) Ku hnd hbn (λk b r h1 h2=>?_) hoth i b r hb (by rw[yAk hil];exact hr);have hkl:k<g.bs.length:=by rw[<-Ku];exact (yAc.1 h1).1
        rw[yAt hkl] at h2;obtain ⟨r0,k1,_⟩:=hlsc k b h1;have hbl:=(yAc.1 k1).1;rw[yAk (by rw[zbw];exact hbl)];exact zgo hnd h1 h2 hbl
       have hdr:H'.drop ls.length=H'.drop g.bs.length:=(by rw[Ku]);rw[<-hdr] at hbo;have hall:=hboxes.append' hbo;have hpl:((ls.zip (g.bs.map (·.2.2))).map (·.2.length)).sum<=(zcI g.outs ro bx.length).length:=by
        rw[zbx];have e1:∀{ls:List Nat}{bs:List (List CTy)},ls.length=bs.length->((ls.zip bs).map (·.2.length)).sum=bs.flatten.length:=by
         intro ls;induction ls with
         |nil=>intro bs hl;cases bs<;>simp_all
         |cons b ls ih=>intro bs hl;cases bs with
           |nil=>simp at hl|cons x bs=>simp[ih (show ls.length=bs.length by simpa using hl)]
        rw[e1 (by simpa using Ku)];simp[Sg.outs]
       have hpm:Kk (zd4 tk bx1) (zaX (ls.zip (g.bs.map (·.2.2))) (zcI g.outs ro bx.length) (zd4 tk bx1)):=zgQ (λi ts hi=>by obtain ⟨k,hk⟩:=yAl hi;rw[List.getElem?_zip_eq_some] at hk;obtain ⟨k1,k2⟩:=hk;simp only[yAh,yA9] at k2;obtain ⟨⟨fl,T,l'⟩,k3,k4⟩:=k2;simp at k4;subst k4;obtain ⟨cs,k5,k6⟩:=hls2 k i fl T l' k1 k3;exact ⟨T,cs,k5,k6⟩) hpl;refine hk _ _ _ h (Ky.take tk e) (((hpf.trans hpt).trans hpm).trans (Kk.append _ _)) _ _ ⟨D',_,c1.step hin2 hall (λi q hi=>(c1.slots i q hi).ge K2 hid1) hd ?_,hD',hG.trans K2⟩;rw[hqlen];exact zvj (zhc hok (hsh.drop g.nb)) v hv
     |inr p =>
       obtain ⟨hbj,rfl⟩:=hend;simp only[oc] at h;have hpj:Kk (zd4 tk bx1) (zeY ls (zd4 tk bx1)):=zfi _ _;have hnil:H'.drop ls.length=[]:=by have:=hbj.length;rw[zeh] at this;rw[yBm (by omega)]
       refine hx _ _ _ h (Ky.take tk e) ((hpf.trans hpt).trans hpj) _ _ ⟨D',_,⟨hin2,c1.size,c1.defers,?_,λi q hi=>(c1.slots i q hi).ge K2 hid1⟩,hD',hG.trans K2⟩;refine Kj.of_get' (by rw[zdF,hnil,yAR,zbw];exact c1.Kg.length) λi b r hgb hr=>?_;rcases zgC ls _ i b hgb with ⟨h1,h2⟩|⟨h1,b0,h2,h3,_⟩;·exact hoth i b r h1 h2 hr
       ·obtain ⟨k,hk1⟩:=yAl h1;have hkl:k<g.bs.length:=by rw[<-Ku];exact (yAc.1 hk1).1
        obtain ⟨cs,k1,k2⟩:=hls2 k i _ _ _ hk1 (yAe hkl);rw[h2] at k1;cases k1;rw[h3 _ cs rfl];obtain ⟨r0,r',m1,m2,m3,m4,m5,_⟩:=Q1 k i hk1;have hil:=(yAc.1 m1).1;rw[yAk (by rw[zbw];exact hil),zgo hnd hk1 m3 hil] at hr;cases hr;obtain ⟨rr,hrr1,hrr2⟩:=hbj.get (i:=k) (b:= .var (g.bs[k]).2.1 (List.replicate (g.bs[k]).2.2.length .junk)) (zkY _ _ hkl);rw[m3] at hrr1;cases hrr1;refine ziN hrr2 ?_;have hl:=(zf6 hrr2).2.1.length;simp only[yB4] at hl;have:∀{cs:List (PV S)}{vs:List Value},cs.length=vs.length->Ke un (ids (zgL ls H' Hc++H'.drop ls.length)) D' w1 (cs.map λ_=>.junk) vs:=λh=>zrK h;exact this (by rw[k2,<-hl];rfl)
  ·cases h
 ·cases h
end
end Pe
end
section
namespace Pe
open Go Go.RowKit
variable{S:Nat->Type}
section
variable{P:Program}{un:Uni S}{tb:Tb S}{E:Wl.Ctx}{N:Wl.Fr}{D:Dat}{H:List Wl.Res}{e:Env S}{bx:Bxs S}{a:Act}{w w':World}
theorem zs1{v:Value}(h:(zaC v:PV S)= .nils):v= .slice none 0 0:=by
 cases v with
 |pointer a=>grind[zaC]|slice a l c=>grind[zaC]|tuple vs=>grind[zaC]|_=>grind[zaC]
theorem zqJ{H1:List Wl.Res}{s:Wl.Res}{n:Nat}(hn:H1.length=n):(ids (H1++[s]))[n]?=some (zal s):=by grind
theorem zqu{b j:Nat}{u:U}{T T2:TypeId}{l:List (List (El S u))}{h:Option Nat}{t:TypeId}{row:TyRow S}{x:Value}{k:IntKind}(Kp:RowOk P un t row)(hs:St un E N D H e bx a w)(hg:zam bx b=some (.nst u T T2 l h))(hx:Rep un (ids H) D w (.row b) x)(Vb:row.kd=2)(K9:row.elem.map (·.2)=some (.sl u))(hj:j<l.length) :
  ∃v,(Instr.indexAt t x (.int k (j:Int))).run P w= .ok v w/\Rep un (ids H) D w (.elr b (.sl u) j 0) v:=by
 obtain ⟨r,hr1,hr2⟩:=hs.Kg.get hg;have hh:=hs.Kr.res _ (yAb hr1);cases r with
 |nst v0 T' n xs T2' s2 rows =>
   simp only[Kc] at hr2;obtain ⟨rfl,rfl,rfl,rfl,_,_⟩:=hr2;have hid:(ids H)[b]?=some (false,v0):=by simp_all[zal]
   simp only[Rep] at hx;rw[hid] at hx;obtain ⟨hx1,_⟩:=hx;cases hx1;obtain ⟨T0,u',e1,e2,e3⟩:=Kp.slice Vb;rw[e1] at K9;simp at K9;subst K9;rcases hh.1.2 with ⟨_,h0⟩|⟨g,cap,cur,rfl,_⟩;·omega
   ·refine ⟨.pointer (some ⟨g,0+j*U.size un (.sl u),none⟩),?_,?_⟩;·simp[zbJ (un:=un) (k:=k) (off:=0) (b:=g) (c:=cap) e2 e3 hj w]
    grind[Rep]
 |_=>grind[Kc]
theorem zqt{b i:Nat}{u:U}{T T2:TypeId}{l:List (List (El S u))}{m:List (El S u)}{t:TypeId}{row:TyRow S}{x:Value}(Kp:RowOk P un t row)(hagg:row.agg=false)(hs:St un E N D H e bx a w)(hg:zam bx b=some (.nst u T T2 l none))(hx:Rep un (ids H) D w (.elr b (.sl u) i 0) x)(hm:l[i]?=some m){dst:Option Nat}(hd:∀d,dst=some d->d<N.n) :
  ∃v' H',(Instr.loadAt t x).run P w= .ok v' w/\St un E N D H' (push dst (.row bx.length) e) (zbe bx b (.nst u T T2 l (some i))++[.wr u T2 m]) (a.put dst v') w:=by
 obtain ⟨r,hr1,hr2⟩:=hs.Kg.get hg;have hh:=hs.Kr.res _ (yAb hr1);cases r with
 |nst v0 T' n xs T2' s2 rows =>
   simp only[Kc] at hr2;obtain ⟨rfl,rfl,rfl,rfl,hrl,K9⟩:=hr2;obtain ⟨K5,hmay,Qk,hdis⟩:=hh;obtain ⟨q,q1,q2,q3,q4⟩:=K9 i m hm (by simp);have hid:(ids H)[b]?=some (false,v0):=by simp[ids,hr1,zal]
   have hil:i<rows.length:=(yAc.1 q1).1;have get:∀(j:Nat) q',(rows.set i none)[j]?=some (some q')->j≠i/\rows[j]?=some (some q'):=λj q' hj=>by
    by_cases hij:i=j;·subst hij;rw[yAx hil] at hj;cases hj
    ·rw[yAr hij] at hj;exact ⟨λe=>hij e.symm,hj⟩
   have Kt:In E D (H.set b (.nst v0 T' l.length xs T2' (U.size un u) (rows.set i none))++[.wr q.1 T2' (U.size un u) q.2.1 q.2.2]) w:=by
    refine hs.Kr.split hr1 rfl (λ_ _ _ _=>trivial) (λ_ _ _ _=>trivial) ⟨K5,hmay,λj q' hj=>Qk j q' (get j q' hj).2,λj j' q' q'' hne h1 h2=>hdis j j' q' q'' hne (get j q' h1).2 (get j' q'' h2).2⟩ ⟨(Qk i q q1).1,(Qk i q q1).2.1⟩ (λg hg=>?_) (λg hg=>.inr ⟨i,q,q1,hg⟩) λg h1 h2=>?_
    ·rcases hg with hg|⟨j,q',hj,hg⟩;·exact .inl hg
     ·exact .inr ⟨j,q',(get j q' hj).2,hg⟩
    ·have h2:q.1.ownBlock=some g:=h2;rcases h1 with h1|⟨j,q',hj,h1⟩;·exact (Qk i q q1).2.2 g h2 h1
     ·exact hdis j i q' q (get j q' hj).1 (get j q' hj).2 q1 g h1 h2
   have hids0:ids (H.set b (.nst v0 T' l.length xs T2' (U.size un u) (rows.set i none)))=ids H:=zaw hr1 rfl;have K8:∀(j:Nat) z,(ids H)[j]?=some z->(ids (H.set b (.nst v0 T' l.length xs T2' (U.size un u) (rows.set i none))++[.wr q.1 T2' (U.size un u) q.2.1 q.2.2]))[j]?=some z:=λj z hz=>zbt _ _ j z (by rw[hids0];exact hz);simp only[Rep] at hx;obtain ⟨fl,g,n,c,hx1,rfl⟩:=hx;rw[hid] at hx1;cases hx1;have Qo:w.cell? ⟨g,i*U.size un (.sl u),none⟩=some q.1:=(by have hc:=K5.cells (g:=g) rfl i q.1 q2;rw[Addr.add_lit] at hc;simpa[U.size] using hc);refine ⟨q.1,_,?_,hs.step Kt ?_ (λj p hj=>(hs.slots j p hj).ge (Ge.refl _ _) K8) hd ?_⟩;·have:=(Kp.one hagg).2 w;simp[Instr.loadAt,Instr.sureAddr,loadVar,this,Qo]
   ·refine ((hs.Kg.mono (Ge.refl _ _) (λ_ _ _=>rfl) K8).set ?_).push ?_;·simp only[Kc];refine ⟨trivial,trivial,trivial,trivial,by simpa using hrl,λj y hj hne=>?_⟩;obtain ⟨q',k1,k2⟩:=K9 j y hj (by simp);exact ⟨q',by rw[yAr λe=>hne (by rw[e])];exact k1,k2⟩
    ·simp only[Kc];exact ⟨trivial,trivial,q3,q4⟩
   ·simp only[Rep];refine ⟨?_,zfb (Qk i q q1).1⟩;exact zqJ (by rw[List.length_set,hs.Kg.length])
 |_=>simp[Kc] at hr2
theorem zoT{b k i:Nat}{u:U}{T T2:TypeId}{l:List (List (El S u))}{m:List (El S u)}{t:TypeId}{row:TyRow S}{x v:Value}(Kp:RowOk P un t row)(hn1:row.n=1)(hs:St un E N D H e bx a w)(hgb:zam bx b=some (.nst u T T2 l (some i)))(hgk:zam bx k=some (.wr u T2 m))(hne:b≠k)
  (hx:Rep un (ids H) D w (.elr b (.sl u) i 0) x) (hv:Rep un (ids H) D w (.row k) v) (hil:i<l.length) {dst:Option Nat} (hd:∀d,dst=some d->d<N.n) :
  ∃w' H',(Instr.storeAt t x v).run P w= .ok () w'/\St un E N D H' (push dst zaS (zcW k .junk e)) (zbe (zbe (bx.map (Box.kill k .junk)) k .gone) b (.nst u T T2 (l.set i m) none)) (a.put dst undef) w'/\Ge D w D w':=by
 obtain ⟨r,hr1,hr2⟩:=hs.Kg.get hgb;obtain ⟨r',hk1,hk2⟩:=hs.Kg.get hgk;have hh:=hs.Kr.res _ (yAb hr1);have hhk:=hs.Kr.res _ (yAb hk1);cases r with
 |nst v0 T' n xs T2' s2 rows =>
   cases r' with
   |wr vk Tk sk nk ys =>
     simp only[Kc] at hr2 hk2;obtain ⟨rfl,rfl,rfl,rfl,hrl,K9⟩:=hr2;obtain ⟨rfl,rfl,rfl,helk⟩:=hk2;obtain ⟨K5,hmay,Qk,hdis⟩:=hh;have hid:(ids H)[b]?=some (false,v0):=by simp[ids,hr1,zal]
     have hidk:(ids H)[k]?=some (false,vk):=(by simp[ids,hk1,zal]);simp only[Rep] at hv;rw[hidk] at hv;obtain ⟨hv1,hv2,hv3⟩:=hv;cases hv1;simp only[Rep] at hx;obtain ⟨fl,g,n,c,hx1,rfl⟩:=hx;rw[hid] at hx1;cases hx1;obtain rfl:n=l.length:=by
      rcases K5.2 with ⟨h0,_⟩|⟨g',cap,cur,h',_⟩;·cases h0
      ·cases h';rfl
     have hap:=zjH hs.Kr.disj hr1 hk1 hne;have hir:i<rows.length:=(by rw[hrl];exact hil);have get:∀(j:Nat) q',(rows.set i (some (v,m.length,ys)))[j]?=some (some q')->(j=i/\q'=(v,m.length,ys))\/(j≠i/\rows[j]?=some (some q')):=λj q' hj=>by
      by_cases hij:i=j;·subst hij;rw[yAx hir] at hj;simp at hj;exact .inl ⟨rfl,hj.symm⟩
      ·rw[yAr hij] at hj;exact .inr ⟨λe=>hij e.symm,hj⟩
     -- in one
     have holds1:Wl.Res.holds E w (.nst (.slice (some ⟨g,0,none⟩) l.length c) T' l.length xs Tk (U.size un u) (rows.set i (some (v,m.length,ys)))):=by
      refine ⟨K5,hmay,λj q' hj=>?_,λj j' q' q'' hjj h1 h2 g0 hg1 hg2=>?_⟩
      ·rcases get j q' hj with ⟨rfl,rfl⟩|⟨_,h3⟩;·exact ⟨hhk.1,hhk.2,λg0 hg1 hg2=>hap g0 (.inl hg2) hg1⟩
       ·exact Qk j q' h3
      ·rcases get j q' h1 with ⟨rfl,rfl⟩|⟨n1,h3⟩<;>rcases get j' q'' h2 with ⟨rfl,rfl⟩|⟨n2,h4⟩;·exact hjj rfl
       ·exact hap g0 (.inr ⟨j',q'',h4,hg2⟩) hg1
       ·exact hap g0 (.inr ⟨j,q',h3,hg1⟩) hg2
       ·exact hdis j j' q' q'' hjj h3 h4 g0 hg1 hg2
     have hin1:=hs.Kr.join (id:=(false,v)) hr1 hk1 hne rfl rfl (λ_ _ _ _ _=>trivial) (λ_ _ _ _ _=>trivial) holds1 (λg0 hg0=>by
      rcases hg0 with hg0|⟨j,q',hj,hg0⟩;·exact .inl (.inl hg0)
      ·rcases get j q' hj with ⟨rfl,rfl⟩|⟨_,h3⟩;·exact .inr hg0
       ·exact .inl (.inr ⟨j,q',h3,hg0⟩))
     -- the store
     have hbl:b<H.length:=(yAc.1 hr1).1;have hset1:((H.set k (.ref (false,v))).set b (.nst (.slice (some ⟨g,0,none⟩) l.length c) T' l.length xs Tk (U.size un u) (rows.set i (some (v,m.length,ys)))))[b]?=some (.nst (.slice (some ⟨g,0,none⟩) l.length c) T' l.length xs Tk (U.size un u) (rows.set i (some (v,m.length,ys)))):=yAx (by simpa using hbl);obtain ⟨hst,hgr⟩:=K5.stored i v;have hother:∀g0,g0<w.heap.size->some g0≠some g->(w.setCell ⟨g,i,none⟩ v).heap[g0]?=w.heap[g0]? :=λg0 h1 h2=>hgr.block g0 h1 h2;have hin2:In E D (((H.set k (.ref (false,v))).set b (.nst (.slice (some ⟨g,0,none⟩) l.length c) T' l.length xs Tk (U.size un u) (rows.set i (some (v,m.length,ys))))).set b (.nst (.slice (some ⟨g,0,none⟩) l.length c) T' l.length (xs.set i v) Tk (U.size un u) (rows.set i (some (v,m.length,ys))))) (w.setCell ⟨g,i,none⟩ v):=(by refine hin1.turn hset1 hgr ⟨hst,hmay,λj q' hj=>?_,holds1.2.2.2⟩ (λg0 hg0=>.inl hg0) (λ_ _ h=>.inl h) (λk0 o h=>yAq (hs.Kr.lt k0 o h) hgr.size) (λg0 hg0 o hf hd=>hin1.apart _ (yAb hset1) g0 hg0 o trivial hd) (λhe=>by cases he);obtain ⟨a1,a2,a3⟩:=holds1.2.2.1 j q' hj;exact ⟨Wl.owns_of a1 λg0 hg0=>hother g0 (World.ownsRow.lt a1 g0 hg0).2 (λe=>a3 g0 hg0 (by cases e;rfl)),a2,a3⟩);rw[List.set_set] at hin2;have Qa:=yAb hr1;have K2:Ge D w D (w.setCell ⟨g,i,none⟩ v):=(.of (λ_ _ h=>h) λk0 o hk=>hgr.block k0 (hs.Kr.lt k0 o hk) λhkb=>hs.Kr.apart _ Qa k0 (.inl hkb.symm) o trivial hk);have K8:ids ((H.set k (.ref (false,v))).set b (.nst (.slice (some ⟨g,0,none⟩) l.length c) T' l.length (xs.set i v) Tk (U.size un u) (rows.set i (some (v,m.length,ys)))))=ids H:=by have h9:(H.set k (.ref (false,v)))[b]?=some (.nst (.slice (some ⟨g,0,none⟩) l.length c) T' l.length xs Tk (U.size un u) rows):=(by rw[yAr λe=>hne e.symm];exact hr1);exact (zaw (r':= .nst (.slice (some ⟨g,0,none⟩) l.length c) T' l.length (xs.set i v) Tk (U.size un u) (rows.set i (some (v,m.length,ys)))) h9 rfl).trans (zaw hk1 rfl)
     have hn:∀(j:Nat) z,(ids H)[j]?=some z->(ids ((H.set k (.ref (false,v))).set b (.nst (.slice (some ⟨g,0,none⟩) l.length c) T' l.length (xs.set i v) Tk (U.size un u) (rows.set i (some (v,m.length,ys))))))[j]?=some z\/(j=k/\z.1=false):=λj z hz=>.inl (by rw[K8];exact hz);have hy:Rep un (ids ((H.set k (.ref (false,v))).set b (.nst (.slice (some ⟨g,0,none⟩) l.length c) T' l.length (xs.set i v) Tk (U.size un u) (rows.set i (some (v,m.length,ys)))))) D (w.setCell ⟨g,i,none⟩ v) (.junk:PV S) v:=(by simp only[Rep]);refine ⟨_,_,?_,hs.step hin2 ?_ (λj p hj=>?_) hd ?_,K2⟩
     ·rcases K5.2 with ⟨h0,_⟩|⟨g',cap,cur,h',hb0,hgg,hnc,hcm,hcs,htk⟩;·cases h0
      ·cases h';have hsz:v.cells.size=row.n:=by rw[hv3,hn1];rfl
       have:=zdA (P:=P) (un:=un) Kp (v:=v) (off:=i) hgg (.inl (yAi _)) hsz (by rw[hn1,hcs];omega) (by rw[hv3];simpa using hv2);rw[hv3] at this;simpa[U.size,World.setCells] using this
     ·refine ((zbb K2 (zas hs.Kr.out hin2.out) hidk hy hn hs.Kg).set (b:= .gone) (r:= .ref (false,v)) (i:=k) (by simp only[Kc])).set ?_;simp only[Kc];refine ⟨trivial,trivial,trivial,by simp,by simpa using hrl,λj y hj _=>?_⟩;have hxl:xs.length=l.length:=by simpa using K5.1
      by_cases hij:i=j;·subst hij;rw[yAx hil] at hj;simp only[yAf] at hj;subst hj;exact ⟨(v,m.length,ys),yAx hir,yAx (by omega),rfl,λj y hj=>(helk j y hj).mono K2⟩
      ·rw[yAr hij] at hj;obtain ⟨q,q1,q2,q3,q4⟩:=K9 j y hj (by simpa using hij);exact ⟨q,by rw[yAr hij];exact q1,by rw[yAr hij];exact q2,q3,λj y hj=>(q4 j y hj).mono K2⟩
     ·rw[za1] at hj;cases hl:zvo e j with
      |none=>rw[hl] at hj;cases hj|some p0 =>rw[hl] at hj;simp only[yAg,yAf] at hj;subst hj;exact zca K2 hidk hy hn (hs.slots j p0 hl)
     ·simp only[zaS,Rep];exact ⟨[],rfl,by simp[Ke]⟩
   |_=>simp[Kc] at hk2
 |_=>simp[Kc] at hr2
theorem zqs{t T T2:TypeId}{u:U}{row:TyRow S}(hu:P.underlying t=some (.slice T))(hT:ElOk P un T (.sl u))(Kp:RowOk P un T row)(hz:row.zero=[.nils])(hs:St un E N D H e bx a w){kl kc:IntKind}{c:Nat}(hc:c<=1073741824){dst:Option Nat}(hd:∀d,dst=some d->d<N.n) :
  ∃v' w' H',(Instr.makeSlice t (.int kl (c:Int)) (.int kc (c:Int))).run P w= .ok v' w'/\St un E N D H' (push dst (.row bx.length) e) (bx++[.nst u T T2 (List.replicate c []) none]) (a.put dst v') w'/\Ge D w D w':=by
 obtain ⟨i,zv,e1,e2,e3,e4,e5,e6⟩:=hT.info;obtain ⟨z0,z1,z2,z3⟩:=Kp.zero;have hz0:z0=zv:=by simp_all
 subst hz0;rw[hz] at z3;have hzl:z0.cells.toList=[.slice none 0 0]:=by
  match hc:z0.cells.toList,z3 with
  |[x],z3=>simp only[yAn,List.map_nil,yBB,and_true] at z3;rw[zs1 z3.symm]|[],z3=>simp at z3|_::_::_,z3=>simp at z3
 have hza:z0.cells= #[.slice none 0 0]:=by rw[<-yBO (xs:=z0.cells),hzl]
 have hbytes:i.bytes*c<=281474976710656:=by have:i.bytes*c<=32768*1073741824:=yCi e6 hc;omega
 have h63:c<=maxLen:=by grind[maxLen]
 have hone:U.size un (.sl u)=1:=rfl;have Kw:(Instr.makeSlice t (.int kl (c:Int)) (.int kc (c:Int))).run P w= .ok (.slice (some ⟨w.heap.size,0,none⟩) c c) (w.alloc (.cells (madeCells z0.cells (c*U.size un (.sl u))) T)):=by
  have h1:(c:Int)<=9223372036854775807:=by omega
  have h2:(i.bytes:Int)*(c:Int)<=281474976710656:=by grind
  simp_all[run_make]
 rw[hone,yBj,hza] at Kw;have hml:(madeCells #[.slice none 0 0] c).toList=List.replicate c (.slice none 0 0):=toList_madeCells_one _ _;have hb:Below w.heap.size w (w.alloc (.cells (madeCells #[.slice none 0 0] c) T)):=(Below.refl _ _).alloc (yAi _) _;have K5:(w.alloc (.cells (madeCells #[.slice none 0 0] c) T)).ownsRow 0 T 1 (.slice (some ⟨w.heap.size,0,none⟩) c c) c (List.replicate c (.slice none 0 0)):=by refine ⟨by simp,.inr ⟨w.heap.size,c,_,rfl,yAA _,heap_alloc_new w _,yAi _,h63,by simp[madeCells],?_⟩⟩;rw[hml];simp
 have hrq:∀(j:Nat)(q:Value×Nat×List Value),(List.replicate c (some ((.slice none 0 0:Value),0,([]:List Value))))[j]?=some (some q)->q=(.slice none 0 0,0,[]):=λj q hq=>by have:=yAb hq;rw[List.mem_replicate] at this;exact (yAS this.2)
 have hh:Wl.Res.holds E (w.alloc (.cells (madeCells #[.slice none 0 0] c) T)) (.nst (.slice (some ⟨w.heap.size,0,none⟩) c c) T c (List.replicate c (.slice none 0 0)) T2 (U.size un u) (List.replicate c (some (.slice none 0 0,0,[])))):=by
  refine ⟨K5,λg hg=>?_,λj q hq=>?_,λj j' q q' _ h1 _ g hg=>?_⟩;·simp[Value.ownBlock] at hg;subst hg;exact .inl hs.Kr.out.size
  ·grind[World.ownsRow_nil,Value.ownBlock]
  grind[Value.ownBlock]
 have hhas:∀g,Wl.Res.has (.nst (.slice (some ⟨w.heap.size,0,none⟩) c c) T c (List.replicate c (.slice none 0 0)) T2 (U.size un u) (List.replicate c (some (.slice none 0 0,0,[])))) g->g=w.heap.size:=λg hg=>by
  rcases hg with hg|⟨j,q,hq,hg⟩;·simp[Value.ownBlock] at hg;exact hg.symm
  grind[Value.ownBlock]
 have Kt:In E D (H++[.nst (.slice (some ⟨w.heap.size,0,none⟩) c c) T c (List.replicate c (.slice none 0 0)) T2 (U.size un u) (List.replicate c (some (.slice none 0 0,0,[])))]) (w.alloc (.cells (madeCells #[.slice none 0 0] c) T)) :=
  hs.Kr.push hb hh (λg hg=>by rw[hhas g hg];exact yAi _) (λk o hk=>.inl hk) (λk o hk=>yAq (hs.Kr.lt k o hk) hb.size) (λg hg o _ hk=>by have:=hhas g hg;have:=hs.Kr.lt _ o hk;omega)
 have K2:Ge D w D (w.alloc (.cells (madeCells #[.slice none 0 0] c) T)):=Ge.same hs.Kr hb;refine ⟨_,_,_,Kw,hs.step Kt ?_ (λi q hi=>(hs.slots i q hi).ge K2 (zbt H _)) hd ?_,K2⟩
 ·refine (hs.Kg.mono K2 (zas hs.Kr.out Kt.out) (zbt H _)).push ?_;simp only[Kc];refine ⟨trivial,trivial,trivial,by simp,by simp,λj x hj _=>?_⟩;have hjl:j<c:=by have:=(yAc.1 hj).1;grind
  have hx:x=[]:=by rw[yBt,if_pos hjl] at hj;cases hj;rfl
  subst hx;exact ⟨(.slice none 0 0,0,[]),by rw[yBt,if_pos hjl],by rw[yBt,if_pos hjl],rfl,λj y hj=>by simp at hj⟩
 ·simp only[Rep];refine ⟨?_,zfb K5⟩;rw[hs.Kg.length,zdG];rfl
end
end Pe
end
section
namespace Pe
open Go Go.RowKit
variable{S:Nat->Type}
section
variable{P:Program}{un:Uni S}{tb:Tb S}{orc:Orc S}{inl:Inl S}{E E':Wl.Ctx}{D0:Dat}{N:Wl.Fr}{D D':Dat}{H:List Wl.Res}{e:Env S}{bx:Bxs S}{a:Act}{w w':World}{o:Oper}{R:Type}{r:R}
theorem zhG{α:Type}{n:Int}{x:α}{l:List α}(h:zlG n x=some l):∃k:Nat,n=k/\k<=1073741824/\l=List.replicate k x:=by
 unfold zlG at h;split at h;·rename_i k;obtain ⟨h1,h2⟩:=zae h;cases h2;simp_all
 ·cases h
theorem zkC{x y:Operand}(h:ziI x y=true){k k':IntKind}{m n:Int}(hx:a.eval x= .int k m)(hy:a.eval y= .int k' n):m=n:=by
 cases x<;>cases y<;>simp only[ziI] at h<;>try (cases h;done)
 ·simp_all
 grind[Act.eval]
theorem zqV:∀(l:By)(i:Nat)(x:Int),(zaT l)[i]?=some x->DR un D w [.int .u8] (sg (u:= .int .u8) x) ((((zaT l).map (Value.int .u8)).drop (i*1)).take 1):=by
 intro l i x hi;have h1:((zaT l).map (Value.int .u8))[i]?=some (.int .u8 x):=by simp_all
 have:(((zaT l).map (Value.int .u8)).drop (i*1)).take 1=[.int .u8 x]:=by rw[yBj];have hl:=(yAc.1 h1).1;simp_all[yAV]
 rw[this];exact .int .nil
theorem zqU(hs:St un E N D H e bx a w){s d T:TypeId}{l:By}(h1:P.underlying s=some .string)(h2:P.underlying d=some (.slice T))(h3:P.underlying T=some (.int .u8))(hlim:l.length<=lim){dst:Option Nat}(hd:∀d,dst=some d->d<N.n) :
  ∃v' w' H',(convert s d (.string ⟨l.toArray⟩)).run P w= .ok v' w'/\St un E N D H' (push dst (.ref bx.length) e) (bx++[.var T [.cont (.rw (.int .u8)) (zaT l)]]) (a.put dst v') w'/\Ge D w D w':=by
 have Kw:=run_bytes_of_string (P:=P) w s d T ⟨l.toArray⟩ h1 h2 h3;have hsz:(ByteArray.mk l.toArray).size=l.length:=by simp[ByteArray.size]
 rw[hsz] at Kw;generalize hcap:grownCap w l.length 0 T=cap at Kw;have K2:l.length<=cap:=by grind[grownCap_ge]
 have hmax:cap<=maxLen:=by grind[grownCap_le_maxLen,lim,maxLen]
 have Kp:(bytesRow ⟨l.toArray⟩ cap).toList=(zaT l).map (Value.int .u8)++List.replicate (cap - l.length) (.int .u8 0):=by simp[bytesRow,zaT,hsz]
 have hrs:(bytesRow ⟨l.toArray⟩ cap).size=cap:=by grind[Array.length_toList,zaT]
 have hb:Below w.heap.size w (w.drew.alloc (.cells (bytesRow ⟨l.toArray⟩ cap) T ((bytesRow ⟨l.toArray⟩ cap).size,(bytesRow ⟨l.toArray⟩ cap).size+1))):=by have h:=(Below.refl w.heap.size w.drew).alloc (yAi _) (.cells (bytesRow ⟨l.toArray⟩ cap) T ((bytesRow ⟨l.toArray⟩ cap).size,(bytesRow ⟨l.toArray⟩ cap).size+1));exact ⟨h.os,h.tape,h.output,h.size,h.block⟩
 obtain ⟨H',k1,k2⟩:=hs.newFix T (cs:=[.cont (.rw (.int .u8)) (zaT l)]) (v:= .slice (some ⟨w.heap.size,0,none⟩) l.length cap) (size:=1) hb (heap_alloc_new w.drew _)
  (.inr (.inl ⟨_,_,_,_,_,_,rfl,rfl,rfl,K2,hmax,by rw[hrs];simp,.inr (yAi _)⟩)) rfl (by
   simp only[Ke,Rep,and_true,Wl.fixV];have hl:l.length=List.length (zaT l):=by simp[zaT]
   rw[Kp,List.take_left' (by simp[zaT])];have:=zrt (un:=un) (D:=D) (w:=w) (u:= .int .u8) (l:=zaT l) (xs:=(zaT l).map (Value.int .u8)) (by simp[U.size];rfl) (λi x hi=>zqV l i x hi);rw[hl];exact this) hd
 grind
theorem zrE(Kq:Kx un)(ht:Qc P un tb){t T:TypeId}{u:U}(hu:P.underlying t=some (.slice T))(hT:ElOk P un T u){z:El S u}(hz:zdZ un tb T u=some z)(hs:St un E N D H e bx a w){kl kc:IntKind}{l c:Nat}(hc:c<=1073741824)(hlc:l=c\/l=0){dst:Option Nat}(hd:∀d,dst=some d->d<N.n) :
  ∃v' w' H',(Instr.makeSlice t (.int kl (l:Int)) (.int kc (c:Int))).run P w= .ok v' w'/\St un E N D H' (push dst (.row bx.length) e) (bx++[.wr u T (List.replicate l z)]) (a.put dst v') w'/\Ge D w D w':=by
 obtain ⟨i,zv,e1,e2,e3,e4,e5,e6⟩:=hT.info;obtain ⟨v0,z1,z2⟩:=zfr (P:=P) (D:=D) (w:=w) Kq ht hz;have hv0:v0=zv:=by simp[zeroValue,typeInfo,e1,e2] at z1;exact z1.symm
 subst hv0;have hbytes:i.bytes*c<=281474976710656:=by have:i.bytes*c<=32768*1073741824:=yCi e6 hc;omega
 have h63:c<=maxLen:=by grind[maxLen]
 have hzd:=zfR z2;have hfull:∀w',w'=w.alloc (.cells (madeCells v0.cells (c*U.size un u)) T)->Below w.heap.size w w'/\w'.ownsRow 0 T (U.size un u) (.slice (some ⟨w.heap.size,0,none⟩) l c) l ((madeCells v0.cells (c*U.size un u)).toList.take (l*U.size un u)):=by intro w' hw;subst hw;refine ⟨(Below.refl _ _).alloc (yAi _) _,?_,.inr ⟨w.heap.size,c,_,rfl,yAA _,heap_alloc_new w _,by grind,h63,by simp[madeCells],rfl⟩⟩;have h9:l*U.size un u<=c*U.size un u:=yAs _ (by grind);simp_all[madeCells]
 have Kw:(Instr.makeSlice t (.int kl (l:Int)) (.int kc (c:Int))).run P w= .ok (.slice (some ⟨w.heap.size,0,none⟩) l c) (w.alloc (.cells (madeCells v0.cells (c*U.size un u)) T)):=by
  have h1:(c:Int)<=9223372036854775807:=by omega
  have h2:(i.bytes:Int)*(c:Int)<=281474976710656:=by grind
  have:=run_make (P:=P) w t T i v0 hu e1 e2 kl kc l c (by omega) (by grind) h2 h1;grind
 obtain ⟨hb,K5⟩:=hfull _ rfl;have hsg:=zhX (D:=D) (w:=w) (un:=un) hzd e4 l;have Qx:(madeCells v0.cells (c*U.size un u)).toList.take (l*U.size un u)=(madeCells v0.cells (l*U.size un u)).toList:=by
  rcases hlc with rfl|rfl;·rw[yA7];simp[madeCells]
  ·simp[madeCells]
 rw[Qx] at K5;have hown':(w.alloc (.cells (madeCells v0.cells (c*U.size un u)) T)).ownsRow 0 T (U.size un u) (.slice (some ⟨w.heap.size,0,none⟩) l c) (List.replicate l z).length (madeCells v0.cells (l*U.size un u)).toList:=by simp_all
 obtain ⟨H',k1,k2⟩:=hs.newWr hb hown' rfl hsg hd;grind
theorem zkB{nu nu':Nu}{p:PV S}{v:Value}(h:zqd p=true)(hr:Rep un nu D w p v):Rep un nu' D' w' p v:=by cases p<;>first|(cases h;done)|grind[Rep]
theorem zkA{nu nu':Nu}:∀{l:List (PV S)}{vs:List Value},l.all zqd=true->Ke un nu D w l vs->Ke un nu' D' w' l vs
 |[],[],_,_=>by simp[Ke]
 |p::l,v::vs,h,hr=>by simp only[yBT,yAd] at h;simp only[Ke] at hr ⊢;exact ⟨zkB h.1 hr.1,zkA h.2 hr.2⟩
 |[],_::_,_,hr=>by grind[Ke]
 |_::_,[],_,hr=>by grind[Ke]
theorem zmv{nu nu':Nu}{p:PV S}{v:Value}(h:znF p=true)(hr:Rep un nu D w p v):Rep un nu' D' w' p v:=by
 cases p with
 |tup l=>simp only[Rep] at hr ⊢;obtain ⟨cs,h1,h2⟩:=hr;exact ⟨cs,h1,zkA h h2⟩
 |_=>exact zkB h hr
theorem znX{l:List Nat}{p:PV S}(h:Gives P un o e (zaq l bx) p)(hp:znF p=true):Gives P un o e bx p:=λE N D H a w hs=>by
 obtain ⟨D1,H1,h1,h2,_,_⟩:=hs.freeze l;rcases h E N D1 H1 a w h1 with ⟨v,r1,r2⟩|⟨f,vs,r1,r2⟩;·grind[zmv]
 ·refine .inr ⟨f,vs,r1,Calls.mono r2 ?_⟩
  grind[zmv]
theorem zqn(Kq:Kx un)(ht:Qc P un tb)(hor:K4 P un orc)(Kt:Qe P un inl){K:PV S->Env S->Bxs S->Option R}{KX:Exit->Env S->Bxs S->Option R}(h:zfa un tb orc inl o e bx K KX=some r)(hd:∀d,o.dst=some d->d<N.n)(hs:Holds un E D0 N e bx a w)
  {next:Act->World->Prop} {Q:Exit->Act->World->Prop} (hk:∀p e' bx',K p e' bx'=some r->Ky [] e e'->Kk bx bx'->∀a' w',Holds un E D0 N (push o.dst p e') bx' a' w'->next a' w')
  (hx:∀x e' bx',KX x e' bx'=some r->Ky [] e e'->Kk bx bx'->∀a' w',Holds un E D0 N e' bx' a' w'->Q x a' w'):o.wp P a w next Q:=by
 have quiet:zhf un tb orc inl o e bx (λp=>K p e bx)=some r->o.wp P a w next Q:=λh=>by obtain ⟨p,h1,h2⟩:=zez Kq ht hor Kt h;grind[zb4,Ky.refl,Kk.refl]
 have old:∀l,zc8 un tb orc inl o e (zaq l bx) K KX=some r->o.wp P a w next Q:=λl h =>
  zqo Kq ht hor Kt h hd (hs.freeze l) (λp e' bx' h1 h2 h3=>hk p e' bx' h1 h2 ((Kk.freeze l bx).trans h3)) λx e' bx' h1 h2 h3=>hx x e' bx' h1 h2 ((Kk.freeze l bx).trans h3)
 have old0:zc8 un tb orc inl o e bx K KX=some r->o.wp P a w next Q:=old []
 have zfg:∀l,zhf un tb orc inl o e (zaq l bx) (λp=>bif znF p then K p e bx else none)=some r->o.wp P a w next Q:=λl h=>by obtain ⟨p,h1,h2⟩:=zez Kq ht hor Kt h;obtain ⟨h3,h4⟩:=zae h1;exact zb4 (znX h2 h3) hd hs λa' w' h5=>hk p e bx h4 (Ky.refl _ _) (Kk.refl _) a' w' h5
 unfold zfa at h;split at h
 ·-- makeMap
  rename_i t ho;split at h
  ·rename_i kt k vt v hmp;obtain ⟨D,H,hs,hD,hG⟩:=hs;have hb:Below w.heap.size w (w.alloc (.map #[] 0)):=(Below.refl _ _).alloc (yAi _) _;obtain ⟨H',k1,k2⟩:=hs.newFix t (cs:=[.cont (.mp k v) []]) (v:= .map (some w.heap.size)) (size:=0) hb (heap_alloc_new w _) (.inl ⟨_,_,_,rfl,rfl,rfl⟩) rfl (by simp only[Ke,Rep,and_true,Wl.fixV];exact zsD (l:=[]) trivial trivial) hd;unfold Oper.wp;have:(execOp a.eval o).run P w= .ok (.value (.map (some w.heap.size))) (w.alloc (.map #[] 0)):=by simp[execOp,ho];rfl
   rw[this];exact hk _ _ _ h (Ky.refl _ _) (Kk.append _ _) _ _ ⟨D,H',k1,hD,hG.trans k2⟩
  ·cases h
 ·-- mapUpdate
  rename_i t m x y ho;exact zk3 Kq ht h (λw w' Kw=>by simp[execOp,ho,Kw]) hd hs hk
 ·-- insert
  rename_i t m x y ho;exact zk3 Kq ht h (λw w' Kw=>by simp[execOp,ho,Kw]) hd hs hk
 ·-- makeSlice
  rename_i t n c ho;split at h
  ·rename_i k1 m k2 q T u hm hq K9;cases Kp:tb.ty.get t with
   |none=>rw[Kp] at K9;cases K9|some row =>
     rw[Kp] at K9;simp only[yAB] at K9;have hrw:=ht.ty t row Kp;obtain ⟨T',u',g1,g2,g3⟩:=hrw.slice (hrw.elem T u K9);rw[K9] at g1;simp at g1;obtain ⟨rfl,rfl⟩:=g1;split at h
     ·rename_i z hz;obtain ⟨D,H,hs,hD,hG⟩:=hs;have e1:=hs.ev hm;have e2:=hs.ev hq;simp only[Rep] at e1 e2;have fin:∀(l c':Nat),m=l->q=c'->c'<=1073741824->(l=c'\/l=0)->K (.row bx.length) e (bx++[.wr u T (List.replicate l z)])=some r->o.wp P a w next Q:=by
       intro l c' hl hc' hle hlc hK;obtain ⟨v',w',H',Kw,k3,k4⟩:=zrE (P:=P) Kq ht g2 g3 hz hs (kl:=k1) (kc:=k2) hle hlc hd;unfold Oper.wp;have:(execOp a.eval o).run P w= .ok (.value v') w':=by simp[execOp,ho,e1,e2,hl,hc',Kw]
       rw[this];exact hk _ _ _ hK (Ky.refl _ _) (Kk.append _ _) _ _ ⟨D,H',k3,hD,hG.trans k4⟩
      cases hnst:(zdP tb o&&(isSl u&&ziI n c)) with
      |true =>
        rw[hnst] at h;simp only[cond_true] at h;simp only[yAd] at hnst;unfold zlW at h;split at h
        ·rename_i v zdT hrT _;split at h
         ·rename_i T2 v' helT hzT;obtain ⟨l,h1,h2⟩:=zay h;obtain ⟨j,rfl,h3,rfl⟩:=zhG h1;have:=zkC (a:=a) hnst.2.2 e1 e2;subst this;obtain ⟨v',w',H',Kw,k3,k4⟩:=zqs (P:=P) (T2:=T2) g2 g3 (ht.ty T zdT hrT) hzT hs (kl:=k1) (kc:=k2) h3 hd;unfold Oper.wp;have:(execOp a.eval o).run P w= .ok (.value v') w':=by simp[execOp,ho,e1,e2,Kw]
          rw[this];exact hk _ _ _ h2 (Ky.refl _ _) (Kk.append _ _) _ _ ⟨D,H',k3,hD,hG.trans k4⟩
         ·cases h
        ·cases h
      |false =>
      rw[hnst] at h;simp only[cond_false] at h;cases hso:ziI n c with
      |true =>rw[hso] at h;obtain ⟨l,h1,h2⟩:=zay h;obtain ⟨j,rfl,h3,rfl⟩:=zhG h1;have:=zkC (a:=a) hso e1 e2;subst this;exact fin j j rfl rfl h3 (.inl rfl) h2
      |false =>rw[hso] at h;simp only[cond_false] at h;obtain ⟨h1,h2⟩:=zae h;obtain ⟨l,h3,h4⟩:=zay h2;obtain ⟨j,rfl,h5,_⟩:=zhG h3;exact fin 0 j (by simpa using h1) rfl h5 (.inr rfl) h4
     ·cases h
  ·cases h
 ·-- convert
  rename_i s d x ho;split at h
  ·rename_i l rs rd hx0 hs0 hd0;split at h
   ·rename_i T K9;obtain ⟨h1,h2⟩:=zae h;simp only[yAd] at h1;obtain ⟨l',h3,h4⟩:=zay h2;obtain ⟨h5,rfl⟩:=zch h3;obtain ⟨D,H,hs,hD,hG⟩:=hs;have e1:=hs.ev hx0;simp only[Rep] at e1;obtain ⟨T',u',g1,g2,g3⟩:=(ht.ty d rd hd0).slice (yAa h1.1.2);rw[K9] at g1;cases g1;obtain ⟨v',w',H',Kw,k3,k4⟩:=zqU (P:=P) hs ((ht.ty s rs hs0).str (yAa h1.1.1)) g2 (zh1 ht h1.2) (l:=l') (by simpa using h5) hd;unfold Oper.wp;have:(execOp a.eval o).run P w= .ok (.value v') w':=by simp[execOp,ho,e1,Kw]
    rw[this];exact hk _ _ _ h4 (Ky.refl _ _) (Kk.append _ _) _ _ ⟨D,H',by simpa using k3,hD,hG.trans k4⟩
   ·exact quiet h
  ·exact quiet h
 ·-- store
  rename_i t x y ho;split at h
  ·rename_i b u i off hxx;split at h
   ·rename_i p row v T T2 l hh hyy Kp hg;obtain ⟨h1,h2⟩:=zae h;simp only[yAd] at h1;have hoff:=yAa h1.1;subst hoff;unfold zjM at h2;split at h2
    ·rename_i pl j k hpl;have hpl:=pl.down;subst hpl;split at h2
     ·rename_i v2 T2' m hgk;split at h2
      ·rename_i heq _;subst heq;obtain ⟨h3,h4⟩:=zae h2;simp only[yAd] at h3;have hT2:=yAa h3.1.1;subst hT2;have hji:=yAa h3.2.1;subst hji;have hbk:b≠k:=λe=>by rw[e] at h3;simp at h3
       obtain ⟨D,H,hs,hD,hG⟩:=hs;obtain ⟨w',H',Kw,k1,k2⟩:=zoT (P:=P) (ht.ty t row Kp) (yAa h1.2) hs hg hgk hbk (hs.ev hxx) (hs.ev hyy) (by simpa using h3.2.2) hd;unfold Oper.wp;have:(execOp a.eval o).run P w= .ok .skip w':=by simp[execOp,ho,Kw]
       rw[this];have hg':∃x,zam (zbe (bx.map (Box.kill k .junk)) k .gone) b=some x/\Pe.fixed x=false/\∀T cs,x≠ .var T cs:=⟨_,by rw[zat hbk,za8,hg];rfl,rfl,λT cs h=>by cases h⟩;obtain ⟨x',q1,q2,q3⟩:=hg';exact hk _ _ _ h4 (Ky.kill _ _ _) (((Kk.kill k _ bx).trans (Kk.set (b:=Box.wr _ _ _) (by rw[za8,hgk];rfl) rfl λT' cs' he=>by cases he)).trans (Kk.set q1 q2 λT' cs' he=>absurd he (q3 _ _))) _ _ ⟨D,H',k1,hD,hG.trans k2⟩
      ·cases h2
     ·cases h2
    ·cases h2
   ·rename_i p row v T l hyy Kp hg;split at h
    ·rename_i heq _;subst heq;obtain ⟨y0,h1,h2⟩:=zay h;have h1:l[i]?=some y0:=h1;split at h2
     ·rename_i z hz;obtain ⟨D,H,hs,hD,hG⟩:=hs;obtain ⟨w',H',Kw,k1,k2⟩:=zp5 (P:=P) Kq (ht.ty t row Kp) hs hg (hs.ev hxx) (hs.ev hyy) h1 hz hd;unfold Oper.wp;have:(execOp a.eval o).run P w= .ok .skip w':=by simp[execOp,ho,Kw]
      rw[this];exact hk _ _ _ h2 (Ky.refl _ _) (Kk.set hg rfl λT' cs' he=>by cases he) _ _ ⟨D,H',k1,hD,hG.trans k2⟩
     ·cases h2
    ·cases h
   ·rename_i p row T v l hyy Kp hg;split at h
    ·rename_i heq _;subst heq;obtain ⟨y0,h1,h2⟩:=zay h;have h1:(show List (El S v) from l)[i]?=some y0:=h1;split at h2
     ·rename_i z hz;obtain ⟨D,H,hs,hD,hG⟩:=hs;obtain ⟨w',H',Kw,k1,k2⟩:=zos (P:=P) Kq (ht.ty t row Kp) hs hg (hs.ev hxx) (hs.ev hyy) h1 hz hd;unfold Oper.wp;have:(execOp a.eval o).run P w= .ok .skip w':=by simp[execOp,ho,Kw]
      rw[this];exact hk _ _ _ h2 (Ky.refl _ _) (Kk.set hg rfl λT' cs' he=>by cases he;exact ⟨_,rfl,rfl⟩) _ _ ⟨D,H',k1,hD,hG.trans k2⟩
     ·cases h2
    ·cases h
   ·cases h
  ·exact old0 h
 ·-- load
  rename_i t x ho;unfold zlX at h;cases hlin:zdP tb o with
  |false=>rw[hlin] at h;exact old0 h|true =>
    rw[hlin] at h;simp only[cond_true] at h;split at h
    ·rename_i b v i off hxx;split at h
     ·rename_i u T T2 l row hg Kp;split at h
      ·rename_i pl hpl;have hpl:=pl.down;subst hpl;obtain ⟨h1,h2⟩:=zae h;simp only[yAd] at h1;have hoff:=yAa h1.1;subst hoff;obtain ⟨m,h3,h4⟩:=zay h2;obtain ⟨D,H,hs,hD,hG⟩:=hs;obtain ⟨v',H',Kw,k1⟩:=zqt (P:=P) (ht.ty t row Kp) (by simpa using h1.2) hs hg (hs.ev hxx) h3 hd;unfold Oper.wp;have:(execOp a.eval o).run P w= .ok (.value v') w:=by simp[execOp,ho,Kw]
       rw[this];exact hk _ _ _ h4 (Ky.refl _ _) ((Kk.set hg rfl λT' cs' he=>by cases he).trans (Kk.append _ _)) _ _ ⟨D,H',k1,hD,hG⟩
      ·cases h
     ·cases h
     ·exact old0 h
    ·exact old0 h
 ·-- indexAddr
  rename_i t x i ho;unfold zlY at h;cases hlin:zdP tb o with
  |false=>rw[hlin] at h;exact old0 h|true =>
    rw[hlin] at h;simp only[cond_true] at h;split at h
    ·rename_i b hxx;split at h
     ·rename_i u T T2 l hh k n row hg hi Kp;obtain ⟨h1,h2⟩:=zae h;simp only[yAd] at h1;obtain ⟨j,h3,h4⟩:=zay h2;obtain ⟨rfl,hj⟩:=zh3 h3;obtain ⟨D,H,hs,hD,hG⟩:=hs;have hiv:=hs.ev hi;simp only[Rep] at hiv;obtain ⟨v',Kw,Q2⟩:=zqu (P:=P) (k:=k) (ht.ty t row Kp) hs hg (hs.ev hxx) (yAa h1.1) (zd1 h1.2) hj;unfold Oper.wp;have:(execOp a.eval o).run P w= .ok (.value v') w:=by simp[execOp,ho,hiv,Kw]
      rw[this];exact hk _ _ _ h4 (Ky.refl _ _) (Kk.refl _) _ _ ⟨D,H,hs.step hs.Kr hs.Kg hs.slots hd Q2,hD,hG⟩
     ·cases h
     ·exact old0 h
    ·exact old0 h
 ·-- buildSlice
  rename_i t n parts ho;cases hlin:zdP tb o with
  |false=>rw[hlin] at h;exact old0 h|true =>
    rw[hlin] at h;simp only[cond_true] at h;split at h
    ·rename_i l T u hp K9;cases Kp:tb.ty.get t with
     |none=>rw[Kp] at K9;cases K9|some row =>
       rw[Kp] at K9;simp only[yAB] at K9;have hrw:=ht.ty t row Kp;obtain ⟨T',u',g1,g2,g3⟩:=hrw.slice (hrw.elem T u K9);rw[K9] at g1;simp at g1;obtain ⟨rfl,rfl⟩:=g1;obtain ⟨h1,h2⟩:=zae h;simp only[yAd,yAK] at h1;split at h2
       ·rename_i xs hxs;obtain ⟨D,H,hs,hD,hG⟩:=hs.freeze (zdi (l.map (·.2)));obtain ⟨v',w',H',Kw,k1,k2⟩:=zn9 (P:=P) Kq g2 g3 hs hp h1.1.2 (yAa h1.1.1) h1.2 hxs hd;unfold Oper.wp;have hmap:(parts.map λ(x:Nat×Operand)=>match x with|(i,x)=>(i,a.eval x))=(parts.toList.map λp=>(p.1,a.eval p.2)).toArray:=by cases parts;simp
        have:(execOp a.eval o).run P w= .ok (.value v') w':=by simp[execOp,ho,hmap,Kw]
        rw[this];rw[zbu] at k1;exact hk _ _ _ h2 (Ky.refl _ _) ((Kk.freeze _ _).trans (Kk.append _ _)) _ _ ⟨D,H',k1,hD,hG.trans k2⟩
       ·cases h2
    ·cases h
 ·-- slice
  rename_i t x lo hi ho;split at h
  ·rename_i b hxx;split at h
   ·rename_i u T l row hg Kp;obtain ⟨h1,h2⟩:=zae h;simp only[yAd] at h1;split at h2
    ·rename_i k i k' j hlo hhi;obtain ⟨s,h3,h4⟩:=zay h2;obtain ⟨i',j',h0,rfl,h5,h6,rfl⟩:=zgr h3;have hi0:i'=0:=by omega
     subst hi0;obtain ⟨D,H,hs,hD,hG⟩:=hs;obtain ⟨T',u',g1,g2,g3⟩:=(ht.ty t row Kp).slice (yAa h1.1);have hu:=zd1 h1.2;rw[g1] at hu;simp at hu;subst hu;have e1:lo.map a.eval=none\/∃k,lo.map a.eval=some (.int k 0):=by
      rcases zgt hs (x:=lo) (d:=0) (i:=0) hlo (.inl rfl) with g|g;·exact .inl g.1
      ·exact .inr g
     have e2:(hi.map a.eval=none/\j'=l.length)\/∃k,hi.map a.eval=some (.int k (j':Int)):=by
      rcases zgt hs (x:=hi) (d:=len l) hhi (by cases hi<;>simp at hhi ⊢;exact hhi.2.symm) with g|g;·exact .inl ⟨g.1,by have:=g.2;unfold len at this;omega⟩
      ·exact .inr g
     obtain ⟨v',H',Kw,k1,k2⟩:=zp7 (P:=P) g2 g3 hs hg (hs.ev hxx) h6 e1 e2 hd;unfold Oper.wp;have:(execOp a.eval o).run P w= .ok (.value v') w:=by simp[execOp,ho,Kw]
     rw[this];simp only[yBo,Nat.sub_zero] at h4;exact hk _ _ _ h4 (Ky.kill _ _ _) ((Kk.kill b _ bx).trans (Kk.set (b:=Box.wr _ _ _) (by rw[za8,hg];rfl) rfl λT' cs' he=>by cases he)) _ _ ⟨D,H',k1,hD,hG.trans k2⟩
    ·cases h2
   ·exact old0 h
  ·exact old0 h
 ·-- call
  rename_i c ho;split at h
  ·-- append
   rename_i hc;split at h
   ·rename_i s x t Qb htw;split at h;·cases h
    ·rename_i T u K9;have hfr:=hs.freeze (zg1 x);have fin:∀{new:List (El S u)},zj8 un (zaq (zg1 x) bx) u x=some new->∀{D H},St un E N D H e (zaq (zg1 x) bx) a w->∃s0 x0 row,tb.ty.get t=some row/\P.underlying t=some (.slice T)/\ElOk P un T u/\Rep un (ids H) D w s (a.eval s0)/\Rep un (ids H) D w (.sl u new) (a.eval x0)/\∀v' w',(Builtin.append_ #[t,t] o.type #[a.eval s0,a.eval x0]).run P w= .ok v' w'->(execOp a.eval o).run P w= .ok (.value v') w':=by
      intro new hnew D H hs;cases Kp:tb.ty.get t with
      |none=>rw[Kp] at K9;cases K9|some row =>
        rw[Kp] at K9;simp only[yAB] at K9;have hrw:=ht.ty t row Kp;obtain ⟨T',u',g1,g2,g3⟩:=hrw.slice (hrw.elem T u K9);rw[K9] at g1;simp at g1;obtain ⟨rfl,rfl⟩:=g1;obtain ⟨args,hca⟩:∃args:List Operand,c.args=⟨args⟩:=⟨c.args.toList,by cases c.args;rfl⟩;have hr:=hs.evs Qb;rw[hca] at hr;have Qu:c.argTypes= #[t,t]:=by obtain ⟨tl,htl⟩:∃l:List Nat,c.argTypes=⟨l⟩:=⟨c.argTypes.toList,by cases c.argTypes;rfl⟩;rw[htl] at htw ⊢;rcases tl with _|⟨x1,_|⟨x2,_|⟨x3,_⟩⟩⟩<;>simp[twice] at htw;obtain ⟨q1,q2⟩:=zae htw;cases q2;rw[yAa q1]
        rcases args with _|⟨s0,_|⟨x0,_|⟨_,_⟩⟩⟩<;>simp only[yAn,List.map_nil,Ke,and_true,and_false] at hr;refine ⟨s0,x0,row,rfl,g2,g3,hr.1,?_,λv' w' Kw=>?_⟩;·have:=(zbT Kq (un:=un) hnew (hs.fz1 Kq hr.2)).2;simpa only[inj] using this
        ·simp[execOp,ho,resolve,hc,hca,Qu,invoke,builtin,Kw]
     split at h
     ·-- onto nothing
      cases hlin:zdP tb o with
      |false=>rw[hlin] at h;exact old _ h|true =>
        rw[hlin] at h;simp only[cond_true] at h;split at h;·rename_i new hnew;obtain ⟨l,h1,h2⟩:=zay h;obtain ⟨h3,rfl⟩:=zch h1;obtain ⟨D,H,hs,hD,hG⟩:=hfr;obtain ⟨s0,x0,row,f1,f2,f3,f4,f5,f6⟩:=fin hnew hs;simp only[Rep] at f4;obtain ⟨v',w',Kw,hst⟩:=ziA (P:=P) (ty:=o.type) Kq f2 f3 hs f5 (by simpa using h3) hD hG hd;rw[<-f4] at Kw;unfold Oper.wp;rw[f6 v' w' Kw];rw[zbu] at hst;exact hk _ _ _ h2 (Ky.refl _ _) ((Kk.freeze _ _).trans (Kk.append _ _)) _ _ hst
        ·cases h
     ·rename_i b;split at h
      ·rename_i v T' oldl hg;split at h;·rename_i new heq hnew _;subst heq;obtain ⟨h1,h2⟩:=zae h;have hTT:=yAa h1;subst hTT;obtain ⟨l,h3,h4⟩:=zay h2;obtain ⟨h5,rfl⟩:=zch h3;obtain ⟨D,H,hs,hD,hG⟩:=hfr;obtain ⟨s0,x0,row,f1,f2,f3,f4,f5,f6⟩:=fin hnew hs;obtain ⟨v',w',Kw,hst⟩:=zpI (P:=P) (ty:=o.type) Kq f2 f3 hs hg f4 f5 h5 hD hG hd;unfold Oper.wp;rw[f6 v' w' Kw];exact hk _ _ _ h4 (Ky.kill _ _ _) (((Kk.freeze _ _).trans (Kk.kill b _ _)).trans (Kk.set (b:=Box.wr _ _ _) (by rw[za8,hg];rfl) rfl λT' cs' he=>by cases he)) _ _ hst
       ·cases h
      ·exact old _ h
     ·exact old0 h
   ·cases h
  ·split at h
   ·rename_i f l hen;split at h;·rename_i g hsig;obtain ⟨hen2,hok⟩:=ht.lin f g hsig;exact zsI Kq hen ho hen2 hok h (λt r hr=>hor.l f g t r hr) hd hs hk hx
    ·rename_i rs _;cases hl:zqH bx l rs with
     |true=>rw[hl] at h;exact zfg _ h|false=>rw[hl] at h;exact old _ h
    ·rename_i rs _;cases hl:zqH bx l rs with
     |true=>rw[hl] at h;exact zfg _ h|false=>rw[hl] at h;exact old _ h
    ·exact old _ h
   ·cases h
  ·exact old0 h
 grind
end
end Pe
end
section
namespace Pe
open Go Go.RowKit
variable{S:Nat->Type}
section
variable{P:Program}{un:Uni S}{tb:Tb S}{orc:Orc S}{inl:Inl S}{E:Wl.Ctx}{D0:Dat}{N:Wl.Fr}{D D':Dat}{H:List Wl.Res}{e:Env S}{bx:Bxs S}{a:Act}{w w':World}{o:Oper}{R:Type}{r:R}
theorem zp0(Kt:In E D H w){b i g:Nat}{idv:Value}{size:Nat}{ob ob':Obj}{v v':Value}{T:TypeId}{m n n':Nat}{xs xs':List Value}
  (hb:H[b]?=some (.fix idv (some g) size ob)) (hr:H[i]?=some (.wr v T m n xs)) (hbi:b≠i)
  (hok':Wl.fixOk idv (some g) size ob') (hob':w'.heap[g]?=some ob') (K5:w'.ownsRow 0 T m v' n' xs') (Ql:∀k,v'.ownBlock=some k->v.ownBlock=some k\/w.heap.size<=k) (hne':v'.ownBlock≠some g) (keep:BldKeep g v w w') (hsh:zgj ob'=zgj ob) :
  In E D ((H.set i (.wr v' T m n' xs')).set b (.fix idv (some g) size ob')) w'/\Ge D w D w':=by
 have hbm:=yAb hb;have hrm:=yAb hr;have hhb:=Kt.res _ hbm;have hhr:=Kt.res _ hrm;have hgl:g<w.heap.size:=(yAE.1 (hhb.2 g rfl).2).1;have hgl':g<w'.heap.size:=(yAE.1 hob').1;have hmay:∀k,v'.ownBlock=some k->E.may k:=λk hk=>by
  rcases Ql k hk with h|h;·exact hhr.2 k h
  ·exact .inl (yAo Kt.out.size h)
 have h1:w.grownBy { w' with heap:=w'.heap.setIfInBounds g ob } v.ownBlock:=by
  refine ⟨keep.os,keep.tape,keep.output,by simpa using keep.size,λk hk hne=>?_⟩;show (w'.heap.setIfInBounds g ob)[k]?=_;rw[yA1];by_cases hkg:g=k;·subst hkg;rw[if_pos rfl,if_pos hgl'];exact (hhb.2 g rfl).2.symm
  ·rw[if_neg hkg];exact keep.block k hk (λh=>hkg h.symm) λh=>hne h.symm
 have hin1:In E D (H.set i (.wr v' T m n' xs')) { w' with heap:=w'.heap.setIfInBounds g ob }:=by
  refine Kt.turn hr h1 ⟨owns_of' K5 ?_,hmay⟩ (λk hk=>Ql k hk) (λ_ _ h=>.inl h) (λk o hk=>yAq (Kt.lt k o hk) h1.size) (λk hk o _ hd=>?_) (λhe=>by cases he);·intro k hk;show (w'.heap.setIfInBounds g ob)[k]?=_;rw[yA1,if_neg (λh=>hne' (by rw[h];exact hk))]
  ·rcases Ql k hk with h|h;·exact Kt.apart _ hrm k h o trivial hd
   ·have:=Kt.lt k o hd;omega
 have hb1:(H.set i (.wr v' T m n' xs'))[b]?=some (.fix idv (some g) size ob):=by rw[yAr (Ne.symm hbi)];exact hb
 have h2:({ w' with heap:=w'.heap.setIfInBounds g ob }:World).grownBy w' (some g) :=
  ⟨rfl,rfl,rfl,by simp,λk hk hne=>by show w'.heap[k]?=(w'.heap.setIfInBounds g ob)[k]?;rw[yA1,if_neg λh=>hne (by rw[h])]⟩
 have hin2:=hin1.turn (w':=w') (D':=D) (r':= .fix idv (some g) size ob') hb1 h2 ⟨hok',λg0 hg0=>by cases hg0;exact ⟨(hhb.2 g rfl).1,hob'⟩⟩ (λk hk=>.inl hk) (λ_ _ h=>.inl h) (λk o hk=>yAq (Kt.lt k o hk) keep.size) (λk hk o _ hd=>by cases hk;exact Kt.apart _ hbm g rfl o trivial hd) (λ_=>⟨rfl,rfl,.inr ⟨λ_ hg=>hg,hsh⟩⟩);refine ⟨hin2,.of (λ_ _ h=>h) λk o hk=>keep.block k (Kt.lt k o hk) (λh=>?_) λh=>?_⟩;·subst h;exact Kt.apart _ hbm k rfl o trivial hk
 ·exact Kt.apart _ hrm k h o trivial hk
where
 owns_of' {w w':World} {T:TypeId} {size:Nat} {v:Value} {n:Nat} {xs:List Value} (h:w.ownsRow 0 T size v n xs) (hw:∀g,v.ownBlock=some g->w'.heap[g]?=w.heap[g]?):w'.ownsRow 0 T size v n xs:=Wl.owns_of h hw
theorem zs9(hs:St un E N D H e bx a w){b i:Nat}{T T1 Eb:TypeId}{l:List Int}{x:Value}(hg:zam bx b=some (.var T [.row i]))(hi:zam bx i=some (.wr (.int .u8) Eb l))(hx:Rep un (ids H) D w (.bref b T1) x) :
  ∃g v p A n c size xs,x= .pointer (some ⟨g,0,none⟩)/\H[b]?=some (.fix (.tuple #[.pointer (some ⟨g,0,none⟩),.int .i64 (T1:Nat)]) (some g) size (.cells #[p,v] T1 (0,0)))/\H[i]?=some (.wr v Eb 1 l.length xs)/\v= .slice A n c/\BldAt T1 Eb g v xs w/\xs.length=l.length/\zkj un D w (.int .u8) l xs/\v.oneCell'=true/\v.cells= #[v]:=by
 obtain ⟨r,hr1,hr2⟩:=hs.Kg.get hg;obtain ⟨s,hs1,hs2⟩:=hs.Kg.get hi;simp only[Rep] at hx;obtain ⟨g,hid,rfl⟩:=hx;simp only[ids,yAh,hr1,yAg,yAf] at hid;cases r with
 |fix idv g0 size ob =>
   simp only[zal,Prod.mk.injEq,true_and] at hid;subst hid;have hh:=hs.Kr.res _ (yAb hr1);rcases hh.1 with ⟨_,_,_,he,_⟩|⟨_,_,_,_,_,_,he,_⟩|⟨he,_⟩|⟨g1,T2,p,A,n,c,he,rfl,rfl,hp⟩;·cases he
   ·cases he
   ·cases he
   ·simp only[Value.tuple.injEq,yCh,yBB,Value.pointer.injEq,yAf,Addr.mk.injEq,and_true,Value.int.injEq,true_and] at he;obtain ⟨rfl,he⟩:=he;have he:T1=T2:=by exact_mod_cast he
    subst he;simp only[Kc,Wl.fixV,Ke,Rep,and_true] at hr2;obtain ⟨hv,h1,h2⟩:=hr2;simp only[List.getD_cons_succ,List.getD_cons_zero] at hv h1 h2;simp only[ids,yAh,hs1,yAg,yAf] at hv;cases s with
    |wr v Eb' size' n' xs =>
      simp only[zal,Prod.mk.injEq,true_and] at hv;subst hv;simp only[Kc] at hs2;obtain ⟨rfl,rfl,rfl,K9⟩:=hs2;have hhs:=hs.Kr.res _ (yAb hs1);have hxl:xs.length=l.length:=by have h7:=hhs.1.1;rw[show U.size un (.int .u8)=1 from rfl,yBj] at h7;exact h7
      refine ⟨g,_,p,A,n,c,size,xs,rfl,hr1,hs1,rfl,⟨⟨p,A,n,c,(hh.2 g rfl).2,rfl,hp⟩,?_,λhk=>?_⟩,hxl,K9,h1,h2⟩;·rw[hxl];exact hhs.1
      ·have hbi:b≠i:=λh=>by subst h;rw[hr1] at hs1;cases hs1
       exact hbi (zaK hs.Kr.disj hr1 hs1 rfl hk)
    |_=>simp[Kc] at hs2
 |ref=>simp[Kc] at hr2|_=>simp[zal] at hid
theorem zpB(hs:St un E N D H e bx a w){b i g:Nat}{T1 T2 Eb:TypeId}{l l':List Int}{v p:Value}{size:Nat}{xs ys:List Value}(_:zam bx b=some (.var T2 [.row i]))(_:zam bx i=some (.wr (.int .u8) Eb l))(hbi:b≠i)
  (hb1:H[b]?=some (.fix (.tuple #[.pointer (some ⟨g,0,none⟩),.int .i64 (T1:Nat)]) (some g) size (.cells #[p,v] T1 (0,0)))) (hi1:H[i]?=some (.wr v Eb 1 l.length xs)) (hput:zpP T1 Eb g v ys w w') (hyl:ys.length=l'.length) (hseg:zkj un D w (.int .u8) l' ys) {dst:Option Nat} (hd:∀d,dst=some d->d<N.n)
  {q:PV S} {x:Value} (hq:∀nu D w,Rep un nu D w q x) :
  ∃H',St un E N D H' (push dst q (zcW i .junk e)) (zbe (zbe (bx.map (Box.kill i .junk)) i (.wr (.int .u8) Eb l')) b (.var T2 [.row i])) (a.put dst x) w'/\Ge D w D w':=by
 obtain ⟨v',⟨⟨p',A',n',c',hob,hve,hp'⟩,K5,hne⟩,Ql,keep⟩:=hput;have hh:=hs.Kr.res _ (yAb hb1);obtain ⟨Kt,K2⟩:=zp0 hs.Kr hb1 hi1 hbi (.inr (.inr (.inr ⟨g,T1,p',A',n',c',rfl,rfl,by rw[hve],hp'⟩))) hob K5 Ql hne keep rfl;have hkept:=zas hs.Kr.out Kt.out;have hbl:i<H.length:=(yAc.1 hi1).1;have Q4:b<H.length:=(yAc.1 hb1).1
 have K8:ids ((H.set i (.wr v' Eb 1 ys.length ys)).set b (.fix (.tuple #[.pointer (some ⟨g,0,none⟩),.int .i64 (T1:Nat)]) (some g) size (.cells #[p',v'] T1 (0,0))))=ids (H.set i (.wr v' Eb 1 ys.length ys)) :=
  zaw (r:= .fix (.tuple #[.pointer (some ⟨g,0,none⟩),.int .i64 (T1:Nat)]) (some g) size (.cells #[p,v] T1 (0,0))) (by simp_all[Ne.symm]) rfl
 have hn:=zgD (H:=H) (r':= .wr v' Eb 1 ys.length ys) hi1 rfl;have hnb:(ids H)[i]?=some (false,v):=by simp_all[zal]
 have hy:Rep un (ids (H.set i (.wr v' Eb 1 ys.length ys))) D w' .junk v:=by grind[Rep]
 refine ⟨_,hs.step Kt ?_ (λj z hj=>?_) hd (hq _ _ _),K2⟩
 ·rw[K8];refine ((zbb K2 hkept hnb hy hn hs.Kg).set ?_).set ?_;·simp only[Kc];exact ⟨trivial,rfl,hyl,λj z hj=>(hseg j z hj).mono K2⟩
  ·simp only[Kc,Wl.fixV,Ke,Rep,and_true,List.getD_cons_succ,List.getD_cons_zero];refine ⟨?_,zfb K5⟩;simp_all[zal]
 ·rw[K8];rw[za1] at hj;cases hl:zvo e j with
  |none=>rw[hl] at hj;cases hj|some p0 =>rw[hl] at hj;simp only[yAg,yAf] at hj;subst hj;exact zca K2 hnb hy hn (hs.slots j p0 hl)
theorem zhx{l l':List Int}{xs ys:List Value}(hx:xs.length=l.length)(h:zkj un D w (.int .u8) l xs)(h':zkj un D w (.int .u8) l' ys):zkj un D w (.int .u8) (l++l') (xs++ys):=by
 intro i x hi;have hi:(l++l':List Int)[i]?=some x:=hi;have hsz:U.size un (.int .u8)=1:=rfl;rw[hsz,yBj];rcases yAT i l.length with Ks|K2
 ·rw[yAk Ks] at hi;have:=h i x hi;rw[hsz,yBj] at this;grind
 ·rw[yAF K2] at hi;have:=h' (i - l.length) x hi;rw[hsz,yBj] at this;have he:i=xs.length+(i - l.length):=by omega
  rw[he,zcD];exact this
theorem zkw(l:List Int):zkj un D w (.int .u8) l (l.map (Value.int .u8)):=by
 intro i x hi;have hsz:U.size un (.int .u8)=1:=rfl;rw[hsz,yBj];have hl:i<l.length:=(yAc.1 hi).1;have:((l.map (Value.int .u8)).drop i).take 1=[.int .u8 x]:=by
  apply yAW;intro j;cases j with
  |zero =>have hi':l[i]?=some x:=hi;simp only[yAD,yAu,yAh,yBu,Nat.zero_lt_one,if_true];rw[hi'];rfl
  |succ j=>simp[yAD]
 rw[this];exact .int .nil
theorem zlb{l:List Int}{xs:List Value}(hx:xs.length=l.length)(h:zkj un D w (.int .u8) l xs):xs=l.map (Value.int .u8):=by
 apply yAW;intro i;have hsz:U.size un (.int .u8)=1:=rfl;rcases yAT i l.length with Ks|K2
 ·have h1:=h i _ (yAe Ks);rw[hsz,yBj] at h1;have h2:(xs.drop i).take 1=[xs[i]]:=by
   simp_all[List.take_one]
  rw[h2] at h1;have h3:xs[i]= .int .u8 l[i]:=by
   generalize xs[i]=y at h1;cases h1 with
   |int h'=>rfl
  simp_all
 simp_all
theorem zor{l:List Int}{s:By}(h:zAU l=some s):zaT s=l:=by
 obtain ⟨h1,h2⟩:=zae h;cases h2;have h1:=yAM.1 h1;simp only[zaT,zjt,List.map_map]
 conv=>rhs;rw[<-List.map_id l]
 apply List.map_congr_left;intro n hn;have:=h1 n hn;simp only[yAd,decide_eq_true_eq] at this;simp only[Function.comp,id];rw[UInt8.toNat_ofNat_of_lt' (by show n.toNat<256;omega)];omega
theorem zqa{α:Type}{l:List α}{i:Nat}{x:α}(h:l[i]?=some x):l.set i x=l:=by
 apply yAW;intro j;by_cases hij:i=j;·subst hij;rw[yAx (yAc.1 h).1,h]
 ·rw[yAr hij]
theorem zs8{c:Call}{f k:Nat}{T Eb:TypeId}{l:List (PV S)}(hen:zcS e c=some (f,l))(ho:o.op= .call c)(hcf:∀args w,(callFunc f args).run P w= .ok (.enter f args) w)(hok:BldOk P f k T Eb)
  {K:PV S->Env S->Bxs S->Option R} (h:zkd e bx k T Eb l K=some r) (hd:∀d,o.dst=some d->d<N.n) (hs:Holds un E D0 N e bx a w) {next:Act->World->Prop} {Q:Exit->Act->World->Prop}
  (hk:∀p e' bx',K p e' bx'=some r->Ky [] e e'->Kk bx bx'->∀a' w',Holds un E D0 N (push o.dst p e') bx' a' w'->next a' w'):o.wp P a w next Q:=by
 obtain ⟨D,H,hs,hD,hG⟩:=hs;obtain ⟨vs,g1,g2⟩:=zcA hs hen ho hcf;unfold Oper.wp;rw[g1];unfold zkd at h;split at h
 ·rename_i b T1 rest;split at h
  ·rename_i T2 i hg;split at h
   ·rename_i E1 l0 hi;change List Int at l0;obtain ⟨hc,h9⟩:=zae h;clear h
    rename _=some r=>h
    simp only[yAd,yA4] at hc;obtain ⟨⟨e1,e2⟩,e3,e4⟩:=hc;have e1:=yAa e1;have e2:=yAa e2;have e3:=yAa e3;subst e1;subst e3;have hbi:b≠i:=λhh=>by rw[hh,Nat.beq_refl] at e4;cases e4
    obtain ⟨x,vs,rfl⟩:∃x vs',vs=x::vs':=by
     cases vs with
     |nil=>simp[Ke] at g2|cons x vs=>exact ⟨x,vs,rfl⟩
    simp only[Ke] at g2;obtain ⟨g,v,p,A,n,cc,size,xs,rfl,q1,q2,q3,q4,q5,q6,q7,q8⟩:=zs9 hs hg hi g2.1;have hmt:=hok g v xs w q4
    have pres:∀y:Box S,Kk bx (zbe (zbe (bx.map (Box.kill i .junk)) i y) b (.var T2 [.row i])):=λy =>
     ((Kk.kill i .junk bx).trans (Kk.set (b:= .wr (.int .u8) E1 l0) (by rw[za8,hi];rfl) rfl λT' cs' he=>by cases he)).trans
       (Kk.set (b:= .var T2 [.junk]) (by rw[zat hbi,za8,hg];simp[Box.kill,PV.kill]) rfl λT' cs' he=>by cases he;exact ⟨_,rfl,rfl⟩)
    split at h
    ·-- WriteByte
     rename_i c0;obtain ⟨l1,h1,h2⟩:=zay h;obtain ⟨h3,rfl⟩:=zch h1
     match vs,g2.2 with
     |[],g3=>simp[Ke] at g3|_::_::_,g3=>simp[Ke] at g3|[y],g3 =>simp only[Ke,Rep,and_true] at g3;subst g3;refine (hmt c0 (by rw[q5];exact h3)).mono λz w1 hz=>?_;obtain ⟨rfl,hput⟩:=hz;obtain ⟨H',k1,k2⟩:=zpB hs hg hi hbi q1 q2 hput (l':=l0++[c0]) (q:= .nilIface) (x:= .nilIface) (by simp[q5]) (zhx q5 q6 (zkw (un:=un) (D:=D) (w:=w) [c0])) hd (λnu D w=>by simp only[Rep]);exact hk _ _ _ h2 (Ky.kill _ _ _) (pres _) _ _ ⟨D,H',k1,hD,hG.trans k2⟩
    ·-- WriteString
     rename_i s0;obtain ⟨l1,h1,h2⟩:=zay h;obtain ⟨h3,rfl⟩:=zch h1
     match vs,g2.2 with
     |[],g3=>simp[Ke] at g3|_::_::_,g3=>simp[Ke] at g3|[y],g3 =>
       simp only[Ke,Rep,and_true] at g3;subst g3;have hbl:(zaT s0).length=s0.length:=by simp[zaT]
       refine (hmt s0 (by rw[q5,<-hbl];exact h3)).mono λz w1 hz=>?_;obtain ⟨rfl,hput⟩:=hz;obtain ⟨H',k1,k2⟩:=zpB hs hg hi hbi q1 q2 hput (l':=l0++zaT s0) (q:= .tup [.int .i64 (len s0),.nilIface]) (x:= .tuple #[.int .i64 (s0.length:Int),.nilIface]) (by simp[q5]) (zhx q5 q6 (zkw (un:=un) (D:=D) (w:=w) _)) hd (λnu D w=>by simp only[Rep];exact ⟨_,rfl,by simp[Ke,Rep,len]⟩);exact hk _ _ _ h2 (Ky.kill _ _ _) (pres _) _ _ ⟨D,H',k1,hD,hG.trans k2⟩
    ·-- String
     obtain ⟨s0,h1,h2⟩:=zay h;have hxs:=zlb q5 q6
     match vs,g2.2 with
     |_::_,g3=>simp[Ke] at g3|[],_ =>
       refine (hmt s0 (by rw[zor h1];exact hxs)).mono λz w1 hz=>?_;obtain ⟨rfl,hgr⟩:=hz;have him:=yAb q2
       have Kt:In E D (H.set i (.ref (zal (.wr v E1 1 l0.length xs)))) w1 :=
        hs.Kr.turn q2 hgr trivial (λk hk=>by cases hk) (λ_ _ hk=>.inl hk) (λk o hk=>yAq (hs.Kr.lt k o hk) hgr.size) (λk hk=>by cases hk) (λhk=>by cases hk)
       have K2:Ge D w D w1:=(.of (λ_ _ h=>h) λk o hk=>hgr.block k (hs.Kr.lt k o hk) λhkb=>hs.Kr.apart _ him k hkb.symm o trivial hk);have hkept:=zas hs.Kr.out Kt.out;have K8:ids (H.set i (.ref (zal (.wr v E1 1 l0.length xs))))=ids H:=zaw q2 rfl;have hnb:(ids H)[i]?=some (false,v):=(by simp[ids,q2,zal]);have hy:Rep un (ids H) D w1 .junk v:=(by simp only[Rep]);have hbx:Kj un (ids H) D w1 E (zbe (zbe (bx.map (Box.kill i .junk)) i .gone) b (.var T2 [.junk])) (H.set i (.ref (zal (.wr v E1 1 l0.length xs)))):=(by have h5:=(zbb K2 hkept hnb hy (λj x hx=>.inl hx) hs.Kg).set (i:=i) (b:= .gone) (r:= .ref (zal (.wr v E1 1 l0.length xs))) (by simp only[Kc]);have h6:=h5.set (i:=b) (b:= .var T2 [.junk]) (r:= .fix (.tuple #[.pointer (some ⟨g,0,none⟩),.int .i64 (T1:Nat)]) (some g) size (.cells #[p,v] T1 (0,0))) (by simp only[Kc,Ke,Rep,and_true]);rwa[zqa (by rw[yAr (Ne.symm hbi)];exact q1)] at h6);refine hk _ _ _ h2 (Ky.kill _ _ _) ?_ _ _ ⟨D,_,hs.step (p:= .str s0) Kt (by rw[K8];exact hbx) (λj z hj=>?_) hd (by simp only[Rep]),hD,hG.trans K2⟩
       ·exact ((Kk.kill i .junk bx).trans (Kk.set (b:= .wr (.int .u8) E1 l0) (by rw[za8,hi];rfl) rfl λT' cs' he=>by cases he)).trans
         (Kk.set (b:= .var T2 [.junk]) (by rw[zat hbi,za8,hg];simp[Box.kill,PV.kill]) rfl λT' cs' he=>by cases he;exact ⟨_,rfl,rfl⟩)
       ·rw[K8];rw[za1] at hj;cases hl:zvo e j with
        |none=>rw[hl] at hj;cases hj|some p0 =>rw[hl] at hj;simp only[yAg,yAf] at hj;subst hj;exact zca K2 hnb hy (λj x hx=>.inl hx) (hs.slots j p0 hl)
    ·-- Len
     match vs,g2.2 with
     |_::_,g3=>simp[Ke] at g3|[],_ =>refine Calls.mono (f:=f) hmt λz w1 hz=>?_;obtain ⟨rfl,rfl⟩:=hz;exact hk _ _ _ h (Ky.refl _ _) (Kk.refl _) _ _ ⟨D,H,hs.step hs.Kr hs.Kg hs.slots hd (by simp only[Rep];rw[q5];rfl),hD,hG⟩
    ·cases h
   ·cases h
  ·cases h
 ·cases h
theorem In.dom{n:Nat}(h:In E D H w')(hb:∀r∈H,∀g,r.has g->g<n):In E (λk o=>D k o\/(n<=k/\k<w'.heap.size)) H w' :=
 ⟨h.out,λk o hk=>hk.elim (h.lt k o) λh=>h.2,h.res,λr hr g hg o hf hd=>hd.elim (h.apart r hr g hg o hf) λh2=>by grind,h.disj,h.lent⟩
theorem zrM(Kq:Kx un){c:Call}{f:FuncId}{u:U}{T:TypeId}{us:List (Option U)}{l:List (PV S)}(hen:zcS e c=some (f,l))(ho:o.op= .call c)(hcf:∀args w,(callFunc f args).run P w= .ok (.enter f args) w)
  {ask:List (PV S)->List (El S u)->Option (List (El S u))} (hask:∀args l l',ask args l=some l'->zyj P un f u T args l l')
  {K:PV S->Env S->Bxs S->Option R} (h:zhl un e bx u T us l ask K=some r) (hd:∀d,o.dst=some d->d<N.n) (hs:Holds un E D0 N e bx a w) {next:Act->World->Prop} {Q:Exit->Act->World->Prop}
  (hk:∀p e' bx',K p e' bx'=some r->Ky [] e e'->Kk bx bx'->∀a' w',Holds un E D0 N (push o.dst p e') bx' a' w'->next a' w'):o.wp P a w next Q:=by
 obtain ⟨D,H,hs,hD,hG⟩:=hs;obtain ⟨vs,g1,g2⟩:=zcA hs hen ho hcf;unfold Oper.wp;rw[g1];unfold zhl at h;have htup:∀nu D w,Rep un nu D w (.tup []) (.tuple #[]):=λnu D w=>by simp only[Rep];exact ⟨[],rfl,by simp[Ke]⟩
 split at h
 ·rename_i rest;split at h
  ·rename_i args Qb;obtain ⟨l',h1,h2⟩:=zay h;obtain ⟨x,vs,rfl⟩:∃x vs',vs=x::vs':=by
    cases vs with
    |nil=>simp[Ke] at g2|cons x vs=>exact ⟨x,vs,rfl⟩
   simp only[Ke,Rep] at g2;obtain ⟨rfl,g2⟩:=g2;refine (hask args [] l' h1 D w (.slice none 0 0) [] vs hs.tab hs.Kr.lt (World.ownsRow_nil _ _ _ _) (λg hg=>by simp[Value.ownBlock] at hg) (λi x hi=>by simp at hi) (zeq Kq hs Qb g2)).mono λz w1 hz=>?_;obtain ⟨rfl,hgr,_⟩:=hz;have hb:Below w.heap.size w w1:=by have hgr:Wl.Grow [] w w1:=hgr;exact hgr.below
   have Kt:=hs.Kr.below hb;have K2:=Ge.below hs.Kr hb;have hkept:=zas hs.Kr.out Kt.out;refine hk _ _ _ h2 (Ky.refl _ _) (Kk.refl _) _ _ ⟨_,H,hs.step Kt (hs.Kg.mono K2 hkept λ_ _ h=>h) (λi q hi=>(hs.slots i q hi).ge K2 λ_ _ h=>h) hd (htup _ _ _),λk o hk=>?_,hG.trans K2⟩;rcases hk with hk|hk;·exact hD k o hk
   ·exact .inr (.inl (yAo hs.Kr.out.size hk.1))
  ·cases h
 ·rename_i i rest;split at h
  ·rename_i args v0 T1 l0 Qb hg;split at h
   ·rename_i heq _;subst heq;obtain ⟨hT,h9⟩:=zae h;clear h;have hT:=yAa hT;subst hT;obtain ⟨l',h1,h2⟩:=zay h9;obtain ⟨x,vs,rfl⟩:∃x vs',vs=x::vs':=by
     cases vs with
     |nil=>simp[Ke] at g2|cons x vs=>exact ⟨x,vs,rfl⟩
    simp only[Ke,Rep] at g2;obtain ⟨⟨g3,g4,g5⟩,g2⟩:=g2;obtain ⟨r0,hr1,hr2⟩:=hs.Kg.get hg;have hh:=hs.Kr.res _ (yAb hr1);cases r0 with
    |wr v T' size n xs =>
      simp only[Kc] at hr2;obtain ⟨rfl,rfl,rfl,K9⟩:=hr2;simp only[ids,yAh,hr1,yAg,zal,yAf,Prod.mk.injEq,true_and] at g3;subst g3;refine (hask args l0 l' h1 D w v xs vs (hs.tabL λg hg=>(Wl.Res.holds_lt (r:= .wr v T' (U.size un v0) l0.length xs) hh (show v.ownBlock=some g by cases hv:v.ownBlock<;>simp_all)).1) hs.Kr.lt hh.1 (λg hg o=>hs.Kr.apart _ (yAb hr1) g hg o trivial) K9 (zeq Kq hs Qb g2)).mono λz w1 hz=>?_;obtain ⟨rfl,hgr,xs',hl,K5,hseg⟩:=hz;have hgb:w.grownBy w1 v.ownBlock:=⟨hgr.os,hgr.tape,hgr.output,hgr.size,λk hk hne=>hgr.block k hk λhm=>hne (by cases hv:v.ownBlock<;>simp_all)⟩;obtain ⟨hin0,hge0⟩:=ze3 hs.Kr hr1 K5 hgb (.inl rfl);have Kt:In E (zkU D w w1) (H.set i (.wr v T' (U.size un v0) l'.length xs')) w1:=hin0.dom λs hs2 g hg=>by
       rcases yAl hs2 with ⟨j,hj⟩;by_cases hij:i=j;·subst hij;rw[yAx (yAc.1 hr1).1] at hj;cases hj;exact (Wl.Res.holds_lt hh hg).2
       ·rw[yAr hij] at hj;exact (Wl.Res.holds_lt (hs.Kr.res s (yAb hj)) hg).2
      have K2:Ge D w (zkU D w w1) w1:=⟨λ_ _ h=>.inl h,hge0.cell,hge0.map⟩;have K8:ids (H.set i (.wr v T' (U.size un v0) l'.length xs'))=ids H:=zaw hr1 rfl;refine hk _ _ _ h2 (Ky.refl _ _) (Kk.set hg rfl λT cs he=>by cases he) _ _ ⟨zkU D w w1,_,hs.step Kt ?_ (λj q hi=>?_) hd (htup _ _ _),λk o hk=>hk.elim (hD k o) λh3=>.inr (.inl (yAo hs.Kr.out.size h3.1)),hG.trans K2⟩;·rw[K8];refine (hs.Kg.mono K2 (zas hs.Kr.out Kt.out) λ_ _ h=>h).set ?_;simp only[Kc];exact ⟨trivial,trivial,trivial,hseg⟩
      ·rw[K8];exact (hs.slots j q hi).ge K2 λ_ _ h=>h
    |_=>simp[Kc] at hr2
   ·cases h
  ·cases h
 ·cases h
end
end Pe
end
section
namespace Pe
open Go Go.RowKit
variable{S:Nat->Type}
section
variable{P:Program}{un:Uni S}{tb:Tb S}{orc:Orc S}{inl:Inl S}{E:Wl.Ctx}{D0:Dat}{N:Wl.Fr}{D D':Dat}{H:List Wl.Res}{e:Env S}{bx:Bxs S}{a:Act}{w w':World}{o:Oper}{R:Type}{r:R}
theorem zlB(hf:zns un){nu:Nu}{p:PV S}{cs:List (PV S)}{v:Value}(h:znp un p=some cs)(hr:Rep un nu D w p v):∃vs:List Value,v= .agg vs.toArray/\Ke un nu D w cs vs:=by
 cases p with
 |agg l=>cases h;grind[Rep]|st n x =>cases h;simp only[Rep] at hr;obtain ⟨vs,rfl,hd⟩:=hr;exact ⟨vs,rfl,zbZ hf hd⟩
 |_=>cases h
theorem zld{nu:Nu}{u:U}{x:El S u}{cs:List Value}(h:DR un D w [u] (sg x) cs):Rep un nu D w (inj u x) (zbF u cs):=by
 cases u with
 |st n=>simp_all[inj,Rep,zbF]|int k=>cases h with|int h=>simp only[inj,Rep,zbF,yBX];rfl
 |bool=>cases h with|bool h=>simp only[inj,Rep,zbF,yBX];rfl
 |str=>cases h with|str h=>simp only[inj,Rep,zbF,yBX];rfl
 |sl u =>
   obtain ⟨v,rfl⟩:∃v,cs=[v]:=by cases h with|sl0 A c h0 h=>cases h;simp_all|sl b off c cs hc h1 h2 h=>cases h;simp_all
   simp_all[inj,Rep,zbF]
 |mp k v =>
   obtain ⟨v,rfl⟩:∃v,cs=[v]:=by cases h with|mp kc vc h1 h2 h=>cases h;simp_all
   simp_all[inj,Rep,zbF]
 |rw u =>
   obtain ⟨v,rfl⟩:∃v,cs=[v]:=by cases h with|rw cs h1 h=>cases h;simp_all
   simp_all[inj,Rep,zbF]
 |cs u =>
   obtain ⟨v,rfl⟩:∃v,cs=[v]:=by
    cases h with
    |cs0 A h0 h=>cases h;exact ⟨_,rfl⟩|cs b off cs h1 h2 h=>cases h;exact ⟨_,rfl⟩
   simp only[inj,Rep,zbF,yBX];exact h
theorem zno(Kq:Kx un){nu:Nu}{u:U}{cs:List (PV S)}{vs:List Value}(hr:Ke un nu D w cs vs):∀{fs:List (Nat×Nat)}{l:List (El S u)},zte un u cs fs=some l->∀(k:Nat) y,l[k]?=some y->∃off n,fs[k]?=some (off,n)/\off+n<=vs.length/\DR un D w [u] (sg y) ((vs.drop off).take n)
 |[],l,h,k,y,hy=>by grind[zte]
 |(off,n)::fs,l,h,k,y,hy=>by
   unfold zte at h;split at h
   ·rename_i x l' h1 h2;cases h;obtain ⟨h3,h4⟩:=zae h1;cases k with
    |zero =>simp at hy;subst hy;exact ⟨off,n,rfl,by rw[<-hr.length];simp_all,zjf Kq h4 ((hr.drop off).take n)⟩|succ k=>simpa using zno Kq hr h2 k y (by grind)
   ·cases h
theorem pt_st(Kq:Kx un){T:TypeId}{u:U}{z:El S u}{v0:Value}(hs:St un E N D H e bx a w)(hdr:DR un D w [u] (sg z) v0.cells.toList){dst:Option Nat}(hd:∀d,dst=some d->d<N.n) :
  ∃H',St un E N D H' (push dst (.elr bx.length u 0 0) e) (bx++[.wr u T [z]]) (a.put dst (.pointer (some ⟨w.heap.size,0,none⟩))) (w.alloc (.cells v0.cells T))/\Ge D w D (w.alloc (.cells v0.cells T)):=by
 have hsz:v0.cells.size=U.size un u:=by
  have:=hdr.length Kq.flat
  grind[zcF]
 have hb:Below w.heap.size w (w.alloc (.cells v0.cells T)):=(Below.refl _ _).alloc (yAi _) _
 have K5:(w.alloc (.cells v0.cells T)).ownsRow 0 T (U.size un u) (.slice (some ⟨w.heap.size,0,none⟩) 1 1) 1 v0.cells.toList :=
  ⟨by simp[hsz],.inr ⟨w.heap.size,1,v0.cells,rfl,yAA _,heap_alloc_new w _,yAi _,by grind[maxLen],by omega,by simp_all[yA7]⟩⟩
 have Kt:=hs.Kr.pushWr hb K5 rfl;have K2:Ge D w D (w.alloc (.cells v0.cells T)):=Ge.same hs.Kr hb;refine ⟨_,hs.step Kt ?_ (λi q hi=>(hs.slots i q hi).ge K2 (zbt H _)) hd ?_,K2⟩
 ·refine (hs.Kg.mono K2 (zas hs.Kr.out Kt.out) (zbt H _)).push ?_;simp only[Kc];refine ⟨trivial,trivial,rfl,λi x hi=>?_⟩;cases i with
  |zero =>simp at hi;subst hi;rw[yBI,yBo,yA7 (by simp[hsz])];grind[DR.mono]|succ i=>simp at hi
 ·simp only[Rep];refine ⟨false,w.heap.size,1,1,?_,by simp⟩;rw[hs.Kg.length,zdG];rfl
theorem zrm{T0:TypeId}{u:U}{t:TypeId}(hu:P.underlying t=some (.slice T0))(hT:ElOk P un T0 u){b i:Nat}{T:TypeId}{l:List (El S u)}{v:Value}{k:IntKind}(hs:St un E N D H e bx a w)(hg:zam bx b=some (.wr u T l))(hv:Rep un (ids H) D w (.row b) v)(hi:i<=l.length)(hl:0<l.length) :
  ∃v',(Instr.sliceAt t v (some (.int k (i:Int))) none none).run P w= .ok v' w/\Rep un (ids H) D w (.rsl b u i) v':=by
 obtain ⟨jn,z,g1,g2,g3,g4,g5,g6⟩:=hT.info;obtain ⟨r,hr1,hr2⟩:=hs.Kg.get hg;have hh:=hs.Kr.res _ (yAb hr1);cases r with
 |wr v0 T' size n xs =>
   simp only[Kc] at hr2;obtain ⟨rfl,rfl,rfl,K9⟩:=hr2;have hv0:v0=v:=by simp_all[Rep,zal]
   subst hv0;rcases hh.1.2 with ⟨rfl,h0⟩|⟨g,cap,cur,rfl,hb0,hgg,hnc,hcm,hcs,htk⟩;·omega
   ·have h3:i<=cap:=yAo hi hnc;refine ⟨.slice (some ⟨g,if cap=i then 0 else i*U.size un u,none⟩) (l.length - i) (cap - i),?_,?_⟩
    ·simp[Instr.sliceAt,run_underlying hu,Instr.slice,Instr.sliceBounds,Instr.sliceBound,asIntOf,Go.sizeOf,typeInfo,g1,hi,g3,Addr.add];grind
    ·simp only[Rep,ids,yAh,hr1,yAg,zal];exact ⟨_,_,_,_,_,rfl,rfl,λh=>by rw[if_neg (by omega)]⟩
 |_=>grind[Kc]
theorem go_st(Kq:Kx un){T0:TypeId}{u:U}{t:TypeId}(hu:P.underlying t=some (.slice T0))(hT:ElOk P un T0 u){b i:Nat}{T:TypeId}{l:List (El S u)}{v:Value}{k:IntKind}(hs:St un E N D H e bx a w)(hg:zam bx b=some (.own u T l))(hv:Rep un (ids H) D w (.row b) v)(hi:i<=l.length)(hl:0<l.length){dst:Option Nat}(hd:∀d,dst=some d->d<N.n) :
  ∃v' H',(Instr.sliceAt t v (some (.int k (i:Int))) none none).run P w= .ok v' w/\St un E N D H' (push dst (.row b) (zcW b (.sl u l) e)) (zbe (bx.map (Box.kill b (.sl u l))) b (.own u T (l.drop i))) (a.put dst v') w:=by
 obtain ⟨jn,z,g1,g2,g3,g4,g5,g6⟩:=hT.info;obtain ⟨r,hr1,hr2⟩:=hs.Kg.get hg;have hh:=hs.Kr.res _ (yAb hr1);cases r with
 |own v0 T' size n xs =>
   have hor:=zgs Kq.flat hh hr2;simp only[Kc] at hr2;obtain ⟨rfl,rfl,rfl,hDo,K9⟩:=hr2;have hv0:v0=v:=(by simp only[Rep,ids,yAh,hr1,yAg,zal,yAf,Prod.mk.injEq,true_and] at hv;exact hv.1);subst hv0;rcases hh.1.2 with ⟨rfl,h0⟩|⟨g,off,cap,cur,rfl,hgg,hnc,hcm,hcs,htk⟩;·omega
   ·have h3:i<=cap:=yAo hi hnc;have Kw:(Instr.sliceAt t (.slice (some ⟨g,off,none⟩) l.length cap) (some (.int k (i:Int))) none none).run P w= .ok (.slice (some ⟨g,off+(if cap=i then 0 else i*U.size un u),none⟩) (l.length - i) (cap - i)) w:=by
     simp[Instr.sliceAt,run_underlying hu,Instr.slice,Instr.sliceBounds,Instr.sliceBound,asIntOf,Go.sizeOf,typeInfo,g1,hi,g3,Addr.add];grind
    generalize hoff:(if cap=i then 0 else i*U.size un u)=d at Kw;have hxl:xs.length=l.length*U.size un u:=hh.1.1;have hsplit:l.length*U.size un u=i*U.size un u+(l.length - i)*U.size un u:=by rw[<-yAz];congr 1;omega
    have hsplitc:cap*U.size un u=i*U.size un u+(cap - i)*U.size un u:=(by rw[<-yAz];congr 1;omega);have Qu:Wl.rowAt w T' (U.size un u) (.slice (some ⟨g,off+d,none⟩) (l.length - i) (cap - i)) (l.length - i) (xs.drop (i*U.size un u)):=by
     refine ⟨by simp_all,.inr ⟨g,off+d,cap - i,cur,rfl,hgg,by omega,by omega,λhc=>?_,?_⟩⟩;·have hc0:=hcs (by omega);rw[if_neg (by omega)] at hoff;omega
     ·by_cases hc:cap=i
      ·have hz:l.length - i=0:=(by omega);rw[hz,yBI,yB2,yAG];rw[hxl];have:l.length=i:=by omega
       simp_all
      ·rw[if_neg hc] at hoff;rw[<-htk,List.drop_take,yBh,hsplit,yAP,hoff]
    have hbl:b<H.length:=(yAc.1 hr1).1;have Kt:In E D (H.set b (.own (.slice (some ⟨g,off+d,none⟩) (l.length - i) (cap - i)) T' (U.size un u) (l.length - i) (xs.drop (i*U.size un u)))) w:=(by refine hs.Kr.again hr1 rfl ⟨Qu,hh.2⟩ (λg hg=>hg) (λk o hk=>.inl hk) hs.Kr.lt (λg' hg' o hf hd=>?_);refine hs.Kr.apart _ (yAb hr1) g' hg' o ?_ hd;simp only[zki,Wl.capV,Wl.offV] at hf ⊢;rw[if_neg (by omega)] at hoff;omega);have K2:Ge D w D w:=Ge.refl _ _;have hn:=zgD (H:=H) (r':= .own (.slice (some ⟨g,off+d,none⟩) (l.length - i) (cap - i)) T' (U.size un u) (l.length - i) (xs.drop (i*U.size un u))) hr1 rfl;have hnb:(ids H)[b]?=some (false,.slice (some ⟨g,off,none⟩) l.length cap):=(by simp_all[zal]);have hy:Rep un (ids (H.set b (.own (.slice (some ⟨g,off+d,none⟩) (l.length - i) (cap - i)) T' (U.size un u) (l.length - i) (xs.drop (i*U.size un u))))) D w (.sl u l) (.slice (some ⟨g,off,none⟩) l.length cap):=(by grind[Rep]);refine ⟨_,_,Kw,hs.step Kt ?_ (λj q hi=>?_) hd ?_⟩
    ·refine (zbb K2 (λ_ _ _=>rfl) hnb hy hn hs.Kg).set ?_;simp only[Kc];refine ⟨trivial,trivial,by simp,λg' hg' o ho=>?_,λj x hj=>?_⟩
     ·refine hDo g' hg' o ?_;simp only[Wl.offV] at ho ⊢;by_cases hc:cap=i;·rw[if_pos hc] at hoff;omega
      ·rw[if_neg hc] at hoff;omega
     ·rw[yAu] at hj;have:=K9 (i+j) x hj;simp_all[yAz]
    ·rw[za1] at hi;cases hl:zvo e j with
     |none=>grind|some p0 =>rw[hl] at hi;simp only[yAg,yAf] at hi;subst hi;exact zca K2 hnb hy hn (hs.slots j p0 hl)
    ·simp only[Rep];refine ⟨?_,rfl,rfl⟩;simp_all[zal]
 |_=>grind[Kc]
theorem zhw{y:Box S}:∀{bx:Bxs S}{b:Nat},zam bx b=some y->zbe bx b y=bx
 |[],_,_=>rfl|x::bs,0,h=>by simp[zam] at h;subst h;rfl
 |x::bs,b+1,h=>by simp only[zbe];rw[zhw (by grind[zam])]
theorem zqT(Kq:Kx un)(ht:Qc P un tb){T0:TypeId}{u:U}{t ty:TypeId}{ats:Array TypeId}(Qu:ats[0]?=some t)(hu:P.underlying t=some (.slice T0))(hT:ElOk P un T0 u){b i:Nat}{T:TypeId}{l:List (El S u)}{z:El S u}(hz:zdZ un tb T0 u=some z){x:Value}(hs:St un E N D H e bx a w)(hg:zam bx b=some (.wr u T l))(hx:Rep un (ids H) D w (.rsl b u i) x)(hi:i<=l.length){dst:Option Nat}(hd:∀d,dst=some d->d<N.n) :
  ∃v' w' H',(Builtin.clear_ ats ty #[x]).run P w= .ok v' w'/\St un E N D H' (push dst (.tup []) e) (zbe bx b (.wr u T (l.take i++List.replicate (l.length - i) z))) (a.put dst v') w'/\Ge D w D w':=by
 obtain ⟨jn,zv,g1,g2,g3,g4,g5,g6⟩:=hT.info;obtain ⟨v9,z1,z2⟩:=zfr (P:=P) (D:=D) (w:=w) Kq ht hz;have hv9:v9=zv:=by simp[zeroValue,typeInfo,g1,g2] at z1;exact z1.symm
 subst hv9;have hzd:=zfR z2;obtain ⟨r,hr1,hr2⟩:=hs.Kg.get hg;have hh:=hs.Kr.res _ (yAb hr1);cases r with
 |wr v0 T' size n xs =>
   simp only[Kc] at hr2;obtain ⟨rfl,rfl,rfl,K9⟩:=hr2;simp only[Rep,ids,yAh,hr1,yAg,zal,yAf,Prod.mk.injEq] at hx;obtain ⟨_,g,n1,c1,o1,⟨_,rfl⟩,rfl,ho1⟩:=hx;rcases hh.1.2 with ⟨hc,_⟩|⟨g0,cap,cur,hc,hb0,hgg,hnc,hcm,hcs,htk⟩;·cases hc
   cases hc;have Ku:=hh.1.1;have hmade:=zhX (D:=D) (w:=w) (un:=un) hzd g4 (l.length - i);generalize hm:l.length - i=m at *
   generalize hsz:U.size un u=sz at *
   have hcl:(madeCells v9.cells (m*sz)).toList.length=m*sz:=(by simp[madeCells]);have e1:i*sz+m*sz=l.length*sz:=(by rw[<-yAz];congr 1;omega);have e3:l.length*sz<=cur.size:=(by simp_all[yAs]);have Qo:∀k,w.cell? ⟨g,k,none⟩=cur[k]? :=λk=>by grind[World.cell?]
   rcases yCg m with hm0|hm0
   ·subst hm0;have Kw:(Builtin.clear_ ats ty #[.slice (some ⟨g,o1,none⟩) 0 (c1 - i)]).run P w= .ok (.tuple #[]) w:=by
     simp_all[Builtin.clear_,run_underlying]
    have hl':l.take i++List.replicate 0 z=l:=(by rw[List.replicate_zero,yAR,yA7 (by omega)]);refine ⟨_,w,H,Kw,?_,Ge.refl _ _⟩;rw[hl',zhw hg];exact hs.step hs.Kr hs.Kg hs.slots hd (by simp only[Rep];exact ⟨[],rfl,trivial⟩)
   ·have ho:=ho1 (by omega);subst ho;have hzc:(Builtin.zeroCells v9.cells m).toList=(madeCells v9.cells (m*sz)).toList:=by
     grind[Builtin.zeroCells,madeCells]
    have hone:∀v∈(madeCells v9.cells (m*sz)).toList,v.oneCell'=true:=by
     intro v hv;obtain ⟨k,hk⟩:=yAl hv;have hkl:k<m*sz:=by have:=(yAc.1 hk).1;grind
     have hq:k / sz<m:=(Nat.div_lt_iff_lt_mul g5).2 hkl;have hx9:=(hmade (k / sz) z (by simp[hq])).one;rw[hsz] at hx9;refine hx9 v (yAb (i:=k % sz) ?_);simp_all[Nat.mod_lt,Nat.div_add_mod']
    have hst:=run_storeCells_cells (P:=P) g (i*sz) (madeCells v9.cells (m*sz)).toList 0 w (λk hk=>by rw[hcl] at hk;rw[yBu,Qo,yCe (by omega)];rfl) (λk hk=>by grind[World.frozen?]) hone;obtain ⟨m',rfl⟩:∃m',m=m'+1:=⟨m - 1,by omega⟩;have Kw:(Builtin.clear_ ats ty #[.slice (some ⟨g,i*sz,none⟩) (m'+1) (c1 - i)]).run P w= .ok (.tuple #[]) (w.setCells g (i*sz) (madeCells v9.cells ((m'+1)*sz)).toList):=by simp[Builtin.clear_,Qu,run_underlying hu,zeroValue,typeInfo,g1,g2,hzc];simp_all
    obtain ⟨k1,k2⟩:=zbq g T' (0,0) (madeCells v9.cells ((m'+1)*sz)).toList cur.toList (i*sz) w (by simp_all);have hspl:(zaV.spliceV cur.toList (i*sz) (madeCells v9.cells ((m'+1)*sz)).toList).take (l.length*sz)=xs.take (i*sz)++(madeCells v9.cells ((m'+1)*sz)).toList:=by
     apply yAW;intro k;rw[yAD,yB9,yAY];by_cases hk:k<l.length*sz
     ·rw[if_pos hk,zaN (by grind),hcl];by_cases hk2:k<i*sz;·rw[if_neg (by omega),if_pos (by omega),yAt hk2,<-htk,yAt hk]
      simp_all[if_neg]
     ·rw[if_neg hk,if_neg (by omega)];symm;rw[yAZ];rw[hcl];omega
    have K5:(w.setCells g (i*sz) (madeCells v9.cells ((m'+1)*sz)).toList).ownsRow 0 T' sz (.slice (some ⟨g,0,none⟩) l.length c1) l.length (xs.take (i*sz)++(madeCells v9.cells ((m'+1)*sz)).toList):=(by refine ⟨by simp_all,.inr ⟨g,c1,_,rfl,yAA _,k1,hnc,hcm,by simp[zaF,hcs],hspl⟩⟩);obtain ⟨Kt,K2⟩:=ze3 hs.Kr hr1 K5 k2 (.inl rfl);have K8:ids (H.set b (.wr (.slice (some ⟨g,0,none⟩) l.length c1) T' sz l.length (xs.take (i*sz)++(madeCells v9.cells ((m'+1)*sz)).toList)))=ids H:=zaw hr1 rfl;refine ⟨_,_,_,Kw,hs.step Kt ?_ (λq0 q hq=>?_) hd (by simp only[Rep];exact ⟨[],rfl,trivial⟩),K2⟩
    ·rw[K8];refine (hs.Kg.mono K2 (zas hs.Kr.out Kt.out) λ_ _ h=>h).set ?_;simp only[Kc];refine ⟨trivial,hsz.symm,by simp;omega,?_⟩;intro q0 q hq;rw[yB9,yAY,yBV hi] at hq;by_cases hq2:q0<i
     ·rw[if_pos hq2,yAt hq2] at hq;have h8:=(K9 q0 q hq).mono K2;have e5:(q0+1)*sz<=i*sz:=yAs _ hq2;rw[yAz,yAQ] at e5;have e6:((xs.take (i*sz)++(madeCells v9.cells ((m'+1)*sz)).toList).drop (q0*sz)).take sz=(xs.drop (q0*sz)).take sz:=by
       apply yAW;intro k;rw[yAD,yAD];split;·rw[yAu,yAu,yAk (by rw[yAY];omega),yAt (by omega)]
       ·rfl
      grind
     ·rw[if_neg hq2] at hq;have h8:=(hmade (q0 - i) q hq).mono K2;rw[hsz] at h8;have e6:((xs.take (i*sz)++(madeCells v9.cells ((m'+1)*sz)).toList).drop (q0*sz)).take sz=((madeCells v9.cells ((m'+1)*sz)).toList.drop ((q0 - i)*sz)).take sz:=by
       congr 1;have e7:q0*sz=i*sz+(q0 - i)*sz:=by rw[<-yAz];congr 1;omega
       rw[e7,<-yBh,List.drop_left' (by rw[yAY];omega)]
      grind
    ·rw[K8];exact (hs.slots q0 q hq).ge K2 λ_ _ h=>h
 |_=>simp[Kc] at hr2
theorem zn5{v:Value}(h:(zaC v:PV S)= .nilp):v= .pointer none:=by
 cases v with
 |pointer a=>cases a with
   |none=>rfl|some a=>grind[zaC]
 |slice a l c=>grind[zaC]|tuple vs=>grind[zaC]|_=>grind[zaC]
theorem zn4{v:Value}(h:(zaC v:PV S)= .nils):v= .slice none 0 0:=by
 cases v with
 |pointer a=>cases a<;>simp[zaC] at h|slice a l c=>grind[zaC]|tuple vs=>grind[zaC]|_=>grind[zaC]
theorem zpu{cs:List Value}(h:cs.map zaC=[(.nilp:PV S),.nils]):cs=[.pointer none,.slice none 0 0]:=by
 match cs,h with
 |[],h=>simp at h|[_],h=>simp at h|_::_::_::_,h=>simp at h|[x,y],h =>simp only[yAn,List.map_nil,yBB,and_true] at h;rw[zn5 h.1,zn4 h.2]
theorem zAy(Kq:Kx un)(ht:Qc P un tb)(hor:K4 P un orc)(Kt:Qe P un inl){K:PV S->Env S->Bxs S->Option R}{KX:Exit->Env S->Bxs S->Option R}(h:zy2 un tb orc inl o e bx K KX=some r)(hd:∀d,o.dst=some d->d<N.n)(hs:Holds un E D0 N e bx a w)
  {next:Act->World->Prop} {Q:Exit->Act->World->Prop} (hk:∀p e' bx',K p e' bx'=some r->Ky [] e e'->Kk bx bx'->∀a' w',Holds un E D0 N (push o.dst p e') bx' a' w'->next a' w')
  (hx:∀x e' bx',KX x e' bx'=some r->Ky [] e e'->Kk bx bx'->∀a' w',Holds un E D0 N e' bx' a' w'->Q x a' w'):o.wp P a w next Q:=by
 have old:zfa un tb orc inl o e bx K KX=some r->o.wp P a w next Q:=λh=>zqn Kq ht hor Kt h hd hs hk hx
 unfold zy2 at h;split at h
 ·-- alloc
  rename_i T ho;split at h
  ·rename_i u z hpt;unfold zsy at hpt;obtain ⟨_,hpt⟩:=zae hpt;split at hpt
   ·rename_i u1 hu1;cases hz:zdZ un tb T u1 with
    |none=>rw[hz] at hpt;cases hpt|some z1 =>
      rw[hz] at hpt;simp only[yAg,yAf,Sigma.mk.injEq] at hpt;obtain ⟨rfl,hzz⟩:=hpt;have hzz:=eq_of_heq hzz;subst hzz;obtain ⟨D,H,hs,hD,hG⟩:=hs;obtain ⟨v0,g1,g2⟩:=zfr (P:=P) (D:=D) (w:=w) Kq ht hz;have hdr:=zfR g2;obtain ⟨H',k1,k2⟩:=pt_st (T:=T) Kq hs hdr hd;unfold Oper.wp;have:(execOp a.eval o).run P w= .ok (.value (.pointer (some ⟨w.heap.size,0,none⟩))) (w.alloc (.cells v0.cells T)):=by simp[execOp,ho,Instr.alloc,g1,zev]
      rw[this];exact hk _ _ _ h (Ky.refl _ _) (Kk.append _ _) _ _ ⟨D,H',k1,hD,hG.trans k2⟩
   ·cases hpt
  split at h
  ·rename_i T1 Eb _;cases hb:Nat.beq T1 T with
   |false=>rw[hb] at h;exact old h|true =>
     rw[hb] at h;simp only[cond_true] at h;split at h
     ·rename_i row Kp;split at h
      ·rename_i hz0;obtain ⟨D,H,hs,hD,hG⟩:=hs;obtain ⟨z,g1,g2,g3⟩:=(ht.ty T row Kp).zero;cases hi:P.info? T with
       |none=>rw[hi] at g1;cases g1|some i =>
         rw[hi] at g1;simp only[yAB] at g1;have hzc:z.cells.toList=[.pointer none,.slice none 0 0]:=by rw[hz0] at g3;exact zpu g3.symm
         have hzc':z.cells= #[.pointer none,.slice none 0 0]:=(by rw[<-yBO (xs:=z.cells),hzc]);have Kw:(execOp a.eval o).run P w= .ok (.value (.pointer (some ⟨w.heap.size,0,none⟩))) (w.alloc (.cells #[.pointer none,.slice none 0 0] T)):=(by simp[execOp,ho,Instr.alloc,zeroValue,typeInfo,hi,g1,zev,hzc']);unfold Oper.wp;rw[Kw];have hb:Below w.heap.size w (w.alloc (.cells #[.pointer none,.slice none 0 0] T)):=(Below.refl _ _).alloc (yAi _) _;have hin1:In E D (H++[.fix (.tuple #[.pointer (some ⟨w.heap.size,0,none⟩),.int .i64 (T:Nat)]) (some w.heap.size) 0 (.cells #[.pointer none,.slice none 0 0] T (0,0))]) (w.alloc (.cells #[.pointer none,.slice none 0 0] T)):=by
          refine hs.Kr.push hb ⟨.inr (.inr (.inr ⟨w.heap.size,T,_,_,_,_,rfl,rfl,rfl,.inl rfl⟩)),λg0 hg=>?_⟩ (λg hg=>by simp[Wl.Res.has] at hg;omega) (λk o hk=>.inl hk) (λk o hk=>yAq (hs.Kr.lt k o hk) hb.size) (λg hg o _ hk=>?_);·cases hg;exact ⟨.inl hs.Kr.out.size,heap_alloc_new w _⟩
          ·simp[Wl.Res.has] at hg;have:=hs.Kr.lt g o hk;omega
         have hin2:=hin1.wrNil Eb 1;have K2:Ge D w D (w.alloc (.cells #[.pointer none,.slice none 0 0] T)):=Ge.same hs.Kr hb;have Ku:=hs.Kg.length;have hidge:∀(i:Nat) x,(ids H)[i]?=some x->(ids (H++[.fix (.tuple #[.pointer (some ⟨w.heap.size,0,none⟩),.int .i64 (T:Nat)]) (some w.heap.size) 0 (.cells #[.pointer none,.slice none 0 0] T (0,0))]++[.wr (.slice none 0 0) Eb 1 0 []]))[i]?=some x:=λi x hx=>zbt _ _ _ _ (zbt _ _ _ _ hx);refine hk _ _ _ h (Ky.refl _ _) (Kk.append _ _) _ _ ⟨D,_,hs.step hin2 ?_ (λi q hi=>(hs.slots i q hi).ge K2 hidge) hd ?_,hD,hG.trans K2⟩
         ·have h5:=(hs.Kg.mono K2 (zas hs.Kr.out hin2.out) hidge);have h6:=h5.push (b:= .var T [.row (bx.length+1)]) (r:= .fix (.tuple #[.pointer (some ⟨w.heap.size,0,none⟩),.int .i64 (T:Nat)]) (some w.heap.size) 0 (.cells #[.pointer none,.slice none 0 0] T (0,0))) (by simp only[Kc,Wl.fixV,Ke,Rep,and_true,List.getD_cons_succ,List.getD_cons_zero];refine ⟨?_,rfl,rfl⟩;rw[Ku];simp[ids,zal]);have h7:=h6.push (b:= .wr (.int .u8) Eb []) (r:= .wr (.slice none 0 0) Eb 1 0 []) (by simp only[Kc];exact ⟨trivial,rfl,rfl,λi x hi=>by simp at hi⟩);simpa using h7
         ·simp only[Rep];refine ⟨w.heap.size,?_,rfl⟩;rw[Ku];simp[ids,zal]
      ·cases h
     ·cases h
  ·exact old h
 ·-- index
  rename_i t x i ho;split at h
  ·rename_i T u row harr Kp;split at h
   ·rename_i cs k n hcs hi;split at h
    ·rename_i l hl;obtain ⟨y,h1,h2⟩:=zay h;obtain ⟨j,rfl,hj⟩:∃j:Nat,n=j/\l[j]?=some y:=by
      unfold at? at h1;cases n with
      |ofNat j=>exact ⟨j,rfl,h1⟩|negSucc j=>cases h1
     cases hex:ev e x with
     |none=>rw[hex] at hcs;cases hcs|some p =>rw[hex] at hcs;simp only[yAB] at hcs;refine zb4 (p:=inj u y) (λE N D H a w hs=>?_) hd hs λa' w' h3=>hk _ e bx h2 (Ky.refl _ _) (Kk.refl _) a' w' h3;obtain ⟨vs,hv,hvs⟩:=zlB Kq.flat hcs (hs.ev hex);have hi:=hs.ev hi;simp only[Rep] at hi;obtain ⟨off,m,f1,f2,f3⟩:=zno Kq hvs hl j y hj;rw[Kp] at harr;simp only[yAB] at harr;obtain ⟨f4,f5⟩:=(ht.ty t row Kp).arr T u harr j off m f1;refine .inl ⟨_,?_,zld f3⟩;have:=f5 vs k w f2;simp[execOp,ho,hv,hi,this]
    ·cases h
   ·cases h
  ·exact old h
 ·-- slice
  rename_i t x lo ho;split at h
  ·rename_i b T u l n hga;unfold zsQ at hga;obtain ⟨_,hga⟩:=zae hga;split at hga
   ·rename_i b' hex;split at hga
    ·rename_i u0 T0 l0 T' u' k n0 hg K9 hlo;obtain ⟨h1,hga⟩:=zae hga;simp only[yAf,Prod.mk.injEq,Sigma.mk.injEq] at hga;obtain ⟨rfl,rfl,⟨rfl,hll⟩,rfl⟩:=hga;have hll:=eq_of_heq hll;subst hll;simp only[yAd] at h1;obtain ⟨i,h3,h4⟩:=zay h;obtain ⟨rfl,h5,h6⟩:n0=(i:Int)/\i<=l0.length/\0<l0.length:=by
      unfold zhs at h3;cases n0 with
      |ofNat j =>obtain ⟨h5,h6⟩:=zae h3;cases h6;simp only[yAd,yAK,yAN] at h5;exact ⟨rfl,h5⟩
      |negSucc j=>cases h3
     cases Kp:tb.ty.get t with
     |none=>rw[Kp] at K9;cases K9|some row =>
       rw[Kp] at K9;simp only[yAB] at K9;have Vb:=(ht.ty t row Kp).elem _ _ K9;obtain ⟨T1,u1,q1,q2,q3⟩:=(ht.ty t row Kp).slice Vb;rw[K9] at q1;cases q1;have hu:u0=u':=by
        have h7:=h1.1;simp only[zmm] at h7;cases hq:U.eq? u0 u' with
        |none=>rw[hq] at h7;cases h7|some z=>exact z.down
       subst hu;obtain ⟨D,H,hs,hD,hG⟩:=hs;have hlo:=hs.ev hlo;simp only[Rep] at hlo;obtain ⟨v',H',Kw,k1⟩:=go_st (k:=k) Kq q2 q3 hs hg (hs.ev hex) h5 h6 hd;unfold Oper.wp;have:(execOp a.eval o).run P w= .ok (.value v') w:=by simp[execOp,ho,hlo,Kw]
       rw[this];exact hk _ _ _ h4 (Ky.kill _ _ _) ((Kk.kill _ _ bx).trans (Kk.set (b:=Box.own _ _ _) (by rw[za8,hg];rfl) rfl λT' cs' he=>by cases he)) _ _ ⟨D,H',k1,hD,hG⟩
    ·cases hga
   ·cases hga
  split at h
  ·rename_i b u l n hta;unfold zop at hta;split at hta
   ·rename_i b' hex;split at hta
    ·rename_i u0 T l0 T' u' k n0 hg K9 hlo;obtain ⟨h1,hta⟩:=zae hta;simp only[yAf,Prod.mk.injEq,Sigma.mk.injEq] at hta;obtain ⟨rfl,⟨rfl,hll⟩,rfl⟩:=hta;have hll:=eq_of_heq hll;subst hll;simp only[yAd] at h1;obtain ⟨i,h3,h4⟩:=zay h;obtain ⟨rfl,h5,h6⟩:n0=(i:Int)/\i<=l0.length/\0<l0.length:=by
      unfold zhs at h3;cases n0 with
      |ofNat j =>obtain ⟨h5,h6⟩:=zae h3;cases h6;simp only[yAd,yAK,yAN] at h5;exact ⟨rfl,h5⟩
      |negSucc j=>cases h3
     cases Kp:tb.ty.get t with
     |none=>rw[Kp] at K9;cases K9|some row =>
       rw[Kp] at K9;simp only[yAB] at K9;have Vb:=(ht.ty t row Kp).elem _ _ K9;obtain ⟨T1,u1,q1,q2,q3⟩:=(ht.ty t row Kp).slice Vb;rw[K9] at q1;cases q1;have hu:u0=u':=by
        have h7:=h1.1;simp only[zmm] at h7;cases hq:U.eq? u0 u' with
        |none=>rw[hq] at h7;cases h7|some z=>exact z.down
       subst hu;refine zb4 (p:= .rsl b' u0 i) (λE N D H a w hs=>?_) hd hs λa' w' h3=>hk _ e bx h4 (Ky.refl _ _) (Kk.refl _) a' w' h3;have hlo:=hs.ev hlo;simp only[Rep] at hlo;obtain ⟨v',Kw,hv'⟩:=zrm (k:=k) q2 q3 hs hg (hs.ev hex) h5 h6;exact .inl ⟨v',by simp[execOp,ho,hlo,Kw],hv'⟩
    ·cases hta
   ·cases hta
  ·exact old h
 ·-- call
  rename_i c ho;split at h
  ·rename_i Qv;split at h
   ·rename_i l T u hl K9;unfold zif at h;split at h
    ·rename_i b v i;split at h
     ·rename_i ev1 v2 T' l0 z heq1 hg hz;obtain ⟨e1⟩:=ev1;subst e1;split at h
      ·rename_i e3 _;subst e3;obtain ⟨h1,h2⟩:=zae h;simp only[yAd,yAK] at h1;have hTT:=yAa h1.1;subst hTT;cases Qu:c.argTypes[0]? with
       |none=>rw[Qu] at K9;cases K9|some t =>
         rw[Qu] at K9;simp only[yAB] at K9;cases Kp:tb.ty.get t with
         |none=>rw[Kp] at K9;cases K9|some row =>
           rw[Kp] at K9;simp only[yAB] at K9;have Vb:=(ht.ty t row Kp).elem _ _ K9;obtain ⟨T1,u1,q1,q2,q3⟩:=(ht.ty t row Kp).slice Vb;rw[K9] at q1;cases q1;obtain ⟨D,H,hs,hD,hG⟩:=hs;have hr:=hs.evs hl;obtain ⟨x,Qb⟩:∃x,c.args.toList.map a.eval=[x]:=by
            have:=hr.length;generalize c.args.toList.map a.eval=z at this
            match z,this with
            |[x],_=>exact ⟨x,rfl⟩
           rw[Qb] at hr;simp only[Ke,and_true] at hr;obtain ⟨v',w',H',Kw,k1,k2⟩:=zqT (P:=P) (t:=t) (ats:=c.argTypes) (ty:=o.type) Kq ht Qu q2 q3 hz hs hg hr h1.2 hd;unfold Oper.wp;have hmap:c.args.map a.eval= #[x]:=by
            have:(c.args.map a.eval).toList=[x]:=by rw[Array.toList_map];exact Qb
            rw[<-yBO (xs:=c.args.map a.eval),this]
           have:(execOp a.eval o).run P w= .ok (.value v') w':=by simp[execOp,ho,resolve,Qv,invoke,builtin,hmap,Kw]
           rw[this];exact hk _ _ _ h2 (Ky.refl _ _) (Kk.set hg rfl λT cs he=>by cases he) _ _ ⟨D,H',k1,hD,hG.trans k2⟩
      ·cases h
     ·cases h
    ·cases h
   ·cases h
  ·split at h
   ·rename_i f l hen;split at h;·rename_i k T Eb hsig;obtain ⟨h1,h2⟩:=ht.bld f k T Eb hsig;exact zs8 hen ho h2 h1 h hd hs hk
    ·rename_i u T us hsig;exact zrM Kq hen ho (ht.inpl f u T us hsig) (λargs l l' hl=>hor.p f u T args l l' hl) h hd hs hk
    ·exact old h
   ·cases h
  ·exact old h
 ·exact old h
end
end Pe
end
section
set_option maxRecDepth 100000
namespace Pe
open Go Go.RowKit
variable{S:Nat->Type}
section
variable{P:Program}{un:Uni S}{tb:Tb S}{orc:Orc S}{inl:Inl S}{E:Wl.Ctx}{D0:Dat}{N:Wl.Fr}{D D':Dat}{H:List Wl.Res}{e:Env S}{bx:Bxs S}{a:Act}{w w':World}{o:Oper}{R:Type}{r:R}
theorem zzH(Kq:Kx un){T:TypeId}{u:U}{t ty:TypeId}(hu:P.underlying t=some (.slice T))(hT:ElOk P un T u){old new:List (El S u)}{v x:Value}(hs:St un E N D H e bx a w)(hv:Rep un (ids H) D w (.cont (.cs u) (show El S (.cs u) from old)) v)
  (hx:Rep un (ids H) D w (.sl u new) x) (hne:0<new.length) (hlim:old.length+new.length<=lim) {dst:Option Nat} (hd:∀d,dst=some d->d<N.n) :
  ∃v' w' H',(Builtin.append_ #[t,t] ty #[v,x]).run P w= .ok v' w'/\St un E N D H' (push dst (.row bx.length) e) (bx++[.wr u T (old++new)]) (a.put dst v') w'/\Ge D w D w':=by
 have hv0:∃A,v= .slice A old.length old.length/\Rep un (ids H) D w (.sl u old) v:=by
  simp only[Rep] at hv ⊢;cases hv with
  |cs0 A h0 h=>have h0':old=[]:=h0;subst h0';exact ⟨A,rfl,.sl0 A 0 rfl .nil⟩
  |cs b off cs h1 h2 h=>exact ⟨_,rfl,.sl b off _ cs (yAi _) h1 h2 .nil⟩
 obtain ⟨A0,hvA,hold⟩:=hv0;obtain ⟨A1,c1,olds,o0,o1,o2,o3,o4,o5⟩:=zkf Kq.flat hold;rw[hvA] at o0;cases o0;subst hvA;obtain ⟨A,c,news,rfl,g1,g2,g3,g4,g5⟩:=zkf Kq.flat hx;obtain ⟨inf,z,e1,e2,e3,e4,e5,e6⟩:=hT.info;have hbytes:(old.length+new.length)*inf.bytes<=140737488355328:=by have:(old.length+new.length)*inf.bytes<=4294967296*32768:=yCi (by unfold lim at hlim;exact hlim) e6;omega
 have h63:old.length+new.length<=maxLen:=by unfold lim at hlim;unfold maxLen;omega
 obtain ⟨ad,rfl⟩:∃ad,A=some ad:=by
  cases A with
  |none=>have:=g2 rfl;rw[this] at hne;simp at hne
  |some ad=>exact ⟨ad,rfl⟩
 have hsrc:Src P inf.size t (.slice (some ad) new.length c) new.length news w:=Src.ofSlice w hu ad _ c news (by rw[g1,e3]) (g3 ad rfl) g5;have hfirst:(Builtin.firstCells inf.size old.length (.slice A0 old.length old.length)).run P w.drew= .ok olds.toArray w.drew:=by
  cases A0 with
  |none =>have h0:=o2 rfl;have hn:olds=[]:=yBG (by rw[o1,h0];simp);rw[hn];rfl
  |some b0=>exact (Src.ofSlice (P:=P) w hu b0 old.length old.length olds (by rw[o1,e3]) (o3 b0 rfl) o5).cellsD
 have hr:=run_append_grow_src (P:=P) w t t ty T inf z hu e1 e2 A0 old.length old.length olds hfirst _ new.length news hsrc (by omega) (by unfold maxLen at h63;omega) (growslice_fits (by omega) hbytes);have K2:=grownCap_ge w (old.length+new.length) old.length T;have hb:Below w.heap.size w (w.drew.alloc (.cells ((olds++news).toArray++Builtin.zeroCells z.cells (grownCap w (old.length+new.length) old.length T - (old.length+new.length))) T)):=⟨rfl,rfl,rfl,by simp,λk hk=>Below.heap_alloc w.drew _ k hk⟩;have Ku:(olds++news).length=(old.length+new.length)*U.size un u:=by rw[yAI,o1,g1,yAz]
 have K5:(w.drew.alloc (.cells ((olds++news).toArray++Builtin.zeroCells z.cells (grownCap w (old.length+new.length) old.length T - (old.length+new.length))) T)).ownsRow 0 T (U.size un u) (.slice (some ⟨w.heap.size,0,none⟩) (old.length+new.length) (grownCap w (old.length+new.length) old.length T)) (old++new).length (olds++news):=by
  refine ⟨by rw[Ku,yAI],.inr ⟨w.heap.size,_,_,by rw[yAI],yAA _,heap_alloc_new w.drew _,by rw[yAI];exact K2,grownCap_le_maxLen w _ _ T h63,?_,?_⟩⟩;·simp only[Array.size_append,List.size_toArray,size_zeroCells,Ku];rw[show z.cells.size=U.size un u from by first|exact e4|(rw[e4];exact e3)];rw[<-yAz];congr 1;omega
  ·simp only[Array.toList_append,yAI];rw[<-Ku];exact yBr
 have hseg:zkj un D w u (old++new) (olds++news):=by
  intro i y hy;rcases yAT i old.length with Ks|hgt
  ·rw[yAk Ks] at hy;have h5:=o4 i y hy;have h6:(i+1)*U.size un u<=old.length*U.size un u:=yAs _ Ks;rw[yAz,yAQ] at h6;rw[List.drop_append_of_le_length (by omega),List.take_append_of_le_length (by simp;omega)];exact h5
  ·rw[yAF hgt] at hy;have h5:=g4 (i - old.length) y hy;have h6:i*U.size un u=olds.length+(i - old.length)*U.size un u:=by rw[o1,<-yAz];congr 1;omega
   rw[h6,yCl,yBm (by omega),yBb,yAP];exact h5
 obtain ⟨H',k1,k2⟩:=hs.newWr hb K5 rfl hseg hd;exact ⟨_,_,H',hr,k1,k2⟩
theorem zCT(a b:El S .str):keq un .str a b=(eS a==eS b):=rfl
theorem zCp{u:U}(key:El S .str):∀(l:List (El S .str×El S (.sl u)))(es:List MapEntry)(i:Nat),l.length=es.length ->
  (zeQ ((l.map (·.1)).map (keq un .str key)) es i=none/\(∀x∈l,eS x.1≠eS key)/\(∀z,zdh (keq un .str) key z l=z)/\∀y,zgw (keq un .str) key y l=l++[(key,y)]) \/
  ∃j x e,zeQ ((l.map (·.1)).map (keq un .str key)) es i=some (i+j,e.val)/\l[j]?=some x/\eS x.1=eS key/\es[j]?=some e/\(∀z,zdh (keq un .str) key z l=x.2)/\∀y,zgw (keq un .str) key y l=l.set j (key,y)
 |[],[],i,_=>.inl ⟨rfl,by simp,λ_=>rfl,λ_=>rfl⟩|(k0,v0)::l,e::es,i,hl=>by
   cases hk:keq un .str key k0 with
   |true =>refine .inr ⟨0,(k0,v0),e,by simp[zeQ,hk],rfl,?_,rfl,λz=>by simp only[zdh,hk,cond_true],λy=>by simp only[zgw,hk,cond_true,List.set_cons_zero]⟩;rw[zCT] at hk;exact (eq_of_beq hk).symm|false =>
     have hne:eS k0≠eS key:=λh=>by rw[zCT,h] at hk;simp at hk
     rcases zCp key l es (i+1) (by simpa using hl) with ⟨h1,h2,h3,h4⟩|⟨j,x,e',h1,h2,h3,h4,h5,h6⟩
     ·exact .inl ⟨by simpa only[yAn,hk,zeQ] using h1,λx hx=>by
       rcases yAm.1 hx with rfl|hx;·exact hne
       ·exact h2 x hx,λz=>by simp only[zdh,hk,cond_false,h3],λy=>by simp only[zgw,hk,cond_false,h4,yA3]⟩
     ·exact .inr ⟨j+1,x,e',by simp only[yAn,hk,zeQ];rw[h1];congr 2;omega,by simpa using h2,h3,by simpa using h4,λz=>by simp only[zdh,hk,cond_false,h5],λy=>by simp only[zgw,hk,cond_false,h6,List.set_cons_succ]⟩
 |[],_::_,_,h=>by simp at h
 |_::_,[],_,h=>by simp at h
theorem zC6(ht:Qc P un tb){t:TypeId}(h:zDn tb t=true):(zeroValue t).run P w= .ok (.slice none 0 0) w:=by
 unfold zDn at h;split at h
 ·rename_i r hr;have Kp:=ht.ty t r hr;simp only[yAd,yA4] at h;obtain ⟨v,g1,g2,g3⟩:=Kp.zero;have hc:=(Kp.zagg v g1).2 h.1;have h2:=h.2;split at h2
  ·rename_i hz;rw[hz,hc] at g3;simp at g3;have hv:=zs1 g3.symm;subst hv;cases hi:P.info? t with
   |none=>rw[hi] at g1;cases g1|some i =>rw[hi] at g1;simp only[yAB] at g1;simp[zeroValue,typeInfo,hi,g1]
  ·cases h2
 ·cases h
theorem St.newGrp(h:St un E N D H e bx a w)(u:U)(T2:TypeId){dst:Option Nat}(hd:∀d,dst=some d->d<N.n) :
  ∃H',St un E N D H' (push dst (.ref bx.length) e) (bx++[.grp u T2 [] none]) (a.put dst (.map (some w.heap.size))) (w.alloc (.map #[] 0))/\Ge D w D (w.alloc (.map #[] 0)):=by
 have hb:Below w.heap.size w (w.alloc (.map #[] 0)):=(Below.refl _ _).alloc (yAi _) _;have Kt:In E D (H++[.grp w.heap.size #[] 0 T2 (U.size un u) []]) (w.alloc (.map #[] 0)):=by
  refine h.Kr.push hb ⟨⟨.inl h.Kr.out.size,heap_alloc_new w _⟩,λi q hq=>by simp at hq,λi j q q' _ hq=>by simp at hq⟩ (λg hg=>?_) (λk o hk=>.inl hk) (λk o hk=>yAq (h.Kr.lt k o hk) hb.size) (λg hg o _ hk=>?_)
  ·rcases hg with hg|⟨i,q,hq,_⟩;·cases hg;exact yAi _
   ·simp at hq
  ·rcases hg with hg|⟨i,q,hq,_⟩;·cases hg;have:=h.Kr.lt _ o hk;omega
   ·simp at hq
 have K2:Ge D w D (w.alloc (.map #[] 0)):=Ge.same h.Kr hb;have Ku:=h.Kg.length;refine ⟨_,h.step Kt ?_ (λi q hi=>(h.slots i q hi).ge K2 (zbt H _)) hd ?_,K2⟩;·refine (h.Kg.mono K2 (zas h.Kr.out Kt.out) (zbt H _)).push ?_;simp only[Kc];exact ⟨trivial,trivial,rfl,rfl,List.nodup_nil,λi x hx=>by simp at hx⟩
 ·simp only[Rep];exact ⟨by rw[Ku,zdG];rfl,rfl⟩
theorem zDh{b:Nat}{u:U}{T2:TypeId}{l:List (El S .str×El S (.sl u))}{h:Option By}{mv:Value}(hs:St un E N D H e bx a w)(hg:zam bx b=some (.grp u T2 l h))(hm:Rep un (ids H) D w (.ref b) mv) :
  ∃g es c rows,H[b]?=some (.grp g es c T2 (U.size un u) rows)/\mv= .map (some g)/\GrpRep un D w u l h es.toList (U.size un u) rows:=by
 obtain ⟨r0,hr1,hr2⟩:=hs.Kg.get hg;simp only[Rep] at hm;have hid:=hm.1;simp only[ids,yAh,hr1,yAg,yAf] at hid;cases r0 with
 |grp g es c T2' s2 rows =>simp only[Kc] at hr2;obtain ⟨rfl,rfl,h3⟩:=hr2;simp only[zal,Prod.mk.injEq,true_and] at hid;exact ⟨g,es,c,rows,hr1,hid.symm,h3⟩
 |_=>simp[Kc] at hr2
theorem zC9{b:Nat}{u:U}{T2:TypeId}{l:List (El S .str×El S (.sl u))}{key:By}{mv:Value}{t kt vt:TypeId}(hs:St un E N D H e bx a w)(hg:zam bx b=some (.grp u T2 l none))(hm:Rep un (ids H) D w (.ref b) mv)
  (hu:P.underlying t=some (.map kt vt)) (hk:KeyOk P un kt .str) (hz:(zeroValue vt).run P w= .ok (.slice none 0 0) w) :
  ∃v,(Instr.lookup t mv (.string ⟨key.toArray⟩) false).run P w= .ok v w/\∃g es c rows,H[b]?=some (.grp g es c T2 (U.size un u) rows)/\GrpRep un D w u l none es.toList (U.size un u) rows /\
   ((v= .slice none 0 0/\zdh (keq un .str) key ([]:List (El S u)) l=([]:List (El S u))/\∀x∈l,eS x.1≠key) \/
    ∃(j:Nat) (x:El S .str×El S (.sl u)) (q:Value×Nat×List Value),l[j]?=some x/\eS x.1=key/\zdh (keq un .str) key ([]:List (El S u)) l=x.2/\rows[j]?=some (some q)/\q.1=v/\eL x.2≠[]):=by
 obtain ⟨g,es,c,rows,h1,rfl,h3⟩:=zDh hs hg hm;have hh:=hs.Kr.res _ (yAb h1);have hkr:Rep un [] D w (inj (S:=S) .str (show El S .str from key)) (.string ⟨key.toArray⟩):=by simp only[inj,Rep]
 have hfind:=hk.find D w (show El S .str from key) _ _ _ hkr (zCl h3.2.1);rcases zCp (un:=un) (show El S .str from key) l es.toList 0 h3.len with ⟨f1,f2,f3,f4⟩|⟨j,x,en,f1,f2,f3,f4,f5,f6⟩
 ·refine ⟨.slice none 0 0,?_,g,es,c,rows,h1,h3,.inl ⟨rfl,f3 _,f2⟩⟩;rw[f1] at hfind;simp[Instr.lookup,run_underlying hu,MapKept.run_getObj_map hh.1.2,hk.check D w _ _ _ hkr,hfind,hz,Result.andThen]
 ·obtain ⟨q,q1,q2,q3,_⟩:=h3.2.2.2 j x f2 (by simp);simp only[yAh,f4,yAg,yAf] at q2;refine ⟨en.val,?_,g,es,c,rows,h1,h3,.inr ⟨j,x,q,f2,f3,f5 _,q1,q2.symm,q3.2⟩⟩;rw[f1] at hfind;simp[Instr.lookup,run_underlying hu,MapKept.run_getObj_map hh.1.2,hk.check D w _ _ _ hkr,hfind,Result.andThen]
theorem zC2{α:Type}{l:List α}{i:Nat}{x:α}(h:l[i]?=some x):l.set i x=l:=by
 apply yAW;intro j;by_cases hij:i=j;·subst hij;rw[yAx (yAc.1 h).1,h]
 ·rw[yAr hij]
theorem zC8(hf:zns un){b:Nat}{u:U}{T2:TypeId}{l:List (El S .str×El S (.sl u))}{key:By}{v:Value}{g:Nat}{es:Array MapEntry}{c:Nat}{rows:List (Option (Value×Nat×List Value))}(hs:St un E N D H e bx a w)(hg:zam bx b=some (.grp u T2 l none))
  (h1:H[b]?=some (.grp g es c T2 (U.size un u) rows)) (h3:GrpRep un D w u l none es.toList (U.size un u) rows)
  (hv:(v= .slice none 0 0/\zdh (keq un .str) key ([]:List (El S u)) l=([]:List (El S u))/\∀x∈l,eS x.1≠key) \/
   ∃(j:Nat) (x:El S .str×El S (.sl u)) (q:Value×Nat×List Value),l[j]?=some x/\eS x.1=key/\zdh (keq un .str) key ([]:List (El S u)) l=x.2/\rows[j]?=some (some q)/\q.1=v/\eL x.2≠[]) {dst:Option Nat} (hd:∀d,dst=some d->d<N.n) :
  ∃H',St un E N D H' (push dst (.row bx.length) e) (zbe bx b (.grp u T2 l (some key))++[.own u T2 (zdh (keq un .str) key ([]:List (El S u)) l)]) (a.put dst v) w:=by
 have hh:=hs.Kr.res _ (yAb h1);have hbl:b<H.length:=(yAc.1 h1).1;have Ku:=hs.Kg.length;rcases hv with ⟨rfl,hm,hno⟩|⟨j,x,q,hx,hk,hm,hq,rfl,_⟩
 ·have Kt:In E D (H++[.own (.slice none 0 0) T2 (U.size un u) 0 []]) w:=by
   refine hs.Kr.push (Below.refl _ _) ⟨Wl.rowAt_nil _ _ _,λg hg=>by simp[Value.ownBlock] at hg⟩ (λg hg=>by simp[Wl.Res.has,Value.ownBlock] at hg) (λk o hk=>.inl hk) hs.Kr.lt (λg hg o _ hk=>by simp[Wl.Res.has,Value.ownBlock] at hg)
  refine ⟨_,hs.step Kt ?_ (λi q hi=>(hs.slots i q hi).ge (Ge.refl _ _) (zbt H _)) hd ?_⟩
  ·have hb0:Kj un (ids (H++[.own (.slice none 0 0) T2 (U.size un u) 0 []])) D w E (zbe bx b (.grp u T2 l (some key))) H:=by
    have h9:=(hs.Kg.mono (Ge.refl _ _) (λ_ _ _=>rfl) (zbt H (.own (.slice none 0 0) T2 (U.size un u) 0 []))).set (i:=b) (b:= .grp u T2 l (some key)) (r:= .grp g es c T2 (U.size un u) rows) (by simp only[Kc];exact ⟨trivial,trivial,h3.1,h3.2.1,h3.2.2.1,λi x hi _=>h3.2.2.2 i x hi (by simp)⟩);rwa[zC2 h1] at h9
   refine hb0.push ?_;rw[hm];simp only[Kc];exact ⟨trivial,trivial,rfl,λg hg=>by simp[Value.ownBlock] at hg,λi x hx=>by simp at hx⟩
  ·simp only[Rep];exact ⟨by rw[Ku,zdG];rfl,rfl,rfl⟩
 ·obtain ⟨_,hb2,K5⟩:=zCU (nu:=ids (H.set b (.grp g es c T2 (U.size un u) (rows.set j none))++[.own q.1 T2 (U.size un u) q.2.1 q.2.2])) hf hs.Kr h1 h3 hx (by simp) hq;have hil:j<rows.length:=(yAc.1 hq).1;have get:∀(i:Nat) q',(rows.set j none)[i]?=some (some q')->i≠j/\rows[i]?=some (some q'):=λi q' hi=>by
   by_cases hij:j=i;·subst hij;rw[yAx hil] at hi;cases hi
   ·rw[yAr hij] at hi;exact ⟨λe=>hij e.symm,hi⟩
  have Kt:In E D (H.set b (.grp g es c T2 (U.size un u) (rows.set j none))++[.own q.1 T2 (U.size un u) q.2.1 q.2.2]) w:=by
   refine hs.Kr.split h1 rfl (λg0 o hg0 hf0 i q' hi hb=>?_) (λg0 o hg0 hf0 i q' hi hb=>?_) ⟨hh.1,λi q' hi=>hh.2.1 i q' (get i q' hi).2,λi i' q' q'' hne k1 k2=>hh.2.2 i i' q' q'' hne (get i q' k1).2 (get i' q'' k2).2⟩ K5 (λg0 hg0=>?_) (λg0 hg0=>.inr ⟨j,q,hq,hg0⟩) (λg0 k1 k2=>?_)
   ·by_cases hij:i=j
    ·subst hij;rw[hq] at hi;simp only[yAf] at hi;subst hi;exfalso;rcases hg0 with hg0|⟨i',q'',k1,k2⟩;·cases hg0;exact (hh.2.1 i q hq).2.2 _ hb rfl
     ·exact hh.2.2 i' i q'' q (get i' q'' k1).1 (get i' q'' k1).2 hq g0 k2 hb
    ·exact hf0 i q' (by rw[yAr λe=>hij e.symm];exact hi) hb
   ·have:i=j:=by
     by_cases hij:i=j;·exact hij
     ·exact absurd hb (hh.2.2 j i q q' (λe=>hij e.symm) hq hi g0 hg0)
    subst this;rw[hq] at hi;simp only[yAf] at hi;subst hi;exact hf0
   ·rcases hg0 with hg0|⟨i,q',hi,hb⟩;·exact .inl hg0
    ·exact .inr ⟨i,q',(get i q' hi).2,hb⟩
   ·have k2:q.1.ownBlock=some g0:=k2;rcases k1 with k1|⟨i,q',hi,hb⟩;·cases k1;exact (hh.2.1 j q hq).2.2 _ k2 rfl
    ·exact hh.2.2 i j q' q (get i q' hi).1 (get i q' hi).2 hq g0 hb k2
  have hids0:ids (H.set b (.grp g es c T2 (U.size un u) (rows.set j none)))=ids H:=zaw h1 rfl;have K8:∀(i:Nat) z,(ids H)[i]?=some z->(ids (H.set b (.grp g es c T2 (U.size un u) (rows.set j none))++[.own q.1 T2 (U.size un u) q.2.1 q.2.2]))[i]?=some z:=λi z hz=>zbt _ _ i z (by rw[hids0];exact hz);refine ⟨_,hs.step Kt ?_ (λi p hi=>(hs.slots i p hi).ge (Ge.refl _ _) K8) hd ?_⟩
  ·refine ((hs.Kg.mono (Ge.refl _ _) (λ_ _ _=>rfl) K8).set ?_).push ?_;·simp only[Kc];refine ⟨trivial,trivial,by rw[List.length_set];exact h3.1,h3.2.1,h3.2.2.1,λi y hi hne=>?_⟩;obtain ⟨q',k1,k2⟩:=h3.2.2.2 i y hi (by simp);refine ⟨q',?_,k2⟩;rw[yAr (λe=>hne (by subst e;rw[hx] at hi;cases hi;rw[hk]))];exact k1
   ·rw[hm];exact hb2
  ·simp only[Rep];refine ⟨?_,K5.1.one⟩;exact zqJ (by rw[List.length_set,hs.Kg.length])
theorem zDq{b k:Nat}{u:U}{T2:TypeId}{l:List (El S .str×El S (.sl u))}{key:By}{m:List (El S u)}{mv v:Value}{t kt vt:TypeId}(hs:St un E N D H e bx a w)(hgb:zam bx b=some (.grp u T2 l (some key)))(hgk:zam bx k=some (.own u T2 m))(hne:b≠k)(hm1:m≠[])
  (hm:Rep un (ids H) D w (.ref b) mv) (hv:Rep un (ids H) D w (.row k) v) (hu:P.underlying t=some (.map kt vt)) (hky:KeyOk P un kt .str) {dst:Option Nat} (hd:∀d,dst=some d->d<N.n) :
  ∃w' H',(Instr.mapUpdate t mv (.string ⟨key.toArray⟩) v).run P w= .ok () w'/\St un E N D H' (push dst zaS (zcW k .junk e)) (zbe (zbe (bx.map (Box.kill k .junk)) k .gone) b (.grp u T2 (zgw (keq un .str) (show El S .str from key) m l) none)) (a.put dst undef) w'/\Ge D w D w':=by
 obtain ⟨g,es,c,rows,hr1,rfl,h3⟩:=zDh hs hgb hm;obtain ⟨r',hk1,hk2⟩:=hs.Kg.get hgk;have hh:=hs.Kr.res _ (yAb hr1);have hhk:=hs.Kr.res _ (yAb hk1);cases r' with
 |own vk Tk sk nk ys =>
   simp only[Kc] at hk2;obtain ⟨hTk,rfl,rfl,hDk,helk⟩:=hk2;have hTk:=hTk.symm;subst hTk;have hidk:(ids H)[k]?=some (false,vk):=by simp[ids,hk1,zal]
   simp only[Rep] at hv;rw[hidk] at hv;obtain ⟨hv1,hv2,hv3⟩:=hv;cases hv1;have hap:=zjH hs.Kr.disj hr1 hk1 hne;have hbl:b<H.length:=(yAc.1 hr1).1;have hgl:=(yAE.1 hh.1.2).1
   have fin:∀(l':List (El S .str×El S (.sl u)))(es':Array MapEntry)(c':Nat)(rows':List (Option (Value×Nat×List Value)))(j0:Nat),zgw (keq un .str) (show El S .str from key) m l=l' ->
     (Instr.mapUpdate t (.map (some g)) (.string ⟨key.toArray⟩) v).run P w= .ok () { w with heap:=w.heap.setIfInBounds g (.map es' c') } ->
     (∀(i:Nat) q',rows'[i]?=some (some q')->(i=j0/\q'=(v,m.length,ys))\/(i≠j0/\rows[i]?=some (some q')))->rows'[j0]?=some (some (v,m.length,ys))->(∀(i:Nat) q',i≠j0->rows[i]?=some (some q')->rows'[i]?=some (some q')) ->
     rows'.length=es'.toList.length->es'.toList.map (·.key)=l'.map (λx=>Value.string ⟨(eS x.1).toArray⟩)->(l'.map λx=>eS x.1).Nodup ->
     (∀x,l'[j0]?=some x->eL x.2=m)->(es'.toList.map (·.val))[j0]?=some v->(∀(i:Nat) x,i≠j0->l'[i]?=some x->l[i]?=some x/\eS x.1≠key)->(∀(i:Nat) z,i≠j0->(es.toList.map (·.val))[i]?=some z->(es'.toList.map (·.val))[i]?=some z) ->
     ∃w' H',(Instr.mapUpdate t (.map (some g)) (.string ⟨key.toArray⟩) v).run P w= .ok () w'/\St un E N D H' (push dst zaS (zcW k .junk e)) (zbe (zbe (bx.map (Box.kill k .junk)) k .gone) b (.grp u T2 (zgw (keq un .str) (show El S .str from key) m l) none)) (a.put dst undef) w'/\Ge D w D w':=by
    intro l' es' c' rows' j0 hl Kw get at0 keep Ku hkeys hnd hm0 hv0 hlo hvo;subst hl;have holds1:Wl.Res.holds E w (.grp g es c T2 (U.size un u) rows'):=by
     refine ⟨hh.1,λj q' hj=>?_,λj j' q' q'' hjj h1 h2 g0 hg1 hg2=>?_⟩
     ·rcases get j q' hj with ⟨rfl,rfl⟩|⟨_,h4⟩;·exact ⟨hhk.1,hhk.2,λg0 hg1 hg2=>hap g0 (.inl (by rw[hg2])) hg1⟩
      ·exact hh.2.1 j q' h4
     ·rcases get j q' h1 with ⟨rfl,rfl⟩|⟨n1,h4⟩<;>rcases get j' q'' h2 with ⟨rfl,rfl⟩|⟨n2,h5⟩;·exact hjj rfl
      ·exact hap g0 (.inr ⟨j',q'',h5,hg2⟩) hg1
      ·exact hap g0 (.inr ⟨j,q',h4,hg1⟩) hg2
      ·exact hh.2.2 j j' q' q'' hjj h4 h5 g0 hg1 hg2
    have hin1:=hs.Kr.join (id:=(false,v)) hr1 hk1 hne rfl rfl (r':= .grp g es c T2 (U.size un u) rows') (λg0 o hg0 hf0 hr0 i q' hi hb=>by
      by_cases hij:i=j0
      ·exfalso;rcases hg0 with hg0|⟨i',q'',k1,k2⟩;·cases hg0;exact (hh.2.1 i q' hi).2.2 _ hb rfl
       ·rcases get i' q'' k1 with ⟨rfl,rfl⟩|⟨n1,h4⟩;·exact hap g0 hr0 k2
        ·exact hh.2.2 i' i q'' q' (λe=>n1 (e.trans hij)) h4 hi g0 k2 hb
      ·exact hf0 i q' (keep i q' hij hi) hb) (λg0 o hg0 hf0 hs0=>hf0 j0 _ at0 hs0) holds1 (λg0 hg0=>by
     rcases hg0 with hg0|⟨j,q',hj,hg0⟩;·exact .inl (.inl hg0)
     ·rcases get j q' hj with ⟨rfl,rfl⟩|⟨_,h4⟩;·exact .inr hg0
      ·exact .inl (.inr ⟨j,q',h4,hg0⟩))
    have hset1:((H.set k (.ref (false,v))).set b (.grp g es c T2 (U.size un u) rows'))[b]?=some (.grp g es c T2 (U.size un u) rows'):=yAx (by simpa using hbl);have hgr:w.grownBy { w with heap:=w.heap.setIfInBounds g (.map es' c') } (some g):=⟨rfl,rfl,rfl,by simp,λk hk hne=>by show (w.heap.setIfInBounds g _)[k]?=_;rw[yA1,if_neg (λh:g=k=>hne (by rw[h]))]⟩;have hin2:In E D (((H.set k (.ref (false,v))).set b (.grp g es c T2 (U.size un u) rows')).set b (.grp g es' c' T2 (U.size un u) rows')) { w with heap:=w.heap.setIfInBounds g (.map es' c') }:=(by refine hin1.turn hset1 hgr ⟨⟨hh.1.1,by simp[hgl]⟩,λj q' hj=>?_,holds1.2.2⟩ (λg0 hg0=>.inl hg0) (λ_ _ h=>.inl h) (λk0 o h=>yAq (hs.Kr.lt k0 o h) hgr.size) (λg0 hg0 o hf hd=>hin1.apart _ (yAb hset1) g0 hg0 o hf hd) (λhe=>by cases he);obtain ⟨a1,a2,a3⟩:=holds1.2.1 j q' hj;exact ⟨a1.of λg0 hg0=>hgr.block g0 (a1.lt g0 hg0) (λe=>a3 g0 hg0 (by cases e;rfl)),a2,a3⟩);rw[List.set_set] at hin2;have Qa:=yAb hr1;have K2:Ge D w D { w with heap:=w.heap.setIfInBounds g (.map es' c') }:=(.of (λ_ _ h=>h) λk0 o hk=>hgr.block k0 (hs.Kr.lt k0 o hk) λhkb=>hs.Kr.apart _ Qa k0 (.inl hkb.symm) o (λi q hi hq=>absurd (yAS hkb) ((hh.2.1 i q hi).2.2 k0 hq)) hk);have K8:ids ((H.set k (.ref (false,v))).set b (.grp g es' c' T2 (U.size un u) rows'))=ids H:=by have h9:(H.set k (.ref (false,v)))[b]?=some (.grp g es c T2 (U.size un u) rows):=(by rw[yAr λe=>hne e.symm];exact hr1);exact (zaw (r':= .grp g es' c' T2 (U.size un u) rows') h9 rfl).trans (zaw hk1 rfl)
    have hn:∀(j:Nat) z,(ids H)[j]?=some z->(ids ((H.set k (.ref (false,v))).set b (.grp g es' c' T2 (U.size un u) rows')))[j]?=some z\/(j=k/\z.1=false):=λj z hz=>.inl (by rw[K8];exact hz);have hy:Rep un (ids ((H.set k (.ref (false,v))).set b (.grp g es' c' T2 (U.size un u) rows'))) D { w with heap:=w.heap.setIfInBounds g (.map es' c') } (.junk:PV S) v:=(by simp only[Rep]);refine ⟨_,_,Kw,hs.step hin2 ?_ (λj p hj=>?_) hd ?_,K2⟩
    ·refine ((zbb K2 (zas hs.Kr.out hin2.out) hidk hy hn hs.Kg).set (b:= .gone) (r:= .ref (false,v)) (i:=k) (by simp only[Kc])).set ?_;simp only[Kc];refine ⟨trivial,trivial,Ku,hkeys,hnd,λi x hi _=>?_⟩;by_cases hij:i=j0;·subst hij;refine ⟨_,at0,hv0,⟨by rw[hm0 x hi],by rw[hm0 x hi];exact hm1⟩,λg0 hg0 o ho=>hDk g0 hg0 o ho,λj y hj=>?_⟩;rw[hm0 x hi] at hj;exact (helk j y hj).mono K2
     ·obtain ⟨h4,h5⟩:=hlo i x hij hi;obtain ⟨q,q1,q2,q3,q4,q5⟩:=h3.2.2.2 i x h4 (λe=>h5 (yAS e).symm);exact ⟨q,keep i q hij q1,hvo i _ hij q2,q3,q4,λj y hj=>(q5 j y hj).mono K2⟩
    ·rw[za1] at hj;cases hl:zvo e j with
     |none=>rw[hl] at hj;cases hj|some p0 =>rw[hl] at hj;simp only[yAg,yAf] at hj;subst hj;exact zca K2 hidk hy hn (hs.slots j p0 hl)
    ·simp only[zaS,Rep];exact ⟨[],rfl,by simp[Ke]⟩
   have kr:Rep un [] D w (inj (S:=S) .str (show El S .str from key)) (.string ⟨key.toArray⟩):=(by simp only[inj,Rep]);have hfind:=hky.find D w (show El S .str from key) _ _ _ kr (zCl h3.2.1);have K9:=h3.len;rcases zCp (un:=un) (show El S .str from key) l es.toList 0 K9 with ⟨f1,f2,f3,f4⟩|⟨j,x,en,f1,f2,f3,f4,f5,f6⟩
   ·rw[f1] at hfind;have hrl:rows.length=l.length:=h3.1.trans K9.symm;refine fin (l++[((show El S .str from key),show El S (.sl u) from m)]) (es.push ⟨.string ⟨key.toArray⟩,v,c⟩) (c+1) (rows++[some (v,m.length,ys)]) l.length (f4 m) ?_ (λi q' hi=>?_) (by rw[<-hrl];simp) (λi q' _ hi=>by rw[yAk (yAc.1 hi).1];exact hi) (by simp[h3.1]) (by simp[h3.2.1,eS]) ?_ (λx hx=>by simp at hx;rw[<-hx];rfl) (by simp[K9]) (λi x hij hi=>?_) (λi z _ hi=>by simp only[Array.toList_push,List.map_append];rw[yAk (yAc.1 hi).1];exact hi);·simp[Instr.mapUpdate,run_underlying hu,MapKept.run_getObj_map hh.1.2,hky.check D w _ _ _ kr,hfind,MapKept.run_setObj_map _ hh.1.2,Result.andThen]
    ·by_cases hir:i<rows.length;·rw[yAk hir] at hi;exact .inr ⟨by omega,hi⟩
     ·rw[yAF (by omega)] at hi;have:i - rows.length=0:=by have:=(yAc.1 hi).1;simp at this;omega
      rw[this] at hi;simp at hi;exact .inl ⟨by omega,hi.symm⟩
    ·rw[List.map_append,List.nodup_append];refine ⟨h3.2.2.1,by simp,λx hx y hy=>?_⟩;obtain ⟨z,hz,rfl⟩:=yBw.1 hx;simp only[yAn,List.map_nil,yBp] at hy;subst hy;exact f2 z hz
    ·have hil:i<l.length:=by
      have:=(yAc.1 hi).1;simp at this;omega
     rw[yAk hil] at hi;exact ⟨hi,f2 x (yAb hi)⟩
   ·rw[f1] at hfind;have hj:es[j]?=some en:=by simpa using f4
    have f3':eS x.1=key:=f3;have hjl:j<l.length:=(yAc.1 f2).1;have hjr:j<rows.length:=(by have:=h3.1;omega);have hek:en.key= .string ⟨key.toArray⟩:=(by have h9:=congrArg (λl=>l[j]?) h3.2.1;simp only[yAh,f4,f2,yAg,yAf] at h9;rw[h9,f3']);have hst:=hky.stays D w (show El S .str from key) (show El S .str from key) _ en.key kr (by rw[hek];exact kr) (by rw[zCT];simp);refine fin (l.set j ((show El S .str from key),show El S (.sl u) from m)) (es.modify j λe'=>{ e' with key:= .string ⟨key.toArray⟩,val:=v }) c (rows.set j (some (v,m.length,ys))) j (f6 m) ?_ (λi q' hi=>?_) (yAx hjr) (λi q' hij hi=>by rw[yAr λe=>hij e.symm];exact hi) (by simp[h3.1]) ?_ ?_ (λx hx=>by rw[yAx hjl] at hx;cases hx;rfl) ?_ (λi y hij hi=>?_) (λi z hij hi=>?_);·simp[Instr.mapUpdate,run_underlying hu,MapKept.run_getObj_map hh.1.2,hky.check D w _ _ _ kr,hfind,hj,hst,MapKept.run_setObj_map _ hh.1.2,Result.andThen]
    ·by_cases hij:j=i;·subst hij;rw[yAx hjr] at hi;simp at hi;exact .inl ⟨rfl,hi.symm⟩
     ·rw[yAr hij] at hi;exact .inr ⟨λe=>hij e.symm,hi⟩
    ·rw[Array.toList_modify];apply yAW;intro i;have h9:=congrArg (λl=>l[i]?) h3.2.1;simp only[yAh] at h9 ⊢;by_cases hij:j=i;·subst hij;rw[yAx hjl,List.getElem?_modify];simp[f4,eS]
     ·rw[yAr hij,List.getElem?_modify];simpa[hij] using h9
    ·have:(l.set j ((show El S .str from key),show El S (.sl u) from m)).map (λx=>eS x.1)=l.map λx=>eS x.1:=by
      apply yAW;intro i;simp only[yAh];by_cases hij:j=i;·subst hij;rw[yAx hjl,f2];exact congrArg some f3'.symm
      ·rw[yAr hij]
     rw[this];exact h3.2.2.1
    ·rw[Array.toList_modify,yAh,List.getElem?_modify];simp[f4]
    ·rw[yAr λe=>hij e.symm] at hi;refine ⟨hi,λe=>hij ?_⟩;have hnd:=h3.2.2.1;have h8:(l.map λx=>eS x.1)[i]?=some key:=by simp[hi,e]
     have h9:(l.map λx=>eS x.1)[j]?=some key:=(by simp[f2,f3']);exact (List.getElem?_inj (by rw[yBi];exact (yAc.1 hi).1) hnd).1 (h8.trans h9.symm)
    ·rw[Array.toList_modify];simp only[yAh,List.getElem?_modify] at hi ⊢;have hji:¬j=i:=λe=>hij e.symm;simpa[hji] using hi
 |_=>simp[Kc] at hk2
theorem zCG(ht:Qc P un tb){t:TypeId}{u:U}{T2:TypeId}(h:zCV tb t=some (u,T2)):∃kt vt,P.underlying t=some (.map kt vt)/\KeyOk P un kt .str/\∀w,(zeroValue vt).run P w= .ok (.slice none 0 0) w:=by
 unfold zCV at h;cases Kp:tb.ty.get t with
 |none=>rw[Kp] at h;cases h|some row =>
   rw[Kp] at h;simp only[yAB] at h;split at h
   ·rename_i kt vt u0 hmp;split at h;·obtain ⟨h1,_⟩:=zae h;obtain ⟨hu,hk⟩:=(ht.ty t row Kp).mp _ _ _ _ hmp;exact ⟨kt,vt,hu,hk,λw=>zC6 ht h1⟩
    ·cases h
   ·cases h
theorem zCL(Kq:Kx un)(ht:Qc P un tb){K:PV S->Env S->Bxs S->Option R}{K0:Option R}{t:TypeId}{m x:Operand}(ho:o.op= .lookup t m x false)(h:zCn un tb o e bx t m x K K0=some r)(hd:∀d,o.dst=some d->d<N.n)(hs:Holds un E D0 N e bx a w)
  {next:Act->World->Prop} {Q:Exit->Act->World->Prop} (hk:∀p e' bx',K p e' bx'=some r->Ky [] e e'->Kk bx bx'->∀a' w',Holds un E D0 N (push o.dst p e') bx' a' w'->next a' w') (old:K0=some r->o.wp P a w next Q):o.wp P a w next Q:=by
 unfold zCn at h;split at h
 ·rename_i b hm;split at h
  ·rename_i u T2 l hh hg;split at h
   ·rename_i key u' T2' hx hty;obtain ⟨h1,h2⟩:=zae h;obtain ⟨D,H,hs,hD,hG⟩:=hs;obtain ⟨kt,vt,hu,hky,hz⟩:=zCG (P:=P) (un:=un) ht hty;have hkv:=hs.ev hx;simp only[Rep] at hkv;obtain ⟨v,Kw,g,es,c,rows,k1,k3,hv⟩:=zC9 (P:=P) (key:=key) hs hg (hs.ev hm) hu hky (hz w);have hex:(execOp a.eval o).run P w= .ok (.value v) w:=by simp[execOp,ho,hkv,Kw]
    unfold Oper.wp;rw[hex];cases hl:zdP tb o with
    |true =>rw[hl] at h2;obtain ⟨H',k4⟩:=zC8 Kq.flat hs hg k1 k3 hv hd;exact hk _ _ _ h2 (Ky.refl _ _) ((Kk.set hg rfl λT' cs' he=>by cases he).trans (Kk.append _ _)) _ _ ⟨D,H',k4,hD,hG⟩
    |false =>
      rw[hl] at h2;simp only[cond_false] at h2;have hsl:Rep un (ids H) D w (.sl u (zdh (keq un .str) key ([]:List (El S u)) l)) v:=by
       rcases hv with ⟨rfl,hm0,_⟩|⟨j,y,q,hy,_,hm0,hq,rfl,_⟩;·rw[hm0];simp only[Rep];exact .sl0 none 0 rfl .nil
       ·rw[hm0];exact (zCU Kq.flat hs.Kr k1 k3 hy (by simp) hq).1
      cases hf:zCX tb o with
      |false=>rw[hf] at h2;have hop:=old h2;unfold Oper.wp at hop;rw[hex] at hop;exact hop
      |true =>
        rw[hf] at h2;simp only[cond_true] at h2;suffices hfin:∃p,K p e bx=some r/\Rep un (ids H) D w p v by obtain ⟨p,hp,hr⟩:=hfin;exact hk _ _ _ hp (Ky.refl _ _) (Kk.refl _) _ _ ⟨D,H,hs.step hs.Kr hs.Kg (λi q hi=>hs.slots i q hi) hd hr,hD,hG⟩
        split at h2
        ·rename_i hnil;refine ⟨_,h2,?_⟩;rcases hv with ⟨rfl,_,_⟩|⟨j,y,q,hy,_,hm0,hq,rfl,hne⟩;·simp only[Rep]
         ·exact absurd (hm0.symm.trans hnil) hne
        ·rename_i y0 r0 hcons;rw[hcons] at hsl;exact ⟨_,h2,hsl⟩
   ·cases h
  ·exact old h
 ·exact old h
theorem zCw(ht:Qc P un tb){K:PV S->Env S->Bxs S->Option R}{K0:Option R}{t:TypeId}{m x y:Operand}(h:zCx un tb e bx t m x y K K0=some r)(ho:∀w w',(Instr.mapUpdate t (a.eval m) (a.eval x) (a.eval y)).run P w= .ok () w'->(execOp a.eval o).run P w= .ok .skip w')(hd:∀d,o.dst=some d->d<N.n)(hs:Holds un E D0 N e bx a w)
  {next:Act->World->Prop} {Q:Exit->Act->World->Prop} (hk:∀p e' bx',K p e' bx'=some r->Ky [] e e'->Kk bx bx'->∀a' w',Holds un E D0 N (push o.dst p e') bx' a' w'->next a' w') (old:K0=some r->o.wp P a w next Q):o.wp P a w next Q:=by
 unfold zCx at h;split at h
 ·rename_i b hm;split at h
  ·rename_i u T2 l hh hg;split at h
   ·rename_i key k0 j g0 hx hy hty;split at h
    ·rename_i v T r0 hj;split at h
     ·rename_i heq _;subst heq;obtain ⟨h1,h2⟩:=zae h;simp only[yAd,yA4] at h1;obtain ⟨⟨q1,q2⟩,q3,q4⟩:=h1;obtain rfl:=yAa q1;have hne:b≠j:=λe=>by rw[e] at q2;simp at q2
      obtain rfl:=eq_of_beq q3;obtain ⟨D,H,hs,hD,hG⟩:=hs;obtain ⟨kt,vt,hu,hky,_⟩:=zCG (P:=P) (un:=un) (T2:=g0.2) (u:=g0.1) ht hty;have hkv:=hs.ev hx;simp only[Rep] at hkv;obtain ⟨w',H',Kw,k4,k5⟩:=zDq (P:=P) hs hg hj hne (λe=>by rw[e] at q4;simp[Nat.blt] at q4) (hs.ev hm) (hs.ev hy) hu hky hd;unfold Oper.wp;rw[ho w w' (by rw[hkv];exact Kw)];refine hk _ _ _ h2 (Ky.kill _ _ _) ?_ _ _ ⟨D,H',k4,hD,hG.trans k5⟩;refine (Kk.kill _ _ _).trans (Kk.trans (Kk.set (b:= .own v T r0) ?_ rfl λT' cs' he=>by cases he) (Kk.set (b:= .grp v T l (some key)) ?_ rfl λT' cs' he=>by cases he));·rw[za8,hj];rfl
      ·rw[zat hne,za8,hg];rfl
     ·cases h
    ·cases h
   ·cases h
  ·exact old h
 ·exact old h
theorem zzr:∀(bx:Bxs S)(b:Box S),zam (bx++[b]) bx.length=some b|[],_=>rfl|_::r,b=>by simpa[zam] using zzr r b
theorem zzl:∀(bx:Bxs S)(b c:Box S),zbe (bx++[b]) bx.length c=bx++[c]|[],_,_=>rfl|_::r,b,c=>by simp[zbe,zzl r b c]
theorem zjF(Kq:Kx un)(ht:Qc P un tb)(hor:K4 P un orc)(Kt:Qe P un inl){K:PV S->Env S->Bxs S->Option R}{KX:Exit->Env S->Bxs S->Option R}(h:zpS un tb orc inl o e bx K KX=some r)(hd:∀d,o.dst=some d->d<N.n)(hs:Holds un E D0 N e bx a w)
  {next:Act->World->Prop} {Q:Exit->Act->World->Prop} (hk:∀p e' bx',K p e' bx'=some r->Ky [] e e'->Kk bx bx'->∀a' w',Holds un E D0 N (push o.dst p e') bx' a' w'->next a' w')
  (hx:∀x e' bx',KX x e' bx'=some r->Ky [] e e'->Kk bx bx'->∀a' w',Holds un E D0 N e' bx' a' w'->Q x a' w'):o.wp P a w next Q:=by
 have old:zy2 un tb orc inl o e bx K KX=some r->o.wp P a w next Q:=λh=>zAy Kq ht hor Kt h hd hs hk hx
 unfold zpS at h;split at h
 ·-- makeMap
  rename_i t ho;cases hl:zdP tb o with
  |false=>rw[hl] at h;exact old h|true =>
    rw[hl] at h;simp only[cond_true] at h;split at h
    ·rename_i u T2 hgt;obtain ⟨D,H,hs,hD,hG⟩:=hs;obtain ⟨H',k1,k2⟩:=hs.newGrp u T2 hd;unfold Oper.wp;have:(execOp a.eval o).run P w= .ok (.value (.map (some w.heap.size))) (w.alloc (.map #[] 0)):=by simp[execOp,ho];rfl
     rw[this];exact hk _ _ _ h (Ky.refl _ _) (Kk.append _ _) _ _ ⟨D,H',k1,hD,hG.trans k2⟩
    ·cases h
 ·-- lookup
  rename_i t m x ho;exact zCL Kq ht ho h hd hs hk old
 ·-- mapUpdate
  rename_i t m x y ho;exact zCw ht h (λw w' Kw=>by simp[execOp,ho,Kw]) hd hs hk old
 ·-- insert
  rename_i t m x y ho;exact zCw ht h (λw w' Kw=>by simp[execOp,ho,Kw]) hd hs hk old
 ·-- call
  rename_i c ho;split at h
  ·rename_i Qv;split at h
   ·rename_i u0 old0 x t hev htw;split at h
    ·rename_i T u K9;split at h
     ·rename_i new heq hnew _;subst heq;obtain ⟨h1,h2⟩:=zae h;obtain ⟨l,h3,h4⟩:=zay h2;obtain ⟨h5,rfl⟩:=zch h3;obtain ⟨D,H,hs,hD,hG⟩:=hs.freeze (zg1 x);cases Kp:tb.ty.get t with
      |none=>rw[Kp] at K9;cases K9|some row =>
        rw[Kp] at K9;simp only[yAB] at K9;have hrw:=ht.ty t row Kp;obtain ⟨T',u',g1,g2,g3⟩:=hrw.slice (hrw.elem T u0 K9);rw[K9] at g1;simp at g1;obtain ⟨rfl,rfl⟩:=g1;obtain ⟨args,hca⟩:∃args:List Operand,c.args=⟨args⟩:=⟨c.args.toList,by cases c.args;rfl⟩;have hr:=hs.evs hev;rw[hca] at hr;have Qu:c.argTypes= #[t,t]:=by obtain ⟨tl,htl⟩:∃l:List Nat,c.argTypes=⟨l⟩:=⟨c.argTypes.toList,by cases c.argTypes;rfl⟩;rw[htl] at htw ⊢;rcases tl with _|⟨x1,_|⟨x2,_|⟨x3,_⟩⟩⟩<;>simp[twice] at htw;obtain ⟨q1,q2⟩:=zae htw;cases q2;rw[yAa q1]
        rcases args with _|⟨s0,_|⟨x0,_|⟨_,_⟩⟩⟩<;>simp only[yAn,List.map_nil,Ke,and_true,and_false] at hr;have f5:Rep un (ids H) D w (.sl u0 new) (a.eval x0):=by have:=(zbT Kq (un:=un) hnew (hs.fz1 Kq hr.2)).2;simpa only[inj] using this
        obtain ⟨v',w',H',Kw,k1,k2⟩:=zzH (P:=P) (ty:=o.type) Kq g2 g3 hs hr.1 f5 (by simpa[yAN] using h1) (by simpa using h5) hd;have hex:(execOp a.eval o).run P w= .ok (.value v') w':=by simp[execOp,ho,resolve,Qv,hca,Qu,invoke,builtin,Kw]
        unfold Oper.wp;rw[hex];rw[zbu] at k1;have hpb:∀b,Kk bx (zaq (zg1 x) bx++[b]):=λb=>(Kk.freeze _ _).trans (Kk.append _ _);cases hlin:zdP tb o with
        |true =>rw[hlin] at h4;exact hk _ _ _ h4 (Ky.refl _ _) (hpb _) _ _ ⟨D,H',k1,hD,hG.trans k2⟩|false =>
          rw[hlin] at h4;have Qy:zam (zaq (zg1 x) bx++[Box.wr u0 T ((show List (El S u0) from old0)++new)]) bx.length=some (.wr u0 T ((show List (El S u0) from old0)++new)):=by rw[<-zbu (zg1 x) bx];exact zzr _ _
          obtain ⟨D2,H2,m1,m2,m3,m4⟩:=zrR k1 Qy;have Qi:zbe (zaq (zg1 x) bx++[Box.wr u0 T ((show List (El S u0) from old0)++new)]) bx.length (.own u0 T ((show List (El S u0) from old0)++new))=zaq (zg1 x) bx++[.own u0 T ((show List (El S u0) from old0)++new)]:=by rw[<-zbu (zg1 x) bx];exact zzl _ _ _
          rw[Qi] at m1;exact hk _ _ _ h4 (Ky.refl _ _) (hpb _) _ _ ⟨D2,H2,m1,λk o hk=>(m4 k o hk).elim (hD k o) .inr,hG.trans (k2.trans m3)⟩
     ·cases h
    ·cases h
   ·exact old h
  ·exact old h
 ·exact old h
end
end Pe
end
section
namespace Pe
open Go Go.RowKit
variable{S:Nat->Type}
def Sub(e' e:Env S):Prop:=∀i p,zvo e' i=some p->zvo e i=some p
theorem Sub.refl(e:Env S):Sub e e:=λ_ _ h=>h
theorem Sub.trans{a b c:Env S}(h:Sub a b)(k:Sub b c):Sub a c:=λi p hp=>k i p (h i p hp)
theorem Sub.push{e e':Env S}(h:Sub e' e)(d:Option Nat)(v:PV S):Sub (push d v e') (push d v e):=by
 intro i p hp;cases d with
 |none=>exact h i p hp|some k =>
   simp only[Pe.push,zvo] at hp ⊢;cases hb:Nat.beq k i with
   |true=>grind|false=>rw[hb] at hp;exact h i p hp
theorem zaM{e:Env S}{d:Option Nat}{v:PV S}{i:Nat}(h:d≠some i):zvo (push d v e) i=zvo e i:=by
 cases d with
 |none=>rfl|some k =>
   simp only[Pe.push,zvo];have:Nat.beq k i=false:=by
    cases hb:Nat.beq k i with
    |true=>simp_all|false=>rfl
   rw[this];rfl
def zcr(W:List Nat):Env S->Env S|[]=>[]|(i,p)::r=>bif W.contains i then (i,p)::zcr W r else zcr W r
theorem zb3(W:List Nat):∀(e:Env S)(i:Nat),zvo (zcr W e) i=if i∈W then zvo e i else none
 |[],i=>by simp[zcr,zvo]
 |(j,p)::r,i=>by
   simp only[zcr];by_cases hj:j∈W
   ·have:W.contains j=true:=by grind
    rw[this];simp only[cond_true,zvo];cases hb:Nat.beq j i with
    |true=>simp_all
    |false=>simpa using zb3 W r i
   ·have:W.contains j=false:=by grind
    rw[this];simp only[cond_false,zvo];cases hb:Nat.beq j i with
    |true=>have:=yAa hb;subst this;rw[zb3 W r j];simp[hj]
    |false=>simpa using zb3 W r i
theorem zkE(W:List Nat)(e:Env S):Sub (zcr W e) e:=by
 intro i p h;grind[zb3]
theorem zaz{W:List Nat}(e:Env S){x:Operand}(h:∀t,x= .tmp t->t∈W):ev (zcr W e) x=ev e x:=by
 cases x with
 |tmp t=>grind[ev,zb3]|_=>rfl
theorem zcR{W:List Nat}(e:Env S):∀{l:List Operand},(∀x∈l,∀t,x= .tmp t->t∈W)->evs (zcr W e) l=evs e l|[],_=>rfl|x::r,h=>by simp only[evs];rw[zaz e (h x (by simp)),zcR e λy hy=>h y (by simp[hy])]
theorem zfG{W:List Nat}(e:Env S):∀{l:List (Nat×Operand)},(∀x∈l,∀t,x.2= .tmp t->t∈W)->zck (zcr W e) l=zck e l|[],_=>rfl|(i,x)::r,h=>by simp only[zck];rw[zaz e (h (i,x) (by simp)),zfG e λy hy=>h y (by simp[hy])]
section
variable{P:Program}{un:Uni S}{tb:Tb S}{orc:Orc S}{inl:Inl S}{E:Wl.Ctx}{D0:Dat}{N:Wl.Fr}{e:Env S}{bx:Bxs S}{a:Act}{w:World}{o:Oper}{R:Type}{r:R}{Q:Exit->Act->World->Prop}
theorem zlv{W:List Nat}(e:Env S){c:Call}(h:∀x∈c.operands.toList,∀t,x= .tmp t->t∈W):zcS (zcr W e) c=zcS e c:=by
 grind[zcS,zaz,Call.operands,zcR]
theorem zlT{K:PV S->Option R}{W:List Nat}(hW:∀x∈o.op.operands.toList,∀t,x= .tmp t->t∈W):zeN un tb orc inl o (zcr W e) bx K=zeN un tb orc inl o e bx K:=by
 unfold zeN;cases ho:o.op<;>rw[ho] at hW<;>simp only[Op.operands] at hW<;>try rfl
 case move x=>grind[zaz]
 case assign x=>grind[zaz]
 case pick c x y=>grind[zaz]
 case build t ps=>simp only[zfG e (l:=ps.toList) λx hx=>hW x.2 (by simp only[Array.mem_toList_iff,yBw];grind)]
 case load t x=>grind[zaz]
 case nilCheck x=>grind[zaz]
 case binOp op t x y t'=>simp_all[zaz]
 case unOp op t x=>cases op<;>simp only[zaz e (hW x (by simp))]
 case makeInterface t x=>grind[zaz]
 case makeFunc fn first cap=>grind[zcR]
 case slice t x lo hi mx =>
  cases mx with
  |some _=>rfl|none =>
    simp only[zaz e (hW x (by simp))];cases lo<;>cases hi<;>simp only[];·simp_all[zaz]
    ·simp_all[zaz]
    simp_all[zaz]
 case fieldAddr s x f=>grind[zaz]
 case indexAddr t x i=>grind[zaz]
 case index t x i=>grind[zaz]
 case extract x i=>grind[zaz]
 case call c =>have h1:evs (zcr W e) c.args.toList=evs e c.args.toList:=zcR e λx hx=>hW x (by grind[Call.operands]);have h2:zcS (zcr W e) c=zcS e c:=zlv e hW;grind
theorem zlR{K:PV S->Option R}{W:List Nat}(hW:∀x∈o.op.operands.toList,∀t,x= .tmp t->t∈W):zfE un tb orc inl o (zcr W e) bx K=zfE un tb orc inl o e bx K:=by
 have h0:=zlT (un:=un) (tb:=tb) (orc:=orc) (inl:=inl) (e:=e) (bx:=bx) (K:=K) hW;have hv:∀x,x∈o.op.operands.toList->ev (zcr W e) x=ev e x:=λx hx=>zaz e (hW x hx);have hvs:∀c,o.op= .call c->evs (zcr W e) c.args.toList=evs e c.args.toList:=λc hc=>zcR e λx hx=>hW x (by grind[Op.operands,Call.operands]);unfold zfE;cases ho:o.op with
 |indexAddr t x i=>grind[Op.operands]|fieldAddr s x f=>grind[Op.operands]|nilCheck x=>grind[Op.operands]|load t x=>grind[Op.operands]|lookup t m x ok=>grind[Op.operands]|convert s d x=>grind[Op.operands]|call c=>simp_all|_=>exact h0
theorem zzw{K:PV S->Option R}{W:List Nat}(hW:∀x∈o.op.operands.toList,∀t,x= .tmp t->t∈W):zy1 un tb orc inl o (zcr W e) bx K=zy1 un tb orc inl o e bx K:=by
 have h0:=zlR (un:=un) (tb:=tb) (orc:=orc) (inl:=inl) (e:=e) (bx:=bx) (K:=K) hW;have hv:∀x,x∈o.op.operands.toList->ev (zcr W e) x=ev e x:=λx hx=>zaz e (hW x hx);have hvs:∀c,o.op= .call c->evs (zcr W e) c.args.toList=evs e c.args.toList:=λc hc=>zcR e λx hx=>hW x (by rw[hc];simp[Op.operands,Call.operands];exact .inr (by simpa using hx));unfold zy1;cases ho:o.op with
 |indexAddr t x i=>simp only[hv x (by simp[ho,Op.operands]),hv i (by simp[ho,Op.operands]),h0]|slice t x lo hi mx =>have hx:=hv x (by simp[ho,Op.operands]);cases lo<;>cases hi<;>cases mx<;>simp only[hx,h0];rename_i y;rw[hv y (by simp[ho,Op.operands])]
 |call c=>simp only[hvs c ho,h0]|_=>exact h0
theorem znL{K:PV S->Option R}:zhf un tb orc inl o (zcr (zcj o.op.operands.toList) e) bx K=zhf un tb orc inl o e bx K:=by
 have hW:∀x∈o.op.operands.toList,∀t,x= .tmp t->t∈zcj o.op.operands.toList:=by intro x hx t ht;subst ht;simp only[zcj,yA8];exact ⟨_,hx,rfl⟩
 generalize zcj o.op.operands.toList=W at hW ⊢;have h0:=zzw (un:=un) (tb:=tb) (orc:=orc) (inl:=inl) (e:=e) (bx:=bx) (K:=K) hW;have hv:∀x,x∈o.op.operands.toList->ev (zcr W e) x=ev e x:=λx hx=>zaz e (hW x hx);unfold zhf;cases ho:o.op with
 |slice t x lo hi mx =>have hx:=hv x (by simp[ho,Op.operands]);cases lo<;>cases hi<;>cases mx<;>simp only[hx,h0];rename_i y z;rw[hv y (by simp[ho,Op.operands]),hv z (by simp[ho,Op.operands])]
 |_=>exact h0
theorem Holds.sub{e e':Env S}(h:Holds un E D0 N e bx a w)(hs:Sub e' e):Holds un E D0 N e' bx a w:=by obtain ⟨D,H,h1,h2⟩:=h;exact ⟨D,H,⟨h1.Kr,h1.size,h1.defers,h1.Kg,λi p hi=>h1.slots i p (hs i p hi)⟩,h2⟩
theorem Gives.sub{e e':Env S}{p:PV S}(h:Gives P un o e' bx p)(hs:Sub e' e):Gives P un o e bx p :=
 λE N D H a w h1=>h E N D H a w ⟨h1.Kr,h1.size,h1.defers,h1.Kg,λi p hi=>h1.slots i p (hs i p hi)⟩
inductive QPath (P:Program) (un:Uni S) (bx:Bxs S) (ops:List Oper):List Oper->Env S->Env S->Prop
 |nil {e:Env S}:QPath P un bx ops [] e e
 |run {o:Oper} {l:List Oper} {e e':Env S} {p:PV S} (hg:o.guard=none\/∃d want,zfT ops o=some (d,want)/\zvo e d=some (.bool want)) (h:Gives P un o (zcr (zcj o.op.operands.toList) e) bx p) (k:QPath P un bx ops l (push o.dst p e) e'):QPath P un bx ops (o::l) e e'
 |shut {o:Oper} {l:List Oper} {e e':Env S} {d:Nat} {want:Bool} (hg:zfT ops o=some (d,want)) (h:zvo e d=some (.bool (!want))\/zvo e d=some zaS) (k:QPath P un bx ops l (push o.dst zaS e) e'):QPath P un bx ops (o::l) e e'
theorem znG{W:List Nat}{e e':Env S}(h:Sub e' e):Sub (zcr W e') (zcr W e):=by
 intro i p hp;rw[zb3] at hp ⊢;split at hp;·rename_i hi;rw[if_pos hi];exact h i p hp
 ·cases hp
theorem QPath.mono{ops l:List Oper}{e e':Env S}(h:QPath P un bx ops l e e'):∀{e2:Env S},Sub e e2->∃e2',QPath P un bx ops l e2 e2'/\Sub e' e2':=by
 induction h with
 |nil=>intro e2 hs;exact ⟨e2,.nil,hs⟩
 |run hg h k ih =>intro e2 hs;obtain ⟨e2',h1,h2⟩:=ih (hs.push _ _);exact ⟨e2',.run (hg.imp id λ⟨d,want,g1,g2⟩=>⟨d,want,g1,hs _ _ g2⟩) (h.sub (znG hs)) h1,h2⟩
 |shut hg h k ih =>intro e2 hs;obtain ⟨e2',h1,h2⟩:=ih (hs.push _ _);exact ⟨e2',.shut hg (h.imp (hs _ _) (hs _ _)) h1,h2⟩
theorem QPath.append{ops l l':List Oper}{e e' e'':Env S}(h:QPath P un bx ops l e e')(k:QPath P un bx ops l' e' e''):QPath P un bx ops (l++l') e e'':=by
 induction h with
 |nil=>exact k|run hg h _ ih=>exact .run hg h (ih k)|shut hg h _ ih=>exact .shut hg h (ih k)
theorem QPath.keep{ops l:List Oper}{e e':Env S}(h:QPath P un bx ops l e e'):∀i,i∉zbi l->zvo e' i=zvo e i:=by
 induction h with
 |nil=>intro i _;rfl
 |@run o l e e' p hg h k ih =>
   intro i hi;simp only[zbi,yAC] at hi;cases hd:o.dst with
   |none=>rw[hd] at hi;rw[ih i hi,hd];rfl|some d=>rw[hd] at hi;simp at hi;rw[ih i (by simpa[zbi] using hi.2),zaM (by rw[hd];simpa using λh=>hi.1 h.symm)]
 |@shut o l e e' d want hg h k ih =>
   intro i hi;simp only[zbi,yAC] at hi;cases hd:o.dst with
   |none=>rw[hd] at hi;rw[ih i hi,hd];rfl|some d=>rw[hd] at hi;simp at hi;rw[ih i (by simpa[zbi] using hi.2),zaM (by rw[hd];simpa using λh=>hi.1 h.symm)]
theorem zgk{d:Nat}:∀{l sg r:List Oper}{dd:Nat},zky d l=some (sg,dd,r)->l=sg++r/\dd∈zbi sg
 |[],_,_,_,h=>by grind[zky]
 |o::l,sg,r,dd,h=>by
   unfold zky at h;have rest:∀{s x y},zky d l=some (s,x,y)->o::s=sg/\x=dd/\y=r->o::l=sg++r/\dd∈zbi sg:=by
    rintro s x y hs ⟨rfl,rfl,rfl⟩
    obtain ⟨h1,h2⟩:=zgk hs;refine ⟨by rw[h1];rfl,?_⟩;simp only[zbi,yAC];grind[zbi]
   split at h
   ·rename_i t _ _ dd' ho hdst;cases hb:Nat.beq t d with
    |true =>grind[zbi]|false =>
      rw[hb] at h;simp only[cond_false] at h;grind
   grind
theorem zaQ(W:List Nat):∀(e:Env S)(i:Nat),zvo (zaG W e) i=if i∈W then none else zvo e i
 |[],i=>by simp[zaG,zvo]
 |(j,p)::r,i=>by
   simp only[zaG];by_cases hj:j∈W
   ·have:W.contains j=true:=by grind
    rw[this];simp only[cond_true,zvo];cases hb:Nat.beq j i with
    |true=>have:=yAa hb;subst this;rw[zaQ W r j];simp[hj]
    |false=>simpa using zaQ W r i
   ·have:W.contains j=false:=by grind
    rw[this];simp only[cond_false,zvo];cases hb:Nat.beq j i with
    |true=>simp_all
    |false=>simpa using zaQ W r i
def Known(kn:List (Nat×Bool))(e:Env S):Prop:=∀d v,zdo kn d=some v->zvo e d=some (.bool v)
theorem zdE{d:Option Nat}:∀{kn:List (Nat×Bool)}{i:Nat}{v:Bool},zdo (zdX d kn) i=some v->d≠some i/\zdo kn i=some v
 |[],_,_,h=>by grind[zdX,zdo]
 |(j,b)::r,i,v,h=>by
   unfold zdX at h;cases d with
   |none =>
     simp only[cond_false,zdo] at h ⊢;cases hb:Nat.beq j i with
     |true=>grind|false=>rw[hb] at h;exact zdE h
   |some k =>
     simp only at h;cases hjk:Nat.beq j k with
     |true =>
       rw[hjk] at h;simp only[cond_true] at h;obtain ⟨h1,h2⟩:=zdE h;refine ⟨h1,?_⟩;simp only[zdo];cases hb:Nat.beq j i with
       |true=>simp_all|false=>exact h2
     |false =>
       rw[hjk] at h;simp only[cond_false,zdo] at h ⊢;cases hb:Nat.beq j i with
       |true =>grind|false=>rw[hb] at h;exact zdE h
theorem zff{W:List Nat}:∀{kn:List (Nat×Bool)}{i:Nat}{v:Bool},zdo (zn3 W kn) i=some v->i∉W/\zdo kn i=some v
 |[],_,_,h=>by grind[zn3,zdo]
 |(j,b)::r,i,v,h=>by
   unfold zn3 at h;by_cases hj:j∈W
   ·have:W.contains j=true:=by grind
    rw[this] at h;obtain ⟨h1,h2⟩:=zff h;refine ⟨h1,?_⟩;simp only[zdo];cases hb:Nat.beq j i with
    |true=>simp_all|false=>exact h2
   ·have:W.contains j=false:=by grind
    rw[this] at h;simp only[cond_false,zdo] at h ⊢;cases hb:Nat.beq j i with
    |true=>simp_all|false=>rw[hb] at h;exact zff h
theorem Known.push{kn:List (Nat×Bool)}{e:Env S}(h:Known kn e)(d:Option Nat)(p:PV S):Known (zdX d kn) (push d p e):=by intro i v hv;obtain ⟨h1,h2⟩:=zdE hv;rw[zaM h1];exact h i v h2
theorem znn{d:Nat}{e:Env S}{v:Bool}(h:asB d e=some v):zvo e d=some (.bool v):=by
 unfold asB at h;split at h;·grind
 ·cases h
set_option maxHeartbeats 4000000 in
theorem zjb(Kq:Kx un)(ht:Qc P un tb)(hor:K4 P un orc)(Kt:Qe P un inl){ops:List Oper}:∀(n:Nat)(kn:List (Nat×Bool))(l:List Oper)(e:Env S)(R:Type)(K:Env S->Option R)(r:R),zdH un tb orc inl ops bx n kn l e R K=some r->Known kn e ->
  ∃e' e'',K e'=some r/\QPath P un bx ops l e e''/\Sub e' e''/\∀i,i∉zbi l->zvo e' i=zvo e i:=by
 intro n;induction n with
 |zero =>
   intro kn l e R K r h hkn;cases l with
   |nil=>simp only[zdH] at h;exact ⟨e,e,h,.nil,Sub.refl e,λ_ _=>rfl⟩|cons o l=>grind[zdH]
 |succ n ih =>
   intro kn l e R K r h hkn;cases l with
   |nil=>simp only[zdH] at h;exact ⟨e,e,h,.nil,Sub.refl e,λ_ _=>rfl⟩|cons o l =>
     unfold zdH at h;have keepc:∀{p:PV S}{e':Env S},(∀i,i∉zbi l->zvo e' i=zvo (push o.dst p e) i)->∀i,i∉zbi (o::l)->zvo e' i=zvo e i:=by
      intro p e' hh i hi;simp only[zbi,yAC] at hi;cases hd:o.dst with
      |none=>rw[hd] at hi hh;rw[hh i hi];rfl|some d=>rw[hd] at hi hh;simp at hi;rw[hh i (by simpa[zbi] using hi.2),zaM (by simpa using λh=>hi.1 h.symm)]
     have step:zhf un tb orc inl o e bx (λp=>zdH un tb orc inl ops bx n (zdX o.dst kn) l (push o.dst p e) R K)=some r->(o.guard=none\/∃d want,zfT ops o=some (d,want)/\zvo e d=some (.bool want))->∃e' e'',K e'=some r/\QPath P un bx ops (o::l) e e''/\Sub e' e''/\∀i,i∉zbi (o::l)->zvo e' i=zvo e i:=(by intro h hg;rw[<-znL] at h;obtain ⟨p,h1,h2⟩:=zez Kq ht hor Kt h;obtain ⟨e',e'',g1,g2,g3,g4⟩:=ih _ _ _ _ _ _ h1 (hkn.push o.dst p);exact ⟨e',e'',g1,.run hg h2 g2,g3,keepc g4⟩);have shut:∀{d want},zfT ops o=some (d,want)->(zvo e d=some (.bool (!want))\/zvo e d=some zaS)->zdH un tb orc inl ops bx n (zdX o.dst kn) l (push o.dst zaS e) R K=some r->∃e' e'',K e'=some r/\QPath P un bx ops (o::l) e e''/\Sub e' e''/\∀i,i∉zbi (o::l)->zvo e' i=zvo e i:=(by intro d want hg hl h;obtain ⟨e',e'',g1,g2,g3,g4⟩:=ih _ _ _ _ _ _ h (hkn.push o.dst zaS);exact ⟨e',e'',g1,.shut hg hl g2,g3,keepc g4⟩);split at h;·grind
     ·split at h;·cases h
      ·rename_i d want hgs;split at h
       ·rename_i v hv;have hlk:=hkn d v hv;cases hb:znk v want with
        |true =>
          rw[hb] at h;have:v=want:=by cases v<;>cases want<;>simp_all [znk]
          subst this;exact step h (.inr ⟨d,v,hgs,hlk⟩)
        |false =>
          rw[hb] at h;have:v= !want:=by cases v<;>cases want<;>simp_all [znk]
          grind
       ·split at h;·rename_i hlk;exact shut hgs (.inr hlk) h
        ·rename_i b hlk;split at h
         ·rename_i sg dd rr hseg;obtain ⟨hl,hdd⟩:=zgk hseg;obtain ⟨v,h1,h2⟩:=zay h;have hsegp:∃e1 e1'',zvo e1 dd=some (.bool v)/\QPath P un bx ops sg e e1''/\Sub e1 e1'':=by
           have one:∀b',b=b'->zdH un tb orc inl ops bx n ((d,b')::kn) sg ((d,.bool b')::e) Bool (asB dd)=some v->∃e1 e1'',zvo e1 dd=some (.bool v)/\QPath P un bx ops sg e e1''/\Sub e1 e1'':=by
            rintro b' rfl hx
            obtain ⟨e',e'',g1,g2,g3,_⟩:=ih _ _ _ _ _ _ hx (λi u hu=>by
             simp only[zdo,zvo] at hu ⊢;cases hb:Nat.beq d i with
             |true=>grind|false=>rw[hb] at hu;exact hkn i u hu)
            have Qr:Sub ((d,.bool b)::e) e:=by
             intro i p hp;simp only[zvo] at hp;cases hb:Nat.beq d i with
             |true=>rw[hb] at hp;simp at hp;subst hp;rw[<-yAa hb];exact hlk|false=>grind
            grind[QPath.mono,znn,Sub.trans]
           grind[zkc]
          obtain ⟨e1,e1'',g1,g2,g3⟩:=hsegp;have Qr:Sub ((dd,.bool v)::zaG (zbi sg) e) e1'':=by
           intro i p hp;simp only[zvo] at hp;cases hb:Nat.beq dd i with
           |true=>rw[hb] at hp;simp at hp;subst hp;rw[<-yAa hb];exact g3 _ _ g1|false =>
             rw[hb] at hp;simp only[cond_false,zaQ] at hp;grind[QPath.keep]
          obtain ⟨e',e'',k1,k2,k3,k4⟩:=ih _ _ _ _ _ _ h2 (λi u hu=>by
           obtain ⟨q1,q2⟩:=zff hu;simp only[zvo];cases hb:Nat.beq dd i with
           |true=>exact absurd (yAa hb▸hdd) q1|false=>simp only[cond_false,zaQ,if_neg q1];exact hkn i u q2)
          obtain ⟨e2,m1,m2⟩:=k2.mono Qr;refine ⟨e',e2,k1,hl▸g2.append m1,k3.trans m2,λi hi=>?_⟩;rw[hl] at hi;simp only[zbi,List.filterMap_append,yAp,not_or] at hi;rw[k4 i hi.2];simp only[zvo];cases hb:Nat.beq dd i with
          |true=>exact absurd (yAa hb▸hdd) hi.1|false=>simp only[cond_false,zaQ];rw[if_neg (show i∉zbi sg from hi.1)]
         ·cases h
        ·cases h
def isB(want:Bool):Value->Bool| .bool b=>b==want|_=>false
theorem zgc{ops:Array Oper}{j d:Nat}(hj:(ops[j]?).bind (·.dst)=some d){v:Value}(h:a.tmps.getD d undef=v)(want:Bool) :
  (yielded ops a.tmps j==some want)=isB want v:=by
 unfold yielded;rw[hj];simp only[yAB];rw[yAv] at h;cases hx:a.tmps[d]? with
 |none=>grind[undef,isB]|some u=>rw[hx] at h;simp at h;subst h;cases u<;>simp[isB]
theorem zgE{ops:List Oper}{d:Nat}{want:Bool}(h:zfT ops o=some (d,want)):∃j,o.guard=some (j,want)/\(ops.toArray[j]?).bind (·.dst)=some d:=by
 grind[zfT]
theorem zgd{ops:List Oper}{d:Nat}{want:Bool}(h:zfT ops o=some (d,want))(hs:Holds un E D0 N e bx a w)(hl:zvo e d=some (.bool want)):Region.wanted o (yielded ops.toArray a.tmps)=true:=by obtain ⟨j,h1,h2⟩:=zgE h;obtain ⟨D,H,hs,_⟩:=hs;have:=hs.slots d _ hl;simp_all[Rep,Region.wanted,zgc,isB]
theorem zfs{ops:List Oper}{d:Nat}{want:Bool}(h:zfT ops o=some (d,want))(hs:Holds un E D0 N e bx a w)(hl:zvo e d=some (.bool (!want))\/zvo e d=some zaS):Region.wanted o (yielded ops.toArray a.tmps)=false:=by
 obtain ⟨j,h1,h2⟩:=zgE h;obtain ⟨D,H,hs,_⟩:=hs;unfold Region.wanted;rw[h1];simp only;rcases hl with hl|hl
 ·have:=hs.slots d _ hl;simp_all[Rep,zgc,isB]
 ·have:=hs.slots d _ hl;simp only[zaS,Rep] at this;obtain ⟨cs,h3,_⟩:=this;rw[zgc h2 h3];rfl
theorem Holds.undef{d:Option Nat}(hd:∀k,d=some k->k<N.n)(hs:Holds un E D0 N e bx a w):Holds un E D0 N (push d zaS e) bx (a.put d undef) w:=by obtain ⟨D,H,hs,hD⟩:=hs;exact ⟨D,H,hs.step hs.Kr hs.Kg hs.slots hd (by simp only[zaS,Rep];exact ⟨[],rfl,by simp[Ke]⟩),hD⟩
theorem zrx{ops l:List Oper}{e e':Env S}(h:QPath P un bx ops l e e'):∀{a:Act}{w:World}{rest:List Oper},(∀o∈l,∀d,o.dst=some d->d<N.n)->Holds un E D0 N e bx a w->(∀a' w',Holds un E D0 N e' bx a' w'->wpList P ops.toArray Q rest a' w')->wpList P ops.toArray Q (l++rest) a w:=by
 induction h with
 |nil=>grind
 |@run o l e e' p hg h k ih =>
   intro a w rest hd hs hk;refine wpList_step λK hK=>?_;have hw:Region.wanted o (yielded ops.toArray a.tmps)=true:=by
    grind[Region.wanted,zgd]
   rw[if_pos hw];exact zb4 (h.sub (zkE _ _)) (hd o (by simp)) hs λa' w' h1=>hK a' w' (ih (λo ho=>hd o (by simp[ho])) h1 hk)
 |@shut o l e e' d want hg h k ih =>intro a w rest hd hs hk;refine wpList_step λK hK=>?_;rw[zfs hg hs h,if_neg (by simp)];exact hK _ _ (ih (λo ho=>hd o (by simp[ho])) (hs.undef (hd o (by simp))) hk)
theorem zqM(Kq:Kx un)(ht:Qc P un tb)(hor:K4 P un orc)(Kt:Qe P un inl){ops:List Oper}{KX:Exit->Env S->Bxs S->Option R}:∀(n:Nat)(l:List Oper)(e:Env S)(bx:Bxs S)(K:Env S->Bxs S->Option R){a:Act}{w:World},zls un tb orc inl ops KX n l e bx K=some r->(∀o∈l,∀d,o.dst=some d->d<N.n)->Holds un E D0 N e bx a w ->
  (∀e' bx',K e' bx'=some r->Ky (zbi l) e e'->Kk bx bx'->∀a' w',Holds un E D0 N e' bx' a' w'->Q .normal a' w') ->
  (∀x e' bx',KX x e' bx'=some r->Ky (zbi l) e e'->Kk bx bx'->∀a' w',Holds un E D0 N e' bx' a' w'->Q x a' w')->wpList P ops.toArray Q l a w:=by
 intro n;induction n with
 |zero =>
   intro l e bx K a w h hd hs hk hkx;cases l with
   |nil=>grind[zls,wpList_nil,Ky.refl,Kk.refl]|cons o l=>grind[zls]
 |succ n ih =>
   intro l e bx K a w h hd hs hk hkx;cases l with
   |nil=>grind[zls,wpList_nil,Ky.refl,Kk.refl]|cons o l =>
     have Qa:∀i,i∈zbi l->i∈zbi (o::l):=λi hi=>by
      simp only[zbi,yAC];grind[zbi]
     unfold zls at h;split at h
     ·rename_i hg;refine wpList_plain hg λK' hK'=>?_;refine zjF Kq ht hor Kt h (hd o (by simp)) hs (λp e1 bx1 h1 hp hb a' w' h2=>hK' a' w' ?_) λx e' bx' h1 hp hb=>hkx x e' bx' h1 (hp.mono λi hi=>by cases hi) hb;have pr:∀e2,Ky (zbi l) (push o.dst p e1) e2->Ky (zbi (o::l)) e e2:=λe2 hp2=>by
       refine ((hp.trans (Ky.push [] e1 o.dst p)).trans hp2).mono λi hi=>?_;simp only[yBb,yAp] at hi;rcases hi with hi|hi
       ·simp only[zbi,yAC];grind
       grind
      grind[Kk.trans]
     ·split at h;·cases h
      ·rename_i d want hgs;split at h
       ·rename_i b sg dd rr hlk hseg;obtain ⟨hl,hdd⟩:=zgk hseg;obtain ⟨v,h1,h2⟩:=zay h;have hsegp:∃e1 e1'',zvo e1 dd=some (.bool v)/\QPath P un bx ops sg e e1''/\Sub e1 e1'':=by
         have one:∀b',b=b'->zdH un tb orc inl ops bx (2*sg.length) [(d,b')] sg ((d,.bool b')::e) Bool (asB dd)=some v->∃e1 e1'',zvo e1 dd=some (.bool v)/\QPath P un bx ops sg e e1''/\Sub e1 e1'':=by
          rintro b' rfl hx
          obtain ⟨e',e'',g1,g2,g3,_⟩:=zjb Kq ht hor Kt _ _ _ _ _ _ _ hx (λi u hu=>by
           grind[zdo,zvo])
          have Qr:Sub ((d,.bool b)::e) e:=by
           intro i p hp;simp only[zvo] at hp;cases hb:Nat.beq d i with
           |true=>rw[hb] at hp;simp at hp;subst hp;rw[<-yAa hb];exact hlk|false=>grind
          obtain ⟨e2,k1,k2⟩:=g2.mono Qr;grind[znn,Sub.trans]
         grind[zkc]
        obtain ⟨e1,e1'',g1,g2,g3⟩:=hsegp;have Qr:Sub ((dd,.bool v)::zaG (zbi sg) e) e1'':=by
         intro i p hp;simp only[zvo] at hp;cases hb:Nat.beq dd i with
         |true=>rw[hb] at hp;simp at hp;subst hp;rw[<-yAa hb];exact g3 _ _ g1|false =>
           rw[hb] at hp;simp only[cond_false,zaQ] at hp;grind[QPath.keep]
        rw[hl] at hd ⊢;refine zrx g2 (λo ho=>hd o (by simp[ho])) hs λa' w' h3=>?_;have pr:∀e2,Ky (zbi rr) ((dd,.bool v)::zaG (zbi sg) e) e2->Ky (zbi (o::l)) e e2:=λe2 hp2=>by
         intro i p hi hp Kp;rw[hl] at hi;simp only[zbi,List.filterMap_append,yAp,not_or] at hi;refine hp2 i p hi.2 ?_ Kp;simp only[zvo];cases hb:Nat.beq dd i with
         |true=>exact absurd (yAa hb▸hdd) hi.1|false=>simp only[cond_false,zaQ];rw[if_neg (show i∉zbi sg from hi.1)];exact hp
        exact ih rr _ _ K h2 (λo ho=>hd o (by simp[ho])) (h3.sub Qr) (λe2 bx2 h4 hp2 hb2 a2 w2 h5=>hk e2 bx2 h4 (pr e2 hp2) hb2 a2 w2 h5) λx e2 bx2 h4 hp2 hb2 a2 w2 h5=>hkx x e2 bx2 h4 (pr e2 hp2) hb2 a2 w2 h5
       ·cases h
end
end Pe
end
section
namespace Pe
open Go Go.RowKit
variable{S:Nat->Type}
section
variable{un:Uni S}
mutual
theorem Rep.low{nu0 nu nu':Nu}{D0 D:Dat}{w0 w:World}{m:Nat}(hm:nu0.length<=m)(hn:∀i,i<m->nu'[i]?=nu[i]?):∀(p:PV S)(v0 v:Value),p.rowless=true->Rep un nu0 D0 w0 p v0->Rep un nu D w p v->Rep un nu' D w p v
 | .int _ _,_,_,_,_,h=>by grind[Rep]
 | .bool _,_,_,_,_,h=>by grind[Rep]
 | .str _,_,_,_,_,h=>by grind[Rep]
 | .sl _ _,_,_,_,_,h=>by grind[Rep]
 | .nils,_,_,_,_,h=>by grind[Rep]
 | .st _ _,_,_,_,_,h=>by grind[Rep]
 | .agg l,_,_,hr,h0,h=>by simp only[Rep,PV.rowless] at h0 h hr ⊢;obtain ⟨c0,_,h0⟩:=h0;obtain ⟨cs,h1,h2⟩:=h;exact ⟨cs,h1,Ke.low hm hn l c0 cs hr h0 h2⟩
 | .tup l,_,_,hr,h0,h=>by simp only[Rep,PV.rowless] at h0 h hr ⊢;obtain ⟨c0,_,h0⟩:=h0;obtain ⟨cs,h1,h2⟩:=h;exact ⟨cs,h1,Ke.low hm hn l c0 cs hr h0 h2⟩
 | .elp _ _ _,_,_,_,_,h=>by grind[Rep]
 | .ptr j _,_,_,_,h0,h=>by simp only[Rep] at h0 h ⊢;obtain ⟨g0,h1,_⟩:=h0;obtain ⟨g,h2,h3⟩:=h;have:j<nu0.length:=(yAc.1 h1).1;grind
 | .nilp,_,_,_,_,h=>by grind[Rep]
 | .ref j,_,_,_,h0,h=>by simp only[Rep] at h0 h ⊢;have:j<nu0.length:=(yAc.1 h0.1).1;exact ⟨by rw[hn j (by omega)];exact h.1,h.2⟩
 | .elr _ _ _ _,_,_,hr,_,_=>by grind[PV.rowless]
 | .rsl _ _ _,_,_,hr,_,_=>by grind[PV.rowless]
 | .bref j _,_,_,_,h0,h=>by simp only[Rep] at h0 h ⊢;obtain ⟨g0,h1,_⟩:=h0;obtain ⟨g,h2,h3⟩:=h;have:j<nu0.length:=(yAc.1 h1).1;exact ⟨g,by rw[hn j (by omega)];exact h2,h3⟩
 | .cont _ _,_,_,_,_,h=>by simpa only[Rep] using h
 | .row _,_,_,hr,_,_=>by simp[PV.rowless] at hr
 | .func _ l r,_,_,hr,h0,h=>by simp only[Rep,PV.rowless,yAd] at h0 h hr ⊢;obtain ⟨a0,c0,_,h0,h0'⟩:=h0;obtain ⟨a,c,h1,h2,h3⟩:=h;exact ⟨a,c,h1,Ke.low hm hn l a0 a hr.1 h0 h2,Ke.low hm hn r c0 c hr.2 h0' h3⟩
 | .nilFunc,_,_,_,_,h=>by simpa only[Rep] using h
 | .iface _ x,_,_,hr,h0,h=>by simp only[Rep,PV.rowless] at h0 h hr ⊢;obtain ⟨y0,_,h0⟩:=h0;obtain ⟨y,h1,h2⟩:=h;exact ⟨y,h1,Rep.low hm hn x y0 y hr h0 h2⟩
 | .nilIface,_,_,_,_,h=>by simpa only[Rep] using h
 | .junk,_,_,_,_,_=>by simp only[Rep]
theorem Ke.low{nu0 nu nu':Nu}{D0 D:Dat}{w0 w:World}{m:Nat}(hm:nu0.length<=m)(hn:∀i,i<m->nu'[i]?=nu[i]?):∀(ps:List (PV S))(vs0 vs:List Value),zcq ps=true->Ke un nu0 D0 w0 ps vs0->Ke un nu D w ps vs->Ke un nu' D w ps vs
 |[],_,[],_,_,_=>by simp only[Ke]
 |p::ps,v0::vs0,v::vs,hr,h0,h=>by simp only[Ke,zcq,yAd] at h0 h hr ⊢;exact ⟨Rep.low hm hn p v0 v hr.1 h0.1 h.1,Ke.low hm hn ps vs0 vs hr.2 h0.2 h.2⟩
 |[],_,_::_,_,_,h=>by simp[Ke] at h
 |_::_,[],_,_,h0,_=>by simp[Ke] at h0
 |_::_,_::_,[],_,_,h=>by simp[Ke] at h
end
theorem zf3{nu0 nu nu':Nu}{D0 D:Dat}{w0 w:World}{m:Nat}(hm:nu0.length<=m)(hn:∀i,i<m->nu'[i]?=nu[i]?):∀(cs cs':List (PV S))(vs0 vs:List Value),Ke un nu0 D0 w0 cs vs0->zpO (cs.map ziz) cs'->Ke un nu D w cs' vs->Ke un nu' D w (cs.map ziz) vs
 |[],[],_,[],_,_,_=>by simp[Ke]
 |c::cs,c'::cs',v0::vs0,v::vs,h0,hc,h=>by
   simp only[Ke,yAn] at h0 h ⊢;refine ⟨?_,zf3 hm hn cs cs' vs0 vs h0.2 ⟨by have:=hc.1;grind,λj p hp=>by have:=hc.2 (j+1) p (by grind);grind⟩ h.2⟩;unfold ziz;cases hr:c.rowless with
   |false=>simp[Rep]|true =>
     simp only[cond_true];cases hj:zmX c with
     |true=>grind[zmX,Rep]|false =>have:=hc.2 0 c (by simp[ziz,hr]) hr hj;simp at this;subst this;exact Rep.low hm hn _ v0 v hr h0.1 h.1
 |[],_::_,_,_,_,hc,_=>by have:=hc.1;simp at this
 |_::_,[],_,_,_,hc,_=>by have:=hc.1;simp at this
 |_,_::_,_,[],_,_,h=>by grind[Ke]
 |[],[],_,_::_,_,_,h=>by grind[Ke]
 |_::_,_,[],_,h0,_,_=>by grind[Ke]
theorem zka{E E0:Wl.Ctx}{nu0 nu nu':Nu}{D0 D:Dat}{w0 w:World}{m:Nat}(hm:nu0.length<=m)(hn:∀i,i<m->nu'[i]?=nu[i]?):∀{b b':Box S}{r0 r:Wl.Res}{ro0 ro:Bool},Kc un nu0 D0 w0 E0 ro0 b r0->Kv b.calm b'->Kc un nu D w E ro b' r->Kc un nu' D w E ro b.calm r:=by
 intro b;induction b with
 |var T cs =>
   intro b' r0 r ro0 ro h0 hc h;cases b' with
   |var T' cs' =>
     simp only[Box.calm,Kv] at hc ⊢;obtain ⟨rfl,hc⟩:=hc;have hr0:∃vs0,Ke un nu0 D0 w0 cs vs0:=by
      cases r0<;>cases ro0<;>simp only[Kc] at h0;·exact ⟨_,h0.2⟩
      ·exact ⟨_,h0⟩
      ·obtain ⟨vs,_,h5⟩:=h0;exact ⟨vs,h5⟩
     obtain ⟨vs0,hr0⟩:=hr0;cases r<;>cases ro<;>simp only[Kc] at h ⊢;·exact ⟨h.1,zf3 hm hn cs cs' vs0 _ hr0 hc h.2⟩
     ·exact zf3 hm hn cs cs' vs0 _ hr0 hc h
     ·obtain ⟨vs,h1,h5⟩:=h;exact ⟨vs,h1,zf3 hm hn cs cs' vs0 _ hr0 hc h5⟩
   |_=>exact hc.elim
 |own u T l =>
   intro b' r0 r ro0 ro h0 hc h;cases b' with
   |own u' T' l' =>
     simp only[Box.calm,Kv] at hc ⊢;rw[hc] at h;cases r<;>cases ro<;>simp only[Kc] at h ⊢;·exact h
     ·refine ⟨h.1,?_⟩;simpa only[Rep] using h.2
   |_=>exact hc.elim
 |wr u T l =>
   intro b' r0 r ro0 ro h0 hc h;cases b' with
   |wr u' T' l' =>
     simp only[Box.calm,Kv] at hc ⊢;rw[hc] at h;cases r<;>cases ro<;>simp only[Kc] at h ⊢
     all_goals exact h
   |_=>exact hc.elim
 |nst u T T2 l h0 =>
   intro b' r0 r ro0 ro h0 hc h;cases b' with
   |nst u' T' T2' l' h' =>simp only[Box.calm,Kv] at hc ⊢;rw[hc] at h;cases r<;>cases ro<;>simp only[Kc] at h ⊢;exact h|_=>exact hc.elim
 |grp u T2 l h0 =>
   intro b' r0 r ro0 ro h0 hc h;cases b' with
   |grp u' T2' l' h' =>simp only[Box.calm,Kv] at hc ⊢;rw[hc] at h;cases r<;>cases ro<;>simp only[Kc] at h ⊢;exact h|_=>exact hc.elim
 |lk b ih =>
   intro b' r0 r ro0 ro h0 hc h;cases b' with
   |lk b'=>simp only[Box.calm,Kv,Kc] at h0 hc h ⊢;exact ih h0 hc h|_=>exact hc.elim
 |ro b ih =>
   intro b' r0 r ro0 ro h0 hc h;cases b' with
   |ro b'=>simp only[Box.calm,Kv,Kc] at h0 hc h ⊢;exact ih h0 hc h|_=>exact hc.elim
 |gone =>intro b' r0 r ro0 ro h0 hc h;simp only[Box.calm];cases r<;>cases ro<;>simp only[Kc]
end
end Pe
end
section
namespace Pe
open Go Go.RowKit
variable{S:Nat->Type}
section
variable{P:Program}{un:Uni S}{E:Wl.Ctx}{D0:Dat}{N:Wl.Fr}{D D':Dat}{H:List Wl.Res}{e:Env S}{bx:Bxs S}{a:Act}{w w':World}
theorem In.pick(h:In E D H w){H':List Wl.Res}(f:Nat->Option Nat)(h1:∀(k:Nat) r,H'[k]?=some r->((∀g,¬r.has g)/\Wl.Res.holds E w r)\/∃i,f k=some i/\H[i]?=some r)(h2:∀k k' i,f k=some i->f k'=some i->k=k')(hl:∀(i:Nat) v,zyp E.fix i=some v->∃r,H'[i]?=some r/\zax r=true/\zal r=(true,v)/\keptR E.w r):In E D H' w:=by
 refine ⟨h.out,h.lt,λr hr=>?_,λr hr g hg o hf hd=>?_,?_,hl⟩
 ·obtain ⟨k,hk⟩:=yAl hr;rcases h1 k r hk with h3|⟨i,_,h3⟩;·exact h3.2
  ·exact h.res r (yAb h3)
 ·obtain ⟨k,hk⟩:=yAl hr;rcases h1 k r hk with h3|⟨i,_,h3⟩;·exact absurd hg (h3.1 g)
  ·exact h.apart r (yAb h3) g hg o hf hd
 ·rw[yAH];intro i j hi hj hij g hg hg';rcases h1 i _ (yAe hi) with h3|⟨x,hx,h3⟩;·exact absurd hg (h3.1 g)
  ·rcases h1 j _ (yAe hj) with h4|⟨y,hy,h4⟩;·exact absurd hg' (h4.1 g)
   ·have hxy:x≠y:=λhe=>by subst he;have:=h2 i j x hx hy;omega
    have hxl:=(yAc.1 h3).1;have hyl:=(yAc.1 h4).1;have e3:=(yAc.1 h3).2;have e4:=(yAc.1 h4).2;rcases yBY hxy with Ks|hgt
    ·have:=(yAH.1 h.disj) x y hxl hyl Ks;rw[e3,e4] at this;exact this g hg hg'
    ·have:=(yAH.1 h.disj) y x hyl hxl hgt;rw[e3,e4] at this;exact this g hg' hg
def zh4:Wl.Res->Wl.Res| .box g T cs=>.box g T cs| .fix v g size ob=>.fix v g size ob|r=>.ref (zal r)
theorem znW(r:Wl.Res):zal (zh4 r)=zal r:=by cases r<;>rfl
def zkq:Bxs S->List Wl.Res->List Wl.Res| .gone::bs,r::rs=>zh4 r::zkq bs rs|_::bs,r::rs=>r::zkq bs rs|_,_=>[]
theorem ze5:∀{bs:Bxs S}{rs:List Wl.Res},bs.length<=rs.length->(zkq bs rs).length=bs.length
 |[],_,_=>by simp[zkq]
 |b::bs,[],h=>by simp at h
 |b::bs,r::rs,h=>by cases b<;>simp[zkq,ze5 (bs:=bs) (rs:=rs) (by simpa using h)]
theorem zg9:∀{bs:Bxs S}{rs:List Wl.Res}{i:Nat}{b:Box S}{r:Wl.Res},zam bs i=some b->rs[i]?=some r->(zkq bs rs)[i]?=some (match b with | .gone=>zh4 r|_=>r)
 |b::bs,r::rs,0,c,s,h,hr=>by simp[zam] at h hr;subst h;subst hr;cases b<;>rfl
 |b::bs,r::rs,i+1,c,s,h,hr=>by have:=zg9 (bs:=bs) (rs:=rs) (i:=i) (b:=c) (r:=s) (by grind[zam]) (by grind);cases b<;>simpa[zkq] using this
 |[],_,_,_,_,h,_=>by grind[zam]
 |_::_,[],_,_,_,_,hr=>by simp at hr
theorem zbR:∀{bx:Bxs S}{i:Nat},i<bx.length->∃b,zam bx i=some b
 |[],_,h=>by simp at h
 |b::_,0,_=>⟨b,rfl⟩|_::r,i+1,h=>by simpa[zam] using zbR (bx:=r) (by simpa using h)
def zo8:Option (Box S)->Bool|some .gone=>true|_=>false
theorem In.cut(h:In E D H w){B:Bxs S}(hB:B.length<=H.length){bs:List (Option Nat)}{rs:List Wl.Res}(hc:zde H bs rs)(hn:(bs.filterMap id).Nodup)(hg:∀b,some b∈bs->b<B.length->zam B b=some .gone)(hnb:∀b,some b∈bs->∀r,H[b]?=some r->zax r=false)(Ks:∀(i:Nat) v,zyp E.fix i=some v->i<B.length):In E D (zkq B H++rs) w:=by
 have hsl:=ze5 hB;refine h.pick (λk=>if k<B.length then (bif zo8 (zam B k)&& !((H[k]?).any zax) then none else some k) else (bs[k - B.length]?).join) (λk r hr=>?_) (λk k' i hk hk'=>?_) (λi v hi=>?_)
 rotate_left 2
 ·obtain ⟨r,h2,h3,h4⟩:=h.lent i v hi;obtain ⟨b,hb⟩:=zbR (Ks i v hi);refine ⟨r,?_,h3,h4⟩;rw[yAk (by rw[hsl];exact Ks i v hi),zg9 hb h2];cases b<;>first|rfl|(cases r<;>simp[zax] at h3<;>rfl)
 ·rcases yAT k B.length with Ks|K2
  ·rw[yAk (by omega)] at hr;obtain ⟨b,hb⟩:=zbR Ks;obtain ⟨s,hs⟩:∃s,H[k]?=some s:=⟨_,yAe (by omega)⟩;rw[zg9 hb hs] at hr;simp only[yAf] at hr;by_cases hgone:b= .gone
   ·subst hgone;simp only at hr;subst hr;cases s with
    |box g T cs=>exact .inr ⟨k,by simp only[if_pos Ks,hb,hs];rfl,hs⟩|fix v g size ob=>exact .inr ⟨k,by simp only[if_pos Ks,hb,hs];rfl,hs⟩|own=>exact .inl ⟨λ_ hg=>hg,trivial⟩|wr=>exact .inl ⟨λ_ hg=>hg,trivial⟩|nst=>exact .inl ⟨λ_ hg=>hg,trivial⟩|grp=>exact .inl ⟨λ_ hg=>hg,trivial⟩|ref=>exact .inl ⟨λ_ hg=>hg,trivial⟩
   ·right;refine ⟨k,?_,?_⟩;·simp only[if_pos Ks,hb];cases b<;>first|rfl|exact absurd rfl hgone
    ·rw[hs];cases b<;>first|(simp only at hr;rw[hr])|exact absurd rfl hgone
  ·rw[yAF (by omega),hsl] at hr;rcases zcT hc _ r hr with ⟨b,h1,h2,_⟩|⟨h1,T,size,h2⟩;·exact .inr ⟨b,by simp only[if_neg (show ¬k<B.length by omega),h1];rfl,h2⟩
   ·left;rcases h2 with rfl|rfl;·exact ⟨λg hg=>by simp[Wl.Res.has,Value.ownBlock] at hg,Wl.rowAt_nil _ _ _,λg hg=>by simp[Value.ownBlock] at hg⟩
    ·exact ⟨λg hg=>by simp[Wl.Res.has,Value.ownBlock] at hg,World.ownsRow_nil _ _ _ _,λg hg=>by simp[Value.ownBlock] at hg⟩
 ·have first:∀k,k<B.length->∀i,(bif zo8 (zam B k)&& !((H[k]?).any zax) then none else some k)=some i->k=i/\(zam B k≠some .gone\/∃r,H[k]?=some r/\zax r=true):=by
   intro k _ i h;cases hgo:zo8 (zam B k) with
   |false=>rw[hgo] at h;cases h;exact ⟨rfl,.inl λhc=>by rw[hc] at hgo;cases hgo⟩|true =>
     rw[hgo] at h;cases hh:H[k]? with
     |none=>rw[hh] at h;simp at h|some r =>
       rw[hh] at h;cases hcl:zax r with
       |false=>simp[hcl] at h|true=>simp[hcl] at h;exact ⟨h,.inr ⟨r,rfl,hcl⟩⟩
  have second:∀k,∀i,(bs[k - B.length]?).join=some i->bs[k - B.length]?=some (some i):=by
   intro k i h;cases hx:bs[k - B.length]? with
   |none=>rw[hx] at h;cases h|some y=>rw[hx] at h;cases y with
     |none=>cases h|some z=>cases h;rfl
  have clash:∀k k',k<B.length->(zam B k≠some .gone\/∃r,H[k]?=some r/\zax r=true)->(bs[k' - B.length]?).join=some k->False:=by
   intro k k' Ks e2 hk';have hm:=yAb (second k' k hk');rcases e2 with e2|⟨r,e2,e3⟩;·exact e2 (hg k hm Ks)
   ·have:=hnb k hm r e2;rw[e3] at this;cases this
  split at hk
  ·rename_i Ks;obtain ⟨e1,e2⟩:=first k Ks i hk
   subst e1;split at hk';·rename_i hlt';exact (first k' hlt' _ hk').1.symm
   ·exact (clash k k' Ks e2 hk').elim
  ·rename_i K2;split at hk'
   ·rename_i hlt';obtain ⟨e1,e2⟩:=first k' hlt' i hk'
    subst e1;exact (clash k' k hlt' e2 hk).elim
   ·rename_i hge';have:=zfK hn _ _ i (second k i hk) (second k' i hk');omega
theorem Kj.append{nu:Nu}:∀{bs cs:Bxs S}{rs ss:List Wl.Res},Kj un nu D w E bs rs->Kj un nu D w E cs ss->Kj un nu D w E (bs++cs) (rs++ss)
 |[],_,[],_,_,h=>h|b::bs,cs,r::rs,ss,h,k=>by simp only[Kj,yA3] at h ⊢;exact ⟨h.1,h.2.append k⟩
 |[],_,_::_,_,h,_=>by grind[Kj]
 |_::_,_,[],_,h,_=>by grind[Kj]
theorem zk9{nu:Nu}:∀{cs:List (PV S)}{vs:List Value},cs.length=vs.length->Ke un nu D w (cs.map λ_=>.junk) vs
 |[],[],_=>by simp[Ke]
 |_::cs,_::vs,h=>by simp only[yAn,Ke,Rep,true_and];exact zk9 (by simpa using h)
 |[],_::_,h=>by simp at h
 |_::_,[],h=>by simp at h
theorem zda:∀(l:List (Nat×List CTy))(ps:List (PV S))(B:Bxs S),(zaX l ps B).length=B.length|[],_,_=>rfl|(i,l)::r,ps,B=>by simp only[zaX];rw[zda r];grind[zbv]
theorem zjX{α:Type}{l:List α}{i:Nat}{x:α}(h:l[i]?=some x):l.set i x=l:=by
 apply yAW;intro j;by_cases hij:i=j;·subst hij;rw[yAx (yAc.1 h).1,h]
 ·rw[yAr hij]
theorem zhQ{nu:Nu}{H:List Wl.Res}:∀{l:List (Nat×List CTy)}{ps:List (PV S)}{B:Bxs S}{H1:List Wl.Res},Kj un nu D w E B H1->(∀i ts,(i,ts)∈l->(∀r,H1[i]?=some r->zax r=true->H[i]?=some r)/\(zbz H i).length=ts.length)->Ke un nu D w ps (zcd H l)->Kj un nu D w E (zaX l ps B) H1
 |[],_,_,_,h,_,_=>h|(i,ts)::l,ps,B,H1,h,hl,hr=>by
   simp only[zaX];obtain ⟨h1,h2⟩:=hl i ts (by simp);have htake:=hr.take ts.length;have hdrop:=hr.drop ts.length;simp only[zcd] at htake hdrop;rw[<-h2,yBr] at htake;rw[<-h2,yBy] at hdrop;rw[h2] at htake hdrop;refine zhQ ?_ (λj ts' hj=>hl j ts' (by simp[hj])) hdrop;split
   ·rename_i T cs hg;obtain ⟨r,g1,gc,g2,g3,g5⟩:=zbp h hg;have Qi:H1.set i r=H1:=zjX g1;grind[Kj.set,ziN,zbz]
   ·exact h
end
def nr1:Box S->Box S| .own _ _ _=>.gone| .wr _ _ _=>.gone| .nst _ _ _ _ _=>.gone| .grp _ _ _ _=>.gone|b=>b.calm
theorem zbh:∀(bx:Bxs S)(i:Nat),zam (zbg bx) i=(zam bx i).map nr1
 |[],_=>rfl|b::r,0=>by cases b<;>rfl
 |b::r,i+1=>by cases b<;>simpa[zbg,zam] using zbh r i
theorem zdD:∀(bx:Bxs S),(zbg bx).length=bx.length|[]=>rfl|b::r=>by cases b<;>simp[zbg,zdD r]
def lk1(c:List (Nat×List CTy))(i:Nat):Box S->Box S| .var T cs=>bif (c.map (·.1)).contains i then .var T cs else .lk (.var T cs)| .lk b=>.lk (.lk b)|b=>b
theorem zcg(c:List (Nat×List CTy)):∀(bx:Bxs S)(k i:Nat),zam (zav c k bx) i=(zam bx i).map (lk1 c (k+i))
 |[],_,_=>by simp[zav,zam]
 |b::r,k,0=>by cases b<;>rfl
 |b::r,k,i+1=>by have:=zcg c r (k+1) i;rw[show k+1+i=k+(i+1) by omega] at this;cases b<;>simpa[zav,zam] using this
theorem zcN(c:List (Nat×List CTy)):∀(bx:Bxs S)(k:Nat),(zav c k bx).length=bx.length|[],_=>rfl|b::r,k=>by cases b<;>simp[zav,zcN c r]
def bl1(ks:List Nat)(i:Nat):Box S->Box S| .var T cs=>bif ks.contains i then .var T (cs.map λ_=>.junk) else .var T cs|b=>b
theorem zcz(ks:List Nat):∀(bx:Bxs S)(k i:Nat),zam (zg8 ks k bx) i=(zam bx i).map (bl1 ks (k+i))
 |[],_,_=>by simp[zg8,zam]
 |b::r,k,0=>by cases b<;>rfl
 |b::r,k,i+1=>by have:=zcz ks r (k+1) i;rw[show k+1+i=k+(i+1) by omega] at this;cases b<;>simpa[zg8,zam] using this
theorem zbD(ks:List Nat):∀(bx:Bxs S)(k:Nat),(zg8 ks k bx).length=bx.length|[],_=>rfl|b::r,k=>by cases b<;>simp[zg8,zbD ks r]
section
variable{P:Program}{un:Uni S}{E:Wl.Ctx}{D0:Dat}{N:Wl.Fr}{D D':Dat}{H:List Wl.Res}{e:Env S}{bx:Bxs S}{a:Act}{w w':World}
theorem zoX{nu:Nu}(c:List (Nat×List CTy)):∀{bx:Bxs S}{H:List Wl.Res}(k:Nat),Kj un nu D w E bx H->Kj un nu D w E (zav c k bx) H
 |[],[],_,_=>by grind[zav]
 |b::bs,r::rs,k,h=>by
   simp only[Kj] at h;have ih:=zoX c (k+1) h.2;cases b<;>simp only[zav,Kj]
   case var T cs=>cases (c.map (·.1)).contains k<;>simp only[cond_true,cond_false]<;>exact ⟨by grind[Kc],ih⟩
   case lk b=>grind[Kc]
   all_goals simp_all
 |[],_::_,_,h=>by grind[Kj]
 |_::_,[],_,h=>by grind[Kj]
theorem zkm{nu:Nu}:∀(n:Nat)(L:Bxs S){bx:Bxs S}{H:List Wl.Res},Kj un nu D w E bx H->Kj un nu D w E (unlock n L bx) H
 |0,_,_,_,h=>by grind[unlock]
 |n+1,[],bx,H,h=>by grind[unlock]
 |n+1,l::L,[],H,h=>by grind[unlock]
 |n+1,l::L,b::bs,[],h=>by grind[Kj]
 |n+1,l::L,b::bs,r::rs,h=>by simp only[Kj] at h;have ih:=zkm n L h.2;cases l<;>cases b<;>simp only[unlock,Kj]<;>first|exact ⟨h.1,ih⟩|exact ⟨by simpa only[Kc] using h.1,ih⟩
theorem Holds.lock(c:List (Nat×List CTy))(h:Holds un E D0 N e bx a w):Holds un E D0 N e (zav c 0 bx) a w:=by obtain ⟨D,H,h1,h2⟩:=h;exact ⟨D,H,⟨h1.Kr,h1.size,h1.defers,zoX c 0 h1.Kg,h1.slots⟩,h2⟩
theorem Holds.unlock(n:Nat)(L:Bxs S)(h:Holds un E D0 N e bx a w):Holds un E D0 N e (unlock n L bx) a w:=by obtain ⟨D,H,h1,h2⟩:=h;exact ⟨D,H,⟨h1.Kr,h1.size,h1.defers,zkm n L h1.Kg,h1.slots⟩,h2⟩
end
end Pe
end
section
namespace Pe
open Go Go.RowKit
variable{S:Nat->Type}
def Kept(c:Cut)(i:Nat)(bx':Bxs S):Box S->Prop| .var T cs=>(i∈c.Kg.map (·.1)/\∃cs',zam bx' i=some (.var T cs')/\cs'.length=cs.length)\/(i∉c.Kg.map (·.1)/\∃b',zam bx' i=some (.lk b')/\Kv (.var T (cs.map ziz)) b')| .lk b=>∃b',zam bx' i=some (.lk (.lk b'))/\Kv b.calm b'| .ro b=>∃b',zam bx' i=some (.ro b')/\Kv b.calm b'| .own _ _ _=>True| .wr _ _ _=>True| .nst _ _ _ _ _=>True| .grp _ _ _ _=>True| .gone=>∃b',zam bx' i=some b'/\fixed b'=true
theorem Kv.calm:∀(b:Box S),Kv b b.calm| .var T cs=>⟨rfl,by simp,λj p hp hr hj=>by simp[yAh,hp,ziz,hr]⟩| .lk b=>Kv.calm b| .ro b=>Kv.calm b| .own _ _ _=>rfl| .wr _ _ _=>rfl| .nst _ _ _ _ _=>rfl| .grp _ _ _ _=>rfl| .gone=>trivial
theorem Kept.freeze{c:Cut}{l:List Nat}{i:Nat}{bx':Bxs S}{b:Box S}(h:Kept c i bx' b):Kept c i (zaq l bx') b:=by
 cases b with
 |var T cs =>
   simp only[Kept] at h ⊢;rcases h with ⟨h1,cs',h2,h3⟩|⟨h1,b',h2,h3⟩;·exact .inl ⟨h1,cs',za9 l h2 (by intros;simp) (by intros;simp),h3⟩
   ·exact .inr ⟨h1,b',za9 l h2 (by intros;simp) (by intros;simp),h3⟩
 |lk b=>obtain ⟨b',h2,h3⟩:=h;exact ⟨b',za9 l h2 (by intros;simp) (by intros;simp),h3⟩
 |ro b=>obtain ⟨b',h2,h3⟩:=h;exact ⟨b',za9 l h2 (by intros;simp) (by intros;simp),h3⟩
 |own=>trivial|wr=>trivial|nst=>trivial|grp=>trivial|gone =>obtain ⟨b',h2,h3⟩:=h;exact ⟨b',za9 l h2 (by intro u T x he;subst he;simp[fixed] at h3) (by intro u T T2 x hh he;subst he;simp[fixed] at h3),h3⟩
theorem zq4{H:List Wl.Res}:∀(l:List (Nat×List CTy)),(∀i ts,(i,ts)∈l->(zbz H i).length=ts.length)->(zcd H l).length=(l.map (·.2.length)).sum|[],_=>rfl|(i,ts)::l,h=>by simp only[zcd,yAI,yAn,List.sum_cons];rw[h i ts (by simp),zq4 l λj ts' hj=>h j ts' (by simp[hj])]
theorem zcJ:∀(l:List (Nat×List CTy))(ps:List (PV S))(B:Bxs S),(∀j ts,(j,ts)∈l->∀T cs,zam B j=some (.var T cs)->ts.length=cs.length)->(l.map (·.2.length)).sum<=ps.length->∀i b,zam B i=some b ->
  ((∀T cs,b≠ .var T cs)->zam (zaX l ps B) i=some b)/\∀T cs,b= .var T cs->∃cs',zam (zaX l ps B) i=some (.var T cs')/\cs'.length=cs.length
 |[],_,_,_,_,i,b,h=>⟨λ_=>h,λT cs hb=>⟨cs,by rw[zaX,h,hb],rfl⟩⟩|(j,ts)::l,ps,B,hl,hp,i,b,h=>by
   simp only[yAn,List.sum_cons] at hp;simp only[zaX];cases hg:zam B j with
   |none=>exact zcJ l (ps.drop ts.length) B (λj' ts' hj=>hl j' ts' (by simp[hj])) (by simp;omega) i b h|some x =>
     cases x with
     |var T0 cs0 =>
       have Ku:=hl j ts (by simp) T0 cs0 hg;have Qi:∀j' ts',(j',ts')∈l->∀T cs,zam (zbe B j (.var T0 (ps.take ts.length))) j'=some (.var T cs)->ts'.length=cs.length:=by
        grind[zeH,zat]
       by_cases hij:i=j;·subst hij;rw[hg] at h;cases h;refine ⟨λhne=>absurd rfl (hne T0 cs0),λT cs he=>?_⟩;cases he;obtain ⟨cs',g1,g2⟩:=(zcJ l (ps.drop ts.length) _ Qi (by simp;omega) i _ (zeH hg)).2 T0 _ rfl;grind
       ·exact zcJ l (ps.drop ts.length) _ Qi (by simp;omega) i b (by grind[zat])
     |_=>exact zcJ l (ps.drop ts.length) B (λj' ts' hj=>hl j' ts' (by simp[hj])) (by simp;omega) i b h
theorem zhZ(e e':Env S)(i:Nat):zvo (e++e') i=(zvo e i).or (zvo e' i):=by
 induction e with
 |nil=>rfl|cons x r ih =>
   obtain ⟨j,p⟩:=x;simp only[yA3,zvo];grind
theorem zb2(W:List Nat):∀(e:Env S)(sn:List Nat)(i:Nat)(p:PV S),zvo (zjT W sn e) i=some p->i∉sn/\i∉W/\zvo e i=some p/\p.rowless=true
 |[],_,_,_,h=>by grind[zjT,zvo]
 |(j,q)::r,sn,i,p,h=>by
   unfold zjT at h;cases hs:sn.contains j with
   |true =>
     rw[hs] at h;obtain ⟨h1,h2,h3,h4⟩:=zb2 W r sn i p h;refine ⟨h1,h2,?_,h4⟩;simp only[zvo];cases hb:Nat.beq j i with
     |true=>simp_all|false=>exact h3
   |false =>
     rw[hs] at h;simp only[cond_false] at h;cases hw:(W.contains j|| !q.rowless) with
     |true =>
       rw[hw] at h;obtain ⟨h1,h2,h3,h4⟩:=zb2 W r (j::sn) i p h;simp only[yAm,not_or] at h1;refine ⟨h1.2,h2,?_,h4⟩;simp only[zvo];cases hb:Nat.beq j i with
       |true=>exact absurd (yAa hb).symm h1.1|false=>exact h3
     |false =>
       rw[hw] at h;simp only[cond_false,zvo] at h ⊢;cases hb:Nat.beq j i with
       |true =>rw[hb] at h;have:=yAa hb;subst this;simp only[cond_true,yAf] at h ⊢;simp_all
       |false =>rw[hb] at h;obtain ⟨h1,h2,h3,h4⟩:=zb2 W r (j::sn) i p h;simp_all
theorem zjS{W:List Nat}:∀(e:Env S)(sn:List Nat)(i:Nat)(p:PV S),i∉sn->i∉W->zvo e i=some p->p.rowless=true->zvo (zjT W sn e) i=some p
 |[],_,_,_,_,_,h,_=>by grind[zvo]
 |(j,q)::r,sn,i,p,h1,h2,h,h4=>by
   unfold zjT;simp only[zvo] at h;cases hb:Nat.beq j i with
   |true =>
     have:=yAa hb;subst this;rw[hb] at h;simp at h;subst h;have e1:sn.contains j=false:=by grind
     have e2:W.contains j=false:=(by grind);simp_all[zvo]
   |false =>
     rw[hb] at h;have hne:i≠j:=λhe=>by simp_all
     cases hs:sn.contains j with
     |true=>exact zjS r sn i p h1 h2 h h4|false =>
       simp only[cond_false];cases hw:(W.contains j|| !q.rowless) with
       |true=>exact zjS r (j::sn) i p (by simp[hne,h1]) h2 h h4|false=>simp only[cond_false,zvo,hb];exact zjS r (j::sn) i p (by simp[hne,h1]) h2 h h4
section
variable{P:Program}{un:Uni S}{E:Wl.Ctx}{D0:Dat}{N:Wl.Fr}{D D':Dat}{H:List Wl.Res}{e:Env S}{bx:Bxs S}{a:Act}{w w':World}
theorem zlI{nu:Nu}{f:Nat->Value}:∀{l:List (Nat×CTy)}{ps:List (PV S)}{vs:List Value},Ke un nu D w ps (l.map (λp=>f p.1)++vs)->∀(i:Nat)(p:PV S)(e:Env S),zvo (zcm l ps++e) i=some p->Rep un nu D w p (f i)\/(i∉l.map (·.1)/\zvo e i=some p)
 |[],ps,vs,_,i,p,e,h=>by grind[zcm]
 |(j,t)::l,[],vs,hr,i,p,e,h=>by grind[Ke]
 |(j,t)::l,q::ps,vs,hr,i,p,e,h=>by
   simp only[yAn,yA3,Ke] at hr;simp only[zcm,yA3,zvo] at h;cases hb:Nat.beq j i with
   |true=>simp_all|false =>
     rw[hb] at h;rcases zlI hr.2 i p e h with h|h;·exact .inl h
     ·refine .inr ⟨?_,h.2⟩;have hne:i≠j:=λhe=>by simp_all
      simp only[yAn,yAm,not_or];exact ⟨hne,h.1⟩
theorem zd5{z:Env S}:∀{l:List (Nat×Nat×U)}{ps:List (PV S)}(i:Nat)(p:PV S),zvo (zcE z l ps) i=some p->∃(k m:Nat) (j:Nat) (u:U) (y:IntKind) (x:Int),l[k]?=some (i,j,u)/\ps[k]?=some (.int y x)/\zvo z j=some (.row m)/\p= .rsl m u x.toNat
 |[],ps,i,p,h=>by simp[zcE,zvo] at h
 |(i0,j,u)::l,[],i,p,h=>by simp[zcE,zvo] at h
 |(i0,j,u)::l,q::ps,i,p,h=>by
   have later:zvo (zcE z l ps) i=some p->∃(k m:Nat) (j':Nat) (u':U) (y:IntKind) (x:Int),((i0,j,u)::l)[k]?=some (i,j',u')/\(q::ps)[k]?=some (.int y x)/\zvo z j'=some (.row m)/\p= .rsl m u' x.toNat:=λh=>by obtain ⟨k,m,j',u',y,x,h1,h2,h3⟩:=zd5 i p h;exact ⟨k+1,m,j',u',y,x,by grind,by grind,h3⟩
   unfold zcE at h;split at h
   ·rename_i y x m hl;simp only[zvo] at h;cases hb:Nat.beq i0 i with
    |true =>rw[hb] at h;simp only[cond_true,yAf] at h;have:=yAa hb;subst this;exact ⟨0,m,j,u,y,x,rfl,rfl,hl,h.symm⟩
    |false=>grind
   grind
theorem zhr{e:Env S}{nu:Nu}:∀{l:List (Nat×Nat×U)}{ps:List (PV S)},zgf e l=some ps->(∃vs,Ke un nu D w ps vs)/\ps.length=l.length/\∀(n:Nat) i j u,l[n]?=some (i,j,u)->∃b k,zvo e i=some (.rsl b u k)/\zvo e j=some (.row b)/\ps[n]?=some (.int .i64 k)
 |[],ps,h=>by simp[zgf] at h;subst h;exact ⟨⟨[],by simp[Ke]⟩,rfl,λn i j u h=>by simp at h⟩
 |(i0,j0,u0)::l,ps,h=>by
   unfold zgf at h;split at h
   ·rename_i b v k b' ps0 h1 h2 h3;split at h
    ·rename_i huv _;obtain ⟨hb,h⟩:=zae h;cases h;have:=yAa hb;subst this;obtain ⟨⟨vs,g1⟩,g2,g3⟩:=zhr h3;refine ⟨⟨.int .i64 k::vs,by simp only[Ke,Rep,true_and];exact g1⟩,by simp[g2],λn i j u hn=>?_⟩;cases n with
     |zero=>simp only[List.getElem?_cons_zero,yAf,Prod.mk.injEq] at hn;obtain ⟨rfl,rfl,rfl⟩:=hn;have hv:=huv.down;subst hv;exact ⟨b,k,h1,h2,rfl⟩
     |succ n=>grind
    ·cases h
   ·cases h
theorem Kj.of_get{nu:Nu}:∀{bx:Bxs S}{H:List Wl.Res},bx.length=H.length->(∀(i:Nat) b r,zam bx i=some b->H[i]?=some r->Kc un nu D w E false b r)->Kj un nu D w E bx H
 |[],[],_,_=>by simp[Kj]
 |b::bs,r::rs,hl,h=>by simp only[Kj];exact ⟨h 0 b r rfl rfl,Kj.of_get (by grind) λi b' r' hb hr=>h (i+1) b' r' (by grind[zam]) (by grind)⟩
 |[],_::_,hl,_=>by simp at hl
 |_::_,[],hl,_=>by simp at hl
theorem zic(Kq:Kx un){c:Cut}{W:List Nat}{e0 e':Env S}{bx0 bx':Bxs S}{a0:Act}{w0:World}(h0:Holds un E D0 N e0 bx0 a0 w0)(hs:Holds un E D0 N e' bx' a w)(he:∀i p,i∉c.slots.map (·.1)->zvo (mask (c.tails.map (·.1)++W) e0) i=some p->zvo e' i=some p)
  (hb:∀i b,zam bx0 i=some b->Kept c i bx' b) (Ku:bx0.length<=bx'.length) {t:ElL S c.codes} (hc:zgH un c e' bx'=some t):Holds un E D0 N (mkEnv c W e0 bx0.length t) (zhP c bx0 t) a w/\Kk bx0 (zhP c bx0 t):=by
 obtain ⟨D00,H0,st0,_⟩:=h0;unfold zgH at hc;split at hc
 ·rename_i ps os qs hps hos hqs;unfold znx at hc;obtain ⟨hro,hcl⟩:=zae hc;have hs:=hs.freeze (frs c.tys (ps++(os++qs)));have hqs:=zcn (ks:=frs c.tys (ps++(os++qs))) hqs;have hb:=λi b hi=>(hb i b hi).freeze (l:=frs c.tys (ps++(os++qs)));have Ku:bx0.length<=(zaq (frs c.tys (ps++(os++qs))) bx').length:=by rw[zbu];exact Ku
  generalize zaq (frs c.tys (ps++(os++qs))) bx'=bx' at hro hcl hs hqs hb Ku;obtain ⟨D,H,st,hD⟩:=hs;obtain ⟨hv1,hv2⟩:=zet st.Kg hqs;obtain ⟨⟨ov,ho1⟩,ho2,ho3⟩:=zhr (un:=un) (nu:=ids H) (D:=D) (w:=w) hos;have hR:=(zhu st hps).append (ho1.append hv1);obtain ⟨bs,rs,g1,g2,g3,g4',g5,_⟩:=zcc Kq st c.tys (ps++(os++qs)) _ [] t bx0.length hro hcl hR;have g4:=λnu':Nu=>g4' nu' E;have hBl:(zbg bx0).length=bx0.length:=zdD bx0;have hHl:bx'.length=H.length:=st.Kg.length;have hsl:(zkq (zbg bx0) H).length=bx0.length:=by rw[ze5 (by omega),hBl]
  have Q6:∀i b0 r,zam bx0 i=some b0->H[i]?=some r->(zkq (zbg bx0) H)[i]?=some (match nr1 b0 with | .gone=>zh4 r|_=>r):=λi b0 r hi hr=>zg9 (by rw[zbh,hi];rfl) hr;have Kt:In E D (zkq (zbg bx0) H++rs) w:=by
   refine st.Kr.cut (by omega) g1 g3 (λb hbm hbl=>?_) (λb hbm r hH=>?_) λi v hi=>?_
   rotate_left 1
   ·obtain ⟨_,x,hbo,Kp⟩:=g2 b hbm;obtain ⟨r',hr1,hr2⟩:=st.Kg.get hbo;rw[hH] at hr1;cases hr1;cases x<;>simp[zdW] at Kp<;>cases r<;>simp[Kc] at hr2<;>rfl
   ·obtain ⟨r,h2,_⟩:=st0.Kr.lent i v hi;have:=(yAc.1 h2).1;rw[hBl,st0.Kg.length];exact this
   obtain ⟨_,x,hbo,Kp⟩:=g2 b hbm;obtain ⟨b0,hb0⟩:=zbR (bx:=bx0) (i:=b) (by omega);rw[zbh,hb0];have:=hb b b0 hb0;cases b0<;>simp only[Kept] at this<;>simp only[yAg,nr1,Box.calm];·rcases this with ⟨_,cs',h1,_⟩|⟨_,b',h1,_⟩<;>(rw[hbo] at h1;cases h1;simp[zdW] at Kp)
   ·obtain ⟨b',h1,_⟩:=this;rw[hbo] at h1;cases h1;simp[zdW] at Kp
   ·obtain ⟨b',h1,_⟩:=this;rw[hbo] at h1;cases h1;simp[zdW] at Kp
  have K8:∀i,i<bx0.length->(ids (zkq (zbg bx0) H++rs))[i]?=(ids H)[i]? :=by intro i hi;obtain ⟨b0,hb0⟩:=zbR hi;obtain ⟨r,hr⟩:∃r,H[i]?=some r:=⟨_,yAe (by omega)⟩;simp only[ids,yAh];rw[yAk (by omega),Q6 i b0 r hb0 hr,hr];cases nr1 b0<;>first|rfl|(simp only[yAg,znW])
  have hidn:∀(i:Nat) r,rs[i]?=some r->(ids (zkq (zbg bx0) H++rs))[bx0.length+i]?=some (zal r):=by intro i r hr;simp only[ids,yAh];rw[yAF (by omega),hsl,yAP,hr];rfl
  have hP:=g5 _ hidn;have hm0:(ids H0).length<=bx0.length:=by rw[st0.Kg.length];simp[ids]
  have Q7:Kj un (ids (zkq (zbg bx0) H++rs)) D w E (zg8 (c.Kg.map (·.1)) 0 (zbg bx0)) (zkq (zbg bx0) H):=by
   refine Kj.of_get (by rw[zbD,hBl,hsl]) λi b r hib hir=>?_;have hil:i<bx0.length:=by have:=zb5 hib;rw[zbD,hBl] at this;exact this
   obtain ⟨b0,hb0⟩:=zbR hil;obtain ⟨r1,hr1⟩:∃r,H[i]?=some r:=⟨_,yAe (by omega)⟩;rw[Q6 i b0 r1 hb0 hr1] at hir;rw[zcz,zbh,hb0] at hib;simp only[yAg,yAf,yAJ] at hib hir;have hk:=hb i b0 hb0;obtain ⟨r0,_,hr02⟩:=st0.Kg.get hb0;cases b0 with
   |var T cs =>
     simp only[nr1,Box.calm] at hib hir;subst hir;simp only[Kept] at hk;rcases hk with ⟨Qa,cs',h1,h2⟩|⟨Qa,b',h1,h2⟩
     ·have hcon:(c.Kg.map (·.1)).contains i=true:=yBz.2 Qa;simp only[bl1,hcon,cond_true] at hib;subst hib;obtain ⟨r2,hr2,hr3⟩:=st.Kg.get h1;rw[hr1] at hr2;cases hr2;refine ziN hr3 (zk9 ?_);have:=(zf6 hr3).2.1.length;simp;omega
     ·have hcon:(c.Kg.map (·.1)).contains i=false:=by
       cases hx:(c.Kg.map (·.1)).contains i with
       |true=>exact absurd (yBz.1 hx) Qa|false=>rfl
      simp only[bl1,hcon,cond_false] at hib;subst hib;obtain ⟨r2,hr2,hr3⟩:=st.Kg.get h1;rw[hr1] at hr2;cases hr2;simp only[Kc] at hr3;exact zka (b:= .var T cs) hm0 K8 hr02 h2 hr3
   |lk b0 =>simp only[nr1,Box.calm] at hib hir;subst hir;simp only[bl1] at hib;subst hib;obtain ⟨b',h1,h2⟩:=hk;obtain ⟨r2,hr2,hr3⟩:=st.Kg.get h1;rw[hr1] at hr2;cases hr2;simp only[Kc] at hr3 hr02 ⊢;exact zka hm0 K8 hr02 h2 hr3
   |ro b0 =>simp only[nr1,Box.calm] at hib hir;subst hir;simp only[bl1] at hib;subst hib;obtain ⟨b',h1,h2⟩:=hk;obtain ⟨r2,hr2,hr3⟩:=st.Kg.get h1;rw[hr1] at hr2;cases hr2;simp only[Kc] at hr3 hr02 ⊢;exact zka hm0 K8 hr02 h2 hr3
   |own u T l=>simp only[nr1,bl1] at hib;subst hib;cases r<;>simp only[Kc]|wr u T l=>simp only[nr1,bl1] at hib;subst hib;cases r<;>simp only[Kc]|nst u T T2 l hh=>simp only[nr1,bl1] at hib;subst hib;cases r<;>simp only[Kc]|grp u T2 l hh=>simp only[nr1,bl1] at hib;subst hib;cases r<;>simp only[Kc]|gone=>simp only[nr1,Box.calm,bl1] at hib;subst hib;cases r<;>simp only[Kc]
  have hbx:∀i ts,(i,ts)∈c.Kg->(∀r,(zkq (zbg bx0) H)[i]?=some r->zax r=true->H[i]?=some r)/\(zbz H i).length=ts.length:=by
   intro i ts hi;refine ⟨λr hx hcl=>?_,(hv2 i ts hi).2⟩;have hil:i<bx0.length:=by rw[<-hsl];exact (yAc.1 hx).1
   obtain ⟨b0,hb0⟩:=zbR hil;obtain ⟨r1,hr1⟩:∃r,H[i]?=some r:=⟨_,yAe (by omega)⟩;rw[Q6 i b0 r1 hb0 hr1] at hx;rw[hr1];cases hnr:nr1 b0<;>rw[hnr] at hx<;>simp at hx<;>first|(simp[hx];done)|(cases r1<;>simp[zh4] at hx<;>subst hx<;>first|rfl|(simp[zax] at hcl))
  have Q0:=hP.drop c.slots.length;rw[show c.slots.length=(c.slots.map λp=>a.tmps.getD p.1 undef).length by simp,yBy] at Q0;simp only[yBi] at Q0;have hdrop:=Q0.drop c.tails.length;rw[yBh,show c.tails.length=ov.length by rw[<-ho1.length,ho2],yBy,<-ho1.length,ho2] at hdrop;refine ⟨⟨D,_,⟨Kt,st.size,st.defers,?_,λi p hi=>?_⟩,hD⟩,?_⟩;·exact (zhQ Q7 hbx hdrop).append (g4 _)
  ·rw[mkEnv,zhZ] at hi;cases hte:zvo (zcE (zcm c.slots (zcI c.tys t bx0.length)) c.tails ((zcI c.tys t bx0.length).drop c.slots.length)) i with
   |some q =>
     rw[hte] at hi;cases hi;obtain ⟨n,m,j,u,y,x,k1,k2,k3,rfl⟩:=zd5 i p hte;obtain ⟨b,k,l1,l2,l3⟩:=ho3 n i j u k1;obtain ⟨v1,l4,l5⟩:=Q0.get n _ k2;obtain ⟨v2,l6,l7⟩:=(ho1.append hv1).get n (.int .i64 k) (by rw[yAk (by rw[ho2];exact (yAc.1 k1).1)];exact l3);rw[l4] at l6;cases l6;simp only[Rep] at l5 l7;rw[l5] at l7;cases l7;have Kp:Rep un (ids (zkq (zbg bx0) H++rs)) D w (.row m) (a.tmps.getD j undef):=by
      rcases zlI (f:=λi=>a.tmps.getD i undef) (e:=[]) hP j _ (by rw[yAR];exact k3) with h|⟨_,h⟩;·exact h
      ·simp[zvo] at h
     have hr1:=st.slots j _ l2;have hr2:=st.slots i _ l1;simp only[Rep] at Kp hr1 hr2 ⊢;obtain ⟨fl,g,n',c',off,m1,m2,m3⟩:=hr2;rw[hr1.1] at m1;simp only[yAf,Prod.mk.injEq] at m1;obtain ⟨rfl,m1⟩:=m1;exact ⟨false,g,n',c',off,by rw[Kp.1,m1],by simpa using m2,by simpa using m3⟩
   |none =>
   rw[hte] at hi;rcases zlI (f:=λi=>a.tmps.getD i undef) hP i p _ hi with h|⟨h1,h2⟩;·exact h
   ·obtain ⟨_,_,h3,h4⟩:=zb2 _ e0 [] i p h2;exact Rep.low hm0 K8 p _ _ h4 (st0.slots i p h3) (st.slots i p (he i p h1 h2))
  ·have Qg:=zcJ c.Kg ((zcI c.tys t bx0.length).drop (c.slots.length+c.tails.length)) (zg8 (c.Kg.map (·.1)) 0 (zbg bx0)) (λj ts hj T cs hgj=>by
    have hjl:j<bx0.length:=(by have:=zb5 hgj;rw[zbD,hBl] at this;exact this);obtain ⟨b0,hb0⟩:=zbR hjl;rw[zcz,zbh,hb0] at hgj;simp only[yAg,yAf,yAJ] at hgj;have hk:=hb j b0 hb0;have Qa:j∈c.Kg.map (·.1):=yBw.2 ⟨_,hj,rfl⟩;obtain ⟨⟨T2,cs2,hv⟩,hv'⟩:=hv2 j ts hj;cases b0 with
    |var T0 cs0 =>
      simp only[nr1,Box.calm,bl1,yBz.2 Qa,cond_true] at hgj;cases hgj;simp only[Kept] at hk;rcases hk with ⟨_,cs',h1,h2⟩|⟨hn,_⟩
      ·obtain ⟨r,k1,_,k2,k3,_⟩:=zbp st.Kg h1;have:=k3.length;rw[<-hv',k2];simp;omega
      ·exact absurd Qa hn
    |_=>simp[nr1,Box.calm,bl1] at hgj) (by rw[<-zq4 c.Kg λi ts hi=>(hv2 i ts hi).2];rw[hdrop.length];exact yAi _)
   refine ⟨by rw[zhP,yAI,zda,zbD,hBl];omega,λi b hi hf=>?_,λi T cs hi=>?_⟩
   ·have h1:zam (zg8 (c.Kg.map (·.1)) 0 (zbg bx0)) i=some b.calm:=by
     rw[zcz,zbh,hi];cases b<;>simp[fixed] at hf<;>rfl
    refine ⟨b.calm,zb6 ((Qg i _ h1).1 λT cs hcon=>?_),Kv.calm b⟩;cases b<;>simp[fixed] at hf<;>simp[Box.calm] at hcon
   ·have h1:∃cs1,zam (zg8 (c.Kg.map (·.1)) 0 (zbg bx0)) i=some (.var T cs1)/\cs1.length=cs.length:=by
     rw[zcz,zbh,hi];simp only[yAg,nr1,Box.calm,bl1,yAJ];cases (c.Kg.map (·.1)).contains i<;>exact ⟨_,rfl,by simp⟩
    obtain ⟨cs1,h1,h2⟩:=h1;obtain ⟨cs',h3,h4⟩:=(Qg i _ h1).2 T cs1 rfl;exact ⟨cs',zb6 h3,h4.trans h2⟩
 ·rename_i hno;cases h1:zgh e' c.slots with
  |none=>rw[h1] at hc;simp at hc|some ps=>cases h2:zgf e' c.tails with
    |none=>rw[h1,h2] at hc;simp at hc|some os=>cases h3:zcB bx' c.Kg with
      |none=>rw[h1,h2,h3] at hc;simp at hc|some qs=>exact (hno ps os qs h1 h2 h3).elim
end
end Pe
end
