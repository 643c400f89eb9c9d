/- PROVED HERE: a part of the seat's proofs; see the text that holds the claim's theorem. -/
import Derived.Test.YtdmdigejjdianaaGreatDoorNm
import Derived.Laws.IdiomStrings
import Derived.Lib.SlBytesConst
import Derived.Laws.IdiomCopy
import Derived.Test.YtdmdigejjdianaaGreatDoorPeB
section
/- Operations on maps, and on rows to which one zaT. -/
namespace Pe
open Go Go.RowKit
variable{S:Nat->Type}
section
variable{P:Program}{un:Uni S}{tb:Tb S}{orc:Orc S}{inl:Inl S}{E:Wl.Ctx}{D0:Dat}{N:Wl.Fr}{D D':Dat}{H:List Wl.Res}{e:Env S}{bx:Bxs S}{a:Act}{w w':World}{o:Oper}{R:Type}{r:R}
theorem zjw:∀{es:List MapEntry}{n k:Nat}{f g:Nat->Value},es.length=n->(∀i e,es[i]?=some e->e.key=f (k+i)/\e.val=g (k+i))->(List.range' k n).flatMap (λi=>[f i,g i])=es.flatMap (λe=>[e.key,e.val])
 |[],0,_,_,_,_,_=>rfl|e::es,n+1,k,f,g,hl,h=>by simp only[yBa,yBN,yAN,yAZ];obtain ⟨h1,h2⟩:=h 0 e rfl;rw[zjw (es:=es) (f:=f) (g:=g) (by simpa using hl) λi e' hi=>by have:=h (i+1) e' (by simpa using hi);rwa[show k+(i+1)=k+1+i by omega] at this,h1,h2];rfl
 |[],n+1,_,_,_,hl,_=>by simp at hl
 |e::es,0,_,_,_,hl,_=>by simp at hl
theorem znM{k v:U}{l:List (El S k×El S v)}{es:List MapEntry}(h1:KeysRep un D w k (l.map (·.1)) es)(h2:ValsRep un D w v (l.map (·.2)) es):DR un D w [.mp k v] (sg (u:= .mp k v) l) [Wl.encM (es.flatMap λe=>[e.key,e.val])]:=by
 have hlen:l.length=es.length:=by have:=h1.length;simpa using this
 have hg:∀(i:Nat),i<l.length->∃e,es[i]?=some e:=λi hi=>⟨_,yAh (by omega)⟩;have:=zjw (es:=es) (n:=l.length) (k:=0) (f:=λi=>zbh k (zf5 k ((es.map (·.key)).getD i undef))) (g:=λi=>zbh v (zf5 v ((es.map (·.val)).getD i undef))) hlen.symm (λi e hi=>by
  have hil:i<l.length:=by rw[hlen];exact (yAc.1 hi).1
  obtain ⟨x,hx⟩:∃x,l[i]?=some x:=⟨_,yAh hil⟩;have e1:(es.map (·.key)).getD (0+i) undef=e.key:=by simp[yAE,hi]
  have e2:(es.map (·.val)).getD (0+i) undef=e.val:=by simp[yAE,hi]
  simp only[e1,e2];exact ⟨(zbM (zcb h1 i x.1 e (by simp[hx]) hi)).2,(zbM (zb3 h2 i x.2 e (by simp[hx]) hi)).2⟩)
 rw[<-this,<-yBq];refine .mp (λi=>zf5 k ((es.map (·.key)).getD i undef)) (λi=>zf5 v ((es.map (·.val)).getD i undef)) (λi x hx=>?_) (λi x hx=>?_) .nil
 ·have hx':l[i]?=some x:=hx;obtain ⟨e,he⟩:=hg i (yAc.1 hx').1;have e1:(es.map (·.key)).getD i undef=e.key:=by simp[yAE,he]
  rw[e1];exact (zbM (zcb h1 i x.1 e (by simp[hx']) he)).1
 ·have hx':l[i]?=some x:=hx;obtain ⟨e,he⟩:=hg i (yAc.1 hx').1;have e1:(es.map (·.val)).getD i undef=e.val:=by simp[yAE,he]
  rw[e1];exact (zbM (zb3 h2 i x.2 e (by simp[hx']) he)).1
theorem zgT{k v:U}{x:El S k}{y:El S v}{key val:Value}{born:Nat}(hx:Rep un [] D w (inj k x) key)(hy:Rep un [] D w (inj v y) val):∀{l:List (El S k×El S v)}{es:List MapEntry}(i:Nat),KeysRep un D w k (l.map (·.1)) es->ValsRep un D w v (l.map (·.2)) es ->
  (zek ((l.map (·.1)).map (keq un k x)) es i=none/\KeysRep un D w k ((mput (keq un k) x y l).map (·.1)) (es++[⟨key,val,born⟩])/\ValsRep un D w v ((mput (keq un k) x y l).map (·.2)) (es++[⟨key,val,born⟩])) \/
  ∃j y0 x0 e0,zek ((l.map (·.1)).map (keq un k x)) es i=some (i+j,y0)/\es[j]?=some e0/\Rep un [] D w (inj k x0) e0.key/\keq un k x x0=true/\∀f:MapEntry->MapEntry,(f e0).key=key->(f e0).val=val->KeysRep un D w k ((mput (keq un k) x y l).map (·.1)) (es.modify j f)/\ValsRep un D w v ((mput (keq un k) x y l).map (·.2)) (es.modify j f)
 |[],[],i,_,_=>.inl ⟨rfl,⟨hx,trivial⟩,⟨hy,trivial⟩⟩|(k0,v0)::l,e::es,i,h1,h2=>by
   simp only[yAk,KeysRep,ValsRep] at h1 h2;simp only[yAk,mput];cases hk:keq un k x k0 with
   |true =>right;refine ⟨0,e.val,k0,e,by simp[zek],rfl,h1.1,hk,λf g1 g2=>?_⟩;simp only[cond_true,yAk,List.modify_zero_cons,KeysRep,ValsRep];rw[g1,g2];exact ⟨⟨hx,h1.2⟩,hy,h2.2⟩|false =>
     simp only[cond_false,zek,yAk,yAN,KeysRep,ValsRep];rcases zgT hx hy (i+1) h1.2 h2.2 with ⟨g1,g2,g3⟩|⟨j,y0,x0,e0,g1,g2,g3,g4,g5⟩;·exact .inl ⟨g1,⟨h1.1,g2⟩,h2.1,g3⟩
     ·refine .inr ⟨j+1,y0,x0,e0,by rw[g1];congr 2;omega,by simpa using g2,g3,g4,λf k1 k2=>?_⟩;obtain ⟨k3,k4⟩:=g5 f k1 k2;rw[List.modify_succ_cons];exact ⟨⟨h1.1,k3⟩,h2.1,k4⟩
 |[],_::_,_,h1,_=>h1.elim|_::_,[],_,h1,_=>h1.elim
theorem znN{b g:Nat}{es es':Array MapEntry}{c c' size:Nat}(hin:In E D H w)(hb:H[b]?=some (.fix (.map (some g)) (some g) size (.map es c)))(hw:w'={ w with heap:=w.heap.setIfInBounds g (.map es' c') }) :
  In E D (H.set b (.fix (.map (some g)) (some g) size (.map es' c'))) w'/\Ge D w D w':=by
 have hmem:=yAb hb;have hh:=hin.res _ hmem;have hgl:=(yAq.1 (hh.2 g rfl).2).1;have hgr:w.grownBy w' (some g):=by subst hw;exact ⟨rfl,rfl,rfl,by simp,λk hk hne=>by show (w.heap.setIfInBounds g _)[k]?=_;rw[yAJ,if_neg (λh:g=k=>hne (by rw[h]))]⟩
 refine ⟨hin.turn hb hgr ⟨.inl ⟨g,es',c',rfl,rfl,rfl⟩,λg0 hg0=>?_⟩ (λg hg=>.inl hg) (λk o hk=>.inl hk) (λk o hk=>yAn (hin.lt k o hk) hgr.size) (λg' hg' o hf hd=>hin.apart _ hmem g' hg' o trivial hd) (λ_=>⟨rfl,rfl,.inl rfl⟩),(.of (λ_ _ h=>h) λk o hk=>(hgr.block k (hin.lt k o hk) λhkb=>hin.apart _ hmem k hkb.symm o trivial hk))⟩;cases hg0;refine ⟨(hh.2 g rfl).1,?_⟩;subst hw;simp[hgl]
theorem zi8(hun:UniOk un)(ht:TbOk P un tb){K:PV S->Env S->Bxs S->Option R}{t:TypeId}{m x y:Operand}(h:zi9 un tb e bx t m x y K=some r)(ho:∀w w',(Instr.mapUpdate t (a.eval m) (a.eval x) (a.eval y)).run P w= .ok () w'->(execOp a.eval o).run P w= .ok .skip w')(hd:∀d,o.dst=some d->d<N.n)(hs:Holds un E D0 N e bx a w)
  {next:Act->World->Prop} {Q:Exit->Act->World->Prop} (hk:∀p e' bx',K p e' bx'=some r->Pres [] e e'->PresB bx bx'->∀a' w',Holds un E D0 N (push o.dst p e') bx' a' w'->next a' w'):o.wp P a w next Q:=by
 unfold zi9 at h;split at h
 ·rename_i b kt k vt v hm hmp;split at h
  ·rename_i T u l key val hg hkey hval;split at h
   ·rename_i heq _;subst heq;obtain ⟨h1,h2⟩:=zac h;obtain ⟨D,H,hs,hD,hG⟩:=hs;cases hrow:tb.ty.get t with
    |none=>rw[hrow] at hmp;cases hmp|some row =>
      rw[hrow] at hmp;simp only[yAx] at hmp;obtain ⟨hu,hky⟩:=(ht.ty t row hrow).mp _ _ _ _ hmp;have kr:Rep un [] D w (inj k key) (a.eval x):=by
       cases hx:ev e x with
       |none=>rw[hx] at hkey;cases hkey|some q=>rw[hx] at hkey;exact zbx (zbm hun hkey (hs.fz hun (hs.ev hx))).2
      have vr:Rep un [] D w (inj v val) (a.eval y):=by
       cases hy:ev e y with
       |none=>rw[hy] at hval;cases hval|some q=>rw[hy] at hval;exact zbx (zbm hun hval (hs.fz hun (hs.ev hy))).2
      have hmv:=hs.ev hm;simp only[Rep] at hmv;obtain ⟨r0,hr1,hr2⟩:=hs.boxes.get hg;have hh:=hs.inn.res _ (yAb hr1);have hid:=hmv.1;simp only[ids,yAg,hr1,yAf,yAe] at hid;cases r0 with
      |box g T' vs =>simp[zaf] at hid;rw[<-hid] at hmv;simp[zdE] at hmv|fix v0 g size ob =>
        simp only[BoxRep] at hr2;simp[zaf] at hid;obtain ⟨g0,es,c,e1,e2,e3,e4,e5⟩:=zgj hh.1 (zdU hr2);subst e3;subst e2;rw[<-hid,e1] at hmv;have hid2:a.eval m= .map (some g0):=by rw[<-hid,e1]
        subst e1;have hblk:=(hh.2 g0 rfl).2;have fin:∀(es':Array MapEntry) c',(Instr.mapUpdate t (.map (some g0)) (a.eval x) (a.eval y)).run P w= .ok () { w with heap:=w.heap.setIfInBounds g0 (.map es' c') }->KeysRep un D w k ((mput (keq un k) key val l).map (·.1)) es'.toList->ValsRep un D w v ((mput (keq un k) key val l).map (·.2)) es'.toList->o.wp P a w next Q:=by
         intro es' c' hrun k1 k2;obtain ⟨hin,hge⟩:=znN (es':=es') (c':=c') hs.inn hr1 rfl;have hids:ids (H.set b (.fix (.map (some g0)) (some g0) size (.map es' c')))=ids H:=zaq hr1 rfl;unfold Oper.wp;rw[ho w _ (by rw[hid2];exact hrun)];refine hk _ _ _ h2 (Pres.refl _ _) (PresB.set hg rfl λT' cs' he=>by cases he;exact ⟨_,rfl,rfl⟩) _ _ ⟨D,_,hs.step hin ?_ (λi q hi=>?_) hd ?_,hD,hG.trans hge⟩;·rw[hids];refine (hs.boxes.mono hge (zap hs.inn.out hin.out) λ_ _ h=>h).set ?_;simp only[BoxRep,RepL,Rep,and_true];exact znM (k1.mono hge) (k2.mono hge)
         ·rw[hids];exact (hs.slots i q hi).ge hge λ_ _ h=>h
         ·simp only[zay,Rep];exact ⟨[],rfl,by simp[RepL]⟩
        have hfind:=hky.find D w key _ _ _ kr e4;rcases zgT (born:=c) kr vr 0 e4 e5 with ⟨f1,f2,f3⟩|⟨j,y0,x0,e0,f1,f2,f3,f4,f5⟩
        ·rw[f1] at hfind;refine fin (es.push ⟨a.eval x,a.eval y,c⟩) (c+1) ?_ (by simpa using f2) (by simpa using f3);simp[Instr.mapUpdate,run_underlying hu,MapKept.run_getObj_map hblk,hky.check D w key _ _ kr,hfind,MapKept.run_setObj_map _ hblk,Result.andThen]
        ·rw[f1] at hfind;have hj:es[j]?=some e0:=by simpa using f2
         have hst:=hky.stays D w key x0 _ _ kr f3 f4;obtain ⟨g1,g2⟩:=f5 (λe'=>{ e' with key:=a.eval x,val:=a.eval y }) rfl rfl;refine fin (es.modify j λe'=>{ e' with key:=a.eval x,val:=a.eval y }) c ?_ (by rw[yBG];exact g1) (by rw[yBG];exact g2);simp[Instr.mapUpdate,run_underlying hu,MapKept.run_getObj_map hblk,hky.check D w key _ _ kr,hfind,hj,hst,MapKept.run_setObj_map _ hblk,Result.andThen]
      |_=>simp[BoxRep] at hr2
   ·cases h
  ·cases h
 ·cases h
theorem St.newFix(h:St un E N D H e bx a w)(T:TypeId){cs:List (PV S)}{v:Value}{size:Nat}{ob:Obj}(hb:Below w.heap.size w w')(hnew:w'.heap[w.heap.size]?=some ob)(hok:Wl.fixOk v (some w.heap.size) size ob)(hv:zdE v=true)
  (hl:RepL un (ids H) D w cs [Wl.fixV v size ob]) {dst:Option Nat} (hd:∀d,dst=some d->d<N.n) :
  ∃H',St un E N D H' (push dst (.ref bx.length) e) (bx++[.var T cs]) (a.put dst v) w'/\Ge D w D w':=by
 have hin:In E D (H++[.fix v (some w.heap.size) size ob]) w':=by
  refine h.inn.push hb ⟨hok,λg0 hg=>?_⟩ (λg hg=>by simp[Wl.Res.has] at hg;omega) (λk o hk=>.inl hk) (λk o hk=>yAn (h.inn.lt k o hk) hb.size) (λg hg o _ hk=>?_);·cases hg;exact ⟨.inl h.inn.out.size,hnew⟩
  ·simp[Wl.Res.has] at hg;have:=h.inn.lt g o hk;omega
 have hge:Ge D w D w':=Ge.same h.inn hb;have hlen:=h.boxes.length;refine ⟨_,h.step hin ?_ (λi q hi=>(h.slots i q hi).ge hge (zbe H _)) hd ?_,hge⟩;·refine (h.boxes.mono hge (zap h.inn.out hin.out) (zbe H _)).push ?_;simp only[BoxRep];exact hl.ge hge (zbe H _)
 ·simp only[Rep];exact ⟨by rw[hlen,zcQ];rfl,hv⟩
theorem zjQ(hf:zkk un){u:U}{l:List (El S u)}{n size:Nat}{xs:List Value}(h:DR un D w [.rw u] (sg (u:= .rw u) l) [Wl.encV n size xs]):n=l.length/\size=U.size un u/\xs.length=l.length*U.size un u/\ziu un D w u l xs:=by
 generalize hv:Wl.encV n size xs=val at h;cases h with
 |rw cs hc h =>
   cases h;have hc':∀(i:Nat) x,l[i]?=some x->DR un D w [u] (sg x) (cs i):=hc;change Wl.encV n size xs=Wl.encV l.length (U.size un u) ((List.range l.length).flatMap cs) at hv;simp only[Wl.encV,Value.func.injEq,Fn.func.injEq,yB3,yBp,Value.int.injEq,true_and,and_true] at hv;obtain ⟨rfl,rfl,hs⟩:=hv;have hlen:∀j,j<l.length->(cs j).length=U.size un u:=λj hj=>by rw[(hc' j _ (yAh hj)).length hf];simp[zcr]
   refine ⟨rfl,by exact_mod_cast hs,?_,λi x hi=>?_⟩
   ·have:∀n,n<=l.length->((List.range n).flatMap cs).length=n*U.size un u:=by
     intro n;induction n with
     |zero=>intro _;simp
     |succ n ih=>intro hn;rw[List.range_succ,List.flatMap_append,yAD,ih (by omega)];simp[hlen n (by omega),yAv]
    exact this _ (yAl _)
   ·rw[zjr hlen (yAc.1 hi).1];exact hc' i x hi
theorem ziG{m:Nat}{xs:List Value}:∀(n k:Nat),(List.range' k n).flatMap (λj=>(xs.drop (j*m)).take m)=(xs.drop (k*m)).take (n*m)
 |0,k=>by simp
 |n+1,k=>by rw[yBa,yBN,ziG n (k+1),yAv n 1 m,yAM,yBO (n*m) m,List.take_add,yBl,yAv k 1 m,yAM]
theorem zl5{u:U}{l:List (El S u)}{xs:List Value}(hlen:xs.length=l.length*U.size un u)(h:ziu un D w u l xs):DR un D w [.rw u] (sg (u:= .rw u) l) [Wl.encV l.length (U.size un u) xs]:=by
 have hx:(List.range l.length).flatMap (λj=>(xs.drop (j*U.size un u)).take (U.size un u))=xs:=by rw[yBq,ziG,yBw,yBC,<-hlen,List.take_length]
 have:=DR.rw (un:=un) (D:=D) (w:=w) (us:=[]) (t:=sg (u:= .rw u) l) (vs:=[]) (λj=>(xs.drop (j*U.size un u)).take (U.size un u)) h .nil;change DR un D w [.rw u] (sg (u:= .rw u) l) [Wl.encV l.length (U.size un u) ((List.range l.length).flatMap (λj=>(xs.drop (j*U.size un u)).take (U.size un u)))] at this;rwa[hx] at this
theorem zaE:∀(vs cs:List Value)(off:Nat),(za0.spliceV cs off vs).length=cs.length|[],_,_=>rfl|v::vs,cs,off=>by rw[za0.spliceV,zaE vs];simp
theorem zaR{vs cs:List Value}{off:Nat}(h:off+vs.length<=cs.length)(k:Nat):(za0.spliceV cs off vs)[k]?=if off<=k/\k<off+vs.length then vs[k - off]? else cs[k]? :=by
 rw[zfn vs cs off h];have hl:(cs.take off).length=off:=by simp;omega
 by_cases h1:k<off;·rw[if_neg (by omega),yAX,yAi (by omega),yAr h1]
 ·by_cases h2:k<off+vs.length;·rw[if_pos (by omega),yAX,yAz (by omega),hl,yAi (by omega)]
  ·rw[if_neg (by omega),yAz (by rw[yAD,hl];omega),yAt,yAD,hl];congr 1;omega
theorem zhL(hun:UniOk un){nu:Nu}{u:U}{ps:List (PV S)}{z:El S u}{cs:List Value}(h:zfL un u ps=some z)(hr:RepL un nu D w ps cs):DR un D w [u] (sg z) cs:=by
 unfold zfL at h;split at h
 ·rename_i n;split at h;·rename_i t ht;cases h;have hd:=zg4 (un:=un) ht hr;rw[<-yAW cs];refine .st ?_ .nil;show DR un D w (un.codes n) (un.get n (un.put n t)) cs;rw[hun.get_put];exact hd
  ·cases h
 ·rename_i p _;cases cs with
  |nil=>simp[RepL] at hr|cons v cs =>
    cases cs with
    |nil=>simp only[RepL] at hr;exact (zff h hr.1).1|cons=>simp[RepL] at hr
 ·cases h
theorem zkr(hun:UniOk un){nu:Nu}{u:U}{l:List (El S u)}{xs:List Value}(hlen:xs.length=l.length*U.size un u)(h:ziu un D w u l xs){i off:Nat}{y z:El S u}(hy:l[i]?=some y){ps:List (PV S)}{vs:List Value}(hz:zfL un u (splice (zdB un u y) off ps)=some z)(hps:RepL un nu D w ps vs)(ho:off+vs.length<=U.size un u) :
  ziu un D w u (l.set i z) (za0.spliceV xs (i*U.size un u+off) vs):=by
 have hil:i<l.length:=(yAc.1 hy).1;have hpos:i*U.size un u+U.size un u<=xs.length:=by have h2:(i+1)*U.size un u<=l.length*U.size un u:=yAo _ hil;rw[yAv,yAM] at h2;omega
 intro j x hj;by_cases hij:i=j
 ·subst hij;rw[yAB hil] at hj;cases hj;have h1:=zb5 (nu:=nu) hun.flat (h i y hy);have h2:=h1.splice off hps;have h3:=zhL hun hz h2;have:((za0.spliceV xs (i*U.size un u+off) vs).drop (i*U.size un u)).take (U.size un u)=za0.spliceV ((xs.drop (i*U.size un u)).take (U.size un u)) off vs:=by
   apply yAK;intro k;have hseg:((xs.drop (i*U.size un u)).take (U.size un u)).length=U.size un u:=by simp;omega
   rw[zaR (by rw[hseg];exact ho),yAw];by_cases hk:k<U.size un u
   ·rw[if_pos hk,yAt,zaR (by omega),yAr hk,yAt];by_cases h5:off<=k/\k<off+vs.length;·rw[if_pos (by omega),if_pos h5];congr 1;omega
    ·rw[if_neg (by omega),if_neg h5]
   ·rw[if_neg hk,if_neg (by omega)];symm;rw[yBf];omega
  rw[this];exact h3
 ·rw[yAu hij] at hj;have hjl:j<l.length:=(yAc.1 hj).1;have:((za0.spliceV xs (i*U.size un u+off) vs).drop (j*U.size un u)).take (U.size un u)=(xs.drop (j*U.size un u)).take (U.size un u):=by
   apply yAK;intro k;rw[yAw,yAw];by_cases hk:k<U.size un u
   ·rw[if_pos hk,if_pos hk,yAt,yAt,zaR (by omega),if_neg];intro h5;rcases yBK hij with hlt|hgt
    ·have h6:(i+1)*U.size un u<=j*U.size un u:=yAo _ hlt;rw[yAv,yAM] at h6;omega
    ·have h6:(j+1)*U.size un u<=i*U.size un u:=yAo _ hgt;rw[yAv,yAM] at h6;omega
   ·rw[if_neg hk,if_neg hk]
  rw[this];exact h j x hj
theorem zbz(g:Nat)(T:TypeId)(fz:Nat×Nat):∀(vs cs:List Value)(off:Nat)(w:World),w.heap[g]?=some (.cells cs.toArray T fz) ->
  (w.setCells g off vs).heap[g]?=some (.cells (za0.spliceV cs off vs).toArray T fz)/\w.grownBy (w.setCells g off vs) (some g)
 |[],cs,off,w,h=>⟨h,World.grownBy.refl w _⟩|v::r,cs,off,w,h=>by
   have h1:(w.setCell ⟨g,off,none⟩ v).heap[g]?=some (.cells (cs.set off v).toArray T fz):=(by simp[World.setCell,yA4,h])
   have h2:w.grownBy (w.setCell ⟨g,off,none⟩ v) (some g) :=
    ⟨rfl,rfl,rfl,by simp[World.setCell],λk _ hne=>Below.heap_setCell w _ v k (λe=>hne (by rw[e]))⟩
   obtain ⟨i1,i2⟩:=zbz g T fz r (cs.set off v) (off+1) _ h1;refine ⟨i1,⟨i2.os.trans h2.os,i2.tape.trans h2.tape,i2.output.trans h2.output,yAG h2.size i2.size,λk hk hne=>(i2.block k (yAn hk h2.size) hne).trans (h2.block k hk hne)⟩⟩
theorem zdk{t:TypeId}{row:TyRow S}(hrow:RowOk P un t row){g off:Nat}{cur:Array Value}{T:TypeId}{fz:Nat×Nat}{v:Value}(hg:w.heap[g]?=some (.cells cur T fz))(hfz:fz.2<=fz.1\/cur.size<=fz.1)(hsz:v.cells.size=row.n)(hle:off+row.n<=cur.size)(h1:∀u∈v.cells.toList,u.oneCell'=true) :
  (Instr.storeAt t (.pointer (some ⟨g,off,none⟩)) v).run P w= .ok () (w.setCells g off v.cells.toList):=by
 have:=run_storeAt_mid (P:=P) w g off t v.cells (λj hj=>⟨by rw[cell_of_row w g _ _ _ _ hg];simp;omega,by simp only[World.frozen?,hg,Bool.and_eq_false_iff,decide_eq_false_iff_not];omega⟩) (by rw[hrow.size,hsz]) (by rw[Array.all_eq_true];intro i hi;exact h1 _ (by simp));rw[<-this];rfl
theorem ziZ(hun:UniOk un)(hs:St un E N D H e bx a w){u:U}{y z:El S u}{off n:Nat}{p:PV S}{v:Value}(h:zlz un bx u y off n p=some z)(hv:Rep un (ids H) D w p v):∃ps,RepL un (ids H) D w ps v.cells.toList/\v.cells.size=n/\off+n<=U.size un u/\(∀x∈v.cells.toList,x.oneCell'=true)/\zfL un u (splice (zdB un u y) off ps)=some z:=by unfold zlz at h;obtain ⟨h1,h2⟩:=zac h;simp only[yAd,yAP] at h1;obtain ⟨c1,c2⟩:=zfc hun.flat h1.1.1 (hs.fz hun hv);refine ⟨_,c1,?_,h1.2,c2,h2⟩;have:=c1.length;rw[yAa h1.1.2] at this;rw[this];simp
theorem znn(hun:UniOk un){t:TypeId}{row:TyRow S}(hrow:RowOk P un t row){b i off:Nat}{u:U}{T:TypeId}{l:List (El S u)}{y z:El S u}{p:PV S}{v x:Value}(hs:St un E N D H e bx a w)(hg:zae bx b=some (.wr u T l))(hx:Rep un (ids H) D w (.elr b u i off) x)(hv:Rep un (ids H) D w p v)
  (hy:l[i]?=some y) (hz:zlz un bx u y off row.n p=some z) {dst:Option Nat} (hd:∀d,dst=some d->d<N.n) :
  ∃w' H',(Instr.storeAt t x v).run P w= .ok () w'/\St un E N D H' (push dst zay e) (zau bx b (.wr u T (l.set i z))) (a.put dst undef) w'/\Ge D w D w':=by
 obtain ⟨ps,c1,c2,c3,c4,c5⟩:=ziZ hun hs hz hv;obtain ⟨r,hr1,hr2⟩:=hs.boxes.get hg;have hh:=hs.inn.res _ (yAb hr1);cases r with
 |wr v0 T' size n xs =>
   simp only[BoxRep] at hr2;obtain ⟨rfl,rfl,rfl,hel⟩:=hr2;simp only[Rep,ids,yAg,hr1,yAf,zaf,yAe,Prod.mk.injEq] at hx;obtain ⟨fl,g,n',c',⟨_,hvv⟩,rfl⟩:=hx;subst hvv;obtain ⟨⟨hlen,hh1⟩,hmay⟩:=hh;rcases hh1 with ⟨hn,_⟩|⟨g',cap,cur,hv',hb0,hgg,hnc,hcm,hcs,htk⟩;·cases hn
   ·cases hv';have hil:i<l.length:=(yAc.1 hy).1;have hpos:(i+1)*U.size un u<=l.length*U.size un u:=yAo _ hil;have hcap:l.length*U.size un u<=cur.size:=by rw[hcs];exact yAo _ hnc
    rw[yAv,yAM] at hpos;have hrun:=zdk hrow (v:=v) (off:=i*U.size un u+off) hgg (.inl (yAl _)) c2 (by omega) c4;obtain ⟨k1,k2⟩:=zbz g T' (0,0) v.cells.toList cur.toList (i*U.size un u+off) w (by simpa using hgg);have hvl:v.cells.toList.length=row.n:=by simpa using c2
    have hown:(w.setCells g (i*U.size un u+off) v.cells.toList).ownsRow 0 T' (U.size un u) (.slice (some ⟨g,0,none⟩) l.length c') l.length (za0.spliceV xs (i*U.size un u+off) v.cells.toList):=by
     refine ⟨by rw[zaE];exact hlen,.inr ⟨g,c',_,rfl,yAF _,k1,hnc,hcm,by simp[zaE,hcs],?_⟩⟩;apply yAK;intro k;rw[zaR (by rw[hvl,hlen];omega),yAw];by_cases hk:k<l.length*U.size un u
     ·rw[if_pos hk];show (za0.spliceV cur.toList (i*U.size un u+off) v.cells.toList)[k]?=_;rw[zaR (by rw[hvl];simp;omega)];split;·rfl
      ·rw[<-htk,yAr hk]
     ·rw[if_neg hk,if_neg (by rw[hvl];omega)];symm;rw[yBf];omega
    obtain ⟨hin,hge⟩:=zeq hs.inn hr1 hown k2 (.inl rfl);have hids:ids (H.set b (.wr (.slice (some ⟨g,0,none⟩) l.length c') T' (U.size un u) l.length (za0.spliceV xs (i*U.size un u+off) v.cells.toList)))=ids H:=zaq hr1 rfl;refine ⟨_,_,hrun,hs.step hin ?_ (λi q hi=>?_) hd ?_,hge⟩;·rw[hids];refine (hs.boxes.mono hge (zap hs.inn.out hin.out) λ_ _ h=>h).set ?_;simp only[BoxRep];refine ⟨trivial,trivial,by simp,λj x hj=>(zkr hun hlen hel hy c5 c1 (by rw[hvl];exact c3) j x hj).mono hge⟩
    ·rw[hids];exact (hs.slots i q hi).ge hge λ_ _ h=>h
    ·simp only[zay,Rep];exact ⟨[],rfl,by simp[RepL]⟩
 |_=>simp[BoxRep] at hr2
theorem zl1(hun:UniOk un){t:TypeId}{row:TyRow S}(hrow:RowOk P un t row){b i off:Nat}{u:U}{T:TypeId}{l:List (El S u)}{y z:El S u}{p:PV S}{v x:Value}(hs:St un E N D H e bx a w)(hg:zae bx b=some (.var T [.cont (.rw u) l]))(hx:Rep un (ids H) D w (.elr b u i off) x)(hv:Rep un (ids H) D w p v)
  (hy:l[i]?=some y) (hz:zlz un bx u y off row.n p=some z) {dst:Option Nat} (hd:∀d,dst=some d->d<N.n) :
  ∃w' H',(Instr.storeAt t x v).run P w= .ok () w'/\St un E N D H' (push dst zay e) (zau bx b (.var T [.cont (.rw u) (l.set i z)])) (a.put dst undef) w'/\Ge D w D w':=by
 obtain ⟨ps,c1,c2,c3,c4,c5⟩:=ziZ hun hs hz hv;obtain ⟨r,hr1,hr2⟩:=hs.boxes.get hg;have hh:=hs.inn.res _ (yAb hr1);simp only[Rep,ids,yAg,hr1,yAf,yAe] at hx;obtain ⟨fl,g,n',c',hid,rfl⟩:=hx;cases r with
 |box g T' vs=>simp[zaf] at hid|fix v0 g0 size ob =>
   simp only[BoxRep] at hr2;simp only[zaf,Prod.mk.injEq] at hid;obtain ⟨_,rfl⟩:=hid;have hcont:=zdU hr2;rcases hh.1 with ⟨_,_,_,he,_⟩|⟨g1,n,cap,cur,T1,fz,he,rfl,rfl,hnc,hcm,hcs,hfz⟩|⟨he,_⟩|⟨_,_,_,_,_,_,he,_⟩;·cases he
   ·cases he;simp only[Wl.fixV] at hcont;obtain ⟨rfl,rfl,hlen,hseg⟩:=zjQ hun.flat hcont;have hgg:=(hh.2 g rfl).2;have hil:i<l.length:=(yAc.1 hy).1;have hpos:(i+1)*U.size un u<=l.length*U.size un u:=yAo _ hil;have hcap:l.length*U.size un u<=cur.size:=by rw[hcs];exact yAo _ hnc
    rw[yAv,yAM] at hpos;have hrun:=zdk hrow (v:=v) (off:=i*U.size un u+off) hgg hfz c2 (by omega) c4;obtain ⟨k1,k2⟩:=zbz g T1 fz v.cells.toList cur.toList (i*U.size un u+off) w (by simpa using hgg);have hvl:v.cells.toList.length=row.n:=by simpa using c2
    have htk:(za0.spliceV cur.toList (i*U.size un u+off) v.cells.toList).take (l.length*U.size un u)=za0.spliceV (cur.toList.take (l.length*U.size un u)) (i*U.size un u+off) v.cells.toList:=by
     apply yAK;intro k;rw[zaR (by rw[hvl];simp;omega),yAw];by_cases hk:k<l.length*U.size un u;·rw[if_pos hk,zaR (by rw[hvl];simp;omega),yAr hk]
     ·rw[if_neg hk,if_neg (by rw[hvl];omega)];symm;rw[yAw,if_neg hk]
    have hmem:=yAb hr1;have hin:In E D (H.set b (.fix (.slice (some ⟨g,0,none⟩) l.length c') (some g) (U.size un u) (.cells (za0.spliceV cur.toList (i*U.size un u+off) v.cells.toList).toArray T1 fz))) (w.setCells g (i*U.size un u+off) v.cells.toList):=(by refine hs.inn.turn hr1 k2 ⟨.inr (.inl ⟨g,l.length,c',_,T1,fz,rfl,rfl,rfl,hnc,hcm,by simp[zaE,hcs],by simpa[zaE] using hfz⟩),λg0 hg0=>?_⟩ (λ_ hk=>.inl hk) (λk o hk=>.inl hk) (λk o hk=>yAn (hs.inn.lt k o hk) k2.size) (λg2 hg2 o _ hk=>hs.inn.apart _ hmem g2 hg2 o trivial hk) (λ_=>⟨rfl,rfl,.inr ⟨λ_ hg=>hg,by simp[zdT,zes,zaE]⟩⟩);cases hg0;exact ⟨(hh.2 g rfl).1,k1⟩);have hge:Ge D w D (w.setCells g (i*U.size un u+off) v.cells.toList):= .of (λ_ _ h=>h) λk o hk=>by refine k2.block k (hs.inn.lt k o hk) λh=>?_;simp at h;subst h;exact hs.inn.apart _ hmem k rfl o trivial hk
    have hids:ids (H.set b (.fix (.slice (some ⟨g,0,none⟩) l.length c') (some g) (U.size un u) (.cells (za0.spliceV cur.toList (i*U.size un u+off) v.cells.toList).toArray T1 fz)))=ids H:=zaq hr1 rfl;refine ⟨_,_,hrun,hs.step hin ?_ (λi q hi=>?_) hd ?_,hge⟩;·rw[hids];refine (hs.boxes.mono hge (zap hs.inn.out hin.out) λ_ _ h=>h).set ?_;simp only[BoxRep,RepL,Rep,and_true,Wl.fixV];have h7:=zkr hun hlen hseg hy c5 c1 (by rw[hvl];exact c3);have h8:=zl5 (l:=l.set i z) (by rw[zaE,List.length_set];exact hlen) h7;rw[List.length_set,<-htk] at h8;exact h8.mono hge
    ·rw[hids];exact (hs.slots i q hi).ge hge λ_ _ h=>h
    ·simp only[zay,Rep];exact ⟨[],rfl,by simp[RepL]⟩
   ·cases he
   ·cases he
 |_=>simp[BoxRep] at hr2
theorem ze5{nu:Nu}{u:U}{x:El S u}{v:Value}(h:Rep un nu D w (inj u x) v):DR un D w [u] (sg x) v.cells.toList:=by
 cases u with
 |st n=>simp only[inj,Rep] at h;obtain ⟨cs,rfl,h⟩:=h;simpa[Value.cells] using h
 |int k=>simp only[inj,Rep] at h;subst h;exact .int .nil|bool=>simp only[inj,Rep] at h;subst h;exact .bool .nil|str=>simp only[inj,Rep] at h;subst h;exact .str .nil|sl u=>simp only[inj,Rep] at h;have h':=h;cases h<;>exact h'
 |mp k v=>simp only[inj,Rep] at h;have h':=h;cases h;exact h'
 |rw u=>simp only[inj,Rep] at h;have h':=h;cases h;exact h'
 |fm k v=>simp only[inj,Rep] at h;have h':=h;cases h;exact h'
 |cs u=>simp only[inj,Rep] at h;have h':=h;cases h<;>exact h'
theorem In.pushWr(h:In E D H w){T:TypeId}{size n:Nat}{v:Value}{xs:List Value}(hb:Below w.heap.size w w')(hown:w'.ownsRow 0 T size v n xs)(hv:v.ownBlock=some w.heap.size):In E D (H++[.wr v T size n xs]) w' :=
 h.push hb ⟨hown,λg hg=>by rw[hv] at hg;cases hg;exact .inl h.out.size⟩ (λg hg=>by have h2:v.ownBlock=some g:=hg;rw[hv] at h2;cases h2;exact yAl _) (λk o hk=>.inl hk) (λk o hk=>yAn (h.lt k o hk) hb.size) (λg hg o _ hk=>by have h2:v.ownBlock=some g:=hg;rw[hv] at h2;cases h2;have:=h.lt _ o hk;omega)
theorem St.newWr(h:St un E N D H e bx a w){T:TypeId}{u:U}{l:List (El S u)}{v:Value}{xs:List Value}(hb:Below w.heap.size w w')(hown:w'.ownsRow 0 T (U.size un u) v l.length xs)(hv:v.ownBlock=some w.heap.size)(hl:ziu un D w u l xs){dst:Option Nat}(hd:∀d,dst=some d->d<N.n) :
  ∃H',St un E N D H' (push dst (.row bx.length) e) (bx++[.wr u T l]) (a.put dst v) w'/\Ge D w D w':=by
 have hin:=h.inn.pushWr hb hown hv;have hge:Ge D w D w':=Ge.same h.inn hb;refine ⟨_,h.step hin ?_ (λi q hi=>(h.slots i q hi).ge hge (zbe H _)) hd ?_,hge⟩;·refine (h.boxes.mono hge (zap h.inn.out hin.out) (zbe H _)).push ?_;simp only[BoxRep];exact ⟨trivial,trivial,trivial,λi x hi=>(hl i x hi).mono hge⟩
 ·simp only[Rep];refine ⟨?_,zeu hown⟩;rw[h.boxes.length,zcQ];rfl
theorem zlP(hun:UniOk un){T:TypeId}{u:U}{t:TypeId}(hu:P.underlying t=some (.slice T))(hT:ElOk P un T u){n:Nat}{parts:List (Nat×Operand)}{l:List (Nat×PV S)}{xs:List (El S u)}(hs:St un E N D H e bx a w)(hp:zct e parts=some l)(ho:zd1 0 l=true)(hln:l.length=n)(hlim:n*U.size un u<=16777216)
  (hx:zd4 un bx u (l.map (·.2))=some xs) {dst:Option Nat} (hd:∀d,dst=some d->d<N.n) :
  ∃v' w' H',(Instr.buildSlice t n (parts.map λp=>(p.1,a.eval p.2)).toArray).run P w= .ok v' w'/\St un E N D H' (push dst (.row bx.length) e) (bx++[.wr u T xs]) (a.put dst v') w'/\Ge D w D w':=by
 obtain ⟨hr,hm⟩:=(hs.parts hp).split;obtain ⟨g1,g2,g3⟩:=zeI hun hs hx hr;have hpl:(parts.map λp=>(p.1,a.eval p.2)).length=n:=by have:=congrArg List.length hm;simpa[hln] using this
 have hrun:=zen (P:=P) (un:=un) hu hT ho hm hpl (λp hp=>g2 _ (yBd.2 ⟨p,hp,rfl⟩)) hlim w;obtain ⟨j,z,e1,e2,e3,e4,e5,e6⟩:=hT.info;have hxn:xs.length=n:=by rw[g1];simpa using hpl
 have hfl:(((parts.map λp=>(p.1,a.eval p.2)).map (·.2)).map (·.cells.toList)).flatten.length=n*U.size un u:=by rw[zeE _ g2];congr 1;simpa using hpl
 have hb:Below w.heap.size w (w.alloc (.cells (((parts.map λp=>(p.1,a.eval p.2)).map (·.2)).map (·.cells.toList)).flatten.toArray T)):=(Below.refl _ _).alloc (yAl _) _;have hnm:n<=maxLen:=by have:n*1<=n*U.size un u:=Nat.mul_le_mul_left _ e5;unfold maxLen;omega
 have hown:(w.alloc (.cells (((parts.map λp=>(p.1,a.eval p.2)).map (·.2)).map (·.cells.toList)).flatten.toArray T)).ownsRow 0 T (U.size un u) (.slice (some ⟨w.heap.size,0,none⟩) n n) xs.length (((parts.map λp=>(p.1,a.eval p.2)).map (·.2)).map (·.cells.toList)).flatten:=by rw[hxn];refine ⟨hfl,.inr ⟨w.heap.size,n,_,rfl,yAF _,heap_alloc_new w _,yAl _,hnm,by simpa using hfl,?_⟩⟩;rw[yBj (by simpa using Nat.le_of_eq hfl)]
 obtain ⟨H',k1,k2⟩:=hs.newWr hb hown rfl g3 hd;exact ⟨_,_,H',hrun,k1,k2⟩
theorem zgK{u:U}{z:El S u}{zs:Array Value}(hz:DR un D w [u] (sg z) zs.toList)(hs:zs.size=U.size un u)(n:Nat):ziu un D w u (List.replicate n z) (madeCells zs (n*U.size un u)).toList:=by
 intro i x hi;have hil:i<n:=by have:=(yAc.1 hi).1;simpa using this
 have hx:x=z:=by rw[yBI,if_pos hil] at hi;cases hi;rfl
 subst hx;have hpos:(i+1)*U.size un u<=n*U.size un u:=yAo _ hil;rw[yAv,yAM] at hpos;have:((madeCells zs (n*U.size un u)).toList.drop (i*U.size un u)).take (U.size un u)=zs.toList:=by
  apply yAK;intro k;rw[yAw];by_cases hk:k<U.size un u
  ·rw[if_pos hk,yAt];have hmod:(i*U.size un u+k) % U.size un u=k:=by rw[Nat.mul_comm,Nat.mul_add_mod];exact Nat.mod_eq_of_lt hk
   have hlt:i*U.size un u+k<n*U.size un u:=(by omega);simp[madeCells,hlt,hs,hmod,hk]
  ·rw[if_neg hk];symm;rw[yBf];simp[hs];omega
 rw[this];exact hz
theorem zno{T T0:TypeId}{u:U}{t:TypeId}(hu:P.underlying t=some (.slice T0))(hT:ElOk P un T0 u){b j:Nat}{l:List (El S u)}{v:Value}{lo hi:Option Value}(hs:St un E N D H e bx a w)(hg:zae bx b=some (.wr u T l))(hv:Rep un (ids H) D w (.row b) v)(hj:j<=l.length)
  (hlo:lo=none\/∃k,lo=some (.int k 0)) (hhi:(hi=none/\j=l.length)\/∃k,hi=some (.int k (j:Int))) {dst:Option Nat} (hd:∀d,dst=some d->d<N.n) :
  ∃v' H',(Instr.sliceAt t v lo hi none).run P w= .ok v' w/\St un E N D H' (push dst (.row b) (zcW b .junk e)) (zau (bx.map (Box.kill b .junk)) b (.wr u T (l.take j))) (a.put dst v') w/\Ge D w D w:=by
 obtain ⟨jn,z,g1,g2,g3,g4,g5,g6⟩:=hT.info;obtain ⟨r,hr1,hr2⟩:=hs.boxes.get hg;have hh:=hs.inn.res _ (yAb hr1);cases r with
 |wr v0 T' size n xs =>
   simp only[BoxRep] at hr2;obtain ⟨rfl,rfl,rfl,hel⟩:=hr2;have hv0:v0=v:=by simp only[Rep,ids,yAg,hr1,yAf,zaf,yAe,Prod.mk.injEq,true_and] at hv;exact hv.1
   subst hv0;obtain ⟨A,c,hvv,hlc⟩:∃A c,v0= .slice A l.length c/\l.length<=c:=by
    rcases hh.1.2 with ⟨rfl,h0⟩|⟨g,cap,cur,rfl,_,_,h,_⟩;·exact ⟨none,0,by rw[h0],by omega⟩
    ·exact ⟨_,_,rfl,h⟩
   have hrun:(Instr.sliceAt t v0 lo hi none).run P w= .ok (.slice A j c) w:=by
    subst hvv;have h3:j<=c:=yAG hj hlc;have hA:Option.map (λx:Addr=>x.add 0) A=A:=by
     cases A with
     |none=>rfl|some ad=>simp[Addr.add]
    rcases hlo with rfl|⟨k,rfl⟩<;>rcases hhi with ⟨rfl,rfl⟩|⟨k',rfl⟩
    all_goals (simp[Instr.sliceAt,run_underlying hu,Instr.slice,Instr.sliceBounds,Instr.sliceBound,asIntOf,Go.sizeOf,typeInfo,g1,h3];try exact λ_=>hA)
   have hown:w.ownsRow 0 T' (U.size un u) (.slice A j c) j (xs.take (j*U.size un u)):=by
    have hle:j*U.size un u<=l.length*U.size un u:=yAo _ hj;refine ⟨by rw[yAS,hh.1.1];omega,?_⟩;rcases hh.1.2 with ⟨h1,h0⟩|⟨g,cap,cur,h1,h2,h3,h4,h5,h6,h7⟩
    ·rw[hvv] at h1;simp only[Value.slice.injEq] at h1;obtain ⟨rfl,hl0,rfl⟩:=h1;exact .inl ⟨by rw[show j=0 by omega],by omega⟩
    ·rw[hvv] at h1;cases h1;exact .inr ⟨g,c,cur,rfl,h2,h3,yAG hj h4,h5,h6,by rw[<-h7,List.take_take,yBx hle]⟩
   have hbl:(Value.slice A j c).ownBlock=v0.ownBlock:=(by rw[hvv];cases A<;>rfl);obtain ⟨hin,hge⟩:=zeq hs.inn hr1 hown (World.grownBy.refl w _) (.inl hbl);have hn:=zfF (H:=H) (r':= .wr (.slice A j c) T' (U.size un u) j (xs.take (j*U.size un u))) hr1 rfl;have hnb:(ids H)[b]?=some (false,v0):=by simp[ids,hr1,zaf]
   have hy:Rep un (ids (H.set b (.wr (.slice A j c) T' (U.size un u) j (xs.take (j*U.size un u))))) D w .junk v0:=(by simp only[Rep]);have hbl:b<H.length:=(yAc.1 hr1).1;refine ⟨_,_,hrun,hs.step hin ?_ (λi q hi=>?_) hd ?_,hge⟩
   ·refine (zbg hge (λ_ _ _=>rfl) hnb hy hn hs.boxes).set ?_;simp only[BoxRep];refine ⟨trivial,trivial,by simp;omega,λi x hi=>?_⟩;have hij:i<j:=by have:=(yAc.1 hi).1;simp at this;omega
    rw[yAr hij] at hi;have:=hel i x hi;have hle:(i+1)*U.size un u<=j*U.size un u:=yAo _ hij;rw[yAv,yAM] at hle;rw[List.drop_take,List.take_take,yBx (by omega)];exact this
   ·rw[za7] at hi;cases hl:zan e i with
    |none=>rw[hl] at hi;cases hi|some p0 =>rw[hl] at hi;simp only[yAf,yAe] at hi;subst hi;exact zci hge hnb hy hn (hs.slots i p0 hl)
   ·simp only[Rep];refine ⟨?_,zeu hown⟩;simp[ids,hbl,zaf]
 |_=>simp[BoxRep] at hr2
end
end Pe
end
section
/- Calls to which rows and maps are handed over. -/
namespace Pe
open Go Go.RowKit
variable{S:Nat->Type}
section
variable{P:Program}{un:Uni S}{tb:Tb S}{orc:Orc S}{inl:Inl S}{E E':Wl.Ctx}{D0:Dat}{N:Wl.Fr}{D D':Dat}{H:List Wl.Res}{e:Env S}{bx:Bxs S}{a:Act}{w w':World}{o:Oper}{R:Type}{r:R}
theorem In.forget(h:In E D H w){b:Nat}{r:Wl.Res}(hb:H[b]?=some r)(hr:zaH r=false):In E D (H.set b (.ref (zaf r))) w :=
 h.turn hb (World.grownBy.refl w _) trivial (λg hg=>by cases hg) (λk o hk=>.inl hk) h.lt (λg hg=>by cases hg) (λhe=>by rw[hr] at he;cases he)
theorem zlX:∀(tk:List (Nat×PV S)){H:List Wl.Res}{bx:Bxs S}{e:Env S},St un E N D H e bx a w->(∀p∈tk,∃r v,H[p.1]?=some r/\zaH r=false/\zaf r=(false,v)/\Rep un (ids H) D w p.2 v) ->
  ∃Hc,St un E N D Hc (ziz tk e) (zdQ tk bx) a w/\ids Hc=ids H/\Hc.length=H.length/\∀i r,H[i]?=some r->(i∉tk.map (·.1)->Hc[i]?=some r)/\(i∈tk.map (·.1)->∃id,Hc[i]?=some (.ref id))
 |[],H,bx,e,hs,_=>⟨H,by simpa only[ziz,zdQ] using hs,rfl,rfl,λi r h=>⟨λ_=>h,λhm=>by simp at hm⟩⟩|(b,y)::tk,H,bx,e,hs,h=>by
   obtain ⟨r,v,h1,h2,h3,h4⟩:=h (b,y) (by simp);have hin:=hs.inn.forget h1 h2;have hids:ids (H.set b (.ref (zaf r)))=ids H:=zaq h1 rfl;have hb:(ids H)[b]?=some (false,v):=by simp[ids,h1,h3]
   have hst:St un E N D (H.set b (.ref (zaf r))) (zcW b y e) (zau (bx.map (Box.kill b y)) b .gone) a w:=by
    refine ⟨hin,hs.size,hs.defers,?_,λi q hi=>?_⟩;·rw[hids];exact (zbg (Ge.refl _ _) (λ_ _ _=>rfl) hb h4 (λi x hx=>.inl hx) hs.boxes).set (by simp only[BoxRep])
    ·rw[hids];rw[za7] at hi;cases hl:zan e i with
     |none=>rw[hl] at hi;cases hi|some p0 =>rw[hl] at hi;simp only[yAf,yAe] at hi;subst hi;exact zci (Ge.refl _ _) hb h4 (λi x hx=>.inl hx) (hs.slots i p0 hl)
   have hbl:b<H.length:=(yAc.1 h1).1;obtain ⟨Hc,g1,g2,g3,g4⟩:=zlX tk hst (λp hp=>by
    obtain ⟨r',v',k1,k2,k3,k4⟩:=h p (by simp[hp]);by_cases hpb:b=p.1;·rw[<-hpb] at k1 ⊢;rw[h1] at k1;cases k1;exact ⟨_,v',yAB hbl,rfl,by simpa only[zaf] using k3,by rw[hids];exact k4⟩
    ·exact ⟨r',v',by rw[yAu hpb];exact k1,k2,k3,by rw[hids];exact k4⟩)
   refine ⟨Hc,by simpa only[ziz,zdQ] using g1,g2.trans hids,by simpa using g3,λi r' hi=>?_⟩;by_cases hib:b=i
   ·subst hib;refine ⟨λhm=>by simp at hm,λ_=>?_⟩;obtain ⟨k1,k2⟩:=g4 b _ (yAB hbl);by_cases hm:b∈tk.map (·.1);·exact k2 hm
    ·exact ⟨_,k1 hm⟩
   ·obtain ⟨k1,k2⟩:=g4 i r' (by rw[yAu hib];exact hi);refine ⟨λhm=>k1 λh'=>hm (by simp[h']),λhm=>k2 ?_⟩;simp only[yAk,yAp] at hm;exact hm.resolve_left λh'=>hib h'.symm
theorem PresB.gone{bx:Bxs S}{b:Nat}(hb:∃x,zae bx b=some x/\zdw x=true):PresB bx (zau bx b .gone):=by
 obtain ⟨x,h1,h2⟩:=hb;refine PresB.set h1 ?_ λT cs he=>?_;·cases x<;>simp[zdw] at h2<;>rfl
 ·subst he;simp[zdw] at h2
theorem zlE{b:Nat}{y:PV S}{x:Box S}(h:zdw x=true):x.kill b y=x:=by cases x<;>simp[zdw] at h<;>rfl
theorem Pres.take:∀(tk:List (Nat×PV S))(e:Env S),Pres [] e (ziz tk e)|[],e=>Pres.refl _ e|(b,y)::tk,e=>by simp only[ziz];exact (Pres.kill b y e).trans (Pres.take tk _)
theorem PresB.take:∀(tk:List (Nat×PV S))(bx:Bxs S),(tk.map (·.1)).Nodup->(∀b∈tk.map (·.1),∃x,zae bx b=some x/\zdw x=true)->PresB bx (zdQ tk bx)|[],bx,_,_=>PresB.refl bx|(b,y)::tk,bx,hn,h=>by simp only[zdQ];simp only[yAk,yAU] at hn;have hmap:∀b',(∃x,zae bx b'=some x/\zdw x=true)->∃x,zae (bx.map (Box.kill b y)) b'=some x/\zdw x=true:=λb' ⟨x,h1,h2⟩=>⟨x,by rw[za5,h1];simp[zlE h2],h2⟩;refine ((PresB.kill b y bx).trans (PresB.gone (hmap b (h b (by simp))))).trans (PresB.take tk _ hn.2 λb' hb'=>?_);have hne:b'≠b:=λhe=>hn.1 (he▸hb');obtain ⟨x,k1,k2⟩:=hmap b' (h b' (by simp[hb']));exact ⟨x,by rw[zai hne];exact k1,k2⟩
theorem PresB.freeze:∀(l:List Nat)(bx:Bxs S),PresB bx (zak l bx)
 |[],bx=>PresB.refl bx|b::l,bx=>by
   simp only[zak];refine PresB.trans ?_ (PresB.freeze l _);split;·rename_i u T x hg;exact PresB.set hg rfl λT cs he=>by cases he
   ·rename_i u T T2 x hg;exact PresB.set hg rfl λT cs he=>by cases he
   ·rename_i k0 v0 x hg;exact PresB.set hg rfl λT cs he=>by cases he
   ·exact PresB.refl bx
theorem zaX:∀(l:List Nat){bx:Bxs S}{i:Nat}{x:Box S},zae bx i=some x->(∀u T l,x≠ .wr u T l)->(∀u T T2 l h,x≠ .nst u T T2 l h)->(∀k v l,x≠ .omp k v l)->zae (zak l bx) i=some x
 |[],_,_,_,h,_,_,_=>h|b::l,bx,i,x,h,hn,hn2,hn3=>by
   simp only[zak];refine zaX l ?_ hn hn2 hn3;split
   ·rename_i u T y hg;by_cases hib:i=b;·subst hib;rw[h] at hg;cases hg;exact absurd rfl (hn _ _ _)
    ·rw[zai hib];exact h
   ·rename_i u T T2 y hg;by_cases hib:i=b;·subst hib;rw[h] at hg;cases hg;exact absurd rfl (hn2 _ _ _ _ _)
    ·rw[zai hib];exact h
   ·rename_i k0 v0 y hg;by_cases hib:i=b;·subst hib;rw[h] at hg;cases hg;exact absurd rfl (hn3 _ _ _)
    ·rw[zai hib];exact h
   ·exact h
theorem zcy{ks:List Nat}:∀{l:List (Nat×List CTy)}{qs:List (PV S)},zcH bx l=some qs->zcH (zak ks bx) l=some qs
 |[],qs,h=>h|(i,ts)::l,qs,h=>by
   unfold zcH at h ⊢;split at h;·rename_i T cs ps h1 h2;rw[zaX ks h1 (by intros;simp) (by intros;simp) (by intros;simp),zcy h2];exact h
   ·cases h
theorem zfh{ks:List Nat}:∀{ls:List Nat}{bs:List (Bool×TypeId×List CTy)},zcw bx ls bs=true->zcw (zak ks bx) ls bs=true
 |[],[],h=>h|b::ls,(fl,T,l)::bs,h=>by
   unfold zcw at h ⊢;simp only[yAd] at h ⊢;refine ⟨?_,zfh h.2⟩;cases hg:zae bx b with
   |none=>rw[hg] at h;simp at h|some x =>
     rw[hg] at h;cases x with
     |var T' cs=>rw[zaX ks hg (by intros;simp) (by intros;simp) (by intros;simp)];exact h.1|_=>simp at h
 |[],_::_,h=>by simp[zcw] at h
 |_::_,[],h=>by simp[zcw] at h
theorem zfN:∀{ls:List Nat}{bs:List (Bool×TypeId×List CTy)},zcw bx ls bs=true->ls.length=bs.length/\∀(k b:Nat)(fl:Bool)(T:TypeId)(l:List CTy),ls[k]?=some b->bs[k]?=some (fl,T,l)->∃cs,zae bx b=some (.var T cs)
 |[],[],_=>⟨rfl,λk b fl T l h=>by simp at h⟩|b::ls,(fl,T,l)::bs,h=>by
   unfold zcw at h;simp only[yAd] at h;obtain ⟨h1,h2⟩:=zfN h.2;refine ⟨by simp[h1],λk b' fl' T' l' hk hk'=>?_⟩;cases k with
   |zero =>
     simp at hk hk';obtain ⟨rfl,rfl,rfl⟩:=hk';subst hk;cases hg:zae bx b with
     |none=>rw[hg] at h;simp at h|some x =>
       rw[hg] at h;cases x with
       |var T' cs=>simp only[yAd] at h;rw[yAa h.1.1];exact ⟨cs,rfl⟩|_=>simp at h
   |succ k=>exact h2 k b' fl' T' l' (by simpa using hk) (by simpa using hk')
 |[],_::_,h=>by simp[zcw] at h
 |_::_,[],h=>by simp[zcw] at h
def zbu(nu:Nu)(ls:List Nat):List Arg->List Value->List Value->Prop|[],[],[]=>True| .one _::as,v::vs,c::cs=>c=v/\zbu nu ls as vs cs| .agg ts::as,v::vs,cs=>∃l r,cs=l++r/\v= .agg l.toArray/\l.length=ts.length/\zbu nu ls as vs r| .ref k::as,v::vs,cs=>(∃b,ls[k]?=some b/\nu[b]?=some (true,v))/\zdE v=true/\zbu nu ls as vs cs| .ptr k off::as,v::vs,cs=>(∃b g,ls[k]?=some b/\nu[b]?=some (true,.pointer (some ⟨g,0,none⟩))/\v= .pointer (some ⟨g,off,none⟩))/\zbu nu ls as vs cs| .fn f::as,v::vs,cs=>v= .func (.func f) #[] #[]/\zbu nu ls as vs cs| .nil::as,v::vs,cs=>v= .slice none 0 0/\zbu nu ls as vs cs| .agr ts k::as,v::vs,cs=>∃l r x,cs=l++r/\v= .agg (l++[x]).toArray/\l.length=ts.length/\(∃b,ls[k]?=some b/\nu[b]?=some (true,x))/\zdE x=true/\zbu nu ls as vs r|_,_,_=>False
theorem zbc{nu:Nu}{ls:List Nat}:∀{as:List Arg}{l ps:List (PV S)}{vs:List Value},zab ls as l=some ps->RepL un nu D w l vs->∃cs,RepL un nu D w ps cs/\zbu nu ls as vs cs
 |[],[],ps,vs,h,hr=>by simp[zab] at h;subst h;cases vs<;>simp_all [RepL];exact ⟨[],by simp[RepL],by simp[zbu]⟩
 | .one c::as,p::l,ps,v::vs,h,hr=>by
   simp only[RepL] at hr;unfold zab at h;split at h;·rename_i l' h1;cases h;obtain ⟨cs,g1,g2⟩:=zbc h1 hr.2;exact ⟨v::cs,by simp only[RepL];exact ⟨hr.1,g1⟩,by simp only[zbu];exact ⟨trivial,g2⟩⟩
   ·cases h
 | .agg ts::as,.agg q::l,ps,v::vs,h,hr=>by
   simp only[RepL,Rep] at hr;unfold zab at h;split at h;·rename_i l' h1;obtain ⟨h2,h3⟩:=zac h;cases h3;obtain ⟨⟨c0,rfl,hc⟩,hr2⟩:=hr;obtain ⟨cs,g1,g2⟩:=zbc h1 hr2;exact ⟨c0++cs,hc.append g1,by simp only[zbu];exact ⟨c0,cs,rfl,rfl,by rw[<-hc.length];exact yAa h2,g2⟩⟩
   ·cases h
 | .ref k::as,.ref b::l,ps,v::vs,h,hr=>by
   simp only[RepL,Rep] at hr;unfold zab at h;obtain ⟨h1,h2⟩:=zac h;obtain ⟨cs,g1,g2⟩:=zbc h2 hr.2;refine ⟨cs,g1,?_⟩;simp only[zbu];cases hk:ls[k]? with
   |none=>rw[hk] at h1;cases h1|some b' =>rw[hk] at h1;have:=yAa h1;subst this;exact ⟨⟨b,rfl,hr.1.1⟩,hr.1.2,g2⟩
 | .ptr k off::as,.ptr b off'::l,ps,v::vs,h,hr=>by
   simp only[RepL,Rep] at hr;unfold zab at h;obtain ⟨h1,h2⟩:=zac h;simp only[yAd] at h1;obtain ⟨cs,g1,g2⟩:=zbc h2 hr.2;refine ⟨cs,g1,?_⟩;simp only[zbu];have ho:=yAa h1.2;subst ho;cases hk:ls[k]? with
   |none=>rw[hk] at h1;cases h1.1|some b' =>rw[hk] at h1;have:=yAa h1.1;subst this;obtain ⟨⟨g,e1,e2⟩,_⟩:=hr;exact ⟨⟨b,g,rfl,e1,e2⟩,g2⟩
 | .fn f::as,.func (.func f') [] []::l,ps,v::vs,h,hr=>by simp only[RepL,Rep] at hr;unfold zab at h;obtain ⟨h1,h2⟩:=zac h;obtain ⟨cs,g1,g2⟩:=zbc h2 hr.2;refine ⟨cs,g1,?_⟩;simp only[zbu];have:=yAa h1;subst this;refine ⟨?_,g2⟩;obtain ⟨⟨a,b,ha,hb,hc⟩,_⟩:=hr;cases a<;>cases b<;>simp_all [RepL]
 | .nil::as,.nils::l,ps,v::vs,h,hr=>by simp only[RepL,Rep] at hr;unfold zab at h;obtain ⟨cs,g1,g2⟩:=zbc h hr.2;exact ⟨cs,g1,by simp only[zbu];exact ⟨hr.1,g2⟩⟩
 | .agr ts k::as,.agg q::l,ps,v::vs,h,hr=>by
   simp only[RepL,Rep] at hr;unfold zab at h;split at h
   ·rename_i b l' hb h1;obtain ⟨h2,h3⟩:=zac h;cases h3;simp only[yAd] at h2;obtain ⟨⟨c0,rfl,hc⟩,hr2⟩:=hr;obtain ⟨cs,g1,g2⟩:=zbc h1 hr2;have hln:=yAa h2.2;have hcl:=hc.length;obtain ⟨x,hx,hrx⟩:=hc.get ts.length _ hb;simp only[Rep] at hrx;have hlt:(c0.take ts.length).length=ts.length:=by rw[yAS];omega
    refine ⟨c0.take ts.length++cs,(hc.take _).append g1,?_⟩;simp only[zbu];refine ⟨c0.take ts.length,cs,x,rfl,?_,hlt,?_,hrx.2,g2⟩
    ·congr 1;have:c0=c0.take ts.length++c0.drop ts.length:=(List.take_append_drop _ _).symm;have hd:c0.drop ts.length=[x]:=by
      have hl2:ts.length<c0.length:=(by omega);rw[yBe hl2,(yAc.1 hx).2,yB9 (by omega)]
     rw[<-hd];rw[<-this]
    ·cases hk:ls[k]? with
     |none=>rw[hk] at h2;cases h2.1|some b' =>rw[hk] at h2;have:=yAa h2.1;subst this;exact ⟨b,rfl,hrx.1⟩
   ·cases h
 | .agr _ _::_,[],_,_,h,_=>by simp[zab] at h
 | .agr _ _::_,.int _ _::_,_,_,h,_=>by simp[zab] at h
 | .agr _ _::_,.bool _::_,_,_,h,_=>by simp[zab] at h
 | .agr _ _::_,.str _::_,_,_,h,_=>by simp[zab] at h
 | .agr _ _::_,.sl _ _::_,_,_,h,_=>by simp[zab] at h
 | .agr _ _::_,.nils::_,_,_,h,_=>by simp[zab] at h
 | .agr _ _::_,.st _ _::_,_,_,h,_=>by simp[zab] at h
 | .agr _ _::_,.tup _::_,_,_,h,_=>by simp[zab] at h
 | .agr _ _::_,.elp _ _ _::_,_,_,h,_=>by simp[zab] at h
 | .agr _ _::_,.ptr _ _::_,_,_,h,_=>by simp[zab] at h
 | .agr _ _::_,.nilp::_,_,_,h,_=>by simp[zab] at h
 | .agr _ _::_,.row _::_,_,_,h,_=>by simp[zab] at h
 | .agr _ _::_,.ref _::_,_,_,h,_=>by simp[zab] at h
 | .agr _ _::_,.elr _ _ _ _::_,_,_,h,_=>by simp[zab] at h
 | .agr _ _::_,.cont _ _::_,_,_,h,_=>by simp[zab] at h
 | .agr _ _::_,.func _ _ _::_,_,_,h,_=>by simp[zab] at h
 | .agr _ _::_,.nilFunc::_,_,_,h,_=>by simp[zab] at h
 | .agr _ _::_,.iface _ _::_,_,_,h,_=>by simp[zab] at h
 | .agr _ _::_,.nilIface::_,_,_,h,_=>by simp[zab] at h
 | .agr _ _::_,.junk::_,_,_,h,_=>by simp[zab] at h
 | .agr _ _::_,.bref _ _::_,_,_,h,_=>by simp[zab] at h
 | .agr _ _::_,.rsl _ _ _::_,_,_,h,_=>by simp[zab] at h
 |[],_::_,_,_,h,_=>by simp[zab] at h
 | .nil::_,[],_,_,h,_=>by simp[zab] at h
 | .fn _::_,[],_,_,h,_=>by simp[zab] at h
 | .one _::_,[],_,_,h,_=>by simp[zab] at h
 | .agg _::_,[],_,_,h,_=>by simp[zab] at h
 | .ref _::_,[],_,_,h,_=>by simp[zab] at h
 | .ptr _ _::_,[],_,_,h,_=>by simp[zab] at h
 |_::_,_::_,_,[],_,hr=>by simp[RepL] at hr
 | .agg _::_,.int _ _::_,_,_,h,_=>by simp[zab] at h
 | .agg _::_,.bool _::_,_,_,h,_=>by simp[zab] at h
 | .agg _::_,.str _::_,_,_,h,_=>by simp[zab] at h
 | .agg _::_,.sl _ _::_,_,_,h,_=>by simp[zab] at h
 | .agg _::_,.nils::_,_,_,h,_=>by simp[zab] at h
 | .agg _::_,.st _ _::_,_,_,h,_=>by simp[zab] at h
 | .agg _::_,.tup _::_,_,_,h,_=>by simp[zab] at h
 | .agg _::_,.elp _ _ _::_,_,_,h,_=>by simp[zab] at h
 | .agg _::_,.ptr _ _::_,_,_,h,_=>by simp[zab] at h
 | .agg _::_,.nilp::_,_,_,h,_=>by simp[zab] at h
 | .agg _::_,.row _::_,_,_,h,_=>by simp[zab] at h
 | .agg _::_,.ref _::_,_,_,h,_=>by simp[zab] at h
 | .agg _::_,.elr _ _ _ _::_,_,_,h,_=>by simp[zab] at h
 | .agg _::_,.cont _ _::_,_,_,h,_=>by simp[zab] at h
 | .agg _::_,.func _ _ _::_,_,_,h,_=>by simp[zab] at h
 | .agg _::_,.nilFunc::_,_,_,h,_=>by simp[zab] at h
 | .agg _::_,.iface _ _::_,_,_,h,_=>by simp[zab] at h
 | .agg _::_,.nilIface::_,_,_,h,_=>by simp[zab] at h
 | .agg _::_,.junk::_,_,_,h,_=>by simp[zab] at h
 | .agg _::_,.bref _ _::_,_,_,h,_=>by simp[zab] at h
 | .agg _::_,.rsl _ _ _::_,_,_,h,_=>by simp[zab] at h
 | .ref _::_,.int _ _::_,_,_,h,_=>by simp[zab] at h
 | .ref _::_,.bool _::_,_,_,h,_=>by simp[zab] at h
 | .ref _::_,.str _::_,_,_,h,_=>by simp[zab] at h
 | .ref _::_,.sl _ _::_,_,_,h,_=>by simp[zab] at h
 | .ref _::_,.nils::_,_,_,h,_=>by simp[zab] at h
 | .ref _::_,.st _ _::_,_,_,h,_=>by simp[zab] at h
 | .ref _::_,.agg _::_,_,_,h,_=>by simp[zab] at h
 | .ref _::_,.tup _::_,_,_,h,_=>by simp[zab] at h
 | .ref _::_,.elp _ _ _::_,_,_,h,_=>by simp[zab] at h
 | .ref _::_,.ptr _ _::_,_,_,h,_=>by simp[zab] at h
 | .ref _::_,.nilp::_,_,_,h,_=>by simp[zab] at h
 | .ref _::_,.row _::_,_,_,h,_=>by simp[zab] at h
 | .ref _::_,.elr _ _ _ _::_,_,_,h,_=>by simp[zab] at h
 | .ref _::_,.cont _ _::_,_,_,h,_=>by simp[zab] at h
 | .ref _::_,.func _ _ _::_,_,_,h,_=>by simp[zab] at h
 | .ref _::_,.nilFunc::_,_,_,h,_=>by simp[zab] at h
 | .ref _::_,.iface _ _::_,_,_,h,_=>by simp[zab] at h
 | .ref _::_,.nilIface::_,_,_,h,_=>by simp[zab] at h
 | .ref _::_,.junk::_,_,_,h,_=>by simp[zab] at h
 | .ref _::_,.bref _ _::_,_,_,h,_=>by simp[zab] at h
 | .ref _::_,.rsl _ _ _::_,_,_,h,_=>by simp[zab] at h
 | .ptr _ _::_,.int _ _::_,_,_,h,_=>by simp[zab] at h
 | .ptr _ _::_,.bool _::_,_,_,h,_=>by simp[zab] at h
 | .ptr _ _::_,.str _::_,_,_,h,_=>by simp[zab] at h
 | .ptr _ _::_,.sl _ _::_,_,_,h,_=>by simp[zab] at h
 | .ptr _ _::_,.nils::_,_,_,h,_=>by simp[zab] at h
 | .ptr _ _::_,.st _ _::_,_,_,h,_=>by simp[zab] at h
 | .ptr _ _::_,.agg _::_,_,_,h,_=>by simp[zab] at h
 | .ptr _ _::_,.tup _::_,_,_,h,_=>by simp[zab] at h
 | .ptr _ _::_,.elp _ _ _::_,_,_,h,_=>by simp[zab] at h
 | .ptr _ _::_,.ref _::_,_,_,h,_=>by simp[zab] at h
 | .ptr _ _::_,.nilp::_,_,_,h,_=>by simp[zab] at h
 | .ptr _ _::_,.row _::_,_,_,h,_=>by simp[zab] at h
 | .ptr _ _::_,.elr _ _ _ _::_,_,_,h,_=>by simp[zab] at h
 | .ptr _ _::_,.cont _ _::_,_,_,h,_=>by simp[zab] at h
 | .ptr _ _::_,.func _ _ _::_,_,_,h,_=>by simp[zab] at h
 | .ptr _ _::_,.nilFunc::_,_,_,h,_=>by simp[zab] at h
 | .ptr _ _::_,.iface _ _::_,_,_,h,_=>by simp[zab] at h
 | .ptr _ _::_,.nilIface::_,_,_,h,_=>by simp[zab] at h
 | .ptr _ _::_,.junk::_,_,_,h,_=>by simp[zab] at h
 | .ptr _ _::_,.bref _ _::_,_,_,h,_=>by simp[zab] at h
 | .ptr _ _::_,.rsl _ _ _::_,_,_,h,_=>by simp[zab] at h
theorem zbO{nu nu':Nu}{ls:List Nat}(hn:∀(k b:Nat)(x:Bool×Value),ls[k]?=some b->nu[b]?=some x->nu'[k]?=some x):∀{as:List Arg}{vs cs:List Value}{ps:List (PV S)},zbu nu ls as vs cs->RepL un nu' D w ps cs->RepL un nu' D w (zaI as ps) vs
 |[],[],[],ps,_,_=>by simp[zaI,RepL]
 | .one _::as,v::vs,c::cs,[],_,hr=>by simp[RepL] at hr
 | .one _::as,v::vs,c::cs,p::ps,h,hr=>by simp only[zbu] at h;simp only[RepL] at hr;obtain ⟨rfl,h⟩:=h;simp only[zaI,RepL];exact ⟨hr.1,zbO hn h hr.2⟩
 | .agg ts::as,v::vs,cs,ps,h,hr=>by simp only[zbu] at h;obtain ⟨l,r,rfl,rfl,hl,h⟩:=h;simp only[zaI,RepL,Rep];have h1:=hr.take ts.length;have h2:=hr.drop ts.length;rw[<-hl,yA5] at h1;rw[<-hl,yBn] at h2;rw[hl] at h1 h2;exact ⟨⟨l,rfl,h1⟩,zbO hn h h2⟩
 | .ref k::as,v::vs,cs,ps,h,hr=>by simp only[zbu] at h;obtain ⟨⟨b,h1,h2⟩,h3,h⟩:=h;simp only[zaI,RepL,Rep];exact ⟨⟨hn k b _ h1 h2,h3⟩,zbO hn h hr⟩
 | .ptr k off::as,v::vs,cs,ps,h,hr=>by simp only[zbu] at h;obtain ⟨⟨b,g,h1,h2,rfl⟩,h⟩:=h;simp only[zaI,RepL,Rep];exact ⟨⟨g,hn k b _ h1 h2,rfl⟩,zbO hn h hr⟩
 | .fn f::as,v::vs,cs,ps,h,hr=>by simp only[zbu] at h;obtain ⟨rfl,h⟩:=h;simp only[zaI,RepL,Rep];exact ⟨⟨[],[],rfl,trivial,trivial⟩,zbO hn h hr⟩
 | .nil::as,v::vs,cs,ps,h,hr=>by simp only[zbu] at h;obtain ⟨rfl,h⟩:=h;simp only[zaI,RepL,Rep];exact ⟨trivial,zbO hn h hr⟩
 | .agr ts k::as,v::vs,cs,ps,h,hr=>by simp only[zbu] at h;obtain ⟨l,r,x,rfl,rfl,hl,⟨b,h1,h2⟩,h3,h⟩:=h;simp only[zaI,RepL,Rep];have k1:=hr.take ts.length;have k2:=hr.drop ts.length;rw[<-hl,yA5] at k1;rw[<-hl,yBn] at k2;rw[hl] at k1 k2;refine ⟨⟨l++[x],rfl,k1.append ?_⟩,zbO hn h k2⟩;simp only[RepL,Rep];exact ⟨⟨hn k b _ h1 h2,h3⟩,trivial⟩
 | .agr _ _::_,[],_,_,h,_=>by simp[zbu] at h
 |[],[],_::_,_,h,_=>by simp[zbu] at h
 | .nil::_,[],_,_,h,_=>by simp[zbu] at h
 | .fn _::_,[],_,_,h,_=>by simp[zbu] at h
 |[],_::_,_,_,h,_=>by simp[zbu] at h
 | .one _::_,[],_,_,h,_=>by simp[zbu] at h
 | .agg _::_,[],_,_,h,_=>by simp[zbu] at h
 | .ref _::_,[],_,_,h,_=>by simp[zbu] at h
 | .ptr _ _::_,[],_,_,h,_=>by simp[zbu] at h
 | .one _::_,_::_,[],_,h,_=>by simp[zbu] at h
theorem ze6{r:Wl.Res}(h:Wl.Res.holds E w r)(hm:∀g,r.has g->E'.may g):Wl.Res.holds E' w r:=by
 cases r with
 |box g T cs=>exact ⟨hm g rfl,h.2⟩|own v T size n xs=>exact ⟨h.1,hm⟩|wr v T size n xs=>exact ⟨h.1,hm⟩|fix v g size ob=>exact ⟨h.1,λg0 hg=>⟨hm g0 hg,(h.2 g0 hg).2⟩⟩|ref id=>trivial|omp g es c=>exact ⟨hm g rfl,h.2⟩|it g m s n c=>exact ⟨hm g rfl,h.2⟩|nst v T n xs T2 s2 rows=>exact ⟨h.1,λg hg=>hm g (.inl hg),λi q hq=>⟨(h.2.2.1 i q hq).1,λg hg=>hm g (.inr ⟨i,q,hq,hg⟩),(h.2.2.1 i q hq).2.2⟩,h.2.2.2⟩
theorem ziY{H0:List Wl.Res}{g:Nat}(h:g∈zar H0):∃r,r∈H0/\r.has g:=by obtain ⟨r,h1,h2⟩:=yBS.1 h;exact ⟨r,h1,Wl.Res.mem_blocks.1 h2⟩
theorem mem_blocks{H0:List Wl.Res}{r:Wl.Res}{g:Nat}(hr:r∈H0)(hg:r.has g):g∈zar H0:=yBS.2 ⟨r,hr,Wl.Res.mem_blocks.2 hg⟩
theorem In.sub(h:In E D H w){H0:List Wl.Res}{fx:List Value}(f:Nat->Option Nat)(h1:∀(k:Nat) r,H0[k]?=some r->((∀g,¬r.has g)/\Wl.Res.holds E w r)\/∃i,f k=some i/\H[i]?=some r)(h2:∀k k' i,f k=some i->f k'=some i->k=k')
  (hl:∀(i:Nat) v,fx[i]?=some v->∃r,H0[i]?=some r/\zaH r=true/\zaf r=(true,v)/\keptR w r):In ⟨w,zar H0,fx⟩ D H0 w:=by
 refine ⟨Wl.Grow.refl _ _,h.lt,λr hr=>?_,λr hr g hg o hf hd=>?_,?_,λi v hv=>hl i v (zdd hv).1⟩
 ·obtain ⟨k,hk⟩:=yAj hr;have hh:Wl.Res.holds E w r:=by
   rcases h1 k r hk with h3|⟨i,_,h3⟩;·exact h3.2
   ·exact h.res r (yAb h3)
  exact ze6 hh λg hg=>.inr (mem_blocks hr hg)
 ·obtain ⟨k,hk⟩:=yAj hr;rcases h1 k r hk with h3|⟨i,_,h3⟩;·exact absurd hg (h3.1 g)
  ·exact h.apart r (yAb h3) g hg o hf hd
 ·rw[yAI];intro i j hi hj hij g hg hg';rcases h1 i _ (yAh hi) with h3|⟨x,hx,h3⟩;·exact absurd hg (h3.1 g)
  ·rcases h1 j _ (yAh hj) with h4|⟨y,hy,h4⟩;·exact absurd hg' (h4.1 g)
   ·have hxy:x≠y:=λhe=>by subst he;have:=h2 i j x hx hy;omega
    exact hxy (zaO h.disj h3 h4 hg hg')
theorem zi2{nu nu':Nu}:∀{bs:List (Bool×TypeId×List CTy)}{ls:List Nat}{ps:List (PV S)}{rest:List Value},zcw bx ls bs=true->BxRep un nu D w E bx H->(∀i ts,(i,ts)∈ls.zip (bs.map (·.2.2))->(zbF H i).length=ts.length)->RepL un nu' D' w' ps (zck H (ls.zip (bs.map (·.2.2)))++rest) ->
  BxRep un nu' D' w' E' (zbU bs ps) (ls.map λb=>(H[b]?).getD (.ref (false,undef)))
 |[],[],_,_,_,_,_,_=>by simp[zbU,BxRep]
 |(fl,T,l)::bs,b::ls,ps,rest,hb,hx,hl,hr=>by have hty:=(zfN hb).2;obtain ⟨cs,hg⟩:=hty 0 b fl T l rfl rfl;obtain ⟨r,g1,g2,g3,g4,g5⟩:=zby hx hg;unfold zcw at hb;simp only[yAd] at hb;have h0:=hl b l (by simp);simp only[yAk,yBi,zck,yAX] at hr;have h1:=hr.take l.length;have h2:=hr.drop l.length;rw[<-h0,yA5] at h1;rw[<-h0,yBn] at h2;rw[h0] at h1 h2;simp only[zbU,yAk,BxRep,g1,yBU];refine ⟨zhv g5 (by rw[<-g3];exact h1),zi2 hb.2 hx (λi ts hi=>hl i ts (by simp[hi])) h2⟩
 |[],_::_,_,_,hb,_,_,_=>by simp[zcw] at hb
 |_::_,[],_,_,hb,_,_,_=>by simp[zcw] at hb
def zfV:List Nat->List Wl.Res->List Wl.Res->List Wl.Res|b::ls,r::rs,H=>zfV ls rs (H.set b r)|_,_,H=>H
theorem zbD:∀(ls:List Nat)(rs H:List Wl.Res),(zfV ls rs H).length=H.length
 |[],_,_=>by simp[zfV]
 |_::_,[],_=>by simp[zfV]
 |b::ls,r::rs,H=>by simp only[zfV];rw[zbD ls rs];simp
theorem zea:∀{ls:List Nat}{rs H:List Wl.Res}{i:Nat},i∉ls->(zfV ls rs H)[i]?=H[i]?
 |[],_,_,_,_=>by simp[zfV]
 |_::_,[],_,_,_=>by simp[zfV]
 |b::ls,r::rs,H,i,h=>by simp only[yAp,not_or] at h;simp only[zfV];rw[zea h.2,yAu (λhe=>h.1 he.symm)]
theorem zfr:∀{ls:List Nat}{rs H:List Wl.Res}{k b:Nat}{r:Wl.Res},ls.Nodup->ls[k]?=some b->rs[k]?=some r->b<H.length->(zfV ls rs H)[b]?=some r
 |c::ls,s::rs,H,0,b,r,hn,h1,h2,h3=>by simp at h1 h2;subst h1;subst h2;simp only[zfV];rw[zea (yAU.1 hn).1,yAB h3]
 |c::ls,s::rs,H,k+1,b,r,hn,h1,h2,h3=>by simp only[zfV];exact zfr (yAU.1 hn).2 (by simpa using h1) (by simpa using h2) (by simpa using h3)
 |[],_,_,_,_,_,_,h1,_,_=>by simp at h1
 |_::_,[],_,_,_,_,_,_,h2,_=>by simp at h2
theorem In.back(h:In E D H w){H0 H':List Wl.Res}{fx:List Value}{ls:List Nat}(hc:In ⟨w,zar H0,fx⟩ D' H' w')(h0:∀g∈zar H0,E.may g)(hout:∀(i:Nat) r g,i∉ls->H[i]?=some r->r.has g->g∉zar H0)
  (up:∀k o,D' k o->D k o\/(⟨w,zar H0,fx⟩:Wl.Ctx).may k) (hn:ls.Nodup) (hls:∀(k b:Nat),ls[k]?=some b->∃r r',H[b]?=some r/\zaH r=true/\H'[k]?=some r'/\zaH r'=true/\zaf r'=zaf r/\keptR w r') :
  In E D' (zfV ls H' H++H'.drop ls.length) w'/\(∀(i:Nat) x,(ids H)[i]?=some x->(ids (zfV ls H' H++H'.drop ls.length))[i]?=some x)/\∀j x,(ids H')[ls.length+j]?=some x->(ids (zfV ls H' H++H'.drop ls.length))[H.length+j]?=some x:=by
 have hmay:∀g,(⟨w,zar H0,fx⟩:Wl.Ctx).may g->E.may g:=λg hg=>by
  rcases hg with hg|hg;·exact .inl (yAG h.out.size hg)
  ·exact h0 g hg
 have hbelow:∀b,b∈ls->b<H.length:=λb hb=>by obtain ⟨k,hk⟩:=yAj hb;obtain ⟨r,_,h1,_⟩:=hls k b hk;exact (yAc.1 h1).1
 have hpl:(zfV ls H' H).length=H.length:=zbD _ _ _
 -- where an element zcX from
 have src:∀(j:Nat) s,(zfV ls H' H++H'.drop ls.length)[j]?=some s->(j∉ls/\H[j]?=some s)\/∃k,H'[k]?=some s/\((j<H.length/\ls[k]?=some j)\/(H.length<=j/\k=ls.length+(j - H.length))):=by
  intro j s hj;rcases yAR j H.length with hlt|hge
  ·rw[yAi (by omega)] at hj;by_cases hm:j∈ls;·obtain ⟨k,hk⟩:=yAj hm;obtain ⟨r,r',h1,h2,h3,h4⟩:=hls k j hk;rw[zfr hn hk h3 hlt] at hj;cases hj;exact .inr ⟨k,h3,.inl ⟨hlt,hk⟩⟩
   ·rw[zea hm] at hj;exact .inl ⟨hm,hj⟩
  ·rw[yAz (by omega),hpl,yAt] at hj;exact .inr ⟨_,hj,.inr ⟨hge,rfl⟩⟩
 have keep:∀(i:Nat) r g,i∉ls->H[i]?=some r->r.has g->w'.heap[g]?=w.heap[g]? :=λi r g hi hr hg =>
  hc.out.block g (Wl.Res.holds_lt (h.res r (yAb hr)) hg).2 (hout i r g hi hr hg)
 refine ⟨⟨⟨hc.out.os.trans h.out.os,hc.out.tape.trans h.out.tape,hc.out.output.trans h.out.output,yAG h.out.size hc.out.size,λk hk hn=>?_⟩,hc.lt,λr hr=>?_,λr hr g hg o hf hd=>?_,?_,λi v hi=>?_⟩,λi x hx=>?_,λj x hx=>?_⟩
 ·refine (hc.out.block k (yAn hk h.out.size) λhm=>?_).trans (h.out.block k hk hn);rcases h0 k hm with h1|h1;·omega
  ·exact hn h1
 ·obtain ⟨j,hj⟩:=yAj hr;rcases src j r hj with ⟨h1,h2⟩|⟨k,h1,_⟩;·exact Wl.Res.holds_of (h.res r (yAb h2)) λg hg=>keep j r g h1 h2 hg
  ·have hh:=hc.res r (yAb h1);exact ze6 hh λg hg=>hmay g (Wl.Res.holds_lt hh hg).1
 ·obtain ⟨j,hj⟩:=yAj hr;rcases src j r hj with ⟨h1,h2⟩|⟨k,h1,_⟩
  ·rcases up g o hd with h3|h3|h3;·exact h.apart r (yAb h2) g hg o hf h3
   ·have h4:=(Wl.Res.holds_lt (h.res r (yAb h2)) hg).2;have h3':w.heap.size<=g:=h3;omega
   ·exact hout j r g h1 h2 hg h3
  ·exact hc.apart r (yAb h1) g hg o hf hd
 ·rw[yAI];intro i j hi hj hij g hg hg';rcases src i _ (yAh hi) with ⟨a1,a2⟩|⟨k,a1,a2⟩<;>rcases src j _ (yAh hj) with ⟨b1,b2⟩|⟨k',b1,b2⟩;·have:=zaO h.disj a2 b2 hg hg';omega
  ·have h4:=(Wl.Res.holds_lt (h.res _ (yAb a2)) hg).2;rcases (Wl.Res.holds_lt (hc.res _ (yAb b1)) hg').1 with h5|h5
   ·have h5':w.heap.size<=g:=h5;omega
   ·exact hout i _ g a1 a2 hg h5
  ·have h4:=(Wl.Res.holds_lt (h.res _ (yAb b2)) hg').2;rcases (Wl.Res.holds_lt (hc.res _ (yAb a1)) hg).1 with h5|h5
   ·have h5':w.heap.size<=g:=h5;omega
   ·exact hout j _ g b1 b2 hg' h5
  ·have hkk:=zaO hc.disj a1 b1 hg hg';subst hkk;rcases a2 with ⟨a3,a4⟩|⟨a3,a4⟩<;>rcases b2 with ⟨b3,b4⟩|⟨b3,b4⟩;·rw[a4] at b4;simp at b4;omega
   ·have:=(yAc.1 a4).1;omega
   ·have:=(yAc.1 b4).1;omega
   ·omega
 ·obtain ⟨r,h1,h2,h3,h4⟩:=h.lent i v hi;have hil:=(yAc.1 h1).1;rw[yAi (by omega)];by_cases hm:i∈ls;·obtain ⟨k,hk⟩:=yAj hm;obtain ⟨r0,r',k1,k2,k3,k4,k5,k6⟩:=hls k i hk;rw[h1] at k1;cases k1;exact ⟨r',zfr hn hk k3 hil,k4,k5.trans h3,keptR.trans (h.res _ (yAb h1)) (hc.res _ (yAb k3)) h2 k4 k5 h4 k6⟩
  ·exact ⟨r,by rw[zea hm];exact h1,h2,h3,h4⟩
 ·simp only[ids,yAg] at hx ⊢;have hil:i<H.length:=by
   cases hh:H[i]? with
   |none=>rw[hh] at hx;cases hx|some r=>exact (yAc.1 hh).1
  rw[yAi (by omega)];by_cases hm:i∈ls;·obtain ⟨k,hk⟩:=yAj hm;obtain ⟨r0,r',k1,k2,k3,k4,k5,_⟩:=hls k i hk;rw[zfr hn hk k3 hil];rw[k1] at hx;simp only[yAf] at hx ⊢;rw[k5];exact hx
  ·rw[zea hm];exact hx
 ·simp only[ids,yAg] at hx ⊢;rw[yAz (by omega),hpl,yAQ,yAt];exact hx
def Sh(un:Uni S)(nu nu':Nu)(D:Dat)(w:World)(p p':PV S):Prop:=∀v,Rep un nu D w p v->Rep un nu' D w p' v
def ShL(un:Uni S)(nu nu':Nu)(D:Dat)(w:World):List (PV S)->List (PV S)->Prop|[],[]=>True|p::ps,q::qs=>Sh un nu nu' D w p q/\ShL un nu nu' D w ps qs|_,_=>False
theorem ShL.rep{nu nu':Nu}:∀{ps qs:List (PV S)}{vs:List Value},ShL un nu nu' D w ps qs->RepL un nu D w ps vs->RepL un nu' D w qs vs
 |[],[],vs,_,h=>by cases vs<;>simp_all [RepL]
 |p::ps,q::qs,v::vs,hs,h=>by simp only[RepL] at h ⊢;exact ⟨hs.1 v h.1,ShL.rep hs.2 h.2⟩
 |p::ps,q::qs,[],_,h=>by simp[RepL] at h
 |[],_::_,_,hs,_=>hs.elim|_::_,[],_,hs,_=>hs.elim
theorem ShL.take{nu nu':Nu}:∀{ps qs:List (PV S)},ShL un nu nu' D w ps qs->∀n,ShL un nu nu' D w (ps.take n) (qs.take n)
 |_,_,_,0=>by simp[ShL]
 |[],[],_,n+1=>by simp[ShL]
 |p::ps,q::qs,h,n+1=>⟨h.1,ShL.take h.2 n⟩|[],_::_,h,_+1=>h.elim|_::_,[],h,_+1=>h.elim
theorem ShL.drop{nu nu':Nu}:∀{ps qs:List (PV S)},ShL un nu nu' D w ps qs->∀n,ShL un nu nu' D w (ps.drop n) (qs.drop n)
 |_,_,h,0=>h|[],[],_,n+1=>by simp[ShL]
 |p::ps,q::qs,h,n+1=>ShL.drop h.2 n|[],_::_,h,_+1=>h.elim|_::_,[],h,_+1=>h.elim
theorem zev{nu nu':Nu}:∀(ts:List CTy)(t:ElL S (ts.map CTy.code))(m m':Nat),(∀j x,nu[m+j]?=some x->nu'[m'+j]?=some x)->ShL un nu nu' D w (zcu ts t m) (zcu ts t m')
 |[],_,_,_,_=>trivial| .fr u::ts,t,m,m',hn=>⟨λv h=>zbx h,zev ts t.2 m m' hn⟩| .own u T::ts,t,m,m',hn=>by
   refine ⟨λv h=>?_,zev ts t.2 (m+1) (m'+1) λj x hj=>?_⟩;·simp only[Rep] at h ⊢;exact ⟨by simpa using hn 0 _ (by simpa using h.1),h.2⟩
   ·have:=hn (j+1) x (by rwa[show m+(j+1)=m+1+j by omega]);rwa[show m'+(j+1)=m'+1+j by omega] at this
 | .wr u T::ts,t,m,m',hn=>by
   refine ⟨λv h=>?_,zev ts t.2 (m+1) (m'+1) λj x hj=>?_⟩;·simp only[Rep] at h ⊢;exact ⟨by simpa using hn 0 _ (by simpa using h.1),h.2⟩
   ·have:=hn (j+1) x (by rwa[show m+(j+1)=m+1+j by omega]);rwa[show m'+(j+1)=m'+1+j by omega] at this
 | .pt u T::ts,t,m,m',hn=>by
   refine ⟨λv h=>?_,zev ts t.2 (m+1) (m'+1) λj x hj=>?_⟩;·simp only[Rep] at h ⊢;obtain ⟨fl,g,n,c,h1,h2⟩:=h;exact ⟨fl,g,n,c,by simpa using hn 0 _ (by simpa using h1),h2⟩
   ·have:=hn (j+1) x (by rwa[show m+(j+1)=m+1+j by omega]);rwa[show m'+(j+1)=m'+1+j by omega] at this
 | .map k0 v0::ts,t,m,m',hn=>by
   refine ⟨λv h=>?_,zev ts t.2 (m+1) (m'+1) λj x hj=>?_⟩;·simp only[Rep] at h ⊢;exact ⟨by simpa using hn 0 _ (by simpa using h.1),h.2⟩
   ·have:=hn (j+1) x (by rwa[show m+(j+1)=m+1+j by omega]);rwa[show m'+(j+1)=m'+1+j by omega] at this
 | .nst u T T2::ts,t,m,m',hn=>by
   refine ⟨λv h=>?_,zev ts t.2 (m+1) (m'+1) λj x hj=>?_⟩;·simp only[Rep] at h ⊢;exact ⟨by simpa using hn 0 _ (by simpa using h.1),h.2⟩
   ·have:=hn (j+1) x (by rwa[show m+(j+1)=m+1+j by omega]);rwa[show m'+(j+1)=m'+1+j by omega] at this
theorem zbk:∀(ts:List CTy)(t:ElL S (ts.map CTy.code))(m:Nat),(zcu ts t m).length=ts.length
 |[],_,_=>rfl| .fr u::ts,t,m=>by simp[zcu,zbk ts t.2 m]
 | .own u T::ts,t,m=>by simp[zcu,zbk ts t.2 (m+1)]
 | .wr u T::ts,t,m=>by simp[zcu,zbk ts t.2 (m+1)]
 | .nst u T T2::ts,t,m=>by simp[zcu,zbk ts t.2 (m+1)]
 | .pt u T::ts,t,m=>by simp[zcu,zbk ts t.2 (m+1)]
 | .map k v::ts,t,m=>by simp[zcu,zbk ts t.2 (m+1)]
theorem zkE{nu nu':Nu}:∀{bs:List (Bool×TypeId×List CTy)}{ps qs:List (PV S)}{H1:List Wl.Res},ShL un nu nu' D w ps qs->BxRep un nu D w E (zbU bs ps) H1->BxRep un nu' D w E' (zbU bs qs) H1
 |[],_,_,[],_,_=>by simp[zbU,BxRep]
 |(fl,T,l)::bs,ps,qs,r::H1,hs,h=>by simp only[zbU,BxRep] at h ⊢;exact ⟨zhv h.1 ((hs.take l.length).rep (zfg h.1).2.1),zkE (hs.drop l.length) h.2⟩
 |[],_,_,_::_,_,h=>by simp[zbU,BxRep] at h
 |_::_,_,_,[],_,h=>by simp[zbU,BxRep] at h
theorem zcN{nu nu':Nu}:∀{ts:List CTy}{t:ElL S (ts.map CTy.code)}{H1:List Wl.Res},BxRep un nu D w E (zbi ts t) H1->BxRep un nu' D w E' (zbi ts t) H1
 |[],_,[],_=>by simp[zbi,BxRep]
 | .fr u::ts,t,H1,h=>by simp only[zbi] at h ⊢;exact zcN h
 | .own u T::ts,t,r::H1,h=>by simp only[zbi,BxRep] at h ⊢;refine ⟨?_,zcN h.2⟩;cases r<;>simp only[BoxRep] at h ⊢ <;>exact h.1
 | .wr u T::ts,t,r::H1,h=>by simp only[zbi,BxRep] at h ⊢;refine ⟨?_,zcN h.2⟩;cases r<;>simp only[BoxRep] at h ⊢ <;>exact h.1
 | .pt u T::ts,t,r::H1,h=>by simp only[zbi,BxRep] at h ⊢;refine ⟨?_,zcN h.2⟩;cases r<;>simp only[BoxRep] at h ⊢ <;>exact h.1
 | .nst u T T2::ts,t,r::H1,h=>by simp only[zbi,BxRep] at h ⊢;refine ⟨?_,zcN h.2⟩;cases r<;>simp only[BoxRep] at h ⊢ <;>exact h.1
 | .map k v::ts,t,r::H1,h=>by simp only[zbi,BxRep] at h ⊢;refine ⟨?_,zcN h.2⟩;cases r<;>simp only[BoxRep] at h ⊢ <;>exact h.1
 |[],_,_::_,h=>by simp[zbi,BxRep] at h
 | .own _ _::_,_,[],h=>by simp[zbi,BxRep] at h
 | .wr _ _::_,_,[],h=>by simp[zbi,BxRep] at h
 | .nst _ _ _::_,_,[],h=>by simp[zbi,BxRep] at h
 | .pt _ _::_,_,[],h=>by simp[zbi,BxRep] at h
 | .map _ _::_,_,[],h=>by simp[zbi,BxRep] at h
theorem zc6:∀{ts:List CTy}{ps:List (PV S)},zcn ts=true->∀x∈zba bx ts ps,PV.row x.1∈ps
 |[],[],_,x,hx=>by simp[zba] at hx
 |[],_::_,_,x,hx=>by simp[zba] at hx
 |_::_,[],_,x,hx=>by simp[zba] at hx
 | .fr _::ts,p::ps,h,x,hx=>by simp only[zcn,zba] at h hx;exact yAY _ (zc6 h x hx)
 | .nst _ _ _::ts,p::ps,h,x,hx=>by simp[zcn] at h
 | .pt _ _::ts,p::ps,h,x,hx=>by simp[zcn] at h
 | .map _ _::ts,p::ps,h,x,hx=>by simp[zcn] at h
 | .own _ _::ts,p::ps,h,x,hx=>by
   simp only[zcn] at h;cases p with
   |row b =>
     simp only[zba,yAp] at hx;rcases hx with rfl|hx;·simp
     ·exact yAY _ (zc6 h x hx)
   |_=>simp only[zba] at hx;exact yAY _ (zc6 h x hx)
 | .wr _ _::ts,p::ps,h,x,hx=>by
   simp only[zcn] at h;cases p with
   |row b =>
     simp only[zba,yAp] at hx;rcases hx with rfl|hx;·simp
     ·exact yAY _ (zc6 h x hx)
   |_=>simp only[zba] at hx;exact yAY _ (zc6 h x hx)
theorem zdq:∀{a b:List CTy},zcn (a++b)=true->zcn a=true
 |[],_,_=>rfl| .fr _::a,b,h=>by simp only[yAN,zcn] at h ⊢;exact zdq h
 | .own _ _::a,b,h=>by simp only[yAN,zcn] at h ⊢;exact zdq h
 | .wr _ _::a,b,h=>by simp only[yAN,zcn] at h ⊢;exact zdq h
 | .nst _ _ _::a,b,h=>by simp[zcn] at h
 | .pt _ _::a,b,h=>by simp[zcn] at h
 | .map _ _::a,b,h=>by simp[zcn] at h
theorem BxRep.split{nu:Nu}:∀{bs cs:Bxs S}{H1:List Wl.Res},BxRep un nu D w E (bs++cs) H1->BxRep un nu D w E bs (H1.take bs.length)/\BxRep un nu D w E cs (H1.drop bs.length)
 |[],cs,H1,h=>by simpa[BxRep] using h
 |b::bs,cs,r::H1,h=>by simp only[yAN,BxRep] at h;obtain ⟨h1,h2⟩:=BxRep.split h.2;simp only[yAA,yBY,List.drop_succ_cons,BxRep];exact ⟨⟨h.1,h1⟩,h2⟩
 |_::_,_,[],h=>by simp[BxRep] at h
theorem zd0:∀(bs:List (Bool×TypeId×List CTy))(ps:List (PV S)),(zbU bs ps).length=bs.length|[],_=>rfl|(_,_,l)::bs,ps=>by simp[zbU,zd0 bs]
theorem zge{nu nu':Nu}:∀{as:List Arg}{ps qs:List (PV S)},(as.all fun | .one _=>true | .agg _=>true|_=>false)=true->ShL un nu nu' D w ps qs->ShL un nu nu' D w (zaI as ps) (zaI as qs)
 |[],_,_,_,_=>by simp[zaI,ShL]
 | .one _::as,[],[],ha,h=>by simp only[zaI];exact zge (by simpa using ha) h
 | .one _::as,p::ps,q::qs,ha,h=>by simp only[zaI];exact ⟨h.1,zge (by simpa using ha) h.2⟩
 | .agg ts::as,ps,qs,ha,h=>by simp only[zaI];refine ⟨λv hv=>?_,zge (by simpa using ha) (h.drop _)⟩;simp only[Rep] at hv ⊢;obtain ⟨cs,h1,h2⟩:=hv;exact ⟨cs,h1,(h.take _).rep h2⟩
 | .ref _::_,_,_,ha,_=>by simp at ha
 | .ptr _ _::_,_,_,ha,_=>by simp at ha
 | .fn _::_,_,_,ha,_=>by simp at ha
 | .nil::_,_,_,ha,_=>by simp at ha
 | .agr _ _::_,_,_,ha,_=>by simp at ha
 | .one _::_,[],_::_,_,h=>h.elim| .one _::_,_::_,[],_,h=>h.elim
theorem zpE{nu nu':Nu}{ps qs:List (PV S)}(h:ShL un nu nu' D w ps qs):Sh un nu nu' D w (zfx ps) (zfx qs):=by
 intro v hv
 match ps,qs,h with
 |[],[],_=>simp only[zfx,Rep] at hv ⊢;obtain ⟨cs,h1,h2⟩:=hv;exact ⟨cs,h1,by cases cs<;>simp_all [RepL]⟩
 |[p],[q],h=>exact h.1 v hv|p::p2::ps,q::q2::qs,h=>simp only[zfx,Rep] at hv ⊢;obtain ⟨cs,h1,h2⟩:=hv;exact ⟨cs,h1,h.rep h2⟩
 |[_],_::_::_,h=>exact h.2.elim|_::_::_,[_],h=>exact h.2.elim|[],_::_,h=>exact h.elim|_::_,[],h=>exact h.elim
theorem zpK{nu:Nu}{H2:List Wl.Res}:∀{bs:List (Bool×TypeId×List CTy)}{ls:List Nat}{ps:List (PV S)}{B:Bxs S}{Hk:List Wl.Res},(∀(k b:Nat)(fl:Bool)(T:TypeId)(l:List CTy),ls[k]?=some b->bs[k]?=some (fl,T,l)->∃cs,zae B b=some (.var T cs))->ls.length=bs.length->ls.Nodup->BxRep un nu D w E (zbU bs ps) Hk->(∀(k b:Nat) r,ls[k]?=some b->Hk[k]?=some r->H2[b]?=some r) ->
  (∀(i:Nat) b r,i∉ls->zae B i=some b->H2[i]?=some r->BoxRep un nu D w E false b r)->∀(i:Nat) b r,zae (zaZ (ls.zip (bs.map (·.2.2))) ps B) i=some b->H2[i]?=some r->BoxRep un nu D w E false b r
 |[],[],_,_,_,_,_,_,_,_,h,i,b,r,hb,hr=>h i b r (by simp) (by simpa[zaZ] using hb) hr|(fl,T,l)::bs,b0::ls,ps,B,r0::Hk,hty,hlen,hn,hx,hz,h,i,b,r,hb,hr=>by
   obtain ⟨cs,hg⟩:=hty 0 b0 fl T l rfl rfl;simp only[zbU,BxRep] at hx;obtain ⟨hn1,hn2⟩:=yAU.1 hn;simp only[yAk,yBi,zaZ,hg] at hb;refine zpK (bs:=bs) (ls:=ls) (ps:=ps.drop l.length) (B:=zau B b0 (.var T (ps.take l.length))) (Hk:=Hk) (λk b' fl' T' l' h1 h2=>?_) (by simpa using hlen) hn2 hx.2 (λk b' r' h1 h2=>hz (k+1) b' r' (by simpa using h1) (by simpa using h2)) (λi' b' r' hi' hb' hr'=>?_) i b r hb hr;·obtain ⟨cs',hg'⟩:=hty (k+1) b' fl' T' l' (by simpa using h1) (by simpa using h2);have hne:b'≠b0:=λhe=>hn1 (he▸yAb h1);exact ⟨cs',by rw[zai hne];exact hg'⟩
   ·by_cases hib:i'=b0;·subst hib;have:=zcR hb';subst this;have h3:=hz 0 i' r0 rfl rfl;rw[hr'] at h3;cases h3;exact hx.1
    ·rw[zai hib] at hb';exact h i' b' r' (by simp[hib,hi']) hb' hr'
 |(fl,T,l)::bs,b0::ls,ps,B,[],_,_,_,hx,_,_,_,_,_,_,_=>by simp[zbU,BxRep] at hx
 |[],_::_,_,_,_,_,hlen,_,_,_,_,_,_,_,_,_=>by simp at hlen
 |_::_,[],_,_,_,_,hlen,_,_,_,_,_,_,_,_,_=>by simp at hlen
theorem zgH:∀(l:List (Nat×List CTy))(ps:List (PV S))(B:Bxs S),(zaZ l ps B).length=B.length|[],_,_=>rfl|(i,l)::r,ps,B=>by simp only[zaZ];rw[zgH r];split<;>simp[zaA]
theorem zf0:∀{l:List (Nat×List CTy)}{ps:List (PV S)}{B:Bxs S},(∀i ts,(i,ts)∈l->∃T cs,zae B i=some (.var T cs)/\cs.length=ts.length)->(l.map (·.2.length)).sum<=ps.length->PresB B (zaZ l ps B)
 |[],_,B,_,_=>PresB.refl B|(i,ts)::l,ps,B,h,hp=>by
   simp only[yAk,List.sum_cons] at hp;obtain ⟨T,cs,hg,hl⟩:=h i ts (by simp);simp only[zaZ,hg];have hlen:(ps.take ts.length).length=cs.length:=by simp;omega
   refine (PresB.set (b':= .var T (ps.take ts.length)) hg rfl λT' cs' he=>by cases he;exact ⟨_,rfl,hlen⟩).trans (zf0 (λj ts' hj=>?_) (by simp;omega));obtain ⟨T',cs',hg',hl'⟩:=h j ts' (by simp[hj]);by_cases hji:j=i;·subst hji;rw[hg] at hg';cases hg';exact ⟨T,_,zbY hg,by rw[hlen];exact hl'⟩
   ·exact ⟨T',cs',by rw[zai hji];exact hg',hl'⟩
theorem zlV{α β:Type}{l:List α}{m:List β}{k:Nat}{x:α}{y:β}(h1:l[k]?=some x)(h2:m[k]?=some y):(x,y)∈l.zip m:=yAb (i:=k) (by simp[List.getElem?_zip_eq_some,h1,h2])
theorem ziP{nu:Nu}:∀{n:Nat}{vs:List Value},vs.length=n->RepL un nu D w (List.replicate n .junk) vs
 |0,[],_=>by simp[RepL]
 |n+1,v::vs,h=>by simp only[List.replicate_succ,RepL,Rep,true_and];exact ziP (by simpa using h)
 |0,_::_,h=>by simp at h
 |_+1,[],h=>by simp at h
theorem zaM:∀(l:List Nat)(bx:Bxs S),(zak l bx).length=bx.length|[],_=>rfl|b::l,bx=>by simp only[zak];rw[zaM l];split<;>simp[zaA]
theorem BxRep.append'{nu:Nu}:∀{bs cs:Bxs S}{rs ss:List Wl.Res},BxRep un nu D w E bs rs->BxRep un nu D w E cs ss->BxRep un nu D w E (bs++cs) (rs++ss)
 |[],_,[],_,_,h=>h|b::bs,cs,r::rs,ss,h,k=>by simp only[BxRep,yAN] at h ⊢;exact ⟨h.1,h.2.append' k⟩
 |[],_,_::_,_,h,_=>by simp[BxRep] at h
 |_::_,_,[],_,h,_=>by simp[BxRep] at h
theorem zi3:∀(bs:List (Bool×TypeId×List CTy))(k:Nat)(h:k<bs.length),zae (zbU bs (List.replicate ((bs.map (·.2.2)).flatten).length (.junk:PV S))) k=some (.var (bs[k]).2.1 (List.replicate (bs[k]).2.2.length .junk))
 |(fl,T,l)::bs,0,_=>by simp[zbU,zae,List.take_replicate]
 |(fl,T,l)::bs,k+1,h=>by have:=zi3 bs k (by simpa using h);simp only[zbU,zae,yAk,yBy,yAD,List.drop_replicate,yAQ,List.getElem_cons_succ];exact this
theorem zpJ(hun:UniOk un){c:Call}{f:FuncId}{l:List (PV S)}(hen:zcT e c=some (f,l))(ho:o.op= .call c)(hcf:∀args w,(callFunc f args).run P w= .ok (.enter f args) w){g:Sg}(hok:g.ok=true)
  {ask:g.In S->Option (g.Out S)} {K:PV S->Env S->Bxs S->Option R} {KX:Exit->Env S->Bxs S->Option R} (h:zfB un e bx l g ask K KX=some r) (hask:∀t r,ask t=some r->zpv P un f g t r)
  (hd:∀d,o.dst=some d->d<N.n) (hs:Holds un E D0 N e bx a w) {next:Act->World->Prop} {Q:Exit->Act->World->Prop}
  (hk:∀p e' bx',K p e' bx'=some r->Pres [] e e'->PresB bx bx'->∀a' w',Holds un E D0 N (push o.dst p e') bx' a' w'->next a' w')
  (hx:∀x e' bx',KX x e' bx'=some r->Pres [] e e'->PresB bx bx'->∀a' w',Holds un E D0 N e' bx' a' w'->Q x a' w'):o.wp P a w next Q:=by
 unfold zfB at h;dsimp only at h;generalize hls:nub [] (zlq l)=ls at h;have hnd:ls.Nodup:=by rw[<-hls];exact (zeW _ _).1
 split at h
 ·rename_i ps qs hps hqs;obtain ⟨hbt,h⟩:=zac h;have hplain:=zdq ((yAd _ _).mp hbt).2
  replace hbt:=((yAd _ _).mp hbt).1
  split at h
  ·rename_i t htell
   -- rows that are told as data are frozen
   unfold zlh at htell;obtain ⟨hro,hct⟩:=zac htell;generalize hbx1:zak (frs g.ins (qs++ps)) bx=bx1 at h hro hct;have hpf:PresB bx bx1:=hbx1▸PresB.freeze _ _;have hqs1:zcH bx1 (ls.zip (g.bs.map (·.2.2)))=some qs:=hbx1▸zcy hqs;have hbt1:zcw bx1 ls g.bs=true:=hbx1▸zfh hbt;have hH:=hs.freeze (frs g.ins (qs++ps));rw[hbx1] at hH;obtain ⟨D,H,st,hD,hG⟩:=hH;obtain ⟨vs,hrun,hvs⟩:=zcF st hen ho hcf;obtain ⟨pv,hpv,harg⟩:=zbc hps hvs;obtain ⟨hq1,hq2⟩:=zd7 st.boxes hqs1;obtain ⟨hlen,hty⟩:=zfN hbt1
   -- the rows that are handed over
   obtain ⟨bs,rs,g1,g2,g3,g4,g5,g6⟩:=zb0 hun st g.ins (qs++ps) _ [] t g.bs.length hro hct (hq1.append hpv);have hlsH:∀(k b:Nat),ls[k]?=some b->∃r T cs,H[b]?=some r/\zaH r=true/\zae bx1 b=some (.var T cs)/\BoxRep un (ids H) D w E false (.var T cs) r:=by
    intro k b hk;have hkl:k<g.bs.length:=by rw[<-hlen];exact (yAc.1 hk).1
    obtain ⟨cs,hg⟩:=hty k b _ _ _ hk (yAh hkl);obtain ⟨r,k1,k2,_,_,k5⟩:=zby st.boxes hg;exact ⟨r,_,cs,k1,k2,hg,k5⟩
   generalize hHl:(ls.map λb=>(H[b]?).getD (.ref (false,undef)))=Hl;have hHll:Hl.length=g.bs.length:=by rw[<-hHl];simp[hlen]
   have hHlget:∀(k b:Nat) r,ls[k]?=some b->H[b]?=some r->Hl[k]?=some r:=(by intro k b r hk hr;rw[<-hHl];simp[hk,hr]);have hnu:∀(i:Nat) r,rs[i]?=some r->(ids (Hl++rs))[g.bs.length+i]?=some (zaf r):=(by intro i r hr;simp only[ids,yAg];rw[yAz (by omega),hHll,yAQ,hr];rfl);have hnul:∀(k b:Nat)(x:Bool×Value),ls[k]?=some b->(ids H)[b]?=some x->(ids (Hl++rs))[k]?=some x:=by
    intro k b x hk hx;obtain ⟨r,_,_,k1,_⟩:=hlsH k b hk;have hkl:k<g.bs.length:=by rw[<-hlen];exact (yAc.1 hk).1
    simp only[ids,yAg] at hx ⊢;rw[yAi (by omega),hHlget k b r hk k1];rw[k1] at hx;exact hx
   have hP:=g5 _ hnu
   -- the callee's state
   have hqlen:qs.length=g.nb:=by
    have e1:∀{ls:List Nat}{bs:List (Bool×TypeId×List CTy)}{qs:List (PV S)},ls.length=bs.length->zcH bx1 (ls.zip (bs.map (·.2.2)))=some qs->qs.length=((bs.map (·.2.2)).flatten).length:=by
     intro ls;induction ls with
     |nil=>intro bs qs hl hq;cases bs<;>simp_all [zcH]
     |cons b ls ih =>
       intro bs qs hl hq;cases bs with
       |nil=>simp at hl|cons x bs =>
         simp only[yAk,yBi] at hq;unfold zcH at hq;split at hq;·rename_i T cs ps' _ h2;obtain ⟨h3,h4⟩:=zac hq;cases h4;simp only[yAD,yAk,yBy];rw[ih (by simpa using hl) h2,yAa h3]
         ·cases hq
    exact e1 hlen hqs1
   have hdrop:=hP.drop g.nb;have hvl:(zck H (ls.zip (g.bs.map (·.2.2)))).length=g.nb:=(by rw[<-hq1.length];exact hqlen);rw[<-hvl,yBn] at hdrop;rw[hvl] at hdrop;have hargs:=zbO hnul harg hdrop;have hrowbox:∀b,some b∈bs->∃r,H[b]?=some r/\zaH r=false/\zmH r=true/\b∉ls:=by
    intro b hb;obtain ⟨_,x,k1,k2⟩:=g2 b hb;obtain ⟨r,k3,k4⟩:=st.boxes.get k1;refine ⟨r,k3,?_,?_,λhm=>?_⟩;·cases x<;>simp[zdw] at k2<;>cases r<;>simp[BoxRep] at k4<;>rfl
    ·cases x<;>simp[zdw] at k2<;>cases r<;>simp[BoxRep] at k4<;>rfl
    ·obtain ⟨k,hk⟩:=yAj hm;obtain ⟨_,_,_,_,_,k5,_⟩:=hlsH k b hk;rw[k1] at k5;cases k5;simp[zdw] at k2
   have hsub:In ⟨w,zar (Hl++rs),(ids Hl).map (·.2)⟩ D (Hl++rs) w:=by
    refine st.inn.sub (λk=>if k<g.bs.length then ls[k]? else (bs[k - g.bs.length]?).join) (λk r hk=>?_) (λk k' i hk hk'=>?_) (λi v hv=>?_)
    ·rcases yAR k g.bs.length with hlt|hge;·rw[yAi (by omega)] at hk;obtain ⟨b,hb⟩:∃b,ls[k]?=some b:=⟨_,yAh (by omega)⟩;obtain ⟨r',_,_,k1,_⟩:=hlsH k b hb;rw[hHlget k b r' hb k1] at hk;cases hk;exact .inr ⟨b,by simp only[if_pos hlt,hb],k1⟩
     ·rw[yAz (by omega),hHll] at hk;rcases zcq g1 _ r hk with ⟨b,h1,h2,_⟩|⟨h1,T,size,h2⟩;·exact .inr ⟨b,by simp only[if_neg (show ¬k<g.bs.length by omega),h1];rfl,h2⟩
      ·left;rcases h2 with rfl|rfl;·exact ⟨λg hg=>by simp[Wl.Res.has,Value.ownBlock] at hg,Wl.rowAt_nil _ _ _,λg hg=>by simp[Value.ownBlock] at hg⟩
       ·exact ⟨λg hg=>by simp[Wl.Res.has,Value.ownBlock] at hg,World.ownsRow_nil _ _ _ _,λg hg=>by simp[Value.ownBlock] at hg⟩
    ·have second:∀k i,(bs[k - g.bs.length]?).join=some i->bs[k - g.bs.length]?=some (some i):=by
      intro k i h;cases hx:bs[k - g.bs.length]? with
      |none=>rw[hx] at h;cases h|some y=>rw[hx] at h;cases y with
        |none=>cases h|some z=>cases h;rfl
     split at hk
     ·rename_i hlt;split at hk';·rename_i hlt';exact (List.getElem?_inj (yAc.1 hk).1 hnd).1 (hk.trans hk'.symm)
      ·obtain ⟨_,_,_,_,h5⟩:=hrowbox i (yAb (second k' i hk'));exact absurd (yAb hk) h5
     ·rename_i hge;split at hk';·obtain ⟨_,_,_,_,h5⟩:=hrowbox i (yAb (second k i hk));exact absurd (yAb hk') h5
      ·rename_i hge';have:=zeX g3 _ _ i (second k i hk) (second k' i hk');omega
    ·simp only[ids,List.map_map,yAg,yAT,Function.comp] at hv;obtain ⟨r,hr,hv⟩:=hv;have hil:i<Hl.length:=(yAc.1 hr).1;obtain ⟨b,hb⟩:∃b,ls[i]?=some b:=⟨_,yAh (by omega)⟩;obtain ⟨r',_,_,k1,k2,_⟩:=hlsH i b hb;have:=hHlget i b r' hb k1;rw[hr] at this;cases this;refine ⟨r,by rw[yAi hil];exact hr,k2,?_,keptR.self (st.inn.res _ (yAb k1))⟩;cases r<;>simp[zaH] at k2<;>simp_all [zaf]
   have hbx0:BxRep un (ids (Hl++rs)) D w ⟨w,zar (Hl++rs),(ids Hl).map (·.2)⟩ (zbU g.bs (zcu g.ins t g.bs.length)++zbi g.ins t) (Hl++rs):=(by refine BxRep.append' ?_ (g4 _ _);have:=zi2 (E':=⟨w,zar (Hl++rs),(ids Hl).map (·.2)⟩) hbt1 st.boxes (λi ts hi=>(hq2 i ts hi).2) hP;rw[hHl] at this;exact this);have htab:TabE un w (zar (Hl++rs)):=st.tabL λg hg=>by
    obtain ⟨r,hr,hgr⟩:=yBS.1 hg;have hgr:=Wl.Res.mem_blocks.1 hgr;rcases yAm.1 hr with hr|hr
    ·obtain ⟨k,hk⟩:=yAj hr;have hkl:k<Hl.length:=(yAc.1 hk).1;obtain ⟨b,hb⟩:∃b,ls[k]?=some b:=⟨_,yAh (by omega)⟩;obtain ⟨r',_,_,k1,_⟩:=hlsH k b hb;rw[hHlget k b r' hb k1] at hk;cases hk;exact (Wl.Res.holds_lt (st.inn.res _ (yAb k1)) hgr).1
    ·obtain ⟨k,hk⟩:=yAj hr;rcases zcq g1 _ r hk with ⟨b,h1,h2,_⟩|⟨h1,T,size,h2⟩;·exact (Wl.Res.holds_lt (st.inn.res _ (yAb h2)) hgr).1
     ·rcases h2 with rfl|rfl<;>simp[Wl.Res.has,Value.ownBlock] at hgr
   unfold Oper.wp;rw[hrun];cases hr:ask t with
   |none=>rw[hr] at h;simp[oc] at h|some res =>
     rw[hr] at h;refine (hask t res hr D w vs (Hl++rs) ((ids Hl).map (·.2)) htab (by simp[hHll]) hsub hbx0 hargs).mono λx w1 hend=>?_;obtain ⟨D',H',hin',hge,hup,hend⟩:=hend
     -- the caller zbv the rows
     have htk:=g6;generalize htkd:zba bx1 g.ins (qs++ps)=tk at h htk;have htkm:tk.map (·.1)=bs.filterMap id:=(by rw[htk];simp[Function.comp_def]);obtain ⟨Hc,c1,c2,c3,c4⟩:=zlX tk st (λp hp=>by
      have hrw:PV.row p.1∈qs++ps:=(by rw[<-htkd] at hp;exact zc6 hplain p hp);rw[htk] at hp;obtain ⟨b,hb,rfl⟩:=yBd.1 hp;have hb':some b∈bs:=by simpa using hb
      obtain ⟨r,k1,k2,k3,_⟩:=hrowbox b hb';obtain ⟨v,hv⟩:∃v,zaf r=(false,v):=by obtain ⟨j,hj⟩:=yAj hrw;obtain ⟨v,_,hv⟩:=(hq1.append hpv).get j _ hj;simp only[Rep,ids,yAg,k1,yAf,yAe] at hv;exact ⟨v,hv.1⟩
      refine ⟨r,v,k1,k2,hv,?_⟩;obtain ⟨_,y,k5,k6⟩:=g2 b hb';dsimp only;rw[k5];cases y with
      |own u T l =>refine st.fz1 hun ?_;simp only[Rep];refine ⟨by simp[ids,k1,hv],?_⟩;obtain ⟨r',k7,k8⟩:=st.boxes.get k5;rw[k1] at k7;cases k7;cases r<;>simp[BoxRep] at k8;simp[zaf] at hv;subst hv;exact (st.inn.res _ (yAb k1)).1.one
      |_=>simp[Rep])
     have htkrow:∀b∈tk.map (·.1),∃x,zae bx1 b=some x/\zdw x=true:=(by intro b hb;rw[htkm] at hb;exact (g2 b (by simpa using hb)).2);have hpt:PresB bx1 (zdQ tk bx1):=PresB.take tk bx1 (by rw[htkm];exact g3) htkrow;have hls2:∀(k b:Nat)(fl:Bool)(T:TypeId)(l:List CTy),ls[k]?=some b->g.bs[k]?=some (fl,T,l)->∃cs,zae (zdQ tk bx1) b=some (.var T cs)/\cs.length=l.length:=(by intro k b fl T l hk hb;obtain ⟨cs,hg⟩:=hty k b fl T l hk hb;obtain ⟨cs',k1,k2⟩:=hpt.var b T cs hg;refine ⟨cs',k1,k2.trans ?_⟩;obtain ⟨r,e1,_,e3,e4,_⟩:=zby st.boxes hg;have hm:(b,l)∈ls.zip (g.bs.map (·.2.2)):=zlV hk (by simp[hb]);have:=(hq2 b l hm).2;rw[e3,<-e4.length] at this;exact this);have hnin:∀b,b∈ls->b∉tk.map (·.1):=λb hb hm=>by rw[htkm] at hm;exact (hrowbox b (by simpa using hm)).elim λr hr=>hr.2.2.2 hb
     have hlsc:∀(k b:Nat),ls[k]?=some b->∃r,Hc[b]?=some r/\zaH r=true/\Hl[k]?=some r:=(by intro k b hk;obtain ⟨r,_,_,k1,k2,_⟩:=hlsH k b hk;exact ⟨r,(c4 b r k1).1 (hnin b (yAb hk)),k2,hHlget k b r hk k1⟩);have hmay0:∀g'∈zar (Hl++rs),E.may g':=by
      intro g' hg';obtain ⟨r,hr1,hr2⟩:=ziY hg';rcases yAm.1 hr1 with hm|hm
      ·obtain ⟨k,hk⟩:=yAj hm;obtain ⟨b,hb⟩:∃b,ls[k]?=some b:=⟨_,yAh (by have:=(yAc.1 hk).1;omega)⟩;obtain ⟨r',_,_,k1,_⟩:=hlsH k b hb;have:=hHlget k b r' hb k1;rw[hk] at this;cases this;exact (Wl.Res.holds_lt (st.inn.res _ (yAb k1)) hr2).1
      ·obtain ⟨k,hk⟩:=yAj hm;rcases zcq g1 k r hk with ⟨b,_,h2,_⟩|⟨_,T,size,h2⟩;·exact (Wl.Res.holds_lt (st.inn.res _ (yAb h2)) hr2).1
       ·rcases h2 with rfl|rfl<;>simp[Wl.Res.has,Value.ownBlock] at hr2
     have hout:∀(i:Nat) r g',i∉ls->Hc[i]?=some r->r.has g'->g'∉zar (Hl++rs):=by
      intro i r g' hi hr hb hm;have hil:i<H.length:=by rw[<-c3];exact (yAc.1 hr).1
      obtain ⟨r0,hr0⟩:∃r0,H[i]?=some r0:=⟨_,yAh hil⟩;obtain ⟨k1,k2⟩:=c4 i r0 hr0;by_cases hit:i∈tk.map (·.1);·obtain ⟨id,k3⟩:=k2 hit;rw[hr] at k3;cases k3;cases hb
      ·have:=k1 hit;rw[hr] at this;cases this;obtain ⟨r',hr1,hr2⟩:=ziY hm;rcases yAm.1 hr1 with hm|hm
       ·obtain ⟨k,hk⟩:=yAj hm;obtain ⟨b,hb'⟩:∃b,ls[k]?=some b:=⟨_,yAh (by have:=(yAc.1 hk).1;omega)⟩;obtain ⟨r'',_,_,k4,_⟩:=hlsH k b hb';have:=hHlget k b r'' hb' k4;rw[hk] at this;cases this;have:=zaO st.inn.disj hr0 k4 hb hr2;subst this;exact hi (yAb hb')
       ·obtain ⟨k,hk⟩:=yAj hm;rcases zcq g1 k r' hk with ⟨b,h1,h2,_⟩|⟨_,T,size,h2⟩
        ·have:=zaO st.inn.disj hr0 h2 hb hr2;subst this;exact hit (by rw[htkm];simpa using yAb h1)
        ·rcases h2 with rfl|rfl<;>simp[Wl.Res.has,Value.ownBlock] at hr2
     have hfix:∀(k b:Nat),ls[k]?=some b->∃r r',Hc[b]?=some r/\zaH r=true/\H'[k]?=some r'/\zaH r'=true/\zaf r'=zaf r/\keptR w r':=(by intro k b hk;obtain ⟨r,k1,k2,k3⟩:=hlsc k b hk;obtain ⟨r',k4,k5,k6,k7⟩:=hin'.lent k (zaf r).2 (zif (by simp[ids,k3]) (zny k2 (c1.inn.res r (yAb k1))));refine ⟨r,r',k1,k2,k4,k5,k6.trans ?_,k7⟩;cases r<;>simp[zaH] at k2<;>rfl);obtain ⟨hin2,hid1,hid2⟩:=c1.inn.back hin' hmay0 hout hup hnd hfix;have hD':∀k o,D' k o->D0 k o\/E.may k:=λk o hk=>by
      rcases hup k o hk with h1|h1;·exact hD k o h1
      ·rcases h1 with h1|h1;·exact .inr (.inl (yAG st.inn.out.size h1))
       ·exact .inr (hmay0 k h1)
     have hkept:=zap c1.inn.out hin2.out;have hcl:Hc.length=bx.length:=(by rw[c3,<-st.boxes.length,<-hbx1];exact (zaM _ _));have hoth:∀(i:Nat) b r,i∉ls->zae (zdQ tk bx1) i=some b->(zfV ls H' Hc++H'.drop ls.length)[i]?=some r->BoxRep un (ids (zfV ls H' Hc++H'.drop ls.length)) D' w1 E false b r:=(by intro i b r hi hb hr;obtain ⟨r0,k1,k2⟩:=c1.boxes.get hb;have hil:=(yAc.1 k1).1;rw[yAi (by rw[zbD];exact hil),zea hi,k1] at hr;cases hr;exact k2.mono hge hkept hid1);cases res with
     |inl ro =>
       obtain ⟨hbx',v,rfl,hv⟩:=hend;simp only[oc] at h;obtain ⟨hb1,hb2⟩:=hbx'.split;rw[zd0] at hb1 hb2;have hsh:ShL un (ids H') (ids (zfV ls H' Hc++H'.drop ls.length)) D' w1 (zcu g.outs ro g.bs.length) (zcu g.outs ro bx.length):=zev _ _ _ _ λj x hj=>by rw[<-hcl];exact hid2 j x (by rw[hlen];exact hj)
       have hbn:=zkE (E':=E) hsh hb1;have hbo:=zcN (nu':=ids (zfV ls H' Hc++H'.drop ls.length)) (E':=E) hb2;have htl:(zdQ tk bx1).length=Hc.length:=c1.boxes.length;have hboxes:BxRep un (ids (zfV ls H' Hc++H'.drop ls.length)) D' w1 E (zaZ (ls.zip (g.bs.map (·.2.2))) (zcu g.outs ro bx.length) (zdQ tk bx1)) (zfV ls H' Hc):=by
        refine BxRep.of_get' (by rw[zgH,zbD];exact htl) λi b r hb hr=>?_;have hil:i<(zfV ls H' Hc).length:=(yAc.1 hr).1;refine zpK (H2:=zfV ls H' Hc++H'.drop ls.length) (λk b fl T l h1 h2=>(hls2 k b fl T l h1 h2).imp λ_ h=>h.1) hlen hnd hbn (λk b r h1 h2=>?_) hoth i b r hb (by rw[yAi hil];exact hr);have hkl:k<g.bs.length:=by rw[<-hlen];exact (yAc.1 h1).1
        rw[yAr hkl] at h2;obtain ⟨r0,k1,_⟩:=hlsc k b h1;have hbl:=(yAc.1 k1).1;rw[yAi (by rw[zbD];exact hbl)];exact zfr hnd h1 h2 hbl
       have hdr:H'.drop ls.length=H'.drop g.bs.length:=(by rw[hlen]);rw[<-hdr] at hbo;have hall:=hboxes.append' hbo;have hpl:((ls.zip (g.bs.map (·.2.2))).map (·.2.length)).sum<=(zcu g.outs ro bx.length).length:=by
        rw[zbk];have e1:∀{ls:List Nat}{bs:List (List CTy)},ls.length=bs.length->((ls.zip bs).map (·.2.length)).sum=bs.flatten.length:=by
         intro ls;induction ls with
         |nil=>intro bs hl;cases bs<;>simp_all
         |cons b ls ih=>intro bs hl;cases bs with
           |nil=>simp at hl|cons x bs=>simp[ih (show ls.length=bs.length by simpa using hl)]
        rw[e1 (by simpa using hlen)];simp[Sg.outs]
       have hpm:PresB (zdQ tk bx1) (zaZ (ls.zip (g.bs.map (·.2.2))) (zcu g.outs ro bx.length) (zdQ tk bx1)):=zf0 (λi ts hi=>by obtain ⟨k,hk⟩:=yAj hi;rw[List.getElem?_zip_eq_some] at hk;obtain ⟨k1,k2⟩:=hk;simp only[yAg,yAT] at k2;obtain ⟨⟨fl,T,l'⟩,k3,k4⟩:=k2;simp at k4;subst k4;obtain ⟨cs,k5,k6⟩:=hls2 k i fl T l' k1 k3;exact ⟨T,cs,k5,k6⟩) hpl;refine hk _ _ _ h (Pres.take tk e) (((hpf.trans hpt).trans hpm).trans (PresB.append _ _)) _ _ ⟨D',_,c1.step hin2 hall (λi q hi=>(c1.slots i q hi).ge hge hid1) hd ?_,hD',hG.trans hge⟩;rw[hqlen];exact zpE (zge hok (hsh.drop g.nb)) v hv
     |inr p =>
       obtain ⟨hbj,rfl⟩:=hend;simp only[oc] at h;have hpj:PresB (zdQ tk bx1) (zep ls (zdQ tk bx1)):=zeB _ _;have hnil:H'.drop ls.length=[]:=by have:=hbj.length;rw[zd0] at this;rw[yA2 (by omega)]
       refine hx _ _ _ h (Pres.take tk e) ((hpf.trans hpt).trans hpj) _ _ ⟨D',_,⟨hin2,c1.size,c1.defers,?_,λi q hi=>(c1.slots i q hi).ge hge hid1⟩,hD',hG.trans hge⟩;refine BxRep.of_get' (by rw[zdv,hnil,yAW,zbD];exact c1.boxes.length) λi b r hgb hr=>?_;rcases zfD ls _ i b hgb with ⟨h1,h2⟩|⟨h1,b0,h2,h3,_⟩;·exact hoth i b r h1 h2 hr
       ·obtain ⟨k,hk1⟩:=yAj h1;have hkl:k<g.bs.length:=by rw[<-hlen];exact (yAc.1 hk1).1
        obtain ⟨cs,k1,k2⟩:=hls2 k i _ _ _ hk1 (yAh hkl);rw[h2] at k1;cases k1;rw[h3 _ cs rfl];obtain ⟨r0,r',m1,m2,m3,m4,m5,_⟩:=hfix k i hk1;have hil:=(yAc.1 m1).1;rw[yAi (by rw[zbD];exact hil),zfr hnd hk1 m3 hil] at hr;cases hr;obtain ⟨rr,hrr1,hrr2⟩:=hbj.get (i:=k) (b:= .var (g.bs[k]).2.1 (List.replicate (g.bs[k]).2.2.length .junk)) (zi3 _ _ hkl);rw[m3] at hrr1;cases hrr1;refine zhv hrr2 ?_;have hl:=(zfg hrr2).2.1.length;simp only[yBP] at hl;have:∀{cs:List (PV S)}{vs:List Value},cs.length=vs.length->RepL un (ids (zfV ls H' Hc++H'.drop ls.length)) D' w1 (cs.map λ_=>.junk) vs:=λh=>zo5 h;exact this (by rw[k2,<-hl];rfl)
  ·cases h
 ·cases h
end
end Pe
end
section
/- Rows of rows: made, a row taken out, a row put back. -/
namespace Pe
open Go Go.RowKit
variable{S:Nat->Type}
section
variable{P:Program}{un:Uni S}{tb:Tb S}{E:Wl.Ctx}{N:Wl.Fr}{D:Dat}{H:List Wl.Res}{e:Env S}{bx:Bxs S}{a:Act}{w w':World}
theorem zpT{v:Value}(h:(zaD v:PV S)= .nils):v= .slice none 0 0:=by
 cases v with
 |pointer a=>cases a<;>simp[zaD] at h|slice a l c=>unfold zaD at h;split at h<;>simp_all|tuple vs=>unfold zaD at h;split at h<;>simp_all|_=>simp[zaD] at h
theorem znW{H1:List Wl.Res}{s:Wl.Res}{n:Nat}(hn:H1.length=n):(ids (H1++[s]))[n]?=some (zaf s):=by subst hn;exact zcQ _ _
theorem znK{b j:Nat}{u:U}{T T2:TypeId}{l:List (List (El S u))}{h:Option Nat}{t:TypeId}{row:TyRow S}{x:Value}{k:IntKind}(hrow:RowOk P un t row)(hs:St un E N D H e bx a w)(hg:zae bx b=some (.nst u T T2 l h))(hx:Rep un (ids H) D w (.row b) x)(hkd:row.kd=2)(hel:row.elem.map (·.2)=some (.sl u))(hj:j<l.length) :
  ∃v,(Instr.indexAt t x (.int k (j:Int))).run P w= .ok v w/\Rep un (ids H) D w (.elr b (.sl u) j 0) v:=by
 obtain ⟨r,hr1,hr2⟩:=hs.boxes.get hg;have hh:=hs.inn.res _ (yAb hr1);cases r with
 |nst v0 T' n xs T2' s2 rows =>
   simp only[BoxRep] at hr2;obtain ⟨rfl,rfl,rfl,rfl,_,_⟩:=hr2;have hid:(ids H)[b]?=some (false,v0):=by simp[ids,hr1,zaf]
   simp only[Rep] at hx;rw[hid] at hx;obtain ⟨hx1,_⟩:=hx;cases hx1;obtain ⟨T0,u',e1,e2,e3⟩:=hrow.slice hkd;rw[e1] at hel;simp at hel;subst hel;rcases hh.1.2 with ⟨_,h0⟩|⟨g,cap,cur,rfl,_⟩;·omega
   ·refine ⟨.pointer (some ⟨g,0+j*U.size un (.sl u),none⟩),?_,?_⟩;·simp[zbQ (un:=un) (k:=k) (off:=0) (b:=g) (c:=cap) e2 e3 hj w]
    ·simp only[Rep];exact ⟨false,g,_,_,hid,by simp⟩
 |_=>simp[BoxRep] at hr2
theorem znJ{b i:Nat}{u:U}{T T2:TypeId}{l:List (List (El S u))}{m:List (El S u)}{t:TypeId}{row:TyRow S}{x:Value}(hrow:RowOk P un t row)(hagg:row.agg=false)(hs:St un E N D H e bx a w)(hg:zae bx b=some (.nst u T T2 l none))(hx:Rep un (ids H) D w (.elr b (.sl u) i 0) x)(hm:l[i]?=some m){dst:Option Nat}(hd:∀d,dst=some d->d<N.n) :
  ∃v' H',(Instr.loadAt t x).run P w= .ok v' w/\St un E N D H' (push dst (.row bx.length) e) (zau bx b (.nst u T T2 l (some i))++[.wr u T2 m]) (a.put dst v') w:=by
 obtain ⟨r,hr1,hr2⟩:=hs.boxes.get hg;have hh:=hs.inn.res _ (yAb hr1);cases r with
 |nst v0 T' n xs T2' s2 rows =>
   simp only[BoxRep] at hr2;obtain ⟨rfl,rfl,rfl,rfl,hrl,hel⟩:=hr2;obtain ⟨hown,hmay,hrows,hdis⟩:=hh;obtain ⟨q,q1,q2,q3,q4⟩:=hel i m hm (by simp);have hid:(ids H)[b]?=some (false,v0):=by simp[ids,hr1,zaf]
   have hil:i<rows.length:=(yAc.1 q1).1;have get:∀(j:Nat) q',(rows.set i none)[j]?=some (some q')->j≠i/\rows[j]?=some (some q'):=λj q' hj=>by
    by_cases hij:i=j;·subst hij;rw[yAB hil] at hj;cases hj
    ·rw[yAu hij] at hj;exact ⟨λe=>hij e.symm,hj⟩
   have hin:In E D (H.set b (.nst v0 T' l.length xs T2' (U.size un u) (rows.set i none))++[.wr q.1 T2' (U.size un u) q.2.1 q.2.2]) w:=by
    refine hs.inn.split hr1 rfl (λ_=>trivial) ⟨hown,hmay,λj q' hj=>hrows j q' (get j q' hj).2,λj j' q' q'' hne h1 h2=>hdis j j' q' q'' hne (get j q' h1).2 (get j' q'' h2).2⟩ ⟨(hrows i q q1).1,(hrows i q q1).2.1⟩ (λg hg=>?_) (λg hg=>.inr ⟨i,q,q1,hg⟩) λg h1 h2=>?_
    ·rcases hg with hg|⟨j,q',hj,hg⟩;·exact .inl hg
     ·exact .inr ⟨j,q',(get j q' hj).2,hg⟩
    ·have h2:q.1.ownBlock=some g:=h2;rcases h1 with h1|⟨j,q',hj,h1⟩;·exact (hrows i q q1).2.2 g h2 h1
     ·exact hdis j i q' q (get j q' hj).1 (get j q' hj).2 q1 g h1 h2
   have hids0:ids (H.set b (.nst v0 T' l.length xs T2' (U.size un u) (rows.set i none)))=ids H:=zaq hr1 rfl;have hids:∀(j:Nat) z,(ids H)[j]?=some z->(ids (H.set b (.nst v0 T' l.length xs T2' (U.size un u) (rows.set i none))++[.wr q.1 T2' (U.size un u) q.2.1 q.2.2]))[j]?=some z:=λj z hz=>zbe _ _ j z (by rw[hids0];exact hz);simp only[Rep] at hx;obtain ⟨fl,g,n,c,hx1,rfl⟩:=hx;rw[hid] at hx1;cases hx1;have hcell:w.cell? ⟨g,i*U.size un (.sl u),none⟩=some q.1:=(by have hc:=hown.cells (g:=g) rfl i q.1 q2;rw[Addr.add_lit] at hc;simpa[U.size] using hc);refine ⟨q.1,_,?_,hs.step hin ?_ (λj p hj=>(hs.slots j p hj).ge (Ge.refl _ _) hids) hd ?_⟩;·have:=(hrow.one hagg).2 w;simp[Instr.loadAt,Instr.sureAddr,loadVar,this,hcell]
   ·refine ((hs.boxes.mono (Ge.refl _ _) (λ_ _ _=>rfl) hids).set ?_).push ?_;·simp only[BoxRep];refine ⟨trivial,trivial,trivial,trivial,by simpa using hrl,λj y hj hne=>?_⟩;obtain ⟨q',k1,k2⟩:=hel j y hj (by simp);exact ⟨q',by rw[yAu (λe=>hne (by rw[e]))];exact k1,k2⟩
    ·simp only[BoxRep];exact ⟨trivial,trivial,q3,q4⟩
   ·simp only[Rep];refine ⟨?_,zeu (hrows i q q1).1⟩;exact znW (by rw[List.length_set,hs.boxes.length])
 |_=>simp[BoxRep] at hr2
theorem zmp{b k i:Nat}{u:U}{T T2:TypeId}{l:List (List (El S u))}{m:List (El S u)}{t:TypeId}{row:TyRow S}{x v:Value}(hrow:RowOk P un t row)(hn1:row.n=1)(hs:St un E N D H e bx a w)(hgb:zae bx b=some (.nst u T T2 l (some i)))(hgk:zae bx k=some (.wr u T2 m))(hne:b≠k)
  (hx:Rep un (ids H) D w (.elr b (.sl u) i 0) x) (hv:Rep un (ids H) D w (.row k) v) (hil:i<l.length) {dst:Option Nat} (hd:∀d,dst=some d->d<N.n) :
  ∃w' H',(Instr.storeAt t x v).run P w= .ok () w'/\St un E N D H' (push dst zay (zcW k .junk e)) (zau (zau (bx.map (Box.kill k .junk)) k .gone) b (.nst u T T2 (l.set i m) none)) (a.put dst undef) w'/\Ge D w D w':=by
 obtain ⟨r,hr1,hr2⟩:=hs.boxes.get hgb;obtain ⟨r',hk1,hk2⟩:=hs.boxes.get hgk;have hh:=hs.inn.res _ (yAb hr1);have hhk:=hs.inn.res _ (yAb hk1);cases r with
 |nst v0 T' n xs T2' s2 rows =>
   cases r' with
   |wr vk Tk sk nk ys =>
     simp only[BoxRep] at hr2 hk2;obtain ⟨rfl,rfl,rfl,rfl,hrl,hel⟩:=hr2;obtain ⟨rfl,rfl,rfl,helk⟩:=hk2;obtain ⟨hown,hmay,hrows,hdis⟩:=hh;have hid:(ids H)[b]?=some (false,v0):=by simp[ids,hr1,zaf]
     have hidk:(ids H)[k]?=some (false,vk):=(by simp[ids,hk1,zaf]);simp only[Rep] at hv;rw[hidk] at hv;obtain ⟨hv1,hv2,hv3⟩:=hv;cases hv1;simp only[Rep] at hx;obtain ⟨fl,g,n,c,hx1,rfl⟩:=hx;rw[hid] at hx1;cases hx1;obtain rfl:n=l.length:=by
      rcases hown.2 with ⟨h0,_⟩|⟨g',cap,cur,h',_⟩;·cases h0
      ·cases h';rfl
     have hap:=zoU hs.inn.disj hr1 hk1 hne;have hir:i<rows.length:=(by rw[hrl];exact hil);have get:∀(j:Nat) q',(rows.set i (some (v,m.length,ys)))[j]?=some (some q')->(j=i/\q'=(v,m.length,ys))\/(j≠i/\rows[j]?=some (some q')):=λj q' hj=>by
      by_cases hij:i=j;·subst hij;rw[yAB hir] at hj;simp at hj;exact .inl ⟨rfl,hj.symm⟩
      ·rw[yAu hij] at hj;exact .inr ⟨λe=>hij e.symm,hj⟩
     -- in one
     have holds1:Wl.Res.holds E w (.nst (.slice (some ⟨g,0,none⟩) l.length c) T' l.length xs Tk (U.size un u) (rows.set i (some (v,m.length,ys)))):=by
      refine ⟨hown,hmay,λj q' hj=>?_,λj j' q' q'' hjj h1 h2 g0 hg1 hg2=>?_⟩
      ·rcases get j q' hj with ⟨rfl,rfl⟩|⟨_,h3⟩;·exact ⟨hhk.1,hhk.2,λg0 hg1 hg2=>hap g0 (.inl hg2) hg1⟩
       ·exact hrows j q' h3
      ·rcases get j q' h1 with ⟨rfl,rfl⟩|⟨n1,h3⟩<;>rcases get j' q'' h2 with ⟨rfl,rfl⟩|⟨n2,h4⟩;·exact hjj rfl
       ·exact hap g0 (.inr ⟨j',q'',h4,hg2⟩) hg1
       ·exact hap g0 (.inr ⟨j,q',h3,hg1⟩) hg2
       ·exact hdis j j' q' q'' hjj h3 h4 g0 hg1 hg2
     have hin1:=hs.inn.join (id:=(false,v)) hr1 hk1 hne rfl rfl (λ_=>trivial) (λ_=>trivial) holds1 (λg0 hg0=>by
      rcases hg0 with hg0|⟨j,q',hj,hg0⟩;·exact .inl (.inl hg0)
      ·rcases get j q' hj with ⟨rfl,rfl⟩|⟨_,h3⟩;·exact .inr hg0
       ·exact .inl (.inr ⟨j,q',h3,hg0⟩))
     -- the store
     have hbl:b<H.length:=(yAc.1 hr1).1;have hset1:((H.set k (.ref (false,v))).set b (.nst (.slice (some ⟨g,0,none⟩) l.length c) T' l.length xs Tk (U.size un u) (rows.set i (some (v,m.length,ys)))))[b]?=some (.nst (.slice (some ⟨g,0,none⟩) l.length c) T' l.length xs Tk (U.size un u) (rows.set i (some (v,m.length,ys)))):=yAB (by simpa using hbl);obtain ⟨hst,hgr⟩:=hown.stored i v;have hother:∀g0,g0<w.heap.size->some g0≠some g->(w.setCell ⟨g,i,none⟩ v).heap[g0]?=w.heap[g0]? :=λg0 h1 h2=>hgr.block g0 h1 h2;have hin2:In E D (((H.set k (.ref (false,v))).set b (.nst (.slice (some ⟨g,0,none⟩) l.length c) T' l.length xs Tk (U.size un u) (rows.set i (some (v,m.length,ys))))).set b (.nst (.slice (some ⟨g,0,none⟩) l.length c) T' l.length (xs.set i v) Tk (U.size un u) (rows.set i (some (v,m.length,ys))))) (w.setCell ⟨g,i,none⟩ v):=(by refine hin1.turn hset1 hgr ⟨hst,hmay,λj q' hj=>?_,holds1.2.2.2⟩ (λg0 hg0=>.inl hg0) (λ_ _ h=>.inl h) (λk0 o h=>yAn (hs.inn.lt k0 o h) hgr.size) (λg0 hg0 o hf hd=>hin1.apart _ (yAb hset1) g0 hg0 o trivial hd) (λhe=>by cases he);obtain ⟨a1,a2,a3⟩:=holds1.2.2.1 j q' hj;exact ⟨Wl.owns_of a1 λg0 hg0=>hother g0 (World.ownsRow.lt a1 g0 hg0).2 (λe=>a3 g0 hg0 (by cases e;rfl)),a2,a3⟩);rw[List.set_set] at hin2;have hmem:=yAb hr1;have hge:Ge D w D (w.setCell ⟨g,i,none⟩ v):=(.of (λ_ _ h=>h) λk0 o hk=>(hgr.block k0 (hs.inn.lt k0 o hk) λhkb=>hs.inn.apart _ hmem k0 (.inl hkb.symm) o trivial hk));have hids:ids ((H.set k (.ref (false,v))).set b (.nst (.slice (some ⟨g,0,none⟩) l.length c) T' l.length (xs.set i v) Tk (U.size un u) (rows.set i (some (v,m.length,ys)))))=ids H:=by have h9:(H.set k (.ref (false,v)))[b]?=some (.nst (.slice (some ⟨g,0,none⟩) l.length c) T' l.length xs Tk (U.size un u) rows):=(by rw[yAu (λe=>hne e.symm)];exact hr1);exact (zaq (r':= .nst (.slice (some ⟨g,0,none⟩) l.length c) T' l.length (xs.set i v) Tk (U.size un u) (rows.set i (some (v,m.length,ys)))) h9 rfl).trans (zaq hk1 rfl)
     have hn:∀(j:Nat) z,(ids H)[j]?=some z->(ids ((H.set k (.ref (false,v))).set b (.nst (.slice (some ⟨g,0,none⟩) l.length c) T' l.length (xs.set i v) Tk (U.size un u) (rows.set i (some (v,m.length,ys))))))[j]?=some z\/(j=k/\z.1=false):=λj z hz=>.inl (by rw[hids];exact hz);have hy:Rep un (ids ((H.set k (.ref (false,v))).set b (.nst (.slice (some ⟨g,0,none⟩) l.length c) T' l.length (xs.set i v) Tk (U.size un u) (rows.set i (some (v,m.length,ys)))))) D (w.setCell ⟨g,i,none⟩ v) (.junk:PV S) v:=(by simp only[Rep]);refine ⟨_,_,?_,hs.step hin2 ?_ (λj p hj=>?_) hd ?_,hge⟩
     ·rcases hown.2 with ⟨h0,_⟩|⟨g',cap,cur,h',hb0,hgg,hnc,hcm,hcs,htk⟩;·cases h0
      ·cases h';have hsz:v.cells.size=row.n:=by rw[hv3,hn1];rfl
       have:=zdk (P:=P) (un:=un) hrow (v:=v) (off:=i) hgg (.inl (yAl _)) hsz (by rw[hn1,hcs];omega) (by rw[hv3];simpa using hv2);rw[hv3] at this;simpa[U.size,World.setCells] using this
     ·refine ((zbg hge (zap hs.inn.out hin2.out) hidk hy hn hs.boxes).set (b:= .gone) (r:= .ref (false,v)) (i:=k) (by simp only[BoxRep])).set ?_;simp only[BoxRep];refine ⟨trivial,trivial,trivial,by simp,by simpa using hrl,λj y hj _=>?_⟩;have hxl:xs.length=l.length:=by simpa using hown.1
      by_cases hij:i=j;·subst hij;rw[yAB hil] at hj;simp only[yAe] at hj;subst hj;exact ⟨(v,m.length,ys),yAB hir,yAB (by omega),rfl,λj y hj=>(helk j y hj).mono hge⟩
      ·rw[yAu hij] at hj;obtain ⟨q,q1,q2,q3,q4⟩:=hel j y hj (by simpa using hij);exact ⟨q,by rw[yAu hij];exact q1,by rw[yAu hij];exact q2,q3,λj y hj=>(q4 j y hj).mono hge⟩
     ·rw[za7] at hj;cases hl:zan e j with
      |none=>rw[hl] at hj;cases hj|some p0 =>rw[hl] at hj;simp only[yAf,yAe] at hj;subst hj;exact zci hge hidk hy hn (hs.slots j p0 hl)
     ·simp only[zay,Rep];exact ⟨[],rfl,by simp[RepL]⟩
   |_=>simp[BoxRep] at hk2
 |_=>simp[BoxRep] at hr2
theorem znI{t T T2:TypeId}{u:U}{row:TyRow S}(hu:P.underlying t=some (.slice T))(hT:ElOk P un T (.sl u))(hrow:RowOk P un T row)(hz:row.zero=[.nils])(hs:St un E N D H e bx a w){kl kc:IntKind}{c:Nat}(hc:c<=1073741824){dst:Option Nat}(hd:∀d,dst=some d->d<N.n) :
  ∃v' w' H',(Instr.makeSlice t (.int kl (c:Int)) (.int kc (c:Int))).run P w= .ok v' w'/\St un E N D H' (push dst (.row bx.length) e) (bx++[.nst u T T2 (List.replicate c []) none]) (a.put dst v') w'/\Ge D w D w':=by
 obtain ⟨i,zv,e1,e2,e3,e4,e5,e6⟩:=hT.info;obtain ⟨z0,z1,z2,z3⟩:=hrow.zero;have hz0:z0=zv:=by rw[e1] at z1;simp only[yAx] at z1;rw[e2] at z1;cases z1;rfl
 subst hz0;rw[hz] at z3;have hzl:z0.cells.toList=[.slice none 0 0]:=by
  match hc:z0.cells.toList,z3 with
  |[x],z3=>simp only[yAk,yBF,yBp,and_true] at z3;rw[zpT z3.symm]|[],z3=>simp at z3|_::_::_,z3=>simp at z3
 have hza:z0.cells= #[.slice none 0 0]:=by rw[<-yBB (xs:=z0.cells),hzl]
 have hbytes:i.bytes*c<=281474976710656:=by have:i.bytes*c<=32768*1073741824:=yBR e6 hc;omega
 have h63:c<=maxLen:=by unfold maxLen;omega
 have hone:U.size un (.sl u)=1:=rfl;have hrun:(Instr.makeSlice t (.int kl (c:Int)) (.int kc (c:Int))).run P w= .ok (.slice (some ⟨w.heap.size,0,none⟩) c c) (w.alloc (.cells (madeCells z0.cells (c*U.size un (.sl u))) T)):=by
  have h1:(c:Int)<=9223372036854775807:=by omega
  have h2:(i.bytes:Int)*(c:Int)<=281474976710656:=by rw[<-Int.natCast_mul];omega
  have:=run_make (P:=P) w t T i z0 hu e1 e2 kl kc c c (by omega) (by omega) h2 h1;simpa[e3] using this
 rw[hone,yA7,hza] at hrun;have hml:(madeCells #[.slice none 0 0] c).toList=List.replicate c (.slice none 0 0):=toList_madeCells_one _ _;have hb:Below w.heap.size w (w.alloc (.cells (madeCells #[.slice none 0 0] c) T)):=(Below.refl _ _).alloc (yAl _) _;have hown:(w.alloc (.cells (madeCells #[.slice none 0 0] c) T)).ownsRow 0 T 1 (.slice (some ⟨w.heap.size,0,none⟩) c c) c (List.replicate c (.slice none 0 0)):=by refine ⟨by simp,.inr ⟨w.heap.size,c,_,rfl,yAF _,heap_alloc_new w _,yAl _,h63,by simp[madeCells],?_⟩⟩;rw[hml];simp
 have hrq:∀(j:Nat)(q:Value×Nat×List Value),(List.replicate c (some ((.slice none 0 0:Value),0,([]:List Value))))[j]?=some (some q)->q=(.slice none 0 0,0,[]):=λj q hq=>by have:=yAb hq;rw[List.mem_replicate] at this;exact (yAy this.2)
 have hh:Wl.Res.holds E (w.alloc (.cells (madeCells #[.slice none 0 0] c) T)) (.nst (.slice (some ⟨w.heap.size,0,none⟩) c c) T c (List.replicate c (.slice none 0 0)) T2 (U.size un u) (List.replicate c (some (.slice none 0 0,0,[])))):=by
  refine ⟨hown,λg hg=>?_,λj q hq=>?_,λj j' q q' _ h1 _ g hg=>?_⟩;·simp[Value.ownBlock] at hg;subst hg;exact .inl hs.inn.out.size
  ·rw[hrq j q hq];exact ⟨World.ownsRow_nil _ _ _ _,λg hg=>by simp[Value.ownBlock] at hg,λg hg=>by simp[Value.ownBlock] at hg⟩
  ·rw[hrq j q h1] at hg;simp[Value.ownBlock] at hg
 have hhas:∀g,Wl.Res.has (.nst (.slice (some ⟨w.heap.size,0,none⟩) c c) T c (List.replicate c (.slice none 0 0)) T2 (U.size un u) (List.replicate c (some (.slice none 0 0,0,[])))) g->g=w.heap.size:=λg hg=>by
  rcases hg with hg|⟨j,q,hq,hg⟩;·simp[Value.ownBlock] at hg;exact hg.symm
  ·rw[hrq j q hq] at hg;simp[Value.ownBlock] at hg
 have hin:In E D (H++[.nst (.slice (some ⟨w.heap.size,0,none⟩) c c) T c (List.replicate c (.slice none 0 0)) T2 (U.size un u) (List.replicate c (some (.slice none 0 0,0,[])))]) (w.alloc (.cells (madeCells #[.slice none 0 0] c) T)) :=
  hs.inn.push hb hh (λg hg=>by rw[hhas g hg];exact yAl _) (λk o hk=>.inl hk) (λk o hk=>yAn (hs.inn.lt k o hk) hb.size) (λg hg o _ hk=>by have:=hhas g hg;have:=hs.inn.lt _ o hk;omega)
 have hge:Ge D w D (w.alloc (.cells (madeCells #[.slice none 0 0] c) T)):=Ge.same hs.inn hb;refine ⟨_,_,_,hrun,hs.step hin ?_ (λi q hi=>(hs.slots i q hi).ge hge (zbe H _)) hd ?_,hge⟩
 ·refine (hs.boxes.mono hge (zap hs.inn.out hin.out) (zbe H _)).push ?_;simp only[BoxRep];refine ⟨trivial,trivial,trivial,by simp,by simp,λj x hj _=>?_⟩;have hjl:j<c:=by have:=(yAc.1 hj).1;simpa using this
  have hx:x=[]:=by rw[yBI,if_pos hjl] at hj;cases hj;rfl
  subst hx;exact ⟨(.slice none 0 0,0,[]),by rw[yBI,if_pos hjl],by rw[yBI,if_pos hjl],rfl,λj y hj=>by simp at hj⟩
 ·simp only[Rep];refine ⟨?_,zeu hown⟩;rw[hs.boxes.length,zcQ];rfl
end
end Pe
end
section
/- Any operation, carried out: those on maps, and on rows to which one zaT, too. -/
namespace Pe
open Go Go.RowKit
variable{S:Nat->Type}
section
variable{P:Program}{un:Uni S}{tb:Tb S}{orc:Orc S}{inl:Inl S}{E E':Wl.Ctx}{D0:Dat}{N:Wl.Fr}{D D':Dat}{H:List Wl.Res}{e:Env S}{bx:Bxs S}{a:Act}{w w':World}{o:Oper}{R:Type}{r:R}
theorem zgz{α:Type}{n:Int}{x:α}{l:List α}(h:zoO n x=some l):∃k:Nat,n=k/\k<=1073741824/\l=List.replicate k x:=by
 unfold zoO at h;split at h;·rename_i k;obtain ⟨h1,h2⟩:=zac h;cases h2;exact ⟨k,rfl,by simpa using h1,rfl⟩
 ·cases h
theorem ziL{x y:Operand}(h:zeO x y=true){k k':IntKind}{m n:Int}(hx:a.eval x= .int k m)(hy:a.eval y= .int k' n):m=n:=by
 cases x<;>cases y<;>simp only[zeO] at h<;>try (cases h;done)
 ·rename_i i j;have:=yAa h;subst this;rw[hx] at hy;cases hy;rfl
 ·rename_i v v';cases v<;>cases v'<;>simp only at h<;>try (cases h;done)
  simp only[Act.eval] at hx hy;cases hx;cases hy;simpa using h
theorem zn5:∀(l:List UInt8)(i:Nat)(x:Int),(zaj l)[i]?=some x->DR un D w [.int .u8] (sg (u:= .int .u8) x) ((((zaj l).map (Value.int .u8)).drop (i*1)).take 1):=by
 intro l i x hi;have h1:((zaj l).map (Value.int .u8))[i]?=some (.int .u8 x):=by rw[yAg,hi];rfl
 have:(((zaj l).map (Value.int .u8)).drop (i*1)).take 1=[.int .u8 x]:=by rw[yA7];have hl:=(yAc.1 h1).1;rw[yBe hl,(yAc.1 h1).2];rfl
 rw[this];exact .int .nil
theorem zn4(hs:St un E N D H e bx a w){s d T:TypeId}{l:List UInt8}(h1:P.underlying s=some .string)(h2:P.underlying d=some (.slice T))(h3:P.underlying T=some (.int .u8))(hlim:l.length<=lim){dst:Option Nat}(hd:∀d,dst=some d->d<N.n) :
  ∃v' w' H',(convert s d (.string ⟨l.toArray⟩)).run P w= .ok v' w'/\St un E N D H' (push dst (.ref bx.length) e) (bx++[.var T [.cont (.rw (.int .u8)) (zaj l)]]) (a.put dst v') w'/\Ge D w D w':=by
 have hrun:=run_bytes_of_string (P:=P) w s d T ⟨l.toArray⟩ h1 h2 h3;have hsz:(ByteArray.mk l.toArray).size=l.length:=by simp[ByteArray.size]
 rw[hsz] at hrun;generalize hcap:grownCap w l.length 0 T=cap at hrun;have hge:l.length<=cap:=by rw[<-hcap];exact grownCap_ge _ _ _ _
 have hmax:cap<=maxLen:=by rw[<-hcap];exact grownCap_le_maxLen _ _ _ _ (by unfold lim at hlim;unfold maxLen;omega)
 have hrow:(bytesRow ⟨l.toArray⟩ cap).toList=(zaj l).map (Value.int .u8)++List.replicate (cap - l.length) (.int .u8 0):=by simp[bytesRow,zaj,hsz]
 have hrs:(bytesRow ⟨l.toArray⟩ cap).size=cap:=by rw[<-yBv,hrow];simp[zaj];omega
 have hb:Below w.heap.size w (w.drew.alloc (.cells (bytesRow ⟨l.toArray⟩ cap) T ((bytesRow ⟨l.toArray⟩ cap).size,(bytesRow ⟨l.toArray⟩ cap).size+1))):=by have h:=(Below.refl w.heap.size w.drew).alloc (yAl _) (.cells (bytesRow ⟨l.toArray⟩ cap) T ((bytesRow ⟨l.toArray⟩ cap).size,(bytesRow ⟨l.toArray⟩ cap).size+1));exact ⟨h.os,h.tape,h.output,h.size,h.block⟩
 obtain ⟨H',k1,k2⟩:=hs.newFix T (cs:=[.cont (.rw (.int .u8)) (zaj l)]) (v:= .slice (some ⟨w.heap.size,0,none⟩) l.length cap) (size:=1) hb (heap_alloc_new w.drew _)
  (.inr (.inl ⟨_,_,_,_,_,_,rfl,rfl,rfl,hge,hmax,by rw[hrs];simp,.inr (yAl _)⟩)) rfl (by
   simp only[RepL,Rep,and_true,Wl.fixV];have hl:l.length=List.length (zaj l):=by simp[zaj]
   rw[hrow,List.take_left' (by simp[zaj])];have:=zl5 (un:=un) (D:=D) (w:=w) (u:= .int .u8) (l:=zaj l) (xs:=(zaj l).map (Value.int .u8)) (by simp[U.size];rfl) (λi x hi=>zn5 l i x hi);rw[hl];exact this) hd
 exact ⟨_,_,H',hrun,k1,k2⟩
theorem zoZ(hun:UniOk un)(ht:TbOk P un tb){t T:TypeId}{u:U}(hu:P.underlying t=some (.slice T))(hT:ElOk P un T u){z:El S u}(hz:zdN un tb T u=some z)(hs:St un E N D H e bx a w){kl kc:IntKind}{l c:Nat}(hc:c<=1073741824)(hlc:l=c\/l=0){dst:Option Nat}(hd:∀d,dst=some d->d<N.n) :
  ∃v' w' H',(Instr.makeSlice t (.int kl (l:Int)) (.int kc (c:Int))).run P w= .ok v' w'/\St un E N D H' (push dst (.row bx.length) e) (bx++[.wr u T (List.replicate l z)]) (a.put dst v') w'/\Ge D w D w':=by
 obtain ⟨i,zv,e1,e2,e3,e4,e5,e6⟩:=hT.info;obtain ⟨v0,z1,z2⟩:=zeJ (P:=P) (D:=D) (w:=w) hun ht hz;have hv0:v0=zv:=by simp[zeroValue,typeInfo,e1,e2] at z1;exact z1.symm
 subst hv0;have hbytes:i.bytes*c<=281474976710656:=by have:i.bytes*c<=32768*1073741824:=yBR e6 hc;omega
 have h63:c<=maxLen:=by unfold maxLen;omega
 have hzd:=ze5 z2;have hfull:∀w',w'=w.alloc (.cells (madeCells v0.cells (c*U.size un u)) T)->Below w.heap.size w w'/\w'.ownsRow 0 T (U.size un u) (.slice (some ⟨w.heap.size,0,none⟩) l c) l ((madeCells v0.cells (c*U.size un u)).toList.take (l*U.size un u)):=by intro w' hw;subst hw;refine ⟨(Below.refl _ _).alloc (yAl _) _,?_,.inr ⟨w.heap.size,c,_,rfl,yAF _,heap_alloc_new w _,by rcases hlc with rfl|rfl<;>omega,h63,by simp[madeCells],rfl⟩⟩;have h9:l*U.size un u<=c*U.size un u:=yAo _ (by rcases hlc with rfl|rfl<;>omega);rw[yAS,show (madeCells v0.cells (c*U.size un u)).toList.length=c*U.size un u by simp[madeCells],yBx h9]
 have hrun:(Instr.makeSlice t (.int kl (l:Int)) (.int kc (c:Int))).run P w= .ok (.slice (some ⟨w.heap.size,0,none⟩) l c) (w.alloc (.cells (madeCells v0.cells (c*U.size un u)) T)):=by
  have h1:(c:Int)<=9223372036854775807:=by omega
  have h2:(i.bytes:Int)*(c:Int)<=281474976710656:=by rw[<-Int.natCast_mul];omega
  have:=run_make (P:=P) w t T i v0 hu e1 e2 kl kc l c (by omega) (by rcases hlc with rfl|rfl<;>omega) h2 h1;simpa[e3] using this
 obtain ⟨hb,hown⟩:=hfull _ rfl;have hsg:=zgK (D:=D) (w:=w) (un:=un) hzd e4 l;have hpre:(madeCells v0.cells (c*U.size un u)).toList.take (l*U.size un u)=(madeCells v0.cells (l*U.size un u)).toList:=by
  rcases hlc with rfl|rfl;·rw[yBj];simp[madeCells]
  ·simp[madeCells]
 rw[hpre] at hown;have hown':(w.alloc (.cells (madeCells v0.cells (c*U.size un u)) T)).ownsRow 0 T (U.size un u) (.slice (some ⟨w.heap.size,0,none⟩) l c) (List.replicate l z).length (madeCells v0.cells (l*U.size un u)).toList:=by rw[yBP];exact hown
 obtain ⟨H',k1,k2⟩:=hs.newWr hb hown' rfl hsg hd;exact ⟨_,_,H',hrun,k1,k2⟩
theorem ziJ{nu nu':Nu}{p:PV S}{v:Value}(h:zns p=true)(hr:Rep un nu D w p v):Rep un nu' D' w' p v:=by cases p<;>first|(cases h;done)|(simp only[Rep] at hr ⊢;exact hr)
theorem ziI{nu nu':Nu}:∀{l:List (PV S)}{vs:List Value},l.all zns=true->RepL un nu D w l vs->RepL un nu' D' w' l vs
 |[],[],_,_=>by simp[RepL]
 |p::l,v::vs,h,hr=>by simp only[yBJ,yAd] at h;simp only[RepL] at hr ⊢;exact ⟨ziJ h.1 hr.1,ziI h.2 hr.2⟩
 |[],_::_,_,hr=>by simp[RepL] at hr
 |_::_,[],_,hr=>by simp[RepL] at hr
theorem zks{nu nu':Nu}{p:PV S}{v:Value}(h:zlm p=true)(hr:Rep un nu D w p v):Rep un nu' D' w' p v:=by
 cases p with
 |tup l=>simp only[Rep] at hr ⊢;obtain ⟨cs,h1,h2⟩:=hr;exact ⟨cs,h1,ziI h h2⟩
 |_=>exact ziJ h hr
theorem zlG{l:List Nat}{p:PV S}(h:Gives P un o e (zak l bx) p)(hp:zlm p=true):Gives P un o e bx p:=λE N D H a w hs=>by
 obtain ⟨D1,H1,h1,h2,_,_⟩:=hs.freeze l;rcases h E N D1 H1 a w h1 with ⟨v,r1,r2⟩|⟨f,vs,r1,r2⟩;·exact .inl ⟨v,r1,zks hp r2⟩
 ·refine .inr ⟨f,vs,r1,Calls.mono r2 ?_⟩
  rintro x w' ⟨v,q1,q2,q3⟩
  exact ⟨v,q1,q2,zks hp q3⟩
theorem znE(hun:UniOk un)(ht:TbOk P un tb)(hor:SoundO P un orc)(hin:SoundI P un inl){K:PV S->Env S->Bxs S->Option R}{KX:Exit->Env S->Bxs S->Option R}(h:zei un tb orc inl o e bx K KX=some r)(hd:∀d,o.dst=some d->d<N.n)(hs:Holds un E D0 N e bx a w)
  {next:Act->World->Prop} {Q:Exit->Act->World->Prop} (hk:∀p e' bx',K p e' bx'=some r->Pres [] e e'->PresB bx bx'->∀a' w',Holds un E D0 N (push o.dst p e') bx' a' w'->next a' w')
  (hx:∀x e' bx',KX x e' bx'=some r->Pres [] e e'->PresB bx bx'->∀a' w',Holds un E D0 N e' bx' a' w'->Q x a' w'):o.wp P a w next Q:=by
 have quiet:zgD un tb orc inl o e bx (λp=>K p e bx)=some r->o.wp P a w next Q:=λh=>by obtain ⟨p,h1,h2⟩:=zeb hun ht hor hin h;exact zcc h2 hd hs λa' w' h3=>hk p e bx h1 (Pres.refl _ _) (PresB.refl _) a' w' h3
 have old:∀l,zcV un tb orc inl o e (zak l bx) K KX=some r->o.wp P a w next Q:=λl h =>
  znF hun ht hor hin h hd (hs.freeze l) (λp e' bx' h1 h2 h3=>hk p e' bx' h1 h2 ((PresB.freeze l bx).trans h3)) λx e' bx' h1 h2 h3=>hx x e' bx' h1 h2 ((PresB.freeze l bx).trans h3)
 have old0:zcV un tb orc inl o e bx K KX=some r->o.wp P a w next Q:=old []
 have zeA:∀l,zgD un tb orc inl o e (zak l bx) (λp=>bif zlm p then K p e bx else none)=some r->o.wp P a w next Q:=λl h=>by obtain ⟨p,h1,h2⟩:=zeb hun ht hor hin h;obtain ⟨h3,h4⟩:=zac h1;exact zcc (zlG h2 h3) hd hs λa' w' h5=>hk p e bx h4 (Pres.refl _ _) (PresB.refl _) a' w' h5
 unfold zei at h;split at h
 ·-- makeMap
  rename_i t ho;split at h
  ·rename_i kt k vt v hmp;obtain ⟨D,H,hs,hD,hG⟩:=hs;have hb:Below w.heap.size w (w.alloc (.map #[] 0)):=(Below.refl _ _).alloc (yAl _) _;obtain ⟨H',k1,k2⟩:=hs.newFix t (cs:=[.cont (.mp k v) []]) (v:= .map (some w.heap.size)) (size:=0) hb (heap_alloc_new w _) (.inl ⟨_,_,_,rfl,rfl,rfl⟩) rfl (by simp only[RepL,Rep,and_true,Wl.fixV];exact znM (l:=[]) trivial trivial) hd;unfold Oper.wp;have:(execOp a.eval o).run P w= .ok (.value (.map (some w.heap.size))) (w.alloc (.map #[] 0)):=by simp[execOp,ho];rfl
   rw[this];exact hk _ _ _ h (Pres.refl _ _) (PresB.append _ _) _ _ ⟨D,H',k1,hD,hG.trans k2⟩
  ·cases h
 ·-- mapUpdate
  rename_i t m x y ho;exact zi8 hun ht h (λw w' hrun=>by simp[execOp,ho,hrun]) hd hs hk
 ·-- insert
  rename_i t m x y ho;exact zi8 hun ht h (λw w' hrun=>by simp[execOp,ho,hrun]) hd hs hk
 ·-- makeSlice
  rename_i t n c ho;split at h
  ·rename_i k1 m k2 q T u hm hq hel;cases hrow:tb.ty.get t with
   |none=>rw[hrow] at hel;cases hel|some row =>
     rw[hrow] at hel;simp only[yAx] at hel;have hrw:=ht.ty t row hrow;obtain ⟨T',u',g1,g2,g3⟩:=hrw.slice (hrw.elem T u hel);rw[hel] at g1;simp at g1;obtain ⟨rfl,rfl⟩:=g1;split at h
     ·rename_i z hz;obtain ⟨D,H,hs,hD,hG⟩:=hs;have e1:=hs.ev hm;have e2:=hs.ev hq;simp only[Rep] at e1 e2;have fin:∀(l c':Nat),m=l->q=c'->c'<=1073741824->(l=c'\/l=0)->K (.row bx.length) e (bx++[.wr u T (List.replicate l z)])=some r->o.wp P a w next Q:=by
       intro l c' hl hc' hle hlc hK;obtain ⟨v',w',H',hrun,k3,k4⟩:=zoZ (P:=P) hun ht g2 g3 hz hs (kl:=k1) (kc:=k2) hle hlc hd;unfold Oper.wp;have:(execOp a.eval o).run P w= .ok (.value v') w':=by simp[execOp,ho,e1,e2,hl,hc',hrun]
       rw[this];exact hk _ _ _ hK (Pres.refl _ _) (PresB.append _ _) _ _ ⟨D,H',k3,hD,hG.trans k4⟩
      cases hnst:(zcv tb o&&(isSl u&&zeO n c)) with
      |true =>
        rw[hnst] at h;simp only[cond_true] at h;simp only[yAd] at hnst;unfold zjZ at h;split at h
        ·rename_i v rowT hrT _;split at h
         ·rename_i T2 v' helT hzT;obtain ⟨l,h1,h2⟩:=zas h;obtain ⟨j,rfl,h3,rfl⟩:=zgz h1;have:=ziL (a:=a) hnst.2.2 e1 e2;subst this;obtain ⟨v',w',H',hrun,k3,k4⟩:=znI (P:=P) (T2:=T2) g2 g3 (ht.ty T rowT hrT) hzT hs (kl:=k1) (kc:=k2) h3 hd;unfold Oper.wp;have:(execOp a.eval o).run P w= .ok (.value v') w':=by simp[execOp,ho,e1,e2,hrun]
          rw[this];exact hk _ _ _ h2 (Pres.refl _ _) (PresB.append _ _) _ _ ⟨D,H',k3,hD,hG.trans k4⟩
         ·cases h
        ·cases h
      |false =>
      rw[hnst] at h;simp only[cond_false] at h;cases hso:zeO n c with
      |true =>rw[hso] at h;obtain ⟨l,h1,h2⟩:=zas h;obtain ⟨j,rfl,h3,rfl⟩:=zgz h1;have:=ziL (a:=a) hso e1 e2;subst this;exact fin j j rfl rfl h3 (.inl rfl) h2
      |false =>rw[hso] at h;simp only[cond_false] at h;obtain ⟨h1,h2⟩:=zac h;obtain ⟨l,h3,h4⟩:=zas h2;obtain ⟨j,rfl,h5,_⟩:=zgz h3;exact fin 0 j (by simpa using h1) rfl h5 (.inr rfl) h4
     ·cases h
  ·cases h
 ·-- convert
  rename_i s d x ho;split at h
  ·rename_i l rs rd hx0 hs0 hd0;split at h
   ·rename_i T hel;obtain ⟨h1,h2⟩:=zac h;simp only[yAd] at h1;obtain ⟨l',h3,h4⟩:=zas h2;obtain ⟨h5,rfl⟩:=zb1 h3;obtain ⟨D,H,hs,hD,hG⟩:=hs;have e1:=hs.ev hx0;simp only[Rep] at e1;obtain ⟨T',u',g1,g2,g3⟩:=(ht.ty d rd hd0).slice (yAa h1.1.2);rw[hel] at g1;cases g1;obtain ⟨v',w',H',hrun,k3,k4⟩:=zn4 (P:=P) hs ((ht.ty s rs hs0).str (yAa h1.1.1)) g2 (zgN ht h1.2) (l:=l') (by simpa using h5) hd;unfold Oper.wp;have:(execOp a.eval o).run P w= .ok (.value v') w':=by simp[execOp,ho,e1,hrun]
    rw[this];exact hk _ _ _ h4 (Pres.refl _ _) (PresB.append _ _) _ _ ⟨D,H',by simpa using k3,hD,hG.trans k4⟩
   ·exact quiet h
  ·exact quiet h
 ·-- store
  rename_i t x y ho;split at h
  ·rename_i b u i off hxx;split at h
   ·rename_i p row v T T2 l hh hyy hrow hg;obtain ⟨h1,h2⟩:=zac h;simp only[yAd] at h1;have hoff:=yAa h1.1;subst hoff;unfold zh6 at h2;split at h2
    ·rename_i pl j k hpl;have hpl:=pl.down;subst hpl;split at h2
     ·rename_i v2 T2' m hgk;split at h2
      ·rename_i heq _;subst heq;obtain ⟨h3,h4⟩:=zac h2;simp only[yAd] at h3;have hT2:=yAa h3.1.1;subst hT2;have hji:=yAa h3.2.1;subst hji;have hbk:b≠k:=λe=>by rw[e] at h3;simp at h3
       obtain ⟨D,H,hs,hD,hG⟩:=hs;obtain ⟨w',H',hrun,k1,k2⟩:=zmp (P:=P) (ht.ty t row hrow) (yAa h1.2) hs hg hgk hbk (hs.ev hxx) (hs.ev hyy) (by simpa using h3.2.2) hd;unfold Oper.wp;have:(execOp a.eval o).run P w= .ok .skip w':=by simp[execOp,ho,hrun]
       rw[this];have hg':∃x,zae (zau (bx.map (Box.kill k .junk)) k .gone) b=some x/\Pe.fixed x=false/\∀T cs,x≠ .var T cs:=⟨_,by rw[zai hbk,za5,hg];rfl,rfl,λT cs h=>by cases h⟩;obtain ⟨x',q1,q2,q3⟩:=hg';exact hk _ _ _ h4 (Pres.kill _ _ _) (((PresB.kill k _ bx).trans (PresB.set (b:=(Box.wr _ _ _)) (by rw[za5,hgk];rfl) rfl λT' cs' he=>by cases he)).trans (PresB.set q1 q2 λT' cs' he=>absurd he (q3 _ _))) _ _ ⟨D,H',k1,hD,hG.trans k2⟩
      ·cases h2
     ·cases h2
    ·cases h2
   ·rename_i p row v T l hyy hrow hg;split at h
    ·rename_i heq _;subst heq;obtain ⟨y0,h1,h2⟩:=zas h;have h1:l[i]?=some y0:=h1;split at h2
     ·rename_i z hz;obtain ⟨D,H,hs,hD,hG⟩:=hs;obtain ⟨w',H',hrun,k1,k2⟩:=znn (P:=P) hun (ht.ty t row hrow) hs hg (hs.ev hxx) (hs.ev hyy) h1 hz hd;unfold Oper.wp;have:(execOp a.eval o).run P w= .ok .skip w':=by simp[execOp,ho,hrun]
      rw[this];exact hk _ _ _ h2 (Pres.refl _ _) (PresB.set hg rfl λT' cs' he=>by cases he) _ _ ⟨D,H',k1,hD,hG.trans k2⟩
     ·cases h2
    ·cases h
   ·rename_i p row T v l hyy hrow hg;split at h
    ·rename_i heq _;subst heq;obtain ⟨y0,h1,h2⟩:=zas h;have h1:(show List (El S v) from l)[i]?=some y0:=h1;split at h2
     ·rename_i z hz;obtain ⟨D,H,hs,hD,hG⟩:=hs;obtain ⟨w',H',hrun,k1,k2⟩:=zl1 (P:=P) hun (ht.ty t row hrow) hs hg (hs.ev hxx) (hs.ev hyy) h1 hz hd;unfold Oper.wp;have:(execOp a.eval o).run P w= .ok .skip w':=by simp[execOp,ho,hrun]
      rw[this];exact hk _ _ _ h2 (Pres.refl _ _) (PresB.set hg rfl λT' cs' he=>by cases he;exact ⟨_,rfl,rfl⟩) _ _ ⟨D,H',k1,hD,hG.trans k2⟩
     ·cases h2
    ·cases h
   ·cases h
  ·exact old0 h
 ·-- load
  rename_i t x ho;unfold zj0 at h;cases hlin:zcv tb o with
  |false=>rw[hlin] at h;exact old0 h|true =>
    rw[hlin] at h;simp only[cond_true] at h;split at h
    ·rename_i b v i off hxx;split at h
     ·rename_i u T T2 l row hg hrow;split at h
      ·rename_i pl hpl;have hpl:=pl.down;subst hpl;obtain ⟨h1,h2⟩:=zac h;simp only[yAd] at h1;have hoff:=yAa h1.1;subst hoff;obtain ⟨m,h3,h4⟩:=zas h2;obtain ⟨D,H,hs,hD,hG⟩:=hs;obtain ⟨v',H',hrun,k1⟩:=znJ (P:=P) (ht.ty t row hrow) (by simpa using h1.2) hs hg (hs.ev hxx) h3 hd;unfold Oper.wp;have:(execOp a.eval o).run P w= .ok (.value v') w:=by simp[execOp,ho,hrun]
       rw[this];exact hk _ _ _ h4 (Pres.refl _ _) ((PresB.set hg rfl λT' cs' he=>by cases he).trans (PresB.append _ _)) _ _ ⟨D,H',k1,hD,hG⟩
      ·cases h
     ·cases h
     ·exact old0 h
    ·exact old0 h
 ·-- indexAddr
  rename_i t x i ho;unfold zj1 at h;cases hlin:zcv tb o with
  |false=>rw[hlin] at h;exact old0 h|true =>
    rw[hlin] at h;simp only[cond_true] at h;split at h
    ·rename_i b hxx;split at h
     ·rename_i u T T2 l hh k n row hg hi hrow;obtain ⟨h1,h2⟩:=zac h;simp only[yAd] at h1;obtain ⟨j,h3,h4⟩:=zas h2;obtain ⟨rfl,hj⟩:=zgP h3;obtain ⟨D,H,hs,hD,hG⟩:=hs;have hiv:=hs.ev hi;simp only[Rep] at hiv;obtain ⟨v',hrun,hrep⟩:=znK (P:=P) (k:=k) (ht.ty t row hrow) hs hg (hs.ev hxx) (yAa h1.1) (zcI h1.2) hj;unfold Oper.wp;have:(execOp a.eval o).run P w= .ok (.value v') w:=by simp[execOp,ho,hiv,hrun]
      rw[this];exact hk _ _ _ h4 (Pres.refl _ _) (PresB.refl _) _ _ ⟨D,H,hs.step hs.inn hs.boxes hs.slots hd hrep,hD,hG⟩
     ·cases h
     ·exact old0 h
    ·exact old0 h
 ·-- buildSlice
  rename_i t n parts ho;cases hlin:zcv tb o with
  |false=>rw[hlin] at h;exact old0 h|true =>
    rw[hlin] at h;simp only[cond_true] at h;split at h
    ·rename_i l T u hp hel;cases hrow:tb.ty.get t with
     |none=>rw[hrow] at hel;cases hel|some row =>
       rw[hrow] at hel;simp only[yAx] at hel;have hrw:=ht.ty t row hrow;obtain ⟨T',u',g1,g2,g3⟩:=hrw.slice (hrw.elem T u hel);rw[hel] at g1;simp at g1;obtain ⟨rfl,rfl⟩:=g1;obtain ⟨h1,h2⟩:=zac h;simp only[yAd,yAP] at h1;split at h2
       ·rename_i xs hxs;obtain ⟨D,H,hs,hD,hG⟩:=hs.freeze (zdI (l.map (·.2)));obtain ⟨v',w',H',hrun,k1,k2⟩:=zlP (P:=P) hun g2 g3 hs hp h1.1.2 (yAa h1.1.1) h1.2 hxs hd;unfold Oper.wp;have hmap:(parts.map λ(x:Nat×Operand)=>match x with|(i,x)=>(i,a.eval x))=(parts.toList.map λp=>(p.1,a.eval p.2)).toArray:=by cases parts;simp
        have:(execOp a.eval o).run P w= .ok (.value v') w':=by simp[execOp,ho,hmap,hrun]
        rw[this];rw[zaM] at k1;exact hk _ _ _ h2 (Pres.refl _ _) ((PresB.freeze _ _).trans (PresB.append _ _)) _ _ ⟨D,H',k1,hD,hG.trans k2⟩
       ·cases h2
    ·cases h
 ·-- slice
  rename_i t x lo hi ho;split at h
  ·rename_i b hxx;split at h
   ·rename_i u T l row hg hrow;obtain ⟨h1,h2⟩:=zac h;simp only[yAd] at h1;split at h2
    ·rename_i k i k' j hlo hhi;obtain ⟨s,h3,h4⟩:=zas h2;obtain ⟨i',j',h0,rfl,h5,h6,rfl⟩:=zec h3;have hi0:i'=0:=by omega
     subst hi0;obtain ⟨D,H,hs,hD,hG⟩:=hs;obtain ⟨T',u',g1,g2,g3⟩:=(ht.ty t row hrow).slice (yAa h1.1);have hu:=zcI h1.2;rw[g1] at hu;simp at hu;subst hu;have e1:lo.map a.eval=none\/∃k,lo.map a.eval=some (.int k 0):=by
      rcases zfw hs (x:=lo) (d:=0) (i:=0) hlo (.inl rfl) with g|g;·exact .inl g.1
      ·exact .inr g
     have e2:(hi.map a.eval=none/\j'=l.length)\/∃k,hi.map a.eval=some (.int k (j':Int)):=by
      rcases zfw hs (x:=hi) (d:=len l) hhi (by cases hi<;>simp at hhi ⊢;exact hhi.2.symm) with g|g;·exact .inl ⟨g.1,by have:=g.2;unfold len at this;omega⟩
      ·exact .inr g
     obtain ⟨v',H',hrun,k1,k2⟩:=zno (P:=P) g2 g3 hs hg (hs.ev hxx) h6 e1 e2 hd;unfold Oper.wp;have:(execOp a.eval o).run P w= .ok (.value v') w:=by simp[execOp,ho,hrun]
     rw[this];simp only[yBC,Nat.sub_zero] at h4;exact hk _ _ _ h4 (Pres.kill _ _ _) ((PresB.kill b _ bx).trans (PresB.set (b:=(Box.wr _ _ _)) (by rw[za5,hg];rfl) rfl λT' cs' he=>by cases he)) _ _ ⟨D,H',k1,hD,hG.trans k2⟩
    ·cases h2
   ·exact old0 h
  ·exact old0 h
 ·-- call
  rename_i c ho;split at h
  ·-- append
   rename_i hc;split at h
   ·rename_i s x t hargs htw;split at h;·cases h
    ·rename_i T u hel;have hfr:=hs.freeze (zcA x);have fin:∀{new:List (El S u)},zg1 un (zak (zcA x) bx) u x=some new->∀{D H},St un E N D H e (zak (zcA x) bx) a w->∃s0 x0 row,tb.ty.get t=some row/\P.underlying t=some (.slice T)/\ElOk P un T u/\Rep un (ids H) D w s (a.eval s0)/\Rep un (ids H) D w (.sl u new) (a.eval x0)/\∀v' w',(Builtin.append_ #[t,t] o.type #[a.eval s0,a.eval x0]).run P w= .ok v' w'->(execOp a.eval o).run P w= .ok (.value v') w':=by
      intro new hnew D H hs;cases hrow:tb.ty.get t with
      |none=>rw[hrow] at hel;cases hel|some row =>
        rw[hrow] at hel;simp only[yAx] at hel;have hrw:=ht.ty t row hrow;obtain ⟨T',u',g1,g2,g3⟩:=hrw.slice (hrw.elem T u hel);rw[hel] at g1;simp at g1;obtain ⟨rfl,rfl⟩:=g1;obtain ⟨args,hca⟩:∃args:List Operand,c.args=⟨args⟩:=⟨c.args.toList,by cases c.args;rfl⟩;have hr:=hs.evs hargs;rw[hca] at hr;have hat:c.argTypes= #[t,t]:=by obtain ⟨tl,htl⟩:∃l:List Nat,c.argTypes=⟨l⟩:=⟨c.argTypes.toList,by cases c.argTypes;rfl⟩;rw[htl] at htw ⊢;rcases tl with _|⟨x1,_|⟨x2,_|⟨x3,_⟩⟩⟩<;>simp[zlf] at htw;obtain ⟨q1,q2⟩:=zac htw;cases q2;rw[yAa q1]
        rcases args with _|⟨s0,_|⟨x0,_|⟨_,_⟩⟩⟩<;>simp only[yAk,yBF,RepL,and_true,and_false] at hr;refine ⟨s0,x0,row,rfl,g2,g3,hr.1,?_,λv' w' hrun=>?_⟩;·have:=(zbm hun (un:=un) hnew (hs.fz1 hun hr.2)).2;simpa only[inj] using this
        ·simp[execOp,ho,resolve,hc,hca,hat,invoke,builtin,hrun]
     split at h
     ·-- onto nothing
      cases hlin:zcv tb o with
      |false=>rw[hlin] at h;exact old _ h|true =>
        rw[hlin] at h;simp only[cond_true] at h;split at h;·rename_i new hnew;obtain ⟨l,h1,h2⟩:=zas h;obtain ⟨h3,rfl⟩:=zb1 h1;obtain ⟨D,H,hs,hD,hG⟩:=hfr;obtain ⟨s0,x0,row,f1,f2,f3,f4,f5,f6⟩:=fin hnew hs;simp only[Rep] at f4;obtain ⟨v',w',hrun,hst⟩:=zhm (P:=P) (ty:=o.type) hun f2 f3 hs f5 (by simpa using h3) hD hG hd;rw[<-f4] at hrun;unfold Oper.wp;rw[f6 v' w' hrun];rw[zaM] at hst;exact hk _ _ _ h2 (Pres.refl _ _) ((PresB.freeze _ _).trans (PresB.append _ _)) _ _ hst
        ·cases h
     ·rename_i b;split at h
      ·rename_i v T' oldl hg;split at h;·rename_i new heq hnew _;subst heq;obtain ⟨h1,h2⟩:=zac h;have hTT:=yAa h1;subst hTT;obtain ⟨l,h3,h4⟩:=zas h2;obtain ⟨h5,rfl⟩:=zb1 h3;obtain ⟨D,H,hs,hD,hG⟩:=hfr;obtain ⟨s0,x0,row,f1,f2,f3,f4,f5,f6⟩:=fin hnew hs;obtain ⟨v',w',hrun,hst⟩:=zm8 (P:=P) (ty:=o.type) hun f2 f3 hs hg f4 f5 h5 hD hG hd;unfold Oper.wp;rw[f6 v' w' hrun];exact hk _ _ _ h4 (Pres.kill _ _ _) (((PresB.freeze _ _).trans (PresB.kill b _ _)).trans (PresB.set (b:=(Box.wr _ _ _)) (by rw[za5,hg];rfl) rfl λT' cs' he=>by cases he)) _ _ hst
       ·cases h
      ·exact old _ h
     ·exact old0 h
   ·cases h
  ·split at h
   ·rename_i f l hen;split at h;·rename_i g hsig;obtain ⟨hen2,hok⟩:=ht.lin f g hsig;exact zpJ hun hen ho hen2 hok h (λt r hr=>hor.l f g t r hr) hd hs hk hx
    ·rename_i rs _;cases hl:znT bx l rs with
     |true=>rw[hl] at h;exact zeA _ h|false=>rw[hl] at h;exact old _ h
    ·rename_i rs _;cases hl:znT bx l rs with
     |true=>rw[hl] at h;exact zeA _ h|false=>rw[hl] at h;exact old _ h
    ·exact old _ h
   ·cases h
  ·exact old0 h
 ·exact old0 h
end
end Pe
end
section
/- Builders, and rows that a callee zaT to. -/
namespace Pe
open Go Go.RowKit
variable{S:Nat->Type}
section
variable{P:Program}{un:Uni S}{tb:Tb S}{orc:Orc S}{inl:Inl S}{E:Wl.Ctx}{D0:Dat}{N:Wl.Fr}{D D':Dat}{H:List Wl.Res}{e:Env S}{bx:Bxs S}{a:Act}{w w':World}{o:Oper}{R:Type}{r:R}
theorem znk(hin:In E D H w){b i g:Nat}{idv:Value}{size:Nat}{ob ob':Obj}{v v':Value}{T:TypeId}{m n n':Nat}{xs xs':List Value}
  (hb:H[b]?=some (.fix idv (some g) size ob)) (hr:H[i]?=some (.wr v T m n xs)) (hbi:b≠i)
  (hok':Wl.fixOk idv (some g) size ob') (hob':w'.heap[g]?=some ob') (hown:w'.ownsRow 0 T m v' n' xs') (hblk:∀k,v'.ownBlock=some k->v.ownBlock=some k\/w.heap.size<=k) (hne':v'.ownBlock≠some g) (keep:BldKeep g v w w') (hsh:zes ob'=zes ob) :
  In E D ((H.set i (.wr v' T m n' xs')).set b (.fix idv (some g) size ob')) w'/\Ge D w D w':=by
 have hbm:=yAb hb;have hrm:=yAb hr;have hhb:=hin.res _ hbm;have hhr:=hin.res _ hrm;have hgl:g<w.heap.size:=(yAq.1 (hhb.2 g rfl).2).1;have hgl':g<w'.heap.size:=(yAq.1 hob').1;have hmay:∀k,v'.ownBlock=some k->E.may k:=λk hk=>by
  rcases hblk k hk with h|h;·exact hhr.2 k h
  ·exact .inl (yAG hin.out.size h)
 have h1:w.grownBy { w' with heap:=w'.heap.setIfInBounds g ob } v.ownBlock:=by
  refine ⟨keep.os,keep.tape,keep.output,by simpa using keep.size,λk hk hne=>?_⟩;show (w'.heap.setIfInBounds g ob)[k]?=_;rw[yAJ];by_cases hkg:g=k;·subst hkg;rw[if_pos rfl,if_pos hgl'];exact (hhb.2 g rfl).2.symm
  ·rw[if_neg hkg];exact keep.block k hk (λh=>hkg h.symm) λh=>hne h.symm
 have hin1:In E D (H.set i (.wr v' T m n' xs')) { w' with heap:=w'.heap.setIfInBounds g ob }:=by
  refine hin.turn hr h1 ⟨owns_of' hown ?_,hmay⟩ (λk hk=>hblk k hk) (λ_ _ h=>.inl h) (λk o hk=>yAn (hin.lt k o hk) h1.size) (λk hk o _ hd=>?_) (λhe=>by cases he);·intro k hk;show (w'.heap.setIfInBounds g ob)[k]?=_;rw[yAJ,if_neg (λh=>hne' (by rw[h];exact hk))]
  ·rcases hblk k hk with h|h;·exact hin.apart _ hrm k h o trivial hd
   ·have:=hin.lt k o hd;omega
 have hb1:(H.set i (.wr v' T m n' xs'))[b]?=some (.fix idv (some g) size ob):=by rw[yAu (Ne.symm hbi)];exact hb
 have h2:({ w' with heap:=w'.heap.setIfInBounds g ob }:World).grownBy w' (some g) :=
  ⟨rfl,rfl,rfl,by simp,λk hk hne=>by show w'.heap[k]?=(w'.heap.setIfInBounds g ob)[k]?;rw[yAJ,if_neg (λh=>hne (by rw[h]))]⟩
 have hin2:=hin1.turn (w':=w') (D':=D) (r':= .fix idv (some g) size ob') hb1 h2 ⟨hok',λg0 hg0=>by cases hg0;exact ⟨(hhb.2 g rfl).1,hob'⟩⟩ (λk hk=>.inl hk) (λ_ _ h=>.inl h) (λk o hk=>yAn (hin.lt k o hk) keep.size) (λk hk o _ hd=>by cases hk;exact hin.apart _ hbm g rfl o trivial hd) (λ_=>⟨rfl,rfl,.inr ⟨λ_ hg=>hg,hsh⟩⟩);refine ⟨hin2,.of (λ_ _ h=>h) λk o hk=>keep.block k (hin.lt k o hk) (λh=>?_) λh=>?_⟩;·subst h;exact hin.apart _ hbm k rfl o trivial hk
 ·exact hin.apart _ hrm k h o trivial hk
where
 owns_of' {w w':World} {T:TypeId} {size:Nat} {v:Value} {n:Nat} {xs:List Value} (h:w.ownsRow 0 T size v n xs) (hw:∀g,v.ownBlock=some g->w'.heap[g]?=w.heap[g]?):w'.ownsRow 0 T size v n xs:=Wl.owns_of h hw
theorem zqo(hs:St un E N D H e bx a w){b i:Nat}{T T1 Eb:TypeId}{l:List Int}{x:Value}(hg:zae bx b=some (.var T [.row i]))(hi:zae bx i=some (.wr (.int .u8) Eb l))(hx:Rep un (ids H) D w (.bref b T1) x) :
  ∃g v p A n c size xs,x= .pointer (some ⟨g,0,none⟩)/\H[b]?=some (.fix (.tuple #[.pointer (some ⟨g,0,none⟩),.int .i64 (T1:Nat)]) (some g) size (.cells #[p,v] T1 (0,0)))/\H[i]?=some (.wr v Eb 1 l.length xs)/\v= .slice A n c/\BldAt T1 Eb g v xs w/\xs.length=l.length/\ziu un D w (.int .u8) l xs/\v.oneCell'=true/\v.cells= #[v]:=by
 obtain ⟨r,hr1,hr2⟩:=hs.boxes.get hg;obtain ⟨s,hs1,hs2⟩:=hs.boxes.get hi;simp only[Rep] at hx;obtain ⟨g,hid,rfl⟩:=hx;simp only[ids,yAg,hr1,yAf,yAe] at hid;cases r with
 |fix idv g0 size ob =>
   simp only[zaf,Prod.mk.injEq,true_and] at hid;subst hid;have hh:=hs.inn.res _ (yAb hr1);rcases hh.1 with ⟨_,_,_,he,_⟩|⟨_,_,_,_,_,_,he,_⟩|⟨he,_⟩|⟨g1,T2,p,A,n,c,he,rfl,rfl,hp⟩;·cases he
   ·cases he
   ·cases he
   ·simp only[Value.tuple.injEq,yB3,yBp,Value.pointer.injEq,yAe,Addr.mk.injEq,and_true,Value.int.injEq,true_and] at he;obtain ⟨rfl,he⟩:=he;have he:T1=T2:=by exact_mod_cast he
    subst he;simp only[BoxRep,Wl.fixV,RepL,Rep,and_true] at hr2;obtain ⟨hv,h1,h2⟩:=hr2;simp only[List.getD_cons_succ,List.getD_cons_zero] at hv h1 h2;simp only[ids,yAg,hs1,yAf,yAe] at hv;cases s with
    |wr v Eb' size' n' xs =>
      simp only[zaf,Prod.mk.injEq,true_and] at hv;subst hv;simp only[BoxRep] at hs2;obtain ⟨rfl,rfl,rfl,hel⟩:=hs2;have hhs:=hs.inn.res _ (yAb hs1);have hxl:xs.length=l.length:=by have h7:=hhs.1.1;rw[show U.size un (.int .u8)=1 from rfl,yA7] at h7;exact h7
      refine ⟨g,_,p,A,n,c,size,xs,rfl,hr1,hs1,rfl,⟨⟨p,A,n,c,(hh.2 g rfl).2,rfl,hp⟩,?_,λhk=>?_⟩,hxl,hel,h1,h2⟩;·rw[hxl];exact hhs.1
      ·have hbi:b≠i:=λh=>by subst h;rw[hr1] at hs1;cases hs1
       exact hbi (zaO hs.inn.disj hr1 hs1 rfl hk)
    |_=>simp[BoxRep] at hs2
 |ref=>simp[BoxRep] at hr2|_=>simp[zaf] at hid
theorem zm5(hs:St un E N D H e bx a w){b i g:Nat}{T1 T2 Eb:TypeId}{l l':List Int}{v p:Value}{size:Nat}{xs ys:List Value}(_:zae bx b=some (.var T2 [.row i]))(_:zae bx i=some (.wr (.int .u8) Eb l))(hbi:b≠i)
  (hb1:H[b]?=some (.fix (.tuple #[.pointer (some ⟨g,0,none⟩),.int .i64 (T1:Nat)]) (some g) size (.cells #[p,v] T1 (0,0)))) (hi1:H[i]?=some (.wr v Eb 1 l.length xs)) (hput:zle T1 Eb g v ys w w') (hyl:ys.length=l'.length) (hseg:ziu un D w (.int .u8) l' ys) {dst:Option Nat} (hd:∀d,dst=some d->d<N.n)
  {q:PV S} {x:Value} (hq:∀nu D w,Rep un nu D w q x) :
  ∃H',St un E N D H' (push dst q (zcW i .junk e)) (zau (zau (bx.map (Box.kill i .junk)) i (.wr (.int .u8) Eb l')) b (.var T2 [.row i])) (a.put dst x) w'/\Ge D w D w':=by
 obtain ⟨v',⟨⟨p',A',n',c',hob,hve,hp'⟩,hown,hne⟩,hblk,keep⟩:=hput;have hh:=hs.inn.res _ (yAb hb1);obtain ⟨hin,hge⟩:=znk hs.inn hb1 hi1 hbi (.inr (.inr (.inr ⟨g,T1,p',A',n',c',rfl,rfl,by rw[hve],hp'⟩))) hob hown hblk hne keep rfl;have hkept:=zap hs.inn.out hin.out;have hbl:i<H.length:=(yAc.1 hi1).1;have hbb:b<H.length:=(yAc.1 hb1).1
 have hids:ids ((H.set i (.wr v' Eb 1 ys.length ys)).set b (.fix (.tuple #[.pointer (some ⟨g,0,none⟩),.int .i64 (T1:Nat)]) (some g) size (.cells #[p',v'] T1 (0,0))))=ids (H.set i (.wr v' Eb 1 ys.length ys)) :=
  zaq (r:= .fix (.tuple #[.pointer (some ⟨g,0,none⟩),.int .i64 (T1:Nat)]) (some g) size (.cells #[p,v] T1 (0,0))) (by rw[yAu (Ne.symm hbi)];exact hb1) rfl
 have hn:=zfF (H:=H) (r':= .wr v' Eb 1 ys.length ys) hi1 rfl;have hnb:(ids H)[i]?=some (false,v):=by simp[ids,hi1,zaf]
 have hy:Rep un (ids (H.set i (.wr v' Eb 1 ys.length ys))) D w' .junk v:=by simp only[Rep]
 refine ⟨_,hs.step hin ?_ (λj z hj=>?_) hd (hq _ _ _),hge⟩
 ·rw[hids];refine ((zbg hge hkept hnb hy hn hs.boxes).set ?_).set ?_;·simp only[BoxRep];exact ⟨trivial,rfl,hyl,λj z hj=>(hseg j z hj).mono hge⟩
  ·simp only[BoxRep,Wl.fixV,RepL,Rep,and_true,List.getD_cons_succ,List.getD_cons_zero];refine ⟨?_,zeu hown⟩;simp[ids,hbl,zaf]
 ·rw[hids];rw[za7] at hj;cases hl:zan e j with
  |none=>rw[hl] at hj;cases hj|some p0 =>rw[hl] at hj;simp only[yAf,yAe] at hj;subst hj;exact zci hge hnb hy hn (hs.slots j p0 hl)
theorem zgt{l l':List Int}{xs ys:List Value}(hx:xs.length=l.length)(h:ziu un D w (.int .u8) l xs)(h':ziu un D w (.int .u8) l' ys):ziu un D w (.int .u8) (l++l') (xs++ys):=by
 intro i x hi;have hi:(l++l':List Int)[i]?=some x:=hi;have hsz:U.size un (.int .u8)=1:=rfl;rw[hsz,yA7];rcases yAR i l.length with hlt|hge
 ·rw[yAi hlt] at hi;have:=h i x hi;rw[hsz,yA7] at this;rw[zel _ _ (by omega)];exact this
 ·rw[yAz hge] at hi;have:=h' (i - l.length) x hi;rw[hsz,yA7] at this;have he:i=xs.length+(i - l.length):=by omega
  rw[he,zcJ];exact this
theorem ziF(l:List Int):ziu un D w (.int .u8) l (l.map (Value.int .u8)):=by
 intro i x hi;have hsz:U.size un (.int .u8)=1:=rfl;rw[hsz,yA7];have hl:i<l.length:=(yAc.1 hi).1;have:((l.map (Value.int .u8)).drop i).take 1=[.int .u8 x]:=by
  apply yAK;intro j;cases j with
  |zero =>have hi':l[i]?=some x:=hi;simp only[yAw,yAt,yAg,yBk,Nat.zero_lt_one,if_true];rw[hi'];rfl
  |succ j=>simp[yAw]
 rw[this];exact .int .nil
theorem zjh{l:List Int}{xs:List Value}(hx:xs.length=l.length)(h:ziu un D w (.int .u8) l xs):xs=l.map (Value.int .u8):=by
 apply yAK;intro i;have hsz:U.size un (.int .u8)=1:=rfl;rcases yAR i l.length with hlt|hge
 ·have h1:=h i _ (yAh hlt);rw[hsz,yA7] at h1;have h2:(xs.drop i).take 1=[xs[i]]:=by
   rw[List.take_one];simp[hx,hlt]
  rw[h2] at h1;have h3:xs[i]= .int .u8 l[i]:=by
   generalize xs[i]=y at h1;cases h1 with
   |int h'=>rfl
  rw[yAg,yAh hlt,yAh (by omega),h3];rfl
 ·rw[yBf (by omega),yBf (by simpa using hge)]
theorem zl0{l:List Int}{s:List UInt8}(h:zof l=some s):zaj s=l:=by
 obtain ⟨h1,h2⟩:=zac h;cases h2;have h1:=yAO.1 h1;simp only[zaj,zdH,List.map_map]
 conv=>rhs;rw[<-List.map_id l]
 apply List.map_congr_left;intro n hn;have:=h1 n hn;simp only[yAd,decide_eq_true_eq] at this;simp only[Function.comp,id];rw[UInt8.toNat_ofNat_of_lt' (by show n.toNat<256;omega)];omega
theorem znp{α:Type}{l:List α}{i:Nat}{x:α}(h:l[i]?=some x):l.set i x=l:=by
 apply yAK;intro j;by_cases hij:i=j;·subst hij;rw[yAB (yAc.1 h).1,h]
 ·rw[yAu hij]
theorem zqn{c:Call}{f k:Nat}{T Eb:TypeId}{l:List (PV S)}(hen:zcT e c=some (f,l))(ho:o.op= .call c)(hcf:∀args w,(callFunc f args).run P w= .ok (.enter f args) w)(hok:BldOk P f k T Eb)
  {K:PV S->Env S->Bxs S->Option R} (h:zis e bx k T Eb l K=some r) (hd:∀d,o.dst=some d->d<N.n) (hs:Holds un E D0 N e bx a w) {next:Act->World->Prop} {Q:Exit->Act->World->Prop}
  (hk:∀p e' bx',K p e' bx'=some r->Pres [] e e'->PresB bx bx'->∀a' w',Holds un E D0 N (push o.dst p e') bx' a' w'->next a' w'):o.wp P a w next Q:=by
 obtain ⟨D,H,hs,hD,hG⟩:=hs;obtain ⟨vs,g1,g2⟩:=zcF hs hen ho hcf;unfold Oper.wp;rw[g1];unfold zis at h;split at h
 ·rename_i b T1 rest;split at h
  ·rename_i T2 i hg;split at h
   ·rename_i E1 l0 hi;change List Int at l0;obtain ⟨hc,h9⟩:=zac h;clear h
    rename _=some r=>h
    simp only[yAd,yA0] at hc;obtain ⟨⟨e1,e2⟩,e3,e4⟩:=hc;have e1:=yAa e1;have e2:=yAa e2;have e3:=yAa e3;subst e1;subst e3;have hbi:b≠i:=λhh=>by rw[hh,Nat.beq_refl] at e4;cases e4
    obtain ⟨x,vs,rfl⟩:∃x vs',vs=x::vs':=by
     cases vs with
     |nil=>simp[RepL] at g2|cons x vs=>exact ⟨x,vs,rfl⟩
    simp only[RepL] at g2;obtain ⟨g,v,p,A,n,cc,size,xs,rfl,q1,q2,q3,q4,q5,q6,q7,q8⟩:=zqo hs hg hi g2.1;have hmt:=hok g v xs w q4
    have pres:∀y:Box S,PresB bx (zau (zau (bx.map (Box.kill i .junk)) i y) b (.var T2 [.row i])):=λy =>
     ((PresB.kill i .junk bx).trans (PresB.set (b:= .wr (.int .u8) E1 l0) (by rw[za5,hi];rfl) rfl λT' cs' he=>by cases he)).trans
       (PresB.set (b:= .var T2 [.junk]) (by rw[zai hbi,za5,hg];simp[Box.kill,PV.kill]) rfl λT' cs' he=>by cases he;exact ⟨_,rfl,rfl⟩)
    split at h
    ·-- WriteByte
     rename_i c0;obtain ⟨l1,h1,h2⟩:=zas h;obtain ⟨h3,rfl⟩:=zb1 h1
     match vs,g2.2 with
     |[],g3=>simp[RepL] at g3|_::_::_,g3=>simp[RepL] at g3|[y],g3 =>simp only[RepL,Rep,and_true] at g3;subst g3;refine (hmt c0 (by rw[q5];exact h3)).mono λz w1 hz=>?_;obtain ⟨rfl,hput⟩:=hz;obtain ⟨H',k1,k2⟩:=zm5 hs hg hi hbi q1 q2 hput (l':=l0++[c0]) (q:= .nilIface) (x:= .nilIface) (by simp[q5]) (zgt q5 q6 (ziF (un:=un) (D:=D) (w:=w) [c0])) hd (λnu D w=>by simp only[Rep]);exact hk _ _ _ h2 (Pres.kill _ _ _) (pres _) _ _ ⟨D,H',k1,hD,hG.trans k2⟩
    ·-- WriteString
     rename_i s0;obtain ⟨l1,h1,h2⟩:=zas h;obtain ⟨h3,rfl⟩:=zb1 h1
     match vs,g2.2 with
     |[],g3=>simp[RepL] at g3|_::_::_,g3=>simp[RepL] at g3|[y],g3 =>
       simp only[RepL,Rep,and_true] at g3;subst g3;have hbl:(zaj s0).length=s0.length:=by simp[zaj]
       refine (hmt s0 (by rw[q5,<-hbl];exact h3)).mono λz w1 hz=>?_;obtain ⟨rfl,hput⟩:=hz;obtain ⟨H',k1,k2⟩:=zm5 hs hg hi hbi q1 q2 hput (l':=l0++zaj s0) (q:= .tup [.int .i64 (len s0),.nilIface]) (x:= .tuple #[.int .i64 (s0.length:Int),.nilIface]) (by simp[q5]) (zgt q5 q6 (ziF (un:=un) (D:=D) (w:=w) _)) hd (λnu D w=>by simp only[Rep];exact ⟨_,rfl,by simp[RepL,Rep,len]⟩);exact hk _ _ _ h2 (Pres.kill _ _ _) (pres _) _ _ ⟨D,H',k1,hD,hG.trans k2⟩
    ·-- String
     obtain ⟨s0,h1,h2⟩:=zas h;have hxs:=zjh q5 q6
     match vs,g2.2 with
     |_::_,g3=>simp[RepL] at g3|[],_ =>
       refine (hmt s0 (by rw[zl0 h1];exact hxs)).mono λz w1 hz=>?_;obtain ⟨rfl,hgr⟩:=hz;have him:=yAb q2
       have hin:In E D (H.set i (.ref (zaf (.wr v E1 1 l0.length xs)))) w1 :=
        hs.inn.turn q2 hgr trivial (λk hk=>by cases hk) (λ_ _ hk=>.inl hk) (λk o hk=>yAn (hs.inn.lt k o hk) hgr.size) (λk hk=>by cases hk) (λhk=>by cases hk)
       have hge:Ge D w D w1:=(.of (λ_ _ h=>h) λk o hk=>(hgr.block k (hs.inn.lt k o hk) λhkb=>hs.inn.apart _ him k hkb.symm o trivial hk));have hkept:=zap hs.inn.out hin.out;have hids:ids (H.set i (.ref (zaf (.wr v E1 1 l0.length xs))))=ids H:=zaq q2 rfl;have hnb:(ids H)[i]?=some (false,v):=(by simp[ids,q2,zaf]);have hy:Rep un (ids H) D w1 .junk v:=(by simp only[Rep]);have hbx:BxRep un (ids H) D w1 E (zau (zau (bx.map (Box.kill i .junk)) i .gone) b (.var T2 [.junk])) (H.set i (.ref (zaf (.wr v E1 1 l0.length xs)))):=(by have h5:=(zbg hge hkept hnb hy (λj x hx=>.inl hx) hs.boxes).set (i:=i) (b:= .gone) (r:= .ref (zaf (.wr v E1 1 l0.length xs))) (by simp only[BoxRep]);have h6:=h5.set (i:=b) (b:= .var T2 [.junk]) (r:= .fix (.tuple #[.pointer (some ⟨g,0,none⟩),.int .i64 (T1:Nat)]) (some g) size (.cells #[p,v] T1 (0,0))) (by simp only[BoxRep,RepL,Rep,and_true]);rwa[znp (by rw[yAu (Ne.symm hbi)];exact q1)] at h6);refine hk _ _ _ h2 (Pres.kill _ _ _) ?_ _ _ ⟨D,_,hs.step (p:= .str s0) hin (by rw[hids];exact hbx) (λj z hj=>?_) hd (by simp only[Rep]),hD,hG.trans hge⟩
       ·exact ((PresB.kill i .junk bx).trans (PresB.set (b:= .wr (.int .u8) E1 l0) (by rw[za5,hi];rfl) rfl λT' cs' he=>by cases he)).trans
         (PresB.set (b:= .var T2 [.junk]) (by rw[zai hbi,za5,hg];simp[Box.kill,PV.kill]) rfl λT' cs' he=>by cases he;exact ⟨_,rfl,rfl⟩)
       ·rw[hids];rw[za7] at hj;cases hl:zan e j with
        |none=>rw[hl] at hj;cases hj|some p0 =>rw[hl] at hj;simp only[yAf,yAe] at hj;subst hj;exact zci hge hnb hy (λj x hx=>.inl hx) (hs.slots j p0 hl)
    ·-- Len
     match vs,g2.2 with
     |_::_,g3=>simp[RepL] at g3|[],_ =>refine Calls.mono (f:=f) hmt λz w1 hz=>?_;obtain ⟨rfl,rfl⟩:=hz;exact hk _ _ _ h (Pres.refl _ _) (PresB.refl _) _ _ ⟨D,H,hs.step hs.inn hs.boxes hs.slots hd (by simp only[Rep];rw[q5];rfl),hD,hG⟩
    ·cases h
   ·cases h
  ·cases h
 ·cases h
theorem In.dom{n:Nat}(h:In E D H w')(hb:∀r∈H,∀g,r.has g->g<n):In E (λk o=>D k o\/(n<=k/\k<w'.heap.size)) H w' :=
 ⟨h.out,λk o hk=>hk.elim (h.lt k o) λh=>h.2,h.res,λr hr g hg o hf hd=>hd.elim (h.apart r hr g hg o hf) λh2=>by have:=hb r hr g hg;omega,h.disj,h.lent⟩
theorem zo8(hun:UniOk un){c:Call}{f:FuncId}{u:U}{T:TypeId}{us:List (Option U)}{l:List (PV S)}(hen:zcT e c=some (f,l))(ho:o.op= .call c)(hcf:∀args w,(callFunc f args).run P w= .ok (.enter f args) w)
  {ask:List (PV S)->List (El S u)->Option (List (El S u))} (hask:∀args l l',ask args l=some l'->zqx P un f u T args l l')
  {K:PV S->Env S->Bxs S->Option R} (h:zgk un e bx u T us l ask K=some r) (hd:∀d,o.dst=some d->d<N.n) (hs:Holds un E D0 N e bx a w) {next:Act->World->Prop} {Q:Exit->Act->World->Prop}
  (hk:∀p e' bx',K p e' bx'=some r->Pres [] e e'->PresB bx bx'->∀a' w',Holds un E D0 N (push o.dst p e') bx' a' w'->next a' w'):o.wp P a w next Q:=by
 obtain ⟨D,H,hs,hD,hG⟩:=hs;obtain ⟨vs,g1,g2⟩:=zcF hs hen ho hcf;unfold Oper.wp;rw[g1];unfold zgk at h;have htup:∀nu D w,Rep un nu D w (.tup []) (.tuple #[]):=λnu D w=>by simp only[Rep];exact ⟨[],rfl,by simp[RepL]⟩
 split at h
 ·rename_i rest;split at h
  ·rename_i args hargs;obtain ⟨l',h1,h2⟩:=zas h;obtain ⟨x,vs,rfl⟩:∃x vs',vs=x::vs':=by
    cases vs with
    |nil=>simp[RepL] at g2|cons x vs=>exact ⟨x,vs,rfl⟩
   simp only[RepL,Rep] at g2;obtain ⟨rfl,g2⟩:=g2;refine (hask args [] l' h1 D w (.slice none 0 0) [] vs hs.tab hs.inn.lt (World.ownsRow_nil _ _ _ _) (λg hg=>by simp[Value.ownBlock] at hg) (λi x hi=>by simp at hi) (zd5 hun hs hargs g2)).mono λz w1 hz=>?_;obtain ⟨rfl,hgr,_⟩:=hz;have hb:Below w.heap.size w w1:=by have hgr:Wl.Grow [] w w1:=hgr;exact hgr.below
   have hin:=hs.inn.below hb;have hge:=Ge.below hs.inn hb;have hkept:=zap hs.inn.out hin.out;refine hk _ _ _ h2 (Pres.refl _ _) (PresB.refl _) _ _ ⟨_,H,hs.step hin (hs.boxes.mono hge hkept λ_ _ h=>h) (λi q hi=>(hs.slots i q hi).ge hge λ_ _ h=>h) hd (htup _ _ _),λk o hk=>?_,hG.trans hge⟩;rcases hk with hk|hk;·exact hD k o hk
   ·exact .inr (.inl (yAG hs.inn.out.size hk.1))
  ·cases h
 ·rename_i i rest;split at h
  ·rename_i args v0 T1 l0 hargs hg;split at h
   ·rename_i heq _;subst heq;obtain ⟨hT,h9⟩:=zac h;clear h;have hT:=yAa hT;subst hT;obtain ⟨l',h1,h2⟩:=zas h9;obtain ⟨x,vs,rfl⟩:∃x vs',vs=x::vs':=by
     cases vs with
     |nil=>simp[RepL] at g2|cons x vs=>exact ⟨x,vs,rfl⟩
    simp only[RepL,Rep] at g2;obtain ⟨⟨g3,g4,g5⟩,g2⟩:=g2;obtain ⟨r0,hr1,hr2⟩:=hs.boxes.get hg;have hh:=hs.inn.res _ (yAb hr1);cases r0 with
    |wr v T' size n xs =>
      simp only[BoxRep] at hr2;obtain ⟨rfl,rfl,rfl,hel⟩:=hr2;simp only[ids,yAg,hr1,yAf,zaf,yAe,Prod.mk.injEq,true_and] at g3;subst g3;refine (hask args l0 l' h1 D w v xs vs (hs.tabL λg hg=>(Wl.Res.holds_lt (r:= .wr v T' (U.size un v0) l0.length xs) hh (show v.ownBlock=some g by cases hv:v.ownBlock<;>simp_all)).1) hs.inn.lt hh.1 (λg hg o=>hs.inn.apart _ (yAb hr1) g hg o trivial) hel (zd5 hun hs hargs g2)).mono λz w1 hz=>?_;obtain ⟨rfl,hgr,xs',hl,hown,hseg⟩:=hz;have hgb:w.grownBy w1 v.ownBlock:=⟨hgr.os,hgr.tape,hgr.output,hgr.size,λk hk hne=>hgr.block k hk λhm=>hne (by cases hv:v.ownBlock<;>simp_all)⟩;obtain ⟨hin0,hge0⟩:=zeq hs.inn hr1 hown hgb (.inl rfl);have hin:In E (zi0 D w w1) (H.set i (.wr v T' (U.size un v0) l'.length xs')) w1:=hin0.dom λs hs2 g hg=>by
       rcases yAj hs2 with ⟨j,hj⟩;by_cases hij:i=j;·subst hij;rw[yAB (yAc.1 hr1).1] at hj;cases hj;exact (Wl.Res.holds_lt hh hg).2
       ·rw[yAu hij] at hj;exact (Wl.Res.holds_lt (hs.inn.res s (yAb hj)) hg).2
      have hge:Ge D w (zi0 D w w1) w1:=⟨λ_ _ h=>.inl h,hge0.cell,hge0.map⟩;have hids:ids (H.set i (.wr v T' (U.size un v0) l'.length xs'))=ids H:=zaq hr1 rfl;refine hk _ _ _ h2 (Pres.refl _ _) (PresB.set hg rfl λT cs he=>by cases he) _ _ ⟨zi0 D w w1,_,hs.step hin ?_ (λj q hi=>?_) hd (htup _ _ _),λk o hk=>hk.elim (hD k o) λh3=>.inr (.inl (yAG hs.inn.out.size h3.1)),hG.trans hge⟩;·rw[hids];refine (hs.boxes.mono hge (zap hs.inn.out hin.out) λ_ _ h=>h).set ?_;simp only[BoxRep];exact ⟨trivial,trivial,trivial,hseg⟩
      ·rw[hids];exact (hs.slots j q hi).ge hge λ_ _ h=>h
    |_=>simp[BoxRep] at hr2
   ·cases h
  ·cases h
 ·cases h
end
end Pe
end
section
/- Arrays as values; a row of bytes that is fixed; tails of rows, and copy; any operation. -/
namespace Pe
open Go Go.RowKit
variable{S:Nat->Type}
section
variable{P:Program}{un:Uni S}{tb:Tb S}{orc:Orc S}{inl:Inl S}{E:Wl.Ctx}{D0:Dat}{N:Wl.Fr}{D D':Dat}{H:List Wl.Res}{e:Env S}{bx:Bxs S}{a:Act}{w w':World}{o:Oper}{R:Type}{r:R}
theorem zjF(hf:zkk un){nu:Nu}{p:PV S}{cs:List (PV S)}{v:Value}(h:zld un p=some cs)(hr:Rep un nu D w p v):∃vs:List Value,v= .agg vs.toArray/\RepL un nu D w cs vs:=by
 cases p with
 |agg l=>cases h;simp only[Rep] at hr;exact hr|st n x =>cases h;simp only[Rep] at hr;obtain ⟨vs,rfl,hd⟩:=hr;exact ⟨vs,rfl,zb5 hf hd⟩
 |_=>cases h
theorem zjk{nu:Nu}{u:U}{x:El S u}{cs:List Value}(h:DR un D w [u] (sg x) cs):Rep un nu D w (inj u x) (zbh u cs):=by
 cases u with
 |st n=>simp only[inj,Rep,zbh];exact ⟨cs,rfl,h⟩|int k=>cases h with|int h=>simp only[inj,Rep,zbh,yBr];rfl
 |bool=>cases h with|bool h=>simp only[inj,Rep,zbh,yBr];rfl
 |str=>cases h with|str h=>simp only[inj,Rep,zbh,yBr];rfl
 |sl u =>
   obtain ⟨v,rfl⟩:∃v,cs=[v]:=by cases h with|sl0 A c h0 h=>cases h;exact ⟨_,rfl⟩|sl b off c cs hc h1 h2 h=>cases h;exact ⟨_,rfl⟩
   simp only[inj,Rep,zbh,yBr];exact h
 |mp k v =>
   obtain ⟨v,rfl⟩:∃v,cs=[v]:=by cases h with|mp kc vc h1 h2 h=>cases h;exact ⟨_,rfl⟩
   simp only[inj,Rep,zbh,yBr];exact h
 |rw u =>
   obtain ⟨v,rfl⟩:∃v,cs=[v]:=by cases h with|rw cs h1 h=>cases h;exact ⟨_,rfl⟩
   simp only[inj,Rep,zbh,yBr];exact h
 |fm k v =>
   obtain ⟨v,rfl⟩:∃v,cs=[v]:=by cases h with|fm b es c l' kc vc hD hg hs hp hn hl hk h1 h2 h=>cases h;exact ⟨_,rfl⟩
   simp only[inj,Rep,zbh,yBr];exact h
 |cs u =>
   obtain ⟨v,rfl⟩:∃v,cs=[v]:=by
    cases h with
    |cs0 A h0 h=>cases h;exact ⟨_,rfl⟩|cs b off cs h1 h2 h=>cases h;exact ⟨_,rfl⟩
   simp only[inj,Rep,zbh,yBr];exact h
theorem zlc(hun:UniOk un){nu:Nu}{u:U}{cs:List (PV S)}{vs:List Value}(hr:RepL un nu D w cs vs):∀{fs:List (Nat×Nat)}{l:List (El S u)},zqr un u cs fs=some l->∀(k:Nat) y,l[k]?=some y->∃off n,fs[k]?=some (off,n)/\off+n<=vs.length/\DR un D w [u] (sg y) ((vs.drop off).take n)
 |[],l,h,k,y,hy=>by simp[zqr] at h;subst h;simp at hy
 |(off,n)::fs,l,h,k,y,hy=>by
   unfold zqr at h;split at h
   ·rename_i x l' h1 h2;cases h;obtain ⟨h3,h4⟩:=zac h1;cases k with
    |zero =>simp at hy;subst hy;exact ⟨off,n,rfl,by rw[<-hr.length];simpa[yAP] using h3,zhL hun h4 ((hr.drop off).take n)⟩|succ k=>simpa using zlc hun hr h2 k y (by simpa using hy)
   ·cases h
theorem zpP(hs:St un E N D H e bx a w){s T T':TypeId}{b:Nat}{l:List Int}{v:Value}(h2:P.underlying s=some (.slice T))(h3:P.underlying T=some (.int .u8))(hg:zae bx b=some (.wr (.int .u8) T l))(hl:0<l.length)(hv:Rep un (ids H) D w (.row b) v){dst:Option Nat}(hd:∀d,dst=some d->d<N.n) :
  ∃w' H',(convert s s v).run P w= .ok v w'/\St un E N D H' (push dst (.ref b) (zcW b .junk e)) (zau (bx.map (Box.kill b .junk)) b (.var T' [.cont (.rw (.int .u8)) l])) (a.put dst v) w'/\Ge D w D w':=by
 obtain ⟨r,hr1,hr2⟩:=hs.boxes.get hg;have hh:=hs.inn.res _ (yAb hr1);cases r with
 |wr v0 T0 size n xs =>
   simp only[BoxRep] at hr2;obtain ⟨rfl,rfl,rfl,hel⟩:=hr2;have hv0:v0=v:=by simp only[Rep,ids,yAg,hr1,yAf,zaf,yAe,Prod.mk.injEq,true_and] at hv;exact hv.1
   subst hv0;have hmem:=yAb hr1;rcases hh.1.2 with ⟨rfl,h0⟩|⟨g,cap,cur,rfl,hb0,hgg,hnc,hcm,hcs,htk⟩;·exact absurd h0 (by change ¬(l.length=0);omega)
   ·have hsh:w.shape? g=some (T0,cur.size):=(by simp[World.shape?,hgg]);have hrun:(convert s s (.slice (some ⟨g,0,none⟩) l.length cap)).run P w= .ok (.slice (some ⟨g,0,none⟩) l.length cap) (w.freeze ⟨g,cur.size,none⟩ 1):=(by simp[convert,run_underlying h2,run_underlying h3,markStringish,hsh]);have hfr:(w.freeze ⟨g,cur.size,none⟩ 1).heap[g]?=some (.cells cur T0 (cur.size,cur.size+1)):=(by simp[World.freeze,yA4,hgg]);have hgb:w.grownBy (w.freeze ⟨g,cur.size,none⟩ 1) (some g):=(by refine ⟨rfl,rfl,rfl,by simp[World.freeze],λk hk hne=>?_⟩;simp only[World.freeze];rw[if_neg (by decide)];show (w.heap.modify g _)[k]?=_;rw[yA4,if_neg (λh=>hne (by rw[h]))]);have hin:In E D (H.set b (.fix (.slice (some ⟨g,0,none⟩) l.length cap) (some g) 1 (.cells cur T0 (cur.size,cur.size+1)))) (w.freeze ⟨g,cur.size,none⟩ 1):=(by refine hs.inn.turn hr1 hgb ⟨.inr (.inl ⟨g,l.length,cap,cur,T0,_,rfl,rfl,rfl,hnc,hcm,by simpa[U.size] using hcs,.inr (yAl _)⟩),λg0 hg0=>?_⟩ (λ_ hk=>.inl hk) (λk o hk=>.inl hk) (λk o hk=>yAn (hs.inn.lt k o hk) hgb.size) (λg2 hg2 o _ hk=>hs.inn.apart _ hmem g2 hg2 o trivial hk) (λhc=>by cases hc);cases hg0;exact ⟨hh.2 g rfl,hfr⟩);have hge:Ge D w D (w.freeze ⟨g,cur.size,none⟩ 1):=(.of (λ_ _ h=>h) λk o hk=>(hgb.block k (hs.inn.lt k o hk) λhkb=>hs.inn.apart _ hmem k hkb.symm o trivial hk));have hkept:=zap hs.inn.out hin.out;have hn:=zfF (H:=H) (r':= .fix (.slice (some ⟨g,0,none⟩) l.length cap) (some g) 1 (.cells cur T0 (cur.size,cur.size+1))) hr1 rfl;have hnb:(ids H)[b]?=some (false,.slice (some ⟨g,0,none⟩) l.length cap):=(by simp only[ids,yAg,hr1,yAf,zaf];rfl);have hbl:b<H.length:=(yAc.1 hr1).1;have hy:Rep un (ids (H.set b (.fix (.slice (some ⟨g,0,none⟩) l.length cap) (some g) 1 (.cells cur T0 (cur.size,cur.size+1))))) D (w.freeze ⟨g,cur.size,none⟩ 1) .junk (.slice (some ⟨g,0,none⟩) l.length cap):=(by simp only[Rep]);refine ⟨_,_,hrun,hs.step hin ?_ (λi q hi=>?_) hd ?_,hge⟩
    ·refine (zbg hge hkept hnb hy hn hs.boxes).set ?_;have hsz:U.size un (.int .u8)=1:=rfl;have hxl:xs.length=l.length:=by have h7:=hh.1.1;rw[hsz,yA7] at h7;exact h7
     have:=zl5 (un:=un) (D:=D) (w:=w) (u:= .int .u8) (l:=l) (xs:=xs) (by rw[hsz,yA7];exact hxl) hel;have htk':cur.toList.take (l.length*1)=xs:=htk;have hcell:DR un D (w.freeze ⟨g,cur.size,none⟩ 1) [.rw (.int .u8)] (sg (u:= .rw (.int .u8)) l) [Wl.fixV (.slice (some ⟨g,0,none⟩) l.length cap) 1 (.cells cur T0 (cur.size,cur.size+1))]:=by change DR un D (w.freeze ⟨g,cur.size,none⟩ 1) [.rw (.int .u8)] (sg (u:= .rw (.int .u8)) l) [Wl.encV l.length 1 (cur.toList.take (l.length*1))];rw[htk'];exact this.mono hge
     simp only[BoxRep,RepL,Rep,and_true];exact hcell
    ·rw[za7] at hi;cases hl:zan e i with
     |none=>rw[hl] at hi;cases hi|some p0 =>rw[hl] at hi;simp only[yAf,yAe] at hi;subst hi;exact zci hge hnb hy hn (hs.slots i p0 hl)
    ·simp only[Rep];refine ⟨?_,rfl⟩;simp only[ids,yAg,yAB hbl,yAf,zaf];rfl
 |_=>simp[BoxRep] at hr2
theorem pt_st(hun:UniOk un){T:TypeId}{u:U}{z:El S u}{v0:Value}(hs:St un E N D H e bx a w)(hdr:DR un D w [u] (sg z) v0.cells.toList){dst:Option Nat}(hd:∀d,dst=some d->d<N.n) :
  ∃H',St un E N D H' (push dst (.elr bx.length u 0 0) e) (bx++[.wr u T [z]]) (a.put dst (.pointer (some ⟨w.heap.size,0,none⟩))) (w.alloc (.cells v0.cells T))/\Ge D w D (w.alloc (.cells v0.cells T)):=by
 have hsz:v0.cells.size=U.size un u:=by
  have:=hdr.length hun.flat
  simpa[zcr] using this
 have hb:Below w.heap.size w (w.alloc (.cells v0.cells T)):=(Below.refl _ _).alloc (yAl _) _
 have hown:(w.alloc (.cells v0.cells T)).ownsRow 0 T (U.size un u) (.slice (some ⟨w.heap.size,0,none⟩) 1 1) 1 v0.cells.toList :=
  ⟨by simp[hsz],.inr ⟨w.heap.size,1,v0.cells,rfl,yAF _,heap_alloc_new w _,yAl _,by unfold maxLen;omega,by omega,by rw[yBj];simp[hsz]⟩⟩
 have hin:=hs.inn.pushWr hb hown rfl;have hge:Ge D w D (w.alloc (.cells v0.cells T)):=Ge.same hs.inn hb;refine ⟨_,hs.step hin ?_ (λi q hi=>(hs.slots i q hi).ge hge (zbe H _)) hd ?_,hge⟩
 ·refine (hs.boxes.mono hge (zap hs.inn.out hin.out) (zbe H _)).push ?_;simp only[BoxRep];refine ⟨trivial,trivial,rfl,λi x hi=>?_⟩;cases i with
  |zero =>simp at hi;subst hi;rw[yBw,yBC,yBj (by simp[hsz])];exact hdr.mono hge|succ i=>simp at hi
 ·simp only[Rep];refine ⟨false,w.heap.size,1,1,?_,by simp⟩;rw[hs.boxes.length,zcQ];rfl
theorem zoH{T0:TypeId}{u:U}{t:TypeId}(hu:P.underlying t=some (.slice T0))(hT:ElOk P un T0 u){b i:Nat}{T:TypeId}{l:List (El S u)}{v:Value}{k:IntKind}(hs:St un E N D H e bx a w)(hg:zae bx b=some (.wr u T l))(hv:Rep un (ids H) D w (.row b) v)(hi:i<=l.length)(hl:0<l.length) :
  ∃v',(Instr.sliceAt t v (some (.int k (i:Int))) none none).run P w= .ok v' w/\Rep un (ids H) D w (.rsl b u i) v':=by
 obtain ⟨jn,z,g1,g2,g3,g4,g5,g6⟩:=hT.info;obtain ⟨r,hr1,hr2⟩:=hs.boxes.get hg;have hh:=hs.inn.res _ (yAb hr1);cases r with
 |wr v0 T' size n xs =>
   simp only[BoxRep] at hr2;obtain ⟨rfl,rfl,rfl,hel⟩:=hr2;have hv0:v0=v:=by simp only[Rep,ids,yAg,hr1,yAf,zaf,yAe,Prod.mk.injEq,true_and] at hv;exact hv.1
   subst hv0;rcases hh.1.2 with ⟨rfl,h0⟩|⟨g,cap,cur,rfl,hb0,hgg,hnc,hcm,hcs,htk⟩;·omega
   ·have h3:i<=cap:=yAG hi hnc;refine ⟨.slice (some ⟨g,if cap=i then 0 else i*U.size un u,none⟩) (l.length - i) (cap - i),?_,?_⟩
    ·simp[Instr.sliceAt,run_underlying hu,Instr.slice,Instr.sliceBounds,Instr.sliceBound,asIntOf,Go.sizeOf,typeInfo,g1,hi,g3,Addr.add];split;·rfl
     ·split<;>simp_all
    ·simp only[Rep,ids,yAg,hr1,yAf,zaf];exact ⟨_,_,_,_,_,rfl,rfl,λh=>by rw[if_neg (by omega)]⟩
 |_=>simp[BoxRep] at hr2
theorem go_st(hun:UniOk un){T0:TypeId}{u:U}{t:TypeId}(hu:P.underlying t=some (.slice T0))(hT:ElOk P un T0 u){b i:Nat}{T:TypeId}{l:List (El S u)}{v:Value}{k:IntKind}(hs:St un E N D H e bx a w)(hg:zae bx b=some (.own u T l))(hv:Rep un (ids H) D w (.row b) v)(hi:i<=l.length)(hl:0<l.length){dst:Option Nat}(hd:∀d,dst=some d->d<N.n) :
  ∃v' H',(Instr.sliceAt t v (some (.int k (i:Int))) none none).run P w= .ok v' w/\St un E N D H' (push dst (.row b) (zcW b (.sl u l) e)) (zau (bx.map (Box.kill b (.sl u l))) b (.own u T (l.drop i))) (a.put dst v') w:=by
 obtain ⟨jn,z,g1,g2,g3,g4,g5,g6⟩:=hT.info;obtain ⟨r,hr1,hr2⟩:=hs.boxes.get hg;have hh:=hs.inn.res _ (yAb hr1);cases r with
 |own v0 T' size n xs =>
   have hor:=zfv hun.flat hh hr2;simp only[BoxRep] at hr2;obtain ⟨rfl,rfl,rfl,hDo,hel⟩:=hr2;have hv0:v0=v:=(by simp only[Rep,ids,yAg,hr1,yAf,zaf,yAe,Prod.mk.injEq,true_and] at hv;exact hv.1);subst hv0;rcases hh.1.2 with ⟨rfl,h0⟩|⟨g,off,cap,cur,rfl,hgg,hnc,hcm,hcs,htk⟩;·omega
   ·have h3:i<=cap:=yAG hi hnc;have hrun:(Instr.sliceAt t (.slice (some ⟨g,off,none⟩) l.length cap) (some (.int k (i:Int))) none none).run P w= .ok (.slice (some ⟨g,off+(if cap=i then 0 else i*U.size un u),none⟩) (l.length - i) (cap - i)) w:=by
     simp[Instr.sliceAt,run_underlying hu,Instr.slice,Instr.sliceBounds,Instr.sliceBound,asIntOf,Go.sizeOf,typeInfo,g1,hi,g3,Addr.add];split;·rfl
     ·split<;>simp_all
    generalize hoff:(if cap=i then 0 else i*U.size un u)=d at hrun;have hxl:xs.length=l.length*U.size un u:=hh.1.1;have hsplit:l.length*U.size un u=i*U.size un u+(l.length - i)*U.size un u:=by rw[<-yAv];congr 1;omega
    have hsplitc:cap*U.size un u=i*U.size un u+(cap - i)*U.size un u:=(by rw[<-yAv];congr 1;omega);have hat:Wl.rowAt w T' (U.size un u) (.slice (some ⟨g,off+d,none⟩) (l.length - i) (cap - i)) (l.length - i) (xs.drop (i*U.size un u)):=by
     refine ⟨by rw[yA3,hxl];omega,.inr ⟨g,off+d,cap - i,cur,rfl,hgg,by omega,by omega,λhc=>?_,?_⟩⟩;·have hc0:=hcs (by omega);rw[if_neg (by omega)] at hoff;omega
     ·by_cases hc:cap=i
      ·have hz:l.length - i=0:=(by omega);rw[hz,yBw,List.take_zero,yB9];rw[hxl];have:l.length=i:=by omega
       rw[this];exact yAl _
      ·rw[if_neg hc] at hoff;rw[<-htk,List.drop_take,yBl,hsplit,yAQ,hoff]
    have hbl:b<H.length:=(yAc.1 hr1).1;have hin:In E D (H.set b (.own (.slice (some ⟨g,off+d,none⟩) (l.length - i) (cap - i)) T' (U.size un u) (l.length - i) (xs.drop (i*U.size un u)))) w:=(by refine hs.inn.again hr1 rfl ⟨hat,hh.2⟩ (λg hg=>hg) (λk o hk=>.inl hk) hs.inn.lt (λg' hg' o hf hd=>?_);refine hs.inn.apart _ (yAb hr1) g' hg' o ?_ hd;simp only[ziv,Wl.capV,Wl.offV] at hf ⊢;rw[if_neg (by omega)] at hoff;omega);have hge:Ge D w D w:=Ge.refl _ _;have hn:=zfF (H:=H) (r':= .own (.slice (some ⟨g,off+d,none⟩) (l.length - i) (cap - i)) T' (U.size un u) (l.length - i) (xs.drop (i*U.size un u))) hr1 rfl;have hnb:(ids H)[b]?=some (false,.slice (some ⟨g,off,none⟩) l.length cap):=(by simp[ids,hr1,zaf]);have hy:Rep un (ids (H.set b (.own (.slice (some ⟨g,off+d,none⟩) (l.length - i) (cap - i)) T' (U.size un u) (l.length - i) (xs.drop (i*U.size un u))))) D w (.sl u l) (.slice (some ⟨g,off,none⟩) l.length cap):=(by simp only[Rep] at hor ⊢;exact hor);refine ⟨_,_,hrun,hs.step hin ?_ (λj q hi=>?_) hd ?_⟩
    ·refine (zbg hge (λ_ _ _=>rfl) hnb hy hn hs.boxes).set ?_;simp only[BoxRep];refine ⟨trivial,trivial,by simp,λg' hg' o ho=>?_,λj x hj=>?_⟩
     ·refine hDo g' hg' o ?_;simp only[Wl.offV] at ho ⊢;by_cases hc:cap=i;·rw[if_pos hc] at hoff;omega
      ·rw[if_neg hc] at hoff;omega
     ·rw[yAt] at hj;have:=hel (i+j) x hj;rw[yAv] at this;rw[yBl];exact this
    ·rw[za7] at hi;cases hl:zan e j with
     |none=>rw[hl] at hi;cases hi|some p0 =>rw[hl] at hi;simp only[yAf,yAe] at hi;subst hi;exact zci hge hnb hy hn (hs.slots j p0 hl)
    ·simp only[Rep];refine ⟨?_,rfl,rfl⟩;simp[ids,hbl,zaf]
 |_=>simp[BoxRep] at hr2
theorem znw{w:World}{dT ty elem:TypeId}{ats:Array TypeId}(hat:ats[0]?=some dT){b o dLen dCap sz:Nat}{a:Addr}{sLen sCap:Nat}{cs:List Value}
  (hu:P.underlying dT=some (.slice elem)) (hs:(P.info? elem).map (·.size)=some sz) (hn:cs.length=Nat.min sLen dLen*sz)
  (hsrc:∀j v,cs[j]?=some v->w.cell? (a.add j)=some v) (hc:∀j,j<cs.length->(w.cell? ⟨b,o+j,none⟩).isSome=true) (hf:∀j,j<cs.length->w.frozen? ⟨b,o+j,none⟩=false) (h1:∀v∈cs,v.oneCell'=true) :
  (Builtin.copy_ ats ty #[.slice (some ⟨b,o,none⟩) dLen dCap,.slice (some a) sLen sCap]).run P w= .ok (goInt (Nat.min sLen dLen)) (w.setCells b o cs):=by
 have hl:=run_loadCells_list (P:=P) w a cs hsrc;have hst:=run_storeCells_cells (P:=P) b o cs 0 w (by simpa using hc) (by simpa using hf) h1;cases hq:P.info? elem with
 |none=>simp[hq] at hs|some i =>have hi:i.size=sz:=(by simpa[hq] using hs);simp[Builtin.copy_,hat,run_underlying hu,Builtin.lenOf,Builtin.firstCells,Go.sizeOf,typeInfo,hq,hi,<-hn,hl,hst]
theorem zh8{α:Type}(l:List α)(i j:Nat):zng l i j<=l.length - i/\zng l i j<=l.length - j:=⟨Nat.min_le_right _ _,Nat.min_le_left _ _⟩
theorem zlB{α:Type}(l:List α)(i j:Nat)(hi:i<=l.length):(mov l i j).length=l.length:=by have:=zh8 l i j;simp only[mov,yAD,yAS,yA3];omega
theorem zoX{α:Type}(l:List α)(i j k:Nat)(hi:i<=l.length):(mov l i j)[k]?=if i<=k/\k<i+zng l i j then l[j+(k - i)]? else l[k]? :=by
 have:=zh8 l i j;unfold mov;rw[yBW];simp only[yAS];rw[yBx hi];split;·rename_i h;rw[if_neg (by omega),yAr h]
 ·rename_i h;rw[yBW];simp only[yAS,yA3];rw[yBx this.2];split;·rename_i h2;rw[if_pos (by omega),yAr h2,yAt]
  ·rename_i h2;rw[if_neg (by omega),yAt];congr 1;omega
theorem znq{u:U}{l:List (El S u)}{xs:List Value}(hlen:xs.length=l.length*U.size un u)(h:ziu un D w u l xs){i j:Nat}(hi:i<=l.length)(hj:j<=l.length) :
  ziu un D w u (mov l i j) (za0.spliceV xs (i*U.size un u) ((xs.drop (j*U.size un u)).take (zng l i j*U.size un u))):=by
 generalize hm:zng l i j=m;have hml:=zh8 l i j;rw[hm] at hml;generalize hsz:U.size un u=sz at *
 have e1:(i+m)*sz<=l.length*sz:=yAo _ (by omega);have e2:(j+m)*sz<=l.length*sz:=yAo _ (by omega);rw[yAv] at e1 e2;have hvl:((xs.drop (j*sz)).take (m*sz)).length=m*sz:=by simp only[yAS,yA3];omega
 intro k x hx;rw[zoX _ _ _ _ hi,hm] at hx;rw[hsz];have key:∀k',l[k']?=some x->(∀q,q<sz->(za0.spliceV xs (i*sz) ((xs.drop (j*sz)).take (m*sz)))[k*sz+q]?=xs[k'*sz+q]?)->DR un D w [u] (sg x) (((za0.spliceV xs (i*sz) ((xs.drop (j*sz)).take (m*sz))).drop (k*sz)).take sz):=by
  intro k' hk' hq;have h2:=h k' x hk';rw[hsz] at h2;have h3:((za0.spliceV xs (i*sz) ((xs.drop (j*sz)).take (m*sz))).drop (k*sz)).take sz=(xs.drop (k'*sz)).take sz:=by
   apply yAK;intro q;rw[yAw,yAw];split;·rename_i hqs;rw[yAt,yAt];exact hq q hqs
   ·rfl
  rw[h3];exact h2
 split at hx;·rename_i hk;refine key _ hx λq hq=>?_;have e3:i*sz<=k*sz:=yAo _ hk.1;have e4:(k+1)*sz<=(i+m)*sz:=yAo _ (by omega);rw[yAv,yAv,yAM] at e4;have e5:(k - i)*sz=k*sz - i*sz:=Nat.sub_mul _ _ _;have e6:(j+(k - i))*sz=j*sz+(k - i)*sz:=yAv _ _ _;rw[zaR (by rw[hvl];omega),if_pos (by rw[hvl];omega),yAr (by omega),yAt];congr 1;omega
 ·rename_i hk;refine key _ hx λq hq=>?_;have hkk:k<i\/i+m<=k:=by omega
  rw[zaR (by rw[hvl];omega),if_neg];rw[hvl];rcases hkk with hkk|hkk
  ·have e4:(k+1)*sz<=i*sz:=yAo _ hkk;rw[yAv,yAM] at e4;omega
  ·have e4:(i+m)*sz<=k*sz:=yAo _ hkk;rw[yAv] at e4;omega
theorem zdV{y:Box S}:∀{bx:Bxs S}{b:Nat},zae bx b=some y->zau bx b y=bx
 |[],_,_=>rfl|x::bs,0,h=>by simp[zae] at h;subst h;rfl
 |x::bs,b+1,h=>by simp only[zau];rw[zdV (by simpa[zae] using h)]
theorem zpg{T0:TypeId}{u:U}{t ty:TypeId}{ats:Array TypeId}(hat:ats[0]?=some t)(hu:P.underlying t=some (.slice T0))(hT:ElOk P un T0 u){b i j:Nat}{T:TypeId}{l:List (El S u)}{x y:Value}(hs:St un E N D H e bx a w)(hg:zae bx b=some (.wr u T l))(hx:Rep un (ids H) D w (.rsl b u i) x)(hy:Rep un (ids H) D w (.rsl b u j) y)(hi:i<=l.length)(hj:j<=l.length){dst:Option Nat}(hd:∀d,dst=some d->d<N.n) :
  ∃v' w' H',(Builtin.copy_ ats ty #[x,y]).run P w= .ok v' w'/\St un E N D H' (push dst (.int .i64 (zng l i j:Int)) e) (zau bx b (.wr u T (mov l i j))) (a.put dst v') w'/\Ge D w D w':=by
 obtain ⟨jn,z,g1,g2,g3,g4,g5,g6⟩:=hT.info;obtain ⟨r,hr1,hr2⟩:=hs.boxes.get hg;have hh:=hs.inn.res _ (yAb hr1);have hmem:=yAb hr1;cases r with
 |wr v0 T' size n xs =>
   simp only[BoxRep] at hr2;obtain ⟨rfl,rfl,rfl,hel⟩:=hr2;simp only[Rep,ids,yAg,hr1,yAf,zaf,yAe,Prod.mk.injEq] at hx hy;obtain ⟨_,g,n1,c1,o1,⟨_,rfl⟩,rfl,ho1⟩:=hx;obtain ⟨_,g',n2,c2,o2,⟨_,hyy⟩,rfl,ho2⟩:=hy;rcases hh.1.2 with ⟨hc,_⟩|⟨g0,cap,cur,hc,hb0,hgg,hnc,hcm,hcs,htk⟩;·cases hc
   cases hc;cases hyy;have hlen:=hh.1.1;generalize hm:zng l i j=m;have hml:=zh8 l i j;rw[hm] at hml;have hmin:Nat.min (l.length - j) (l.length - i)=m:=hm;generalize hsz:U.size un u=sz at *
   have e1:(i+m)*sz<=l.length*sz:=yAo _ (by omega);have e2:(j+m)*sz<=l.length*sz:=yAo _ (by omega);rw[yAv] at e1 e2;have e3:l.length*sz<=cur.size:=(by rw[hcs];exact yAo _ hnc);have hvl:((xs.drop (j*sz)).take (m*sz)).length=m*sz:=(by simp only[yAS,yA3];omega);have hcell:∀k,w.cell? ⟨g,k,none⟩=cur[k]? :=λk=>by simp[World.cell?,hgg]
   have hone:∀v∈xs,v.oneCell'=true:=(by intro v hv;obtain ⟨k,hk⟩:=yAj hv;have hkl:k<xs.length:=(yAc.1 hk).1;have hq:k / sz<l.length:=(Nat.div_lt_iff_lt_mul g5).2 (by omega);have hd:=(hel (k / sz) _ (yAh hq)).one;refine hd v (yAb (i:=k % sz) ?_);rw[yAr (Nat.mod_lt _ g5),yAt,Nat.div_add_mod' ,hk]);have hrun:(Builtin.copy_ ats ty #[.slice (some ⟨g,o1,none⟩) (l.length - i) (c1 - i),.slice (some ⟨g,o2,none⟩) (l.length - j) (c1 - j)]).run P w= .ok (goInt m) (w.setCells g o1 ((xs.drop (j*sz)).take (m*sz))):=by
    rw[<-hmin];refine znw (sz:=sz) hat hu (by rw[g1];simpa using g3) (by rw[hmin];exact hvl) (λk v hk=>?_) (λk hk=>?_) (λk hk=>?_) (λv hv=>hone v (List.mem_of_mem_drop (List.mem_of_mem_take hv)))
    ·have hkl:k<((xs.drop (j*sz)).take (Nat.min (l.length - j) (l.length - i)*sz)).length:=(yAc.1 hk).1;rw[hmin] at hk hkl;rw[hvl] at hkl;have hm0:0<m:=Nat.pos_of_ne_zero λh=>by rw[h,yBw] at hkl;omega
     rw[ho2 (by omega)];have:(⟨g,j*sz,none⟩:Addr).add k=⟨g,j*sz+k,none⟩:=by unfold Addr.add;split<;>simp_all
     rw[this,hcell];rw[yAr hkl,yAt,<-htk,yAr (by omega)] at hk;simpa using hk
    ·rw[hmin,hvl] at hk;have hm0:0<m:=Nat.pos_of_ne_zero λh=>by rw[h,yBw] at hk;omega
     rw[ho1 (by omega),hcell,yB1 (by omega)];rfl
    ·simp[World.frozen?,hgg]
   rcases Nat.eq_zero_or_pos m with hm0|hm0
   ·-- nothing is copied
    subst hm0;have hw:w.setCells g o1 ((xs.drop (j*sz)).take (0*sz))=w:=by rw[yBw,List.take_zero];rfl
    rw[hw] at hrun;have hmv:mov l i j=l:=by unfold mov;rw[hm];simp
    refine ⟨_,w,H,hrun,?_,Ge.refl _ _⟩;rw[hmv];have hset:zau bx b (.wr u T' l)=bx:=zdV hg;rw[hset];exact hs.step hs.inn hs.boxes hs.slots hd (by simp only[Rep,goInt])
   ·have ho:=ho1 (by omega);subst ho;obtain ⟨k1,k2⟩:=zbz g T' (0,0) ((xs.drop (j*sz)).take (m*sz)) cur.toList (i*sz) w (by simpa using hgg);have hown:(w.setCells g (i*sz) ((xs.drop (j*sz)).take (m*sz))).ownsRow 0 T' sz (.slice (some ⟨g,0,none⟩) l.length c1) l.length (za0.spliceV xs (i*sz) ((xs.drop (j*sz)).take (m*sz))):=by
     refine ⟨by rw[zaE];exact hlen,.inr ⟨g,c1,_,rfl,yAF _,k1,hnc,hcm,by simp[zaE,hcs],?_⟩⟩;apply yAK;intro k;rw[zaR (by rw[hvl,hlen];omega),yAw];by_cases hk:k<l.length*sz
     ·rw[if_pos hk];show (za0.spliceV cur.toList (i*sz) ((xs.drop (j*sz)).take (m*sz)))[k]?=_;rw[zaR (by rw[hvl];simp;omega)];split;·rfl
      ·rw[<-htk,yAr hk]
     ·rw[if_neg hk,if_neg (by rw[hvl];omega)];symm;rw[yBf];omega
    obtain ⟨hin,hge⟩:=zeq hs.inn hr1 hown k2 (.inl rfl);have hids:ids (H.set b (.wr (.slice (some ⟨g,0,none⟩) l.length c1) T' sz l.length (za0.spliceV xs (i*sz) ((xs.drop (j*sz)).take (m*sz)))))=ids H:=zaq hr1 rfl;refine ⟨_,_,_,hrun,hs.step hin ?_ (λq0 q hi=>?_) hd (by simp only[Rep,goInt]),hge⟩
    ·rw[hids];refine (hs.boxes.mono hge (zap hs.inn.out hin.out) λ_ _ h=>h).set ?_;simp only[BoxRep];refine ⟨trivial,hsz.symm,(zlB _ _ _ hi).symm,?_⟩;have hseg:ziu un D w u l xs:=by intro q0 q hq;rw[hsz];exact hel q0 q hq
     have:=znq (un:=un) (by rw[hsz];exact hlen) hseg hi hj;rw[hsz,hm] at this;intro q0 q hq;have:=(this q0 q hq).mono hge;rw[hsz] at this;exact this
    ·rw[hids];exact (hs.slots q0 q hi).ge hge λ_ _ h=>h
 |_=>simp[BoxRep] at hr2
theorem zn3(hun:UniOk un)(ht:TbOk P un tb){T0:TypeId}{u:U}{t ty:TypeId}{ats:Array TypeId}(hat:ats[0]?=some t)(hu:P.underlying t=some (.slice T0))(hT:ElOk P un T0 u){b i:Nat}{T:TypeId}{l:List (El S u)}{z:El S u}(hz:zdN un tb T0 u=some z){x:Value}(hs:St un E N D H e bx a w)(hg:zae bx b=some (.wr u T l))(hx:Rep un (ids H) D w (.rsl b u i) x)(hi:i<=l.length){dst:Option Nat}(hd:∀d,dst=some d->d<N.n) :
  ∃v' w' H',(Builtin.clear_ ats ty #[x]).run P w= .ok v' w'/\St un E N D H' (push dst (.tup []) e) (zau bx b (.wr u T (l.take i++List.replicate (l.length - i) z))) (a.put dst v') w'/\Ge D w D w':=by
 obtain ⟨jn,zv,g1,g2,g3,g4,g5,g6⟩:=hT.info;obtain ⟨v9,z1,z2⟩:=zeJ (P:=P) (D:=D) (w:=w) hun ht hz;have hv9:v9=zv:=by simp[zeroValue,typeInfo,g1,g2] at z1;exact z1.symm
 subst hv9;have hzd:=ze5 z2;obtain ⟨r,hr1,hr2⟩:=hs.boxes.get hg;have hh:=hs.inn.res _ (yAb hr1);cases r with
 |wr v0 T' size n xs =>
   simp only[BoxRep] at hr2;obtain ⟨rfl,rfl,rfl,hel⟩:=hr2;simp only[Rep,ids,yAg,hr1,yAf,zaf,yAe,Prod.mk.injEq] at hx;obtain ⟨_,g,n1,c1,o1,⟨_,rfl⟩,rfl,ho1⟩:=hx;rcases hh.1.2 with ⟨hc,_⟩|⟨g0,cap,cur,hc,hb0,hgg,hnc,hcm,hcs,htk⟩;·cases hc
   cases hc;have hlen:=hh.1.1;have hmade:=zgK (D:=D) (w:=w) (un:=un) hzd g4 (l.length - i);generalize hm:l.length - i=m at *
   generalize hsz:U.size un u=sz at *
   have hcl:(madeCells v9.cells (m*sz)).toList.length=m*sz:=(by simp[madeCells]);have e1:i*sz+m*sz=l.length*sz:=(by rw[<-yAv];congr 1;omega);have e3:l.length*sz<=cur.size:=(by rw[hcs];exact yAo _ hnc);have hcell:∀k,w.cell? ⟨g,k,none⟩=cur[k]? :=λk=>by simp[World.cell?,hgg]
   rcases Nat.eq_zero_or_pos m with hm0|hm0
   ·subst hm0;have hrun:(Builtin.clear_ ats ty #[.slice (some ⟨g,o1,none⟩) 0 (c1 - i)]).run P w= .ok (.tuple #[]) w:=by
     simp[Builtin.clear_,hat,run_underlying hu]
    have hl':l.take i++List.replicate 0 z=l:=(by rw[List.replicate_zero,yAW,yBj (by omega)]);refine ⟨_,w,H,hrun,?_,Ge.refl _ _⟩;rw[hl',zdV hg];exact hs.step hs.inn hs.boxes hs.slots hd (by simp only[Rep];exact ⟨[],rfl,trivial⟩)
   ·have ho:=ho1 (by omega);subst ho;have hzc:(Builtin.zeroCells v9.cells m).toList=(madeCells v9.cells (m*sz)).toList:=by
     unfold Builtin.zeroCells madeCells;rw[g4]
    have hone:∀v∈(madeCells v9.cells (m*sz)).toList,v.oneCell'=true:=by
     intro v hv;obtain ⟨k,hk⟩:=yAj hv;have hkl:k<m*sz:=by have:=(yAc.1 hk).1;rwa[hcl] at this
     have hq:k / sz<m:=(Nat.div_lt_iff_lt_mul g5).2 hkl;have hx9:=(hmade (k / sz) z (by simp[hq])).one;rw[hsz] at hx9;refine hx9 v (yAb (i:=k % sz) ?_);rw[yAr (Nat.mod_lt _ g5),yAt,Nat.div_add_mod',hk]
    have hst:=run_storeCells_cells (P:=P) g (i*sz) (madeCells v9.cells (m*sz)).toList 0 w (λk hk=>by rw[hcl] at hk;rw[yBk,hcell,yB1 (by omega)];rfl) (λk hk=>by simp[World.frozen?,hgg]) hone;obtain ⟨m',rfl⟩:∃m',m=m'+1:=⟨m - 1,by omega⟩;have hrun:(Builtin.clear_ ats ty #[.slice (some ⟨g,i*sz,none⟩) (m'+1) (c1 - i)]).run P w= .ok (.tuple #[]) (w.setCells g (i*sz) (madeCells v9.cells ((m'+1)*sz)).toList):=by simp[Builtin.clear_,hat,run_underlying hu,zeroValue,typeInfo,g1,g2,hzc];rw[hst,yBk];rfl
    obtain ⟨k1,k2⟩:=zbz g T' (0,0) (madeCells v9.cells ((m'+1)*sz)).toList cur.toList (i*sz) w (by simpa using hgg);have hspl:(za0.spliceV cur.toList (i*sz) (madeCells v9.cells ((m'+1)*sz)).toList).take (l.length*sz)=xs.take (i*sz)++(madeCells v9.cells ((m'+1)*sz)).toList:=by
     apply yAK;intro k;rw[yAw,yBW,yAS];by_cases hk:k<l.length*sz
     ·rw[if_pos hk,zaR (by rw[hcl];simp;omega),hcl];by_cases hk2:k<i*sz;·rw[if_neg (by omega),if_pos (by omega),yAr hk2,<-htk,yAr hk]
      ·rw[if_pos (by omega),if_neg (by omega)];congr 1;omega
     ·rw[if_neg hk,if_neg (by omega)];symm;rw[yBf];rw[hcl];omega
    have hown:(w.setCells g (i*sz) (madeCells v9.cells ((m'+1)*sz)).toList).ownsRow 0 T' sz (.slice (some ⟨g,0,none⟩) l.length c1) l.length (xs.take (i*sz)++(madeCells v9.cells ((m'+1)*sz)).toList):=(by refine ⟨by rw[yAD,yAS,hcl];omega,.inr ⟨g,c1,_,rfl,yAF _,k1,hnc,hcm,by simp[zaE,hcs],hspl⟩⟩);obtain ⟨hin,hge⟩:=zeq hs.inn hr1 hown k2 (.inl rfl);have hids:ids (H.set b (.wr (.slice (some ⟨g,0,none⟩) l.length c1) T' sz l.length (xs.take (i*sz)++(madeCells v9.cells ((m'+1)*sz)).toList)))=ids H:=zaq hr1 rfl;refine ⟨_,_,_,hrun,hs.step hin ?_ (λq0 q hq=>?_) hd (by simp only[Rep];exact ⟨[],rfl,trivial⟩),hge⟩
    ·rw[hids];refine (hs.boxes.mono hge (zap hs.inn.out hin.out) λ_ _ h=>h).set ?_;simp only[BoxRep];refine ⟨trivial,hsz.symm,by simp;omega,?_⟩;intro q0 q hq;rw[yBW,yAS,yBx hi] at hq;by_cases hq2:q0<i
     ·rw[if_pos hq2,yAr hq2] at hq;have h8:=(hel q0 q hq).mono hge;have e5:(q0+1)*sz<=i*sz:=yAo _ hq2;rw[yAv,yAM] at e5;have e6:((xs.take (i*sz)++(madeCells v9.cells ((m'+1)*sz)).toList).drop (q0*sz)).take sz=(xs.drop (q0*sz)).take sz:=by
       apply yAK;intro k;rw[yAw,yAw];split;·rw[yAt,yAt,yAi (by rw[yAS];omega),yAr (by omega)]
       ·rfl
      rw[e6];exact h8
     ·rw[if_neg hq2] at hq;have h8:=(hmade (q0 - i) q hq).mono hge;rw[hsz] at h8;have e6:((xs.take (i*sz)++(madeCells v9.cells ((m'+1)*sz)).toList).drop (q0*sz)).take sz=((madeCells v9.cells ((m'+1)*sz)).toList.drop ((q0 - i)*sz)).take sz:=by
       congr 1;have e7:q0*sz=i*sz+(q0 - i)*sz:=by rw[<-yAv];congr 1;omega
       rw[e7,<-yBl,List.drop_left' (by rw[yAS];omega)]
      rw[e6];exact h8
    ·rw[hids];exact (hs.slots q0 q hq).ge hge λ_ _ h=>h
 |_=>simp[BoxRep] at hr2
theorem zl6{w:World}{t tx ty T:TypeId}{ats:Array TypeId}{i:TypeInfo}{z:Value}{ik k:IntKind}(hat:ats[0]?=some t)(hat1:ats[1]?=some tx)(ht:P.underlying t=some (.slice T))(hx:P.underlying tx=some (.int ik))(hi:P.info? T=some i)(hz:i.zero=some z){n:Nat}(h0:0<n)(hn:n<=1073741824)(hb:i.bytes<=32768)(hs:0<i.size) :
  (Builtin.append_ ats ty #[.slice none 0 0,.int k (n:Int)]).run P w= .ok (.slice (some ⟨w.heap.size,0,none⟩) n (grownCap w n 0 T)) (w.drew.alloc (.cells (Builtin.zeroCells z.cells n++Builtin.zeroCells z.cells (grownCap w n 0 T - n)) T)):=by
 have h1:n*i.bytes<=281474976710656:=by have:n*i.bytes<=1073741824*32768:=yBR hn hb;omega
 have h2:n≠0:=by omega
 have hwr:IntKind.i64.wrap (n:Int)=(n:Int):=by unfold IntKind.wrap;simp[IntKind.bits,IntKind.signed];omega
 have h63':¬(9223372036854775807<(n:Int)):=by omega
 have h48':¬(281474976710656<Builtin.nextslicecap n 0*i.bytes):=by rw[nextslicecap_zero h0];omega
 have h48b:¬(281474976710656<(n:Int)*(i.bytes:Int)):=by rw[<-Int.natCast_mul];omega
 have hneg:¬((n:Int)<0):=by omega
 have hsz:i.size≠0:=by omega
 simp[Builtin.append_,hat,hat1,run_underlying ht,run_underlying hx,Go.sizeOf,typeInfo,zeroValue,hi,hz,Builtin.lenOf,h2,h63',h48',h48b,hneg,hwr,asInt,asIntOf,Question.forced,run_firstCells_none,newRow,grownCap];intro h9;exact absurd h9 (by have:=Nat.mul_pos h0 hs;omega)
theorem zni(hun:UniOk un)(ht:TbOk P un tb){t T tx ty:TypeId}{ats:Array TypeId}{u:U}{ik k:IntKind}(hat:ats[0]?=some t)(hat1:ats[1]?=some tx)(hu:P.underlying t=some (.slice T))(hx:P.underlying tx=some (.int ik))(hT:ElOk P un T u){z:El S u}(hz:zdN un tb T u=some z)(hs:St un E N D H e bx a w){n:Nat}(h0:0<n)(hn:n<=1073741824){dst:Option Nat}(hd:∀d,dst=some d->d<N.n) :
  ∃v' w' H',(Builtin.append_ ats ty #[.slice none 0 0,.int k (n:Int)]).run P w= .ok v' w'/\St un E N D H' (push dst (.row bx.length) e) (bx++[.wr u T (List.replicate n z)]) (a.put dst v') w'/\Ge D w D w':=by
 obtain ⟨i,zv,e1,e2,e3,e4,e5,e6⟩:=hT.info;obtain ⟨v0,z1,z2⟩:=zeJ (P:=P) (D:=D) (w:=w) hun ht hz;have hv0:v0=zv:=by simp[zeroValue,typeInfo,e1,e2] at z1;exact z1.symm
 subst hv0;have hzd:=ze5 z2;have hrun:=zl6 (w:=w) (ty:=ty) (k:=k) hat hat1 hu hx e1 e2 h0 hn e6 (by rw[e3];exact e5);generalize hcap:grownCap w n 0 T=cap at hrun;have hge:n<=cap:=by rw[<-hcap];exact grownCap_ge _ _ _ _
 have hmax:cap<=maxLen:=by rw[<-hcap];exact grownCap_le_maxLen _ _ _ _ (by unfold maxLen;omega)
 have hzc:(Builtin.zeroCells v0.cells n).toList=(madeCells v0.cells (n*U.size un u)).toList:=by unfold Builtin.zeroCells madeCells;rw[e4]
 have hb:Below w.heap.size w (w.drew.alloc (.cells (Builtin.zeroCells v0.cells n++Builtin.zeroCells v0.cells (cap - n)) T)):=by have h:=(Below.refl w.heap.size w.drew).alloc (yAl _) (.cells (Builtin.zeroCells v0.cells n++Builtin.zeroCells v0.cells (cap - n)) T);exact ⟨h.os,h.tape,h.output,h.size,h.block⟩
 have hown:(w.drew.alloc (.cells (Builtin.zeroCells v0.cells n++Builtin.zeroCells v0.cells (cap - n)) T)).ownsRow 0 T (U.size un u) (.slice (some ⟨w.heap.size,0,none⟩) n cap) (List.replicate n z).length (madeCells v0.cells (n*U.size un u)).toList:=by
  rw[yBP];refine ⟨by simp[madeCells],.inr ⟨w.heap.size,cap,_,rfl,yAF _,heap_alloc_new w.drew _,hge,hmax,?_,?_⟩⟩;·rw[yB6,size_zeroCells,size_zeroCells,e4,<-yAv];congr 1;omega
  ·rw[yBZ,hzc,List.take_left' (by simp[madeCells])]
 obtain ⟨H',k1,k2⟩:=hs.newWr hb hown rfl (zgK hzd e4 n) hd;exact ⟨_,_,H',hrun,k1,k2⟩
theorem zlK{v:Value}(h:(zaD v:PV S)= .nilp):v= .pointer none:=by
 cases v with
 |pointer a=>cases a with
   |none=>rfl|some a=>simp[zaD] at h
 |slice a l c=>unfold zaD at h;split at h<;>simp_all|tuple vs=>unfold zaD at h;split at h<;>simp_all|_=>simp[zaD] at h
theorem zlJ{v:Value}(h:(zaD v:PV S)= .nils):v= .slice none 0 0:=by
 cases v with
 |pointer a=>cases a<;>simp[zaD] at h|slice a l c=>unfold zaD at h;split at h<;>simp_all|tuple vs=>unfold zaD at h;split at h<;>simp_all|_=>simp[zaD] at h
theorem zmW{cs:List Value}(h:cs.map zaD=[(.nilp:PV S),.nils]):cs=[.pointer none,.slice none 0 0]:=by
 match cs,h with
 |[],h=>simp at h|[_],h=>simp at h|_::_::_::_,h=>simp at h|[x,y],h =>simp only[yAk,yBF,yBp,and_true] at h;rw[zlK h.1,zlJ h.2]
theorem znD(hun:UniOk un)(ht:TbOk P un tb)(hor:SoundO P un orc)(hin:SoundI P un inl){K:PV S->Env S->Bxs S->Option R}{KX:Exit->Env S->Bxs S->Option R}(h:zft un tb orc inl o e bx K KX=some r)(hd:∀d,o.dst=some d->d<N.n)(hs:Holds un E D0 N e bx a w)
  {next:Act->World->Prop} {Q:Exit->Act->World->Prop} (hk:∀p e' bx',K p e' bx'=some r->Pres [] e e'->PresB bx bx'->∀a' w',Holds un E D0 N (push o.dst p e') bx' a' w'->next a' w')
  (hx:∀x e' bx',KX x e' bx'=some r->Pres [] e e'->PresB bx bx'->∀a' w',Holds un E D0 N e' bx' a' w'->Q x a' w'):o.wp P a w next Q:=by
 have old:zei un tb orc inl o e bx K KX=some r->o.wp P a w next Q:=λh=>znE hun ht hor hin h hd hs hk hx
 unfold zft at h;split at h
 ·-- alloc
  rename_i T ho;split at h
  ·rename_i u z hpt;unfold zpC at hpt;obtain ⟨_,hpt⟩:=zac hpt;split at hpt
   ·rename_i u1 hu1;cases hz:zdN un tb T u1 with
    |none=>rw[hz] at hpt;cases hpt|some z1 =>
      rw[hz] at hpt;simp only[yAf,yAe,Sigma.mk.injEq] at hpt;obtain ⟨rfl,hzz⟩:=hpt;have hzz:=eq_of_heq hzz;subst hzz;obtain ⟨D,H,hs,hD,hG⟩:=hs;obtain ⟨v0,g1,g2⟩:=zeJ (P:=P) (D:=D) (w:=w) hun ht hz;have hdr:=ze5 g2;obtain ⟨H',k1,k2⟩:=pt_st (T:=T) hun hs hdr hd;unfold Oper.wp;have:(execOp a.eval o).run P w= .ok (.value (.pointer (some ⟨w.heap.size,0,none⟩))) (w.alloc (.cells v0.cells T)):=by simp[execOp,ho,Instr.alloc,g1,zd8]
      rw[this];exact hk _ _ _ h (Pres.refl _ _) (PresB.append _ _) _ _ ⟨D,H',k1,hD,hG.trans k2⟩
   ·cases hpt
  split at h
  ·rename_i T1 Eb _;cases hb:Nat.beq T1 T with
   |false=>rw[hb] at h;exact old h|true =>
     rw[hb] at h;simp only[cond_true] at h;split at h
     ·rename_i row hrow;split at h
      ·rename_i hz0;obtain ⟨D,H,hs,hD,hG⟩:=hs;obtain ⟨z,g1,g2,g3⟩:=(ht.ty T row hrow).zero;cases hi:P.info? T with
       |none=>rw[hi] at g1;cases g1|some i =>
         rw[hi] at g1;simp only[yAx] at g1;have hzc:z.cells.toList=[.pointer none,.slice none 0 0]:=by rw[hz0] at g3;exact zmW g3.symm
         have hzc':z.cells= #[.pointer none,.slice none 0 0]:=(by rw[<-yBB (xs:=z.cells),hzc]);have hrun:(execOp a.eval o).run P w= .ok (.value (.pointer (some ⟨w.heap.size,0,none⟩))) (w.alloc (.cells #[.pointer none,.slice none 0 0] T)):=(by simp[execOp,ho,Instr.alloc,zeroValue,typeInfo,hi,g1,zd8,hzc']);unfold Oper.wp;rw[hrun];have hb:Below w.heap.size w (w.alloc (.cells #[.pointer none,.slice none 0 0] T)):=(Below.refl _ _).alloc (yAl _) _;have hin1:In E D (H++[.fix (.tuple #[.pointer (some ⟨w.heap.size,0,none⟩),.int .i64 (T:Nat)]) (some w.heap.size) 0 (.cells #[.pointer none,.slice none 0 0] T (0,0))]) (w.alloc (.cells #[.pointer none,.slice none 0 0] T)):=by
          refine hs.inn.push hb ⟨.inr (.inr (.inr ⟨w.heap.size,T,_,_,_,_,rfl,rfl,rfl,.inl rfl⟩)),λg0 hg=>?_⟩ (λg hg=>by simp[Wl.Res.has] at hg;omega) (λk o hk=>.inl hk) (λk o hk=>yAn (hs.inn.lt k o hk) hb.size) (λg hg o _ hk=>?_);·cases hg;exact ⟨.inl hs.inn.out.size,heap_alloc_new w _⟩
          ·simp[Wl.Res.has] at hg;have:=hs.inn.lt g o hk;omega
         have hin2:=hin1.wrNil Eb 1;have hge:Ge D w D (w.alloc (.cells #[.pointer none,.slice none 0 0] T)):=Ge.same hs.inn hb;have hlen:=hs.boxes.length;have hidge:∀(i:Nat) x,(ids H)[i]?=some x->(ids (H++[.fix (.tuple #[.pointer (some ⟨w.heap.size,0,none⟩),.int .i64 (T:Nat)]) (some w.heap.size) 0 (.cells #[.pointer none,.slice none 0 0] T (0,0))]++[.wr (.slice none 0 0) Eb 1 0 []]))[i]?=some x:=λi x hx=>zbe _ _ _ _ (zbe _ _ _ _ hx);refine hk _ _ _ h (Pres.refl _ _) (PresB.append _ _) _ _ ⟨D,_,hs.step hin2 ?_ (λi q hi=>(hs.slots i q hi).ge hge hidge) hd ?_,hD,hG.trans hge⟩
         ·have h5:=(hs.boxes.mono hge (zap hs.inn.out hin2.out) hidge);have h6:=h5.push (b:= .var T [.row (bx.length+1)]) (r:= .fix (.tuple #[.pointer (some ⟨w.heap.size,0,none⟩),.int .i64 (T:Nat)]) (some w.heap.size) 0 (.cells #[.pointer none,.slice none 0 0] T (0,0))) (by simp only[BoxRep,Wl.fixV,RepL,Rep,and_true,List.getD_cons_succ,List.getD_cons_zero];refine ⟨?_,rfl,rfl⟩;rw[hlen];simp[ids,zaf]);have h7:=h6.push (b:= .wr (.int .u8) Eb []) (r:= .wr (.slice none 0 0) Eb 1 0 []) (by simp only[BoxRep];exact ⟨trivial,rfl,rfl,λi x hi=>by simp at hi⟩);simpa using h7
         ·simp only[Rep];refine ⟨w.heap.size,?_,rfl⟩;rw[hlen];simp[ids,zaf]
      ·cases h
     ·cases h
  ·exact old h
 ·-- index
  rename_i t x i ho;split at h
  ·rename_i T u row harr hrow;split at h
   ·rename_i cs k n hcs hi;split at h
    ·rename_i l hl;obtain ⟨y,h1,h2⟩:=zas h;obtain ⟨j,rfl,hj⟩:∃j:Nat,n=j/\l[j]?=some y:=by
      unfold at? at h1;cases n with
      |ofNat j=>exact ⟨j,rfl,h1⟩|negSucc j=>cases h1
     cases hex:ev e x with
     |none=>rw[hex] at hcs;cases hcs|some p =>rw[hex] at hcs;simp only[yAx] at hcs;refine zcc (p:=inj u y) (λE N D H a w hs=>?_) hd hs λa' w' h3=>hk _ e bx h2 (Pres.refl _ _) (PresB.refl _) a' w' h3;obtain ⟨vs,hv,hvs⟩:=zjF hun.flat hcs (hs.ev hex);have hi:=hs.ev hi;simp only[Rep] at hi;obtain ⟨off,m,f1,f2,f3⟩:=zlc hun hvs hl j y hj;rw[hrow] at harr;simp only[yAx] at harr;obtain ⟨f4,f5⟩:=(ht.ty t row hrow).arr T u harr j off m f1;refine .inl ⟨_,?_,zjk f3⟩;have:=f5 vs k w f2;simp[execOp,ho,hv,hi,this]
    ·cases h
   ·cases h
  ·exact old h
 ·-- convert
  rename_i s d x ho;split at h
  ·rename_i b T l hfa;unfold zom at hfa;split at hfa
   ·rename_i b' hex;split at hfa
    ·rename_i T0 l0 T' hg hel;change List Int at l0;obtain ⟨hc,hfa⟩:=zac hfa;simp only[yAe,Prod.mk.injEq] at hfa;obtain ⟨e1,e2,e3⟩:=hfa;subst e1;subst e2;subst e3;simp only[yAd,yAV] at hc;obtain ⟨⟨c1,c2⟩,c3,c4⟩:=hc;have c1:=yAa c1;have c2:=yAa c2;subst c1;subst c2;cases hrow:tb.ty.get s with
     |none=>rw[hrow] at hel;cases hel|some row =>
       rw[hrow] at hel;simp only[yAx] at hel;have hkd:=(ht.ty s row hrow).elem _ _ hel;obtain ⟨T1,u1,q1,q2,q3⟩:=(ht.ty s row hrow).slice hkd;rw[hel] at q1;cases q1;have q4:P.underlying T0=some (.int .u8):=zgN ht c3;obtain ⟨D,H,hs,hD,hG⟩:=hs;obtain ⟨w',H',hrun,k1,k2⟩:=zpP (T':=T0) hs q2 q4 hg c4 (hs.ev hex) hd;unfold Oper.wp;have:(execOp a.eval o).run P w= .ok (.value (a.eval x)) w':=by simp[execOp,ho,hrun]
       rw[this];exact hk _ _ _ h (Pres.kill _ _ _) ((PresB.kill _ _ bx).trans (PresB.set (b:=(Box.wr _ _ _)) (by rw[za5,hg];rfl) rfl λT' cs' he=>by cases he)) _ _ ⟨D,H',k1,hD,hG.trans k2⟩
    ·cases hfa
   ·cases hfa
  ·exact old h
 ·-- slice
  rename_i t x lo ho;split at h
  ·rename_i b T u l n hga;unfold zpO at hga;obtain ⟨_,hga⟩:=zac hga;split at hga
   ·rename_i b' hex;split at hga
    ·rename_i u0 T0 l0 T' u' k n0 hg hel hlo;obtain ⟨h1,hga⟩:=zac hga;simp only[yAe,Prod.mk.injEq,Sigma.mk.injEq] at hga;obtain ⟨rfl,rfl,⟨rfl,hll⟩,rfl⟩:=hga;have hll:=eq_of_heq hll;subst hll;simp only[yAd] at h1;obtain ⟨i,h3,h4⟩:=zas h;obtain ⟨rfl,h5,h6⟩:n0=(i:Int)/\i<=l0.length/\0<l0.length:=by
      unfold znm at h3;cases n0 with
      |ofNat j =>obtain ⟨h5,h6⟩:=zac h3;cases h6;simp only[yAd,yAP,yAV] at h5;exact ⟨rfl,h5⟩
      |negSucc j=>cases h3
     cases hrow:tb.ty.get t with
     |none=>rw[hrow] at hel;cases hel|some row =>
       rw[hrow] at hel;simp only[yAx] at hel;have hkd:=(ht.ty t row hrow).elem _ _ hel;obtain ⟨T1,u1,q1,q2,q3⟩:=(ht.ty t row hrow).slice hkd;rw[hel] at q1;cases q1;have hu:u0=u':=by
        have h7:=h1.1;simp only[ziy] at h7;cases hq:U.eq? u0 u' with
        |none=>rw[hq] at h7;cases h7|some z=>exact z.down
       subst hu;obtain ⟨D,H,hs,hD,hG⟩:=hs;have hlo:=hs.ev hlo;simp only[Rep] at hlo;obtain ⟨v',H',hrun,k1⟩:=go_st (k:=k) hun q2 q3 hs hg (hs.ev hex) h5 h6 hd;unfold Oper.wp;have:(execOp a.eval o).run P w= .ok (.value v') w:=by simp[execOp,ho,hlo,hrun]
       rw[this];exact hk _ _ _ h4 (Pres.kill _ _ _) ((PresB.kill _ _ bx).trans (PresB.set (b:=(Box.own _ _ _)) (by rw[za5,hg];rfl) rfl λT' cs' he=>by cases he)) _ _ ⟨D,H',k1,hD,hG⟩
    ·cases hga
   ·cases hga
  split at h
  ·rename_i b u l n hta;unfold zlZ at hta;split at hta
   ·rename_i b' hex;split at hta
    ·rename_i u0 T l0 T' u' k n0 hg hel hlo;obtain ⟨h1,hta⟩:=zac hta;simp only[yAe,Prod.mk.injEq,Sigma.mk.injEq] at hta;obtain ⟨rfl,⟨rfl,hll⟩,rfl⟩:=hta;have hll:=eq_of_heq hll;subst hll;simp only[yAd] at h1;obtain ⟨i,h3,h4⟩:=zas h;obtain ⟨rfl,h5,h6⟩:n0=(i:Int)/\i<=l0.length/\0<l0.length:=by
      unfold znm at h3;cases n0 with
      |ofNat j =>obtain ⟨h5,h6⟩:=zac h3;cases h6;simp only[yAd,yAP,yAV] at h5;exact ⟨rfl,h5⟩
      |negSucc j=>cases h3
     cases hrow:tb.ty.get t with
     |none=>rw[hrow] at hel;cases hel|some row =>
       rw[hrow] at hel;simp only[yAx] at hel;have hkd:=(ht.ty t row hrow).elem _ _ hel;obtain ⟨T1,u1,q1,q2,q3⟩:=(ht.ty t row hrow).slice hkd;rw[hel] at q1;cases q1;have hu:u0=u':=by
        have h7:=h1.1;simp only[ziy] at h7;cases hq:U.eq? u0 u' with
        |none=>rw[hq] at h7;cases h7|some z=>exact z.down
       subst hu;refine zcc (p:= .rsl b' u0 i) (λE N D H a w hs=>?_) hd hs λa' w' h3=>hk _ e bx h4 (Pres.refl _ _) (PresB.refl _) a' w' h3;have hlo:=hs.ev hlo;simp only[Rep] at hlo;obtain ⟨v',hrun,hv'⟩:=zoH (k:=k) q2 q3 hs hg (hs.ev hex) h5 h6;exact .inl ⟨v',by simp[execOp,ho,hlo,hrun],hv'⟩
    ·cases hta
   ·cases hta
  ·exact old h
 ·-- call
  rename_i c ho;split at h
  ·rename_i hcal;split at h
   ·rename_i k n hl;split at h
    ·rename_i T u ik hel hco;split at h
     ·rename_i z hz;obtain ⟨l,h1,h2⟩:=zas h;obtain ⟨h0,h2⟩:=zac h2;obtain ⟨m,rfl,hm,rfl⟩:∃m:Nat,n=(m:Int)/\m<=1073741824/\l=List.replicate m z:=by
       unfold zoO at h1;cases n with
       |ofNat m =>obtain ⟨h3,h4⟩:=zac h1;cases h4;exact ⟨m,rfl,by simpa[yAP] using h3,rfl⟩
       |negSucc m=>cases h1
      cases hat:c.argTypes[0]? with
      |none=>rw[hat] at hel;cases hel|some t =>
        cases hat1:c.argTypes[1]? with
        |none=>rw[hat1] at hco;cases hco|some tx =>
          rw[hat] at hel;rw[hat1] at hco;simp only[yAx] at hel hco;cases hrow:tb.ty.get t with
          |none=>rw[hrow] at hel;cases hel|some row =>
            cases hrow1:tb.ty.get tx with
            |none=>rw[hrow1] at hco;cases hco|some row1 =>
              rw[hrow] at hel;rw[hrow1] at hco;simp only[yAx] at hel hco;have hkd:=(ht.ty t row hrow).elem _ _ hel;obtain ⟨T1,u1,q1,q2,q3⟩:=(ht.ty t row hrow).slice hkd;rw[hel] at q1;cases q1;have hint:=(ht.ty tx row1 hrow1).int ik hco;obtain ⟨D,H,hs,hD,hG⟩:=hs;have hr:=hs.evs hl;obtain ⟨x,y,hargs⟩:∃x y,c.args.toList.map a.eval=[x,y]:=by
               have:=hr.length;generalize c.args.toList.map a.eval=z at this
               match z,this with
               |[x,y],_=>exact ⟨x,y,rfl⟩
              rw[hargs] at hr;simp only[RepL,Rep,and_true] at hr;obtain ⟨rfl,rfl⟩:=hr;obtain ⟨v',w',H',hrun,k1,k2⟩:=zni (P:=P) (ty:=o.type) (k:=k) hun ht hat hat1 q2 hint q3 hz hs (by simpa using h0) hm hd;unfold Oper.wp;have hmap:c.args.map a.eval= #[.slice none 0 0,.int k (m:Int)]:=by
               have:(c.args.map a.eval).toList=[.slice none 0 0,.int k (m:Int)]:=by rw[Array.toList_map];exact hargs
               rw[<-yBB (xs:=c.args.map a.eval),this]
              have:(execOp a.eval o).run P w= .ok (.value v') w':=by simp[execOp,ho,resolve,hcal,invoke,builtin,hmap,hrun]
              rw[this];exact hk _ _ _ h2 (Pres.refl _ _) (PresB.append _ _) _ _ ⟨D,H',k1,hD,hG.trans k2⟩
     ·cases h
    ·cases h
   ·exact old h
  ·rename_i hcal;split at h
   ·rename_i l T u hl hel;unfold zim at h;split at h
    ·rename_i b v i b' v' j;split at h
     ·rename_i e1 e2 _ _;obtain ⟨e1⟩:=e1;obtain ⟨e2⟩:=e2;subst e1;subst e2;split at h
      ·rename_i v2 T' l0 hg;split at h
       ·rename_i e3 _;subst e3;obtain ⟨h1,h2⟩:=zac h;simp only[yAd,yAP] at h1;have hbb:=yAa h1.1.1;have hTT:=yAa h1.1.2;subst hbb;subst hTT;cases hat:c.argTypes[0]? with
        |none=>rw[hat] at hel;cases hel|some t =>
          rw[hat] at hel;simp only[yAx] at hel;cases hrow:tb.ty.get t with
          |none=>rw[hrow] at hel;cases hel|some row =>
            rw[hrow] at hel;simp only[yAx] at hel;have hkd:=(ht.ty t row hrow).elem _ _ hel;obtain ⟨T1,u1,q1,q2,q3⟩:=(ht.ty t row hrow).slice hkd;rw[hel] at q1;cases q1;obtain ⟨D,H,hs,hD,hG⟩:=hs;have hr:=hs.evs hl;obtain ⟨x,y,hargs⟩:∃x y,c.args.toList.map a.eval=[x,y]:=by
             have:=hr.length;generalize c.args.toList.map a.eval=z at this
             match z,this with
             |[x,y],_=>exact ⟨x,y,rfl⟩
            rw[hargs] at hr;simp only[RepL,and_true] at hr;obtain ⟨t2,hatl⟩:∃r2,c.argTypes.toList=t::r2:=by
             have:c.argTypes.toList[0]?=some t:=by simpa using hat
             cases hz:c.argTypes.toList with
             |nil=>rw[hz] at this;cases this|cons z r2=>rw[hz] at this;cases this;exact ⟨r2,rfl⟩
            obtain ⟨v',w',H',hrun,k1,k2⟩:=zpg (P:=P) (t:=t) (ats:=c.argTypes) (ty:=o.type) hat q2 q3 hs hg hr.1 hr.2 h1.2.1 h1.2.2 hd;unfold Oper.wp;have hmap:c.args.map a.eval= #[x,y]:=by
             have:(c.args.map a.eval).toList=[x,y]:=by rw[Array.toList_map];exact hargs
             rw[<-yBB (xs:=c.args.map a.eval),this]
            have:(execOp a.eval o).run P w= .ok (.value v') w':=by simp[execOp,ho,resolve,hcal,invoke,builtin,hmap,hrun]
            rw[this];exact hk _ _ _ h2 (Pres.refl _ _) (PresB.set hg rfl λT cs he=>by cases he) _ _ ⟨D,H',k1,hD,hG.trans k2⟩
       ·cases h
      ·cases h
     ·cases h
    ·cases h
   ·cases h
  ·rename_i hcal;split at h
   ·rename_i l T u hl hel;unfold zg2 at h;split at h
    ·rename_i b v i;split at h
     ·rename_i ev1 v2 T' l0 z heq1 hg hz;obtain ⟨e1⟩:=ev1;subst e1;split at h
      ·rename_i e3 _;subst e3;obtain ⟨h1,h2⟩:=zac h;simp only[yAd,yAP] at h1;have hTT:=yAa h1.1;subst hTT;cases hat:c.argTypes[0]? with
       |none=>rw[hat] at hel;cases hel|some t =>
         rw[hat] at hel;simp only[yAx] at hel;cases hrow:tb.ty.get t with
         |none=>rw[hrow] at hel;cases hel|some row =>
           rw[hrow] at hel;simp only[yAx] at hel;have hkd:=(ht.ty t row hrow).elem _ _ hel;obtain ⟨T1,u1,q1,q2,q3⟩:=(ht.ty t row hrow).slice hkd;rw[hel] at q1;cases q1;obtain ⟨D,H,hs,hD,hG⟩:=hs;have hr:=hs.evs hl;obtain ⟨x,hargs⟩:∃x,c.args.toList.map a.eval=[x]:=by
            have:=hr.length;generalize c.args.toList.map a.eval=z at this
            match z,this with
            |[x],_=>exact ⟨x,rfl⟩
           rw[hargs] at hr;simp only[RepL,and_true] at hr;obtain ⟨v',w',H',hrun,k1,k2⟩:=zn3 (P:=P) (t:=t) (ats:=c.argTypes) (ty:=o.type) hun ht hat q2 q3 hz hs hg hr h1.2 hd;unfold Oper.wp;have hmap:c.args.map a.eval= #[x]:=by
            have:(c.args.map a.eval).toList=[x]:=by rw[Array.toList_map];exact hargs
            rw[<-yBB (xs:=c.args.map a.eval),this]
           have:(execOp a.eval o).run P w= .ok (.value v') w':=by simp[execOp,ho,resolve,hcal,invoke,builtin,hmap,hrun]
           rw[this];exact hk _ _ _ h2 (Pres.refl _ _) (PresB.set hg rfl λT cs he=>by cases he) _ _ ⟨D,H',k1,hD,hG.trans k2⟩
      ·cases h
     ·cases h
    ·cases h
   ·cases h
  ·split at h
   ·rename_i f l hen;split at h;·rename_i k T Eb hsig;obtain ⟨h1,h2⟩:=ht.bld f k T Eb hsig;exact zqn hen ho h2 h1 h hd hs hk
    ·rename_i u T us hsig;exact zo8 hun hen ho (ht.inpl f u T us hsig) (λargs l l' hl=>hor.p f u T args l l' hl) h hd hs hk
    ·exact old h
   ·cases h
  ·exact old h
 ·exact old h
end
end Pe
end
section
/- Operations on maps of the call's own, and on slices zbv room. -/
namespace Pe
open Go Go.RowKit
variable{S:Nat->Type}
theorem zkG{K V:Type}{eq:K->K->Bool}{x:K}{y:V}{b:K×V}:∀{l:List (K×V)},b∈mput eq x y l->b=(x,y)\/b∈l
 |[],h=>by simp[mput] at h;exact .inl h
 |(k,v)::r,h=>by
   simp only[mput] at h;cases hk:eq x k with
   |true =>
     rw[hk] at h;simp only[cond_true,yAp] at h;rcases h with h|h;·exact .inl h
     ·exact .inr (yAY _ h)
   |false =>
     rw[hk] at h;simp only[cond_false,yAp] at h;rcases h with h|h;·exact .inr (by simp[h])
     ·exact (zkG h).imp id (yAY _)
theorem zjj{K V:Type}{lt:K->K->Bool}{x:K}{y:V}:∀(l:List (K×V)),(insS lt x y l).Perm ((x,y)::l)
 |[]=>.refl _|(k,v)::r=>by
   simp only[insS];cases lt x k with
   |true=>exact .refl _|false=>exact ((zjj r).cons _).trans (.swap _ _ _)
theorem zkD{K V:Type}{eq:K->K->Bool}{x:K}{y:V}:∀{l:List (K×V)},zi4 eq x l=false->mput eq x y l=l++[(x,y)]
 |[],_=>rfl|(k,v)::r,h=>by
   simp only[zi4] at h;cases hk:eq x k with
   |true=>rw[hk] at h;cases h|false=>rw[hk] at h;simp only[mput,hk,cond_false,yAN];rw[zkD h]
theorem zj7{K V:Type}{eq lt:K->K->Bool}{x:K}{y:V}(l:List (K×V)):(mput eq x y l).Perm (znL eq lt x y l):=by
 unfold znL;cases h:zi4 eq x l with
 |true=>exact .refl _|false =>rw[zkD h];exact (List.perm_append_comm (l₁:=l) (l₂:=[(x,y)])).trans (zjj l).symm
theorem zmq{K V:Type}{eq:K->K->Bool}{x:K}{y:V}{l' l:List (K×V)}(h:l'.Perm l):Uniq (eq x) l'->(mput eq x y l').Perm (mput eq x y l):=by
 induction h with
 |nil=>intro _;exact .refl _
 |cons a hp ih =>
   intro hu;simp only[mput];cases eq x a.1 with
   |true=>exact hp.cons _|false=>exact (ih λa ha b hb=>hu a (by simp[ha]) b (by simp[hb])).cons _
 |swap a b l =>
   intro hu;simp only[mput];cases ha:eq x a.1<;>cases hb:eq x b.1<;>simp only[cond_true,cond_false];·exact .swap _ _ _
   ·exact .swap _ _ _
   ·exact .swap _ _ _
   ·rw[hu a (by simp) b (by simp) ha hb]
 |trans h1 _ ih1 ih2 =>intro hu;exact (ih1 hu).trans (ih2 λa ha b hb=>hu a (h1.mem_iff.2 ha) b (h1.mem_iff.2 hb))
theorem zlA{K V:Type}{eq lt:K->K->Bool}{x:K}{y:V}{l' l:List (K×V)}(h:l'.Perm l)(hu:Uniq (eq x) l'):(mput eq x y l').Perm (znL eq lt x y l):=(zmq h hu).trans (zj7 l)
section
variable{P:Program}{un:Uni S}{tb:Tb S}{orc:Orc S}{inl:Inl S}{E:Wl.Ctx}{D0:Dat}{N:Wl.Fr}{D D':Dat}{H:List Wl.Res}{e:Env S}{bx:Bxs S}{a:Act}{w w':World}{o:Oper}{R:Type}{r:R}
theorem Keys1.mput{k:U}{V:Type}{x:El S k}{y:V}:∀{l:List (El S k×V)},Keys1 un k l->Keys1 un k (Pe.mput (keq un k) x y l)
 |[],_=>by simp[Pe.mput,Keys1]
 |(k0,v)::r,h=>by
   obtain ⟨h1,h2⟩:=List.pairwise_cons.1 h;simp only[Pe.mput];cases hk:keq un k x k0 with
   |true =>refine List.pairwise_cons.2 ⟨λb hb=>?_,h2⟩;have:=h1 b hb;simp only at this ⊢;rw[ze4,zje hk,ze4];exact this
   |false =>
     refine List.pairwise_cons.2 ⟨λb hb=>?_,Keys1.mput h2⟩;rcases zkG hb with rfl|hb;·simp only;rw[ze4];exact hk
     ·exact h1 b hb
theorem St.newOmp(h:St un E N D H e bx a w)(k v:U){dst:Option Nat}(hd:∀d,dst=some d->d<N.n) :
  ∃H',St un E N D H' (push dst (.ref bx.length) e) (bx++[.omp k v []]) (a.put dst (.map (some w.heap.size))) (w.alloc (.map #[] 0))/\Ge D w D (w.alloc (.map #[] 0)):=by
 have hb:Below w.heap.size w (w.alloc (.map #[] 0)):=(Below.refl _ _).alloc (yAl _) _;have hin:In E D (H++[.omp w.heap.size #[] 0]) (w.alloc (.map #[] 0)):=by refine h.inn.push hb ⟨.inl h.inn.out.size,heap_alloc_new w _,by simp[Wl.stampOk]⟩ (λg hg=>by cases hg;exact yAl _) (λk o hk=>.inl hk) (λk o hk=>yAn (h.inn.lt k o hk) hb.size) (λg hg o _ hk=>?_);cases hg;have:=h.inn.lt _ o hk;omega
 have hge:Ge D w D (w.alloc (.map #[] 0)):=Ge.same h.inn hb;have hlen:=h.boxes.length;refine ⟨_,h.step hin ?_ (λi q hi=>(h.slots i q hi).ge hge (zbe H _)) hd ?_,hge⟩;·refine (h.boxes.mono hge (zap h.inn.out hin.out) (zbe H _)).push ?_;simp only[BoxRep];exact ⟨[],.refl _,List.Pairwise.nil,znM (l:=[]) trivial trivial⟩
 ·simp only[Rep];exact ⟨by rw[hlen,zcQ];rfl,rfl⟩
theorem znG{b g:Nat}{es es':Array MapEntry}{c c':Nat}(hin:In E D H w)(hb:H[b]?=some (.omp g es c))(hs:Wl.stampOk es' c')(hw:w'={ w with heap:=w.heap.setIfInBounds g (.map es' c') }) :
  In E D (H.set b (.omp g es' c')) w'/\Ge D w D w':=by
 have hmem:=yAb hb;have hh:=hin.res _ hmem;have hgl:=(yAq.1 hh.2.1).1;have hgr:w.grownBy w' (some g):=by subst hw;exact ⟨rfl,rfl,rfl,by simp,λk hk hne=>by show (w.heap.setIfInBounds g _)[k]?=_;rw[yAJ,if_neg (λh:g=k=>hne (by rw[h]))]⟩
 refine ⟨hin.turn hb hgr ⟨hh.1,?_,hs⟩ (λg hg=>.inl hg) (λk o hk=>.inl hk) (λk o hk=>yAn (hin.lt k o hk) hgr.size) (λg' hg' o hf hd=>hin.apart _ hmem g' hg' o trivial hd) (λh=>by cases h),.of (λ_ _ h=>h) λk o hk=>hgr.block k (hin.lt k o hk) λhkb=>hin.apart _ hmem k (yAy hkb).symm o trivial hk⟩;subst hw;simp[hgl]
theorem zlk{es:Array MapEntry}{c:Nat}(h:Wl.stampOk es c)(x:MapEntry)(hx:x.born=c):Wl.stampOk (es.push x) (c+1):=by
 obtain ⟨h1,h2⟩:=h;refine ⟨λy hy=>?_,?_⟩
 ·simp only[Array.toList_push,yAm,yA9] at hy;rcases hy with hy|rfl;·have:=h1 y hy;omega
  ·omega
 ·simp only[Array.toList_push,List.map_append,yAk,yBF];refine List.nodup_append.2 ⟨h2,by simp,λa ha b hb=>?_⟩;simp only[yA9] at hb;obtain ⟨y,hy,rfl⟩:=yBd.1 ha;have:=h1 y hy;omega
theorem ziA{es:Array MapEntry}{c:Nat}(h:Wl.stampOk es c)(j:Nat)(f:MapEntry->MapEntry)(hf:∀x,(f x).born=x.born):Wl.stampOk (es.modify j f) c:=by
 obtain ⟨h1,h2⟩:=h;have e:(es.modify j f).toList.map (·.born)=es.toList.map (·.born):=by
  rw[yBG];apply yAK;intro i;simp only[yAg,List.getElem?_modify];cases es.toList[i]? with
  |none=>rfl|some y=>by_cases hij:j=i<;>simp[hij,hf]
 refine ⟨λy hy=>?_,by rw[e];exact h2⟩;have:y.born∈es.toList.map (·.born):=by rw[<-e];exact yBd.2 ⟨y,hy,rfl⟩
 obtain ⟨z,hz,hzy⟩:=yBd.1 this;rw[<-hzy];exact h1 z hz
theorem ziW(hun:UniOk un)(ht:TbOk P un tb){K:PV S->Env S->Bxs S->Option R}{t:TypeId}{m x y:Operand}{b:Nat}{k v:U}{l:List (El S k×El S v)}(ha:znH tb e bx t m=some (b,⟨k,v,l⟩))(h:ziX un e bx b k v l x y K=some r)(ho:∀w w',(Instr.mapUpdate t (a.eval m) (a.eval x) (a.eval y)).run P w= .ok () w'->(execOp a.eval o).run P w= .ok .skip w')(hd:∀d,o.dst=some d->d<N.n)(hs:Holds un E D0 N e bx a w)
  {next:Act->World->Prop} {Q:Exit->Act->World->Prop} (hk:∀p e' bx',K p e' bx'=some r->Pres [] e e'->PresB bx bx'->∀a' w',Holds un E D0 N (push o.dst p e') bx' a' w'->next a' w'):o.wp P a w next Q:=by
 unfold znH at ha;split at ha
 ·rename_i b0 kt k0 vt v0 hm hmp;split at ha
  ·rename_i k' v' l0 hg;split at ha
   ·rename_i heq _;cases heq;cases ha;unfold ziX at h;split at h
    case h_2=>cases h
    rename_i key val hkey hval;obtain ⟨h1,h2⟩:=zac h;obtain ⟨D,H,hs,hD,hG⟩:=hs;cases hrow:tb.ty.get t with
    |none=>rw[hrow] at hmp;cases hmp|some row =>
      rw[hrow] at hmp;simp only[yAx] at hmp;obtain ⟨hu,hky⟩:=(ht.ty t row hrow).mp _ _ _ _ hmp;have kr:Rep un [] D w (inj k key) (a.eval x):=by
       cases hx:ev e x with
       |none=>rw[hx] at hkey;cases hkey|some q=>rw[hx] at hkey;exact zbx (zbm hun hkey (hs.fz hun (hs.ev hx))).2
      have vr:Rep un [] D w (inj v val) (a.eval y):=by
       cases hy:ev e y with
       |none=>rw[hy] at hval;cases hval|some q=>rw[hy] at hval;exact zbx (zbm hun hval (hs.fz hun (hs.ev hy))).2
      have hmv:=hs.ev hm;simp only[Rep] at hmv;obtain ⟨r0,hr1,hr2⟩:=hs.boxes.get hg;have hh:=hs.inn.res _ (yAb hr1);have hid:=hmv.1;simp only[ids,yAg,hr1,yAf,yAe] at hid;cases r0 with
      |omp g0 es c =>
        simp only[BoxRep] at hr2;obtain ⟨l',q1,q2,q3⟩:=hr2;obtain ⟨e4,e5⟩:=zih q3;simp only[zaf,Prod.mk.injEq,true_and] at hid;have hblk:=hh.2.1;have fin:∀(es':Array MapEntry) c',(Instr.mapUpdate t (.map (some g0)) (a.eval x) (a.eval y)).run P w= .ok () { w with heap:=w.heap.setIfInBounds g0 (.map es' c') }->Wl.stampOk es' c'->KeysRep un D w k ((mput (keq un k) key val l').map (·.1)) es'.toList->ValsRep un D w v ((mput (keq un k) key val l').map (·.2)) es'.toList->o.wp P a w next Q:=by
         intro es' c' hrun hst k1 k2;obtain ⟨hin,hge⟩:=znG (es':=es') (c':=c') hs.inn hr1 hst rfl;have hids:ids (H.set b (.omp g0 es' c'))=ids H:=zaq hr1 rfl;unfold Oper.wp;rw[ho w _ (by rw[<-hid];exact hrun)];refine hk _ _ _ h2 (Pres.refl _ _) (PresB.set hg rfl λT' cs' he=>by cases he) _ _ ⟨D,_,hs.step hin ?_ (λi q hi=>?_) hd ?_,hD,hG.trans hge⟩;·rw[hids];refine (hs.boxes.mono hge (zap hs.inn.out hin.out) λ_ _ h=>h).set ?_;simp only[BoxRep];exact ⟨_,zlA q1 (q2.uniq key),q2.mput,znM (k1.mono hge) (k2.mono hge)⟩
         ·rw[hids];exact (hs.slots i q hi).ge hge λ_ _ h=>h
         ·simp only[zay,Rep];exact ⟨[],rfl,by simp[RepL]⟩
        have hfind:=hky.find D w key _ _ _ kr e4;rcases zgT (born:=c) kr vr 0 e4 e5 with ⟨f1,f2,f3⟩|⟨j,y0,x0,e0,f1,f2,f3,f4,f5⟩
        ·rw[f1] at hfind;refine fin (es.push ⟨a.eval x,a.eval y,c⟩) (c+1) ?_ (zlk hh.2.2 _ rfl) (by simpa using f2) (by simpa using f3);simp[Instr.mapUpdate,run_underlying hu,MapKept.run_getObj_map hblk,hky.check D w key _ _ kr,hfind,MapKept.run_setObj_map _ hblk,Result.andThen]
        ·rw[f1] at hfind;have hj:es[j]?=some e0:=by simpa using f2
         have hst:=hky.stays D w key x0 _ _ kr f3 f4;obtain ⟨g1,g2⟩:=f5 (λe'=>{ e' with key:=a.eval x,val:=a.eval y }) rfl rfl;refine fin (es.modify j λe'=>{ e' with key:=a.eval x,val:=a.eval y }) c ?_ (ziA hh.2.2 _ _ λ_=>rfl) (by rw[yBG];exact g1) (by rw[yBG];exact g2);simp[Instr.mapUpdate,run_underlying hu,MapKept.run_getObj_map hblk,hky.check D w key _ _ kr,hfind,hj,hst,MapKept.run_setObj_map _ hblk,Result.andThen]
      |_=>simp[BoxRep] at hr2
   ·cases ha
  ·cases ha
 ·cases ha
theorem znz(hun:UniOk un)(ht:TbOk P un tb){K:PV S->Env S->Bxs S->Option R}{t:TypeId}{x:Operand}{p:PV S}{row:TyRow S}{kt vt:TypeId}{k v:U}{l:List (El S k×El S v)}(ho:o.op= .range t x)(hx:ev e x=some p)(hrow:tb.ty.get t=some row)(hmp:row.mp=some (kt,k,vt,v))(hfz:fz1 bx p= .cont (.fm k v) l)
  (h:K (.ptr bx.length 0) e (bx++[.itr k v none l])=some r) (hd:∀d,o.dst=some d->d<N.n) (hs:Holds un E D0 N e bx a w)
  {next:Act->World->Prop} {Q:Exit->Act->World->Prop} (hk:∀p e' bx',K p e' bx'=some r->Pres [] e e'->PresB bx bx'->∀a' w',Holds un E D0 N (push o.dst p e') bx' a' w'->next a' w'):o.wp P a w next Q:=by
 obtain ⟨D,H,hs,hD,hG⟩:=hs;have hv:=hs.fz1 hun (hs.ev hx);rw[hfz] at hv;simp only[Rep] at hv;obtain ⟨g0,es,c,l',e1,hDg,hm,hst,hp,hn,e4,e5⟩:=zmQ hv;obtain ⟨hu,_⟩:=(ht.ty t row hrow).mp _ _ _ _ hmp;have hb:Below w.heap.size w (w.alloc (.mapIter (some g0) c #[] c)):=(Below.refl _ _).alloc (yAl _) _;have hin:In E D (H++[.it w.heap.size (some g0) c #[] c]) (w.alloc (.mapIter (some g0) c #[] c)):=by refine hs.inn.push hb ⟨.inl hs.inn.out.size,heap_alloc_new w _⟩ (λg hg=>by cases hg;exact yAl _) (λk o hk=>.inl hk) (λk o hk=>yAn (hs.inn.lt k o hk) hb.size) (λg hg o _ hk=>?_);cases hg;have:=hs.inn.lt _ o hk;omega
 have hge:Ge D w D (w.alloc (.mapIter (some g0) c #[] c)):=Ge.same hs.inn hb;have hlen:=hs.boxes.length;have hrun:(execOp a.eval o).run P w= .ok (.value (.pointer (some ⟨w.heap.size,0,none⟩))) (w.alloc (.mapIter (some g0) c #[] c)):=by have:=run_range_map (P:=P) w t _ _ g0 es c hu hm;simp[execOp,ho,e1,this]
 unfold Oper.wp;rw[hrun];have hleft:(leftOf es #[]).toList=es.toList:=by simp[leftOf]
 refine hk _ _ _ h (Pres.refl _ _) (PresB.append _ _) _ _ ⟨D,_,hs.step hin ?_ (λi q hi=>(hs.slots i q hi).ge hge (zbe H _)) hd ?_,hD,hG.trans hge⟩
 ·refine (hs.boxes.mono hge (zap hs.inn.out hin.out) (zbe H _)).push ?_;simp only[BoxRep];refine ⟨yAl _,g0,es,rfl,hDg,hge.map _ _ hDg _ _ hm,hst,⟨l',hp,?_,λi z en hz hen=>?_⟩,λx hx=>by cases hx⟩;·rw[hleft];have:=e4.length;simpa using this
  ·rw[hleft] at hen;exact ⟨zcb (e4.mono hge) i z.1 en (by simp[hz]) hen,zb3 (e5.mono hge) i z.2 en (by simp[hz]) hen⟩
 ·simp only[Rep];exact ⟨w.heap.size,by rw[hlen,zcQ];rfl,rfl⟩
theorem zkj(hun:UniOk un){T:TypeId}{u:U}{t ty:TypeId}(hu:P.underlying t=some (.slice T))(hT:ElOk P un T u){old new:List (El S u)}{v x:Value}(hs:St un E N D H e bx a w)(hv:Rep un (ids H) D w (.cont (.cs u) (show El S (.cs u) from old)) v)
  (hx:Rep un (ids H) D w (.sl u new) x) (hne:0<new.length) (hlim:old.length+new.length<=lim) {dst:Option Nat} (hd:∀d,dst=some d->d<N.n) :
  ∃v' w' H',(Builtin.append_ #[t,t] ty #[v,x]).run P w= .ok v' w'/\St un E N D H' (push dst (.row bx.length) e) (bx++[.wr u T (old++new)]) (a.put dst v') w'/\Ge D w D w':=by
 have hv0:∃A,v= .slice A old.length old.length/\Rep un (ids H) D w (.sl u old) v:=by
  simp only[Rep] at hv ⊢;cases hv with
  |cs0 A h0 h=>have h0':old=[]:=h0;subst h0';exact ⟨A,rfl,.sl0 A 0 rfl .nil⟩
  |cs b off cs h1 h2 h=>exact ⟨_,rfl,.sl b off _ cs (yAl _) h1 h2 .nil⟩
 obtain ⟨A0,hvA,hold⟩:=hv0;obtain ⟨A1,c1,olds,o0,o1,o2,o3,o4,o5⟩:=zfP hun.flat hold;rw[hvA] at o0;cases o0;subst hvA;obtain ⟨A,c,news,rfl,g1,g2,g3,g4,g5⟩:=zfP hun.flat hx;obtain ⟨inf,z,e1,e2,e3,e4,e5,e6⟩:=hT.info;have hbytes:(old.length+new.length)*inf.bytes<=140737488355328:=by have:(old.length+new.length)*inf.bytes<=4294967296*32768:=yBR (by unfold lim at hlim;exact hlim) e6;omega
 have h63:old.length+new.length<=maxLen:=by unfold lim at hlim;unfold maxLen;omega
 obtain ⟨ad,rfl⟩:∃ad,A=some ad:=by
  cases A with
  |none=>have:=g2 rfl;rw[this] at hne;simp at hne
  |some ad=>exact ⟨ad,rfl⟩
 have hsrc:Src P inf.size t (.slice (some ad) new.length c) new.length news w:=Src.ofSlice w hu ad _ c news (by rw[g1,e3]) (g3 ad rfl) g5;have hfirst:(Builtin.firstCells inf.size old.length (.slice A0 old.length old.length)).run P w.drew= .ok olds.toArray w.drew:=by
  cases A0 with
  |none =>have h0:=o2 rfl;have hn:olds=[]:=yA1 (by rw[o1,h0];simp);rw[hn];rfl
  |some b0=>exact (Src.ofSlice (P:=P) w hu b0 old.length old.length olds (by rw[o1,e3]) (o3 b0 rfl) o5).cellsD
 have hr:=run_append_grow_src (P:=P) w t t ty T inf z hu e1 e2 A0 old.length old.length olds hfirst _ new.length news hsrc (by omega) (by unfold maxLen at h63;omega) (growslice_fits (by omega) hbytes);have hge:=grownCap_ge w (old.length+new.length) old.length T;have hb:Below w.heap.size w (w.drew.alloc (.cells ((olds++news).toArray++Builtin.zeroCells z.cells (grownCap w (old.length+new.length) old.length T - (old.length+new.length))) T)):=⟨rfl,rfl,rfl,by simp,λk hk=>Below.heap_alloc w.drew _ k hk⟩;have hlen:(olds++news).length=(old.length+new.length)*U.size un u:=by rw[yAD,o1,g1,yAv]
 have hown:(w.drew.alloc (.cells ((olds++news).toArray++Builtin.zeroCells z.cells (grownCap w (old.length+new.length) old.length T - (old.length+new.length))) T)).ownsRow 0 T (U.size un u) (.slice (some ⟨w.heap.size,0,none⟩) (old.length+new.length) (grownCap w (old.length+new.length) old.length T)) (old++new).length (olds++news):=by
  refine ⟨by rw[hlen,yAD],.inr ⟨w.heap.size,_,_,by rw[yAD],yAF _,heap_alloc_new w.drew _,by rw[yAD];exact hge,grownCap_le_maxLen w _ _ T h63,?_,?_⟩⟩;·simp only[yB6,yBM,size_zeroCells,hlen];rw[show z.cells.size=U.size un u from by first|exact e4|(rw[e4];exact e3)];rw[<-yAv];congr 1;omega
  ·simp only[yBZ,yAD];rw[<-hlen];exact yA5
 have hseg:ziu un D w u (old++new) (olds++news):=by
  intro i y hy;rcases yAR i old.length with hlt|hgt
  ·rw[yAi hlt] at hy;have h5:=o4 i y hy;have h6:(i+1)*U.size un u<=old.length*U.size un u:=yAo _ hlt;rw[yAv,yAM] at h6;rw[yBL (by omega),List.take_append_of_le_length (by simp;omega)];exact h5
  ·rw[yAz hgt] at hy;have h5:=g4 (i - old.length) y hy;have h6:i*U.size un u=olds.length+(i - old.length)*U.size un u:=by rw[o1,<-yAv];congr 1;omega
   rw[h6,yBV,yA2 (by omega),yAZ,yAQ];exact h5
 obtain ⟨H',k1,k2⟩:=hs.newWr hb hown rfl hseg hd;exact ⟨_,_,H',hr,k1,k2⟩
theorem zjo:∀(bx:Bxs S)(b:Box S),zae (bx++[b]) bx.length=some b|[],_=>rfl|_::r,b=>by simpa[zae] using zjo r b
theorem ziE:∀(bx:Bxs S)(b c:Box S),zau (bx++[b]) bx.length c=bx++[c]|[],_,_=>rfl|_::r,b,c=>by simp[zau,ziE r b c]
theorem zh4(hun:UniOk un)(ht:TbOk P un tb)(hor:SoundO P un orc)(hin:SoundI P un inl){K:PV S->Env S->Bxs S->Option R}{KX:Exit->Env S->Bxs S->Option R}(h:zlU un tb orc inl o e bx K KX=some r)(hd:∀d,o.dst=some d->d<N.n)(hs:Holds un E D0 N e bx a w)
  {next:Act->World->Prop} {Q:Exit->Act->World->Prop} (hk:∀p e' bx',K p e' bx'=some r->Pres [] e e'->PresB bx bx'->∀a' w',Holds un E D0 N (push o.dst p e') bx' a' w'->next a' w')
  (hx:∀x e' bx',KX x e' bx'=some r->Pres [] e e'->PresB bx bx'->∀a' w',Holds un E D0 N e' bx' a' w'->Q x a' w'):o.wp P a w next Q:=by
 have old:zft un tb orc inl o e bx K KX=some r->o.wp P a w next Q:=λh=>znD hun ht hor hin h hd hs hk hx
 unfold zlU at h;split at h
 ·-- makeMap
  rename_i t ho;cases hl:zcv tb o with
  |false=>rw[hl] at h;exact old h|true =>
    rw[hl] at h;simp only[cond_true] at h;split at h
    ·rename_i kt k vt v hmp;obtain ⟨D,H,hs,hD,hG⟩:=hs;obtain ⟨H',k1,k2⟩:=hs.newOmp k v hd;unfold Oper.wp;have:(execOp a.eval o).run P w= .ok (.value (.map (some w.heap.size))) (w.alloc (.map #[] 0)):=by simp[execOp,ho];rfl
     rw[this];exact hk _ _ _ h (Pres.refl _ _) (PresB.append _ _) _ _ ⟨D,H',k1,hD,hG.trans k2⟩
    ·cases h
 ·-- mapUpdate
  rename_i t m x y ho;split at h;·rename_i hr';exact ziW hun ht hr' h (λw w' hrun=>by simp[execOp,ho,hrun]) hd hs hk
  ·exact old h
 ·-- insert
  rename_i t m x y ho;split at h;·rename_i hr';exact ziW hun ht hr' h (λw w' hrun=>by simp[execOp,ho,hrun]) hd hs hk
  ·exact old h
 ·-- range
  rename_i t x ho;split at h
  ·rename_i p kt k vt v hxp hmp;split at h
   ·rename_i u l hfz;split at h
    ·rename_i heq _;subst heq;cases hrow:tb.ty.get t with
     |none=>rw[hrow] at hmp;cases hmp|some row =>rw[hrow] at hmp;simp only[yAx] at hmp;refine znz (K:=λp e' bx'=>K p e' bx') hun ht ho hxp hrow hmp hfz ?_ hd (hs.freeze (zcA p)) λp' e' bx' h1 h2 h3=>hk p' e' bx' h1 h2 ((PresB.freeze _ bx).trans h3);rw[zaM];exact h
    ·cases h
   ·cases h
  ·cases h
 ·-- call
  rename_i c ho;split at h
  ·rename_i hcal;split at h
   ·rename_i u0 old0 x t hev htw;split at h
    ·rename_i T u hel;split at h
     ·rename_i new heq hnew _;subst heq;obtain ⟨h1,h2⟩:=zac h;obtain ⟨l,h3,h4⟩:=zas h2;obtain ⟨h5,rfl⟩:=zb1 h3;obtain ⟨D,H,hs,hD,hG⟩:=hs.freeze (zcA x);cases hrow:tb.ty.get t with
      |none=>rw[hrow] at hel;cases hel|some row =>
        rw[hrow] at hel;simp only[yAx] at hel;have hrw:=ht.ty t row hrow;obtain ⟨T',u',g1,g2,g3⟩:=hrw.slice (hrw.elem T u0 hel);rw[hel] at g1;simp at g1;obtain ⟨rfl,rfl⟩:=g1;obtain ⟨args,hca⟩:∃args:List Operand,c.args=⟨args⟩:=⟨c.args.toList,by cases c.args;rfl⟩;have hr:=hs.evs hev;rw[hca] at hr;have hat:c.argTypes= #[t,t]:=by obtain ⟨tl,htl⟩:∃l:List Nat,c.argTypes=⟨l⟩:=⟨c.argTypes.toList,by cases c.argTypes;rfl⟩;rw[htl] at htw ⊢;rcases tl with _|⟨x1,_|⟨x2,_|⟨x3,_⟩⟩⟩<;>simp[zlf] at htw;obtain ⟨q1,q2⟩:=zac htw;cases q2;rw[yAa q1]
        rcases args with _|⟨s0,_|⟨x0,_|⟨_,_⟩⟩⟩<;>simp only[yAk,yBF,RepL,and_true,and_false] at hr;have f5:Rep un (ids H) D w (.sl u0 new) (a.eval x0):=by have:=(zbm hun (un:=un) hnew (hs.fz1 hun hr.2)).2;simpa only[inj] using this
        obtain ⟨v',w',H',hrun,k1,k2⟩:=zkj (P:=P) (ty:=o.type) hun g2 g3 hs hr.1 f5 (by simpa[yAV] using h1) (by simpa using h5) hd;have hex:(execOp a.eval o).run P w= .ok (.value v') w':=by simp[execOp,ho,resolve,hcal,hca,hat,invoke,builtin,hrun]
        unfold Oper.wp;rw[hex];rw[zaM] at k1;have hpb:∀b,PresB bx (zak (zcA x) bx++[b]):=λb=>(PresB.freeze _ _).trans (PresB.append _ _);cases hlin:zcv tb o with
        |true =>rw[hlin] at h4;exact hk _ _ _ h4 (Pres.refl _ _) (hpb _) _ _ ⟨D,H',k1,hD,hG.trans k2⟩|false =>
          rw[hlin] at h4;have hlast:zae (zak (zcA x) bx++[Box.wr u0 T ((show List (El S u0) from old0)++new)]) bx.length=some (.wr u0 T ((show List (El S u0) from old0)++new)):=by rw[<-zaM (zcA x) bx];exact zjo _ _
          obtain ⟨D2,H2,m1,m2,m3,m4⟩:=zmO k1 hlast;have hset:zau (zak (zcA x) bx++[Box.wr u0 T ((show List (El S u0) from old0)++new)]) bx.length (.own u0 T ((show List (El S u0) from old0)++new))=zak (zcA x) bx++[.own u0 T ((show List (El S u0) from old0)++new)]:=by rw[<-zaM (zcA x) bx];exact ziE _ _ _
          rw[hset] at m1;exact hk _ _ _ h4 (Pres.refl _ _) (hpb _) _ _ ⟨D2,H2,m1,λk o hk=>(m4 k o hk).elim (hD k o) .inr,hG.trans (k2.trans m3)⟩
     ·cases h
    ·cases h
   ·exact old h
  ·exact old h
 ·exact old h
end
end Pe
end
section
/- Regions in the text's order. -/
namespace Pe
open Go Go.RowKit
variable{S:Nat->Type}
def Sub(e' e:Env S):Prop:=∀i p,zan e' i=some p->zan e i=some p
theorem Sub.refl(e:Env S):Sub e e:=λ_ _ h=>h
theorem Sub.trans{a b c:Env S}(h:Sub a b)(k:Sub b c):Sub a c:=λi p hp=>k i p (h i p hp)
theorem Sub.push{e e':Env S}(h:Sub e' e)(d:Option Nat)(v:PV S):Sub (push d v e') (push d v e):=by
 intro i p hp;cases d with
 |none=>exact h i p hp|some k =>
   simp only[Pe.push,zan] at hp ⊢;cases hb:Nat.beq k i with
   |true=>rw[hb] at hp;exact hp|false=>rw[hb] at hp;exact h i p hp
theorem zaC{e:Env S}{d:Option Nat}{v:PV S}{i:Nat}(h:d≠some i):zan (push d v e) i=zan e i:=by
 cases d with
 |none=>rfl|some k =>
   simp only[Pe.push,zan];have:Nat.beq k i=false:=by
    cases hb:Nat.beq k i with
    |true=>exact absurd (by rw[yAa hb]) h|false=>rfl
   rw[this];rfl
def zcs(W:List Nat):Env S->Env S|[]=>[]|(i,p)::r=>bif W.contains i then (i,p)::zcs W r else zcs W r
theorem zca(W:List Nat):∀(e:Env S)(i:Nat),zan (zcs W e) i=if i∈W then zan e i else none
 |[],i=>by simp[zcs,zan]
 |(j,p)::r,i=>by
   simp only[zcs];by_cases hj:j∈W
   ·have:W.contains j=true:=by simpa using hj
    rw[this];simp only[cond_true,zan];cases hb:Nat.beq j i with
    |true=>have:=yAa hb;subst this;simp[hj]
    |false=>simpa using zca W r i
   ·have:W.contains j=false:=by simpa using hj
    rw[this];simp only[cond_false,zan];cases hb:Nat.beq j i with
    |true=>have:=yAa hb;subst this;rw[zca W r j];simp[hj]
    |false=>simpa using zca W r i
theorem ziO(W:List Nat)(e:Env S):Sub (zcs W e) e:=by
 intro i p h;rw[zca] at h;split at h;·exact h
 ·cases h
theorem zat{W:List Nat}(e:Env S){x:Operand}(h:∀t,x= .tmp t->t∈W):ev (zcs W e) x=ev e x:=by
 cases x with
 |tmp t=>simp only[ev,zca,if_pos (h t rfl)]|_=>rfl
theorem zcS{W:List Nat}(e:Env S):∀{l:List Operand},(∀x∈l,∀t,x= .tmp t->t∈W)->evs (zcs W e) l=evs e l|[],_=>rfl|x::r,h=>by simp only[evs];rw[zat e (h x (by simp)),zcS e λy hy=>h y (by simp[hy])]
theorem zeU{W:List Nat}(e:Env S):∀{l:List (Nat×Operand)},(∀x∈l,∀t,x.2= .tmp t->t∈W)->zct (zcs W e) l=zct e l|[],_=>rfl|(i,x)::r,h=>by simp only[zct];rw[zat e (h (i,x) (by simp)),zeU e λy hy=>h y (by simp[hy])]
section
variable{P:Program}{un:Uni S}{tb:Tb S}{orc:Orc S}{inl:Inl S}{E:Wl.Ctx}{D0:Dat}{N:Wl.Fr}{e:Env S}{bx:Bxs S}{a:Act}{w:World}{o:Oper}{R:Type}{r:R}{Q:Exit->Act->World->Prop}
theorem zjx{W:List Nat}(e:Env S){c:Call}(h:∀x∈c.operands.toList,∀t,x= .tmp t->t∈W):zcT (zcs W e) c=zcT e c:=by
 unfold zcT;cases hc:c.callee with
 |value f =>simp only;rw[zat e (h f (by simp[Call.operands,hc])),zcS e λx hx=>h x (by simp[Call.operands,hc];exact .inr (by simpa using hx))]|_=>rfl
theorem zjX{K:PV S->Option R}{W:List Nat}(hW:∀x∈o.op.operands.toList,∀t,x= .tmp t->t∈W):zeh un tb orc inl o (zcs W e) bx K=zeh un tb orc inl o e bx K:=by
 unfold zeh;cases ho:o.op<;>rw[ho] at hW<;>simp only[Op.operands] at hW<;>try rfl
 case move x=>simp only[zat e (hW x (by simp))]
 case assign x=>simp only[zat e (hW x (by simp))]
 case pick c x y=>simp only[zat e (hW c (by simp)),zat e (hW x (by simp)),zat e (hW y (by simp))]
 case build t ps=>simp only[zeU e (l:=ps.toList) λx hx=>hW x.2 (by simp only[Array.mem_toList_iff,yBd];simpa using ⟨x.1,by simpa using hx⟩)]
 case load t x=>simp only[zat e (hW x (by simp))]
 case nilCheck x=>simp only[zat e (hW x (by simp))]
 case binOp op t x y t'=>simp only[zat e (hW x (by simp)),zat e (hW y (by simp))]
 case unOp op t x=>cases op<;>simp only[zat e (hW x (by simp))]
 case makeInterface t x=>simp only[zat e (hW x (by simp))]
 case makeFunc fn first cap=>simp only[zcS e (l:=first.toList) λx hx=>hW x (by simp;exact .inl (by simpa using hx)),zcS e (l:=cap.toList) λx hx=>hW x (by simp;exact .inr (by simpa using hx))]
 case slice t x lo hi mx =>
  cases mx with
  |some _=>rfl|none =>
    simp only[zat e (hW x (by simp))];cases lo<;>cases hi<;>simp only[];·rename_i y;rw[zat e (hW y (by simp))]
    ·rename_i y;rw[zat e (hW y (by simp))]
    ·rename_i y z;rw[zat e (hW y (by simp)),zat e (hW z (by simp))]
 case fieldAddr s x f=>simp only[zat e (hW x (by simp))]
 case indexAddr t x i=>simp only[zat e (hW x (by simp)),zat e (hW i (by simp))]
 case index t x i=>simp only[zat e (hW x (by simp)),zat e (hW i (by simp))]
 case extract x i=>simp only[zat e (hW x (by simp))]
 case call c =>have h1:evs (zcs W e) c.args.toList=evs e c.args.toList:=zcS e λx hx=>hW x (by simp[Call.operands];exact .inr (by simpa using hx));have h2:zcT (zcs W e) c=zcT e c:=zjx e hW;simp only[h1,h2]
theorem zjV{K:PV S->Option R}{W:List Nat}(hW:∀x∈o.op.operands.toList,∀t,x= .tmp t->t∈W):zeS un tb orc inl o (zcs W e) bx K=zeS un tb orc inl o e bx K:=by
 have h0:=zjX (un:=un) (tb:=tb) (orc:=orc) (inl:=inl) (e:=e) (bx:=bx) (K:=K) hW;have hv:∀x,x∈o.op.operands.toList->ev (zcs W e) x=ev e x:=λx hx=>zat e (hW x hx);have hvs:∀c,o.op= .call c->evs (zcs W e) c.args.toList=evs e c.args.toList:=λc hc=>zcS e λx hx=>hW x (by rw[hc];simp[Op.operands,Call.operands];exact .inr (by simpa using hx));unfold zeS;cases ho:o.op with
 |indexAddr t x i=>simp only[hv x (by simp[ho,Op.operands]),hv i (by simp[ho,Op.operands]),h0]|fieldAddr s x f=>simp only[hv x (by simp[ho,Op.operands]),h0]|nilCheck x=>simp only[hv x (by simp[ho,Op.operands]),h0]|load t x=>simp only[hv x (by simp[ho,Op.operands]),h0]|lookup t m x ok=>simp only[hv m (by simp[ho,Op.operands]),hv x (by simp[ho,Op.operands])]|convert s d x=>simp only[hv x (by simp[ho,Op.operands])]|call c=>simp only[hvs c ho,h0]|_=>exact h0
theorem zjT{K:PV S->Option R}{W:List Nat}(hW:∀x∈o.op.operands.toList,∀t,x= .tmp t->t∈W):zhh un tb orc inl o (zcs W e) bx K=zhh un tb orc inl o e bx K:=by
 have h0:=zjV (un:=un) (tb:=tb) (orc:=orc) (inl:=inl) (e:=e) (bx:=bx) (K:=K) hW;have hv:∀x,x∈o.op.operands.toList->ev (zcs W e) x=ev e x:=λx hx=>zat e (hW x hx);have hvs:∀c,o.op= .call c->evs (zcs W e) c.args.toList=evs e c.args.toList:=λc hc=>zcS e λx hx=>hW x (by rw[hc];simp[Op.operands,Call.operands];exact .inr (by simpa using hx));unfold zhh;cases ho:o.op with
 |indexAddr t x i=>simp only[hv x (by simp[ho,Op.operands]),hv i (by simp[ho,Op.operands]),h0]|slice t x lo hi mx =>have hx:=hv x (by simp[ho,Op.operands]);cases lo<;>cases hi<;>cases mx<;>simp only[hx,h0];rename_i y;rw[hv y (by simp[ho,Op.operands])]
 |call c=>simp only[hvs c ho,h0]|_=>exact h0
theorem zlv{K:PV S->Option R}:zgD un tb orc inl o (zcs (zdi o.op.operands.toList) e) bx K=zgD un tb orc inl o e bx K:=by
 have hW:∀x∈o.op.operands.toList,∀t,x= .tmp t->t∈zdi o.op.operands.toList:=by intro x hx t ht;subst ht;simp only[zdi,yA6];exact ⟨_,hx,rfl⟩
 generalize zdi o.op.operands.toList=W at hW ⊢;have h0:=zjT (un:=un) (tb:=tb) (orc:=orc) (inl:=inl) (e:=e) (bx:=bx) (K:=K) hW;have hv:∀x,x∈o.op.operands.toList->ev (zcs W e) x=ev e x:=λx hx=>zat e (hW x hx);unfold zgD;cases ho:o.op with
 |entry x=>simp only[hv x (by simp[ho,Op.operands])]|slice t x lo hi mx =>have hx:=hv x (by simp[ho,Op.operands]);cases lo<;>cases hi<;>cases mx<;>simp only[hx,h0];rename_i y z;rw[hv y (by simp[ho,Op.operands])]
 |_=>exact h0
theorem Holds.sub{e e':Env S}(h:Holds un E D0 N e bx a w)(hs:Sub e' e):Holds un E D0 N e' bx a w:=by obtain ⟨D,H,h1,h2⟩:=h;exact ⟨D,H,⟨h1.inn,h1.size,h1.defers,h1.boxes,λi p hi=>h1.slots i p (hs i p hi)⟩,h2⟩
theorem Gives.sub{e e':Env S}{p:PV S}(h:Gives P un o e' bx p)(hs:Sub e' e):Gives P un o e bx p :=
 λE N D H a w h1=>h E N D H a w ⟨h1.inn,h1.size,h1.defers,h1.boxes,λi p hi=>h1.slots i p (hs i p hi)⟩
inductive QPath (P:Program) (un:Uni S) (bx:Bxs S) (ops:List Oper):List Oper->Env S->Env S->Prop
 |nil {e:Env S}:QPath P un bx ops [] e e
 |run {o:Oper} {l:List Oper} {e e':Env S} {p:PV S} (hg:o.guard=none\/∃d want,zdx ops o=some (d,want)/\zan e d=some (.bool want)) (h:Gives P un o (zcs (zdi o.op.operands.toList) e) bx p) (k:QPath P un bx ops l (push o.dst p e) e'):QPath P un bx ops (o::l) e e'
 |shut {o:Oper} {l:List Oper} {e e':Env S} {d:Nat} {want:Bool} (hg:zdx ops o=some (d,want)) (h:zan e d=some (.bool (!want))\/zan e d=some zay) (k:QPath P un bx ops l (push o.dst zay e) e'):QPath P un bx ops (o::l) e e'
theorem zlp{W:List Nat}{e e':Env S}(h:Sub e' e):Sub (zcs W e') (zcs W e):=by
 intro i p hp;rw[zca] at hp ⊢;split at hp;·rename_i hi;rw[if_pos hi];exact h i p hp
 ·cases hp
theorem QPath.mono{ops l:List Oper}{e e':Env S}(h:QPath P un bx ops l e e'):∀{e2:Env S},Sub e e2->∃e2',QPath P un bx ops l e2 e2'/\Sub e' e2':=by
 induction h with
 |nil=>intro e2 hs;exact ⟨e2,.nil,hs⟩
 |run hg h k ih =>intro e2 hs;obtain ⟨e2',h1,h2⟩:=ih (hs.push _ _);exact ⟨e2',.run (hg.imp id λ⟨d,want,g1,g2⟩=>⟨d,want,g1,hs _ _ g2⟩) (h.sub (zlp hs)) h1,h2⟩
 |shut hg h k ih =>intro e2 hs;obtain ⟨e2',h1,h2⟩:=ih (hs.push _ _);exact ⟨e2',.shut hg (h.imp (hs _ _) (hs _ _)) h1,h2⟩
theorem QPath.append{ops l l':List Oper}{e e' e'':Env S}(h:QPath P un bx ops l e e')(k:QPath P un bx ops l' e' e''):QPath P un bx ops (l++l') e e'':=by
 induction h with
 |nil=>exact k|run hg h _ ih=>exact .run hg h (ih k)|shut hg h _ ih=>exact .shut hg h (ih k)
theorem QPath.keep{ops l:List Oper}{e e':Env S}(h:QPath P un bx ops l e e'):∀i,i∉zbd l->zan e' i=zan e i:=by
 induction h with
 |nil=>intro i _;rfl
 |@run o l e e' p hg h k ih =>
   intro i hi;simp only[zbd,yAC] at hi;cases hd:o.dst with
   |none=>rw[hd] at hi;rw[ih i hi,hd];rfl|some d=>rw[hd] at hi;simp at hi;rw[ih i (by simpa[zbd] using hi.2),zaC (by rw[hd];simpa using λh=>hi.1 h.symm)]
 |@shut o l e e' d want hg h k ih =>
   intro i hi;simp only[zbd,yAC] at hi;cases hd:o.dst with
   |none=>rw[hd] at hi;rw[ih i hi,hd];rfl|some d=>rw[hd] at hi;simp at hi;rw[ih i (by simpa[zbd] using hi.2),zaC (by rw[hd];simpa using λh=>hi.1 h.symm)]
theorem zfp{d:Nat}:∀{l sg r:List Oper}{dd:Nat},ziH d l=some (sg,dd,r)->l=sg++r/\dd∈zbd sg
 |[],_,_,_,h=>by simp[ziH] at h
 |o::l,sg,r,dd,h=>by
   unfold ziH at h;have rest:∀{s x y},ziH d l=some (s,x,y)->o::s=sg/\x=dd/\y=r->o::l=sg++r/\dd∈zbd sg:=by
    rintro s x y hs ⟨rfl,rfl,rfl⟩
    obtain ⟨h1,h2⟩:=zfp hs;refine ⟨by rw[h1];rfl,?_⟩;simp only[zbd,yAC];cases o.dst<;>simp[zbd] at h2 ⊢;·exact h2
    ·exact .inr h2
   split at h
   ·rename_i t _ _ dd' ho hdst;cases hb:Nat.beq t d with
    |true =>rw[hb] at h;cases h;exact ⟨rfl,by simp[zbd,hdst]⟩|false =>
      rw[hb] at h;simp only[cond_false] at h;split at h;·rename_i s x y hs;cases h;exact rest hs ⟨rfl,rfl,rfl⟩
      ·cases h
   ·split at h;·rename_i s x y hs;cases h;exact rest hs ⟨rfl,rfl,rfl⟩
    ·cases h
theorem zaU(W:List Nat):∀(e:Env S)(i:Nat),zan (zbv W e) i=if i∈W then none else zan e i
 |[],i=>by simp[zbv,zan]
 |(j,p)::r,i=>by
   simp only[zbv];by_cases hj:j∈W
   ·have:W.contains j=true:=by simpa using hj
    rw[this];simp only[cond_true,zan];cases hb:Nat.beq j i with
    |true=>have:=yAa hb;subst this;rw[zaU W r j];simp[hj]
    |false=>simpa using zaU W r i
   ·have:W.contains j=false:=by simpa using hj
    rw[this];simp only[cond_false,zan];cases hb:Nat.beq j i with
    |true=>have:=yAa hb;subst this;simp[hj]
    |false=>simpa using zaU W r i
def Known(kn:List (Nat×Bool))(e:Env S):Prop:=∀d v,zc2 kn d=some v->zan e d=some (.bool v)
theorem zdu{d:Option Nat}:∀{kn:List (Nat×Bool)}{i:Nat}{v:Bool},zc2 (zdM d kn) i=some v->d≠some i/\zc2 kn i=some v
 |[],_,_,h=>by simp[zdM,zc2] at h
 |(j,b)::r,i,v,h=>by
   unfold zdM at h;cases d with
   |none =>
     simp only[cond_false,zc2] at h ⊢;cases hb:Nat.beq j i with
     |true=>rw[hb] at h;exact ⟨by simp,h⟩|false=>rw[hb] at h;exact zdu h
   |some k =>
     simp only at h;cases hjk:Nat.beq j k with
     |true =>
       rw[hjk] at h;simp only[cond_true] at h;obtain ⟨h1,h2⟩:=zdu h;refine ⟨h1,?_⟩;simp only[zc2];cases hb:Nat.beq j i with
       |true=>exact absurd (by rw[<-yAa hjk,yAa hb]) h1|false=>exact h2
     |false =>
       rw[hjk] at h;simp only[cond_false,zc2] at h ⊢;cases hb:Nat.beq j i with
       |true =>rw[hb] at h;refine ⟨λhk=>?_,h⟩;cases hk;rw[hb] at hjk;cases hjk|false=>rw[hb] at h;exact zdu h
theorem zez{W:List Nat}:∀{kn:List (Nat×Bool)}{i:Nat}{v:Bool},zc2 (zlI W kn) i=some v->i∉W/\zc2 kn i=some v
 |[],_,_,h=>by simp[zlI,zc2] at h
 |(j,b)::r,i,v,h=>by
   unfold zlI at h;by_cases hj:j∈W
   ·have:W.contains j=true:=by simpa using hj
    rw[this] at h;obtain ⟨h1,h2⟩:=zez h;refine ⟨h1,?_⟩;simp only[zc2];cases hb:Nat.beq j i with
    |true=>exact absurd (yAa hb▸hj) h1|false=>exact h2
   ·have:W.contains j=false:=by simpa using hj
    rw[this] at h;simp only[cond_false,zc2] at h ⊢;cases hb:Nat.beq j i with
    |true=>rw[hb] at h;exact ⟨yAa hb▸hj,h⟩|false=>rw[hb] at h;exact zez h
theorem Known.push{kn:List (Nat×Bool)}{e:Env S}(h:Known kn e)(d:Option Nat)(p:PV S):Known (zdM d kn) (push d p e):=by intro i v hv;obtain ⟨h1,h2⟩:=zdu hv;rw[zaC h1];exact h i v h2
theorem zlb{d:Nat}{e:Env S}{v:Bool}(h:asB d e=some v):zan e d=some (.bool v):=by
 unfold asB at h;split at h;·rename_i b hb;cases h;exact hb
 ·cases h
set_option maxHeartbeats 4000000 in
theorem zfI(hun:UniOk un)(ht:TbOk P un tb)(hor:SoundO P un orc)(hin:SoundI P un inl){ops:List Oper}:∀(n:Nat)(kn:List (Nat×Bool))(l:List Oper)(e:Env S)(R:Type)(K:Env S->Option R)(r:R),zde un tb orc inl ops bx n kn l e R K=some r->Known kn e ->
  ∃e' e'',K e'=some r/\QPath P un bx ops l e e''/\Sub e' e''/\∀i,i∉zbd l->zan e' i=zan e i:=by
 intro n;induction n with
 |zero =>
   intro kn l e R K r h hkn;cases l with
   |nil=>simp only[zde] at h;exact ⟨e,e,h,.nil,Sub.refl e,λ_ _=>rfl⟩|cons o l=>simp[zde] at h
 |succ n ih =>
   intro kn l e R K r h hkn;cases l with
   |nil=>simp only[zde] at h;exact ⟨e,e,h,.nil,Sub.refl e,λ_ _=>rfl⟩|cons o l =>
     unfold zde at h;have keepc:∀{p:PV S}{e':Env S},(∀i,i∉zbd l->zan e' i=zan (push o.dst p e) i)->∀i,i∉zbd (o::l)->zan e' i=zan e i:=by
      intro p e' hh i hi;simp only[zbd,yAC] at hi;cases hd:o.dst with
      |none=>rw[hd] at hi hh;rw[hh i hi];rfl|some d=>rw[hd] at hi hh;simp at hi;rw[hh i (by simpa[zbd] using hi.2),zaC (by simpa using λh=>hi.1 h.symm)]
     have step:zgD un tb orc inl o e bx (λp=>zde un tb orc inl ops bx n (zdM o.dst kn) l (push o.dst p e) R K)=some r->(o.guard=none\/∃d want,zdx ops o=some (d,want)/\zan e d=some (.bool want))->∃e' e'',K e'=some r/\QPath P un bx ops (o::l) e e''/\Sub e' e''/\∀i,i∉zbd (o::l)->zan e' i=zan e i:=(by intro h hg;rw[<-zlv] at h;obtain ⟨p,h1,h2⟩:=zeb hun ht hor hin h;obtain ⟨e',e'',g1,g2,g3,g4⟩:=ih _ _ _ _ _ _ h1 (hkn.push o.dst p);exact ⟨e',e'',g1,.run hg h2 g2,g3,keepc g4⟩);have shut:∀{d want},zdx ops o=some (d,want)->(zan e d=some (.bool (!want))\/zan e d=some zay)->zde un tb orc inl ops bx n (zdM o.dst kn) l (push o.dst zay e) R K=some r->∃e' e'',K e'=some r/\QPath P un bx ops (o::l) e e''/\Sub e' e''/\∀i,i∉zbd (o::l)->zan e' i=zan e i:=(by intro d want hg hl h;obtain ⟨e',e'',g1,g2,g3,g4⟩:=ih _ _ _ _ _ _ h (hkn.push o.dst zay);exact ⟨e',e'',g1,.shut hg hl g2,g3,keepc g4⟩);split at h;·rename_i hg;exact step h (.inl hg)
     ·split at h;·cases h
      ·rename_i d want hgs;split at h
       ·rename_i v hv;have hlk:=hkn d v hv;cases hb:zjJ v want with
        |true =>
          rw[hb] at h;have:v=want:=by cases v<;>cases want<;>simp_all [zjJ]
          subst this;exact step h (.inr ⟨d,v,hgs,hlk⟩)
        |false =>
          rw[hb] at h;have:v= !want:=by cases v<;>cases want<;>simp_all [zjJ]
          subst this;exact shut hgs (.inl hlk) h
       ·split at h;·rename_i hlk;exact shut hgs (.inr hlk) h
        ·rename_i b hlk;split at h
         ·rename_i sg dd rr hseg;obtain ⟨hl,hdd⟩:=zfp hseg;obtain ⟨v,h1,h2⟩:=zas h;have hsegp:∃e1 e1'',zan e1 dd=some (.bool v)/\QPath P un bx ops sg e e1''/\Sub e1 e1'':=by
           have one:∀b',b=b'->zde un tb orc inl ops bx n ((d,b')::kn) sg ((d,.bool b')::e) Bool (asB dd)=some v->∃e1 e1'',zan e1 dd=some (.bool v)/\QPath P un bx ops sg e e1''/\Sub e1 e1'':=by
            rintro b' rfl hx
            obtain ⟨e',e'',g1,g2,g3,_⟩:=ih _ _ _ _ _ _ hx (λi u hu=>by
             simp only[zc2,zan] at hu ⊢;cases hb:Nat.beq d i with
             |true=>rw[hb] at hu;simp at hu;subst hu;rfl|false=>rw[hb] at hu;exact hkn i u hu)
            have hsub:Sub ((d,.bool b)::e) e:=by
             intro i p hp;simp only[zan] at hp;cases hb:Nat.beq d i with
             |true=>rw[hb] at hp;simp at hp;subst hp;rw[<-yAa hb];exact hlk|false=>rw[hb] at hp;exact hp
            obtain ⟨e2,k1,k2⟩:=g2.mono hsub;exact ⟨e',e2,zlb g1,k1,g3.trans k2⟩
           rcases zir h1 with ⟨hb,h1⟩|⟨hb,h1⟩;·exact one true hb h1
           ·exact one false hb h1
          obtain ⟨e1,e1'',g1,g2,g3⟩:=hsegp;have hsub:Sub ((dd,.bool v)::zbv (zbd sg) e) e1'':=by
           intro i p hp;simp only[zan] at hp;cases hb:Nat.beq dd i with
           |true=>rw[hb] at hp;simp at hp;subst hp;rw[<-yAa hb];exact g3 _ _ g1|false =>
             rw[hb] at hp;simp only[cond_false,zaU] at hp;split at hp;·cases hp
             ·rename_i hi;rw[g2.keep i hi];exact hp
          obtain ⟨e',e'',k1,k2,k3,k4⟩:=ih _ _ _ _ _ _ h2 (λi u hu=>by
           obtain ⟨q1,q2⟩:=zez hu;simp only[zan];cases hb:Nat.beq dd i with
           |true=>exact absurd (yAa hb▸hdd) q1|false=>simp only[cond_false,zaU,if_neg q1];exact hkn i u q2)
          obtain ⟨e2,m1,m2⟩:=k2.mono hsub;refine ⟨e',e2,k1,hl▸g2.append m1,k3.trans m2,λi hi=>?_⟩;rw[hl] at hi;simp only[zbd,List.filterMap_append,yAm,not_or] at hi;rw[k4 i hi.2];simp only[zan];cases hb:Nat.beq dd i with
          |true=>exact absurd (yAa hb▸hdd) hi.1|false=>simp only[cond_false,zaU];rw[if_neg (show i∉zbd sg from hi.1)]
         ·cases h
        ·cases h
def isB(want:Bool):Value->Bool| .bool b=>b==want|_=>false
theorem zfj{ops:Array Oper}{j d:Nat}(hj:(ops[j]?).bind (·.dst)=some d){v:Value}(h:a.tmps.getD d undef=v)(want:Bool) :
  (yielded ops a.tmps j==some want)=isB want v:=by
 unfold yielded;rw[hj];simp only[yAx];rw[yAs] at h;cases hx:a.tmps[d]? with
 |none=>rw[hx] at h;simp at h;subst h;simp[undef,isB]|some u=>rw[hx] at h;simp at h;subst h;cases u<;>simp[isB]
theorem zfG{ops:List Oper}{d:Nat}{want:Bool}(h:zdx ops o=some (d,want)):∃j,o.guard=some (j,want)/\(ops.toArray[j]?).bind (·.dst)=some d:=by
 unfold zdx at h;split at h
 ·rename_i j w' hg;split at h
  ·rename_i oj hj;split at h;·rename_i d' hd;cases h;exact ⟨j,hg,by simp[hj,hd]⟩
   ·cases h
  ·cases h
 ·cases h
theorem zd6{ops:List Oper}{d:Nat}{want:Bool}(h:zdx ops o=some (d,want))(hs:Holds un E D0 N e bx a w)(hl:zan e d=some (.bool want)):Region.wanted o (yielded ops.toArray a.tmps)=true:=by obtain ⟨j,h1,h2⟩:=zfG h;obtain ⟨D,H,hs,_⟩:=hs;have:=hs.slots d _ hl;simp only[Rep] at this;unfold Region.wanted;rw[h1];simp only;rw[zfj h2 this];simp[isB]
theorem zdO{ops:List Oper}{d:Nat}{want:Bool}(h:zdx ops o=some (d,want))(hs:Holds un E D0 N e bx a w)(hl:zan e d=some (.bool (!want))\/zan e d=some zay):Region.wanted o (yielded ops.toArray a.tmps)=false:=by
 obtain ⟨j,h1,h2⟩:=zfG h;obtain ⟨D,H,hs,_⟩:=hs;unfold Region.wanted;rw[h1];simp only;rcases hl with hl|hl
 ·have:=hs.slots d _ hl;simp only[Rep] at this;rw[zfj h2 this];cases want<;>simp[isB]
 ·have:=hs.slots d _ hl;simp only[zay,Rep] at this;obtain ⟨cs,h3,_⟩:=this;rw[zfj h2 h3];rfl
theorem Holds.undef{d:Option Nat}(hd:∀k,d=some k->k<N.n)(hs:Holds un E D0 N e bx a w):Holds un E D0 N (push d zay e) bx (a.put d undef) w:=by obtain ⟨D,H,hs,hD⟩:=hs;exact ⟨D,H,hs.step hs.inn hs.boxes hs.slots hd (by simp only[zay,Rep];exact ⟨[],rfl,by simp[RepL]⟩),hD⟩
theorem zoT{ops l:List Oper}{e e':Env S}(h:QPath P un bx ops l e e'):∀{a:Act}{w:World}{rest:List Oper},(∀o∈l,∀d,o.dst=some d->d<N.n)->Holds un E D0 N e bx a w->(∀a' w',Holds un E D0 N e' bx a' w'->wpList P ops.toArray Q rest a' w')->wpList P ops.toArray Q (l++rest) a w:=by
 induction h with
 |nil=>intro a w rest _ hs hk;exact hk a w hs
 |@run o l e e' p hg h k ih =>
   intro a w rest hd hs hk;refine wpList_step λK hK=>?_;have hw:Region.wanted o (yielded ops.toArray a.tmps)=true:=by
    rcases hg with hg|⟨d,want,g1,g2⟩;·simp[Region.wanted,hg]
    ·exact zd6 g1 hs g2
   rw[if_pos hw];exact zcc (h.sub (ziO _ _)) (hd o (by simp)) hs λa' w' h1=>hK a' w' (ih (λo ho=>hd o (by simp[ho])) h1 hk)
 |@shut o l e e' d want hg h k ih =>intro a w rest hd hs hk;refine wpList_step λK hK=>?_;rw[zdO hg hs h,if_neg (by simp)];exact hK _ _ (ih (λo ho=>hd o (by simp[ho])) (hs.undef (hd o (by simp))) hk)
theorem zk0(hun:UniOk un)(ht:TbOk P un tb)(hor:SoundO P un orc)(hin:SoundI P un inl){ops:List Oper}{KX:Exit->Env S->Bxs S->Option R}:∀(n:Nat)(l:List Oper)(e:Env S)(bx:Bxs S)(K:Env S->Bxs S->Option R){a:Act}{w:World},zig un tb orc inl ops KX n l e bx K=some r->(∀o∈l,∀d,o.dst=some d->d<N.n)->Holds un E D0 N e bx a w ->
  (∀e' bx',K e' bx'=some r->Pres (zbd l) e e'->PresB bx bx'->∀a' w',Holds un E D0 N e' bx' a' w'->Q .normal a' w') ->
  (∀x e' bx',KX x e' bx'=some r->Pres (zbd l) e e'->PresB bx bx'->∀a' w',Holds un E D0 N e' bx' a' w'->Q x a' w')->wpList P ops.toArray Q l a w:=by
 intro n;induction n with
 |zero =>
   intro l e bx K a w h hd hs hk hkx;cases l with
   |nil=>simp only[zig] at h;exact wpList_nil (hk e bx h (Pres.refl _ _) (PresB.refl _) a w hs)|cons o l=>simp[zig] at h
 |succ n ih =>
   intro l e bx K a w h hd hs hk hkx;cases l with
   |nil=>simp only[zig] at h;exact wpList_nil (hk e bx h (Pres.refl _ _) (PresB.refl _) a w hs)|cons o l =>
     have hmem:∀i,i∈zbd l->i∈zbd (o::l):=λi hi=>by
      simp only[zbd,yAC];cases o.dst<;>simp[zbd] at hi ⊢;·exact hi
      ·exact .inr hi
     unfold zig at h;split at h
     ·rename_i hg;refine wpList_plain hg λK' hK'=>?_;refine zh4 hun ht hor hin h (hd o (by simp)) hs (λp e1 bx1 h1 hp hb a' w' h2=>hK' a' w' ?_) λx e' bx' h1 hp hb=>hkx x e' bx' h1 (hp.mono λi hi=>by cases hi) hb;have pr:∀e2,Pres (zbd l) (push o.dst p e1) e2->Pres (zbd (o::l)) e e2:=λe2 hp2=>by
       refine ((hp.trans (Pres.push [] e1 o.dst p)).trans hp2).mono λi hi=>?_;simp only[yAZ,yAm] at hi;rcases hi with hi|hi
       ·simp only[zbd,yAC];cases ho:o.dst<;>rw[ho] at hi<;>simp at hi ⊢;exact .inl hi
       ·exact hmem i hi
      exact ih l _ _ K h1 (λo ho=>hd o (by simp[ho])) h2 (λe2 bx2 h3 hp2 hb2 a2 w2 h4=>hk e2 bx2 h3 (pr e2 hp2) (hb.trans hb2) a2 w2 h4) λx e2 bx2 h3 hp2 hb2 a2 w2 h4=>hkx x e2 bx2 h3 (pr e2 hp2) (hb.trans hb2) a2 w2 h4
     ·split at h;·cases h
      ·rename_i d want hgs;split at h
       ·rename_i b sg dd rr hlk hseg;obtain ⟨hl,hdd⟩:=zfp hseg;obtain ⟨v,h1,h2⟩:=zas h;have hsegp:∃e1 e1'',zan e1 dd=some (.bool v)/\QPath P un bx ops sg e e1''/\Sub e1 e1'':=by
         have one:∀b',b=b'->zde un tb orc inl ops bx (2*sg.length) [(d,b')] sg ((d,.bool b')::e) Bool (asB dd)=some v->∃e1 e1'',zan e1 dd=some (.bool v)/\QPath P un bx ops sg e e1''/\Sub e1 e1'':=by
          rintro b' rfl hx
          obtain ⟨e',e'',g1,g2,g3,_⟩:=zfI hun ht hor hin _ _ _ _ _ _ _ hx (λi u hu=>by
           simp only[zc2,zan] at hu ⊢;cases hb:Nat.beq d i with
           |true=>rw[hb] at hu;simp at hu;subst hu;rfl|false=>rw[hb] at hu;simp at hu)
          have hsub:Sub ((d,.bool b)::e) e:=by
           intro i p hp;simp only[zan] at hp;cases hb:Nat.beq d i with
           |true=>rw[hb] at hp;simp at hp;subst hp;rw[<-yAa hb];exact hlk|false=>rw[hb] at hp;exact hp
          obtain ⟨e2,k1,k2⟩:=g2.mono hsub;exact ⟨e',e2,zlb g1,k1,g3.trans k2⟩
         rcases zir h1 with ⟨hb,h1⟩|⟨hb,h1⟩;·exact one true hb h1
         ·exact one false hb h1
        obtain ⟨e1,e1'',g1,g2,g3⟩:=hsegp;have hsub:Sub ((dd,.bool v)::zbv (zbd sg) e) e1'':=by
         intro i p hp;simp only[zan] at hp;cases hb:Nat.beq dd i with
         |true=>rw[hb] at hp;simp at hp;subst hp;rw[<-yAa hb];exact g3 _ _ g1|false =>
           rw[hb] at hp;simp only[cond_false,zaU] at hp;split at hp;·cases hp
           ·rename_i hi;rw[g2.keep i hi];exact hp
        rw[hl] at hd ⊢;refine zoT g2 (λo ho=>hd o (by simp[ho])) hs λa' w' h3=>?_;have pr:∀e2,Pres (zbd rr) ((dd,.bool v)::zbv (zbd sg) e) e2->Pres (zbd (o::l)) e e2:=λe2 hp2=>by
         intro i p hi hp hrow;rw[hl] at hi;simp only[zbd,List.filterMap_append,yAm,not_or] at hi;refine hp2 i p hi.2 ?_ hrow;simp only[zan];cases hb:Nat.beq dd i with
         |true=>exact absurd (yAa hb▸hdd) hi.1|false=>simp only[cond_false,zaU];rw[if_neg (show i∉zbd sg from hi.1)];exact hp
        exact ih rr _ _ K h2 (λo ho=>hd o (by simp[ho])) (h3.sub hsub) (λe2 bx2 h4 hp2 hb2 a2 w2 h5=>hk e2 bx2 h4 (pr e2 hp2) hb2 a2 w2 h5) λx e2 bx2 h4 hp2 hb2 a2 w2 h5=>hkx x e2 bx2 h4 (pr e2 hp2) hb2 a2 w2 h5
       ·cases h
end
end Pe
end
section
/- Places where a state is told by its codes. -/
namespace Pe
open Go Go.RowKit
variable{S:Nat->Type}
section
variable{un:Uni S}
mutual
theorem Rep.low{nu0 nu nu':Nu}{D0 D:Dat}{w0 w:World}{m:Nat}(hm:nu0.length<=m)(hn:∀i,i<m->nu'[i]?=nu[i]?):∀(p:PV S)(v0 v:Value),p.rowless=true->Rep un nu0 D0 w0 p v0->Rep un nu D w p v->Rep un nu' D w p v
 | .int _ _,_,_,_,_,h=>by simpa only[Rep] using h
 | .bool _,_,_,_,_,h=>by simpa only[Rep] using h
 | .str _,_,_,_,_,h=>by simpa only[Rep] using h
 | .sl _ _,_,_,_,_,h=>by simpa only[Rep] using h
 | .nils,_,_,_,_,h=>by simpa only[Rep] using h
 | .st _ _,_,_,_,_,h=>by simpa only[Rep] using h
 | .agg l,_,_,hr,h0,h=>by simp only[Rep,PV.rowless] at h0 h hr ⊢;obtain ⟨c0,_,h0⟩:=h0;obtain ⟨cs,h1,h2⟩:=h;exact ⟨cs,h1,RepL.low hm hn l c0 cs hr h0 h2⟩
 | .tup l,_,_,hr,h0,h=>by simp only[Rep,PV.rowless] at h0 h hr ⊢;obtain ⟨c0,_,h0⟩:=h0;obtain ⟨cs,h1,h2⟩:=h;exact ⟨cs,h1,RepL.low hm hn l c0 cs hr h0 h2⟩
 | .elp _ _ _,_,_,_,_,h=>by simpa only[Rep] using h
 | .ptr j _,_,_,_,h0,h=>by simp only[Rep] at h0 h ⊢;obtain ⟨g0,h1,_⟩:=h0;obtain ⟨g,h2,h3⟩:=h;have:j<nu0.length:=(yAc.1 h1).1;exact ⟨g,by rw[hn j (by omega)];exact h2,h3⟩
 | .nilp,_,_,_,_,h=>by simpa only[Rep] using h
 | .ref j,_,_,_,h0,h=>by simp only[Rep] at h0 h ⊢;have:j<nu0.length:=(yAc.1 h0.1).1;exact ⟨by rw[hn j (by omega)];exact h.1,h.2⟩
 | .elr _ _ _ _,_,_,hr,_,_=>by simp[PV.rowless] at hr
 | .rsl _ _ _,_,_,hr,_,_=>by simp[PV.rowless] at hr
 | .bref j _,_,_,_,h0,h=>by simp only[Rep] at h0 h ⊢;obtain ⟨g0,h1,_⟩:=h0;obtain ⟨g,h2,h3⟩:=h;have:j<nu0.length:=(yAc.1 h1).1;exact ⟨g,by rw[hn j (by omega)];exact h2,h3⟩
 | .cont _ _,_,_,_,_,h=>by simpa only[Rep] using h
 | .row _,_,_,hr,_,_=>by simp[PV.rowless] at hr
 | .func _ l r,_,_,hr,h0,h=>by simp only[Rep,PV.rowless,yAd] at h0 h hr ⊢;obtain ⟨a0,c0,_,h0,h0'⟩:=h0;obtain ⟨a,c,h1,h2,h3⟩:=h;exact ⟨a,c,h1,RepL.low hm hn l a0 a hr.1 h0 h2,RepL.low hm hn r c0 c hr.2 h0' h3⟩
 | .nilFunc,_,_,_,_,h=>by simpa only[Rep] using h
 | .iface _ x,_,_,hr,h0,h=>by simp only[Rep,PV.rowless] at h0 h hr ⊢;obtain ⟨y0,_,h0⟩:=h0;obtain ⟨y,h1,h2⟩:=h;exact ⟨y,h1,Rep.low hm hn x y0 y hr h0 h2⟩
 | .nilIface,_,_,_,_,h=>by simpa only[Rep] using h
 | .junk,_,_,_,_,_=>by simp only[Rep]
theorem RepL.low{nu0 nu nu':Nu}{D0 D:Dat}{w0 w:World}{m:Nat}(hm:nu0.length<=m)(hn:∀i,i<m->nu'[i]?=nu[i]?):∀(ps:List (PV S))(vs0 vs:List Value),zbS ps=true->RepL un nu0 D0 w0 ps vs0->RepL un nu D w ps vs->RepL un nu' D w ps vs
 |[],_,[],_,_,_=>by simp only[RepL]
 |p::ps,v0::vs0,v::vs,hr,h0,h=>by simp only[RepL,zbS,yAd] at h0 h hr ⊢;exact ⟨Rep.low hm hn p v0 v hr.1 h0.1 h.1,RepL.low hm hn ps vs0 vs hr.2 h0.2 h.2⟩
 |[],_,_::_,_,_,h=>by simp[RepL] at h
 |_::_,[],_,_,h0,_=>by simp[RepL] at h0
 |_::_,_::_,[],_,_,h=>by simp[RepL] at h
end
theorem zfd{nu0 nu nu':Nu}{D0 D:Dat}{w0 w:World}{m:Nat}(hm:nu0.length<=m)(hn:∀i,i<m->nu'[i]?=nu[i]?):∀(cs cs':List (PV S))(vs0 vs:List Value),RepL un nu0 D0 w0 cs vs0->znf (cs.map zhl) cs'->RepL un nu D w cs' vs->RepL un nu' D w (cs.map zhl) vs
 |[],[],_,[],_,_,_=>by simp[RepL]
 |c::cs,c'::cs',v0::vs0,v::vs,h0,hc,h=>by
   simp only[RepL,yAk] at h0 h ⊢;refine ⟨?_,zfd hm hn cs cs' vs0 vs h0.2 ⟨by have:=hc.1;simp at this;simpa using this,λj p hp=>by have:=hc.2 (j+1) p (by simpa using hp);simpa using this⟩ h.2⟩;unfold zhl;cases hr:c.rowless with
   |false=>simp[Rep]|true =>
     simp only[cond_true];cases hj:zkS c with
     |true=>cases c<;>simp[zkS] at hj;simp[Rep]|false =>have:=hc.2 0 c (by simp[zhl,hr]) hr hj;simp at this;subst this;exact Rep.low hm hn _ v0 v hr h0.1 h.1
 |[],_::_,_,_,_,hc,_=>by have:=hc.1;simp at this
 |_::_,[],_,_,_,hc,_=>by have:=hc.1;simp at this
 |_,_::_,_,[],_,_,h=>by simp[RepL] at h
 |[],[],_,_::_,_,_,h=>by simp[RepL] at h
 |_::_,_,[],_,h0,_,_=>by simp[RepL] at h0
theorem zio{E E0:Wl.Ctx}{nu0 nu nu':Nu}{D0 D:Dat}{w0 w:World}{m:Nat}(hm:nu0.length<=m)(hn:∀i,i<m->nu'[i]?=nu[i]?):∀{b b':Box S}{r0 r:Wl.Res}{ro0 ro:Bool},BoxRep un nu0 D0 w0 E0 ro0 b r0->CPres b.calm b'->BoxRep un nu D w E ro b' r->BoxRep un nu' D w E ro b.calm r:=by
 intro b;induction b with
 |var T cs =>
   intro b' r0 r ro0 ro h0 hc h;cases b' with
   |var T' cs' =>
     simp only[Box.calm,CPres] at hc ⊢;obtain ⟨rfl,hc⟩:=hc;have hr0:∃vs0,RepL un nu0 D0 w0 cs vs0:=by
      cases r0<;>cases ro0<;>simp only[BoxRep] at h0;·exact ⟨_,h0.2⟩
      ·exact ⟨_,h0⟩
      ·obtain ⟨vs,_,h5⟩:=h0;exact ⟨vs,h5⟩
     obtain ⟨vs0,hr0⟩:=hr0;cases r<;>cases ro<;>simp only[BoxRep] at h ⊢;·exact ⟨h.1,zfd hm hn cs cs' vs0 _ hr0 hc h.2⟩
     ·exact zfd hm hn cs cs' vs0 _ hr0 hc h
     ·obtain ⟨vs,h1,h5⟩:=h;exact ⟨vs,h1,zfd hm hn cs cs' vs0 _ hr0 hc h5⟩
   |_=>exact hc.elim
 |own u T l =>
   intro b' r0 r ro0 ro h0 hc h;cases b' with
   |own u' T' l' =>
     simp only[Box.calm,CPres] at hc ⊢;rw[hc] at h;cases r<;>cases ro<;>simp only[BoxRep] at h ⊢;·exact h
     ·refine ⟨h.1,?_⟩;simpa only[Rep] using h.2
   |_=>exact hc.elim
 |wr u T l =>
   intro b' r0 r ro0 ro h0 hc h;cases b' with
   |wr u' T' l' =>
     simp only[Box.calm,CPres] at hc ⊢;rw[hc] at h;cases r<;>cases ro<;>simp only[BoxRep] at h ⊢
     all_goals exact h
   |_=>exact hc.elim
 |nst u T T2 l h0 =>
   intro b' r0 r ro0 ro h0 hc h;cases b' with
   |nst u' T' T2' l' h' =>simp only[Box.calm,CPres] at hc ⊢;rw[hc] at h;cases r<;>cases ro<;>simp only[BoxRep] at h ⊢;exact h|_=>exact hc.elim
 |omp k v l =>
   intro b' r0 r ro0 ro h0 hc h;cases b' with
   |omp k' v' l' =>simp only[Box.calm,CPres] at hc ⊢;rw[hc] at h;cases r<;>cases ro<;>simp only[BoxRep] at h ⊢;exact h|_=>exact hc.elim
 |fm k v l =>
   intro b' r0 r ro0 ro h0 hc h;cases b' with
   |fm k' v' l' =>
     simp only[Box.calm,CPres] at hc ⊢;rw[hc] at h;cases r<;>cases ro<;>simp only[BoxRep] at h ⊢
     all_goals exact h
   |_=>exact hc.elim
 |itr k v oo p =>
   intro b' r0 r ro0 ro h0 hc h;cases b' with
   |itr k' v' o' p' =>
     simp only[Box.calm,CPres] at hc ⊢;rw[hc] at h;cases r<;>cases ro<;>simp only[BoxRep] at h ⊢
     all_goals exact h
   |_=>exact hc.elim
 |lk b ih =>
   intro b' r0 r ro0 ro h0 hc h;cases b' with
   |lk b'=>simp only[Box.calm,CPres,BoxRep] at h0 hc h ⊢;exact ih h0 hc h|_=>exact hc.elim
 |ro b ih =>
   intro b' r0 r ro0 ro h0 hc h;cases b' with
   |ro b'=>simp only[Box.calm,CPres,BoxRep] at h0 hc h ⊢;exact ih h0 hc h|_=>exact hc.elim
 |gone =>intro b' r0 r ro0 ro h0 hc h;simp only[Box.calm];cases r<;>cases ro<;>simp only[BoxRep]
end
end Pe
end
section
/- A told state is a state. -/
namespace Pe
open Go Go.RowKit
variable{S:Nat->Type}
section
variable{P:Program}{un:Uni S}{E:Wl.Ctx}{D0:Dat}{N:Wl.Fr}{D D':Dat}{H:List Wl.Res}{e:Env S}{bx:Bxs S}{a:Act}{w w':World}
theorem In.pick(h:In E D H w){H':List Wl.Res}(f:Nat->Option Nat)(h1:∀(k:Nat) r,H'[k]?=some r->((∀g,¬r.has g)/\Wl.Res.holds E w r)\/∃i,f k=some i/\H[i]?=some r)(h2:∀k k' i,f k=some i->f k'=some i->k=k')(hl:∀(i:Nat) v,zeF E.fix i=some v->∃r,H'[i]?=some r/\zaH r=true/\zaf r=(true,v)/\keptR E.w r):In E D H' w:=by
 refine ⟨h.out,h.lt,λr hr=>?_,λr hr g hg o hf hd=>?_,?_,hl⟩
 ·obtain ⟨k,hk⟩:=yAj hr;rcases h1 k r hk with h3|⟨i,_,h3⟩;·exact h3.2
  ·exact h.res r (yAb h3)
 ·obtain ⟨k,hk⟩:=yAj hr;rcases h1 k r hk with h3|⟨i,_,h3⟩;·exact absurd hg (h3.1 g)
  ·exact h.apart r (yAb h3) g hg o hf hd
 ·rw[yAI];intro i j hi hj hij g hg hg';rcases h1 i _ (yAh hi) with h3|⟨x,hx,h3⟩;·exact absurd hg (h3.1 g)
  ·rcases h1 j _ (yAh hj) with h4|⟨y,hy,h4⟩;·exact absurd hg' (h4.1 g)
   ·have hxy:x≠y:=λhe=>by subst he;have:=h2 i j x hx hy;omega
    have hxl:=(yAc.1 h3).1;have hyl:=(yAc.1 h4).1;have e3:=(yAc.1 h3).2;have e4:=(yAc.1 h4).2;rcases yBK hxy with hlt|hgt
    ·have:=(yAI.1 h.disj) x y hxl hyl hlt;rw[e3,e4] at this;exact this g hg hg'
    ·have:=(yAI.1 h.disj) y x hyl hxl hgt;rw[e3,e4] at this;exact this g hg' hg
def zhF:Wl.Res->Bool| .box _ _ _=>true| .fix _ _ _ _=>true| .it _ _ _ _ _=>true|_=>false
def zgR:Wl.Res->Wl.Res| .box g T cs=>.box g T cs| .fix v g size ob=>.fix v g size ob| .it g m s n c=>.it g m s n c|r=>.ref (zaf r)
theorem zlF(r:Wl.Res):zaf (zgR r)=zaf r:=by cases r<;>rfl
def zhV:Bxs S->List Wl.Res->List Wl.Res| .gone::bs,r::rs=>zgR r::zhV bs rs|_::bs,r::rs=>r::zhV bs rs|_,_=>[]
theorem zer:∀{bs:Bxs S}{rs:List Wl.Res},bs.length<=rs.length->(zhV bs rs).length=bs.length
 |[],_,_=>by simp[zhV]
 |b::bs,[],h=>by simp at h
 |b::bs,r::rs,h=>by cases b<;>simp[zhV,zer (bs:=bs) (rs:=rs) (by simpa using h)]
theorem zgb:∀{bs:Bxs S}{rs:List Wl.Res}{i:Nat}{b:Box S}{r:Wl.Res},zae bs i=some b->rs[i]?=some r->(zhV bs rs)[i]?=some (match b with | .gone=>zgR r|_=>r)
 |b::bs,r::rs,0,c,s,h,hr=>by simp[zae] at h hr;subst h;subst hr;cases b<;>rfl
 |b::bs,r::rs,i+1,c,s,h,hr=>by have:=zgb (bs:=bs) (rs:=rs) (i:=i) (b:=c) (r:=s) (by simpa[zae] using h) (by simpa using hr);cases b<;>simpa[zhV] using this
 |[],_,_,_,_,h,_=>by simp[zae] at h
 |_::_,[],_,_,_,_,hr=>by simp at hr
theorem zbX:∀{bx:Bxs S}{i:Nat},i<bx.length->∃b,zae bx i=some b
 |[],_,h=>by simp at h
 |b::_,0,_=>⟨b,rfl⟩|_::r,i+1,h=>by simpa[zae] using zbX (bx:=r) (by simpa using h)
def zmI:Option (Box S)->Bool|some .gone=>true|_=>false
theorem In.cut(h:In E D H w){B:Bxs S}(hB:B.length<=H.length){bs:List (Option Nat)}{rs:List Wl.Res}(hc:zcX H bs rs)(hn:(bs.filterMap id).Nodup)(hg:∀b,some b∈bs->b<B.length->zae B b=some .gone)(hnb:∀b,some b∈bs->∀r,H[b]?=some r->zhF r=false)(hlt:∀(i:Nat) v,zeF E.fix i=some v->i<B.length):In E D (zhV B H++rs) w:=by
 have hsl:=zer hB;refine h.pick (λk=>if k<B.length then (bif zmI (zae B k)&& !((H[k]?).any zhF) then none else some k) else (bs[k - B.length]?).join) (λk r hr=>?_) (λk k' i hk hk'=>?_) (λi v hi=>?_)
 rotate_left 2
 ·obtain ⟨r,h2,h3,h4⟩:=h.lent i v hi;obtain ⟨b,hb⟩:=zbX (hlt i v hi);refine ⟨r,?_,h3,h4⟩;rw[yAi (by rw[hsl];exact hlt i v hi),zgb hb h2];cases b<;>first|rfl|(cases r<;>simp[zaH] at h3<;>rfl)
 ·rcases yAR k B.length with hlt|hge
  ·rw[yAi (by omega)] at hr;obtain ⟨b,hb⟩:=zbX hlt;obtain ⟨s,hs⟩:∃s,H[k]?=some s:=⟨_,yAh (by omega)⟩;rw[zgb hb hs] at hr;simp only[yAe] at hr;by_cases hgone:b= .gone
   ·subst hgone;simp only at hr;subst hr;cases s with
    |box g T cs=>exact .inr ⟨k,by simp only[if_pos hlt,hb,hs];rfl,hs⟩|fix v g size ob=>exact .inr ⟨k,by simp only[if_pos hlt,hb,hs];rfl,hs⟩|it g m s n c=>exact .inr ⟨k,by simp only[if_pos hlt,hb,hs];rfl,hs⟩|omp=>exact .inl ⟨λ_ hg=>hg,trivial⟩|own=>exact .inl ⟨λ_ hg=>hg,trivial⟩|wr=>exact .inl ⟨λ_ hg=>hg,trivial⟩|nst=>exact .inl ⟨λ_ hg=>hg,trivial⟩|ref=>exact .inl ⟨λ_ hg=>hg,trivial⟩
   ·right;refine ⟨k,?_,?_⟩;·simp only[if_pos hlt,hb];cases b<;>first|rfl|exact absurd rfl hgone
    ·rw[hs];cases b<;>first|(simp only at hr;rw[hr])|exact absurd rfl hgone
  ·rw[yAz (by omega),hsl] at hr;rcases zcq hc _ r hr with ⟨b,h1,h2,_⟩|⟨h1,T,size,h2⟩;·exact .inr ⟨b,by simp only[if_neg (show ¬k<B.length by omega),h1];rfl,h2⟩
   ·left;rcases h2 with rfl|rfl;·exact ⟨λg hg=>by simp[Wl.Res.has,Value.ownBlock] at hg,Wl.rowAt_nil _ _ _,λg hg=>by simp[Value.ownBlock] at hg⟩
    ·exact ⟨λg hg=>by simp[Wl.Res.has,Value.ownBlock] at hg,World.ownsRow_nil _ _ _ _,λg hg=>by simp[Value.ownBlock] at hg⟩
 ·have first:∀k,k<B.length->∀i,(bif zmI (zae B k)&& !((H[k]?).any zhF) then none else some k)=some i->k=i/\(zae B k≠some .gone\/∃r,H[k]?=some r/\zhF r=true):=by
   intro k _ i h;cases hgo:zmI (zae B k) with
   |false=>rw[hgo] at h;cases h;exact ⟨rfl,.inl λhc=>by rw[hc] at hgo;cases hgo⟩|true =>
     rw[hgo] at h;cases hh:H[k]? with
     |none=>rw[hh] at h;simp at h|some r =>
       rw[hh] at h;cases hcl:zhF r with
       |false=>simp[hcl] at h|true=>simp[hcl] at h;exact ⟨h,.inr ⟨r,rfl,hcl⟩⟩
  have second:∀k,∀i,(bs[k - B.length]?).join=some i->bs[k - B.length]?=some (some i):=by
   intro k i h;cases hx:bs[k - B.length]? with
   |none=>rw[hx] at h;cases h|some y=>rw[hx] at h;cases y with
     |none=>cases h|some z=>cases h;rfl
  have clash:∀k k',k<B.length->(zae B k≠some .gone\/∃r,H[k]?=some r/\zhF r=true)->(bs[k' - B.length]?).join=some k->False:=by
   intro k k' hlt e2 hk';have hm:=yAb (second k' k hk');rcases e2 with e2|⟨r,e2,e3⟩;·exact e2 (hg k hm hlt)
   ·have:=hnb k hm r e2;rw[e3] at this;cases this
  split at hk
  ·rename_i hlt;obtain ⟨e1,e2⟩:=first k hlt i hk
   subst e1;split at hk';·rename_i hlt';exact (first k' hlt' _ hk').1.symm
   ·exact (clash k k' hlt e2 hk').elim
  ·rename_i hge;split at hk'
   ·rename_i hlt';obtain ⟨e1,e2⟩:=first k' hlt' i hk'
    subst e1;exact (clash k' k hlt' e2 hk).elim
   ·rename_i hge';have:=zeX hn _ _ i (second k i hk) (second k' i hk');omega
theorem BxRep.append{nu:Nu}:∀{bs cs:Bxs S}{rs ss:List Wl.Res},BxRep un nu D w E bs rs->BxRep un nu D w E cs ss->BxRep un nu D w E (bs++cs) (rs++ss)
 |[],_,[],_,_,h=>h|b::bs,cs,r::rs,ss,h,k=>by simp only[BxRep,yAN] at h ⊢;exact ⟨h.1,h.2.append k⟩
 |[],_,_::_,_,h,_=>by simp[BxRep] at h
 |_::_,_,[],_,h,_=>by simp[BxRep] at h
theorem zjg{nu:Nu}:∀{cs:List (PV S)}{vs:List Value},cs.length=vs.length->RepL un nu D w (cs.map λ_=>.junk) vs
 |[],[],_=>by simp[RepL]
 |_::cs,_::vs,h=>by simp only[yAk,RepL,Rep,true_and];exact zjg (by simpa using h)
 |[],_::_,h=>by simp at h
 |_::_,[],h=>by simp at h
theorem zc1:∀(l:List (Nat×List CTy))(ps:List (PV S))(B:Bxs S),(zaZ l ps B).length=B.length|[],_,_=>rfl|(i,l)::r,ps,B=>by simp only[zaZ];rw[zc1 r];split<;>simp[zaA]
theorem zcB{α:Type}{l:List α}{i:Nat}{x:α}(h:l[i]?=some x):l.set i x=l:=by
 apply yAK;intro j;by_cases hij:i=j;·subst hij;rw[yAB (yAc.1 h).1,h]
 ·rw[yAu hij]
theorem zgF{nu:Nu}{H:List Wl.Res}:∀{l:List (Nat×List CTy)}{ps:List (PV S)}{B:Bxs S}{H1:List Wl.Res},BxRep un nu D w E B H1->(∀i ts,(i,ts)∈l->(∀r,H1[i]?=some r->zaH r=true->H[i]?=some r)/\(zbF H i).length=ts.length)->RepL un nu D w ps (zck H l)->BxRep un nu D w E (zaZ l ps B) H1
 |[],_,_,_,h,_,_=>h|(i,ts)::l,ps,B,H1,h,hl,hr=>by
   simp only[zaZ];obtain ⟨h1,h2⟩:=hl i ts (by simp);have htake:=hr.take ts.length;have hdrop:=hr.drop ts.length;simp only[zck] at htake hdrop;rw[<-h2,yA5] at htake;rw[<-h2,yBn] at hdrop;rw[h2] at htake hdrop;refine zgF ?_ (λj ts' hj=>hl j ts' (by simp[hj])) hdrop;split
   ·rename_i T cs hg;obtain ⟨r,g1,gc,g2,g3,g5⟩:=zby h hg;have hset:H1.set i r=H1:=zcB g1;rw[<-hset];refine h.set (zhv g5 ?_);have:zbF H i=zhM r:=by unfold zbF;rw[h1 _ g1 gc]
    rw[<-this];exact htake
   ·exact h
end
def nr1:Box S->Box S| .own _ _ _=>.gone| .wr _ _ _=>.gone| .nst _ _ _ _ _=>.gone| .omp _ _ _=>.gone| .itr _ _ _ _=>.gone|b=>b.calm
theorem zbl:∀(bx:Bxs S)(i:Nat),zae (za6 bx) i=(zae bx i).map nr1
 |[],_=>rfl|b::r,0=>by cases b<;>rfl
 |b::r,i+1=>by cases b<;>simpa[za6,zae] using zbl r i
theorem zdr:∀(bx:Bxs S),(za6 bx).length=bx.length|[]=>rfl|b::r=>by cases b<;>simp[za6,zdr r]
def lk1(c:List (Nat×List CTy))(i:Nat):Box S->Box S| .var T cs=>bif (c.map (·.1)).contains i then .var T cs else .lk (.var T cs)| .lk b=>.lk (.lk b)|b=>b
theorem za8(c:List (Nat×List CTy)):∀(bx:Bxs S)(k i:Nat),zae (zag c k bx) i=(zae bx i).map (lk1 c (k+i))
 |[],_,_=>by simp[zag,zae]
 |b::r,k,0=>by cases b<;>rfl
 |b::r,k,i+1=>by have:=za8 c r (k+1) i;rw[show k+1+i=k+(i+1) by omega] at this;cases b<;>simpa[zag,zae] using this
theorem zbE(c:List (Nat×List CTy)):∀(bx:Bxs S)(k:Nat),(zag c k bx).length=bx.length|[],_=>rfl|b::r,k=>by cases b<;>simp[zag,zbE c r]
def bl1(ks:List Nat)(i:Nat):Box S->Box S| .var T cs=>bif ks.contains i then .var T (cs.map λ_=>.junk) else .var T cs|b=>b
theorem zcE(ks:List Nat):∀(bx:Bxs S)(k i:Nat),zae (zga ks k bx) i=(zae bx i).map (bl1 ks (k+i))
 |[],_,_=>by simp[zga,zae]
 |b::r,k,0=>by cases b<;>rfl
 |b::r,k,i+1=>by have:=zcE ks r (k+1) i;rw[show k+1+i=k+(i+1) by omega] at this;cases b<;>simpa[zga,zae] using this
theorem zbK(ks:List Nat):∀(bx:Bxs S)(k:Nat),(zga ks k bx).length=bx.length|[],_=>rfl|b::r,k=>by cases b<;>simp[zga,zbK ks r]
section
variable{P:Program}{un:Uni S}{E:Wl.Ctx}{D0:Dat}{N:Wl.Fr}{D D':Dat}{H:List Wl.Res}{e:Env S}{bx:Bxs S}{a:Act}{w w':World}
theorem zmA{nu:Nu}(c:List (Nat×List CTy)):∀{bx:Bxs S}{H:List Wl.Res}(k:Nat),BxRep un nu D w E bx H->BxRep un nu D w E (zag c k bx) H
 |[],[],_,_=>by simp[zag,BxRep]
 |b::bs,r::rs,k,h=>by
   simp only[BxRep] at h;have ih:=zmA c (k+1) h.2;cases b<;>simp only[zag,BxRep]
   case var T cs=>cases (c.map (·.1)).contains k<;>simp only[cond_true,cond_false]<;>exact ⟨by simpa only[BoxRep] using h.1,ih⟩
   case lk b=>exact ⟨by simpa only[BoxRep] using h.1,ih⟩
   all_goals exact ⟨h.1,ih⟩
 |[],_::_,_,h=>by simp[BxRep] at h
 |_::_,[],_,h=>by simp[BxRep] at h
theorem zix{nu:Nu}:∀(n:Nat)(L:Bxs S){bx:Bxs S}{H:List Wl.Res},BxRep un nu D w E bx H->BxRep un nu D w E (unlock n L bx) H
 |0,_,_,_,h=>by simpa[unlock] using h
 |n+1,[],bx,H,h=>by cases bx<;>simpa[unlock] using h
 |n+1,l::L,[],H,h=>by cases l<;>simpa[unlock] using h
 |n+1,l::L,b::bs,[],h=>by simp[BxRep] at h
 |n+1,l::L,b::bs,r::rs,h=>by simp only[BxRep] at h;have ih:=zix n L h.2;cases l<;>cases b<;>simp only[unlock,BxRep]<;>first|exact ⟨h.1,ih⟩|exact ⟨by simpa only[BoxRep] using h.1,ih⟩
theorem Holds.lock(c:List (Nat×List CTy))(h:Holds un E D0 N e bx a w):Holds un E D0 N e (zag c 0 bx) a w:=by obtain ⟨D,H,h1,h2⟩:=h;exact ⟨D,H,⟨h1.inn,h1.size,h1.defers,zmA c 0 h1.boxes,h1.slots⟩,h2⟩
theorem Holds.unlock(n:Nat)(L:Bxs S)(h:Holds un E D0 N e bx a w):Holds un E D0 N e (unlock n L bx) a w:=by obtain ⟨D,H,h1,h2⟩:=h;exact ⟨D,H,⟨h1.inn,h1.size,h1.defers,zix n L h1.boxes,h1.slots⟩,h2⟩
end
end Pe
end
section
/- A told state is a state; and what is kept. -/
namespace Pe
open Go Go.RowKit
variable{S:Nat->Type}
def Kept(c:Cut)(i:Nat)(bx':Bxs S):Box S->Prop| .var T cs=>(i∈c.boxes.map (·.1)/\∃cs',zae bx' i=some (.var T cs')/\cs'.length=cs.length)\/(i∉c.boxes.map (·.1)/\∃b',zae bx' i=some (.lk b')/\CPres (.var T (cs.map zhl)) b')| .lk b=>∃b',zae bx' i=some (.lk (.lk b'))/\CPres b.calm b'| .ro b=>∃b',zae bx' i=some (.ro b')/\CPres b.calm b'| .own _ _ _=>True| .wr _ _ _=>True| .nst _ _ _ _ _=>True| .omp _ _ _=>True| .itr _ _ _ _=>True| .fm k v l=>zae bx' i=some (.fm k v l)| .gone=>∃b',zae bx' i=some b'/\fixed b'=true
theorem CPres.calm:∀(b:Box S),CPres b b.calm| .var T cs=>⟨rfl,by simp,λj p hp hr hj=>by simp[yAg,hp,zhl,hr]⟩| .lk b=>CPres.calm b| .ro b=>CPres.calm b| .own _ _ _=>rfl| .wr _ _ _=>rfl| .nst _ _ _ _ _=>rfl| .omp _ _ _=>rfl| .fm _ _ _=>rfl| .itr _ _ _ _=>rfl| .gone=>trivial
theorem Kept.freeze{c:Cut}{l:List Nat}{i:Nat}{bx':Bxs S}{b:Box S}(h:Kept c i bx' b):Kept c i (zak l bx') b:=by
 cases b with
 |var T cs =>
   simp only[Kept] at h ⊢;rcases h with ⟨h1,cs',h2,h3⟩|⟨h1,b',h2,h3⟩;·exact .inl ⟨h1,cs',zaX l h2 (by intros;simp) (by intros;simp) (by intros;simp),h3⟩
   ·exact .inr ⟨h1,b',zaX l h2 (by intros;simp) (by intros;simp) (by intros;simp),h3⟩
 |lk b=>obtain ⟨b',h2,h3⟩:=h;exact ⟨b',zaX l h2 (by intros;simp) (by intros;simp) (by intros;simp),h3⟩
 |ro b=>obtain ⟨b',h2,h3⟩:=h;exact ⟨b',zaX l h2 (by intros;simp) (by intros;simp) (by intros;simp),h3⟩
 |own=>trivial|wr=>trivial|nst=>trivial|omp=>trivial|itr=>trivial|fm k v x=>exact zaX l h (by intros;simp) (by intros;simp) (by intros;simp)|gone =>obtain ⟨b',h2,h3⟩:=h;exact ⟨b',zaX l h2 (by intro u T x he;subst he;simp[fixed] at h3) (by intro u T T2 x hh he;subst he;simp[fixed] at h3) (by intro k v x he;subst he;simp[fixed] at h3),h3⟩
theorem zoe{H:List Wl.Res}:∀(l:List (Nat×List CTy)),(∀i ts,(i,ts)∈l->(zbF H i).length=ts.length)->(zck H l).length=(l.map (·.2.length)).sum|[],_=>rfl|(i,ts)::l,h=>by simp only[zck,yAD,yAk,List.sum_cons];rw[h i ts (by simp),zoe l λj ts' hj=>h j ts' (by simp[hj])]
theorem zcO:∀(l:List (Nat×List CTy))(ps:List (PV S))(B:Bxs S),(∀j ts,(j,ts)∈l->∀T cs,zae B j=some (.var T cs)->ts.length=cs.length)->(l.map (·.2.length)).sum<=ps.length->∀i b,zae B i=some b ->
  ((∀T cs,b≠ .var T cs)->zae (zaZ l ps B) i=some b)/\∀T cs,b= .var T cs->∃cs',zae (zaZ l ps B) i=some (.var T cs')/\cs'.length=cs.length
 |[],_,_,_,_,i,b,h=>⟨λ_=>h,λT cs hb=>⟨cs,by rw[zaZ,h,hb],rfl⟩⟩|(j,ts)::l,ps,B,hl,hp,i,b,h=>by
   simp only[yAk,List.sum_cons] at hp;simp only[zaZ];cases hg:zae B j with
   |none=>exact zcO l (ps.drop ts.length) B (λj' ts' hj=>hl j' ts' (by simp[hj])) (by simp;omega) i b h|some x =>
     cases x with
     |var T0 cs0 =>
       have hlen:=hl j ts (by simp) T0 cs0 hg;have hset:∀j' ts',(j',ts')∈l->∀T cs,zae (zau B j (.var T0 (ps.take ts.length))) j'=some (.var T cs)->ts'.length=cs.length:=by
        intro j' ts' hj T cs hgj;by_cases hjj:j'=j;·subst hjj;rw[zbY hg] at hgj;cases hgj;rw[hl j' ts' (by simp[hj]) T0 cs0 hg,<-hlen];simp;omega
        ·rw[zai hjj] at hgj;exact hl j' ts' (by simp[hj]) T cs hgj
       by_cases hij:i=j;·subst hij;rw[hg] at h;cases h;refine ⟨λhne=>absurd rfl (hne T0 cs0),λT cs he=>?_⟩;cases he;obtain ⟨cs',g1,g2⟩:=(zcO l (ps.drop ts.length) _ hset (by simp;omega) i _ (zbY hg)).2 T0 _ rfl;exact ⟨cs',g1,by rw[g2,<-hlen];simp;omega⟩
       ·exact zcO l (ps.drop ts.length) _ hset (by simp;omega) i b (by rw[zai hij];exact h)
     |_=>exact zcO l (ps.drop ts.length) B (λj' ts' hj=>hl j' ts' (by simp[hj])) (by simp;omega) i b h
theorem zgL(e e':Env S)(i:Nat):zan (e++e') i=(zan e i).or (zan e' i):=by
 induction e with
 |nil=>rfl|cons x r ih =>
   obtain ⟨j,p⟩:=x;simp only[yAN,zan];cases Nat.beq j i with
   |true=>rfl|false=>exact ih
theorem zbn(W:List Nat):∀(e:Env S)(sn:List Nat)(i:Nat)(p:PV S),zan (zia W sn e) i=some p->i∉sn/\i∉W/\zan e i=some p/\p.rowless=true
 |[],_,_,_,h=>by simp[zia,zan] at h
 |(j,q)::r,sn,i,p,h=>by
   unfold zia at h;cases hs:sn.contains j with
   |true =>
     rw[hs] at h;obtain ⟨h1,h2,h3,h4⟩:=zbn W r sn i p h;refine ⟨h1,h2,?_,h4⟩;simp only[zan];cases hb:Nat.beq j i with
     |true=>exact absurd (yAa hb▸(by simpa using hs)) h1|false=>exact h3
   |false =>
     rw[hs] at h;simp only[cond_false] at h;cases hw:(W.contains j|| !q.rowless) with
     |true =>
       rw[hw] at h;obtain ⟨h1,h2,h3,h4⟩:=zbn W r (j::sn) i p h;simp only[yAp,not_or] at h1;refine ⟨h1.2,h2,?_,h4⟩;simp only[zan];cases hb:Nat.beq j i with
       |true=>exact absurd (yAa hb).symm h1.1|false=>exact h3
     |false =>
       rw[hw] at h;simp only[cond_false,zan] at h ⊢;cases hb:Nat.beq j i with
       |true =>rw[hb] at h;have:=yAa hb;subst this;simp only[cond_true,yAe] at h ⊢;subst h;simp only[yBc,Bool.not_eq_false'] at hw;exact ⟨by simpa using hs,by simpa using hw.1,rfl,hw.2⟩
       |false =>rw[hb] at h;obtain ⟨h1,h2,h3,h4⟩:=zbn W r (j::sn) i p h;simp only[yAp,not_or] at h1;exact ⟨h1.2,h2,h3,h4⟩
theorem zh9{W:List Nat}:∀(e:Env S)(sn:List Nat)(i:Nat)(p:PV S),i∉sn->i∉W->zan e i=some p->p.rowless=true->zan (zia W sn e) i=some p
 |[],_,_,_,_,_,h,_=>by simp[zan] at h
 |(j,q)::r,sn,i,p,h1,h2,h,h4=>by
   unfold zia;simp only[zan] at h;cases hb:Nat.beq j i with
   |true =>
     have:=yAa hb;subst this;rw[hb] at h;simp at h;subst h;have e1:sn.contains j=false:=by simpa using h1
     have e2:W.contains j=false:=(by simpa using h2);rw[e1,e2];simp only[cond_false,Bool.false_or,h4,yCb,zan,hb,cond_true]
   |false =>
     rw[hb] at h;have hne:i≠j:=λhe=>by subst he;simp at hb
     cases hs:sn.contains j with
     |true=>exact zh9 r sn i p h1 h2 h h4|false =>
       simp only[cond_false];cases hw:(W.contains j|| !q.rowless) with
       |true=>exact zh9 r (j::sn) i p (by simp[hne,h1]) h2 h h4|false=>simp only[cond_false,zan,hb];exact zh9 r (j::sn) i p (by simp[hne,h1]) h2 h h4
section
variable{P:Program}{un:Uni S}{E:Wl.Ctx}{D0:Dat}{N:Wl.Fr}{D D':Dat}{H:List Wl.Res}{e:Env S}{bx:Bxs S}{a:Act}{w w':World}
theorem zjK{nu:Nu}{f:Nat->Value}:∀{l:List (Nat×CTy)}{ps:List (PV S)}{vs:List Value},RepL un nu D w ps (l.map (λp=>f p.1)++vs)->∀(i:Nat)(p:PV S)(e:Env S),zan (zcx l ps++e) i=some p->Rep un nu D w p (f i)\/(i∉l.map (·.1)/\zan e i=some p)
 |[],ps,vs,_,i,p,e,h=>by cases ps<;>exact .inr ⟨by simp,by simpa[zcx] using h⟩
 |(j,t)::l,[],vs,hr,i,p,e,h=>by simp[RepL] at hr
 |(j,t)::l,q::ps,vs,hr,i,p,e,h=>by
   simp only[yAk,yAN,RepL] at hr;simp only[zcx,yAN,zan] at h;cases hb:Nat.beq j i with
   |true=>rw[hb] at h;simp at h;subst h;rw[<-yAa hb];exact .inl hr.1|false =>
     rw[hb] at h;rcases zjK hr.2 i p e h with h|h;·exact .inl h
     ·refine .inr ⟨?_,h.2⟩;have hne:i≠j:=λhe=>by subst he;simp at hb
      simp only[yAk,yAp,not_or];exact ⟨hne,h.1⟩
theorem zdR{z:Env S}:∀{l:List (Nat×Nat×U)}{ps:List (PV S)}(i:Nat)(p:PV S),zan (zcK z l ps) i=some p->∃(k m:Nat) (j:Nat) (u:U) (y:IntKind) (x:Int),l[k]?=some (i,j,u)/\ps[k]?=some (.int y x)/\zan z j=some (.row m)/\p= .rsl m u x.toNat
 |[],ps,i,p,h=>by simp[zcK,zan] at h
 |(i0,j,u)::l,[],i,p,h=>by simp[zcK,zan] at h
 |(i0,j,u)::l,q::ps,i,p,h=>by
   have later:zan (zcK z l ps) i=some p->∃(k m:Nat) (j':Nat) (u':U) (y:IntKind) (x:Int),((i0,j,u)::l)[k]?=some (i,j',u')/\(q::ps)[k]?=some (.int y x)/\zan z j'=some (.row m)/\p= .rsl m u' x.toNat:=λh=>by obtain ⟨k,m,j',u',y,x,h1,h2,h3⟩:=zdR i p h;exact ⟨k+1,m,j',u',y,x,by simpa using h1,by simpa using h2,h3⟩
   unfold zcK at h;split at h
   ·rename_i y x m hl;simp only[zan] at h;cases hb:Nat.beq i0 i with
    |true =>rw[hb] at h;simp only[cond_true,yAe] at h;have:=yAa hb;subst this;exact ⟨0,m,j,u,y,x,rfl,rfl,hl,h.symm⟩
    |false=>rw[hb] at h;exact later h
   ·exact later h
theorem zgm{e:Env S}{nu:Nu}:∀{l:List (Nat×Nat×U)}{ps:List (PV S)},zfm e l=some ps->(∃vs,RepL un nu D w ps vs)/\ps.length=l.length/\∀(n:Nat) i j u,l[n]?=some (i,j,u)->∃b k,zan e i=some (.rsl b u k)/\zan e j=some (.row b)/\ps[n]?=some (.int .i64 k)
 |[],ps,h=>by simp[zfm] at h;subst h;exact ⟨⟨[],by simp[RepL]⟩,rfl,λn i j u h=>by simp at h⟩
 |(i0,j0,u0)::l,ps,h=>by
   unfold zfm at h;split at h
   ·rename_i b v k b' ps0 h1 h2 h3;split at h
    ·rename_i huv _;obtain ⟨hb,h⟩:=zac h;cases h;have:=yAa hb;subst this;obtain ⟨⟨vs,g1⟩,g2,g3⟩:=zgm h3;refine ⟨⟨.int .i64 k::vs,by simp only[RepL,Rep,true_and];exact g1⟩,by simp[g2],λn i j u hn=>?_⟩;cases n with
     |zero=>simp only[yB5,yAe,Prod.mk.injEq] at hn;obtain ⟨rfl,rfl,rfl⟩:=hn;have hv:=huv.down;subst hv;exact ⟨b,k,h1,h2,rfl⟩
     |succ n=>simpa using g3 n i j u (by simpa using hn)
    ·cases h
   ·cases h
theorem BxRep.of_get{nu:Nu}:∀{bx:Bxs S}{H:List Wl.Res},bx.length=H.length->(∀(i:Nat) b r,zae bx i=some b->H[i]?=some r->BoxRep un nu D w E false b r)->BxRep un nu D w E bx H
 |[],[],_,_=>by simp[BxRep]
 |b::bs,r::rs,hl,h=>by simp only[BxRep];exact ⟨h 0 b r rfl rfl,BxRep.of_get (by simpa using hl) λi b' r' hb hr=>h (i+1) b' r' (by simpa[zae] using hb) (by simpa using hr)⟩
 |[],_::_,hl,_=>by simp at hl
 |_::_,[],hl,_=>by simp at hl
theorem zd3(hun:UniOk un){c:Cut}{W:List Nat}{e0 e':Env S}{bx0 bx':Bxs S}{a0:Act}{w0:World}(h0:Holds un E D0 N e0 bx0 a0 w0)(hs:Holds un E D0 N e' bx' a w)(he:∀i p,i∉c.slots.map (·.1)->zan (mask (c.tails.map (·.1)++W) e0) i=some p->zan e' i=some p)
  (hb:∀i b,zae bx0 i=some b->Kept c i bx' b) (hlen:bx0.length<=bx'.length) {t:ElL S c.codes} (hc:zcU un c e' bx'=some t):Holds un E D0 N (mkEnv c W e0 bx0.length t) (zcD c bx0 t) a w/\PresB bx0 (zcD c bx0 t) /\
   ∀b k v o p,zae bx0 b=some .gone->zae bx' b=some (.ro (.itr k v o p))->Holds un E D0 N (mkEnv c W e0 bx0.length t) (zau (zcD c bx0 t) b (.ro (.itr k v o p))) a w:=by
 obtain ⟨D00,H0,st0,_⟩:=h0;unfold zcU at hc;split at hc
 ·rename_i ps os qs hps hos hqs;unfold zlh at hc;obtain ⟨hro,hcl⟩:=zac hc;have hs:=hs.freeze (frs c.tys (ps++(os++qs)));have hqs:=zcy (ks:=frs c.tys (ps++(os++qs))) hqs;have hb:=λi b hi=>(hb i b hi).freeze (l:=frs c.tys (ps++(os++qs)));have hlen:bx0.length<=(zak (frs c.tys (ps++(os++qs))) bx').length:=by rw[zaM];exact hlen
  have hit:∀b k v o p,zae bx' b=some (.ro (.itr k v o p))->zae (zak (frs c.tys (ps++(os++qs))) bx') b=some (.ro (.itr k v o p)):=λb k v o p h=>zaX _ h (by intros;simp) (by intros;simp) (by intros;simp);generalize zak (frs c.tys (ps++(os++qs))) bx'=bx' at hro hcl hs hqs hb hlen hit;obtain ⟨D,H,st,hD⟩:=hs;obtain ⟨hv1,hv2⟩:=zd7 st.boxes hqs;obtain ⟨⟨ov,ho1⟩,ho2,ho3⟩:=zgm (un:=un) (nu:=ids H) (D:=D) (w:=w) hos;have hR:=(zgr st hps).append (ho1.append hv1);obtain ⟨bs,rs,g1,g2,g3,g4',g5,_⟩:=zb0 hun st c.tys (ps++(os++qs)) _ [] t bx0.length hro hcl hR;have g4:=λnu':Nu=>g4' nu' E;have hBl:(za6 bx0).length=bx0.length:=zdr bx0;have hHl:bx'.length=H.length:=st.boxes.length;have hsl:(zhV (za6 bx0) H).length=bx0.length:=by rw[zer (by omega),hBl]
  have hstay:∀i b0 r,zae bx0 i=some b0->H[i]?=some r->(zhV (za6 bx0) H)[i]?=some (match nr1 b0 with | .gone=>zgR r|_=>r):=λi b0 r hi hr=>zgb (by rw[zbl,hi];rfl) hr;have hin:In E D (zhV (za6 bx0) H++rs) w:=by
   refine st.inn.cut (by omega) g1 g3 (λb hbm hbl=>?_) (λb hbm r hH=>?_) λi v hi=>?_
   rotate_left 1
   ·obtain ⟨_,x,hbo,hrow⟩:=g2 b hbm;obtain ⟨r',hr1,hr2⟩:=st.boxes.get hbo;rw[hH] at hr1;cases hr1;cases x<;>simp[zdw] at hrow<;>cases r<;>simp[BoxRep] at hr2<;>rfl
   ·obtain ⟨r,h2,_⟩:=st0.inn.lent i v hi;have:=(yAc.1 h2).1;rw[hBl,st0.boxes.length];exact this
   obtain ⟨_,x,hbo,hrow⟩:=g2 b hbm;obtain ⟨b0,hb0⟩:=zbX (bx:=bx0) (i:=b) (by omega);rw[zbl,hb0];have:=hb b b0 hb0;cases b0<;>simp only[Kept] at this<;>simp only[yAf,nr1,Box.calm];·rcases this with ⟨_,cs',h1,_⟩|⟨_,b',h1,_⟩<;>(rw[hbo] at h1;cases h1;simp[zdw] at hrow)
   ·rw[hbo] at this;cases this;simp[zdw] at hrow
   ·obtain ⟨b',h1,_⟩:=this;rw[hbo] at h1;cases h1;simp[zdw] at hrow
   ·obtain ⟨b',h1,_⟩:=this;rw[hbo] at h1;cases h1;simp[zdw] at hrow
  have hids:∀i,i<bx0.length->(ids (zhV (za6 bx0) H++rs))[i]?=(ids H)[i]? :=by intro i hi;obtain ⟨b0,hb0⟩:=zbX hi;obtain ⟨r,hr⟩:∃r,H[i]?=some r:=⟨_,yAh (by omega)⟩;simp only[ids,yAg];rw[yAi (by omega),hstay i b0 r hb0 hr,hr];cases nr1 b0<;>first|rfl|(simp only[yAf,zlF])
  have hidn:∀(i:Nat) r,rs[i]?=some r->(ids (zhV (za6 bx0) H++rs))[bx0.length+i]?=some (zaf r):=by intro i r hr;simp only[ids,yAg];rw[yAz (by omega),hsl,yAQ,hr];rfl
  have hP:=g5 _ hidn;have hm0:(ids H0).length<=bx0.length:=by rw[st0.boxes.length];simp[ids]
  have hbase:BxRep un (ids (zhV (za6 bx0) H++rs)) D w E (zga (c.boxes.map (·.1)) 0 (za6 bx0)) (zhV (za6 bx0) H):=by
   refine BxRep.of_get (by rw[zbK,hBl,hsl]) λi b r hib hir=>?_;have hil:i<bx0.length:=by have:=zbZ hib;rw[zbK,hBl] at this;exact this
   obtain ⟨b0,hb0⟩:=zbX hil;obtain ⟨r1,hr1⟩:∃r,H[i]?=some r:=⟨_,yAh (by omega)⟩;rw[hstay i b0 r1 hb0 hr1] at hir;rw[zcE,zbl,hb0] at hib;simp only[yAf,yAe,yAH] at hib hir;have hk:=hb i b0 hb0;obtain ⟨r0,_,hr02⟩:=st0.boxes.get hb0;cases b0 with
   |var T cs =>
     simp only[nr1,Box.calm] at hib hir;subst hir;simp only[Kept] at hk;rcases hk with ⟨hmem,cs',h1,h2⟩|⟨hmem,b',h1,h2⟩
     ·have hcon:(c.boxes.map (·.1)).contains i=true:=yA8.2 hmem;simp only[bl1,hcon,cond_true] at hib;subst hib;obtain ⟨r2,hr2,hr3⟩:=st.boxes.get h1;rw[hr1] at hr2;cases hr2;refine zhv hr3 (zjg ?_);have:=(zfg hr3).2.1.length;simp;omega
     ·have hcon:(c.boxes.map (·.1)).contains i=false:=by
       cases hx:(c.boxes.map (·.1)).contains i with
       |true=>exact absurd (yA8.1 hx) hmem|false=>rfl
      simp only[bl1,hcon,cond_false] at hib;subst hib;obtain ⟨r2,hr2,hr3⟩:=st.boxes.get h1;rw[hr1] at hr2;cases hr2;simp only[BoxRep] at hr3;exact zio (b:= .var T cs) hm0 hids hr02 h2 hr3
   |lk b0 =>simp only[nr1,Box.calm] at hib hir;subst hir;simp only[bl1] at hib;subst hib;obtain ⟨b',h1,h2⟩:=hk;obtain ⟨r2,hr2,hr3⟩:=st.boxes.get h1;rw[hr1] at hr2;cases hr2;simp only[BoxRep] at hr3 hr02 ⊢;exact zio hm0 hids hr02 h2 hr3
   |ro b0 =>simp only[nr1,Box.calm] at hib hir;subst hir;simp only[bl1] at hib;subst hib;obtain ⟨b',h1,h2⟩:=hk;obtain ⟨r2,hr2,hr3⟩:=st.boxes.get h1;rw[hr1] at hr2;cases hr2;simp only[BoxRep] at hr3 hr02 ⊢;exact zio hm0 hids hr02 h2 hr3
   |own u T l=>simp only[nr1,bl1] at hib;subst hib;cases r<;>simp only[BoxRep]|wr u T l=>simp only[nr1,bl1] at hib;subst hib;cases r<;>simp only[BoxRep]|nst u T T2 l hh=>simp only[nr1,bl1] at hib;subst hib;cases r<;>simp only[BoxRep]|gone=>simp only[nr1,Box.calm,bl1] at hib;subst hib;cases r<;>simp only[BoxRep]|omp k v l=>simp only[nr1,bl1] at hib;subst hib;cases r<;>simp only[BoxRep]|itr k v o p=>simp only[nr1,bl1] at hib;subst hib;cases r<;>simp only[BoxRep]|fm k v l =>simp only[nr1,Box.calm] at hib hir;subst hir;simp only[bl1] at hib;subst hib;obtain ⟨r2,hr2,hr3⟩:=st.boxes.get hk;rw[hr1] at hr2;cases hr2;cases r1<;>simp only[BoxRep] at hr3 ⊢;exact hr3
  have hbx:∀i ts,(i,ts)∈c.boxes->(∀r,(zhV (za6 bx0) H)[i]?=some r->zaH r=true->H[i]?=some r)/\(zbF H i).length=ts.length:=by
   intro i ts hi;refine ⟨λr hx hcl=>?_,(hv2 i ts hi).2⟩;have hil:i<bx0.length:=by rw[<-hsl];exact (yAc.1 hx).1
   obtain ⟨b0,hb0⟩:=zbX hil;obtain ⟨r1,hr1⟩:∃r,H[i]?=some r:=⟨_,yAh (by omega)⟩;rw[hstay i b0 r1 hb0 hr1] at hx;rw[hr1];cases hnr:nr1 b0<;>rw[hnr] at hx<;>simp at hx<;>first|(simp[hx];done)|(cases r1<;>simp[zgR] at hx<;>subst hx<;>first|rfl|(simp[zaH] at hcl))
  have htail:=hP.drop c.slots.length;rw[show c.slots.length=(c.slots.map λp=>a.tmps.getD p.1 undef).length by simp,yBn] at htail;simp only[yCe] at htail;have hdrop:=htail.drop c.tails.length;rw[yBl,show c.tails.length=ov.length by rw[<-ho1.length,ho2],yBn,<-ho1.length,ho2] at hdrop;suffices hSt:St un E N D (zhV (za6 bx0) H++rs) (mkEnv c W e0 bx0.length t) (zcD c bx0 t) a w/\PresB bx0 (zcD c bx0 t) by
   refine ⟨⟨D,_,hSt.1,hD⟩,hSt.2,λb k v o p hbg hbi=>⟨D,_,⟨hSt.1.inn,hSt.1.size,hSt.1.defers,?_,hSt.1.slots⟩,hD⟩⟩;obtain ⟨r,hr1,hr2⟩:=st.boxes.get (hit b k v o p hbi);have hH:=hstay b .gone r hbg hr1;cases r<;>simp only[BoxRep] at hr2;rename_i g m since zbj cc;have hH':(zhV (za6 bx0) H++rs)[b]?=some (.it g m since zbj cc):=by rw[yAi (by rw[hsl];exact zbZ hbg)];exact hH
   have:=hSt.1.boxes.set (i:=b) (b:= .ro (.itr k v o p)) (r:= .it g m since zbj cc) (by simp only[BoxRep];exact hr2);rwa[zcB hH'] at this
  refine ⟨⟨hin,st.size,st.defers,?_,λi p hi=>?_⟩,?_⟩;·exact (zgF hbase hbx hdrop).append (g4 _)
  ·rw[mkEnv,zgL] at hi;cases hte:zan (zcK (zcx c.slots (zcu c.tys t bx0.length)) c.tails ((zcu c.tys t bx0.length).drop c.slots.length)) i with
   |some q =>
     rw[hte] at hi;cases hi;obtain ⟨n,m,j,u,y,x,k1,k2,k3,rfl⟩:=zdR i p hte;obtain ⟨b,k,l1,l2,l3⟩:=ho3 n i j u k1;obtain ⟨v1,l4,l5⟩:=htail.get n _ k2;obtain ⟨v2,l6,l7⟩:=(ho1.append hv1).get n (.int .i64 k) (by rw[yAi (by rw[ho2];exact (yAc.1 k1).1)];exact l3);rw[l4] at l6;cases l6;simp only[Rep] at l5 l7;rw[l5] at l7;cases l7;have hrow:Rep un (ids (zhV (za6 bx0) H++rs)) D w (.row m) (a.tmps.getD j undef):=by
      rcases zjK (f:=λi=>a.tmps.getD i undef) (e:=[]) hP j _ (by rw[yAW];exact k3) with h|⟨_,h⟩;·exact h
      ·simp[zan] at h
     have hr1:=st.slots j _ l2;have hr2:=st.slots i _ l1;simp only[Rep] at hrow hr1 hr2 ⊢;obtain ⟨fl,g,n',c',off,m1,m2,m3⟩:=hr2;rw[hr1.1] at m1;simp only[yAe,Prod.mk.injEq] at m1;obtain ⟨rfl,m1⟩:=m1;exact ⟨false,g,n',c',off,by rw[hrow.1,m1],by simpa using m2,by simpa using m3⟩
   |none =>
   rw[hte] at hi;rcases zjK (f:=λi=>a.tmps.getD i undef) hP i p _ hi with h|⟨h1,h2⟩;·exact h
   ·obtain ⟨_,_,h3,h4⟩:=zbn _ e0 [] i p h2;exact Rep.low hm0 hids p _ _ h4 (st0.slots i p h3) (st.slots i p (he i p h1 h2))
  ·have hget:=zcO c.boxes ((zcu c.tys t bx0.length).drop (c.slots.length+c.tails.length)) (zga (c.boxes.map (·.1)) 0 (za6 bx0)) (λj ts hj T cs hgj=>by
    have hjl:j<bx0.length:=(by have:=zbZ hgj;rw[zbK,hBl] at this;exact this);obtain ⟨b0,hb0⟩:=zbX hjl;rw[zcE,zbl,hb0] at hgj;simp only[yAf,yAe,yAH] at hgj;have hk:=hb j b0 hb0;have hmem:j∈c.boxes.map (·.1):=yBd.2 ⟨_,hj,rfl⟩;obtain ⟨⟨T2,cs2,hv⟩,hv'⟩:=hv2 j ts hj;cases b0 with
    |var T0 cs0 =>
      simp only[nr1,Box.calm,bl1,yA8.2 hmem,cond_true] at hgj;cases hgj;simp only[Kept] at hk;rcases hk with ⟨_,cs',h1,h2⟩|⟨hn,_⟩
      ·obtain ⟨r,k1,_,k2,k3,_⟩:=zby st.boxes h1;have:=k3.length;rw[<-hv',k2];simp;omega
      ·exact absurd hmem hn
    |_=>simp[nr1,Box.calm,bl1] at hgj) (by rw[<-zoe c.boxes λi ts hi=>(hv2 i ts hi).2];rw[hdrop.length];exact yAl _)
   refine ⟨by rw[zcD,yAD,zc1,zbK,hBl];omega,λi b hi hf=>?_,λi T cs hi=>?_⟩
   ·have h1:zae (zga (c.boxes.map (·.1)) 0 (za6 bx0)) i=some b.calm:=by
     rw[zcE,zbl,hi];cases b<;>simp[fixed] at hf<;>rfl
    refine ⟨b.calm,zcd ((hget i _ h1).1 λT cs hcon=>?_),CPres.calm b⟩;cases b<;>simp[fixed] at hf<;>simp[Box.calm] at hcon
   ·have h1:∃cs1,zae (zga (c.boxes.map (·.1)) 0 (za6 bx0)) i=some (.var T cs1)/\cs1.length=cs.length:=by
     rw[zcE,zbl,hi];simp only[yAf,nr1,Box.calm,bl1,yAH];cases (c.boxes.map (·.1)).contains i<;>exact ⟨_,rfl,by simp⟩
    obtain ⟨cs1,h1,h2⟩:=h1;obtain ⟨cs',h3,h4⟩:=(hget i _ h1).2 T cs1 rfl;exact ⟨cs',zcd h3,h4.trans h2⟩
 ·rename_i hno;cases h1:zfo e' c.slots with
  |none=>rw[h1] at hc;simp at hc|some ps=>cases h2:zfm e' c.tails with
    |none=>rw[h1,h2] at hc;simp at hc|some os=>cases h3:zcH bx' c.boxes with
      |none=>rw[h1,h2,h3] at hc;simp at hc|some qs=>exact (hno ps os qs h1 h2 h3).elim
end
end Pe
end
