/- PROVED HERE: a part of the seat's proofs; see the text that holds the claim's theorem. -/
import Derived.Test.YtdmdigejjdianaaGreatDoorNm
import Derived.Laws.Tables
import Derived.Test.YtdmdigejjdianaaGreatDoorPeF
section
/- Code, and functions. -/
namespace Pe
open Go Go.RowKit
variable{S:Nat->Type}
section
variable{P:Program}{un:Uni S}{tb:Tb S}{orc:Orc S}{inl:Inl S}{an:Ann}{E:Wl.Ctx}{D0:Dat}{N:Wl.Fr}
theorem Holds.draw{e:Env S}{bx:Bxs S}{a:Act}{w:World}(h:Holds un E D0 N e bx a w)(n:Nat):Holds un E D0 N e bx a { w with drawn:=n }:=by obtain ⟨D,H,hs,hD⟩:=h;have g:Ge D w D { w with drawn:=n }:=⟨λ_ _ h=>h,λ_ _ _=>rfl,λ_ _ _ _ _ h=>h⟩;refine ⟨D,H,⟨⟨⟨hs.inn.out.os,hs.inn.out.tape,hs.inn.out.output,hs.inn.out.size,hs.inn.out.block⟩,hs.inn.lt,λr hr=>Wl.Res.holds_of (hs.inn.res r hr) λ_ _=>rfl,hs.inn.apart,hs.inn.disj,hs.inn.lent⟩,hs.size,hs.defers,BxRep.mono g (λ_ _ _=>rfl) (λ_ _ h=>h) hs.boxes,λi p hi=>(hs.slots i p hi).ge g λ_ _ h=>h⟩,hD.1,hD.2.trans g⟩
theorem zjS{κ σ R:Type}{f:κ->List κ->σ->Option (σ⊕R)}{g:σ->Option (σ⊕R)}{l:List κ}{s:σ}{r:R}(h:zky f g l s=some r):(∀y p q s,f y p s=f y q s)/\∀p:List κ,p.Perm l->znv f g p s=some r:=by
 unfold zky at h;split at h;·rename_i hh;have h1:=Classical.choose_spec hh.2;cases h;exact ⟨hh.1,h1⟩
 ·cases h
theorem ziN{c:Code}{i d d2:Nat}(h:zh2 an c=some (i,d,d2)):∃id ops rest o1 o2,c= .seq (.region id ops false) rest/\ops.toList=[o1,o2]/\o1.op= .next (.tmp i) false/\o1.dst=some d/\o1.guard=none/\o2.op= .extract (.tmp d) 0/\o2.dst=some d2/\o2.guard=none:=by
 unfold zh2 at h;split at h
 ·rename_i id ops rest;obtain ⟨_,h⟩:=zac h;split at h
  ·rename_i o1 o2 hops;split at h;·rename_i i' d0 d' d2' h1 h2 h3 h4 h5 h6;obtain ⟨h7,h8⟩:=zac h;cases h8;have:=yAa h7;subst this;exact ⟨id,ops,rest,o1,o2,rfl,hops,h1,h2,h3,h4,h5,h6⟩
   ·cases h
  ·cases h
 ·cases h
theorem zjR{e:Env S}{bx:Bxs S}{i b:Nat}{k v:U}{l:List (El S k×El S v)}(h:zkw e bx i=some (b,⟨k,v,l⟩)):zan e i=some (.ptr b 0)/\zae bx b=some (.itr k v none l):=by
 unfold zkw at h;split at h
 ·rename_i b' hl;split at h;·rename_i k' v' l' hg;cases h;exact ⟨hl,hg⟩
  ·cases h
 ·cases h
theorem Kept.congr{c:Cut}{i:Nat}{x y:Bxs S}{b:Box S}(he:zae y i=zae x i)(h:Kept c i x b):Kept c i y b:=by cases b<;>simp only[Kept] at h ⊢ <;>first|trivial|(rw[he];exact h)
theorem zfR:∀{n:Nat}{L x y:Bxs S}{i:Nat},x.length=y.length->zae x i=zae y i->zae (Pe.unlock n L x) i=zae (Pe.unlock n L y) i
 |0,_,_,_,_,_,h=>by simpa[Pe.unlock] using h
 |n+1,[],x,y,i,_,h=>by cases x<;>cases y<;>first|(simp[Pe.unlock];done)|simpa[Pe.unlock] using h
 |n+1,l::L,[],[],i,_,h=>by cases l<;>simp[Pe.unlock]
 |n+1,l::L,[],_::_,_,hl,_=>by simp at hl
 |n+1,l::L,_::_,[],_,hl,_=>by simp at hl
 |n+1,l::L,b::x,c::y,0,_,h=>by simp only[zae,yAe] at h;subst h;cases l<;>cases b<;>rfl
 |n+1,l::L,b::x,c::y,i+1,hl,h=>by have:=zfR (n:=n) (L:=L) (x:=x) (y:=y) (i:=i) (by simpa using hl) (by simpa[zae] using h);cases l<;>cases b<;>cases c<;>simpa[Pe.unlock,zae] using this
theorem PresB.off{x y z:Bxs S}{b:Nat}(h:PresB x y)(hx:∀c,zae x b=some c->fixed c=false/\∀T cs,c≠ .var T cs)(hl:y.length<=z.length)(he:∀i,i≠b->zae z i=zae y i):PresB x z:=by
 refine ⟨yAG h.len hl,λi c hi hf=>?_,λi T cs hi=>?_⟩
 ·by_cases hib:i=b;·subst hib;rw[(hx c hi).1] at hf;cases hf
  ·rw[he i hib];exact h.box i c hi hf
 ·by_cases hib:i=b;·subst hib;exact absurd rfl ((hx _ hi).2 T cs)
  ·rw[he i hib];exact h.var i T cs hi
theorem zgs:∀(bx:Bxs S)(i:Nat)(b c:Box S),zau (zau bx i b) i c=zau bx i c|[],_,_,_=>rfl|_::_,0,_,_=>rfl|_::r,i+1,b,c=>by simp only[zau];rw[zgs r]
theorem Holds.hide{e:Env S}{bx:Bxs S}{a:Act}{w:World}(h:Holds un E D0 N e bx a w)(b:Nat):Holds un E D0 N e (zau bx b .gone) a w:=by
 obtain ⟨D,H,hs,hD⟩:=h;refine ⟨D,H,⟨hs.inn,hs.size,hs.defers,?_,hs.slots⟩,hD⟩;cases hg:H[b]? with
 |none =>
   have:zau bx b .gone=bx:=by
    have hl:bx.length<=b:=(by rw[hs.boxes.length];exact List.getElem?_eq_none_iff.1 hg);clear hs hg;induction bx generalizing b with
    |nil=>rfl|cons x r ih =>
      cases b with
      |zero=>simp at hl|succ b=>simp only[zau];rw[ih b (by simpa using hl)]
   rw[this];exact hs.boxes
 |some r =>have:=hs.boxes.set (i:=b) (b:= .gone) (r:=r) (by cases r<;>simp only[BoxRep]);rwa[zcB hg] at this
theorem Holds.itr{e:Env S}{bx:Bxs S}{a:Act}{w:World}{b:Nat}{k v:U}{o:Option (El S k×El S v)}{p:List (El S k×El S v)}(h:Holds un E D0 N e bx a w)(hg:zae bx b=some (.itr k v o p)):Holds un E D0 N e (zau bx b (.ro (.itr k v o p))) a w:=by obtain ⟨D,H,hs,hD⟩:=h;refine ⟨D,H,⟨hs.inn,hs.size,hs.defers,?_,hs.slots⟩,hD⟩;obtain ⟨r,hr1,hr2⟩:=hs.boxes.get hg;have:=hs.boxes.set (i:=b) (b:= .ro (.itr k v o p)) (r:=r) (by cases r<;>simp only[BoxRep] at hr2 ⊢;exact hr2);rwa[zcB hr1] at this
theorem zmE{es:Array MapEntry}{zbj:Array Nat}{en:MapEntry}(hn:(es.toList.map (·.born)).Nodup){j:Nat}(hj:(leftOf es zbj).toList[j]?=some en):(leftOf es (zbj.push en.born)).toList=(leftOf es zbj).toList.eraseIdx j:=by
 have h1:∀s,(leftOf es s).toList=es.toList.filter λe=> !s.contains e.born:=λs=>by unfold leftOf;rw[Array.toList_filter]
 rw[h1,h1] at *
 have h2:(es.toList.filter λe=> !(zbj.push en.born).contains e.born)=(es.toList.filter λe=> !zbj.contains e.born).filter λe=>e.born != en.born:=by rw[List.filter_filter];refine List.filter_congr λe _=>?_;rw[Array.contains_push];cases zbj.contains e.born<;>cases h:e.born==en.born<;>simp_all [bne]
 rw[h2];have hnd:((es.toList.filter λe=> !zbj.contains e.born).map (·.born)).Nodup:=(List.Sublist.map _ List.filter_sublist).nodup hn;generalize (es.toList.filter λe=> !zbj.contains e.born)=L at hj hnd ⊢;clear h2 h1;induction L generalizing j with
 |nil=>simp at hj|cons x L ih =>
   simp only[yAk,yAU] at hnd;cases j with
   |zero =>simp only[yB5,yAe] at hj;subst hj;simp only[List.eraseIdx_zero,List.tail_cons,yCc,bne_self_eq_false,Bool.false_eq_true,if_false];refine List.filter_eq_self.2 λy hy=>?_;simp only[bne_iff_ne,ne_eq];intro he;exact hnd.1 (yBd.2 ⟨y,hy,he⟩)
   |succ j =>
     simp only[List.getElem?_cons_succ] at hj;have hne:(x.born != en.born)=true:=by simp only[bne_iff_ne,ne_eq];intro he;exact hnd.1 (yBd.2 ⟨en,yAb hj,he.symm⟩)
     rw[yCc,if_pos hne,List.eraseIdx_cons_succ,ih hj hnd.2]
theorem zlH{D:Dat}{w:World}{k v:U}{p:List (El S k×El S v)}{es:List MapEntry}(h:zfQ un D w k v p es)(j:Nat):zfQ un D w k v (p.eraseIdx j) (es.eraseIdx j):=by
 refine ⟨by rw[List.length_eraseIdx,List.length_eraseIdx,h.1],λi x e hx he=>?_⟩;rw[List.getElem?_eraseIdx] at hx he;split at hx;·rename_i hlt;rw[if_pos hlt] at he;exact h.2 i x e hx he
 ·rename_i hlt;rw[if_neg hlt] at he;exact h.2 (i+1) x e hx he
def zne(P:Program)(un:Uni S)(tb:Tb S)(orc:Orc S)(inl:Inl S)(an:Ann)(E:Wl.Ctx)(D0:Dat)(N:Wl.Fr)(c:Code):Prop:=∀(R:Type)(e:Env S)(bx:Bxs S)(K:Exit->Env S->Bxs S->Option R)(r:R),zfJ un tb orc inl an c R e bx K=some r->(∀d∈zaT c,d<N.n) ->
    ∀{a:Act}{w:World}{Q:Exit->Act->World->Prop},Holds un E D0 N e bx a w->(∀x e' bx',K x e' bx'=some r->Pres (zaG an c) e e'->PresB bx bx'->∀a' w',Holds un E D0 N e' bx' a' w'->Q x a' w')->c.wp P Q a w 
theorem St.draw{D:Dat}{H:List Wl.Res}{e:Env S}{bx:Bxs S}{a:Act}{w:World}(hs:St un E N D H e bx a w)(n:Nat):St un E N D H e bx a { w with drawn:=n }:=by have g:Ge D w D { w with drawn:=n }:=⟨λ_ _ h=>h,λ_ _ _=>rfl,λ_ _ _ _ _ h=>h⟩;exact ⟨⟨⟨hs.inn.out.os,hs.inn.out.tape,hs.inn.out.output,hs.inn.out.size,hs.inn.out.block⟩,hs.inn.lt,λr hr=>Wl.Res.holds_of (hs.inn.res r hr) λ_ _=>rfl,hs.inn.apart,hs.inn.disj,hs.inn.lent⟩,hs.size,hs.defers,BxRep.mono g (λ_ _ _=>rfl) (λ_ _ h=>h) hs.boxes,λi p hi=>(hs.slots i p hi).ge g λ_ _ h=>h⟩
theorem Holds.put{e:Env S}{bx:Bxs S}{a:Act}{w:World}(h:Holds un E D0 N e bx a w){d:Nat}(hd:d<N.n){p:PV S}{v:Value}(hp:∀(nu:Nu)(D:Dat),Rep un nu D w p v):Holds un E D0 N (push (some d) p e) bx (a.put (some d) v) w:=by obtain ⟨D,H,hs,hD⟩:=h;exact ⟨D,H,hs.step hs.inn hs.boxes hs.slots (λd' h=>by cases h;exact hd) (hp _ _),hD⟩
theorem zk1{a:Act}{d:Nat}(hd:d<a.tmps.size)(v:Value):(a.put (some d) v).eval (.tmp d)=v:=by simp[Act.put,Act.eval,Array.getD,hd]
theorem zkK(c:List (Nat×List CTy))(x:Box S):∀(k b:Nat)(bx:Bxs S),zag c k (zau bx b (.ro x))=zau (zag c k bx) b (.ro x)
 |_,_,[]=>rfl|k,0,y::r=>by cases y<;>rfl
 |k,b+1,y::r=>by have:=zkK c x (k+1) b r;cases y<;>simp only[zau,zag,this]
theorem zhK{α:Type}:∀{l:List α}{j:Nat}{y:α},l[j]?=some y->(y::l.eraseIdx j).Perm l
 |[],_,_,h=>by simp at h
 |x::l,0,y,h=>by simp at h;subst h;exact .refl _
 |x::l,j+1,y,h=>by rw[List.eraseIdx_cons_succ];exact (List.Perm.swap _ _ _).trans ((zhK (by simpa using h)).cons _)
theorem zo6{D:Dat}{H:List Wl.Res}{e:Env S}{M:Bxs S}{a:Act}{w:World}{b:Nat}{k v:U}{o:Option (El S k×El S v)}{p p2:List (El S k×El S v)}{y0:El S k×El S v}{g g0 since c:Nat}{zbj:Array Nat}{es:Array MapEntry}{en:MapEntry}
  (hst:St un E N D H e (zau M b (.ro (.itr k v o p))) a w) (hM:zae M b=some .gone) (hr1:H[b]?=some (.it g (some g0) since zbj c)) (hDg:D g0 0) (hm:w.heap[g0]?=some (.map es since)) (hstp:Wl.stampOk es since) (hen:en∈es.toList)
  (hp:∃p':List (El S k×El S v),p'.Perm p2/\zfQ un D w k v p' (leftOf es (zbj.push en.born)).toList) (hk:Rep un [] D w (inj k y0.1) en.key) (hv:Rep un [] D w (inj v y0.2) en.val) {d:Nat} (hd:d<N.n) :
  St un E N D (H.set b (.it g (some g0) since (zbj.push en.born) since)) (push (some d) (.tup [.bool true,inj k y0.1,inj v y0.2]) e) (zau M b (.ro (.itr k v (some y0) p2))) (a.put (some d) (.tuple #[.bool true,en.key,en.val])) (ChangeMaps.setBlock w g (.mapIter (some g0) since (zbj.push en.born) since)):=by
 have hmem:=yAb hr1;have hh:=hst.inn.res _ hmem;have hgl:=(yAq.1 hh.2).1;have hgr:w.grownBy (ChangeMaps.setBlock w g (.mapIter (some g0) since (zbj.push en.born) since)) (some g):=⟨rfl,rfl,rfl,by simp[ChangeMaps.setBlock],λk hk hne=>by show (w.heap.setIfInBounds g _)[k]?=_;rw[yAJ,if_neg (λh:g=k=>hne (by rw[h]))]⟩;have hnew:(ChangeMaps.setBlock w g (.mapIter (some g0) since (zbj.push en.born) since)).heap[g]?=some (.mapIter (some g0) since (zbj.push en.born) since):=by simp[ChangeMaps.setBlock,hgl]
 have hin:In E D (H.set b (.it g (some g0) since (zbj.push en.born) since)) (ChangeMaps.setBlock w g (.mapIter (some g0) since (zbj.push en.born) since)) :=
  hst.inn.turn hr1 hgr ⟨hh.1,hnew⟩ (λg hg=>.inl hg) (λk o hk=>.inl hk) (λk o hk=>yAn (hst.inn.lt k o hk) hgr.size) (λg' hg' o hf hd=>hst.inn.apart _ hmem g' hg' o trivial hd) (λh=>by cases h)
 have hge:Ge D w D (ChangeMaps.setBlock w g (.mapIter (some g0) since (zbj.push en.born) since)):= .of (λ_ _ h=>h) λk o hk=>hgr.block k (hst.inn.lt k o hk) λhkb=>hst.inn.apart _ hmem k (yAy hkb).symm o trivial hk;have hids:ids (H.set b (.it g (some g0) since (zbj.push en.born) since))=ids H:=zaq hr1 rfl;refine hst.step hin ?_ (λi q hi=>by rw[hids];exact (hst.slots i q hi).ge hge λ_ _ h=>h) (λd' h=>by cases h;exact hd) ?_
 ·rw[hids,<-zgs M b (.ro (.itr k v o p))];refine (hst.boxes.mono hge (zap hst.inn.out hin.out) λ_ _ h=>h).set ?_;simp only[BoxRep];obtain ⟨p',hpp,hr⟩:=hp;refine ⟨yAl _,g0,es,rfl,hDg,hge.map _ _ hDg _ _ hm,hstp,⟨p',hpp,hr.1,λi x e hx he=>?_⟩,λx hx=>?_⟩;·obtain ⟨q1,q2⟩:=hr.2 i x e hx he;exact ⟨q1.ge hge λ_ _ h=>h,q2.ge hge λ_ _ h=>h⟩
  ·cases hx;exact ⟨rfl,en,hen,⟨zbj,rfl⟩,hk.ge hge λ_ _ h=>h,hv.ge hge λ_ _ h=>h⟩
 ·simp only[Rep];exact ⟨[.bool true,en.key,en.val],rfl,by simp only[RepL,Rep];exact ⟨trivial,zbx (hk.ge hge λ_ _ h=>h),zbx (hv.ge hge λ_ _ h=>h),trivial⟩⟩
theorem zlr(hun:UniOk un){y rest:Code}(ih:∀x z,Code.seq y rest= .seq x z->zne P un tb orc inl an E D0 N z){ct:Cut}(hcut:(zc0 (.seq y rest)).bind an.loop.get=some ct){R:Type}{e:Env S}{bx:Bxs S}{K:Exit->Env S->Bxs S->Option R}{r:R}{i d d2 b:Nat}{k v:U}{l:List (El S k×El S v)}
  (hz:((zh2 an (.seq y rest)).bind λz=>(zkw e bx z.1).map λy=>(z,y))=some ((i,d,d2),b,⟨k,v,l⟩))
  (h:(match zcU un ct e (zag ct.boxes 0 (zau bx b (.ro (.itr k v none l)))) with
    |none=>none|some t0=>bif (zaG an (.seq y rest)).contains i||ct.names.contains i then none else zky (λy0 p t=>zfJ un tb orc inl an rest (ElL S ct.codes⊕R) (push (some d2) (.bool true) (push (some d) (.tup [.bool true,inj k y0.1,inj v y0.2]) (mkEnv ct (zaG an (.seq y rest)) e (zau bx b .gone).length t))) (zau (zag ct.boxes 0 (zcD ct (zau bx b .gone) t)) b (.ro (.itr k v (some y0) p))) λx e' bx'=>match x with
      | .normal=>(zcU un ct e' bx').map .inl|x=>(K x e' (unlock (zcD ct (zau bx b .gone) t).length (zag ct.boxes 0 (zcD ct (zau bx b .gone) t)) bx')).map .inr)
     (λt=>zfJ un tb orc inl an rest (ElL S ct.codes⊕R) (push (some d2) (.bool false) (push (some d) (.tup [.bool false]) (mkEnv ct (zaG an (.seq y rest)) e (zau bx b .gone).length t))) (zag ct.boxes 0 (zcD ct (zau bx b .gone) t)) λx e' bx'=>match x with
      | .normal=>none|x=>(K x e' (unlock (zcD ct (zau bx b .gone) t).length (zag ct.boxes 0 (zcD ct (zau bx b .gone) t)) bx')).map .inr) l t0)=some r)
  (hd:∀d∈zaT (.loop (.seq y rest)),d<N.n) {a:Act} {w:World} {Q:Exit->Act->World->Prop} (hs:Holds un E D0 N e bx a w)
  (hk:∀x e' bx',K x e' bx'=some r->Pres (zaG an (.loop (.seq y rest))) e e'->PresB bx bx'->∀a' w',Holds un E D0 N e' bx' a' w'->Q x a' w'):(Code.loop (.seq y rest)).wp P Q a w:=by
 obtain ⟨z,hz1,hz2⟩:=yBH.1 hz;obtain ⟨q,hq,hq2⟩:=zbV hz2;cases hq2;obtain ⟨id,ops,rest',o1,o2,hc,hops,n1,n2,n3,m1,m2,m3⟩:=ziN hz1;cases hc;obtain ⟨hli,hgb⟩:=zjR hq;clear hz hz1 hz2 hq;have htch:zaG an (.loop (.seq (.region id ops false) rest))=zaG an (.seq (.region id ops false) rest)++ct.names:=by simp only[zaG,hcut]
 have hdW:d∈zaG an (.seq (.region id ops false) rest):=by simp[zaG,hops,zbd,n2]
 have hd2W:d2∈zaG an (.seq (.region id ops false) rest):=by simp[zaG,hops,zbd,m2]
 have hrW:∀j,j∈zaG an rest->j∈zaG an (.seq (.region id ops false) rest):=λj hj=>by simp[zaG,hj]
 have hdn:d<N.n:=hd d (by simp[zaT,hops,n2]);have hd2n:d2<N.n:=hd d2 (by simp[zaT,hops,m2]);have hwr:∀x∈zaT rest,x<N.n:=λx hx=>hd x (by simp[zaT,hx]);generalize hWdef:zaG an (.seq (.region id ops false) rest)=W at h htch hdW hd2W hrW;have hg1:zae (zau bx b .gone) b=some .gone:=zbY hgb;have hgI:zae (zau bx b (.ro (.itr k v none l))) b=some (.ro (.itr k v none l)):=zbY hgb;have hoff:∀j,j≠b->zae (zau bx b .gone) j=zae (zau bx b (.ro (.itr k v none l))) j:=λj hj=>by rw[zai hj,zai hj]
 have hs1:=hs.hide b;have hsI:=hs.itr hgb;have hpb1:PresB bx (zau bx b .gone):=(PresB.refl bx).off (b:=b) (λc hc=>by rw[hgb] at hc;cases hc;exact ⟨rfl,λT cs h=>by cases h⟩) (by rw[zaA];exact yAl _) λj hj=>zai hj;split at h;·cases h
 rename_i t0 ht0;cases hcon:((List.contains W i||ct.names.contains i)) with
 |true=>rw[hcon] at h;cases h|false =>
 rw[hcon] at h;simp only[cond_false] at h;simp only[yBc] at hcon;have hiW:i∉W:=λhm=>by rw[yA8.2 hm] at hcon;cases hcon.1
 have hiN:i∉ct.names:=λhm=>by rw[yA8.2 hm] at hcon;cases hcon.2
 generalize hFdef:(λ(y0:El S k×El S v) (p:List (El S k×El S v)) (t:ElL S ct.codes)=>zfJ un tb orc inl an rest (ElL S ct.codes⊕R) (push (some d2) (.bool true) (push (some d) (.tup [.bool true,inj k y0.1,inj v y0.2]) (mkEnv ct W e (zau bx b .gone).length t))) (zau (zag ct.boxes 0 (zcD ct (zau bx b .gone) t)) b (.ro (.itr k v (some y0) p))) λx e' bx'=>match x with
      | .normal=>(zcU un ct e' bx').map .inl|x=>(K x e' (Pe.unlock (zcD ct (zau bx b .gone) t).length (zag ct.boxes 0 (zcD ct (zau bx b .gone) t)) bx')).map .inr)=F at h
 generalize hGdef:(λ(t:ElL S ct.codes)=>zfJ un tb orc inl an rest (ElL S ct.codes⊕R) (push (some d2) (.bool false) (push (some d) (.tup [.bool false]) (mkEnv ct W e (zau bx b .gone).length t))) (zag ct.boxes 0 (zcD ct (zau bx b .gone) t)) λx e' bx'=>match x with
      | .normal=>(none:Option (ElL S ct.codes⊕R))|x=>(K x e' (Pe.unlock (zcD ct (zau bx b .gone) t).length (zag ct.boxes 0 (zcD ct (zau bx b .gone) t)) bx')).map .inr)=G at h
 obtain ⟨hind,hruns⟩:=zjS h;clear h;have h0:=zd3 hun (W:=W) hs1 (hsI.lock ct.boxes) (λi p hi hp=>(zbn _ _ _ _ _ hp).2.2.1) (λj bj hj=>by
  by_cases hjb:j=b;·subst hjb;rw[hg1] at hj;cases hj;exact ⟨.ro (.itr k v none l),by rw[za8,hgI];rfl,rfl⟩
  ·exact zic (PresB.refl _) (by rw[<-hoff j hjb];exact hj)) (by rw[zbE,zaA,zaA];exact yAl _) ht0
 have hI0:=h0.2.2 b k v none l hg1 (by rw[za8,hgI];rfl);refine zeK (λ(x:List (El S k×El S v)×ElL S ct.codes) a w=>(∀q:List (El S k×El S v),q.Perm x.1->znv F G q x.2=some r)/\(∃o,Holds un E D0 N (mkEnv ct W e (zau bx b .gone).length x.2) (zau (zcD ct (zau bx b .gone) x.2) b (.ro (.itr k v o x.1))) a w)/\PresB (zau bx b .gone) (zcD ct (zau bx b .gone) x.2)) (λx=>x.1.length) (λx a1 w1 hI=>?_) (l,t0) a w ⟨hruns,⟨none,hI0⟩,h0.2.1⟩;obtain ⟨p,t⟩:=x;obtain ⟨hr,⟨o,hH⟩,hB⟩:=hI;simp only at hr hH hB;have hM:zae (zcD ct (zau bx b .gone) t) b=some .gone:=by obtain ⟨b',h1,h2⟩:=hB.box b _ hg1 rfl;cases b'<;>simp only[CPres] at h2;exact h1
 generalize hMd:zcD ct (zau bx b .gone) t=M at hH hB hM;have hlook:zan (mkEnv ct W e (zau bx b .gone).length t) i=some (.ptr b 0):=Pres.mkEnv ct W e _ t i _ (by simp only[yAm,not_or];exact ⟨hiW,hiN⟩) hli rfl;obtain ⟨D,H,hst,hDD⟩:=hH;have hvi:=hst.slots i _ hlook;simp only[Rep] at hvi;obtain ⟨gv,hgid,hvi⟩:=hvi;obtain ⟨r0,hr1,hr2⟩:=hst.boxes.get (zbY hM (b':= .ro (.itr k v o p)));cases r0<;>simp only[BoxRep] at hr2;rename_i g m since zbj c;simp only[ids,yAg,hr1,yAf,zaf,yAe,Prod.mk.injEq,true_and,Value.pointer.injEq,Addr.mk.injEq,and_true] at hgid;subst hgid;obtain ⟨hsc,g0,es,rfl,hDg,hm,hstp,⟨p',hpp,hents⟩,_⟩:=hr2;have hh:=hst.inn.res _ (yAb hr1)
 -- what a way out of the loop tells
 have out:∀(q:Exit)(e1:Env S)(bx1:Bxs S)(z:ElL S ct.codes⊕R),q≠ .normal->(K q e1 (Pe.unlock M.length (zag ct.boxes 0 M) bx1)).map Sum.inr=some z->(∀r',z= .inr r'->r'=r)->∀{es:Env S},Pres (zaG an rest) es e1->Pres (W++ct.names) e es->PresB (zag ct.boxes 0 M) (zau bx1 b .gone)->(zau bx1 b .gone).length=bx1.length->∀a' w',Holds un E D0 N e1 bx1 a' w'->Q q a' w':=by
  intro q e1 bx1 z _ hK hzr es hp1 hpe hb1 hl1 a' w' hH';obtain ⟨r',h5,h6⟩:=zbV hK;have:=hzr r' h6.symm;subst this;refine hk q e1 _ h5 ?_ ?_ a' w' (hH'.unlock _ _)
  ·rw[htch];exact (hpe.trans hp1).mono λj hj=>by
    simp only[yAm] at hj ⊢;rcases hj with (hj|hj)|hj;·exact .inl hj
    ·exact .inr hj
    ·exact .inl (hrW j hj)
  ·have h8:PresB bx (Pe.unlock M.length (zag ct.boxes 0 M) (zau bx1 b .gone)):=(hpb1.trans hB).trans hb1.unlock;refine h8.off (b:=b) (λc hc=>by rw[hgb] at hc;cases hc;exact ⟨rfl,λT cs h=>by cases h⟩) (by rw[zcz,zcz,hl1];exact yAl _) λj hj=>zfR hl1.symm ?_;rw[zai hj]
 have hpe:∀(x y:PV S),Pres (W++ct.names) e (push (some d2) x (push (some d) y (mkEnv ct W e (zau bx b .gone).length t))):=λx y=>by
  refine ((Pres.mkEnv ct W e (zau bx b .gone).length t).trans ((Pres.push [] _ (some d) y).trans (Pres.push [] _ (some d2) x))).mono λj hj=>?_;simp only[yAm,Option.mem_toList,Option.mem_def,yAe] at hj ⊢;rcases hj with hj|hj|hj;·exact hj
  ·subst hj;exact .inl hdW
  ·subst hj;exact .inl hd2W
 refine wp_seq (wp_region_list ?_);rw[hops];refine wpList_plain n3 λK1 hK1=>?_;rcases run_next_at (P:=P) w1 o1.type g g0 since c zbj es since hh.2 hm hstp.1 hsc with ⟨hzero,hrun⟩|⟨en,hen,w2,hw2,hrun⟩
 ·-- nothing is left
  have hex:(execOp a1.eval o1).run P w1= .ok (.value (.tuple #[.bool false])) w1:=by have:a1.eval (.tmp i)= .pointer (some ⟨g,0,none⟩):=hvi;simp[execOp,n1,this,hrun]
  unfold Oper.wp;rw[hex];refine hK1 _ _ ?_;refine wpList_plain m3 λK2 hK2=>?_;have hex2:(execOp (a1.put o1.dst (.tuple #[.bool false])).eval o2).run P w1= .ok (.value (.bool false)) w1:=by have:(a1.put (some d) (.tuple #[.bool false])).eval (.tmp d)= .tuple #[.bool false]:=zk1 (by rw[hst.size];exact hdn) _;simp[execOp,m1,n2,this,Instr.extract]
  unfold Oper.wp;rw[hex2];refine hK2 _ _ (wpList_nil ?_);rw[n2,m2];have hp0:p=[]:=by have h1:p'.length=0:=(by rw[hents.1];simpa using hzero);have h2:=hpp.length_eq;exact yAL.1 (by omega)
  have hr0:=hr [] (by rw[hp0]);simp only[znv] at hr0;split at hr0
  ·rename_i r' hG;cases hr0;have hH0:Holds un E D0 N (mkEnv ct W e (zau bx b .gone).length t) M a1 w1:=by
    have:=Holds.hide (b:=b) ⟨D,H,hst,hDD⟩;rwa[zgs,zdV hM] at this
   have hH1:Holds un E D0 N (push (some d2) (.bool false) (push (some d) (.tup [.bool false]) (mkEnv ct W e (zau bx b .gone).length t))) (zag ct.boxes 0 M) ((a1.put (some d) (.tuple #[.bool false])).put (some d2) (.bool false)) w1 :=
    ((hH0.put hdn (λnu D=>by simp only[Rep];exact ⟨[.bool false],rfl,by simp[RepL,Rep]⟩)).put hd2n (λnu D=>by simp only[Rep])).lock ct.boxes
   rw[<-hGdef] at hG;simp only[hMd] at hG;have hgone:∀{bx2:Bxs S},PresB (zag ct.boxes 0 M) bx2->zau bx2 b .gone=bx2:=λ{bx2} hb=>by obtain ⟨b',h1,h2⟩:=hb.box b .gone (by rw[za8,hM];rfl) rfl;cases b'<;>simp only[CPres] at h2;exact zdV h1
   refine ih _ _ rfl _ _ _ _ _ hG hwr hH1 λq e1 bx2 h3 hp1 hb1 a2 w3 h4=>?_
   cases q<;>first
    |(cases h3;done)
    |exact out _ _ _ _ (by simp) h3 (λr' h=>by cases h;rfl) hp1 (hpe _ _) (by rw[hgone hb1];exact hb1) (zaA _ _ _) _ _ h4
  ·cases hr0
 ·-- an entry
  obtain ⟨hem,_⟩:=mem_left hen;obtain ⟨j,hj⟩:=yAj hen;obtain ⟨y0,hy0⟩:∃y0,p'[j]?=some y0:=⟨_,yAh (by rw[hents.1];exact (yAc.1 hj).1)⟩;obtain ⟨hk0,hv0⟩:=hents.2 j y0 en hy0 hj;have hjl:=(yAc.1 hy0).1;have hperm:(y0::p'.eraseIdx j).Perm p:=by exact (zhK hy0).trans hpp
  have hst2:St un E N D H (mkEnv ct W e (zau bx b .gone).length t) (zau M b (.ro (.itr k v o p))) a1 w2/\w2.heap[g0]?=some (.map es since)/\(∀k0 v0 (p0:List (El S k0×El S v0)) es0,zfQ un D w1 k0 v0 p0 es0->zfQ un D w2 k0 v0 p0 es0)/\(∀(u:U)(x:El S u) val,Rep un [] D w1 (inj u x) val->Rep un [] D w2 (inj u x) val)/\Ge D w1 D w2:=by
   have gg:∀n,Ge D w1 D { w1 with drawn:=n }:=λn=>⟨λ_ _ h=>h,λ_ _ _=>rfl,λ_ _ _ _ _ h=>h⟩;rcases hw2 with rfl|rfl;·exact ⟨hst,hm,λ_ _ _ _ h=>h,λ_ _ _ h=>h,Ge.refl _ _⟩
   ·exact ⟨hst.draw _,hm,λ_ _ _ _ h=>⟨h.1,λi x e hx he=>⟨(h.2 i x e hx he).1.ge (gg _) λ_ _ h=>h,(h.2 i x e hx he).2.ge (gg _) λ_ _ h=>h⟩⟩,λ_ _ _ h=>h.ge (gg _) λ_ _ h=>h,gg _⟩
  obtain ⟨hst2,hm2,hE2,hR2,hge2⟩:=hst2;have hents2:=hE2 _ _ _ _ (zlH hents j);rw[<-zmE hstp.2 hj] at hents2;have hst3:=zo6 (p2:=p'.eraseIdx j) (y0:=y0) hst2 hM hr1 hDg hm2 hstp hem ⟨_,.refl _,hents2⟩ (hR2 _ _ _ hk0) (hR2 _ _ _ hv0) hdn;have hge3:Ge D w2 D (ChangeMaps.setBlock w2 g (.mapIter (some g0) since (zbj.push en.born) since)):=by have hh2:=hst2.inn.res _ (yAb hr1);refine .of (λ_ _ h=>h) λk o hk=>?_;show (w2.heap.setIfInBounds g _)[k]?=_;rw[yAJ,if_neg (λh:g=k=>hst2.inn.apart _ (yAb hr1) k h o trivial hk)]
  have hex:(execOp a1.eval o1).run P w1= .ok (.value (.tuple #[.bool true,en.key,en.val])) (ChangeMaps.setBlock w2 g (.mapIter (some g0) since (zbj.push en.born) since)):=by have:a1.eval (.tmp i)= .pointer (some ⟨g,0,none⟩):=hvi;simp[execOp,n1,this,hrun]
  unfold Oper.wp;rw[hex];refine hK1 _ _ ?_;refine wpList_plain m3 λK2 hK2=>?_;have hex2:(execOp (a1.put o1.dst (.tuple #[.bool true,en.key,en.val])).eval o2).run P (ChangeMaps.setBlock w2 g (.mapIter (some g0) since (zbj.push en.born) since))= .ok (.value (.bool true)) (ChangeMaps.setBlock w2 g (.mapIter (some g0) since (zbj.push en.born) since)):=by have:(a1.put (some d) (.tuple #[.bool true,en.key,en.val])).eval (.tmp d)= .tuple #[.bool true,en.key,en.val]:=zk1 (by rw[hst.size];exact hdn) _;simp[execOp,m1,n2,this,Instr.extract]
  unfold Oper.wp;rw[hex2];refine hK2 _ _ (wpList_nil ?_);rw[n2,m2];have hH1:Holds un E D0 N (push (some d2) (.bool true) (push (some d) (.tup [.bool true,inj k y0.1,inj v y0.2]) (mkEnv ct W e (zau bx b .gone).length t))) (zau (zag ct.boxes 0 M) b (.ro (.itr k v (some y0) (p'.eraseIdx j)))) ((a1.put (some d) (.tuple #[.bool true,en.key,en.val])).put (some d2) (.bool true)) (ChangeMaps.setBlock w2 g (.mapIter (some g0) since (zbj.push en.born) since)):=by rw[<-zkK];exact (Holds.put ⟨D,_,hst3,hDD.1,hDD.2.trans (hge2.trans hge3)⟩ hd2n (λnu D=>by simp only[Rep])).lock ct.boxes
  have hr0:=hr _ hperm;simp only[znv] at hr0;have hbox:∀{bx2:Bxs S},PresB (zau (zag ct.boxes 0 M) b (.ro (.itr k v (some y0) (p'.eraseIdx j)))) bx2->zae bx2 b=some (.ro (.itr k v (some y0) (p'.eraseIdx j)))/\PresB (zag ct.boxes 0 M) (zau bx2 b .gone):=λ{bx2} hb=>by
   have hlb:zae (zag ct.boxes 0 M) b=some .gone:=(by rw[za8,hM];rfl);obtain ⟨b',h1,h2⟩:=hb.box b _ (zbY hlb) rfl;obtain ⟨x,rfl,h3⟩:=h2.of_ro;have hx:x= .itr k v (some y0) (p'.eraseIdx j):=by cases x<;>simp only[CPres] at h3;exact h3
   subst hx;refine ⟨h1,by rw[zaA];have:=hb.len;rwa[zaA] at this,λi c hi hf=>?_,λi T cs hi=>?_⟩
   ·by_cases hib:i=b;·subst hib;rw[hlb] at hi;cases hi;exact ⟨.gone,zbY h1,trivial⟩
    ·rw[zai hib];exact hb.box i c (by rw[zai hib];exact hi) hf
   ·by_cases hib:i=b;·subst hib;rw[hlb] at hi;cases hi
    ·rw[zai hib];exact hb.var i T cs (by rw[zai hib];exact hi)
  have hFe:∀z,F y0 (p'.eraseIdx j) t=some z->(∀t',z= .inl t'->∀q:List (El S k×El S v),q.Perm (p'.eraseIdx j)->znv F G q t'=some r)/\(∀r',z= .inr r'->r'=r):=λz hz=>by
   refine ⟨λt' ht q hq=>?_,λr' ht=>?_⟩;·have:=hr (y0::q) ((hq.cons _).trans hperm);simp only[znv] at this;rw[hind y0 q (p'.eraseIdx j) t,hz,ht] at this;exact this
   ·rw[hz,ht] at hr0;simp only[yAe] at hr0;exact hr0
  cases hz:F y0 (p'.eraseIdx j) t with
  |none=>rw[hz] at hr0;cases hr0|some z =>
  obtain ⟨hinl,hinr⟩:=hFe z hz;rw[<-hFdef] at hz;simp only[hMd] at hz;refine ih _ _ rfl _ _ _ _ _ hz hwr hH1 λq e1 bx2 h3 hp1 hb1 a2 w3 h4=>?_;obtain ⟨hb2,hb3⟩:=hbox hb1
  cases q<;>first
   |exact out _ _ _ _ (by simp) h3 hinr hp1 (hpe _ _) hb3 (zaA _ _ _) _ _ h4
   | (obtain ⟨t',h5,h6⟩:=zbV h3
      subst h6;have hcut2:=zd3 hun (W:=W) hs1 h4 (λi p hi hp=>by
       obtain ⟨_,q2,q3,q4⟩:=zbn _ _ _ _ _ hp;simp only[yAm,not_or] at q2;refine hp1 i p (λhm=>q2.2 (hrW i hm)) ?_ q4;have hne:d2≠i:=λhe=>q2.2 (he▸hd2W);have hne1:d≠i:=λhe=>q2.2 (he▸hdW);rw[zaC (by simpa using hne),zaC (by simpa using hne1)];unfold mkEnv;rw[zhU q2.1,zhS _ _ _ _ hi];exact hp) (λi bi hi=>by
       by_cases hib:i=b;·subst hib;rw[hg1] at hi;cases hi;exact ⟨_,hb2,rfl⟩
       ·refine Kept.congr (zai hib).symm (zjf (t:=t) (by rw[hMd];exact hB) (by rw[hMd];exact hb3) hi)) (by
       have h8:=hb3.len;rw[zbE,zaA] at h8;exact yAG hB.len h8) h5
      refine ⟨(p'.eraseIdx j,t'),⟨hinl t' rfl,⟨some y0,hcut2.2.2 b k v (some y0) _ hg1 hb2⟩,hcut2.2.1⟩,?_⟩;have h9:=hperm.length_eq;simp only[yAA] at h9;show (p'.eraseIdx j).length<p.length;omega)
theorem zn0(hmix:P.follows .mixedOrders=true)(hun:UniOk un)(ht:TbOk P un tb)(hor:SoundO P un orc)(hin:SoundI P un inl):∀(c:Code),zne P un tb orc inl an E D0 N c/\∀x y,c= .seq x y->zne P un tb orc inl an E D0 N y:=by
 intro c;induction c with
 |skip=>refine ⟨λR e bx K r h _ a w Q hs hk=>wp_skip (hk _ _ _ h (Pres.refl _ _) (PresB.refl _) a w hs),λx y h=>by cases h⟩|ret=>refine ⟨λR e bx K r h _ a w Q hs hk=>wp_ret (hk _ _ _ h (Pres.refl _ _) (PresB.refl _) a w hs),λx y h=>by cases h⟩|exit i=>refine ⟨λR e bx K r h _ a w Q hs hk=>wp_exit (hk _ _ _ h (Pres.refl _ _) (PresB.refl _) a w hs),λx y h=>by cases h⟩|region id ops draw =>
   refine ⟨?_,λx y h=>by cases h⟩;intro R e bx K r h hd a w Q hs hk;have hd':∀o∈ops.toList,∀d,o.dst=some d->d<N.n:=λo ho d hdd=>hd d (by simp only[zaT,yA6];exact ⟨o,ho,hdd⟩);cases draw with
   |false =>
     simp only[zfJ] at h;cases hdup:an.dup.any (Nat.beq id) with
     |true =>rw[hdup] at h;simp only[cond_true] at h;have:=zn1 (Q:=Q) hun ht hor hin _ _ _ _ _ _ h (λd v hv=>by simp[zc2] at hv) hd' hs (λe' bx' h1 h2 h3 a' w' h4=>hk .normal e' bx' h1 (by simpa only[zaG] using h2) h3 a' w' h4) λx e' bx' h1 h2 h3 a' w' h4=>hk x e' bx' h1 (by simpa only[zaG] using h2) h3 a' w' h4;have h5:=wp_region_lit (id:=id) (by simpa using this);simpa using h5
     |false =>
     rw[hdup] at h;simp only[cond_false] at h;have:=zk0 (Q:=Q) hun ht hor hin _ _ _ _ _ h hd' hs (λe' bx' h1 h2 h3 a' w' h4=>hk .normal e' bx' h1 (by simpa only[zaG] using h2) h3 a' w' h4) λx e' bx' h1 h2 h3 a' w' h4=>hk x e' bx' h1 (by simpa only[zaG] using h2) h3 a' w' h4;have h5:=wp_region_lit (id:=id) (by simpa using this);simpa using h5
   |true =>
     simp only[zfJ] at h;cases hpar:zmy an.par id with
     |some fps =>rw[hpar] at h;simp only at h;obtain ⟨h1,h2⟩:=zac h;simp only[yAd] at h1;exact zpD hmix hun ht hor hin h1.1 h1.2 h2 hd' (hs.draw _) λx e' bx' h1 h2 h3 a' w' h4=>hk x e' bx' h1 (by simpa only[zaG] using h2) h3 a' w' h4
     |none =>
     rw[hpar] at h;simp only at h;cases htl:zmy an.tail id with
     |some m =>
       rw[htl] at h;simp only at h;obtain ⟨h1,h2⟩:=zac h;simp only[yAd] at h1;obtain ⟨e',e'',g1,g2,g3,g4⟩:=zfI hun ht hor hin _ _ _ _ _ _ _ h2 (λd v hv=>by simp[zc2] at hv);have hpre:∀(i:Nat) p,i∉zbd ops.toList->zan e i=some p->p.rowless=true->zan e' i=some p:=λi p hi hp _=>by
        rw[g4 i λhm=>hi ?_];·exact hp
        ·obtain ⟨j,o,hj,hd⟩:=zbB.1 hm;rw[yAw] at hj;split at hj;·exact zbB.2 ⟨j,o,hj,hd⟩
         ·cases hj
       have hdrop:∀i,i∈zbd (ops.toList.drop m)->i∈zbd ops.toList:=λi hm=>by obtain ⟨j,o,hj,hd⟩:=zbB.1 hm;rw[yAt] at hj;exact zbB.2 ⟨_,o,hj,hd⟩
       have hpp:∀{e2:Env S},Pres (zbd (ops.toList.drop m)) e' e2->Pres (zbd ops.toList) e e2:=λ{e2} h i p hi hp hr=>h i p (λhm=>hi (hdrop i hm)) (hpre i p hi hp hr) hr;refine zlY hmix h1.2 h1.1 g2 hd' (hs.draw _) λa' w' h4=>?_;have:=zk0 (Q:=Q) hun ht hor hin _ _ _ _ _ g1 (λo ho=>hd' o (List.mem_of_mem_drop ho)) (h4.sub g3) (λe2 bx' h1 h2 h3 a' w' h4=>hk .normal e2 bx' h1 (by simpa only[zaG] using hpp h2) h3 a' w' h4) λx e2 bx' h1 h2 h3 a' w' h4=>hk x e2 bx' h1 (by simpa only[zaG] using hpp h2) h3 a' w' h4;simpa using this
     |none =>
     rw[htl] at h;simp only at h;obtain ⟨h1,h2⟩:=zac h;obtain ⟨e',e'',g1,g2,g3,g4⟩:=zfI hun ht hor hin _ _ _ _ _ _ _ h2 (λd v hv=>by simp[zc2] at hv);refine zqu hmix h1 g2 hd' (hs.draw _) λa' w' h4=>hk .normal e' bx g1 (λi p hi hp _=>?_) (PresB.refl _) a' w' (h4.sub g3);rw[g4 i (by simpa only[zaG] using hi)];exact hp
 |seq x y ihx ihy =>
   refine ⟨?_,λx' y' h=>by cases h;exact ihy.1⟩;intro R e bx K r h hd a w Q hs hk;have hdx:∀d∈zaT x,d<N.n:=λd hdd=>hd d (by simp[zaT,hdd]);have hdy:∀d∈zaT y,d<N.n:=λd hdd=>hd d (by simp[zaT,hdd]);unfold zfJ at h;cases hcut:(zc0 y).bind an.cut.get with
   |none =>
     rw[hcut] at h;simp only at h;refine wp_seq (ihx.1 _ _ _ _ _ h hdx hs λq e1 bx1 h1 hp1 hb1 a1 w1 h2=>?_);have hmono:∀i∈zaG an x,i∈zaG an (.seq x y):=λi hi=>by simp[zaG,hi]
     cases q<;>first
      |exact hk _ _ _ h1 (hp1.mono hmono) hb1 _ _ h2
      |exact ihy.1 _ _ _ _ _ h1 hdy h2 λq e2 bx2 h3 hp2 hb2 a2 w2 h4=>hk q e2 bx2 h3 ((hp1.trans hp2).mono λi hi=>by simp only[zaG,yAm] at hi ⊢;exact .inl hi) (hb1.trans hb2) a2 w2 h4
   |some c =>
     rw[hcut] at h;simp only at h;obtain ⟨z,h1,h2⟩:=zmV h;refine wp_seq (ihx.1 _ _ _ _ _ h1 hdx (hs.lock c.boxes) λq e1 bx1 h3 hp1 hb1 a1 w1 h4=>?_);have abn:∀q,(K q e1 (unlock bx.length (zag c.boxes 0 bx) bx1)).map .inr=some z->Q q a1 w1:=by
      intro q h3;obtain ⟨r',h5,h6⟩:=zbV h3;subst h6;rcases h2 with ⟨t,h2,_⟩|h2;·cases h2
      ·cases h2;exact hk q e1 _ h5 (hp1.mono λi hi=>by simp[zaG,hi]) hb1.unlock a1 w1 (h4.unlock _ _)
     cases q<;>first
      |exact abn _ h3
      | (obtain ⟨t,h5,h6⟩:=zbV h3
         subst h6;rcases h2 with ⟨t',h2,h7⟩|h2
         ·cases h2;obtain ⟨g1,g2,_⟩:=zd3 hun (W:=zaG an x) hs h4 (λi p hi hp=>by
           obtain ⟨_,m2,m3,m4⟩:=zbn _ _ _ _ _ hp;exact hp1 i p (λhm=>m2 (yBQ _ hm)) m3 m4) (λi b hi=>zic hb1 hi) (by have:=hb1.len;rw[zbE] at this;exact this) h5
          exact ihy.1 _ _ _ _ _ h7 hdy g1 λq e2 bx2 h8 hp2 hb2 a2 w2 h9=>hk q e2 bx2 h8 (((Pres.mkEnv c (zaG an x) e bx.length t).trans hp2).mono λi hi=>by simp only[zaG,hcut,yAm] at hi ⊢;rcases hi with (hi|hi)|hi<;>simp[hi]) (g2.trans hb2) a2 w2 h9
         ·cases h2)
 |cond o x y ihx ihy =>
   refine ⟨?_,λx y h=>by cases h⟩;intro R e bx K r h hd a w Q hs hk;simp only[zfJ] at h;split at h
   ·rename_i b hb;have hev:a.eval o= .bool b:=by
     obtain ⟨D,H,hs,_⟩:=hs;have:=hs.ev hb;simpa only[Rep] using this
    refine wp_cond_split hev (λhb=>?_) (λhb=>?_);·subst hb;exact ihx.1 _ _ _ _ _ h (λd hdd=>hd d (by simp[zaT,hdd])) hs λq e1 bx1 h1 hp1 hb1 a1 w1 h2=>hk q e1 bx1 h1 (hp1.mono λi hi=>by simp[zaG,hi]) hb1 a1 w1 h2
    ·subst hb;exact ihy.1 _ _ _ _ _ h (λd hdd=>hd d (by simp[zaT,hdd])) hs λq e1 bx1 h1 hp1 hb1 a1 w1 h2=>hk q e1 bx1 h1 (hp1.mono λi hi=>by simp[zaG,hi]) hb1 a1 w1 h2
   ·cases h
 |block i c ih =>
   refine ⟨?_,λx y h=>by cases h⟩;intro R e bx K r h hd a w Q hs hk;simp only[zfJ] at h;refine wp_block (ih.1 _ _ _ _ _ h (λd hdd=>hd d (by simpa[zaT] using hdd)) hs λq e1 bx1 h1 hp1 hb1 a1 w1 h2=>?_);have hp:Pres (zaG an (.block i c)) e e1:=hp1.mono λi hi=>by simpa[zaG] using hi
   cases q with
   |exit j =>
     simp only at h1;cases hij:Nat.beq i j with
     |true =>rw[hij] at h1;have:=yAa hij;subst this;simp only[Exit.inBlock,if_true];exact hk .normal e1 bx1 h1 hp hb1 a1 w1 h2
     |false =>
       rw[hij] at h1;have hne:¬j=i:=λhe=>by subst he;simp at hij
       simp only[Exit.inBlock,hne,if_false];exact hk (.exit j) e1 bx1 h1 hp hb1 a1 w1 h2
   |normal=>exact hk .normal e1 bx1 h1 hp hb1 a1 w1 h2|goto l=>exact hk (.goto l) e1 bx1 h1 hp hb1 a1 w1 h2|ret=>exact hk .ret e1 bx1 h1 hp hb1 a1 w1 h2|panic ch=>exact hk (.panic ch) e1 bx1 h1 hp hb1 a1 w1 h2|outgrown=>exact hk .outgrown e1 bx1 h1 hp hb1 a1 w1 h2
 |loop c ih =>
   refine ⟨?_,λx y h=>by cases h⟩;intro R e bx K r h hd a w Q hs hk;unfold zfJ at h;cases hcut:(zc0 c).bind an.loop.get with
   |none=>rw[hcut] at h;cases h|some ct =>
     rw[hcut] at h;simp only at h;split at h
     ·rename_i i d d2 b k v l hz;split at h;·rename_i y rest;exact zlr hun ih.2 hcut hz h hd hs hk
      ·cases h
     split at h;·cases h
     ·rename_i t0 ht0;obtain ⟨n,hn⟩:=zfz h;have hdc:∀d∈zaT c,d<N.n:=λd hdd=>hd d (by simpa[zaT] using hdd);have htch:∀i∈zaG an c++ct.names,i∈zaG an (.loop c):=λi hi=>by simpa[zaG,hcut] using hi
      have h00:Holds un E D0 N (mkEnv ct (zaG an c) e bx.length t0) (zcD ct bx t0) a w/\PresB bx (zcD ct bx t0):=(by have hc3:=zd3 hun (W:=zaG an c) hs (hs.lock ct.boxes) (λi p hi hp=>(zbn _ _ _ _ _ hp).2.2.1) (λi b hi=>zic (PresB.refl _) hi) (by rw[zbE];exact yAl _) ht0;exact ⟨hc3.1,hc3.2.1⟩);refine zeK (λ(x:Nat×ElL S ct.codes) a w=>zhe (λt=>zfJ un tb orc inl an c (ElL S ct.codes⊕R) (mkEnv ct (zaG an c) e bx.length t) (zag ct.boxes 0 (zcD ct bx t)) λx e' bx'=>match x with
       | .normal=>(zcU un ct e' bx').map .inl|x=>(K x e' (unlock (zcD ct bx t).length (zag ct.boxes 0 (zcD ct bx t)) bx')).map .inr) x.1 x.2=some r/\Holds un E D0 N (mkEnv ct (zaG an c) e bx.length x.2) (zcD ct bx x.2) a w/\PresB bx (zcD ct bx x.2)) (λx=>x.1) (λx a1 w1 hI=>?_) (n,t0) a w ⟨hn,h00⟩
      obtain ⟨k,t⟩:=x;obtain ⟨hit,hH,hB⟩:=hI;cases k with
      |zero=>simp[zhe] at hit|succ k =>
        simp only[zhe] at hit;split at hit
        ·rename_i y hy;refine ih.1 _ _ _ _ _ hy hdc (hH.lock ct.boxes) λq e1 bx1 h3 hp1 hb1 a2 w2 h4=>?_;have abn:∀q,(K q e1 (unlock (zcD ct bx t).length (zag ct.boxes 0 (zcD ct bx t)) bx1)).map Sum.inr=some (Sum.inl y)->False:=λq h=>by
          obtain ⟨_,_,h6⟩:=zbV h;cases h6
         cases q<;>first
          |exact (abn _ h3).elim
          | (obtain ⟨t',h5,h6⟩:=zbV h3
             cases h6;have:=zd3 hun (W:=zaG an c) hs h4 (λi p hi hp=>by obtain ⟨_,m2,m3,m4⟩:=zbn _ _ _ _ _ hp;simp only[yAm,not_or] at m2;refine hp1 i p m2.2 ?_ m4;unfold mkEnv;rw[zhU m2.1,zhS _ _ _ _ hi];exact hp) (λi b hi=>zjf hB hb1 hi) (by have h8:=hb1.len;rw[zbE] at h8;exact yAG hB.len h8) h5;exact ⟨(k,_),⟨hit,this.1,this.2.1⟩,Nat.lt_succ_self _⟩)
        ·rename_i r' hy;cases hit;refine ih.1 _ _ _ _ _ hy hdc (hH.lock ct.boxes) λq e1 bx1 h3 hp1 hb1 a2 w2 h4=>?_;have abn:∀q,(K q e1 (unlock (zcD ct bx t).length (zag ct.boxes 0 (zcD ct bx t)) bx1)).map (Sum.inr:R->ElL S ct.codes⊕R)=some (Sum.inr r)->Q q a2 w2:=λq h=>by
          obtain ⟨r2,h5,h6⟩:=zbV (r:=Sum.inr r) h;cases h6;exact hk q e1 _ h5 (((Pres.mkEnv ct (zaG an c) e bx.length t).trans hp1).mono λi hi=>htch i (by simp only[yAm] at hi ⊢;rcases hi with (hi|hi)|hi<;>simp[hi])) (hB.trans hb1.unlock) a2 w2 (h4.unlock _ _)
         cases q<;>first
          |exact abn _ h3
          |(exfalso;obtain ⟨_,_,h6⟩:=zbV (r:=Sum.inr _) h3;cases h6)
        ·cases hit
 |_=>refine ⟨λR e bx K r h=>by simp[zfJ] at h,λx y h=>by cases h⟩
theorem zke(hmix:P.follows .mixedOrders=true)(hun:UniOk un)(ht:TbOk P un tb)(hor:SoundO P un orc)(hin:SoundI P un inl):∀(c:Code)(R:Type)(e:Env S)(bx:Bxs S)(K:Exit->Env S->Bxs S->Option R)(r:R),zfJ un tb orc inl an c R e bx K=some r->(∀d∈zaT c,d<N.n) ->
  ∀{a:Act}{w:World}{Q:Exit->Act->World->Prop},Holds un E D0 N e bx a w->(∀x e' bx',K x e' bx'=some r->Pres (zaG an c) e e'->PresB bx bx'->∀a' w',Holds un E D0 N e' bx' a' w'->Q x a' w')->c.wp P Q a w:=λc=>(zn0 hmix hun ht hor hin c).1
end
end Pe
end
section
/- Functions. -/
namespace Pe
open Go Go.RowKit
variable{S:Nat->Type}
section
variable{P:Program}{un:Uni S}{tb:Tb S}{orc:Orc S}{inl:Inl S}{an:Ann}{E:Wl.Ctx}{D:Dat}{H:List Wl.Res}{N:Wl.Fr}{e:Env S}{bx:Bxs S}{a:Act}{w:World}
theorem zlO{u:U}{us:List U}{p:PV S}{ps:List (PV S)}{t:ElL S (u::us)}(h:zf8 un bx (u::us) (p::ps)=some t):∃x t',Pe.cast un u (fzU bx u p)=some x/\zf8 un bx us ps=some t'/\t=(x,t'):=by
 unfold zf8 at h;split at h;·rename_i x t' h1 h2;cases h;exact ⟨x,t',h1,h2,rfl⟩
 ·cases h
theorem St.fzU(hun:UniOk un)(h:St un E N D H e bx a w){u:U}{p:PV S}{v:Value}(hr:Rep un (ids H) D w p v):Rep un (ids H) D w (Pe.fzU bx u p) v:=by
 unfold Pe.fzU;split;·exact hr
 ·exact h.fz hun hr
theorem zjB(hun:UniOk un)(hs:St un E N D H e bx a w){nu':Nu}:∀{us:List U}{ps:List (PV S)}{t:ElL S us}{vs:List Value},zf8 un bx us ps=some t->RepL un (ids H) D w ps vs->RepL un nu' D w (zcp us t) vs
 |[],[],t,[],_,_=>by simp[zcp,RepL]
 |u::us,p::ps,t,v::vs,hc,hr=>by obtain ⟨x,t',h1,h2,rfl⟩:=zlO hc;simp only[RepL,zcp] at hr ⊢;exact ⟨zbx (zbm hun h1 (hs.fzU hun hr.1)).2,zjB hun hs h2 hr.2⟩
 |[],_::_,_,_,hc,_=>by simp[zf8] at hc
 |_::_,[],_,_,hc,_=>by simp[zf8] at hc
 |[],[],_,_::_,_,hr=>by simp[RepL] at hr
 |_::_,_::_,_,[],_,hr=>by simp[RepL] at hr
def zpq(tmps:Array Value):ResultVar->Sem Value| .tmp t=>pure (tmps.getD t undef)| .cell b T=>do loadVar T (<-asAddr (tmps.getD b undef))
theorem zhs(fn:Func)(tmps:Array Value):results fn tmps=(do let vs <-fn.results.toList.mapM (zpq tmps);pure (if hh:vs.toArray.size=1 then vs.toArray[0] else .tuple vs.toArray)):=by
 have:(λx:ResultVar=>match x with
  | .tmp t=>pure (tmps.getD t undef)| .cell a t=>do loadVar t (<-asAddr (tmps.getD a undef)))=zpq tmps:=by funext x;cases x<;>rfl
 unfold results;rw[Array.mapM_eq_mapM_toList];simp only[map_eq_pure_bind,bind_assoc,pure_bind];exact congrArg (λf=>fn.results.toList.mapM f >>= λvs=>pure (if hh:vs.toArray.size=1 then vs.toArray[0] else .tuple vs.toArray)) this
theorem zeQ(hun:UniOk un)(ht:TbOk P un tb)(hs:St un E N D H e bx a w):∀{rvs:List ResultVar}{ps:List (PV S)},zfq un tb e bx rvs=some ps ->
  ∃vs:List Value,(rvs.mapM (zpq a.tmps)).run P w= .ok vs w/\RepL un (ids H) D w ps vs
 |[],ps,h=>by simp[zfq] at h;subst h;exact ⟨[],by simp,by simp[RepL]⟩
 | .tmp t::r,ps,h=>by
   unfold zfq at h;split at h;·rename_i p l h1 h2;cases h;obtain ⟨vs,g1,g2⟩:=zeQ hun ht hs h2;exact ⟨a.tmps.getD t undef::vs,by simp only[List.mapM_cons,zpq,pure_bind,Sem.run_bind,g1,Result.andThen];rfl,by simp only[RepL];exact ⟨hs.slots t p h1,g2⟩⟩
   ·cases h
 | .cell b T::r,ps,h=>by
   unfold zfq at h;split at h
   ·rename_i q l h1 h2;split at h
    ·rename_i p h3;cases h;obtain ⟨vs,g1,g2⟩:=zeQ hun ht hs h2;obtain ⟨u,g3,g4⟩:=zkL hun ht hs h3 (hs.slots b q h1);refine ⟨u::vs,?_,by simp only[RepL];exact ⟨g4,g2⟩⟩;have g5:(zpq a.tmps (.cell b T)).run P w= .ok u w:=by
      simp only[zpq];unfold Instr.loadAt at g3;generalize a.tmps.getD b undef=vv at g3 ⊢;cases vv with
      |pointer ad =>
        cases ad with
        |some ad=>simpa[asAddr,Instr.sureAddr] using g3|none=>simp[Instr.sureAddr,stuck,Sem.run_bind] at g3
      |_=>simp[Instr.sureAddr,stuck,Sem.run_bind] at g3
     simp only[List.mapM_cons,Sem.run_bind,g5,Result.andThen,g1];rfl
    ·cases h
   ·cases h
theorem zma{nu:Nu}{ps:List (PV S)}{vs:List Value}(h:RepL un nu D w ps vs):Rep un nu D w (zfx ps) (if hh:vs.toArray.size=1 then vs.toArray[0] else .tuple vs.toArray):=by
 match ps,vs,h with
 |[],[],_=>simp[zfx,Rep,RepL]|[p],[v],h=>simpa[zfx,RepL] using h|p::q::ps,v::x::vs,h=>simp only[zfx,Rep];exact ⟨_,by simp,h⟩|[],_::_,h=>simp[RepL] at h|_::_,[],h=>simp[RepL] at h|[_],_::_::_,h=>simp[RepL] at h|_::_::_,[_],h=>simp[RepL] at h
theorem zhg(hun:UniOk un)(ht:TbOk P un tb)(hs:St un E N D H e bx a w){fn:Func}{ps:List (PV S)}(h:zfq un tb e bx fn.results.toList=some ps) :
  ∃v D' H' vs,(results fn a.tmps).run P w= .ok v w/\v=(if hh:vs.toArray.size=1 then vs.toArray[0] else .tuple vs.toArray)/\St un E N D' H' e (zak (zdI ps) bx) a w/\ids H'=ids H/\Ge D w D' w/\(∀k o,D' k o->D k o\/E.may k)/\RepL un (ids H') D' w ps vs:=by
 obtain ⟨vs,h1,h2⟩:=zeQ hun ht hs h;obtain ⟨D',H',k1,k2,k3,k4⟩:=hs.freeze (zdI ps);refine ⟨_,D',H',vs,?_,rfl,k1,k2,k3,k4,?_⟩;·rw[zhs];simp only[Sem.run_bind,h1,Result.andThen];rfl
 ·rw[k2];exact h2.ge k3 λ_ _ h=>h
theorem zgx(hun:UniOk un)(ht:TbOk P un tb)(hs:St un E N D H e bx a w){fn:Func}{ps:List (PV S)}(h:zfq un tb e bx fn.results.toList=some ps){rs:List U}{t:ElL S rs}(hc:zf8 un (zak (zdI ps) bx) rs ps=some t) :
  ∃v D' H',(results fn a.tmps).run P w= .ok v w/\Rep un [] D' w (zfx (zcp rs t)) v/\St un E N D' H' e (zak (zdI ps) bx) a w/\ids H'=ids H/\Ge D w D' w/\(∀k o,D' k o->D k o\/E.may k):=by
 obtain ⟨v,D',H',vs,h1,h2,h3,h4,h5,h6,h7⟩:=zhg hun ht hs h;refine ⟨v,D',H',h1,?_,h3,h4,h5,h6⟩;rw[h2];exact zma (zjB hun h3 (nu':=[]) hc h7)
theorem zdt:∀(l:List (PV S))(k i:Nat)(v:PV S),zan (zfi k l) i=some v->k<=i/\l[i - k]?=some v
 |[],_,_,_,h=>by cases h
 |u::r,k,i,v,h=>by
   simp only[zfi,zan] at h;cases hb:Nat.beq k i with
   |true=>rw[hb] at h;have:k=i:=yAa hb;subst this;simp at h;subst h;simp
   |false =>rw[hb] at h;obtain ⟨h1,h2⟩:=zdt r (k+1) i v h;refine ⟨by omega,?_⟩;rw[show i - k=(i - (k+1))+1 by omega];simpa using h2
theorem RepL.len{nu:Nu}:∀{ps:List (PV S)}{vs:List Value},RepL un nu D w ps vs->ps.length=vs.length
 |[],[],_=>rfl|p::ps,v::vs,hr=>by simp only[RepL] at hr;simp[RepL.len hr.2]
 |_::_,[],hr=>by simp[RepL] at hr
 |[],_::_,hr=>by simp[RepL] at hr
theorem zkV(hmix:P.follows .mixedOrders=true)(hun:UniOk un)(ht:TbOk P un tb)(hor:SoundO P un orc)(hin:SoundI P un inl){fn:Func}{args:List (PV S)}{rs:List U}{r:ElL S rs}{f:FuncId}
  (h:fnI un tb orc inl an fn args bx rs=some r) (hf:P.funcs[f]?=some fn) {vs:List Value} (htab:TabE un w []) (hD:∀k o,D k o->k<w.heap.size) (hH:∀r∈H,∃id,r= .ref id) (hbx:BxRep un (ids H) D w ⟨w,[],[]⟩ bx H) (ha:RepL un (ids H) D w args vs) :
  Back P un D f vs.toArray w (zfx (zcp rs r)):=by
 unfold fnI at h;split at h;·cases h
 ·rename_i c hb;obtain ⟨h0,h⟩:=zac h;simp only[yAd,yAO,yAV,yAP] at h0;refine calls_of_wp hf hb ?_;have hlen:=ha.len;have hst:St un ⟨w,[],[]⟩ ⟨fn.ntmps,[]⟩ D H (zfi 0 args) bx { tmps:=vs.toArray++Array.replicate (fn.ntmps - vs.toArray.size) undef,defers:=[] } w:=by
   refine ⟨⟨Wl.Grow.refl _ _,hD,λr hr=>?_,λr hr g hg=>?_,?_,λi g hi=>by simp[zeF] at hi⟩,?_,⟨rfl,htab⟩,hbx,λi p hi=>?_⟩;·obtain ⟨id,rfl⟩:=hH r hr;trivial
   ·obtain ⟨id,rfl⟩:=hH r hr;cases hg
   ·refine List.Pairwise.imp_of_mem (R:=λ_ _=>True) (λ{r r'} hr hr' _=>?_) (List.pairwise_of_forall λ_ _=>trivial);obtain ⟨id,rfl⟩:=hH r hr;intro g hg;cases hg
   ·simp;omega
   ·obtain ⟨_,h1⟩:=zdt args 0 i p hi;obtain ⟨v,h2,h3⟩:=ha.get i p (by simpa using h1);have hlt:i<vs.length:=(yAc.1 h2).1;simp only[yAs];rw[yBX (by simpa using hlt)];simpa[h2] using h3
  refine zke (E:=⟨w,[],[]⟩) (D0:=D) (N:=⟨fn.ntmps,[]⟩) hmix hun (ht.at an) hor hin _ _ _ _ _ _ h h0.1 ⟨D,H,hst,λk o hk=>.inl hk,Ge.refl _ _⟩ λx e' bx' hk _ _ a' w' hH'=>?_;have fin:(match zfq un tb e' bx' fn.results.toList with
   |some l=>zf8 un (zak (zdI l) bx') rs l|none=>none)=some r->a'.defers=[]/\∃v,(results fn a'.tmps).run P w'= .ok v w'/\∃v',Ending.returned v= .returned v'/\Below w.heap.size w w'/\Rep un [] (zi0 D w w') w' (zfx (zcp rs r)) v':=by
   intro hk;split at hk
   ·rename_i l hl;obtain ⟨D1,H1,hs1,hD1,hG1⟩:=hH';obtain ⟨v,D',H',g1,g2,hs',_,k3,k4⟩:=zgx (P:=P) hun ht hs1 hl hk;have hD':∀k o,D' k o->D k o\/(⟨w,[],[]⟩:Wl.Ctx).may k:=λk o hk=>(k4 k o hk).elim (hD1 k o) .inr;have hg:=hs'.inn.out;refine ⟨hs'.defers.1,v,g1,v,rfl,⟨hg.os,hg.tape,hg.output,hg.size,λk hk=>hg.block k hk (by simp)⟩,?_⟩;refine g2.ge ⟨λk o hk=>?_,λ_ _ _=>rfl,λ_ _ _ _ _ h=>h⟩ λ_ _ h=>h;rcases hD' k o hk with h1|h1;·exact .inl h1
    ·rcases h1 with h1|h1;·exact .inr ⟨h1,hs'.inn.lt k o hk⟩
     ·cases h1
   ·cases hk
  cases x with
  |normal=>exact fin hk|ret=>exact fin hk|exit i=>cases hk|goto l=>cases hk|panic ch=>cases hk|outgrown=>cases hk
theorem zkP(hun:UniOk un)(hs:St un E N D H e bx a w){D':Dat}(hge:Ge D w D' w):∀{ts:List TypeId}{lc:List U}{gs ls:List Nat}{c:ElL S lc},zeA un bx ts lc ls=some c->BlocksOf H ls gs->zaK un D' w ts lc c gs
 |[],[],[],[],c,_,_=>by simp[zaK]
 |T::ts,u::us,g::gs,b::bs,c,h,hb=>by
   unfold zeA at h;split at h
   ·rename_i T' cs hg;split at h;·rename_i x t h1 h2;obtain ⟨h3,h4⟩:=zac h;cases h4;simp only[yAd] at h3;have hT:=yAa h3.1.1;subst hT;simp only[BlocksOf] at hb;obtain ⟨⟨T0,cs0,hH⟩,hb2⟩:=hb;obtain ⟨r,hr1,hr2⟩:=hs.boxes.get hg;rw[hH] at hr1;cases hr1;simp only[BoxRep] at hr2;obtain ⟨rfl,hl⟩:=hr2;simp only[zaK];exact ⟨⟨cs0,(hs.inn.res _ (yAb hH)).2,(zkO hun hs h1 hl).mono hge⟩,zkP hun hs hge h2 hb2⟩
    ·cases h
   ·cases h
 |[],[],[],_::_,_,h,_=>by simp[zeA] at h
 |[],[],_::_,[],_,_,hb=>by simp[BlocksOf] at hb
 |[],[],_::_,_::_,_,h,_=>by simp[zeA] at h
 |[],_::_,_,_,_,h,_=>by simp[zeA] at h
 |_::_,[],_,_,_,h,_=>by simp[zeA] at h
 |_::_,_::_,_,[],_,h,_=>by simp[zeA] at h
 |_::_,_::_,[],_::_,_,_,hb=>by simp[BlocksOf] at hb
def zbW(w:World):List TypeId->List Nat->List Wl.Res|T::ts,g::gs=>.box g T (match w.heap[g]? with|some (.cells cs _ _)=>cs.toList|_=>[])::zbW w ts gs|_,_=>[]
theorem zf1(hf:zkk un){c:List U}:∀{ts:List TypeId}{lc:List U}{t:ElL S lc}{gs:List Nat},zaK un D w ts lc t gs->∀{nu:Nu}{E:Wl.Ctx},
  BxRep un nu D w E (zdC un ts lc t) (zbW w ts gs)/\ids (zbW w ts gs)=zfX gs/\(zbW w ts gs).length=gs.length/\ts.length=gs.length /\
  ∀r∈zbW w ts gs,∃g∈gs,∃T cs,r= .box g T cs/\w.heap[g]?=some (.cells cs.toArray T (0,0))
 |[],[],_,[],_,_,_=>by simp[zdC,zbW,BxRep,ids]
 |T::ts,u::us,t,g::gs,h,nu,E=>by
   simp only[zaK] at h;obtain ⟨⟨cs,h1,h2⟩,h3⟩:=h;obtain ⟨k1,k2,k3,k4,k5⟩:=zf1 hf (c:=c) h3 (nu:=nu) (E:=E);simp only[zdC,zbW,h1,BxRep,BoxRep];refine ⟨⟨⟨trivial,zb5 hf h2⟩,k1⟩,by simpa[ids,zaf] using k2,by simp[k3],by simp[k4],λr hr=>?_⟩;rcases yAp.1 hr with rfl|hr;·exact ⟨g,by simp,T,_,rfl,by simpa using h1⟩
   ·obtain ⟨g',m1,m2⟩:=k5 r hr;exact ⟨g',by simp[m1],m2⟩
 |[],[],_,_::_,h,_,_=>by simp[zaK] at h
 |[],_::_,_,_,h,_,_=>by simp[zaK] at h
 |_::_,[],_,_,h,_,_=>by simp[zaK] at h
 |_::_,_::_,_,[],h,_,_=>by simp[zaK] at h
theorem zeo:∀{ts:List TypeId}{gs:List Nat},ts.length=gs.length->(zbW w ts gs).map Wl.Res.block=gs.map some
 |[],[],_=>rfl|T::ts,g::gs,h=>by simp only[zbW,yAk,Wl.Res.block];rw[zeo (by simpa using h)]
 |[],_::_,h=>by simp at h
 |_::_,[],h=>by simp at h
theorem ziw:∀{ps:List U}{vs:List Value}{p:ElL S ps},zfl ps vs=some p->valI ps p=vs
 |[],[],_,_=>rfl| .int k::us,v::vs,p,h=>by
   cases v with
   |int k' n =>
     simp only[zfl] at h;split at h;·rename_i hk t' h1 h2;have:=hk.down;subst this;cases h;simp only[valI];rw[ziw h2]
     ·cases h
   |_=>simp[zfl] at h
 |[],_::_,_,h=>by simp[zfl] at h
 | .int _::_,[],_,h=>by simp[zfl] at h
 | .bool::_,_,_,h=>by simp[zfl] at h
 | .str::_,_,_,h=>by simp[zfl] at h
 | .sl _::_,_,_,h=>by simp[zfl] at h
 | .st _::_,_,_,h=>by simp[zfl] at h
 | .mp _ _::_,_,_,h=>by simp[zfl] at h
 | .rw _::_,_,_,h=>by simp[zfl] at h
theorem zkm{pan:TypeId}{ps:List U}{ch:List PanicEntry}{p:ElL S ps}(h:znj pan ps ch=some p):ch=[zpr pan ps p]:=by
 unfold znj at h;split at h;·rename_i T a;obtain ⟨h1,h2⟩:=zac h;have:=yAa h1;subst this;simp only[zpr,ziw h2]
 ·cases h
theorem zhB:∀{ts:List TypeId}{lc:List U}{c:ElL S lc}{i:Nat}{b:Box S},zae (zdC un ts lc c) i=some b->∃T cs,b= .var T cs
 |[],_,_,_,_,h=>by simp[zdC,zae] at h
 |_::_,[],_,_,_,h=>by simp[zdC,zae] at h
 |T::ts,u::us,t,0,b,h=>by simp[zdC,zae] at h;exact ⟨_,_,h.symm⟩
 |T::ts,u::us,t,i+1,b,h=>zhB (ts:=ts) (lc:=us) (c:=t.2) (i:=i) (by simpa[zdC,zae] using h)
theorem zf7:∀{gs:List Nat}{k:Nat},(∀(i g:Nat),gs[i]?=some g->∃T cs,H[k+i]?=some (.box g T cs))->BlocksOf H (List.range' k gs.length) gs
 |[],_,_=>by simp[BlocksOf]
 |g::gs,k,h=>by simp only[yAA,yBa,BlocksOf];exact ⟨h 0 g rfl,zf7 λi g' hi=>by have:=h (i+1) g' (by simpa using hi);rwa[show k+1+i=k+(i+1) by omega]⟩
theorem zmP(hmix:P.follows .mixedOrders=true)(hun:UniOk un)(ht:TbOk P un tb)(hor:SoundO P un orc)(hin:SoundI P un inl){fn:Func}{args:List (PV S)}{ts:List TypeId}{lc:List U}{c:ElL S lc}{rs ps:List U}{pan:TypeId}{r:Out S lc rs ps}{f:FuncId}
  (h:fnE un tb orc inl an fn args ts lc c rs ps pan=some r) (hf:P.funcs[f]?=some fn):zpw P un f args ts lc c rs ps pan r:=by
 intro D w vs gs htab hD hgn hgD hl ha;unfold fnE at h;split at h;·cases h
 ·rename_i b hb;obtain ⟨h0,h⟩:=zac h;simp only[yAd,yAO,yAV,yAP] at h0;obtain ⟨⟨h0,h00⟩,h01⟩:=h0;refine calls_of_wp hf hb ?_;have hlen:=ha.len;obtain ⟨k1,k2,k3,k4,k5⟩:=zf1 hun.flat (c:=[]) hl (nu:=ids (zbW w ts gs)) (E:=⟨w,gs,gs.map λg=>.pointer (some ⟨g,0,none⟩)⟩);have hblk:=zeo (w:=w) k4;have hst:St un ⟨w,gs,gs.map λg=>.pointer (some ⟨g,0,none⟩)⟩ ⟨fn.ntmps,[]⟩ D (zbW w ts gs) (zfi 0 args) (zdC un ts lc c) { tmps:=vs.toArray++Array.replicate (fn.ntmps - vs.toArray.size) undef,defers:=[] } w:=by
   refine ⟨⟨Wl.Grow.refl _ _,hD,λr hr=>?_,λr hr g hg o _=>?_,?_,λi g hi=>?_⟩,?_,⟨rfl,htab⟩,k1,λi p hi=>?_⟩;·obtain ⟨g,hgm,T,cs,rfl,hw⟩:=k5 r hr;exact ⟨.inr hgm,hw⟩
   ·obtain ⟨g',hgm,T,cs,rfl,hw⟩:=k5 r hr;simp[Wl.Res.has] at hg;subst hg;exact hgD _ hgm o
   ·have h1:(gs.map some).Pairwise (λ(x y:Option Nat)=>∀g,x=some g->y≠some g):=by
     rw[yB8];exact List.Pairwise.imp (λ{a b} hab g hg hg'=>by simp at hg hg';exact hab (hg.trans hg'.symm)) hgn
    rw[<-hblk,yB8] at h1;refine List.Pairwise.imp_of_mem (λ{a b} ha hb hab g h3 h4=>?_) h1;obtain ⟨_,_,_,_,rfl,_⟩:=k5 a ha;obtain ⟨_,_,_,_,rfl,_⟩:=k5 b hb;exact hab g h3 h4
   ·have hid:(ids (zbW w ts gs))[i]?=(zfX gs)[i]? :=by rw[k2]
    replace hi:=(zdd hi).1
    simp only[yAg,yAT] at hi;obtain ⟨g0,hi',rfl⟩:=hi;simp only[ids,yAg,hi',yAf] at hid;cases hr:(zbW w ts gs)[i]? with
    |none=>rw[hr] at hid;cases hid|some r0 =>rw[hr] at hid;obtain ⟨g1,_,T0,cs0,rfl,_⟩:=k5 r0 (yAb hr);simp[zaf] at hid;subst hid;exact ⟨_,rfl,rfl,rfl,keptR.box⟩
   ·simp;omega
   ·obtain ⟨_,h1⟩:=zdt args 0 i p hi;obtain ⟨v,h2,h3⟩:=ha.get i p (by simpa using h1);have hlt:i<vs.length:=(yAc.1 h2).1;rw[k2];simp only[yAs];rw[yBX (by simpa using hlt)];simpa[h2] using h3
  refine zke (E:=⟨w,gs,gs.map λg=>.pointer (some ⟨g,0,none⟩)⟩) (D0:=D) (N:=⟨fn.ntmps,[]⟩) hmix hun (ht.at an) hor hin _ _ _ _ _ _ h h0 ⟨D,_,hst,λk o hk=>.inl hk,Ge.refl _ _⟩ λx e' bx' hk _ hpb a' w' hH'=>?_;obtain ⟨D',H',hs',hD',_⟩:=hH';have hg:=hs'.inn.out;have hboxat:∀{H':List Wl.Res}{D':Dat},In ⟨w,gs,gs.map λg=>.pointer (some ⟨g,0,none⟩)⟩ D' H' w'->∀(i g:Nat),gs[i]?=some g->∃T cs,H'[i]?=some (.box g T cs):=by
   intro H' D' hin i g hi;obtain ⟨r0,h1,h2,h3,_⟩:=hin.lent i (.pointer (some ⟨g,0,none⟩)) (zif (by simp[hi]) (by simp));cases r0 with
   |box g' T cs=>simp[zaf] at h3;subst h3;exact ⟨T,cs,h1⟩|fix v g' size ob =>simp[zaf] at h3;subst h3;exact absurd (hin.res _ (yAb h1)).1 (zd2 _)|_=>simp[zaH] at h2
  have hnogs:∀{H':List Wl.Res}{D':Dat},In ⟨w,gs,gs.map λg=>.pointer (some ⟨g,0,none⟩)⟩ D' H' w'->∀g∈gs,∀o,¬D' g o:=by intro H' D' hin g hgm o;obtain ⟨i,hi⟩:=yAj hgm;obtain ⟨T,cs,h1⟩:=hboxat hin i g hi;exact hin.apart _ (yAb h1) g rfl o trivial
  have hup:∀{H':List Wl.Res}{D':Dat},In ⟨w,gs,gs.map λg=>.pointer (some ⟨g,0,none⟩)⟩ D' H' w'->(∀k o,D' k o->D k o\/(⟨w,gs,gs.map λg=>.pointer (some ⟨g,0,none⟩)⟩:Wl.Ctx).may k)->Ge D' w' (zi0 D w w') w':=by
   intro H' D' hin hD';refine ⟨λk o hk=>?_,λ_ _ _=>rfl,λ_ _ _ _ _ h=>h⟩;rcases hD' k o hk with h1|h1;·exact .inl h1
   ·rcases h1 with h1|h1;·exact .inr ⟨h1,hin.lt k o hk⟩
    ·exact absurd hk (hnogs hin k h1 o)
  have hbl:∀{H':List Wl.Res}{D':Dat},In ⟨w,gs,gs.map λg=>.pointer (some ⟨g,0,none⟩)⟩ D' H' w'->BlocksOf H' (List.range ts.length) gs:=by intro H' D' hin;rw[yBq,k4];exact zf7 λi g hi=>by simpa using hboxat hin i g hi
  have hsame:zl4 w w' gs:=by
   intro g hgm T cs hw;obtain ⟨i,hi⟩:=yAj hgm;have hil:i<gs.length:=(yAc.1 hi).1;obtain ⟨b0,hb0⟩:=zbX (bx:=zdC un ts lc c) (i:=i) (by rw[k1.length,k3];exact hil);obtain ⟨T1,csP,rfl⟩:=zhB hb0;obtain ⟨r0,hr1,hr2⟩:=k1.get hb0;obtain ⟨g0,_,T0,cs0,rfl,hw0⟩:=k5 r0 (yAb hr1);have hid:(ids (zbW w ts gs))[i]?=(zfX gs)[i]? :=by rw[k2]
   simp only[ids,yAg,hr1,hi,yAf,zaf] at hid;simp at hid;subst hid;simp only[BoxRep] at hr2;obtain ⟨rfl,hl2⟩:=hr2;rw[hw] at hw0;simp at hw0;obtain ⟨hcs,rfl⟩:=hw0;obtain ⟨csP',hb1,hlenP⟩:=hpb.var i _ _ hb0;obtain ⟨r1,hr3,hr4⟩:=hs'.boxes.get hb1;obtain ⟨T2,cs2,hr5⟩:=hboxat hs'.inn i _ hi;rw[hr3] at hr5;cases hr5;simp only[BoxRep] at hr4;obtain ⟨rfl,hl3⟩:=hr4;refine ⟨cs2.toArray,?_,(hs'.inn.res _ (yAb hr3)).2⟩;have e1:=hl2.length;have e2:=hl3.length;rw[hcs];simp;omega
  have fin:finE un tb fn e' bx' ts lc rs ps=some r->a'.defers=[]/\∃v,(results fn a'.tmps).run P w'= .ok v w'/\EndE un D w ts lc rs ps pan gs r (.returned v) w':=by
   intro hk;unfold finE at hk;split at hk
   ·rename_i l hl';split at hk;·rename_i t c' hc1 hc2;cases hk;obtain ⟨v,D2,H2,g1,g2,hs2,_,_,m4⟩:=zgx (P:=P) hun ht hs' hl' hc1;have hge:=hup hs2.inn λk o hk=>(m4 k o hk).elim (hD' k o) .inr;refine ⟨hs'.defers.1,v,g1,⟨hg.os,hg.tape,hg.output,hg.size,hg.block⟩,⟨v,rfl,g2.ge hge λ_ _ h=>h⟩,zkP hun hs2 hge hc2 (hbl hs2.inn)⟩
    ·cases hk
   ·cases hk
  cases x with
  |normal=>exact fin hk|ret=>exact fin hk|panic ch =>
    simp only at hk;split at hk;·rename_i p hp;cases hk;refine ⟨hs'.defers.1,⟨hg.os,hg.tape,hg.output,hg.size,hg.block⟩,?_,hsame⟩;rw[zkm hp]
    ·cases hk
  |exit i=>cases hk|goto l=>cases hk|outgrown=>cases hk
theorem zdb(hmix:P.follows .mixedOrders=true)(hun:UniOk un)(ht:TbOk P un tb)(hor:SoundO P un orc):∀n,SoundI P un (zol un tb orc n)|0=>⟨λ_ _ _ _ _ _ _ _ _ _ _ h=>by simp[zol] at h,λ_ _ _ _ _ _ _ h=>by simp[zol] at h⟩|n+1=>⟨λfn an args ts lc c rs ps pan r f h hf=>zmP hmix hun ht hor (zdb hmix hun ht hor n) h hf,λfn an args bx rs r f h hf D H w vs htab hD hH hbx ha=>zkV hmix hun ht hor (zdb hmix hun ht hor n) h hf htab hD hH hbx ha⟩
theorem zfH(hmix:P.follows .mixedOrders=true)(hun:UniOk un)(ht:TbOk P un tb)(hor:SoundO P un orc){fn:Func}{args:List (PV S)}{ts:List TypeId}{lc:List U}{c:ElL S lc}{rs ps:List U}{pan:TypeId}{r:Out S lc rs ps}{f:FuncId}
  (h:fnF un tb orc an fn args ts lc c rs ps pan=some r) (hf:P.funcs[f]?=some fn):zpw P un f args ts lc c rs ps pan r :=
 zmP hmix hun ht hor (zdb hmix hun ht hor 6) h hf
theorem zao(hmix:P.follows .mixedOrders=true)(hun:UniOk un)(ht:TbOk P un tb)(hor:SoundO P un orc){fn:Func}{args:List (PV S)}{rs:List U}{r:ElL S rs}{f:FuncId}
  (h:fnM un tb orc an fn args rs=some r) (hf:P.funcs[f]?=some fn):Sat P un f args rs r :=
 λD w vs htab hD ha=>zkV (H:=[]) hmix hun ht hor (zdb hmix hun ht hor 6) h hf htab hD (by simp) (by simp only[BxRep]) ha
end
end Pe
end
section
/- Functions to which rows and maps are handed over. -/
namespace Pe
open Go Go.RowKit
variable{S:Nat->Type}
section
variable{P:Program}{un:Uni S}{tb:Tb S}{orc:Orc S}{inl:Inl S}{an:Ann}{E E':Wl.Ctx}{D D':Dat}{H:List Wl.Res}{N:Wl.Fr}{e:Env S}{bx:Bxs S}{a:Act}{w w':World}
theorem zbP:∀(as:List Arg)(ps:List (PV S)),(zaI as ps).length<=as.length
 |[],_=>by simp[zaI]
 | .one _::as,p::ps=>by simp only[zaI,yAA];have:=zbP as ps;omega
 | .one _::as,[]=>by simp only[zaI,yAA];have:=zbP as ([]:List (PV S));omega
 | .agg cs::as,ps=>by simp only[zaI,yAA];have:=zbP as (ps.drop cs.length);omega
 | .ref k::as,ps=>by simp only[zaI,yAA];have:=zbP as ps;omega
 | .ptr k off::as,ps=>by simp only[zaI,yAA];have:=zbP as ps;omega
 | .fn f::as,ps=>by simp only[zaI,yAA];have:=zbP as ps;omega
 | .nil::as,ps=>by simp only[zaI,yAA];have:=zbP as ps;omega
 | .agr cs k::as,ps=>by simp only[zaI,yAA];have:=zbP as (ps.drop cs.length);omega
theorem zdW:∀{rs:List Arg}{l ps:List (PV S)},za4 rs l=some ps->zab [] rs l=some ps
 |[],[],ps,h=>by simpa[za4,zab] using h
 | .one c::rs,p::l,ps,h=>by
   unfold za4 at h;unfold zab;split at h;·rename_i l' h1;rw[zdW h1];exact h
   ·cases h
 | .agg cs::rs,p::l,ps,h=>by
   cases p with
   |agg q =>
     unfold za4 at h;unfold zab;split at h;·rename_i l' h1;rw[zdW h1];exact h
     ·cases h
   |_=>simp[za4] at h
 | .ref _::_,l,_,h=>by simp[za4] at h
 | .ptr _ _::_,l,_,h=>by simp[za4] at h
 | .fn _::_,l,_,h=>by simp[za4] at h
 | .nil::_,l,_,h=>by simp[za4] at h
 | .agr _ _::_,l,_,h=>by simp[za4] at h
 |[],_::_,_,h=>by simp[za4] at h
 | .one _::_,[],_,h=>by simp[za4] at h
 | .agg _::_,[],_,h=>by simp[za4] at h
theorem zfy{nu nu':Nu}:∀{bs:List (Bool×TypeId×List CTy)}{ls:List Nat}{ps:List (PV S)}{rest:List Value},ls.length=bs.length->(∀(k b:Nat)(fl:Bool)(T:TypeId)(l:List CTy),ls[k]?=some b->bs[k]?=some (fl,T,l)->∃cs,zae bx b=some (.var T cs)/\cs.length=l.length)->BxRep un nu D w E bx H->RepL un nu' D' w' ps (zck H (ls.zip (bs.map (·.2.2)))++rest) ->
  BxRep un nu' D' w' E' (zbU bs ps) (ls.map λb=>(H[b]?).getD (.ref (false,undef)))
 |[],[],_,_,_,_,_,_=>by simp[zbU,BxRep]
 |(fl,T,l)::bs,b::ls,ps,rest,hl,hb,hx,hr=>by
   obtain ⟨cs,hg,hcl⟩:=hb 0 b fl T l rfl rfl;obtain ⟨r,g1,g2,g3,g4,g5⟩:=zby hx hg;have h0:(zbF H b).length=l.length:=by rw[g3,<-g4.length];exact hcl
   simp only[yAk,yBi,zck,yAX] at hr;have h1:=hr.take l.length;have h2:=hr.drop l.length;rw[<-h0,yA5] at h1;rw[<-h0,yBn] at h2;rw[h0] at h1 h2;simp only[zbU,yAk,BxRep,g1,yBU];exact ⟨zhv g5 (by rw[<-g3];exact h1),zfy (by simpa using hl) (λk b' fl' T' l' k1 k2=>hb (k+1) b' fl' T' l' (by simpa using k1) (by simpa using k2)) hx h2⟩
 |[],_::_,_,_,hl,_,_,_=>by simp at hl
 |_::_,[],_,_,hl,_,_,_=>by simp at hl
theorem zkF:∀{bs:List (Bool×TypeId×List CTy)}{ps:List (PV S)}{k:Nat}{fl:Bool}{T:TypeId}{l:List CTy},bs[k]?=some (fl,T,l)->((bs.map (·.2.2)).flatten).length<=ps.length->∃cs,zae (zbU bs ps) k=some (.var T cs)/\cs.length=l.length
 |(fl0,T0,l0)::bs,ps,0,fl,T,l,h,hp=>by simp at h;obtain ⟨rfl,rfl,rfl⟩:=h;simp at hp;exact ⟨_,rfl,by simp;omega⟩
 |(fl0,T0,l0)::bs,ps,k+1,fl,T,l,h,hp=>by simp only[yAk,yBy,yAD] at hp;simpa[zbU,zae] using zkF (bs:=bs) (ps:=ps.drop l0.length) (k:=k) (by simpa using h) (by rw[yA3];omega)
 |[],_,_,_,_,_,h,_=>by simp at h
theorem zj2:∀(bs:List (Bool×TypeId×List CTy))(n:Nat),nrs n bs=(List.range' n bs.length).zip (bs.map (·.2.2))
 |[],_=>by simp[nrs]
 |(_,_,l)::bs,n=>by simp only[nrs,yAA,yBa,yAk,yBi];rw[zj2 bs (n+1)]
theorem zhT:∀{bs:List (List CTy)}{ls:List Nat},ls.length=bs.length->(∀(k b:Nat) l,ls[k]?=some b->bs[k]?=some l->(zbF H b).length=l.length)->(zck H (ls.zip bs)).length=bs.flatten.length
 |[],[],_,_=>rfl|l::bs,b::ls,hl,h=>by simp only[yBi,zck,yAD,yBy];rw[h 0 b l rfl rfl,zhT (by simpa using hl) λk b' l' k1 k2=>h (k+1) b' l' (by simpa using k1) (by simpa using k2)]
 |[],_::_,hl,_=>by simp at hl
 |_::_,[],hl,_=>by simp at hl
theorem zpd(hmix:P.follows .mixedOrders=true)(hun:UniOk un)(ht:TbOk P un tb)(hor:SoundO P un orc)(hin:SoundI P un inl){fn:Func}{g:Sg}{t:g.In S}{r:g.Out S}{f:FuncId}
  (h:fnL un tb orc inl an fn g t=some r) (hf:P.funcs[f]?=some fn):zpv P un f g t r:=by
 intro D w vs H fx htab hfx hI hbx hargs;unfold fnL at h;split at h;·cases h
 ·rename_i b hb;obtain ⟨h0,h⟩:=zac h;simp only[yAd,yAO,yAV,yAP] at h0;obtain ⟨h0,h00⟩:=h0;refine calls_of_wp hf hb ?_;have hlen:=hargs.len;have hle:=zbP g.as ((zcu g.ins t g.bs.length).drop g.nb);have hst:St un ⟨w,zar H,fx⟩ ⟨fn.ntmps,[]⟩ D H (zfi 0 (zaI g.as ((zcu g.ins t g.bs.length).drop g.nb))) (zbU g.bs (zcu g.ins t g.bs.length)++zbi g.ins t) { tmps:=vs.toArray++Array.replicate (fn.ntmps - vs.toArray.size) undef,defers:=[] } w:=by
   refine ⟨hI,?_,⟨rfl,htab⟩,hbx,λi p hi=>?_⟩;·simp;omega
   ·obtain ⟨_,h1⟩:=zdt _ 0 i p hi;obtain ⟨v,h2,h3⟩:=hargs.get i p (by simpa using h1);have hlt:i<vs.length:=(yAc.1 h2).1;simp only[yAs];rw[yBX (by simpa using hlt)];simpa[h2] using h3
  have hin0:((g.bs.map (·.2.2)).flatten).length<=(zcu g.ins t g.bs.length).length:=by rw[zbk];simp[Sg.ins]
  refine zke (E:=⟨w,zar H,fx⟩) (D0:=D) (N:=⟨fn.ntmps,[]⟩) hmix hun (ht.at an) hor hin _ _ _ _ _ _ h h0 ⟨D,H,hst,λk o hk=>.inl hk,Ge.refl _ _⟩ λx e' bx' hk _ hpb a' w' hH'=>?_;obtain ⟨D1,H1,hs1,hD1,hG1⟩:=hH';have hvar:∀(k:Nat)(fl:Bool)(T:TypeId)(l:List CTy),g.bs[k]?=some (fl,T,l)->∃cs,zae bx' k=some (.var T cs)/\cs.length=l.length:=by intro k fl T l hkk;obtain ⟨cs,k1,k2⟩:=zkF hkk hin0;obtain ⟨cs',k3,k4⟩:=hpb.var k T cs (zcd k1);exact ⟨cs',k3,k4.trans k2⟩
  have hvar2:∀{bx2:Bxs S},(∀{i:Nat}{T:TypeId}{cs:List (PV S)},zae bx' i=some (.var T cs)->zae bx2 i=some (.var T cs))->∀(k b:Nat)(fl:Bool)(T:TypeId)(l:List CTy),(List.range' 0 g.bs.length)[k]?=some b->g.bs[k]?=some (fl,T,l)->∃cs,zae bx2 b=some (.var T cs)/\cs.length=l.length:=by
   intro bx2 h2 k b fl T l k1 k2;have hkb:b=k:=by have hkl:k<g.bs.length:=(yAc.1 k2).1;rw[yBA hkl] at k1;simp at k1;exact k1.symm
   subst hkb;obtain ⟨cs,k3,k4⟩:=hvar b fl T l k2;exact ⟨cs,h2 k3,k4⟩
  have fin:finL un tb fn g e' bx'=some r->a'.defers=[]/\∃v,(results fn a'.tmps).run P w'= .ok v w'/\EndL un D w H fx g r (.returned v) w':=by
   intro hk;unfold finL at hk;split at hk
   ·rename_i l hl;split at hk
    ·rename_i ps qs hps hqs;split at hk
     ·rename_i t' htell;cases hk;obtain ⟨vs',h1,h2⟩:=zeQ (P:=P) hun ht hs1 hl;unfold zlh at htell;obtain ⟨hro,hct⟩:=zac htell;obtain ⟨D2,H2,hs2,hids,hG2,hup2⟩:=hs1.freeze (frs g.outs (qs++ps));have hqs2:=zcy (ks:=frs g.outs (qs++ps)) hqs;have hv2:=hvar2 (bx2:=zak (frs g.outs (qs++ps)) bx') λhg=>zaX _ hg (by intros;simp) (by intros;simp) (by intros;simp);generalize zak (frs g.outs (qs++ps)) bx'=bx2 at hro hct hs2 hqs2 hv2;obtain ⟨hq1,hq2⟩:=zd7 hs2.boxes hqs2;have h2':RepL un (ids H2) D2 w' l vs':=by rw[hids];exact h2.ge hG2 λ_ _ h=>h
      obtain ⟨pv,hpv,hisr⟩:=zbc (zdW hps) h2';obtain ⟨bs,rs,g1,g2,g3,g4,g5,_⟩:=zb0 hun hs2 g.outs (qs++ps) _ [] t' g.bs.length hro hct (hq1.append hpv);rw[zj2] at hq1 hq2;simp only[zj2] at g5;generalize hHl:((List.range' 0 g.bs.length).map λb=>(H2[b]?).getD (.ref (false,undef)))=Hl;have hHll:Hl.length=g.bs.length:=by rw[<-hHl];simp
      have hHlget:∀(k:Nat),k<g.bs.length->∃r,H2[k]?=some r/\zaH r=true/\Hl[k]?=some r/\(∃T cs,zae bx2 k=some (.var T cs)):=(by intro k hkl;obtain ⟨cs,k1,_⟩:=hv2 k k _ _ _ (by rw[yBA hkl];simp) (yAh hkl);obtain ⟨r,k2,k3,_⟩:=zby hs2.boxes k1;exact ⟨r,k2,k3,by rw[<-hHl];simp[yBA hkl,k2],_,_,k1⟩);have hnu:∀(i:Nat) r,rs[i]?=some r->(ids (Hl++rs))[g.bs.length+i]?=some (zaf r):=(by intro i r hr;simp only[ids,yAg];rw[yAz (by omega),hHll,yAQ,hr];rfl);have hP:=g5 _ hnu;have hvl:(zck H2 ((List.range' 0 g.bs.length).zip (g.bs.map (·.2.2)))).length=g.nb:=zhT (by simp) λk b l k1 k2=>(hq2 b l (zlV k1 k2)).2;have hdrop:=hP.drop g.nb;rw[<-hvl,yBn] at hdrop;rw[hvl] at hdrop;have hres:=zbO (nu':=ids (Hl++rs)) (λk b x hk _=>by simp at hk) hisr hdrop;have hone:=zma hres;have hpick:In ⟨w,zar H,fx⟩ D2 (Hl++rs) w':=by
       refine hs2.inn.pick (λk=>if k<g.bs.length then some k else (bs[k - g.bs.length]?).join) (λk r hk=>?_) (λk k' i hk hk'=>?_) (λi v hv=>?_)
       ·rcases yAR k g.bs.length with hlt|hge;·rw[yAi (by omega)] at hk;obtain ⟨r',k1,_,k3,_⟩:=hHlget k hlt;rw[hk] at k3;cases k3;exact .inr ⟨k,by simp only[if_pos hlt],k1⟩
        ·rw[yAz (by omega),hHll] at hk;rcases zcq g1 _ r hk with ⟨b,m1,m2,_⟩|⟨m1,T,size,m2⟩;·exact .inr ⟨b,by simp only[if_neg (show ¬k<g.bs.length by omega),m1];rfl,m2⟩
         ·left;rcases m2 with rfl|rfl;·exact ⟨λg hg=>by simp[Wl.Res.has,Value.ownBlock] at hg,Wl.rowAt_nil _ _ _,λg hg=>by simp[Value.ownBlock] at hg⟩
          ·exact ⟨λg hg=>by simp[Wl.Res.has,Value.ownBlock] at hg,World.ownsRow_nil _ _ _ _,λg hg=>by simp[Value.ownBlock] at hg⟩
       ·have second:∀k i,(bs[k - g.bs.length]?).join=some i->bs[k - g.bs.length]?=some (some i):=by
         intro k i h;cases hx:bs[k - g.bs.length]? with
         |none=>rw[hx] at h;cases h|some y=>rw[hx] at h;cases y with
           |none=>cases h|some z=>cases h;rfl
        have clash:∀k k',k<g.bs.length->(bs[k' - g.bs.length]?).join=some k->False:=(by intro k k' hlt hk';obtain ⟨_,_,_,_,T,cs,m1⟩:=hHlget k hlt;obtain ⟨_,x,m2,m3⟩:=g2 k (yAb (second k' k hk'));rw[m1] at m2;cases m2;simp[zdw] at m3);split at hk
        ·rename_i hlt;cases hk;split at hk';·cases hk';rfl
         ·exact (clash k k' hlt hk').elim
        ·rename_i hge;split at hk';·rename_i hlt';cases hk';exact (clash k' k hlt' hk).elim
         ·have:=zeX g3 _ _ i (second k i hk) (second k' i hk');omega
       ·obtain ⟨r,m1,m2,m3⟩:=hs2.inn.lent i v hv;have hil:i<g.bs.length:=by rw[<-hfx];exact (yAc.1 (zdd hv).1).1
        obtain ⟨r',k1,_,k3,_⟩:=hHlget i hil;rw[m1] at k1;cases k1;exact ⟨r,by rw[yAi (by omega)];exact k3,m2,m3⟩
      refine ⟨hs1.defers.1,_,by rw[zhs];simp only[Sem.run_bind,h1,Result.andThen];rfl,D2,Hl++rs,hpick,hG1.trans hG2,λk o hk=>(hup2 k o hk).elim (hD1 k o) .inr,?_,_,rfl,hone⟩;refine BxRep.append' ?_ (g4 _ _);have:=zfy (E':=⟨w,zar H,fx⟩) (ls:=List.range' 0 g.bs.length) (by simp) hv2 hs2.boxes hP;rw[hHl] at this;exact this
     ·cases hk
    ·cases hk
   ·cases hk
  cases x with
  |normal=>exact fin hk|ret=>exact fin hk|panic ch =>
    simp only at hk;split at hk
    ·rename_i p hp;cases hk;have hv1:=hvar2 (bx2:=bx') λh=>h;generalize hHl:((List.range' 0 g.bs.length).map λb=>(H1[b]?).getD (.ref (false,undef)))=Hl;have hHll:Hl.length=g.bs.length:=by rw[<-hHl];simp
     have hHlget:∀(k:Nat),k<g.bs.length->∃r,H1[k]?=some r/\zaH r=true/\Hl[k]?=some r:=(by intro k hkl;obtain ⟨cs,k1,_⟩:=hv1 k k _ _ _ (by rw[yBA hkl];simp) (yAh hkl);obtain ⟨r,k2,k3,_⟩:=zby hs1.boxes k1;exact ⟨r,k2,k3,by rw[<-hHl];simp[yBA hkl,k2]⟩);have hpick:In ⟨w,zar H,fx⟩ D1 Hl w':=by
      refine hs1.inn.pick (λk=>if k<g.bs.length then some k else none) (λk r hk=>?_) (λk k' i hk hk'=>?_) (λi v hv=>?_)
      ·have hkl:k<g.bs.length:=(by rw[<-hHll];exact (yAc.1 hk).1);obtain ⟨r',k1,_,k3⟩:=hHlget k hkl;rw[hk] at k3;cases k3;exact .inr ⟨k,by simp only[if_pos hkl],k1⟩
      ·split at hk<;>split at hk'<;>first|(cases hk;done)|(cases hk';done)|(cases hk;cases hk';rfl)
      ·obtain ⟨r,m1,m2,m3⟩:=hs1.inn.lent i v hv;have hil:i<g.bs.length:=by rw[<-hfx];exact (yAc.1 (zdd hv).1).1
       obtain ⟨r',k1,_,k3⟩:=hHlget i hil;rw[m1] at k1;cases k1;exact ⟨r,k3,m2,m3⟩
     have hvl:(zck H1 ((List.range' 0 g.bs.length).zip (g.bs.map (·.2.2)))).length=g.nb:=zhT (by simp) λk b l k1 k2=>by
      obtain ⟨⟨fl,T,l'⟩,k3,k4⟩:∃x,g.bs[k]?=some x/\x.2.2=l:=by simp only[yAg,yAT] at k2;exact k2
      simp at k4;subst k4;obtain ⟨cs,k5,k6⟩:=hv1 k b fl T l' k1 k3;obtain ⟨r,m1,_,m3,m4,_⟩:=zby hs1.boxes k5;rw[m3,<-m4.length];exact k6
     refine ⟨hs1.defers.1,D1,Hl,hpick,hG1,hD1,?_,?_⟩;·have:=zfy (E':=⟨w,zar H,fx⟩) (nu':=ids Hl) (D':=D1) (w':=w') (ls:=List.range' 0 g.bs.length) (rest:=[]) (ps:=List.replicate g.nb .junk) (by simp) hv1 hs1.boxes (by rw[yAW];exact ziP hvl);rw[hHl] at this;exact this
     ·rw[zkm hp]
    ·cases hk
  |exit i=>cases hk|goto l=>cases hk|outgrown=>cases hk
theorem zeD(hmix:P.follows .mixedOrders=true)(hun:UniOk un)(ht:TbOk P un tb)(hor:SoundO P un orc){fn:Func}{g:Sg}{t:g.In S}{r:g.Out S}{f:FuncId}
  (h:fnG un tb orc an fn g t=some r) (hf:P.funcs[f]?=some fn):zpv P un f g t r :=
 zpd hmix hun ht hor (zdb hmix hun ht hor 6) h hf
end
end Pe
end
section
/- A function that is read with a row that stays where it is zaT into the row that it is given. -/
namespace Pe
open Go Go.RowKit
variable{S:Nat->Type}
section
variable{P:Program}{un:Uni S}{D D':Dat}{w w':World}
def inl1{α β:Type}:Option ((α×Unit)⊕β)->Option α|some (.inl r)=>some r.1|_=>none
theorem zmJ{α β:Type}{x:Option ((α×Unit)⊕β)}{a:α}(h:inl1 x=some a):x=some (.inl (a,())):=by
 match x,h with
 |some (.inl (_,())),h=>cases h;rfl
def opt1{α:Type}:Option α->Option α|some a=>some a|none=>none
theorem zoV{α:Type}:∀x:Option α,opt1 x=x|some _=>rfl|none=>rfl
def sgP(u:U)(T:TypeId)(fl:Bool)(k:FuncId)(pan:TypeId):Sg:=⟨[.ref 0,.fn k],[(fl,T,[.fr (.rw u)])],[],[],pan⟩
theorem ziK(hf:zkk un){f:FuncId}{u:U}{T T0:TypeId}{fl:Bool}{k:FuncId}{pan:TypeId}{l l':List (El S u)}
  (h:zpv P un f (sgP u T0 fl k pan) (show (sgP u T0 fl k pan).In S from (l,())) (.inl (show ElL S _ from (l',())))):zqx P un f u T [.func (.func k) [] []] l l':=by
 intro D w v xs vs htab hD hown hfree hseg hargs
 -- the row that is lent
 have key:∃ob,Wl.fixOk v v.ownBlock (U.size un u) ob/\(∀g,v.ownBlock=some g->w.heap[g]?=some ob/\zes ob=some (T,(match ob with | .cells cur _ _=>cur.size|_=>0),(0,0)))/\DR un D w [.rw u] (sg (u:= .rw u) l) [Wl.fixV v (U.size un u) ob]/\zdE v=true:=by
  obtain ⟨hlen,hn|⟨g,cap,cur,rfl,hb,hg,hnc,hcm,hcs,htk⟩⟩:=hown;·obtain ⟨rfl,hn⟩:=hn;refine ⟨.cells #[] T (0,0),.inr (.inr (.inl ⟨rfl,rfl⟩)),(λg hg=>by cases hg),?_,rfl⟩;have:l=[]:=yAL.1 hn;subst this;exact zl5 (xs:=[]) (by simp) λi x hi=>by simp at hi
  ·refine ⟨.cells cur T (0,0),.inr (.inl ⟨g,l.length,cap,cur,T,(0,0),rfl,rfl,rfl,hnc,hcm,hcs,.inl (yAl _)⟩),λg' hg'=>?_,?_,rfl⟩;·cases hg';exact ⟨hg,rfl⟩
   ·show DR un D w [.rw u] (sg (u:= .rw u) l) [Wl.encV l.length (U.size un u) (cur.toList.take (l.length*U.size un u))];rw[htk];exact zl5 hlen hseg
 obtain ⟨ob,hok,hat,hdr,hisr⟩:=key;have hblk:zar [Wl.Res.fix v v.ownBlock (U.size un u) ob]=v.ownBlock.toList:=by show v.ownBlock.toList++[]=_;rw[yAW]
 have hI:In ⟨w,zar [Wl.Res.fix v v.ownBlock (U.size un u) ob],[v]⟩ D [.fix v v.ownBlock (U.size un u) ob] w:=by
  have hh:Wl.Res.holds ⟨w,zar [Wl.Res.fix v v.ownBlock (U.size un u) ob],[v]⟩ w (.fix v v.ownBlock (U.size un u) ob) :=
   ⟨hok,λg0 hg0=>⟨.inr (by rw[hblk,hg0];simp),(hat g0 hg0).1⟩⟩
  refine ⟨Wl.Grow.refl _ _,hD,λr hr=>?_,λr hr g hg o _=>?_,yB4 _ _,λi x hi=>?_⟩;·cases yA9.1 hr;exact hh
  ·cases yA9.1 hr;exact hfree g hg o
  ·match i,hi with
   |0,hi=>cases (zdd hi).1;exact ⟨_,rfl,rfl,rfl,keptR.self hh⟩|i+1,hi=>simp[zeF] at hi
 have hnu:(ids [Wl.Res.fix v v.ownBlock (U.size un u) ob])[0]?=some (true,v):=rfl;refine (h D w (v::vs) [.fix v v.ownBlock (U.size un u) ob] [v] (by rw[hblk];exact htab) rfl hI ?_ ?_).mono λx w1 hend=>?_;·show BxRep un _ D w _ [.var T0 [.cont (.rw u) l]] [.fix v v.ownBlock (U.size un u) ob];simp only[BxRep,BoxRep,RepL,Rep,and_true];exact hdr
 ·show RepL un _ D w [.ref 0,.func (.func k) [] []] (v::vs);simp only[RepL];exact ⟨by simp only[Rep];exact ⟨hnu,hisr⟩,hargs.ge (Ge.refl _ _) λi x hx=>by simp at hx⟩
 ·obtain ⟨D',H',hin',hge,hup,hbx,v',rfl,hv'⟩:=hend;have hbx:BxRep un (ids H') D' w1 ⟨w,zar [Wl.Res.fix v v.ownBlock (U.size un u) ob],[v]⟩ [.var T0 [.cont (.rw u) l']] H':=hbx;have hv':Rep un (ids H') D' w1 (.tup []) v':=hv';obtain ⟨r,hr0,hrc,hrid,hkept⟩:=hin'.lent 0 v (zif rfl λe=>by subst e;rcases hok with ⟨_,_,_,h,_⟩|⟨_,_,_,_,_,_,h,_⟩|⟨h,_⟩|⟨_,_,_,_,_,_,h,_⟩<;>cases h);have hgr:Wl.Grow v.ownBlock.toList w w1:=by have:=hin'.out;rw[hblk] at this;exact this
  have hsub:∀k o,D' k o->zi0 D w w1 k o:=λk o hk=>by
   rcases hup k o hk with h1|h1|h1;·exact .inl h1
   ·exact .inr ⟨h1,hin'.lt k o hk⟩
   ·exfalso;rw[hblk] at h1;have hob:v.ownBlock=some k:=by cases hv:v.ownBlock<;>simp_all
    have hrb:r.has k:=(zg9 (r':= .fix v v.ownBlock (U.size un u) ob) (hin'.res r (yAb hr0)) (hI.res _ (by simp)) hrc rfl hrid.symm).1 k hob;refine hin'.apart r (yAb hr0) k hrb o ?_ hk;cases r<;>simp[zaH] at hrc<;>trivial
  have hup2:Ge D' w1 (zi0 D w w1) w1:=⟨hsub,λ_ _ _=>rfl,λ_ _ _ _ _ h=>h⟩
  match H',hbx,hr0 with
  |[],hbx,_=>simp[BxRep] at hbx|r0::_,hbx,hr0 =>
    cases hr0;simp only[BxRep] at hbx;have hh:=hin'.res r (by simp);refine ⟨?_,hgr,?_⟩
    ·simp only[Rep] at hv';obtain ⟨cs,rfl,hcs⟩:=hv';cases cs with
     |nil=>rfl|cons c cs=>simp[RepL] at hcs
    ·cases r with
     |box g T1 cs =>simp only[zaf,Prod.mk.injEq,true_and] at hrid;subst hrid;simp[zdE] at hisr|fix v1 g1 size1 ob1 =>
       simp only[zaf,Prod.mk.injEq,true_and] at hrid;subst hrid;have hb:=hbx.1;simp only[BoxRep,RepL,Rep,and_true] at hb;obtain ⟨hlen,hn|⟨g,cap,cur,rfl,hb0,hg,hnc,hcm,hcs,htk⟩⟩:=hown
       ·obtain ⟨rfl,hn⟩:=hn;rcases hh.1 with ⟨_,_,_,h1,_⟩|⟨_,_,_,_,_,_,h1,_⟩|⟨_,rfl⟩|⟨_,_,_,_,_,_,h1,_⟩;·cases h1
        ·cases h1
        ·obtain ⟨e1,_,_,e3⟩:=zjQ hf (show DR un D' w1 [.rw u] (sg (u:= .rw u) l') [Wl.encV 0 size1 []] from hb);have:l'=[]:=yAL.1 e1.symm;subst this;exact ⟨[],by simp[hn],World.ownsRow_nil _ _ _ _,λi x hi=>by simp at hi⟩
        ·cases h1
       ·rcases hh.1 with ⟨_,_,_,h1,_⟩|⟨g2,n2,cap2,cur2,T2,fz2,h1,rfl,rfl,hnc2,hcm2,hcs2,_⟩|⟨h1,_⟩|⟨_,_,_,_,_,_,h1,_⟩;·cases h1
        ·cases h1;have hw:=(hh.2 g rfl).2;obtain ⟨e1,e2,_,e3⟩:=zjQ hf (show DR un D' w1 [.rw u] (sg (u:= .rw u) l') [Wl.encV l.length size1 (cur2.toList.take (l.length*size1))] from hb);subst e2;have hsh:=hkept g rfl _ hg (T,cur.size,(0,0)) (T2,cur2.size,fz2) rfl rfl;simp only[Prod.mk.injEq] at hsh;obtain ⟨rfl,hsz,rfl⟩:=hsh;refine ⟨_,e1.symm,⟨?_,.inr ⟨g,cap,cur2,by rw[<-e1],hb0,hw,by omega,hcm,hcs2,by rw[<-e1]⟩⟩,λi x hi=>(e3 i x hi).mono hup2⟩;have hl2:cur2.toList.length=cap*U.size un u:=by rw[yBv];exact hcs2
         rw[yAS,hl2,<-e1];exact yBx (yAo (U.size un u) hnc)
        ·cases h1
        ·cases h1
     |_=>simp[zaH] at hrc
end
end Pe
end
section
/- The tables of a program: rows that are read off it tell the truth. -/
namespace Pe
open Go Go.RowKit
variable{S:Nat->Type}
theorem zkI{α β:Type}{g:α->Option β}:∀{l:List α}{m:List β},l.mapM g=some m->∀(i:Nat)(y:β),m[i]?=some y->∃x,l[i]?=some x/\g x=some y
 |[],m,h,i,y,hy=>by simp at h;subst h;simp at hy
 |x::l,m,h,i,y,hy=>by
   rw[List.mapM_cons] at h;cases hg:g x with
   |none=>simp[hg] at h|some b =>
     cases hl:l.mapM g with
     |none=>simp[hg,hl] at h|some bs =>
       simp[hg,hl] at h;subst h;cases i with
       |zero=>simp at hy;subst hy;exact ⟨x,rfl,hg⟩|succ i=>simpa using zkI hl i y (by simpa using hy)
theorem zf3:∀(vs cs:List Value)(off k:Nat),(vs.zipIdx k).foldl (λ(cs:Array Value) (p:Value×Nat)=>cs.setIfInBounds (off+p.2) p.1) cs.toArray=(za0.spliceV cs (off+k) vs).toArray|[],_,_,_=>rfl|v::r,cs,off,k=>by simp only[List.zipIdx_cons,List.foldl_cons,za0.spliceV,List.setIfInBounds_toArray];exact zf3 r (cs.set (off+k) v) off (k+1)
theorem zhH{p1 p2:Nat->Option (Nat×Nat)}(h:∀i x,p1 i=some x->p2 i=some x):∀{ps:List (Nat×Value)}{cs cs':List Value},za0 p1 cs ps=some cs'->za0 p2 cs ps=some cs'
 |[],cs,cs',hf=>hf|(i,v)::r,cs,cs',hf=>by
   simp only[za0] at hf ⊢;cases hp:p1 i with
   |none=>rw[hp] at hf;cases hf|some os =>
     rw[hp] at hf;rw[h i os hp];obtain ⟨off,size⟩:=os;simp only at hf ⊢;cases hb:Nat.beq v.cells.size size&&Nat.ble (off+size) cs.length with
     |false=>rw[hb] at hf;cases hf|true=>rw[hb] at hf;exact zhH h hf
theorem zkd(place:Nat->Option (Nat×Nat)):∀(ps:List (Nat×Value))(cs cs':List Value),za0 place cs ps=some cs'->Instr.fill place cs.toArray ps=some cs'.toArray
 |[],cs,cs',h=>by simp only[za0,yAe] at h;subst h;rfl
 |(i,v)::r,cs,cs',h=>by
   simp only[za0] at h;unfold Instr.fill;cases hp:place i with
   |none=>rw[hp] at h;cases h|some os =>obtain ⟨off,size⟩:=os;rw[hp] at h;simp only at h ⊢;obtain ⟨hb,h⟩:=zac h;simp only[yAd,yAP] at hb;have hb1:v.cells.size=size:=yAa hb.1;have hb2:=hb.2;rw[if_neg (by simp[hb1];omega)];have:=zkd place r _ _ h;rw[<-this];congr 1;have hf:=zf3 v.cells.toList cs off 0;rw[yBk] at hf;rw[<-hf,<-Array.foldl_toList];simp
def elB(P:Program)(un:Uni S)(T:TypeId)(u:U):Bool :=
 match P.info? T with
 |some i=>(match i.zero with
   |some z=>Nat.beq i.size (U.size un u)&&Nat.beq z.cells.size (U.size un u)&&Nat.blt 0 (U.size un u)&&Nat.ble i.bytes 32768|none=>false)
 |none=>false
theorem zpR{P:Program}{un:Uni S}{T:TypeId}{u:U}(h:elB P un T u=true):ElOk P un T u:=by
 unfold elB at h;split at h
 ·rename_i i hi;split at h;·rename_i z hz;simp only[yAd] at h;obtain ⟨⟨⟨h1,h2⟩,h3⟩,h4⟩:=h;exact ⟨⟨i,z,hi,hz,yAa h1,yAa h2,by simpa[yAV] using h3,by simpa[yAP] using h4⟩⟩
  ·cases h
 ·cases h
def zdZ:List (Nat×Nat)->List (Nat×Nat)->Bool|[],[]=>true|(a,b)::l,(c,d)::m=>Nat.beq a c&&Nat.beq b d&&zdZ l m|_,_=>false
theorem zbI:∀{l m:List (Nat×Nat)},zdZ l m=true->l=m
 |[],[],_=>rfl|(a,b)::l,(c,d)::m,h=>by simp only[zdZ,yAd] at h;obtain ⟨⟨h1,h2⟩,h3⟩:=h;rw[yAa h1,yAa h2,zbI h3]
 |[],_::_,h=>by cases h
 |_::_,[],h=>by cases h
def zgV(P:Program)(fs:List Field)(l:List (Nat×Nat)):Bool :=
 (match fs.mapM (λf=>(P.info? f.type).map λi=>(f.offset,i.size)) with
 |some m=>zdZ m l|none=>false)&&l.all λp=>Nat.blt 0 p.2
def kdB(P:Program)(un:Uni S)(d:TypeDesc)(r:TyRow S):Bool :=
 match r.kd,d,r.elem with
 |0,_,none=>true|1,.string,none=>true|5,.bool,none=>true|2,.slice T,some (T',u)=>Nat.beq T T'&&elB P un T u|3,.struct fs,none=>zgV P fs.toList r.fields|4,.array n el,none=>(match P.info? el with
   |some i=>Nat.blt 0 i.size&&zdZ ((List.range n).map λj=>(j*i.size,i.size)) r.fields|none=>false)
 |_,_,_=>false
def zpU(r:TyRow S)(d:TypeDesc):Bool:=match r.code,d with
 |some (.int k),.int k'=>(zhD k k').isSome|some (.int _),_=>false|_,_=>true
def zB(z:Value)(agg:Bool):Bool:=match z with
 | .agg _=>agg| .tuple _=>false|_=> !agg
def rowB(P:Program)(un:Uni S)(d:TypeDesc)(r:TyRow S):Bool :=
 zpU r d&&(bif r.agg then znb d else !znb d&&Nat.beq r.n 1)&&kdB P un d r&&(match r.code with
  |some (.st n)=>r.agg&&Nat.beq r.n (un.codes n).length|_=>true)
def stB:U->Bool| .st _=>true|_=>false
def arrB(P:Program)(un:Uni S)(d:TypeDesc)(r:TyRow S):Bool:=match r.arr with
 |none=>true|some (T,u)=>Nat.beq r.kd 4&&(match d with | .array _ T'=>Nat.beq T T' | _=>false)&&(match P.info? T,P.underlying T with
   |some i,some d'=>Nat.beq i.size (U.size un u)&&zjJ (znb d') (stB u)&&Nat.blt 0 (U.size un u)|_,_=>false)
theorem zpm{a b:Bool}(h:zjJ a b=true):a=b:=by cases a<;>cases b<;>simp_all [zjJ]
theorem zqq{P:Program}{un:Uni S}{t T:TypeId}{u:U}{n:Nat}(hd:P.underlying t=some (.array n T)){i:TypeInfo}{d':TypeDesc}(hi:P.info? T=some i)(hd':P.underlying T=some d')(hs:i.size=U.size un u)(ha:znb d'=stB u)(hp:0<U.size un u){k:Nat}(hk:k<n)(cs:List Value)(kd:IntKind)(w:World)(hl:k*U.size un u+U.size un u<=cs.length) :
  (Instr.index t (.agg cs.toArray) (.int kd (k:Int))).run P w= .ok (zbh u ((cs.drop (k*U.size un u)).take (U.size un u))) w:=by
 have hag:∀w,(isAgg T).run P w= .ok (stB u) w:=by intro w;unfold isAgg;rw[Sem.run_bind,run_underlying hd' w];cases d'<;>simp_all [znb]
 have h1:(Instr.index t (.agg cs.toArray) (.int kd (k:Int))).run P w=(part T cs.toArray (k*U.size un u)).run P w:=by simp[Instr.index,asIntOf,run_underlying hd,Go.sizeOf,typeInfo,hi,hs,hk]
 rw[h1];unfold part;rw[Sem.run_bind,hag w];cases u with
 |st m =>simp[stB,Go.sizeOf,typeInfo,hi,hs,zbh]|_ =>
   simp only[stB,U.size] at hl hp ⊢;have hlt:k<cs.length:=by omega
   simp[zbh,hlt,List.take_one,List.head?_drop]
theorem zpz{P:Program}{un:Uni S}{t:TypeId}{r:TyRow S}{d:TypeDesc}{z:Value}(hd:P.underlying t=some d)(hz:(P.info? t).bind (·.zero)=some z)(hn:(P.info? t).map (·.size)=some r.n)(hzc:Nat.beq z.cells.size r.n=true)
  (hzz:r.zero=z.cells.toList.map zaD) (hc:rowB P un d r=true) (hzb:zB z r.agg=true) (harr:arrB P un d r=true) (hmp:∀kt k vt v,r.mp=some (kt,k,vt,v)->d= .map kt vt/\KeyOk P un kt k)
  (heq:∀n,r.code=some (.st n)->((un.codes n).all U.scalar&&Nat.beq r.fields.length (un.codes n).length)=true->∀D w t1 t2 c1 c2 op x y,DR un D w (un.codes n) t1 c1->DR un D w (un.codes n) t2 c2->∀b,(op= .eql/\b=eqC (un.codes n) t1 t2\/op= .neq/\b= !eqC (un.codes n) t1 t2) ->
   (eqGuard op t x y (.agg c1.toArray) (.agg c2.toArray)).run P w= .ok () w/\(binOp op t (.agg c1.toArray) (.agg c2.toArray)).run P w= .ok (.bool b) w):RowOk P un t r:=by
 unfold rowB at hc;simp only[yAd] at hc;obtain ⟨⟨⟨h0,h1⟩,h2⟩,h3⟩:=hc;refine ⟨hn,λha=>⟨d,hd,by rw[ha] at h1;exact h1⟩,λha=>?_,⟨z,hz,yAa hzc,hzz⟩,λhk=>?_,λhk=>?_,λhk=>?_,λT u he=>?_,λhk f dd s hf a w=>?_,λhk f dd s hf a k w=>?_,λhk z' hz' ps cs w hfl=>?_,λn hcd=>?_,λk hcd=>?_,⟨d,hd⟩,λz' hz'=>?_,λT u ha n off s' hf=>?_,λkt k vt v hm=>by obtain ⟨rfl,h⟩:=hmp kt k vt v hm;exact ⟨hd,h⟩,heq⟩;·rw[ha] at h1;simp only[cond_false,yAd,yA0] at h1;refine ⟨yAa h1.2,λw=>?_⟩;unfold isAgg;rw[Sem.run_bind,run_underlying hd w];cases d<;>simp_all [znb]
 ·unfold kdB at h2;rw[hk] at h2;split at h2<;>first|(rename_i hx _;cases hx;done)|simp_all
 ·unfold kdB at h2;rw[hk] at h2;split at h2<;>first|(rename_i hx _;cases hx;done)|simp_all
 ·unfold kdB at h2;rw[hk] at h2;split at h2<;>first|(simp_all;done)|skip
  rename_i T T' u _ he;simp only[yAd] at h2;have:=yAa h2.1;subst this;exact ⟨T,u,he,hd,zpR h2.2⟩
 ·unfold kdB at h2;rw[he] at h2;split at h2<;>first|assumption|(simp_all;done)
 ·have hfs:∃fs,d= .struct fs/\zgV P fs.toList r.fields=true:=by
   unfold kdB at h2;rw[hk] at h2;split at h2<;>first|(simp_all;done)|exact ⟨_,rfl,h2⟩
  clear h2;obtain ⟨fs,rfl,h2⟩:=hfs;unfold zgV at h2;simp only[yAd,yAO,yAV] at h2;obtain ⟨h2,hpos⟩:=h2;split at h2;·rename_i m hm;have:=zbI h2;subst this;obtain ⟨fd,g1,g2⟩:=zkI hm f _ hf;have hs:=hpos _ (yAb hf);simp only[yAT,Prod.mk.injEq] at g2;obtain ⟨i,g3,g4,g5⟩:=g2;subst g4 g5;obtain ⟨k,hk'⟩:∃k,i.size=k+1:=⟨i.size - 1,by simp only at hs;omega⟩;simp[Instr.fieldAt,run_underlying hd,show fs[f]?=some fd by simpa using g1,fieldPlace,Go.sizeOf,typeInfo,g3,hk',Instr.sureAddr]
  ·cases h2
 ·have hfs:∃n el i,d= .array n el/\P.info? el=some i/\0<i.size/\((List.range n).map λj=>(j*i.size,i.size))=r.fields:=by
   unfold kdB at h2;rw[hk] at h2;split at h2<;>first|(simp_all;done)|skip
   rename_i n el _ _;split at h2;·rename_i i hi;simp only[yAd,yAV] at h2;exact ⟨n,el,i,rfl,hi,h2.1,zbI h2.2⟩
   ·cases h2
  obtain ⟨n,el,i,rfl,hi,hpos,hfl⟩:=hfs;rw[<-hfl] at hf;simp only[yAg,yAT,Prod.mk.injEq] at hf;obtain ⟨j,g1,g2,g3⟩:=hf;obtain ⟨hlt,hj⟩:=yAc.1 g1;simp only[yB2] at hj;simp only[List.length_range] at hlt;subst hj g2 g3;simp[Instr.indexAt,asIntOf,run_underlying hd,Instr.sureAddr,Go.sizeOf,typeInfo,hi,hlt]
 ·rcases hk with hk|hk
  ·have hfs:∃fs,d= .struct fs/\zgV P fs.toList r.fields=true:=by
    unfold kdB at h2;rw[hk] at h2;split at h2<;>first|(simp_all;done)|exact ⟨_,rfl,h2⟩
   clear h2;obtain ⟨fs,rfl,h2⟩:=hfs;unfold zgV at h2;simp only[yAd] at h2;obtain ⟨h2,_⟩:=h2;split at h2
   ·rename_i m hm;have:=zbI h2;subst this;refine run_build w t ps.toArray cs.toArray ?_;unfold Program.built;cases hi:P.info? t with
    |none=>simp[hi] at hz'|some it =>simp only[hi,yAx] at hz';simp only[hd,hz',hm];have:=zkd _ ps _ cs hfl;simpa using this
   ·cases h2
  ·have hfs:∃n el i,d= .array n el/\P.info? el=some i/\0<i.size/\((List.range n).map λj=>(j*i.size,i.size))=r.fields:=by
    unfold kdB at h2;rw[hk] at h2;split at h2<;>first|(simp_all;done)|skip
    rename_i n el _ _;split at h2;·rename_i i hi;simp only[yAd,yAV] at h2;exact ⟨n,el,i,rfl,hi,h2.1,zbI h2.2⟩
    ·cases h2
   obtain ⟨n,el,i,rfl,hi,hpos,hfl2⟩:=hfs;refine run_build w t ps.toArray cs.toArray ?_;unfold Program.built;cases hit:P.info? t with
   |none=>simp[hit] at hz'|some it =>simp only[hit,yAx] at hz';simp only[hd,hz',hi];have:=zkd (λi'=>some (i'*i.size,i.size)) ps _ cs (zhH (λk x hx=>by rw[<-hfl2,yAg,yAT] at hx;obtain ⟨j,hj,rfl⟩:=hx;obtain ⟨hlt,hj⟩:=yAc.1 hj;simp only[yB2] at hj;rw[hj]) hfl);simpa using this
 ·rw[hcd] at h3;simp only[yAd] at h3;exact ⟨h3.1,yAa h3.2⟩
 ·unfold zpU at h0;rw[hcd] at h0;cases d with
  |int k' =>
    simp only at h0;cases hk:zhD k k' with
    |none=>rw[hk] at h0;cases h0|some x=>rw[x.down];exact hd
  |_=>cases h0
 ·rw[hz] at hz';cases hz';unfold zB at hzb;refine ⟨λha=>?_,λha=>?_⟩;·rw[ha] at hzb;cases z<;>first|exact ⟨_,rfl⟩|cases hzb
  ·rw[ha] at hzb;cases z<;>first|(cases hzb;done)|rfl
 ·unfold arrB at harr;rw[ha] at harr;simp only[yAd] at harr;obtain ⟨⟨hk4,hd4⟩,hi4⟩:=harr;have hk4:=yAa hk4;have hfs:∃n el i,d= .array n el/\P.info? el=some i/\0<i.size/\((List.range n).map λj=>(j*i.size,i.size))=r.fields:=by
   unfold kdB at h2;rw[hk4] at h2;split at h2<;>first|(simp_all;done)|skip
   rename_i n el _ _;split at h2;·rename_i i hi;simp only[yAd,yAV] at h2;exact ⟨n,el,i,rfl,hi,h2.1,zbI h2.2⟩
   ·cases h2
  obtain ⟨m,el,i,rfl,hi,hpos,hfl⟩:=hfs;have hT:=yAa hd4;subst hT;rw[<-hfl] at hf;simp only[yAg,yAT,Prod.mk.injEq] at hf;obtain ⟨j,g1,g2,g3⟩:=hf;obtain ⟨hlt,hj⟩:=yAc.1 g1;simp only[yB2] at hj;simp only[List.length_range] at hlt;subst hj g2 g3;rw[hi] at hi4;split at hi4;·rename_i i' d' hi' hd';cases hi';simp only[yAd,yAV] at hi4;have hs:=yAa hi4.1.1;refine ⟨hs,λcs k w hl=>?_⟩;rw[hs] at hl ⊢;exact zqq hd hi hd' hs (zpm hi4.1.2) hi4.2 hlt cs k w hl
  ·cases hi4
end Pe
end
