/- PROVED HERE: a part of the seat's proofs; see the text that holds the claim's theorem. -/
import Derived.Shelf.SlSortCmp.NoneTotal
import Derived.Shelf.Sort.Plain
import Derived.Test.YtojfjgjdheiffaaGreatDoorPeE
import Derived.Test.YtojfjgjdheiffaaGreatDoorPeDr
set_option maxRecDepth 100000
section
namespace Pe
open Go Go.RowKit Go.Sort
variable{S:Nat->Type}
structure OrdOn {α:Type} (l:List α) (c:α->α->Int):Prop where
 irr:∀x∈l,¬c x x<0
 trans:∀x∈l,∀y∈l,∀z∈l,c x y<0->c y z<0->c x z<0
 eq:∀x∈l,∀y∈l,¬c x y<0->¬c y x<0->x=y
theorem OrdOn.sub{α:Type}{l l':List α}{c:α->α->Int}(h:OrdOn l c)(hs:∀x∈l',x∈l):OrdOn l' c :=
 ⟨λx hx=>h.irr x (hs x hx),λx hx y hy z hz=>h.trans x (hs x hx) y (hs y hy) z (hs z hz),λx hx y hy=>h.eq x (hs x hx) y (hs y hy)⟩
theorem OrdOn.ntrans{α:Type}{l:List α}{c:α->α->Int}(h:OrdOn l c){x y z:α}(hx:x∈l)(hy:y∈l)(hz:z∈l)(h1:¬c x y<0)(h2:¬c y z<0):¬c x z<0:=by
 grind[trans,eq]
def zyh{α:Type}(c:α->α->Int)(x:α):List α->List α|[]=>[x]|y::r=>if c y x<0 then y::zyh c x r else x::y::r
def zxu{α:Type}(c:α->α->Int):List α->List α|[]=>[]|x::r=>zyh c x (zxu c r)
def zq3{α:Type}(c:α->α->Int)(l:List α):Prop:=l.Pairwise λx y=>¬c y x<0
theorem zwN{α:Type}(c:α->α->Int)(x:α):∀l:List α,(zyh c x l).Perm (x::l)
 |[]=>List.Perm.refl _|y::r=>by
   unfold zyh;split;·exact ((zwN c x r).cons y).trans (List.Perm.swap x y r)
   grind[List.Perm.refl]
theorem zwy{α:Type}(c:α->α->Int):∀l:List α,(zxu c l).Perm l|[]=>List.Perm.refl _|x::r=>(zwN c x _).trans ((zwy c r).cons x)
theorem zxi{α:Type}{c:α->α->Int}{x:α}:∀{l:List α},OrdOn (x::l) c->zq3 c l->zq3 c (zyh c x l)
 |[],_,_=>yBs _ _|y::r,h,ha=>by
   obtain ⟨h1,h2⟩:=yBU.1 ha;unfold zyh;split
   ·rename_i Ks;refine yBU.2 ⟨λz hz=>?_,zxi (h.sub (by grind)) h2⟩;rcases yAm.1 ((zwN c x r).mem_iff.1 hz) with rfl|hz
    ·intro h3;exact h.irr y (by simp) (h.trans y (by simp) _ (by simp) y (by simp) Ks h3)
    grind
   ·rename_i K5;refine yBU.2 ⟨λz hz=>?_,ha⟩;rcases yAm.1 hz with rfl|hz;·exact K5
    ·exact h.ntrans (by simp[hz]) (by simp) (by simp) (h1 z hz) K5
theorem zwL{α:Type}{c:α->α->Int}:∀{l:List α},OrdOn l c->zq3 c (zxu c l)
 |[],_=>List.Pairwise.nil|x::r,h=>zxi (h.sub (by
    intro z hz;rcases yAm.1 hz with rfl|hz;·simp
    ·exact yB6 _ ((zwy c r).mem_iff.1 hz))) (zwL (h.sub λz hz=>yB6 _ hz))
theorem zjm{α:Type}{c:α->α->Int}:∀{a b:List α},OrdOn a c->zq3 c a->zq3 c b->a.Perm b->a=b
 |[],b,_,_,_,hp=>(List.Perm.nil_eq hp)|x::r,[],_,_,_,hp=>by simp_all
 |x::r,y::t,h,ha,hb,hp=>by
   obtain ⟨a1,a2⟩:=yBU.1 ha;obtain ⟨b1,b2⟩:=yBU.1 hb;have hx:x∈y::t:=hp.mem_iff.1 (by simp);have hy:y∈x::r:=hp.mem_iff.2 (by simp);have hxy:x=y:=by
    rcases yAm.1 hx with e|hx2;·exact e
    ·rcases yAm.1 hy with e|hy2;·exact e.symm
     ·exact h.eq x (by simp) y hy (b1 x hx2) (a1 y hy2)
   subst hxy;rw[zjm (h.sub λz hz=>yB6 _ hz) a2 b2 (List.perm_cons x |>.1 hp)]
theorem zwV{α:Type}{c:α->α->Int}{l l':List α}(h:OrdOn l c)(hp:l'.Perm l)(ha:zq3 c l'):zxu c l=l' :=
 zjm (h.sub λ_ hx=>(zwy c l).mem_iff.1 hx) (zwL h) ha ((zwy c l).trans hp.symm)
section
variable{P:Program}{un:Uni S}{D:Dat}{w:World}
def zx1(o:Orc S)(g:FuncId)(u:U)(x y:El S u):Int:=match o.d g [inj u x,inj u y] [.int .i64] with
 |some r=>eI (hd r)|none=>0
def zx3(o:Orc S)(g:FuncId)(u:U)(l:List (El S u)):Prop:=l.length<=lim/\(∀x∈l,∀y∈l,(o.d g [inj u x,inj u y] [.int .i64]).isSome=true)/\OrdOn l (zx1 o g u)
open Classical in
noncomputable def zxs(o:Orc S)(g:FuncId)(u:U)(l:List (El S u)):Option (List (El S u)):=if zx3 o g u l then some (zxu (zx1 o g u) l) else none
theorem zxO{o:Orc S}{g:FuncId}{u:U}{l l':List (El S u)}{c:El S u->El S u->Int}(h:∀x∈l,∀y∈l,@Eq (Option (Int×J)) (o.d g [inj u x,inj u y] [.int .i64]) (some (c x y,())))(ho:OrdOn l c)(hlim:l.length<=lim)(hl:zxu c l=l'):zxs o g u l=some l':=by
 have hc:∀x∈l,∀y∈l,zx1 o g u x y=c x y:=by intro x hx y hy;unfold zx1;have:=h x hx y hy;have h2:o.d g [inj u x,inj u y] [.int .i64]=some (c x y,()):=this;rw[h2];rfl
 have ho2:OrdOn l (zx1 o g u):=⟨λx hx=>by grind[OrdOn.irr],λx hx y hy z hz h1 h2=>by
  grind[OrdOn.trans],λx hx y hy h1 h2=>by
  grind[OrdOn.eq]⟩
 have hk:zx3 o g u l:=⟨hlim,λx hx y hy=>by have h2:o.d g [inj u x,inj u y] [.int .i64]=some (c x y,()):=h x hx y hy;rw[h2];rfl,ho2⟩;unfold zxs;rw[if_pos hk];congr 1;refine zwV ho2 (hl▸zwy c l) ?_;have ha:zq3 c l':=hl▸zwL ho;have hm:∀x∈l',x∈l:=λx hx=>by rw[<-hl] at hx;exact (zwy c l).mem_iff.1 hx
 refine yBg ?_ ha;grind
def zxK(P:Program)(f g:FuncId)(k:Nat)(arg:List Value->Value):Prop :=
 ∀(α:Type)[Inhabited α](enc:α->List Value)(cf:α->α->Int),(∀x,(enc x).length=k)->(∀x,∀v∈enc x,v.oneCell'=true)->SWO (Go.Proofs.ltOf cf)->∀(blk cap:Nat)(d:Array α)(w:World),
  (∀(m:Nat)(os:Array Obj)(dk:Array α),dk.size=d.size->∀x y:α,Calls P g #[arg (enc x),arg (enc y)] (Go.Proofs.sortWorldK enc k w blk 0 m dk os) λe w'=>e= .returned (.int .i64 (cf x y))/\∃q os',w'=grow ((Go.Proofs.sortWorldK enc k w blk 0 m dk os).drewN q) os') ->
  HoldsK enc k w blk 0 d->blk<w.heap.size->d.size<4611686018427387904 ->
  Calls P f #[.slice (some ⟨blk,0,none⟩) d.size cap,.func (.func g) #[] #[]] w λe w'=>e= .returned (.tuple #[])/\∃d' n os,PermIn 0 d.size d d'/\SortedIn (Go.Proofs.ltOf cf) 0 d.size d'/\w'=Go.Proofs.sortWorldK enc k w blk 0 n d' os
theorem zwU{α:Type}[Inhabited α]{enc:α->List Value}{k:Nat}{w:World}{blk m:Nat}{dk:Array α}{os:Array Obj}{i:Nat}(hi:i<w.heap.size)(hb:i≠blk):(Go.Proofs.sortWorldK enc k w blk 0 m dk os).heap[i]?=w.heap[i]? :=by show ((w.heap.modify blk _)++os)[i]?=_;rw[Array.getElem?_append,if_pos (by grind),yB1,if_neg (Ne.symm hb)]
theorem zx4{α:Type}[Inhabited α]{enc:α->List Value}{k:Nat}{w:World}{blk m:Nat}{dk:Array α}{os:Array Obj}{cur:Array Value}{T:TypeId}{fz:Nat×Nat}(h:w.heap[blk]?=some (.cells cur T fz)):(Go.Proofs.sortWorldK enc k w blk 0 m dk os).heap[blk]?=some (.cells (putCells id 0 (flatK enc k dk) cur) T fz):=by have hi:=(yAE.1 h).1;show ((w.heap.modify blk _)++os)[blk]?=_;rw[Array.getElem?_append,if_pos (by grind),yB1,if_pos rfl,h];rfl
theorem zxd{α:Type}[Inhabited α]{enc:α->List Value}{k:Nat}{w:World}{blk m:Nat}{dk:Array α}{os:Array Obj}:(Go.Proofs.sortWorldK enc k w blk 0 m dk os).heap.size=w.heap.size+os.size:=by show ((w.heap.modify blk _)++os).size=_;simp
theorem zwZ{F cur:Array Value}(h:F.size<=cur.size):(putCells id 0 F cur).toList.take F.size=F.toList:=by
 apply yAW;intro i;rw[yAD];by_cases hi:i<F.size;·rw[if_pos hi];simp only[Array.getElem?_toList,putCells,Array.getElem?_mapIdx,yAA,yAJ,hi,and_self,if_true,id_eq,Nat.sub_zero];rw[yCe (show i<cur.size by omega),yAg,yCe hi,getElem!_pos F i hi]
 simp_all[if_neg]
theorem zye{α:Type}[Inhabited α]{enc:α->List Value}{k:Nat}(hk:∀x,(enc x).length=k)(d:Array α){i:Nat}(hi:i<d.size):((flatK enc k d).toList.drop (i*k)).take k=enc d[i]! :=by
 have hle:i*k+k<=d.size*k:=by have:=yAs k (show i+1<=d.size from hi);simp_all[yAz]
 apply yAW;intro c;rw[yAD];by_cases hc:c<k
 ·rw[if_pos hc,yAu,Array.getElem?_toList,yCe (by grind[size_flatK]),<-getElem!_pos,get_flatK _ _ _ _ (by omega)];have e1:(i*k+c) / k=i:=(blk_iff k i _ (by omega)).1 ⟨by omega,by omega⟩;simp_all[Nat.mod_eq_sub_div_mul]
 simp_all[if_neg]
theorem zxB{orc:Orc S}(hso:K4 P un orc){f g:FuncId}{u:U}{T:TypeId}{l l':List (El S u)}(hcon:zxK P f g (U.size un u) (zbF u))
  (Q1:∀(p:Option Addr)(cap:Nat)(fv:Value)(w:World),Calls P f #[.slice p 0 cap,fv] w λe w'=>e= .returned (.tuple #[])/\w'=w) (h:zxs orc g u l=some l'):zyj P un f u T [.func (.func g) [] []] l l':=by
 intro D w v xs vs htab hD K7 hfree hseg K8;unfold zxs at h;split at h
 case isFalse=>cases h
 rename_i hok;simp only[yAf] at h;have hvs:vs=[.func (.func g) #[] #[]]:=by
  match vs,K8 with
  |[],K8=>simp[Ke] at K8|[y],K8 =>
    simp only[Ke,Rep,and_true] at K8;obtain ⟨a,c,rfl,ha,hc⟩:=K8;cases a with
    |nil=>cases c with
      |nil=>rfl|cons=>simp[Ke] at hc
    |cons=>simp[Ke] at ha
  |_::_::_,K8=>simp[Ke] at K8
 subst hvs;by_cases hn:l.length=0
 ·have hl:l=[]:=yAU.1 hn;subst hl;have hl':l'=[]:=h.symm;subst hl';obtain ⟨Kq,hh⟩:=K7;have hx:xs=[]:=yAU.1 (by rw[Kq];simp);subst hx;obtain ⟨p,cap,rfl⟩:∃p cap,v= .slice p 0 cap:=by
   rcases hh with ⟨rfl,_⟩|⟨gb,cap,cur,rfl,_⟩;·exact ⟨_,_,rfl⟩
   ·exact ⟨_,_,rfl⟩
  refine (Q1 p cap _ w).mono λe w' hz=>?_;obtain ⟨rfl,rfl⟩:=hz;exact ⟨rfl,Wl.Grow.refl _ _,[],rfl,⟨Kq,hh⟩,λi x hi=>by simp at hi⟩
 obtain ⟨Kq,⟨_,hn0⟩|⟨blk,cap,cur,rfl,_,hg,hnc,hcm,hcs,htk⟩⟩:=K7;·exact absurd hn0 hn
 have Qh:blk<w.heap.size:=(yAE.1 hg).1
 let n:=l.length
 let k:=U.size un u
 have:Inhabited (Fin n):=⟨⟨0,Nat.pos_of_ne_zero hn⟩⟩
 let enc:Fin n->List Value:=λi=>(xs.drop (i.val*k)).take k
 let cf:Fin n->Fin n->Int:=λi j=>zx1 orc g u l[i] l[j]
 have hlenk:∀i:Fin n,(enc i).length=k:=by
  intro i;have hle:i.val*k+k<=n*k:=by have:=yAs k (show i.val+1<=n from i.isLt);rwa[yAz,yAQ] at this
  simp only[enc,yAY,yAL,Kq];exact yBV (by show k<=n*k - _;omega)
 have hdr:∀i:Fin n,DR un D w [u] (sg l[i]) (enc i):=λi=>hseg i.val _ (by simp);have hO:SWO (Go.Proofs.ltOf cf):=by
  have hm:∀i:Fin n,l[i]∈l:=λi=>yAy _;refine ⟨λx=>?_,λx y z h1 h2=>?_,λx y z h1 h2=>?_⟩;·simp only[Go.Proofs.ltOf,decide_eq_false_iff_not];exact hok.2.2.irr _ (hm x)
  ·simp only[Go.Proofs.ltOf,decide_eq_true_eq] at h1 h2 ⊢;exact hok.2.2.trans _ (hm x) _ (hm y) _ (hm z) h1 h2
  ·simp only[Go.Proofs.ltOf,decide_eq_false_iff_not] at h1 h2 ⊢;exact hok.2.2.ntrans (hm x) (hm y) (hm z) h1 h2
 let d:Array (Fin n):=Array.ofFn λi=>i
 have hds:d.size=n:=Array.size_ofFn;have hd:∀i (hi:i<n),d[i]! =⟨i,hi⟩:=λi hi=>by rw[getElem!_pos d i (by rw[hds];exact hi)];simp[d]
 have K5:∀(m:Nat)(os:Array Obj)(dk:Array (Fin n)),Ge D w D (Go.Proofs.sortWorldK enc k w blk 0 m dk os):=λm os dk =>
  (.of (λ_ _ h=>h) λi o hi=>(zwU (hD i o hi) λhe=>by subst he;exact hfree _ rfl o hi))
 have Qp:∀t (ht:t<n*k),w.cell? ⟨blk,t,none⟩=some (xs[t]'(by rw[Kq];exact ht)):=by
  intro t ht;have h1:cur[t]?=some (xs[t]'(by rw[Kq];exact ht)):=by rw[<-Array.getElem?_toList,<-yAt (show t<n*k from ht),htk,yAe]
  simp only[World.cell?,hg];exact h1
 have hH:HoldsK enc k w blk 0 d:=by
  intro t ht;rw[size_flatK,hds] at ht
  have hk0:0<k:=by rcases yCg k with h0|h0;· rw[h0] at ht;simp at ht
                   ·exact h0
  refine ⟨?_,by simp[World.frozen?,hg]⟩;rw[yAJ,Qp t ht];refine congrArg some (Eq.trans ?_ (get_flatK enc k d t (by rw[hds];exact ht)).symm);have ht2:t / k<n:=Nat.div_lt_of_lt_mul (by rwa[Nat.mul_comm] at ht);rw[hd _ ht2];have hm:t % k<(enc ⟨t / k,ht2⟩).length:=by rw[hlenk];exact Nat.mod_lt _ hk0
  rw[getElem!_pos (enc ⟨t / k,ht2⟩) (t % k) hm];have he:(t / k)*k+t % k=t:=by rw[Nat.mul_comm];exact Nat.div_add_mod t k
  simp only[enc,List.getElem_take,List.getElem_drop,he]
 have hcall:=hcon (Fin n) enc cf hlenk (λx v hv=>(hdr x).one v hv) hO blk cap d w (λm os dk hdk x y=>?_) hH Qh (by rw[hds];have:=hok.1;unfold lim at this;show l.length<_;omega)
 ·rw[hds] at hcall;refine hcall.mono λe w' hz=>?_;obtain ⟨rfl,d',m,os,hp,hs,rfl⟩:=hz;obtain ⟨hp1,_,hp3⟩:=hp;have hd's:d'.size=n:=hp1.trans hds;have hperm:d'.toList.Perm d.toList:=by
   have e0:∀(z:Array (Fin n))(m:Nat),z.size=m->(z.extract 0 m).toList=z.toList:=λz m hz=>by subst hz;simp
   rwa[e0 d' n hd's,e0 d n hds] at hp3
  have hmapd:d.toList.map (λi:Fin n=>l[i])=l:=by
   apply yAW;intro i;simp only[yAh,Array.getElem?_toList,d,Array.getElem?_ofFn];by_cases hi:i<l.length;·rw[dif_pos hi,yAe hi];rfl
   ·rw[dif_neg hi,yAZ (Nat.le_of_not_lt hi)];rfl
  have hl':d'.toList.map (λi:Fin n=>l[i])=l':=by
   rw[<-h];refine (zwV hok.2.2 ?_ ?_).symm;·have:=hperm.map λi:Fin n=>l[i];rwa[hmapd] at this
   ·unfold zq3;rw[yA6,yAH];intro i j hi hj hij;have hj2:j<n:=by rw[<-hd's];simpa using hj
    have:=hs i j (yAA _) hij hj2;rw[getElem!_pos d' j (by rw[hd's];exact hj2),getElem!_pos d' i (by rw[hd's];omega)] at this;simpa[Go.Proofs.ltOf,cf] using this
  have hll:l'.length=n:=by rw[<-hl'];simp[hd's]
  refine ⟨rfl,⟨rfl,rfl,rfl,by rw[zxd];omega,λi hi hne=>zwU hi λhe=>hne (by subst he;simp[Value.ownBlock])⟩,(flatK enc k d').toList,hll,?_,?_⟩
  ·have hFs:(flatK enc k d').size=n*k:=(by rw[size_flatK,hd's]);refine ⟨by rw[Array.length_toList,hFs,hll],.inr ⟨blk,cap,_,by rw[hll],yAA _,zx4 hg,by rw[hll];exact hnc,hcm,by simp[putCells,hcs],?_⟩⟩;rw[hll,<-hFs];exact zwZ (by rw[hFs,hcs];exact yAs k hnc)
  ·intro i x hi;have hi2:i<d'.size:=by rw[hd's,<-hll];exact (yAc.1 hi).1
   rw[<-hl',yAh,Array.getElem?_toList,yCe hi2,yAg,yAf] at hi;subst hi;show DR un _ _ [u] _ (((flatK enc k d').toList.drop (i*k)).take k);rw[zye hlenk d' hi2,getElem!_pos d' i hi2];exact ((hdr d'[i]).mono (K5 m os d')).mono ⟨λ_ _ h=>.inl h,λ_ _ _=>rfl,λ_ _ _ _ _ h=>h⟩
 ·have hx:=hok.2.1 l[x] (yAy _) l[y] (yAy _);obtain ⟨r,hr⟩:=Option.isSome_iff_exists.1 hx;have hcf:cf x y=eI (Pe.hd r):=by
   show zx1 orc g u l[x] l[y]=_;unfold zx1;rw[hr]
  have hsat:=hso.d g _ _ r hr D (Go.Proofs.sortWorldK enc k w blk 0 m dk os) [zbF u (enc x),zbF u (enc y)] (λt ht=>by
   obtain ⟨q1,q2,q3⟩:=htab t ht;exact ⟨by rw[zxd];omega,by simp,λj v hj=>(World.cell?_of_block (zwU q1 λhe=>q2 (by have he:t.1=blk:=he;rw[he];simp[Value.ownBlock]))).trans (q3 j v hj)⟩) (λi o hi=>by rw[zxd];have:=hD i o hi;omega) (by
   simp only[Ke,and_true];exact ⟨zld ((hdr x).mono (K5 m os dk)),zld ((hdr y).mono (K5 m os dk))⟩)
  refine (Dr.calls_le hsat λe w' ⟨v,h1,_⟩=>⟨v,h1⟩).mono λe w' hz=>?_;obtain ⟨⟨v,rfl,hb,Q9⟩,hdrw⟩:=hz;have hv:v= .int .i64 (eI (Pe.hd r)):=Q9;subst hv;obtain ⟨q,os',rfl⟩:=Dr.grown_of hb hdrw;exact ⟨by rw[hcf],q,os',rfl⟩
end
end Pe
namespace Pe
open Go Go.RowKit Go.Sort
variable{S:Nat->Type}{P:Program}{ρ:Go.Shelf.Ren}
theorem zzS(L:Go.Proofs.SlLaysF0.n6 P ρ){k:Nat}(aE:∀w,(isAgg (ρ.t 24)).run P w= .ok true w)(zE:∀w,(Go.sizeOf (ρ.t 24)).run P w= .ok k w){g:FuncId}(eg:∀args w,(callFunc g args).run P w= .ok (.enter g args) w)(n:Nat):zxK P (ρ.f 6) g k (zbF (.st n)) :=
 λ_ _ enc cf hk h1 hO blk cap d w hc hH hb hs=>Go.Proofs.AnyQ.slices_SortFunc L k aE zE enc hk h1 cf hO g #[] blk 0 cap d w eg hc hH hb hs
end Pe
end
section
namespace Pe
open Go
structure WO {α:Type} (lt:α->α->Bool):Prop where
 asym:∀a b,lt a b=true->lt b a=false
 trans:∀a b c,lt b a=false->lt c b=false->lt c a=false
def Srt{α:Type}(lt:α->α->Bool)(l:List α):Prop:=l.Pairwise λa b=>lt b a=false
variable{α:Type}{lt:α->α->Bool}
theorem Srt.left{a b:List α}(h:Srt lt (a++b)):Srt lt a:=(List.pairwise_append.1 h).1
theorem Srt.right{a b:List α}(h:Srt lt (a++b)):Srt lt b:=(List.pairwise_append.1 h).2.1
theorem Srt.put(hw:WO lt){P Q:List α}{x:α}(h:Srt lt (P++Q))(hQ:∀q∈Q,lt x q=true)(hP:∀p∈P.getLast?,lt x p=false):Srt lt (P++x::Q):=by
 obtain ⟨h1,h2,h3⟩:=List.pairwise_append.1 h;have hPx:∀p∈P,lt x p=false:=by
  intro p hp;rcases List.eq_nil_or_concat P with rfl|⟨P',z,rfl⟩;·cases hp
  ·rw[List.concat_eq_append] at *
   have hz:lt x z=false:=hP z (by simp);rcases yAp.1 hp with hp|hp
   ·have:=(List.pairwise_append.1 h1).2.2 p hp z (by simp);exact hw.trans p z x this hz
   ·simp at hp;subst hp;exact hz
 refine List.pairwise_append.2 ⟨h1,yBU.2 ⟨λq hq=>hw.asym x q (hQ q hq),h2⟩,λp hp y hy=>?_⟩;rcases yAm.1 hy with rfl|hy;·exact hPx p hp
 grind
theorem zzp{R:Type}{f:Int×List α×J->Option ((Int×List α×J)⊕R)}(out:List α->R)(X Y:List α)(x:α)(N:Nat)
  (Qd:∀(P Q:List α)(p:α),P.length+1+Q.length=N->f (((X.length+(P.length+1):Nat):Int),X++(P++[p]++x::Q)++Y,())=if lt x p=true then some (.inl (((X.length+P.length:Nat):Int),X++(P++x::(p::Q))++Y,())) else some (.inr (out (X++(P++[p]++x::Q)++Y))))
  (hend:∀Q:List α,f ((X.length:Int),X++(x::Q)++Y,())=some (.inr (out (X++(x::Q)++Y)))) :
  ∀(n:Nat)(P Q:List α),P.length=n->P.length+Q.length=N->(∀q∈Q,lt x q=true)->∃P' Q',P'++Q'=P++Q/\(∀q∈Q',lt x q=true)/\(∀p∈P'.getLast?,lt x p=false) /\
   zak f (((X.length+P.length:Nat):Int),X++(P++x::Q)++Y,())=some (out (X++(P'++x::Q')++Y))
 |0,P,Q,hn,_,hQ=>by obtain rfl:=yAU.1 hn;exact ⟨[],Q,rfl,hQ,by simp,zaD (by grind)⟩
 |n+1,P,Q,hn,hN,hQ=>by
   rcases List.eq_nil_or_concat P with rfl|⟨P',p,rfl⟩;·simp at hn
   ·rw[List.concat_eq_append] at *
    have hl:(P'++[p]).length=P'.length+1:=(by simp);rw[hl] at hN ⊢;have hs:=Qd P' Q p hN;cases hp:lt x p with
    |true =>
      rw[hp,if_pos rfl] at hs;obtain ⟨P2,Q2,h1,h2,h3,h4⟩:=zzp out X Y x N Qd hend n P' (p::Q) (by simpa using hn) (by simp;omega) (λq hq=>by
       rcases yAm.1 hq with rfl|hq;·exact hp
       ·exact hQ q hq)
      exact ⟨P2,Q2,by rw[h1];simp,h2,h3,by rw[zaR hs,h4]⟩
    |false =>rw[hp,if_neg (by simp)] at hs;exact ⟨P'++[p],Q,rfl,hQ,by simpa using hp,zaD hs⟩
theorem zzo{R:Type}{f:Int×List α×J->Option ((Int×List α×J)⊕R)}(out:List α->R)(X Y:List α)(b:Nat)
  (hround:∀(S T:List α)(x:α),Srt lt S->S≠[]->X.length+S.length+(T.length+1)=b->∃S',Srt lt S'/\S'.Perm (S++[x])/\f (((X.length+S.length:Nat):Int),X++(S++x::T)++Y,())=some (.inl (((X.length+S'.length:Nat):Int),X++(S'++T)++Y,())))
  (hend:∀l:List α,f ((b:Int),l,())=some (.inr (out l))) :
  ∀(T S:List α),Srt lt S->S≠[]->X.length+S.length+T.length=b->∃S',Srt lt S'/\S'.Perm (S++T)/\zak f (((X.length+S.length:Nat):Int),X++(S++T)++Y,())=some (out (X++S'++Y))
 |[],S,hS,_,hb=>by simp only[List.length_nil,yBu] at hb;exact ⟨S,hS,by simp,by simp_all[zaD]⟩
 |x::T,S,hS,hne,hb=>by
   obtain ⟨S',h1,h2,h3⟩:=hround S T x hS hne (by grind);have hl:S'.length=S.length+1:=by rw[h2.length_eq];simp
   obtain ⟨S2,g1,g2,g3⟩:=zzo out X Y b hround hend T S' h1 (by grind) (by grind);exact ⟨S2,g1,g2.trans (by simpa using h2.append_right T),by rw[zaR h3,g3]⟩
theorem zyN(X Y:List α)(p:α):(X++p::Y)[X.length]?=some p:=by simp
theorem zz5(X Y:List α)(p q:α):(X++p::Y).set X.length q=X++q::Y:=by simp
theorem zze(X M Y:List α)(p q:α):((X++p::(M++q::Y)).set X.length q).set (X.length+1+M.length) p=X++q::(M++p::Y):=by rw[zz5];have:=zz5 (X++q::M) Y q p;simp only[yA5,yA3,yAI,yAw] at this;grind
theorem zAk(X M Y:List α)(p q:α):(X++p::(M++q::Y))[X.length+1+M.length]?=some q:=by have:=zyN (X++p::M) Y q;simp only[yA5,yA3,yAI,yAw] at this;grind
theorem zy5{R:Type}{f:Int×List α×J->Option ((Int×List α×J)⊕R)}(out:List α->R)(X M Y:List α)(n:Nat)
  (Qd:∀(A1 A2 B1 B2:List α)(p q:α),A1.length=B1.length->A1.length+(A2.length+1)=n->A2.length=B2.length ->
   f ((A1.length:Int),(X++B1)++p::((A2++M++A1)++q::(B2++Y)),())=some (.inl (((A1.length+1:Nat):Int),(X++B1)++q::((A2++M++A1)++p::(B2++Y)),())))
  (hend:∀l,f ((n:Int),l,())=some (.inr (out l))) :
  ∀(A2 A1 B1 B2:List α),A1.length=B1.length->A2.length=B2.length->A1.length+A2.length=n ->
   zak f ((A1.length:Int),(X++B1)++((A2++M++A1)++(B2++Y)),())=some (out ((X++(B1++B2))++(M++(A1++A2))++Y))
 |[],A1,B1,B2,_,h2,h3=>by have hB:B2=[]:=yAU.1 (by simpa using h2.symm);subst hB;simp only[List.length_nil,yBu] at h3;rw[h3];refine zaD ((hend _).trans ?_);simp
 |p::A2,A1,B1,B2,h1,h2,h3=>by
   cases B2 with
   |nil=>simp at h2|cons q B2 =>have hs:=Qd A1 A2 B1 B2 p q h1 (by simpa using h3) (by simpa using h2);have ih:=zy5 out X M Y n Qd hend A2 (A1++[p]) (B1++[q]) B2 (by simp[h1]) (by simpa using h2) (by simp at h3 ⊢;omega);simp only[yA5,yA3,yAI,yAw,List.length_nil,yBb] at hs ih ⊢;rw[zaR hs];simpa using ih
theorem zzf{R:Type}{f:Int×Int×List α×J->Option ((Int×Int×List α×J)⊕R)}(out:Nat->List α->R)(m t:Nat)
  (hgt:∀X U1 U2 V Y:List α,X.length+(U1.length+U2.length)=m->X.length+(U1.length+U2.length)+V.length+Y.length=t->U1.length=V.length->U2≠[] ->
   f (((U1.length+U2.length:Nat):Int),(V.length:Int),X++((U1++U2)++(V++Y)),())=some (.inl ((U2.length:Int),(V.length:Int),X++(V++(U2++(U1++Y))),())))
  (Ks:∀X U V1 V2 Y:List α,X.length+U.length=m->X.length+U.length+(V1.length+V2.length)+Y.length=t->V2.length=U.length->V1≠[] ->
   f ((U.length:Int),((V1.length+V2.length:Nat):Int),X++(U++((V1++V2)++Y)),())=some (.inl ((U.length:Int),(V1.length:Int),X++(V2++(V1++(U++Y))),())))
  (heq:∀(i:Nat) l,f ((i:Int),(i:Int),l,())=some (.inr (out i l))) :
  ∀(n:Nat)(X U V Y:List α),U.length+V.length<=n->X.length+U.length=m->X.length+U.length+V.length+Y.length=t->U≠[]->V≠[] ->
   ∃X' A B Y':List α,A.length=B.length/\X'.length+A.length=m/\X'++(B++(A++Y'))=X++(V++(U++Y)) /\
    zak f ((U.length:Int),(V.length:Int),X++(U++(V++Y)),())=some (out A.length (X'++(A++(B++Y'))))
 |0,X,U,V,Y,hn,_,_,hU,_=>by
   have:U.length=0:=by omega
   exact absurd (yAU.1 this) hU
 |n+1,X,U,V,Y,hn,hm,ht,hU,hV=>by
   have hU1:0<U.length:=List.length_pos_iff.2 hU;have hV1:0<V.length:=List.length_pos_iff.2 hV;rcases yBL U.length V.length with h|h|h
   ·have e:V=V.take (V.length - U.length)++V.drop (V.length - U.length):=(List.take_append_drop _ _).symm;have l1:(V.take (V.length - U.length)).length=V.length - U.length:=(by simp);have l2:(V.drop (V.length - U.length)).length=U.length:=(by simp;omega);generalize V.take (V.length - U.length)=V1 at e l1;generalize V.drop (V.length - U.length)=V2 at e l2;have hne:V1≠[]:=by intro h0;rw[h0] at l1;simp at l1;omega
    have hne2:V2≠[]:=(by intro h0;rw[h0] at l2;simp at l2;omega);have hs:=Ks X U V1 V2 Y hm (by omega) l2 hne;obtain ⟨X',A,B,Y',g1,g2,g3,g4⟩:=zzf out m t hgt Ks heq n X V2 V1 (U++Y) (by omega) (by omega) (by simp;omega) hne2 hne;refine ⟨X',A,B,Y',g1,g2,by rw[g3,e];simp,?_⟩;have hl:V.length=V1.length+V2.length:=(by rw[e];simp);rw[hl]
    conv=>lhs;rw[e]
    rw[zaR hs,<-l2,g4]
   ·have:(U.length:Int)=(V.length:Int):=by rw[h]
    refine ⟨X,U,V,Y,h,hm,rfl,?_⟩;rw[<-this];exact zaD (heq _ _)
   ·have e:U=U.take V.length++U.drop V.length:=(List.take_append_drop _ _).symm;have l1:(U.take V.length).length=V.length:=(by simp;omega);have l2:(U.drop V.length).length=U.length - V.length:=(by simp);generalize U.take V.length=U1 at e l1;generalize U.drop V.length=U2 at e l2;have hne:U2≠[]:=by intro h0;rw[h0] at l2;simp at l2;omega
    have hne1:U1≠[]:=(by intro h0;rw[h0] at l1;simp at l1;omega);have hs:=hgt X U1 U2 V Y (by omega) (by omega) l1 hne;obtain ⟨X',A,B,Y',g1,g2,g3,g4⟩:=zzf out m t hgt Ks heq n (X++V) U2 U1 Y (by omega) (by simp;omega) (by simp;omega) hne hne1;refine ⟨X',A,B,Y',g1,g2,by rw[g3,e];simp,?_⟩;have hl:U.length=U1.length+U2.length:=(by rw[e];simp);rw[hl]
    conv=>lhs;rw[e]
    rw[zaR hs,<-l1];simpa using g4
end Pe
end
section
namespace Pe
open Go
variable{α:Type}{lt:α->α->Bool}
theorem WO.refl(hw:WO lt)(a:α):lt a a=false:=by
 cases h:lt a a with
 |false=>rfl|true=>exact (hw.asym a a h).symm.trans h |>.symm▸rfl
theorem Srt.le_last(hw:WO lt){P:List α}(h:Srt lt P){x:α}(hx:x∈P):∃z,P.getLast? =some z/\lt z x=false:=by
 rcases List.eq_nil_or_concat P with rfl|⟨P',z,rfl⟩;·cases hx
 ·rw[List.concat_eq_append] at *
  refine ⟨z,by simp,?_⟩;rcases yAp.1 hx with hx|hx;·exact (List.pairwise_append.1 h).2.2 x hx z (by simp)
  simp_all[WO.refl]
theorem Srt.head_le(hw:WO lt){Q:List α}(h:Srt lt Q){y:α}(hy:y∈Q):∃z,Q.head? =some z/\lt y z=false:=by
 cases Q with
 |nil=>cases hy|cons z Q =>
   refine ⟨z,rfl,?_⟩;rcases yAm.1 hy with rfl|hy;·exact hw.refl _
   ·exact (yBU.1 h).1 y hy
theorem Srt.join(hw:WO lt){P Q:List α}(hP:Srt lt P)(hQ:Srt lt Q)(h:∀x∈P.getLast?,∀y∈Q.head?,lt y x=false):Srt lt (P++Q):=by refine List.pairwise_append.2 ⟨hP,hQ,λx hx y hy=>?_⟩;obtain ⟨z,h1,h2⟩:=hP.le_last hw hx;obtain ⟨u,h3,h4⟩:=hQ.head_le hw hy;exact hw.trans x u y (hw.trans x z u h2 (h z h1 u h3)) h4
theorem zAm(hw:WO lt){P Q:List α}(hP:Srt lt P)(hQ:Srt lt Q)(h:∀x∈P.getLast?,∀y∈Q.head?,lt y x=false){x y:α}(hx:x∈P)(hy:y∈Q):lt y x=false :=
 (List.pairwise_append.1 (hP.join hw hQ h)).2.2 x hx y hy
theorem Srt.mid(hw:WO lt){P Q:List α}{x:α}(h:Srt lt (P++Q))(h1:∀p∈P.getLast?,lt x p=false)(h2:∀q∈Q.head?,lt q x=false):Srt lt (P++x::Q):=by have hQ:Srt lt (x::Q):=Srt.join hw (P:=[x]) (by simp[Srt]) h.right (λa ha b hb=>by grind);grind[join,left]
theorem zzz(hw:WO lt){U1 U2 V1 V2 S1 S2:List α}(hU:Srt lt (U1++U2))(hV:Srt lt (V1++V2))
  (hA:∀x∈U1.getLast?,∀y∈V2.head?,lt y x=false) (hB:∀y∈V1.getLast?,∀x∈U2.head?,lt x y=false)
  (h1:Srt lt S1) (p1:S1.Perm (U1++V1)) (h2:Srt lt S2) (p2:S2.Perm (U2++V2)):Srt lt (S1++S2)/\(S1++S2).Perm ((U1++U2)++(V1++V2)):=by
 refine ⟨List.pairwise_append.2 ⟨h1,h2,λx hx y hy=>?_⟩,?_⟩
 ·have hx':=yAp.1 (p1.mem_iff.1 hx);have hy':=yAp.1 (p2.mem_iff.1 hy);rcases hx' with hx' | hx'<;>rcases hy' with hy' | hy';·exact (List.pairwise_append.1 hU).2.2 x hx' y hy'
  ·exact zAm hw hU.left hV.right hA hx' hy'
  ·exact zAm hw hV.left hU.right hB hx' hy'
  ·exact (List.pairwise_append.1 hV).2.2 x hx' y hy'
 ·refine (p1.append p2).trans ?_;simp only[yA5];refine List.Perm.append_left U1 ?_;rw[<-yA5,<-yA5];exact List.Perm.append_right V2 List.perm_append_comm
theorem zzF{R:Type}{f:Int×Int×J->Option ((Int×Int×J)⊕R)}(out:Nat->R)(p:Nat->Bool)(lo hi:Nat)
  (Qd:∀i j:Nat,lo<=i->i<j->j<=hi->f ((i:Int),(j:Int),())=if p ((i+j) / 2)=true then some (.inl ((((i+j) / 2+1:Nat):Int),(j:Int),())) else some (.inl ((i:Int),(((i+j) / 2:Nat):Int),())))
  (hend:∀i:Nat,lo<=i->i<=hi->f ((i:Int),(i:Int),())=some (.inr (out i))) :
  ∀(n i j:Nat),j - i<=n->lo<=i->i<=j->j<=hi->(i=lo\/p (i - 1)=true)->(j=hi\/p j=false) ->
   ∃s,i<=s/\s<=j/\(s=lo\/p (s - 1)=true)/\(s=hi\/p s=false)/\zak f ((i:Int),(j:Int),())=some (out s)
 |n,i,j,hn,h1,h2,h3,h4,h5=>by
   by_cases hij:i=j;·subst hij;exact ⟨i,yAi _,yAi _,h4,h5,zaD (hend i h1 h3)⟩
   ·have Ks:i<j:=(by omega);cases n with
    |zero=>omega|succ n =>
      have hs:=Qd i j h1 Ks h3;have hm1:i<=(i+j) / 2:=(by omega);have hm2:(i+j) / 2<j:=(by omega);cases hp:p ((i+j) / 2) with
      |true =>rw[hp,if_pos rfl] at hs;obtain ⟨s,g1,g2,g3,g4,g5⟩:=zzF out p lo hi Qd hend n ((i+j) / 2+1) j (by omega) (by omega) (by omega) h3 (.inr (by grind)) h5;exact ⟨s,by omega,g2,g3,g4,by rw[zaR hs,g5]⟩
      |false =>rw[hp,if_neg (by simp)] at hs;obtain ⟨s,g1,g2,g3,g4,g5⟩:=zzF out p lo hi Qd hend n i ((i+j) / 2) (by omega) h1 hm1 (by omega) h4 (.inr hp);exact ⟨s,g1,by omega,g3,g4,by rw[zaR hs,g5]⟩
theorem zyO{R:Type}{f:Int×List α×J->Option ((Int×List α×J)⊕R)}(out:List α->R)(e:Nat)(x:α)
  (Qd:∀(X Y:List α)(y:α),X.length<e->f ((X.length:Int),X++x::(y::Y),())=some (.inl (((X.length+1:Nat):Int),X++y::(x::Y),())))
  (hend:∀l,f ((e:Int),l,())=some (.inr (out l))) :
  ∀(V X Y:List α),X.length+V.length=e->zak f ((X.length:Int),X++x::(V++Y),())=some (out (X++(V++x::Y)))
 |[],X,Y,h=>by simp_all[zaD]
 |y::V,X,Y,h=>by simp only[yAw] at h;have hs:=Qd X (V++Y) y (by omega);have ih:=zyO out e x Qd hend V (X++[y]) Y (by simp;omega);simp only[yAI,yAw,List.length_nil,yA5,yA3,yBb] at ih hs ⊢;grind[zaR]
theorem zy0{R:Type}{f:Int×List α×J->Option ((Int×List α×J)⊕R)}(out:List α->R)(e T:Nat)(x:α)
  (Qd:∀(X Y:List α)(y:α),e<=X.length->X.length+1<=T->f (((X.length+1:Nat):Int),X++y::(x::Y),())=some (.inl ((X.length:Int),X++x::(y::Y),())))
  (hend:∀l,f ((e:Int),l,())=some (.inr (out l))) :
  ∀(n:Nat)(U X Y:List α),U.length=n->X.length=e->X.length+U.length<=T->zak f (((X.length+U.length:Nat):Int),X++(U++x::Y),())=some (out (X++x::(U++Y)))
 |0,U,X,Y,hn,h,_=>by simp_all[zaD]
 |n+1,U,X,Y,hn,h,hT=>by
   rcases List.eq_nil_or_concat U with rfl|⟨U',y,rfl⟩;·simp at hn
   ·rw[List.concat_eq_append] at *
    have hs:=Qd (X++U') Y y (by simp;omega) (by grind);have ih:=zy0 out e T x Qd hend n U' X (y::Y) (by grind) h (by grind);simp_all[yBx,zaR]
end Pe
end
section
namespace Pe
open Go
variable{α:Type}{lt:α->α->Bool}
theorem zAK(hw:WO lt){X U V Y:List α}{a m b mid lo hi s:Nat}(ha:a=X.length)(hm:m=a+U.length)(hb:b=m+V.length)(Vi:mid=(a+b) / 2)
  (hlo:lo=if mid<m then mid+m - b else a) (hhi:hi=if mid<m then mid else m) (h1:lo<=s) (h2:s<=hi)
  (hP1:s≠lo->∀x y,(X++(U++(V++Y)))[s - 1]?=some x->(X++(U++(V++Y)))[mid+m - s]?=some y->lt y x=false)
  (hP2:s≠hi->∀x y,(X++(U++(V++Y)))[s]?=some x->(X++(U++(V++Y)))[mid+m - 1 - s]?=some y->lt y x=true) :
  ∃U1 U2 V1 V2:List α,U=U1++U2/\V=V1++V2/\a+U1.length=s/\m+V1.length=mid+m - s /\
   (∀x∈U1.getLast?,∀y∈V2.head?,lt y x=false)/\(∀y∈V1.getLast?,∀x∈U2.head?,lt x y=false):=by
 have atU:∀i x,U[i]?=some x->(X++(U++(V++Y)))[a+i]?=some x:=λi x h=>by have hi:i<U.length:=(yAc.1 h).1;rw[ha,yAF (by omega),yAP,yAk hi,h]
 have atV:∀i x,V[i]?=some x->(X++(U++(V++Y)))[m+i]?=some x:=λi x h=>by have hi:i<V.length:=(yAc.1 h).1;rw[hm,ha,yAF (by omega),yAF (by omega),show X.length+U.length+i - X.length - U.length=i by omega,yAk hi,h]
 have b1:a<=s:=by rw[hlo] at h1;split at h1<;>omega
 have b2:s<=m:=by rw[hhi] at h2;split at h2<;>omega
 have b3:m<=mid+m - s:=by rw[hhi] at h2;split at h2<;>omega
 have b4:mid+m - s<=b:=by rw[hlo] at h1;split at h1<;>omega
 have l1:(U.take (s - a)).length=s - a:=by simp;omega
 have l2:(V.take (mid+m - s - m)).length=mid+m - s - m:=by simp;omega
 refine ⟨U.take (s - a),U.drop (s - a),V.take (mid+m - s - m),V.drop (mid+m - s - m),(List.take_append_drop _ _).symm,(List.take_append_drop _ _).symm,by omega,by omega,λx hx y hy=>?_,λy hy x hx=>?_⟩
 ·rw[Option.mem_def,List.getLast?_eq_getElem?,l1] at hx;rw[Option.mem_def,List.head?_drop] at hy;have hx0:0<s - a:=by
   cases h0:s - a with
   |zero=>rw[h0] at hx;simp at hx|succ k=>omega
  rw[yAt (by omega)] at hx;have hy0:mid+m - s - m<V.length:=(yAc.1 hy).1;have hx1:=atU _ _ hx;have hy1:=atV _ _ hy;rw[show a+(s - a - 1)=s - 1 by omega] at hx1;rw[show m+(mid+m - s - m)=mid+m - s by omega] at hy1;exact hP1 (by rw[hlo];split<;>omega) x y hx1 hy1
 ·rw[Option.mem_def,List.getLast?_eq_getElem?,l2] at hy;rw[Option.mem_def,List.head?_drop] at hx;have hy0:0<mid+m - s - m:=by
   cases h0:mid+m - s - m with
   |zero=>rw[h0] at hy;simp at hy|succ k=>omega
  rw[yAt (by omega)] at hy;have hx0:s - a<U.length:=(yAc.1 hx).1;have hx1:=atU _ _ hx;have hy1:=atV _ _ hy;rw[show a+(s - a)=s by omega] at hx1;rw[show m+(mid+m - s - m - 1)=mid+m - 1 - s by omega] at hy1;exact hw.asym y x (hP2 (by rw[hhi];split<;>omega) x y hx1 hy1)
def BS(lt:α->α->Bool)(k:Nat)(l:List α):Prop:=∃Bs:List (List α),∃R:List α,l=Bs.flatten++R/\(∀B∈Bs,B.length=k/\Srt lt B)/\R.length<k/\Srt lt R
theorem BS.done{k:Nat}{l:List α}(h:BS lt k l)(hl:l.length<=k)(hk:0<k):Srt lt l:=by
 obtain ⟨Bs,R,rfl,h1,h2,h3⟩:=h;cases Bs with
 |nil=>grind|cons B Bs =>
   obtain ⟨e,h4⟩:=h1 B (by simp);cases Bs with
   |nil =>have:R=[]:=yAU.1 (by grind);grind
   |cons C Cs =>have:=(h1 C (by simp)).1;grind
end Pe
end
section
namespace Pe
open Go Go.RowKit Go.Sort
open Go.Proofs (encStr)
variable{S:Nat->Type}{P:Program}{un:Uni S}
theorem zrz{D:Dat}{w:World}{x:By}{cc:List Value}(h:DR (S:=S) un D w [.str] (sg (u:= .str) x) cc):cc=[encStr x]:=by
 cases h with
 |str h'=>cases h';rfl
theorem zzR{f:FuncId}{T:TypeId}{l:List By}(hl:l.length<=lim)
  (hcon:∀(blk off cap:Nat)(zs:List By)(w:World),Go.Sort.Holds encStr w blk off zs.toArray->blk<w.heap.size->zs.length<4611686018427387904 ->
   Calls P f #[.slice (some ⟨blk,off,none⟩) zs.length cap] w λe w'=>e= .returned (.tuple #[])/\∃n os,w'=grow (putRow encStr (Go.Sort.ahead w n) blk off (zs.mergeSort λx y=>decide (x<=y)).toArray) os)
  (Q1:∀(p:Option Addr)(cap:Nat)(w:World),Calls P f #[.slice p 0 cap] w λe w'=>e= .returned (.tuple #[])/\w'=w) :
  zyj P un f .str T [] l (l.mergeSort λx y=>decide (x<=y)):=by
 intro D w v xs vs _ hD K7 hfree hseg K8;have hvs:vs=[]:=by cases vs with
  |nil=>rfl|cons=>simp[Ke] at K8
 subst hvs;have hperm:=List.mergeSort_perm l λx y=>decide (x<=y);have hlen':(l.mergeSort λx y=>decide (x<=y)).length=l.length:=hperm.length_eq;have hcon:=λblk cap w h1 h2=>hcon blk 0 cap l w h1 h2 (by unfold lim at hl;omega);generalize l.mergeSort (λx y=>decide (x<=y))=l' at hperm hlen' hcon ⊢;have hnx:xs.length=l.length:=K7.1.trans (yBj _);have hxs:xs=l.map encStr:=by
  apply List.ext_getElem;·rw[hnx,yBi]
  ·intro i h1 h2;have hi:i<l.length:=by simpa using h2
   have h3:=zrz (hseg i l[i] (yAe hi));have h4:=congrArg (λc=>c[0]?) h3;simp only[U.size,yBj,yAt Nat.zero_lt_one,yAu,yBu,List.getElem?_cons_zero] at h4;rw[yAe h1] at h4;simpa using h4
 by_cases hn:l.length=0
 ·obtain rfl:l=[]:=yAU.1 hn;obtain rfl:l'=[]:=yAU.1 hlen';obtain ⟨Kq,hh⟩:=K7;obtain rfl:xs=[]:=by rw[hxs];rfl
  obtain ⟨p,cap,rfl⟩:∃p cap,v= .slice p 0 cap:=by
   rcases hh with ⟨rfl,_⟩|⟨gb,cap,cur,rfl,_⟩;·exact ⟨_,_,rfl⟩
   ·exact ⟨_,_,rfl⟩
  refine (Q1 p cap w).mono λe w' hz=>?_;obtain ⟨rfl,rfl⟩:=hz;exact ⟨rfl,Wl.Grow.refl _ _,[],rfl,⟨Kq,hh⟩,λi x hi=>by cases hi⟩
 have htk0:=K7;obtain ⟨Kq,⟨_,hn0⟩|⟨blk,cap,cur,rfl,_,hg,hnc,hcm,hcs,htk⟩⟩:=K7;·exact absurd hn0 hn
 have Qh:blk<w.heap.size:=(yAE.1 hg).1;have hH:Go.Sort.Holds encStr w blk 0 l.toArray:=by
  intro j hj;have hj':j<l.length:=by simpa using hj
  refine ⟨?_,by simp[World.frozen?,hg]⟩;have h1:(cur.toList.take l.length)[j]?=(l.map encStr)[j]? :=by rw[<-hxs];exact congrArg (λz:List Value=>z[j]?) ((congrArg (λm=>cur.toList.take m) (yBj _).symm).trans htk)
  rw[yAt hj'] at h1;simp only[World.cell?,hg,yAJ];simp only[Option.isSome_none,yBW,if_false];rw[<-Array.getElem?_toList,h1];simp[hj']
 refine (hcon blk cap w hH Qh).mono λe w' hz=>?_;obtain ⟨rfl,n,os,rfl⟩:=hz;have hnew:(grow (putRow encStr (Go.Sort.ahead w n) blk 0 l'.toArray) os).heap[blk]?=some (.cells (putCells encStr 0 l'.toArray cur) T (0,0)):=by rw[heap_grow_old _ _ (by simpa using Qh)];simp[putRow,mapBlock,Go.Sort.ahead,yB1,hg,onCells]
 have hoth:∀k,k<w.heap.size->k≠blk->(grow (putRow encStr (Go.Sort.ahead w n) blk 0 l'.toArray) os).heap[k]?=w.heap[k]? :=λk hk hne=>by rw[heap_grow_old _ _ (by simpa using hk)];simp[putRow,mapBlock,Go.Sort.ahead,yB1,Ne.symm hne]
 have htk2:(putCells encStr 0 l'.toArray cur).toList.take l'.length=l'.map encStr:=by
  have hc:l'.length<=cur.size:=by rw[hcs,hlen'];exact yAo hnc (Nat.le_of_eq (yBj _).symm)
  apply yAW;intro j;by_cases hj:j<l'.length;·rw[yAt hj,Array.getElem?_toList];simp[putCells,hj,show j<cur.size by omega]
  ·rw[List.getElem?_take_eq_none (by omega),yAZ (by simp;omega)]
 refine ⟨rfl,⟨rfl,rfl,rfl,by simp,λi hi hne=>hoth i hi λhe=>hne (by subst he;simp[Value.ownBlock])⟩,l'.map encStr,hlen',⟨by rw[yBi];exact (yBj _).symm,.inr ⟨blk,cap,_,congrArg (λm=>Value.slice (some ⟨blk,0,none⟩) m cap) hlen'.symm,yAA _,hnew,yAo (Nat.le_of_eq hlen') hnc,hcm,by simp[putCells,hcs],(congrArg (λm=>(putCells encStr 0 l'.toArray cur).toList.take m) (yBj _)).trans htk2⟩⟩,λi x hi=>?_⟩;have hi2:i<l'.length:=(yAc.1 hi).1;have hc:((l'.map encStr).drop (i*U.size un .str)).take (U.size un .str)=[encStr x]:=by rw[show i*U.size un .str=i from yBj _,show U.size un .str=1 from rfl,yAV (by simpa using hi2)];have:l'[i]=x:=yAS ((yAe hi2).symm.trans hi);simp[this]
 rw[hc];exact .str .nil
end Pe
end
